/-
  Decode and Encode: walks over the program's own operations, written by a program of this repository (wip/tools/gen.py) out of a plan.
-/
import Derived.Test.YtnjglbmaonbcbaaDoorFnd
import Derived.KernelRfl
set_option linter.unusedVariables false
set_option linter.unusedSimpArgs false
namespace Go.Proofs.YtnjglbmaonbcbaaDoor
open Go Go.RowKit Go.Ph

open Go.Ph.Gr Go.Ph.Utf Go.Ph.Chs
theorem decode_big (name : List UInt8) (v : Value) (l : List UInt8) (hn : name.length ≤ maxLen) (hs : 12000 < l.length) : Ct Tryd.prog 22 [S name, v] (fun M => Bs M v l) (fun r _ => r = .tuple #[S [], fault 1 (-1)]) := by
  refine Ct.of Tryd.func22 (enters Tryd.func22 (by kernel_rfl) rfl) rfl rfl rfl ?_
  intro w0 M0 H hp
  refine WC.seq ?_
  refine WC.region ?_
  refine WR.step (Ex.assign rfl) (Wn.none rfl) rfl rfl ?_
  refine WR.alloc [_, _] H Tryd.zeroValue28 rfl (Wn.none rfl) rfl ?_
  intro b5 w H
  refine WR.nil ?_
  refine WQ.then ?_
  refine WC.seq ?_
  refine WC.seq ?_
  refine WC.region ?_
  refine WR.step (Ex.move rfl) (Wn.none rfl) rfl rfl ?_
  first | refine WR.step (Ex.lenSl Tryd.underlying34 (by assumption) rfl) (Wn.none rfl) rfl rfl ?_ | refine WR.step (Ex.lenRow Tryd.underlying34 H (by repeat (first | exact List.Mem.head _ | apply List.Mem.tail)) rfl) (Wn.none rfl) rfl rfl ?_ | refine WR.step (Ex.lenSlice Tryd.underlying34 rfl) (Wn.none rfl) rfl rfl ?_
  refine WR.stepT (Ex.gtr rfl rfl) (by omega) (Wn.none rfl) rfl rfl ?_
  refine WR.nil ?_
  refine WQ.then ?_
  refine WC.condT rfl ?_
  refine WC.seq ?_
  refine WC.region ?_
  refine WR.call H (fault_spec _ _) rfl (trivial) (Wn.none rfl) rfl ?_
  intro v11 M w H hle hr11
  replace hp := hp.mono hle
  obtain rfl := hr11
  refine WR.step (Ex.assign rfl) (Wn.none rfl) rfl rfl ?_
  refine WR.store [_, _] H rfl rfl rfl (by repeat (first | exact Upd.head | apply Upd.tail)) Tryd.sizeOf28 rfl (by rfl) (by rfl) (Wn.none rfl) ?_
  intro w H
  refine WR.nil ?_
  refine WQ.then ?_
  refine WC.ret ?_
  (repeat (first | refine WQ.thenRet ?_ | refine WQ.inBlockRet ?_))
  refine WQ.ret2 rfl rfl ⟨_, rfl, H.loadAgg (by repeat (first | exact List.Mem.head _ | apply List.Mem.tail)) Tryd.isAgg28 Tryd.sizeOf28 (by rfl)⟩ H.ext ?_
  exact rfl

theorem decode_unk (name : List UInt8) (v : Value) (l : List UInt8) (hn : name.length ≤ maxLen) (hs : l.length ≤ 12000) (hk : setOf name = none) : Ct Tryd.prog 22 [S name, v] (fun M => Bs M v l) (fun r _ => r = .tuple #[S [], fault 18 (-2)]) := by
  refine Ct.of Tryd.func22 (enters Tryd.func22 (by kernel_rfl) rfl) rfl rfl rfl ?_
  intro w0 M0 H hp
  refine WC.seq ?_
  refine WC.region ?_
  refine WR.step (Ex.assign rfl) (Wn.none rfl) rfl rfl ?_
  refine WR.alloc [_, _] H Tryd.zeroValue28 rfl (Wn.none rfl) rfl ?_
  intro b5 w H
  refine WR.nil ?_
  refine WQ.then ?_
  refine WC.seq ?_
  refine WC.seq ?_
  refine WC.region ?_
  refine WR.step (Ex.move rfl) (Wn.none rfl) rfl rfl ?_
  first | refine WR.step (Ex.lenSl Tryd.underlying34 (by assumption) rfl) (Wn.none rfl) rfl rfl ?_ | refine WR.step (Ex.lenRow Tryd.underlying34 H (by repeat (first | exact List.Mem.head _ | apply List.Mem.tail)) rfl) (Wn.none rfl) rfl rfl ?_ | refine WR.step (Ex.lenSlice Tryd.underlying34 rfl) (Wn.none rfl) rfl rfl ?_
  refine WR.stepF (Ex.gtr rfl rfl) (by omega) (Wn.none rfl) rfl rfl ?_
  refine WR.nil ?_
  refine WQ.then ?_
  refine WC.condF rfl ?_
  refine WC.skip ?_
  refine WQ.then ?_
  refine WC.seq ?_
  refine WC.region ?_
  refine WR.step (Ex.move rfl) (Wn.none rfl) rfl rfl ?_
  refine WR.call H (Ct.mono (find_spec name hn) (R' := fun r M => ∃ b0 b1, CellM M ⟨b0, 0, none⟩ (encR 128) ∧ CellM M ⟨b1, 0, none⟩ (encR 256) ∧ r = .tuple #[.agg #[S [], .nilFunc, .nilFunc], .bool false]) (fun _ _ ⟨b0, b1, h0, h1, h⟩ => ⟨b0, b1, h0, h1, by rw [hk] at h; exact h⟩)) rfl (trivial) (Wn.none rfl) rfl ?_
  intro v14 M w H hle hr14
  replace hp := hp.mono hle
  obtain ⟨b0, b1, hc0, hc1, rfl⟩ := hr14
  refine WR.step (Ex.move rfl) (Wn.none rfl) rfl rfl ?_
  refine WR.step (Ex.extract rfl rfl) (Wn.none rfl) rfl rfl ?_
  refine WR.step (Ex.extract rfl rfl) (Wn.none rfl) rfl rfl ?_
  refine WR.alloc [_, _, _] H Tryd.zeroValue61 rfl (Wn.none rfl) rfl ?_
  intro b6 w H
  refine WR.store [_, _, _] H rfl rfl rfl (by repeat (first | exact Upd.head | apply Upd.tail)) Tryd.sizeOf61 rfl (by rfl) (by rfl) (Wn.none rfl) ?_
  intro w H
  refine WR.step (Ex.assign rfl) (Wn.none rfl) rfl rfl ?_
  refine WR.nil ?_
  refine WQ.then ?_
  refine WC.seq ?_
  refine WC.seq ?_
  refine WC.region ?_
  refine WR.step (Ex.move rfl) (Wn.none rfl) rfl rfl ?_
  refine WR.step (Ex.notF rfl) (Wn.none rfl) rfl rfl ?_
  refine WR.nil ?_
  refine WQ.then ?_
  refine WC.condT rfl ?_
  refine WC.seq ?_
  refine WC.region ?_
  refine WR.call H (fault_spec _ _) rfl (trivial) (Wn.none rfl) rfl ?_
  intro v19 M w H hle hr19
  replace hp := hp.mono hle
  replace hc0 := hc0.mono hle
  replace hc1 := hc1.mono hle
  obtain rfl := hr19
  refine WR.step (Ex.assign rfl) (Wn.none rfl) rfl rfl ?_
  refine WR.store [_, _] H rfl rfl rfl (by repeat (first | exact Upd.head | apply Upd.tail)) Tryd.sizeOf28 rfl (by rfl) (by rfl) (Wn.none rfl) ?_
  intro w H
  refine WR.nil ?_
  refine WQ.then ?_
  refine WC.ret ?_
  (repeat (first | refine WQ.thenRet ?_ | refine WQ.inBlockRet ?_))
  refine WQ.ret2 rfl rfl ⟨_, rfl, H.loadAgg (by repeat (first | exact List.Mem.head _ | apply List.Mem.tail)) Tryd.isAgg28 Tryd.sizeOf28 (by rfl)⟩ H.ext ?_
  exact rfl

theorem decode_0 (name : List UInt8) (v : Value) (l : List UInt8) (hn : name.length ≤ maxLen) (hs : l.length ≤ 12000) (hk : setOf name = some 0) : Ct Tryd.prog 22 [S name, v] (fun M => Bs M v l) (fun r _ => r = .tuple #[S (decoded 0 l), fault 0 0]) := by
  refine Ct.of Tryd.func22 (enters Tryd.func22 (by kernel_rfl) rfl) rfl rfl rfl ?_
  intro w0 M0 H hp
  refine WC.seq ?_
  refine WC.region ?_
  refine WR.step (Ex.assign rfl) (Wn.none rfl) rfl rfl ?_
  refine WR.alloc [_, _] H Tryd.zeroValue28 rfl (Wn.none rfl) rfl ?_
  intro b5 w H
  refine WR.nil ?_
  refine WQ.then ?_
  refine WC.seq ?_
  refine WC.seq ?_
  refine WC.region ?_
  refine WR.step (Ex.move rfl) (Wn.none rfl) rfl rfl ?_
  first | refine WR.step (Ex.lenSl Tryd.underlying34 (by assumption) rfl) (Wn.none rfl) rfl rfl ?_ | refine WR.step (Ex.lenRow Tryd.underlying34 H (by repeat (first | exact List.Mem.head _ | apply List.Mem.tail)) rfl) (Wn.none rfl) rfl rfl ?_ | refine WR.step (Ex.lenSlice Tryd.underlying34 rfl) (Wn.none rfl) rfl rfl ?_
  refine WR.stepF (Ex.gtr rfl rfl) (by omega) (Wn.none rfl) rfl rfl ?_
  refine WR.nil ?_
  refine WQ.then ?_
  refine WC.condF rfl ?_
  refine WC.skip ?_
  refine WQ.then ?_
  refine WC.seq ?_
  refine WC.region ?_
  refine WR.step (Ex.move rfl) (Wn.none rfl) rfl rfl ?_
  refine WR.call H (Ct.mono (find_spec name hn) (R' := fun r M => ∃ b0 b1, CellM M ⟨b0, 0, none⟩ (encR 128) ∧ CellM M ⟨b1, 0, none⟩ (encR 256) ∧ r = .tuple #[.agg #[S [97, 115, 99, 105, 105], .func (.func 62) #[] #[ptr b0 0], .func (.func 63) #[] #[ptr b0 0]], .bool true]) (fun _ _ ⟨b0, b1, h0, h1, h⟩ => ⟨b0, b1, h0, h1, by rw [hk] at h; exact h⟩)) rfl (trivial) (Wn.none rfl) rfl ?_
  intro v14 M w H hle hr14
  replace hp := hp.mono hle
  obtain ⟨b0, b1, hc0, hc1, rfl⟩ := hr14
  refine WR.step (Ex.move rfl) (Wn.none rfl) rfl rfl ?_
  refine WR.step (Ex.extract rfl rfl) (Wn.none rfl) rfl rfl ?_
  refine WR.step (Ex.extract rfl rfl) (Wn.none rfl) rfl rfl ?_
  refine WR.alloc [_, _, _] H Tryd.zeroValue61 rfl (Wn.none rfl) rfl ?_
  intro b6 w H
  refine WR.store [_, _, _] H rfl rfl rfl (by repeat (first | exact Upd.head | apply Upd.tail)) Tryd.sizeOf61 rfl (by rfl) (by rfl) (Wn.none rfl) ?_
  intro w H
  refine WR.step (Ex.assign rfl) (Wn.none rfl) rfl rfl ?_
  refine WR.nil ?_
  refine WQ.then ?_
  refine WC.seq ?_
  refine WC.seq ?_
  refine WC.region ?_
  refine WR.step (Ex.move rfl) (Wn.none rfl) rfl rfl ?_
  refine WR.step (Ex.notT rfl) (Wn.none rfl) rfl rfl ?_
  refine WR.nil ?_
  refine WQ.then ?_
  refine WC.condF rfl ?_
  refine WC.skip ?_
  refine WQ.then ?_
  refine WC.seq ?_
  refine WC.draw (m := 8) rfl rfl H ?_
  intro w H
  refine WA.take (i := 0) rfl (by kernel_rfl) (by kernel_rfl) (by kernel_rfl) (fun _ => Ex.fieldAddr Tryd.underlying61 rfl Tryd.sizeOf58 (by decide) rfl) (Wn.none rfl) rfl rfl (fun _ _ => rfl) ?_
  refine WA.take (i := 2) rfl (by kernel_rfl) (by kernel_rfl) (by kernel_rfl) (fun _ => Ex.move rfl) (Wn.none rfl) rfl rfl (fun _ _ => rfl) ?_
  refine WA.one (i := 1) (by kernel_rfl) rfl ?_
  first | refine WR.step (Ex.loadM H rfl (by assumption) Tryd.isAgg58) (Wn.none rfl) rfl rfl ?_ | refine WR.step (Ex.load1 H rfl (by repeat (first | exact List.Mem.head _ | apply List.Mem.tail)) Tryd.isAgg58 (by rfl)) (Wn.none rfl) rfl rfl ?_
  refine WR.nil (WQ.any ?_)
  refine WA.one (i := 3) (by kernel_rfl) rfl ?_
  refine WR.callV (cap := [ptr b0 0]) H (dec1_spec _ l b0 128 (by omega)) rfl rfl (⟨by assumption, by assumption⟩) (Wn.none rfl) rfl ?_
  intro v23 M w H hle hr23
  replace hp := hp.mono hle
  replace hc0 := hc0.mono hle
  replace hc1 := hc1.mono hle
  have hf23 := hr23
  refine WR.nil (WQ.any ?_)
  refine WA.two (i := 4) (j := 5) (by kernel_rfl) rfl rfl ?_ ?_
  ·
    refine WR.step (Ex.runesStr Tryd.underlying64 Tryd.underlying21 Tryd.underlying9 H (by assumption) rfl) (Wn.none rfl) rfl rfl ?_
    refine WR.nil (WQ.any ?_)
    refine WA.one (i := 5) (by kernel_rfl) rfl ?_
    refine WR.call H (none_spec) rfl (trivial) (Wn.none rfl) rfl ?_
    intro v25 M w H hle hr25
    replace hp := hp.mono hle
    replace hc0 := hc0.mono hle
    replace hc1 := hc1.mono hle
    replace hf23 := hf23.mono hle
    obtain rfl := hr25
    refine WR.nil (WQ.any ?_)
    refine WA.one (i := 6) (by kernel_rfl) rfl ?_
    refine WR.step (Ex.assign rfl) (Wn.none rfl) rfl rfl ?_
    refine WR.nil (WQ.any ?_)
    refine WA.one (i := 7) (by kernel_rfl) rfl ?_
    refine WR.store [_, _] H rfl rfl rfl (by repeat (first | exact Upd.head | apply Upd.tail)) Tryd.sizeOf28 rfl (by rfl) (by rfl) (Wn.none rfl) ?_
    intro w H
    refine WR.nil (WQ.any ?_)
    refine WA.done (by kernel_rfl) ?_
    refine WQ.then ?_
    refine WC.ret ?_
    (repeat (first | refine WQ.thenRet ?_ | refine WQ.inBlockRet ?_))
    refine WQ.ret2 rfl rfl ⟨_, rfl, H.loadAgg (by repeat (first | exact List.Mem.head _ | apply List.Mem.tail)) Tryd.isAgg28 Tryd.sizeOf28 (by rfl)⟩ H.ext ?_
    exact rfl
  ·
    refine WR.call H (none_spec) rfl (trivial) (Wn.none rfl) rfl ?_
    intro v25 M w H hle hr25
    replace hp := hp.mono hle
    replace hc0 := hc0.mono hle
    replace hc1 := hc1.mono hle
    replace hf23 := hf23.mono hle
    obtain rfl := hr25
    refine WR.nil (WQ.any ?_)
    refine WA.one (i := 4) (by kernel_rfl) rfl ?_
    refine WR.step (Ex.runesStr Tryd.underlying64 Tryd.underlying21 Tryd.underlying9 H (by assumption) rfl) (Wn.none rfl) rfl rfl ?_
    refine WR.nil (WQ.any ?_)
    refine WA.one (i := 6) (by kernel_rfl) rfl ?_
    refine WR.step (Ex.assign rfl) (Wn.none rfl) rfl rfl ?_
    refine WR.nil (WQ.any ?_)
    refine WA.one (i := 7) (by kernel_rfl) rfl ?_
    refine WR.store [_, _] H rfl rfl rfl (by repeat (first | exact Upd.head | apply Upd.tail)) Tryd.sizeOf28 rfl (by rfl) (by rfl) (Wn.none rfl) ?_
    intro w H
    refine WR.nil (WQ.any ?_)
    refine WA.done (by kernel_rfl) ?_
    refine WQ.then ?_
    refine WC.ret ?_
    (repeat (first | refine WQ.thenRet ?_ | refine WQ.inBlockRet ?_))
    refine WQ.ret2 rfl rfl ⟨_, rfl, H.loadAgg (by repeat (first | exact List.Mem.head _ | apply List.Mem.tail)) Tryd.isAgg28 Tryd.sizeOf28 (by rfl)⟩ H.ext ?_
    exact rfl

theorem decode_1 (name : List UInt8) (v : Value) (l : List UInt8) (hn : name.length ≤ maxLen) (hs : l.length ≤ 12000) (hk : setOf name = some 1) : Ct Tryd.prog 22 [S name, v] (fun M => Bs M v l) (fun r _ => r = .tuple #[S (decoded 1 l), fault 0 0]) := by
  refine Ct.of Tryd.func22 (enters Tryd.func22 (by kernel_rfl) rfl) rfl rfl rfl ?_
  intro w0 M0 H hp
  refine WC.seq ?_
  refine WC.region ?_
  refine WR.step (Ex.assign rfl) (Wn.none rfl) rfl rfl ?_
  refine WR.alloc [_, _] H Tryd.zeroValue28 rfl (Wn.none rfl) rfl ?_
  intro b5 w H
  refine WR.nil ?_
  refine WQ.then ?_
  refine WC.seq ?_
  refine WC.seq ?_
  refine WC.region ?_
  refine WR.step (Ex.move rfl) (Wn.none rfl) rfl rfl ?_
  first | refine WR.step (Ex.lenSl Tryd.underlying34 (by assumption) rfl) (Wn.none rfl) rfl rfl ?_ | refine WR.step (Ex.lenRow Tryd.underlying34 H (by repeat (first | exact List.Mem.head _ | apply List.Mem.tail)) rfl) (Wn.none rfl) rfl rfl ?_ | refine WR.step (Ex.lenSlice Tryd.underlying34 rfl) (Wn.none rfl) rfl rfl ?_
  refine WR.stepF (Ex.gtr rfl rfl) (by omega) (Wn.none rfl) rfl rfl ?_
  refine WR.nil ?_
  refine WQ.then ?_
  refine WC.condF rfl ?_
  refine WC.skip ?_
  refine WQ.then ?_
  refine WC.seq ?_
  refine WC.region ?_
  refine WR.step (Ex.move rfl) (Wn.none rfl) rfl rfl ?_
  refine WR.call H (Ct.mono (find_spec name hn) (R' := fun r M => ∃ b0 b1, CellM M ⟨b0, 0, none⟩ (encR 128) ∧ CellM M ⟨b1, 0, none⟩ (encR 256) ∧ r = .tuple #[.agg #[S [108, 97, 116, 105, 110, 49], .func (.func 62) #[] #[ptr b1 0], .func (.func 63) #[] #[ptr b1 0]], .bool true]) (fun _ _ ⟨b0, b1, h0, h1, h⟩ => ⟨b0, b1, h0, h1, by rw [hk] at h; exact h⟩)) rfl (trivial) (Wn.none rfl) rfl ?_
  intro v14 M w H hle hr14
  replace hp := hp.mono hle
  obtain ⟨b0, b1, hc0, hc1, rfl⟩ := hr14
  refine WR.step (Ex.move rfl) (Wn.none rfl) rfl rfl ?_
  refine WR.step (Ex.extract rfl rfl) (Wn.none rfl) rfl rfl ?_
  refine WR.step (Ex.extract rfl rfl) (Wn.none rfl) rfl rfl ?_
  refine WR.alloc [_, _, _] H Tryd.zeroValue61 rfl (Wn.none rfl) rfl ?_
  intro b6 w H
  refine WR.store [_, _, _] H rfl rfl rfl (by repeat (first | exact Upd.head | apply Upd.tail)) Tryd.sizeOf61 rfl (by rfl) (by rfl) (Wn.none rfl) ?_
  intro w H
  refine WR.step (Ex.assign rfl) (Wn.none rfl) rfl rfl ?_
  refine WR.nil ?_
  refine WQ.then ?_
  refine WC.seq ?_
  refine WC.seq ?_
  refine WC.region ?_
  refine WR.step (Ex.move rfl) (Wn.none rfl) rfl rfl ?_
  refine WR.step (Ex.notT rfl) (Wn.none rfl) rfl rfl ?_
  refine WR.nil ?_
  refine WQ.then ?_
  refine WC.condF rfl ?_
  refine WC.skip ?_
  refine WQ.then ?_
  refine WC.seq ?_
  refine WC.draw (m := 8) rfl rfl H ?_
  intro w H
  refine WA.take (i := 0) rfl (by kernel_rfl) (by kernel_rfl) (by kernel_rfl) (fun _ => Ex.fieldAddr Tryd.underlying61 rfl Tryd.sizeOf58 (by decide) rfl) (Wn.none rfl) rfl rfl (fun _ _ => rfl) ?_
  refine WA.take (i := 2) rfl (by kernel_rfl) (by kernel_rfl) (by kernel_rfl) (fun _ => Ex.move rfl) (Wn.none rfl) rfl rfl (fun _ _ => rfl) ?_
  refine WA.one (i := 1) (by kernel_rfl) rfl ?_
  first | refine WR.step (Ex.loadM H rfl (by assumption) Tryd.isAgg58) (Wn.none rfl) rfl rfl ?_ | refine WR.step (Ex.load1 H rfl (by repeat (first | exact List.Mem.head _ | apply List.Mem.tail)) Tryd.isAgg58 (by rfl)) (Wn.none rfl) rfl rfl ?_
  refine WR.nil (WQ.any ?_)
  refine WA.one (i := 3) (by kernel_rfl) rfl ?_
  refine WR.callV (cap := [ptr b1 0]) H (dec1_spec _ l b1 256 (by omega)) rfl rfl (⟨by assumption, by assumption⟩) (Wn.none rfl) rfl ?_
  intro v23 M w H hle hr23
  replace hp := hp.mono hle
  replace hc0 := hc0.mono hle
  replace hc1 := hc1.mono hle
  have hf23 := hr23
  refine WR.nil (WQ.any ?_)
  refine WA.two (i := 4) (j := 5) (by kernel_rfl) rfl rfl ?_ ?_
  ·
    refine WR.step (Ex.runesStr Tryd.underlying64 Tryd.underlying21 Tryd.underlying9 H (by assumption) rfl) (Wn.none rfl) rfl rfl ?_
    refine WR.nil (WQ.any ?_)
    refine WA.one (i := 5) (by kernel_rfl) rfl ?_
    refine WR.call H (none_spec) rfl (trivial) (Wn.none rfl) rfl ?_
    intro v25 M w H hle hr25
    replace hp := hp.mono hle
    replace hc0 := hc0.mono hle
    replace hc1 := hc1.mono hle
    replace hf23 := hf23.mono hle
    obtain rfl := hr25
    refine WR.nil (WQ.any ?_)
    refine WA.one (i := 6) (by kernel_rfl) rfl ?_
    refine WR.step (Ex.assign rfl) (Wn.none rfl) rfl rfl ?_
    refine WR.nil (WQ.any ?_)
    refine WA.one (i := 7) (by kernel_rfl) rfl ?_
    refine WR.store [_, _] H rfl rfl rfl (by repeat (first | exact Upd.head | apply Upd.tail)) Tryd.sizeOf28 rfl (by rfl) (by rfl) (Wn.none rfl) ?_
    intro w H
    refine WR.nil (WQ.any ?_)
    refine WA.done (by kernel_rfl) ?_
    refine WQ.then ?_
    refine WC.ret ?_
    (repeat (first | refine WQ.thenRet ?_ | refine WQ.inBlockRet ?_))
    refine WQ.ret2 rfl rfl ⟨_, rfl, H.loadAgg (by repeat (first | exact List.Mem.head _ | apply List.Mem.tail)) Tryd.isAgg28 Tryd.sizeOf28 (by rfl)⟩ H.ext ?_
    exact rfl
  ·
    refine WR.call H (none_spec) rfl (trivial) (Wn.none rfl) rfl ?_
    intro v25 M w H hle hr25
    replace hp := hp.mono hle
    replace hc0 := hc0.mono hle
    replace hc1 := hc1.mono hle
    replace hf23 := hf23.mono hle
    obtain rfl := hr25
    refine WR.nil (WQ.any ?_)
    refine WA.one (i := 4) (by kernel_rfl) rfl ?_
    refine WR.step (Ex.runesStr Tryd.underlying64 Tryd.underlying21 Tryd.underlying9 H (by assumption) rfl) (Wn.none rfl) rfl rfl ?_
    refine WR.nil (WQ.any ?_)
    refine WA.one (i := 6) (by kernel_rfl) rfl ?_
    refine WR.step (Ex.assign rfl) (Wn.none rfl) rfl rfl ?_
    refine WR.nil (WQ.any ?_)
    refine WA.one (i := 7) (by kernel_rfl) rfl ?_
    refine WR.store [_, _] H rfl rfl rfl (by repeat (first | exact Upd.head | apply Upd.tail)) Tryd.sizeOf28 rfl (by rfl) (by rfl) (Wn.none rfl) ?_
    intro w H
    refine WR.nil (WQ.any ?_)
    refine WA.done (by kernel_rfl) ?_
    refine WQ.then ?_
    refine WC.ret ?_
    (repeat (first | refine WQ.thenRet ?_ | refine WQ.inBlockRet ?_))
    refine WQ.ret2 rfl rfl ⟨_, rfl, H.loadAgg (by repeat (first | exact List.Mem.head _ | apply List.Mem.tail)) Tryd.isAgg28 Tryd.sizeOf28 (by rfl)⟩ H.ext ?_
    exact rfl

theorem decode_2 (name : List UInt8) (v : Value) (l : List UInt8) (hn : name.length ≤ maxLen) (hs : l.length ≤ 12000) (hk : setOf name = some 2) : Ct Tryd.prog 22 [S name, v] (fun M => Bs M v l) (fun r _ => r = .tuple #[S (decoded 2 l), fault 0 0]) := by
  refine Ct.of Tryd.func22 (enters Tryd.func22 (by kernel_rfl) rfl) rfl rfl rfl ?_
  intro w0 M0 H hp
  refine WC.seq ?_
  refine WC.region ?_
  refine WR.step (Ex.assign rfl) (Wn.none rfl) rfl rfl ?_
  refine WR.alloc [_, _] H Tryd.zeroValue28 rfl (Wn.none rfl) rfl ?_
  intro b5 w H
  refine WR.nil ?_
  refine WQ.then ?_
  refine WC.seq ?_
  refine WC.seq ?_
  refine WC.region ?_
  refine WR.step (Ex.move rfl) (Wn.none rfl) rfl rfl ?_
  first | refine WR.step (Ex.lenSl Tryd.underlying34 (by assumption) rfl) (Wn.none rfl) rfl rfl ?_ | refine WR.step (Ex.lenRow Tryd.underlying34 H (by repeat (first | exact List.Mem.head _ | apply List.Mem.tail)) rfl) (Wn.none rfl) rfl rfl ?_ | refine WR.step (Ex.lenSlice Tryd.underlying34 rfl) (Wn.none rfl) rfl rfl ?_
  refine WR.stepF (Ex.gtr rfl rfl) (by omega) (Wn.none rfl) rfl rfl ?_
  refine WR.nil ?_
  refine WQ.then ?_
  refine WC.condF rfl ?_
  refine WC.skip ?_
  refine WQ.then ?_
  refine WC.seq ?_
  refine WC.region ?_
  refine WR.step (Ex.move rfl) (Wn.none rfl) rfl rfl ?_
  refine WR.call H (Ct.mono (find_spec name hn) (R' := fun r M => ∃ b0 b1, CellM M ⟨b0, 0, none⟩ (encR 128) ∧ CellM M ⟨b1, 0, none⟩ (encR 256) ∧ r = .tuple #[.agg #[S [117, 116, 102, 56], .func (.func 50) #[] #[], .func (.func 51) #[] #[]], .bool true]) (fun _ _ ⟨b0, b1, h0, h1, h⟩ => ⟨b0, b1, h0, h1, by rw [hk] at h; exact h⟩)) rfl (trivial) (Wn.none rfl) rfl ?_
  intro v14 M w H hle hr14
  replace hp := hp.mono hle
  obtain ⟨b0, b1, hc0, hc1, rfl⟩ := hr14
  refine WR.step (Ex.move rfl) (Wn.none rfl) rfl rfl ?_
  refine WR.step (Ex.extract rfl rfl) (Wn.none rfl) rfl rfl ?_
  refine WR.step (Ex.extract rfl rfl) (Wn.none rfl) rfl rfl ?_
  refine WR.alloc [_, _, _] H Tryd.zeroValue61 rfl (Wn.none rfl) rfl ?_
  intro b6 w H
  refine WR.store [_, _, _] H rfl rfl rfl (by repeat (first | exact Upd.head | apply Upd.tail)) Tryd.sizeOf61 rfl (by rfl) (by rfl) (Wn.none rfl) ?_
  intro w H
  refine WR.step (Ex.assign rfl) (Wn.none rfl) rfl rfl ?_
  refine WR.nil ?_
  refine WQ.then ?_
  refine WC.seq ?_
  refine WC.seq ?_
  refine WC.region ?_
  refine WR.step (Ex.move rfl) (Wn.none rfl) rfl rfl ?_
  refine WR.step (Ex.notT rfl) (Wn.none rfl) rfl rfl ?_
  refine WR.nil ?_
  refine WQ.then ?_
  refine WC.condF rfl ?_
  refine WC.skip ?_
  refine WQ.then ?_
  refine WC.seq ?_
  refine WC.draw (m := 8) rfl rfl H ?_
  intro w H
  refine WA.take (i := 0) rfl (by kernel_rfl) (by kernel_rfl) (by kernel_rfl) (fun _ => Ex.fieldAddr Tryd.underlying61 rfl Tryd.sizeOf58 (by decide) rfl) (Wn.none rfl) rfl rfl (fun _ _ => rfl) ?_
  refine WA.take (i := 2) rfl (by kernel_rfl) (by kernel_rfl) (by kernel_rfl) (fun _ => Ex.move rfl) (Wn.none rfl) rfl rfl (fun _ _ => rfl) ?_
  refine WA.one (i := 1) (by kernel_rfl) rfl ?_
  first | refine WR.step (Ex.loadM H rfl (by assumption) Tryd.isAgg58) (Wn.none rfl) rfl rfl ?_ | refine WR.step (Ex.load1 H rfl (by repeat (first | exact List.Mem.head _ | apply List.Mem.tail)) Tryd.isAgg58 (by rfl)) (Wn.none rfl) rfl rfl ?_
  refine WR.nil (WQ.any ?_)
  refine WA.one (i := 3) (by kernel_rfl) rfl ?_
  refine WR.callV (cap := []) H (decU_spec _ l (by omega)) rfl rfl (by assumption) (Wn.none rfl) rfl ?_
  intro v23 M w H hle hr23
  replace hp := hp.mono hle
  replace hc0 := hc0.mono hle
  replace hc1 := hc1.mono hle
  have hf23 := hr23
  refine WR.nil (WQ.any ?_)
  refine WA.two (i := 4) (j := 5) (by kernel_rfl) rfl rfl ?_ ?_
  ·
    refine WR.step (Ex.runesStr Tryd.underlying64 Tryd.underlying21 Tryd.underlying9 H (by assumption) rfl) (Wn.none rfl) rfl rfl ?_
    refine WR.nil (WQ.any ?_)
    refine WA.one (i := 5) (by kernel_rfl) rfl ?_
    refine WR.call H (none_spec) rfl (trivial) (Wn.none rfl) rfl ?_
    intro v25 M w H hle hr25
    replace hp := hp.mono hle
    replace hc0 := hc0.mono hle
    replace hc1 := hc1.mono hle
    replace hf23 := hf23.mono hle
    obtain rfl := hr25
    refine WR.nil (WQ.any ?_)
    refine WA.one (i := 6) (by kernel_rfl) rfl ?_
    refine WR.step (Ex.assign rfl) (Wn.none rfl) rfl rfl ?_
    refine WR.nil (WQ.any ?_)
    refine WA.one (i := 7) (by kernel_rfl) rfl ?_
    refine WR.store [_, _] H rfl rfl rfl (by repeat (first | exact Upd.head | apply Upd.tail)) Tryd.sizeOf28 rfl (by rfl) (by rfl) (Wn.none rfl) ?_
    intro w H
    refine WR.nil (WQ.any ?_)
    refine WA.done (by kernel_rfl) ?_
    refine WQ.then ?_
    refine WC.ret ?_
    (repeat (first | refine WQ.thenRet ?_ | refine WQ.inBlockRet ?_))
    refine WQ.ret2 rfl rfl ⟨_, rfl, H.loadAgg (by repeat (first | exact List.Mem.head _ | apply List.Mem.tail)) Tryd.isAgg28 Tryd.sizeOf28 (by rfl)⟩ H.ext ?_
    exact rfl
  ·
    refine WR.call H (none_spec) rfl (trivial) (Wn.none rfl) rfl ?_
    intro v25 M w H hle hr25
    replace hp := hp.mono hle
    replace hc0 := hc0.mono hle
    replace hc1 := hc1.mono hle
    replace hf23 := hf23.mono hle
    obtain rfl := hr25
    refine WR.nil (WQ.any ?_)
    refine WA.one (i := 4) (by kernel_rfl) rfl ?_
    refine WR.step (Ex.runesStr Tryd.underlying64 Tryd.underlying21 Tryd.underlying9 H (by assumption) rfl) (Wn.none rfl) rfl rfl ?_
    refine WR.nil (WQ.any ?_)
    refine WA.one (i := 6) (by kernel_rfl) rfl ?_
    refine WR.step (Ex.assign rfl) (Wn.none rfl) rfl rfl ?_
    refine WR.nil (WQ.any ?_)
    refine WA.one (i := 7) (by kernel_rfl) rfl ?_
    refine WR.store [_, _] H rfl rfl rfl (by repeat (first | exact Upd.head | apply Upd.tail)) Tryd.sizeOf28 rfl (by rfl) (by rfl) (Wn.none rfl) ?_
    intro w H
    refine WR.nil (WQ.any ?_)
    refine WA.done (by kernel_rfl) ?_
    refine WQ.then ?_
    refine WC.ret ?_
    (repeat (first | refine WQ.thenRet ?_ | refine WQ.inBlockRet ?_))
    refine WQ.ret2 rfl rfl ⟨_, rfl, H.loadAgg (by repeat (first | exact List.Mem.head _ | apply List.Mem.tail)) Tryd.isAgg28 Tryd.sizeOf28 (by rfl)⟩ H.ext ?_
    exact rfl

theorem decode_3 (name : List UInt8) (v : Value) (l : List UInt8) (hn : name.length ≤ maxLen) (hs : l.length ≤ 12000) (hk : setOf name = some 3) : Ct Tryd.prog 22 [S name, v] (fun M => Bs M v l) (fun r _ => r = .tuple #[S (decoded 3 l), fault 0 0]) := by
  refine Ct.of Tryd.func22 (enters Tryd.func22 (by kernel_rfl) rfl) rfl rfl rfl ?_
  intro w0 M0 H hp
  refine WC.seq ?_
  refine WC.region ?_
  refine WR.step (Ex.assign rfl) (Wn.none rfl) rfl rfl ?_
  refine WR.alloc [_, _] H Tryd.zeroValue28 rfl (Wn.none rfl) rfl ?_
  intro b5 w H
  refine WR.nil ?_
  refine WQ.then ?_
  refine WC.seq ?_
  refine WC.seq ?_
  refine WC.region ?_
  refine WR.step (Ex.move rfl) (Wn.none rfl) rfl rfl ?_
  first | refine WR.step (Ex.lenSl Tryd.underlying34 (by assumption) rfl) (Wn.none rfl) rfl rfl ?_ | refine WR.step (Ex.lenRow Tryd.underlying34 H (by repeat (first | exact List.Mem.head _ | apply List.Mem.tail)) rfl) (Wn.none rfl) rfl rfl ?_ | refine WR.step (Ex.lenSlice Tryd.underlying34 rfl) (Wn.none rfl) rfl rfl ?_
  refine WR.stepF (Ex.gtr rfl rfl) (by omega) (Wn.none rfl) rfl rfl ?_
  refine WR.nil ?_
  refine WQ.then ?_
  refine WC.condF rfl ?_
  refine WC.skip ?_
  refine WQ.then ?_
  refine WC.seq ?_
  refine WC.region ?_
  refine WR.step (Ex.move rfl) (Wn.none rfl) rfl rfl ?_
  refine WR.call H (Ct.mono (find_spec name hn) (R' := fun r M => ∃ b0 b1, CellM M ⟨b0, 0, none⟩ (encR 128) ∧ CellM M ⟨b1, 0, none⟩ (encR 256) ∧ r = .tuple #[.agg #[S [117, 116, 102, 49, 54, 98, 101], .func (.func 53) #[] #[], .func (.func 54) #[] #[]], .bool true]) (fun _ _ ⟨b0, b1, h0, h1, h⟩ => ⟨b0, b1, h0, h1, by rw [hk] at h; exact h⟩)) rfl (trivial) (Wn.none rfl) rfl ?_
  intro v14 M w H hle hr14
  replace hp := hp.mono hle
  obtain ⟨b0, b1, hc0, hc1, rfl⟩ := hr14
  refine WR.step (Ex.move rfl) (Wn.none rfl) rfl rfl ?_
  refine WR.step (Ex.extract rfl rfl) (Wn.none rfl) rfl rfl ?_
  refine WR.step (Ex.extract rfl rfl) (Wn.none rfl) rfl rfl ?_
  refine WR.alloc [_, _, _] H Tryd.zeroValue61 rfl (Wn.none rfl) rfl ?_
  intro b6 w H
  refine WR.store [_, _, _] H rfl rfl rfl (by repeat (first | exact Upd.head | apply Upd.tail)) Tryd.sizeOf61 rfl (by rfl) (by rfl) (Wn.none rfl) ?_
  intro w H
  refine WR.step (Ex.assign rfl) (Wn.none rfl) rfl rfl ?_
  refine WR.nil ?_
  refine WQ.then ?_
  refine WC.seq ?_
  refine WC.seq ?_
  refine WC.region ?_
  refine WR.step (Ex.move rfl) (Wn.none rfl) rfl rfl ?_
  refine WR.step (Ex.notT rfl) (Wn.none rfl) rfl rfl ?_
  refine WR.nil ?_
  refine WQ.then ?_
  refine WC.condF rfl ?_
  refine WC.skip ?_
  refine WQ.then ?_
  refine WC.seq ?_
  refine WC.draw (m := 8) rfl rfl H ?_
  intro w H
  refine WA.take (i := 0) rfl (by kernel_rfl) (by kernel_rfl) (by kernel_rfl) (fun _ => Ex.fieldAddr Tryd.underlying61 rfl Tryd.sizeOf58 (by decide) rfl) (Wn.none rfl) rfl rfl (fun _ _ => rfl) ?_
  refine WA.take (i := 2) rfl (by kernel_rfl) (by kernel_rfl) (by kernel_rfl) (fun _ => Ex.move rfl) (Wn.none rfl) rfl rfl (fun _ _ => rfl) ?_
  refine WA.one (i := 1) (by kernel_rfl) rfl ?_
  first | refine WR.step (Ex.loadM H rfl (by assumption) Tryd.isAgg58) (Wn.none rfl) rfl rfl ?_ | refine WR.step (Ex.load1 H rfl (by repeat (first | exact List.Mem.head _ | apply List.Mem.tail)) Tryd.isAgg58 (by rfl)) (Wn.none rfl) rfl rfl ?_
  refine WR.nil (WQ.any ?_)
  refine WA.one (i := 3) (by kernel_rfl) rfl ?_
  refine WR.callV (cap := []) H (units_spec _ l (by omega)) rfl rfl (by assumption) (Wn.none rfl) rfl ?_
  intro v23 M w H hle hr23
  replace hp := hp.mono hle
  replace hc0 := hc0.mono hle
  replace hc1 := hc1.mono hle
  have hf23 := hr23
  refine WR.nil (WQ.any ?_)
  refine WA.two (i := 4) (j := 5) (by kernel_rfl) rfl rfl ?_ ?_
  ·
    refine WR.step (Ex.runesStr Tryd.underlying64 Tryd.underlying21 Tryd.underlying9 H (by assumption) rfl) (Wn.none rfl) rfl rfl ?_
    refine WR.nil (WQ.any ?_)
    refine WA.one (i := 5) (by kernel_rfl) rfl ?_
    refine WR.call H (none_spec) rfl (trivial) (Wn.none rfl) rfl ?_
    intro v25 M w H hle hr25
    replace hp := hp.mono hle
    replace hc0 := hc0.mono hle
    replace hc1 := hc1.mono hle
    replace hf23 := hf23.mono hle
    obtain rfl := hr25
    refine WR.nil (WQ.any ?_)
    refine WA.one (i := 6) (by kernel_rfl) rfl ?_
    refine WR.step (Ex.assign rfl) (Wn.none rfl) rfl rfl ?_
    refine WR.nil (WQ.any ?_)
    refine WA.one (i := 7) (by kernel_rfl) rfl ?_
    refine WR.store [_, _] H rfl rfl rfl (by repeat (first | exact Upd.head | apply Upd.tail)) Tryd.sizeOf28 rfl (by rfl) (by rfl) (Wn.none rfl) ?_
    intro w H
    refine WR.nil (WQ.any ?_)
    refine WA.done (by kernel_rfl) ?_
    refine WQ.then ?_
    refine WC.ret ?_
    (repeat (first | refine WQ.thenRet ?_ | refine WQ.inBlockRet ?_))
    refine WQ.ret2 rfl rfl ⟨_, rfl, H.loadAgg (by repeat (first | exact List.Mem.head _ | apply List.Mem.tail)) Tryd.isAgg28 Tryd.sizeOf28 (by rfl)⟩ H.ext ?_
    exact rfl
  ·
    refine WR.call H (none_spec) rfl (trivial) (Wn.none rfl) rfl ?_
    intro v25 M w H hle hr25
    replace hp := hp.mono hle
    replace hc0 := hc0.mono hle
    replace hc1 := hc1.mono hle
    replace hf23 := hf23.mono hle
    obtain rfl := hr25
    refine WR.nil (WQ.any ?_)
    refine WA.one (i := 4) (by kernel_rfl) rfl ?_
    refine WR.step (Ex.runesStr Tryd.underlying64 Tryd.underlying21 Tryd.underlying9 H (by assumption) rfl) (Wn.none rfl) rfl rfl ?_
    refine WR.nil (WQ.any ?_)
    refine WA.one (i := 6) (by kernel_rfl) rfl ?_
    refine WR.step (Ex.assign rfl) (Wn.none rfl) rfl rfl ?_
    refine WR.nil (WQ.any ?_)
    refine WA.one (i := 7) (by kernel_rfl) rfl ?_
    refine WR.store [_, _] H rfl rfl rfl (by repeat (first | exact Upd.head | apply Upd.tail)) Tryd.sizeOf28 rfl (by rfl) (by rfl) (Wn.none rfl) ?_
    intro w H
    refine WR.nil (WQ.any ?_)
    refine WA.done (by kernel_rfl) ?_
    refine WQ.then ?_
    refine WC.ret ?_
    (repeat (first | refine WQ.thenRet ?_ | refine WQ.inBlockRet ?_))
    refine WQ.ret2 rfl rfl ⟨_, rfl, H.loadAgg (by repeat (first | exact List.Mem.head _ | apply List.Mem.tail)) Tryd.isAgg28 Tryd.sizeOf28 (by rfl)⟩ H.ext ?_
    exact rfl

theorem decode_spec_k (name : List UInt8) (v : Value) (l : List UInt8) (hn : name.length ≤ maxLen) (hs : l.length ≤ 12000) (k : Nat) (hk : setOf name = some k) : Ct Tryd.prog 22 [S name, v] (fun M => Bs M v l) (fun r _ => r = .tuple #[S (decoded k l), fault 0 0]) := by
  have h4 := setOf_lt hk
  rcases k with _ | _ | _ | _ | k
  · exact decode_0 name v l hn hs hk
  · exact decode_1 name v l hn hs hk
  · exact decode_2 name v l hn hs hk
  · exact decode_3 name v l hn hs hk
  · omega
theorem dr_fix0 (l : List UInt8) : ((dr l).1 : Int) = fix0 (rune l).1 := by
  rw [rune_dr]; unfold fix0
  split
  · rfl
  · simp only []; omega
theorem fix0_id {n : Int} (h : 0 ≤ n) : fix0 n = n := by unfold fix0; rw [if_neg (by omega)]

theorem encode_big (name l : List UInt8) (hn : name.length ≤ maxLen) (hs : 12000 < l.length) : Ct Tryd.prog 25 [S name, S l] (fun M => Tabs M) (fun r _ => r = .tuple #[.slice none 0 0, fault 1 (-1)]) := by
  refine Ct.of Tryd.func25 (enters Tryd.func25 (by kernel_rfl) rfl) rfl rfl rfl ?_
  intro w0 M0 H hp
  refine WC.seq ?_
  refine WC.region ?_
  refine WR.step (Ex.assign rfl) (Wn.none rfl) rfl rfl ?_
  refine WR.alloc [_, _] H Tryd.zeroValue28 rfl (Wn.none rfl) rfl ?_
  intro b5 w H
  refine WR.nil ?_
  refine WQ.then ?_
  refine WC.seq ?_
  refine WC.seq ?_
  refine WC.region ?_
  refine WR.step (Ex.move rfl) (Wn.none rfl) rfl rfl ?_
  refine WR.step (Ex.lenStr Tryd.underlying9 rfl) (Wn.none rfl) rfl rfl ?_
  refine WR.stepT (Ex.gtr rfl rfl) (by omega) (Wn.none rfl) rfl rfl ?_
  refine WR.nil ?_
  refine WQ.then ?_
  refine WC.condT rfl ?_
  refine WC.seq ?_
  refine WC.region ?_
  refine WR.call H (fault_spec _ _) rfl (trivial) (Wn.none rfl) rfl ?_
  intro v16 M w H hle hr16
  replace hp := hp.mono hle
  obtain rfl := hr16
  refine WR.step (Ex.assign rfl) (Wn.none rfl) rfl rfl ?_
  refine WR.store [_, _] H rfl rfl rfl (by repeat (first | exact Upd.head | apply Upd.tail)) Tryd.sizeOf28 rfl (by rfl) (by rfl) (Wn.none rfl) ?_
  intro w H
  refine WR.nil ?_
  refine WQ.then ?_
  refine WC.ret ?_
  (repeat (first | refine WQ.thenRet ?_ | refine WQ.inBlockRet ?_))
  refine WQ.ret2 rfl rfl ⟨_, rfl, H.loadAgg (by repeat (first | exact List.Mem.head _ | apply List.Mem.tail)) Tryd.isAgg28 Tryd.sizeOf28 (by rfl)⟩ H.ext ?_
  exact rfl

theorem encode_unk (name l : List UInt8) (hn : name.length ≤ maxLen) (hs : l.length ≤ 12000) (hk : setOf name = none) : Ct Tryd.prog 25 [S name, S l] (fun M => Tabs M) (fun r _ => r = .tuple #[.slice none 0 0, fault 18 (-2)]) := by
  refine Ct.of Tryd.func25 (enters Tryd.func25 (by kernel_rfl) rfl) rfl rfl rfl ?_
  intro w0 M0 H hp
  refine WC.seq ?_
  refine WC.region ?_
  refine WR.step (Ex.assign rfl) (Wn.none rfl) rfl rfl ?_
  refine WR.alloc [_, _] H Tryd.zeroValue28 rfl (Wn.none rfl) rfl ?_
  intro b5 w H
  refine WR.nil ?_
  refine WQ.then ?_
  refine WC.seq ?_
  refine WC.seq ?_
  refine WC.region ?_
  refine WR.step (Ex.move rfl) (Wn.none rfl) rfl rfl ?_
  refine WR.step (Ex.lenStr Tryd.underlying9 rfl) (Wn.none rfl) rfl rfl ?_
  refine WR.stepF (Ex.gtr rfl rfl) (by omega) (Wn.none rfl) rfl rfl ?_
  refine WR.nil ?_
  refine WQ.then ?_
  refine WC.condF rfl ?_
  refine WC.skip ?_
  refine WQ.then ?_
  refine WC.seq ?_
  refine WC.region ?_
  refine WR.step (Ex.move rfl) (Wn.none rfl) rfl rfl ?_
  refine WR.call H (Ct.mono (find_spec name hn) (R' := fun r M => ∃ b0 b1, CellM M ⟨b0, 0, none⟩ (encR 128) ∧ CellM M ⟨b1, 0, none⟩ (encR 256) ∧ r = .tuple #[.agg #[S [], .nilFunc, .nilFunc], .bool false]) (fun _ _ ⟨b0, b1, h0, h1, h⟩ => ⟨b0, b1, h0, h1, by rw [hk] at h; exact h⟩)) rfl (trivial) (Wn.none rfl) rfl ?_
  intro v19 M w H hle hr19
  replace hp := hp.mono hle
  obtain ⟨b0, b1, hc0, hc1, rfl⟩ := hr19
  refine WR.step (Ex.move rfl) (Wn.none rfl) rfl rfl ?_
  refine WR.step (Ex.extract rfl rfl) (Wn.none rfl) rfl rfl ?_
  refine WR.step (Ex.extract rfl rfl) (Wn.none rfl) rfl rfl ?_
  refine WR.alloc [_, _, _] H Tryd.zeroValue61 rfl (Wn.none rfl) rfl ?_
  intro b6 w H
  refine WR.store [_, _, _] H rfl rfl rfl (by repeat (first | exact Upd.head | apply Upd.tail)) Tryd.sizeOf61 rfl (by rfl) (by rfl) (Wn.none rfl) ?_
  intro w H
  refine WR.step (Ex.assign rfl) (Wn.none rfl) rfl rfl ?_
  refine WR.nil ?_
  refine WQ.then ?_
  refine WC.seq ?_
  refine WC.seq ?_
  refine WC.region ?_
  refine WR.step (Ex.move rfl) (Wn.none rfl) rfl rfl ?_
  refine WR.step (Ex.notF rfl) (Wn.none rfl) rfl rfl ?_
  refine WR.nil ?_
  refine WQ.then ?_
  refine WC.condT rfl ?_
  refine WC.seq ?_
  refine WC.region ?_
  refine WR.call H (fault_spec _ _) rfl (trivial) (Wn.none rfl) rfl ?_
  intro v24 M w H hle hr24
  replace hp := hp.mono hle
  replace hc0 := hc0.mono hle
  replace hc1 := hc1.mono hle
  obtain rfl := hr24
  refine WR.step (Ex.assign rfl) (Wn.none rfl) rfl rfl ?_
  refine WR.store [_, _] H rfl rfl rfl (by repeat (first | exact Upd.head | apply Upd.tail)) Tryd.sizeOf28 rfl (by rfl) (by rfl) (Wn.none rfl) ?_
  intro w H
  refine WR.nil ?_
  refine WQ.then ?_
  refine WC.ret ?_
  (repeat (first | refine WQ.thenRet ?_ | refine WQ.inBlockRet ?_))
  refine WQ.ret2 rfl rfl ⟨_, rfl, H.loadAgg (by repeat (first | exact List.Mem.head _ | apply List.Mem.tail)) Tryd.isAgg28 Tryd.sizeOf28 (by rfl)⟩ H.ext ?_
  exact rfl

theorem encode_mal0 (name l : List UInt8) (hn : name.length ≤ maxLen) (hs : l.length ≤ 12000) (hk : setOf name = some 0) (hv : vld l = false) : Ct Tryd.prog 25 [S name, S l] (fun M => Tabs M) (fun r _ => r = .tuple #[.slice none 0 0, fault 5 (-3)]) := by
  refine Ct.of Tryd.func25 (enters Tryd.func25 (by kernel_rfl) rfl) rfl rfl rfl ?_
  intro w0 M0 H hp
  refine WC.seq ?_
  refine WC.region ?_
  refine WR.step (Ex.assign rfl) (Wn.none rfl) rfl rfl ?_
  refine WR.alloc [_, _] H Tryd.zeroValue28 rfl (Wn.none rfl) rfl ?_
  intro b5 w H
  refine WR.nil ?_
  refine WQ.then ?_
  refine WC.seq ?_
  refine WC.seq ?_
  refine WC.region ?_
  refine WR.step (Ex.move rfl) (Wn.none rfl) rfl rfl ?_
  refine WR.step (Ex.lenStr Tryd.underlying9 rfl) (Wn.none rfl) rfl rfl ?_
  refine WR.stepF (Ex.gtr rfl rfl) (by omega) (Wn.none rfl) rfl rfl ?_
  refine WR.nil ?_
  refine WQ.then ?_
  refine WC.condF rfl ?_
  refine WC.skip ?_
  refine WQ.then ?_
  refine WC.seq ?_
  refine WC.region ?_
  refine WR.step (Ex.move rfl) (Wn.none rfl) rfl rfl ?_
  refine WR.call H (Ct.mono (find_spec name hn) (R' := fun r M => ∃ b0 b1, CellM M ⟨b0, 0, none⟩ (encR 128) ∧ CellM M ⟨b1, 0, none⟩ (encR 256) ∧ r = .tuple #[.agg #[S [97, 115, 99, 105, 105], .func (.func 62) #[] #[ptr b0 0], .func (.func 63) #[] #[ptr b0 0]], .bool true]) (fun _ _ ⟨b0, b1, h0, h1, h⟩ => ⟨b0, b1, h0, h1, by rw [hk] at h; exact h⟩)) rfl (trivial) (Wn.none rfl) rfl ?_
  intro v19 M w H hle hr19
  replace hp := hp.mono hle
  obtain ⟨b0, b1, hc0, hc1, rfl⟩ := hr19
  refine WR.step (Ex.move rfl) (Wn.none rfl) rfl rfl ?_
  refine WR.step (Ex.extract rfl rfl) (Wn.none rfl) rfl rfl ?_
  refine WR.step (Ex.extract rfl rfl) (Wn.none rfl) rfl rfl ?_
  refine WR.alloc [_, _, _] H Tryd.zeroValue61 rfl (Wn.none rfl) rfl ?_
  intro b6 w H
  refine WR.store [_, _, _] H rfl rfl rfl (by repeat (first | exact Upd.head | apply Upd.tail)) Tryd.sizeOf61 rfl (by rfl) (by rfl) (Wn.none rfl) ?_
  intro w H
  refine WR.step (Ex.assign rfl) (Wn.none rfl) rfl rfl ?_
  refine WR.nil ?_
  refine WQ.then ?_
  refine WC.seq ?_
  refine WC.seq ?_
  refine WC.region ?_
  refine WR.step (Ex.move rfl) (Wn.none rfl) rfl rfl ?_
  refine WR.step (Ex.notT rfl) (Wn.none rfl) rfl rfl ?_
  refine WR.nil ?_
  refine WQ.then ?_
  refine WC.condF rfl ?_
  refine WC.skip ?_
  refine WQ.then ?_
  refine WC.seq ?_
  refine WC.seq ?_
  refine WC.region ?_
  refine WR.step (Ex.move rfl) (Wn.none rfl) rfl rfl ?_
  refine WR.call H (Ct.mono (validString_spec l (by omega)) (R' := fun r _ => r = .bool false) (fun _ _ h => by rw [hv] at h; exact h)) rfl (by assumption) (Wn.none rfl) rfl ?_
  intro v26 M w H hle hr26
  replace hp := hp.mono hle
  replace hc0 := hc0.mono hle
  replace hc1 := hc1.mono hle
  obtain rfl := hr26
  refine WR.step (Ex.notF rfl) (Wn.none rfl) rfl rfl ?_
  refine WR.nil ?_
  refine WQ.then ?_
  refine WC.condT rfl ?_
  refine WC.seq ?_
  refine WC.region ?_
  refine WR.call H (fault_spec _ _) rfl (trivial) (Wn.none rfl) rfl ?_
  intro v28 M w H hle hr28
  replace hp := hp.mono hle
  replace hc0 := hc0.mono hle
  replace hc1 := hc1.mono hle
  obtain rfl := hr28
  refine WR.step (Ex.assign rfl) (Wn.none rfl) rfl rfl ?_
  refine WR.store [_, _] H rfl rfl rfl (by repeat (first | exact Upd.head | apply Upd.tail)) Tryd.sizeOf28 rfl (by rfl) (by rfl) (Wn.none rfl) ?_
  intro w H
  refine WR.nil ?_
  refine WQ.then ?_
  refine WC.ret ?_
  (repeat (first | refine WQ.thenRet ?_ | refine WQ.inBlockRet ?_))
  refine WQ.ret2 rfl rfl ⟨_, rfl, H.loadAgg (by repeat (first | exact List.Mem.head _ | apply List.Mem.tail)) Tryd.isAgg28 Tryd.sizeOf28 (by rfl)⟩ H.ext ?_
  exact rfl

theorem encode_mal1 (name l : List UInt8) (hn : name.length ≤ maxLen) (hs : l.length ≤ 12000) (hk : setOf name = some 1) (hv : vld l = false) : Ct Tryd.prog 25 [S name, S l] (fun M => Tabs M) (fun r _ => r = .tuple #[.slice none 0 0, fault 5 (-3)]) := by
  refine Ct.of Tryd.func25 (enters Tryd.func25 (by kernel_rfl) rfl) rfl rfl rfl ?_
  intro w0 M0 H hp
  refine WC.seq ?_
  refine WC.region ?_
  refine WR.step (Ex.assign rfl) (Wn.none rfl) rfl rfl ?_
  refine WR.alloc [_, _] H Tryd.zeroValue28 rfl (Wn.none rfl) rfl ?_
  intro b5 w H
  refine WR.nil ?_
  refine WQ.then ?_
  refine WC.seq ?_
  refine WC.seq ?_
  refine WC.region ?_
  refine WR.step (Ex.move rfl) (Wn.none rfl) rfl rfl ?_
  refine WR.step (Ex.lenStr Tryd.underlying9 rfl) (Wn.none rfl) rfl rfl ?_
  refine WR.stepF (Ex.gtr rfl rfl) (by omega) (Wn.none rfl) rfl rfl ?_
  refine WR.nil ?_
  refine WQ.then ?_
  refine WC.condF rfl ?_
  refine WC.skip ?_
  refine WQ.then ?_
  refine WC.seq ?_
  refine WC.region ?_
  refine WR.step (Ex.move rfl) (Wn.none rfl) rfl rfl ?_
  refine WR.call H (Ct.mono (find_spec name hn) (R' := fun r M => ∃ b0 b1, CellM M ⟨b0, 0, none⟩ (encR 128) ∧ CellM M ⟨b1, 0, none⟩ (encR 256) ∧ r = .tuple #[.agg #[S [108, 97, 116, 105, 110, 49], .func (.func 62) #[] #[ptr b1 0], .func (.func 63) #[] #[ptr b1 0]], .bool true]) (fun _ _ ⟨b0, b1, h0, h1, h⟩ => ⟨b0, b1, h0, h1, by rw [hk] at h; exact h⟩)) rfl (trivial) (Wn.none rfl) rfl ?_
  intro v19 M w H hle hr19
  replace hp := hp.mono hle
  obtain ⟨b0, b1, hc0, hc1, rfl⟩ := hr19
  refine WR.step (Ex.move rfl) (Wn.none rfl) rfl rfl ?_
  refine WR.step (Ex.extract rfl rfl) (Wn.none rfl) rfl rfl ?_
  refine WR.step (Ex.extract rfl rfl) (Wn.none rfl) rfl rfl ?_
  refine WR.alloc [_, _, _] H Tryd.zeroValue61 rfl (Wn.none rfl) rfl ?_
  intro b6 w H
  refine WR.store [_, _, _] H rfl rfl rfl (by repeat (first | exact Upd.head | apply Upd.tail)) Tryd.sizeOf61 rfl (by rfl) (by rfl) (Wn.none rfl) ?_
  intro w H
  refine WR.step (Ex.assign rfl) (Wn.none rfl) rfl rfl ?_
  refine WR.nil ?_
  refine WQ.then ?_
  refine WC.seq ?_
  refine WC.seq ?_
  refine WC.region ?_
  refine WR.step (Ex.move rfl) (Wn.none rfl) rfl rfl ?_
  refine WR.step (Ex.notT rfl) (Wn.none rfl) rfl rfl ?_
  refine WR.nil ?_
  refine WQ.then ?_
  refine WC.condF rfl ?_
  refine WC.skip ?_
  refine WQ.then ?_
  refine WC.seq ?_
  refine WC.seq ?_
  refine WC.region ?_
  refine WR.step (Ex.move rfl) (Wn.none rfl) rfl rfl ?_
  refine WR.call H (Ct.mono (validString_spec l (by omega)) (R' := fun r _ => r = .bool false) (fun _ _ h => by rw [hv] at h; exact h)) rfl (by assumption) (Wn.none rfl) rfl ?_
  intro v26 M w H hle hr26
  replace hp := hp.mono hle
  replace hc0 := hc0.mono hle
  replace hc1 := hc1.mono hle
  obtain rfl := hr26
  refine WR.step (Ex.notF rfl) (Wn.none rfl) rfl rfl ?_
  refine WR.nil ?_
  refine WQ.then ?_
  refine WC.condT rfl ?_
  refine WC.seq ?_
  refine WC.region ?_
  refine WR.call H (fault_spec _ _) rfl (trivial) (Wn.none rfl) rfl ?_
  intro v28 M w H hle hr28
  replace hp := hp.mono hle
  replace hc0 := hc0.mono hle
  replace hc1 := hc1.mono hle
  obtain rfl := hr28
  refine WR.step (Ex.assign rfl) (Wn.none rfl) rfl rfl ?_
  refine WR.store [_, _] H rfl rfl rfl (by repeat (first | exact Upd.head | apply Upd.tail)) Tryd.sizeOf28 rfl (by rfl) (by rfl) (Wn.none rfl) ?_
  intro w H
  refine WR.nil ?_
  refine WQ.then ?_
  refine WC.ret ?_
  (repeat (first | refine WQ.thenRet ?_ | refine WQ.inBlockRet ?_))
  refine WQ.ret2 rfl rfl ⟨_, rfl, H.loadAgg (by repeat (first | exact List.Mem.head _ | apply List.Mem.tail)) Tryd.isAgg28 Tryd.sizeOf28 (by rfl)⟩ H.ext ?_
  exact rfl

theorem encode_mal2 (name l : List UInt8) (hn : name.length ≤ maxLen) (hs : l.length ≤ 12000) (hk : setOf name = some 2) (hv : vld l = false) : Ct Tryd.prog 25 [S name, S l] (fun M => Tabs M) (fun r _ => r = .tuple #[.slice none 0 0, fault 5 (-3)]) := by
  refine Ct.of Tryd.func25 (enters Tryd.func25 (by kernel_rfl) rfl) rfl rfl rfl ?_
  intro w0 M0 H hp
  refine WC.seq ?_
  refine WC.region ?_
  refine WR.step (Ex.assign rfl) (Wn.none rfl) rfl rfl ?_
  refine WR.alloc [_, _] H Tryd.zeroValue28 rfl (Wn.none rfl) rfl ?_
  intro b5 w H
  refine WR.nil ?_
  refine WQ.then ?_
  refine WC.seq ?_
  refine WC.seq ?_
  refine WC.region ?_
  refine WR.step (Ex.move rfl) (Wn.none rfl) rfl rfl ?_
  refine WR.step (Ex.lenStr Tryd.underlying9 rfl) (Wn.none rfl) rfl rfl ?_
  refine WR.stepF (Ex.gtr rfl rfl) (by omega) (Wn.none rfl) rfl rfl ?_
  refine WR.nil ?_
  refine WQ.then ?_
  refine WC.condF rfl ?_
  refine WC.skip ?_
  refine WQ.then ?_
  refine WC.seq ?_
  refine WC.region ?_
  refine WR.step (Ex.move rfl) (Wn.none rfl) rfl rfl ?_
  refine WR.call H (Ct.mono (find_spec name hn) (R' := fun r M => ∃ b0 b1, CellM M ⟨b0, 0, none⟩ (encR 128) ∧ CellM M ⟨b1, 0, none⟩ (encR 256) ∧ r = .tuple #[.agg #[S [117, 116, 102, 56], .func (.func 50) #[] #[], .func (.func 51) #[] #[]], .bool true]) (fun _ _ ⟨b0, b1, h0, h1, h⟩ => ⟨b0, b1, h0, h1, by rw [hk] at h; exact h⟩)) rfl (trivial) (Wn.none rfl) rfl ?_
  intro v19 M w H hle hr19
  replace hp := hp.mono hle
  obtain ⟨b0, b1, hc0, hc1, rfl⟩ := hr19
  refine WR.step (Ex.move rfl) (Wn.none rfl) rfl rfl ?_
  refine WR.step (Ex.extract rfl rfl) (Wn.none rfl) rfl rfl ?_
  refine WR.step (Ex.extract rfl rfl) (Wn.none rfl) rfl rfl ?_
  refine WR.alloc [_, _, _] H Tryd.zeroValue61 rfl (Wn.none rfl) rfl ?_
  intro b6 w H
  refine WR.store [_, _, _] H rfl rfl rfl (by repeat (first | exact Upd.head | apply Upd.tail)) Tryd.sizeOf61 rfl (by rfl) (by rfl) (Wn.none rfl) ?_
  intro w H
  refine WR.step (Ex.assign rfl) (Wn.none rfl) rfl rfl ?_
  refine WR.nil ?_
  refine WQ.then ?_
  refine WC.seq ?_
  refine WC.seq ?_
  refine WC.region ?_
  refine WR.step (Ex.move rfl) (Wn.none rfl) rfl rfl ?_
  refine WR.step (Ex.notT rfl) (Wn.none rfl) rfl rfl ?_
  refine WR.nil ?_
  refine WQ.then ?_
  refine WC.condF rfl ?_
  refine WC.skip ?_
  refine WQ.then ?_
  refine WC.seq ?_
  refine WC.seq ?_
  refine WC.region ?_
  refine WR.step (Ex.move rfl) (Wn.none rfl) rfl rfl ?_
  refine WR.call H (Ct.mono (validString_spec l (by omega)) (R' := fun r _ => r = .bool false) (fun _ _ h => by rw [hv] at h; exact h)) rfl (by assumption) (Wn.none rfl) rfl ?_
  intro v26 M w H hle hr26
  replace hp := hp.mono hle
  replace hc0 := hc0.mono hle
  replace hc1 := hc1.mono hle
  obtain rfl := hr26
  refine WR.step (Ex.notF rfl) (Wn.none rfl) rfl rfl ?_
  refine WR.nil ?_
  refine WQ.then ?_
  refine WC.condT rfl ?_
  refine WC.seq ?_
  refine WC.region ?_
  refine WR.call H (fault_spec _ _) rfl (trivial) (Wn.none rfl) rfl ?_
  intro v28 M w H hle hr28
  replace hp := hp.mono hle
  replace hc0 := hc0.mono hle
  replace hc1 := hc1.mono hle
  obtain rfl := hr28
  refine WR.step (Ex.assign rfl) (Wn.none rfl) rfl rfl ?_
  refine WR.store [_, _] H rfl rfl rfl (by repeat (first | exact Upd.head | apply Upd.tail)) Tryd.sizeOf28 rfl (by rfl) (by rfl) (Wn.none rfl) ?_
  intro w H
  refine WR.nil ?_
  refine WQ.then ?_
  refine WC.ret ?_
  (repeat (first | refine WQ.thenRet ?_ | refine WQ.inBlockRet ?_))
  refine WQ.ret2 rfl rfl ⟨_, rfl, H.loadAgg (by repeat (first | exact List.Mem.head _ | apply List.Mem.tail)) Tryd.isAgg28 Tryd.sizeOf28 (by rfl)⟩ H.ext ?_
  exact rfl

theorem encode_mal3 (name l : List UInt8) (hn : name.length ≤ maxLen) (hs : l.length ≤ 12000) (hk : setOf name = some 3) (hv : vld l = false) : Ct Tryd.prog 25 [S name, S l] (fun M => Tabs M) (fun r _ => r = .tuple #[.slice none 0 0, fault 5 (-3)]) := by
  refine Ct.of Tryd.func25 (enters Tryd.func25 (by kernel_rfl) rfl) rfl rfl rfl ?_
  intro w0 M0 H hp
  refine WC.seq ?_
  refine WC.region ?_
  refine WR.step (Ex.assign rfl) (Wn.none rfl) rfl rfl ?_
  refine WR.alloc [_, _] H Tryd.zeroValue28 rfl (Wn.none rfl) rfl ?_
  intro b5 w H
  refine WR.nil ?_
  refine WQ.then ?_
  refine WC.seq ?_
  refine WC.seq ?_
  refine WC.region ?_
  refine WR.step (Ex.move rfl) (Wn.none rfl) rfl rfl ?_
  refine WR.step (Ex.lenStr Tryd.underlying9 rfl) (Wn.none rfl) rfl rfl ?_
  refine WR.stepF (Ex.gtr rfl rfl) (by omega) (Wn.none rfl) rfl rfl ?_
  refine WR.nil ?_
  refine WQ.then ?_
  refine WC.condF rfl ?_
  refine WC.skip ?_
  refine WQ.then ?_
  refine WC.seq ?_
  refine WC.region ?_
  refine WR.step (Ex.move rfl) (Wn.none rfl) rfl rfl ?_
  refine WR.call H (Ct.mono (find_spec name hn) (R' := fun r M => ∃ b0 b1, CellM M ⟨b0, 0, none⟩ (encR 128) ∧ CellM M ⟨b1, 0, none⟩ (encR 256) ∧ r = .tuple #[.agg #[S [117, 116, 102, 49, 54, 98, 101], .func (.func 53) #[] #[], .func (.func 54) #[] #[]], .bool true]) (fun _ _ ⟨b0, b1, h0, h1, h⟩ => ⟨b0, b1, h0, h1, by rw [hk] at h; exact h⟩)) rfl (trivial) (Wn.none rfl) rfl ?_
  intro v19 M w H hle hr19
  replace hp := hp.mono hle
  obtain ⟨b0, b1, hc0, hc1, rfl⟩ := hr19
  refine WR.step (Ex.move rfl) (Wn.none rfl) rfl rfl ?_
  refine WR.step (Ex.extract rfl rfl) (Wn.none rfl) rfl rfl ?_
  refine WR.step (Ex.extract rfl rfl) (Wn.none rfl) rfl rfl ?_
  refine WR.alloc [_, _, _] H Tryd.zeroValue61 rfl (Wn.none rfl) rfl ?_
  intro b6 w H
  refine WR.store [_, _, _] H rfl rfl rfl (by repeat (first | exact Upd.head | apply Upd.tail)) Tryd.sizeOf61 rfl (by rfl) (by rfl) (Wn.none rfl) ?_
  intro w H
  refine WR.step (Ex.assign rfl) (Wn.none rfl) rfl rfl ?_
  refine WR.nil ?_
  refine WQ.then ?_
  refine WC.seq ?_
  refine WC.seq ?_
  refine WC.region ?_
  refine WR.step (Ex.move rfl) (Wn.none rfl) rfl rfl ?_
  refine WR.step (Ex.notT rfl) (Wn.none rfl) rfl rfl ?_
  refine WR.nil ?_
  refine WQ.then ?_
  refine WC.condF rfl ?_
  refine WC.skip ?_
  refine WQ.then ?_
  refine WC.seq ?_
  refine WC.seq ?_
  refine WC.region ?_
  refine WR.step (Ex.move rfl) (Wn.none rfl) rfl rfl ?_
  refine WR.call H (Ct.mono (validString_spec l (by omega)) (R' := fun r _ => r = .bool false) (fun _ _ h => by rw [hv] at h; exact h)) rfl (by assumption) (Wn.none rfl) rfl ?_
  intro v26 M w H hle hr26
  replace hp := hp.mono hle
  replace hc0 := hc0.mono hle
  replace hc1 := hc1.mono hle
  obtain rfl := hr26
  refine WR.step (Ex.notF rfl) (Wn.none rfl) rfl rfl ?_
  refine WR.nil ?_
  refine WQ.then ?_
  refine WC.condT rfl ?_
  refine WC.seq ?_
  refine WC.region ?_
  refine WR.call H (fault_spec _ _) rfl (trivial) (Wn.none rfl) rfl ?_
  intro v28 M w H hle hr28
  replace hp := hp.mono hle
  replace hc0 := hc0.mono hle
  replace hc1 := hc1.mono hle
  obtain rfl := hr28
  refine WR.step (Ex.assign rfl) (Wn.none rfl) rfl rfl ?_
  refine WR.store [_, _] H rfl rfl rfl (by repeat (first | exact Upd.head | apply Upd.tail)) Tryd.sizeOf28 rfl (by rfl) (by rfl) (Wn.none rfl) ?_
  intro w H
  refine WR.nil ?_
  refine WQ.then ?_
  refine WC.ret ?_
  (repeat (first | refine WQ.thenRet ?_ | refine WQ.inBlockRet ?_))
  refine WQ.ret2 rfl rfl ⟨_, rfl, H.loadAgg (by repeat (first | exact List.Mem.head _ | apply List.Mem.tail)) Tryd.isAgg28 Tryd.sizeOf28 (by rfl)⟩ H.ext ?_
  exact rfl

theorem encode_0 (name l : List UInt8) (hn : name.length ≤ maxLen) (hs : l.length ≤ 12000) (hk : setOf name = some 0) (hv : vld l = true) : Ct Tryd.prog 25 [S name, S l] (fun M => Tabs M) (fun r M => match encGo (encK 0) (chars l) 0 with | .ok b => ∃ v, r = .tuple #[v, fault 0 0] ∧ Bs M v b | .error e => r = .tuple #[.slice none 0 0, fault 17 (e : Int)]) := by
  refine Ct.of Tryd.func25 (enters Tryd.func25 (by kernel_rfl) rfl) rfl rfl rfl ?_
  intro w0 M0 H hp
  refine WC.seq ?_
  refine WC.region ?_
  refine WR.step (Ex.assign rfl) (Wn.none rfl) rfl rfl ?_
  refine WR.alloc [_, _] H Tryd.zeroValue28 rfl (Wn.none rfl) rfl ?_
  intro b5 w H
  refine WR.nil ?_
  refine WQ.then ?_
  refine WC.seq ?_
  refine WC.seq ?_
  refine WC.region ?_
  refine WR.step (Ex.move rfl) (Wn.none rfl) rfl rfl ?_
  refine WR.step (Ex.lenStr Tryd.underlying9 rfl) (Wn.none rfl) rfl rfl ?_
  refine WR.stepF (Ex.gtr rfl rfl) (by omega) (Wn.none rfl) rfl rfl ?_
  refine WR.nil ?_
  refine WQ.then ?_
  refine WC.condF rfl ?_
  refine WC.skip ?_
  refine WQ.then ?_
  refine WC.seq ?_
  refine WC.region ?_
  refine WR.step (Ex.move rfl) (Wn.none rfl) rfl rfl ?_
  refine WR.call H (Ct.mono (find_spec name hn) (R' := fun r M => ∃ b0 b1, CellM M ⟨b0, 0, none⟩ (encR 128) ∧ CellM M ⟨b1, 0, none⟩ (encR 256) ∧ r = .tuple #[.agg #[S [97, 115, 99, 105, 105], .func (.func 62) #[] #[ptr b0 0], .func (.func 63) #[] #[ptr b0 0]], .bool true]) (fun _ _ ⟨b0, b1, h0, h1, h⟩ => ⟨b0, b1, h0, h1, by rw [hk] at h; exact h⟩)) rfl (trivial) (Wn.none rfl) rfl ?_
  intro v19 M w H hle hr19
  replace hp := hp.mono hle
  obtain ⟨b0, b1, hc0, hc1, rfl⟩ := hr19
  refine WR.step (Ex.move rfl) (Wn.none rfl) rfl rfl ?_
  refine WR.step (Ex.extract rfl rfl) (Wn.none rfl) rfl rfl ?_
  refine WR.step (Ex.extract rfl rfl) (Wn.none rfl) rfl rfl ?_
  refine WR.alloc [_, _, _] H Tryd.zeroValue61 rfl (Wn.none rfl) rfl ?_
  intro b6 w H
  refine WR.store [_, _, _] H rfl rfl rfl (by repeat (first | exact Upd.head | apply Upd.tail)) Tryd.sizeOf61 rfl (by rfl) (by rfl) (Wn.none rfl) ?_
  intro w H
  refine WR.step (Ex.assign rfl) (Wn.none rfl) rfl rfl ?_
  refine WR.nil ?_
  refine WQ.then ?_
  refine WC.seq ?_
  refine WC.seq ?_
  refine WC.region ?_
  refine WR.step (Ex.move rfl) (Wn.none rfl) rfl rfl ?_
  refine WR.step (Ex.notT rfl) (Wn.none rfl) rfl rfl ?_
  refine WR.nil ?_
  refine WQ.then ?_
  refine WC.condF rfl ?_
  refine WC.skip ?_
  refine WQ.then ?_
  refine WC.seq ?_
  refine WC.seq ?_
  refine WC.region ?_
  refine WR.step (Ex.move rfl) (Wn.none rfl) rfl rfl ?_
  refine WR.call H (Ct.mono (validString_spec l (by omega)) (R' := fun r _ => r = .bool true) (fun _ _ h => by rw [hv] at h; exact h)) rfl (by assumption) (Wn.none rfl) rfl ?_
  intro v26 M w H hle hr26
  replace hp := hp.mono hle
  replace hc0 := hc0.mono hle
  replace hc1 := hc1.mono hle
  obtain rfl := hr26
  refine WR.step (Ex.notT rfl) (Wn.none rfl) rfl rfl ?_
  refine WR.nil ?_
  refine WQ.then ?_
  refine WC.condF rfl ?_
  refine WC.skip ?_
  refine WQ.then ?_
  refine WC.seq ?_
  refine WC.region ?_
  replace H := H.newRow 5 encB
  refine WR.step (Ex.assign rfl) (Wn.none rfl) rfl rfl ?_
  refine WR.nil ?_
  refine WQ.then ?_
  refine WC.seq ?_
  refine WC.seq ?_
  refine WC.region ?_
  refine WR.step (Ex.move rfl) (Wn.none rfl) rfl rfl ?_
  refine WR.rangeStr H Tryd.underlying9 rfl (Wn.none rfl) rfl ?_
  intro b30 w H
  refine WR.nil ?_
  refine WQ.then ?_
  refine WC.block ?_
  refine WC.loop3 (fun (q : Nat) (ov : Value) (o : List UInt8) => [(5, ptr b5 0), (6, ptr b6 0), (8, ov), (30, ptr b30 0)]) (fun (q : Nat) (ov : Value) (o : List UInt8) w => (q ≤ l.length ∧ o.length ≤ 4 * q) ∧ vld (l.drop q) = true ∧ encGo (encK 0) (chars l) 0 = pre o (encGo (encK 0) (chars (l.drop q)) q) ∧ ∃ M, St w0 M0 M [.blk b30 (.stringIter ⟨l.toArray⟩ q), RowI 5 encB ov o, .blk b6 (.cells #[S [97, 115, 99, 105, 105], .func (.func 62) #[] #[ptr b0 0], .func (.func 63) #[] #[ptr b0 0]] 61), .blk b5 (.cells #[I 0, I 0] 28)] w ∧ CellM M ⟨b0, 0, none⟩ (encR 128)) (fun (q : Nat) (ov : Value) (o : List UInt8) => l.length - q) (0) (_) (_) ⟨rfl, rfl, rfl, rfl, trivial⟩ (⟨by simp, hv, (pre_nil _).symm, M, H, hc0⟩) ?_
  intro q ov o w
  rintro ⟨hq, hvq, hgo, M, H, hc0⟩
  refine WC.seq ?_
  refine WC.region ?_
  by_cases h10_0 : q < l.length
  ·
    have hne := drop_ne (t := l) (n := q) h10_0
    have hrs := rune_size (l.drop q)
    have hrs3 := hrs.2.2 hne
    rw [List.length_drop] at hrs3
    rw [vld_cons hne, Bool.and_eq_true] at hvq
    have hr0 := of_decide_eq_true hvq.1
    have hvn := hvq.2
    have hrl := rune_lt (l.drop q)
    have hdr : ((dr (l.drop q)).1 : Int) = (rune (l.drop q)).1 := by rw [dr_fix0, fix0_id hr0]
    have hch : chars (l.drop q) = ((rune (l.drop q)).1, (l.drop q).take (rune (l.drop q)).2) :: chars (l.drop (q + (rune (l.drop q)).2)) := by rw [chars_cons hne, List.drop_drop]
    refine WR.nextT H h10_0 rfl (by repeat (first | exact Upd.head | apply Upd.tail)) (Wn.none rfl) rfl ?_
    intro w H
    refine WR.step (Ex.extract rfl rfl) (Wn.none rfl) rfl rfl ?_
    refine WR.nil ?_
    refine WQ.then ?_
    refine WC.seq ?_
    refine WC.condT rfl ?_
    refine WC.skip ?_
    refine WQ.then ?_
    refine WC.block ?_
    refine WC.seq ?_
    refine WC.region ?_
    refine WR.step (Ex.extract rfl rfl) (Wn.none rfl) rfl rfl ?_
    refine WR.stepE (v' := encR (rune (l.drop q)).1) (Ex.extract rfl rfl) (congrArg encR hdr) (Wn.none rfl) rfl rfl ?_
    refine WR.step (Ex.assign rfl) (Wn.none rfl) rfl rfl ?_
    refine WR.step (Ex.assign rfl) (Wn.none rfl) rfl rfl ?_
    refine WR.nil ?_
    refine WQ.then ?_
    refine WC.seq ?_
    refine WC.region ?_
    refine WR.step (Ex.fieldAddr Tryd.underlying61 rfl Tryd.sizeOf59 (by decide) rfl) (Wn.none rfl) rfl rfl ?_
    first | refine WR.step (Ex.loadM H rfl (by assumption) Tryd.isAgg59) (Wn.none rfl) rfl rfl ?_ | refine WR.step (Ex.load1 H rfl (by repeat (first | exact List.Mem.head _ | apply List.Mem.tail)) Tryd.isAgg59 (by rfl)) (Wn.none rfl) rfl rfl ?_
    refine WR.step (Ex.move rfl) (Wn.none rfl) rfl rfl ?_
    by_cases hok : (rune (l.drop q)).1 < 128
    ·
      have hstep : encK 0 (rune (l.drop q)).1 = some ([ub (rune (l.drop q)).1]) := by rw [encK0, Chs.encS, if_pos hok]
      have hbl := encK_len hstep
      refine WR.callV (cap := [ptr b0 0]) H (Ct.mono (enc1_spec (rune (l.drop q)).1 b0 128) (R' := fun r M => ∃ v, r = .tuple #[v, .bool true] ∧ Bs M v ([ub (rune (l.drop q)).1])) (fun _ _ ⟨v, h1, h2⟩ => ⟨v, by rw [decide_eq_true hok] at h1; exact h1, h2⟩)) rfl rfl (by assumption) (Wn.none rfl) rfl ?_
      intro v39 M w H hle hr39
      replace hc0 := hc0.mono hle
      obtain ⟨v39, rfl, hf39⟩ := hr39
      refine WR.step (Ex.move rfl) (Wn.none rfl) rfl rfl ?_
      refine WR.step (Ex.extract rfl rfl) (Wn.none rfl) rfl rfl ?_
      refine WR.step (Ex.extract rfl rfl) (Wn.none rfl) rfl rfl ?_
      refine WR.step (Ex.assign rfl) (Wn.none rfl) rfl rfl ?_
      refine WR.step (Ex.assign rfl) (Wn.none rfl) rfl rfl ?_
      refine WR.nil ?_
      refine WQ.then ?_
      refine WC.seq ?_
      refine WC.seq ?_
      refine WC.region ?_
      refine WR.step (Ex.move rfl) (Wn.none rfl) rfl rfl ?_
      refine WR.step (Ex.notT rfl) (Wn.none rfl) rfl rfl ?_
      refine WR.nil ?_
      refine WQ.then ?_
      refine WC.condF rfl ?_
      refine WC.skip ?_
      refine WQ.then ?_
      refine WC.region ?_
      refine WR.step (Ex.move rfl) (Wn.none rfl) rfl rfl ?_
      refine WR.step (Ex.move rfl) (Wn.none rfl) rfl rfl ?_
      refine WR.appendSl ty34 (fun _ => rfl) H rfl (fun _ => by repeat (first | exact Upd.head | apply Upd.tail)) rfl (by assumption) (by first | omega | (simp only [List.length_append, List.length_cons, List.length_nil, List.length_take, List.length_drop]; omega)) (by first | (simp only [maxLen]; omega) | (simp only [maxLen, List.length_append, List.length_cons, List.length_nil, List.length_take, List.length_drop]; omega)) (Wn.none rfl) rfl ?_
      intro v48 w H
      refine WR.step (Ex.assign rfl) (Wn.none rfl) rfl rfl ?_
      refine WR.nil ?_
      refine WQ.inBlock ?_
      refine WQ.again3 (q + (dr (l.drop q)).2) (v48) (o ++ ([ub (rune (l.drop q)).1])) ⟨rfl, rfl, rfl, rfl, trivial⟩ ?_ ?_
      · refine ⟨by rw [dr_size, List.length_append]; omega, ?_, ?_, M, H, hc0⟩
        · rw [dr_size, ← List.drop_drop]; exact hvn
        · rw [hgo, hch, encGo_step o hstep, dr_size]
          simp only [List.length_take, List.length_drop]
          rw [Nat.min_eq_left (by omega)]
      · rw [dr_size]; omega
    ·
      have hres : encGo (encK 0) (chars l) 0 = .error q := by rw [hgo, hch]; exact encGo_stop o (by rw [encK0, Chs.encS, if_neg hok])
      refine WR.callV (cap := [ptr b0 0]) H (Ct.mono (enc1_spec (rune (l.drop q)).1 b0 128) (R' := fun r M => ∃ v, r = .tuple #[v, .bool false] ∧ Bs M v ([ub (rune (l.drop q)).1])) (fun _ _ ⟨v, h1, h2⟩ => ⟨v, by rw [decide_eq_false hok] at h1; exact h1, h2⟩)) rfl rfl (by assumption) (Wn.none rfl) rfl ?_
      intro v39 M w H hle hr39
      replace hc0 := hc0.mono hle
      obtain ⟨v39, rfl, hf39⟩ := hr39
      refine WR.step (Ex.move rfl) (Wn.none rfl) rfl rfl ?_
      refine WR.step (Ex.extract rfl rfl) (Wn.none rfl) rfl rfl ?_
      refine WR.step (Ex.extract rfl rfl) (Wn.none rfl) rfl rfl ?_
      refine WR.step (Ex.assign rfl) (Wn.none rfl) rfl rfl ?_
      refine WR.step (Ex.assign rfl) (Wn.none rfl) rfl rfl ?_
      refine WR.nil ?_
      refine WQ.then ?_
      refine WC.seq ?_
      refine WC.seq ?_
      refine WC.region ?_
      refine WR.step (Ex.move rfl) (Wn.none rfl) rfl rfl ?_
      refine WR.step (Ex.notF rfl) (Wn.none rfl) rfl rfl ?_
      refine WR.nil ?_
      refine WQ.then ?_
      refine WC.condT rfl ?_
      refine WC.seq ?_
      refine WC.region ?_
      refine WR.step (Ex.move rfl) (Wn.none rfl) rfl rfl ?_
      refine WR.call H (fault_spec _ _) rfl (trivial) (Wn.none rfl) rfl ?_
      intro v45 M w H hle hr45
      replace hc0 := hc0.mono hle
      replace hf39 := hf39.mono hle
      obtain rfl := hr45
      refine WR.step (Ex.assign rfl) (Wn.none rfl) rfl rfl ?_
      refine WR.store [_, _] H rfl rfl rfl (by repeat (first | exact Upd.head | apply Upd.tail)) Tryd.sizeOf28 rfl (by rfl) (by rfl) (Wn.none rfl) ?_
      intro w H
      refine WR.nil ?_
      refine WQ.then ?_
      refine WC.ret ?_
      (repeat (first | refine WQ.thenRet ?_ | refine WQ.inBlockRet ?_))
      refine WQ.ret2 rfl rfl ⟨_, rfl, H.loadAgg (by repeat (first | exact List.Mem.head _ | apply List.Mem.tail)) Tryd.isAgg28 Tryd.sizeOf28 (by rfl)⟩ H.ext ?_
      refine ?_
      rw [hres]
  ·
    have hres : encGo (encK 0) (chars l) 0 = .ok o := by rw [hgo, List.drop_eq_nil_of_le (by omega), chars_nil]; simp [encGo, pre]
    refine WR.nextF H (Nat.le_of_not_lt h10_0) rfl (by repeat (first | exact List.Mem.head _ | apply List.Mem.tail)) (Wn.none rfl) rfl ?_
    refine WR.step (Ex.extract rfl rfl) (Wn.none rfl) rfl rfl ?_
    refine WR.nil ?_
    refine WQ.then ?_
    refine WC.seq ?_
    refine WC.condF rfl ?_
    refine WC.exit ?_
    refine WQ.thenExit ?_
    refine WQ.thenExit ?_
    refine WQ.exitHere ?_
    refine WQ.then ?_
    refine WC.seq ?_
    refine WC.region ?_
    refine WR.step (Ex.move rfl) (Wn.none rfl) rfl rfl ?_
    refine WR.call H (none_spec) rfl (trivial) (Wn.none rfl) rfl ?_
    intro v50 M w H hle hr50
    replace hc0 := hc0.mono hle
    obtain rfl := hr50
    refine WR.step (Ex.assign rfl) (Wn.none rfl) rfl rfl ?_
    refine WR.store [_, _] H rfl rfl rfl (by repeat (first | exact Upd.head | apply Upd.tail)) Tryd.sizeOf28 rfl (by rfl) (by rfl) (Wn.none rfl) ?_
    intro w H
    refine WR.nil ?_
    refine WQ.then ?_
    refine WC.ret ?_
    (repeat (first | refine WQ.thenRet ?_ | refine WQ.inBlockRet ?_))
    obtain ⟨M, hle, hf, H⟩ := H.freezeRow (v := ov) (enc := encB) (t := 5) (by repeat (first | exact Rem.head | apply Rem.tail))
    refine WQ.ret2 rfl rfl ⟨_, rfl, H.loadAgg (by repeat (first | exact List.Mem.head _ | apply List.Mem.tail)) Tryd.isAgg28 Tryd.sizeOf28 (by rfl)⟩ H.ext ?_
    refine ?_
    rw [hres]
    exact ⟨_, rfl, hf⟩

theorem encode_1 (name l : List UInt8) (hn : name.length ≤ maxLen) (hs : l.length ≤ 12000) (hk : setOf name = some 1) (hv : vld l = true) : Ct Tryd.prog 25 [S name, S l] (fun M => Tabs M) (fun r M => match encGo (encK 1) (chars l) 0 with | .ok b => ∃ v, r = .tuple #[v, fault 0 0] ∧ Bs M v b | .error e => r = .tuple #[.slice none 0 0, fault 17 (e : Int)]) := by
  refine Ct.of Tryd.func25 (enters Tryd.func25 (by kernel_rfl) rfl) rfl rfl rfl ?_
  intro w0 M0 H hp
  refine WC.seq ?_
  refine WC.region ?_
  refine WR.step (Ex.assign rfl) (Wn.none rfl) rfl rfl ?_
  refine WR.alloc [_, _] H Tryd.zeroValue28 rfl (Wn.none rfl) rfl ?_
  intro b5 w H
  refine WR.nil ?_
  refine WQ.then ?_
  refine WC.seq ?_
  refine WC.seq ?_
  refine WC.region ?_
  refine WR.step (Ex.move rfl) (Wn.none rfl) rfl rfl ?_
  refine WR.step (Ex.lenStr Tryd.underlying9 rfl) (Wn.none rfl) rfl rfl ?_
  refine WR.stepF (Ex.gtr rfl rfl) (by omega) (Wn.none rfl) rfl rfl ?_
  refine WR.nil ?_
  refine WQ.then ?_
  refine WC.condF rfl ?_
  refine WC.skip ?_
  refine WQ.then ?_
  refine WC.seq ?_
  refine WC.region ?_
  refine WR.step (Ex.move rfl) (Wn.none rfl) rfl rfl ?_
  refine WR.call H (Ct.mono (find_spec name hn) (R' := fun r M => ∃ b0 b1, CellM M ⟨b0, 0, none⟩ (encR 128) ∧ CellM M ⟨b1, 0, none⟩ (encR 256) ∧ r = .tuple #[.agg #[S [108, 97, 116, 105, 110, 49], .func (.func 62) #[] #[ptr b1 0], .func (.func 63) #[] #[ptr b1 0]], .bool true]) (fun _ _ ⟨b0, b1, h0, h1, h⟩ => ⟨b0, b1, h0, h1, by rw [hk] at h; exact h⟩)) rfl (trivial) (Wn.none rfl) rfl ?_
  intro v19 M w H hle hr19
  replace hp := hp.mono hle
  obtain ⟨b0, b1, hc0, hc1, rfl⟩ := hr19
  refine WR.step (Ex.move rfl) (Wn.none rfl) rfl rfl ?_
  refine WR.step (Ex.extract rfl rfl) (Wn.none rfl) rfl rfl ?_
  refine WR.step (Ex.extract rfl rfl) (Wn.none rfl) rfl rfl ?_
  refine WR.alloc [_, _, _] H Tryd.zeroValue61 rfl (Wn.none rfl) rfl ?_
  intro b6 w H
  refine WR.store [_, _, _] H rfl rfl rfl (by repeat (first | exact Upd.head | apply Upd.tail)) Tryd.sizeOf61 rfl (by rfl) (by rfl) (Wn.none rfl) ?_
  intro w H
  refine WR.step (Ex.assign rfl) (Wn.none rfl) rfl rfl ?_
  refine WR.nil ?_
  refine WQ.then ?_
  refine WC.seq ?_
  refine WC.seq ?_
  refine WC.region ?_
  refine WR.step (Ex.move rfl) (Wn.none rfl) rfl rfl ?_
  refine WR.step (Ex.notT rfl) (Wn.none rfl) rfl rfl ?_
  refine WR.nil ?_
  refine WQ.then ?_
  refine WC.condF rfl ?_
  refine WC.skip ?_
  refine WQ.then ?_
  refine WC.seq ?_
  refine WC.seq ?_
  refine WC.region ?_
  refine WR.step (Ex.move rfl) (Wn.none rfl) rfl rfl ?_
  refine WR.call H (Ct.mono (validString_spec l (by omega)) (R' := fun r _ => r = .bool true) (fun _ _ h => by rw [hv] at h; exact h)) rfl (by assumption) (Wn.none rfl) rfl ?_
  intro v26 M w H hle hr26
  replace hp := hp.mono hle
  replace hc0 := hc0.mono hle
  replace hc1 := hc1.mono hle
  obtain rfl := hr26
  refine WR.step (Ex.notT rfl) (Wn.none rfl) rfl rfl ?_
  refine WR.nil ?_
  refine WQ.then ?_
  refine WC.condF rfl ?_
  refine WC.skip ?_
  refine WQ.then ?_
  refine WC.seq ?_
  refine WC.region ?_
  replace H := H.newRow 5 encB
  refine WR.step (Ex.assign rfl) (Wn.none rfl) rfl rfl ?_
  refine WR.nil ?_
  refine WQ.then ?_
  refine WC.seq ?_
  refine WC.seq ?_
  refine WC.region ?_
  refine WR.step (Ex.move rfl) (Wn.none rfl) rfl rfl ?_
  refine WR.rangeStr H Tryd.underlying9 rfl (Wn.none rfl) rfl ?_
  intro b30 w H
  refine WR.nil ?_
  refine WQ.then ?_
  refine WC.block ?_
  refine WC.loop3 (fun (q : Nat) (ov : Value) (o : List UInt8) => [(5, ptr b5 0), (6, ptr b6 0), (8, ov), (30, ptr b30 0)]) (fun (q : Nat) (ov : Value) (o : List UInt8) w => (q ≤ l.length ∧ o.length ≤ 4 * q) ∧ vld (l.drop q) = true ∧ encGo (encK 1) (chars l) 0 = pre o (encGo (encK 1) (chars (l.drop q)) q) ∧ ∃ M, St w0 M0 M [.blk b30 (.stringIter ⟨l.toArray⟩ q), RowI 5 encB ov o, .blk b6 (.cells #[S [108, 97, 116, 105, 110, 49], .func (.func 62) #[] #[ptr b1 0], .func (.func 63) #[] #[ptr b1 0]] 61), .blk b5 (.cells #[I 0, I 0] 28)] w ∧ CellM M ⟨b1, 0, none⟩ (encR 256)) (fun (q : Nat) (ov : Value) (o : List UInt8) => l.length - q) (0) (_) (_) ⟨rfl, rfl, rfl, rfl, trivial⟩ (⟨by simp, hv, (pre_nil _).symm, M, H, hc1⟩) ?_
  intro q ov o w
  rintro ⟨hq, hvq, hgo, M, H, hc1⟩
  refine WC.seq ?_
  refine WC.region ?_
  by_cases h10_0 : q < l.length
  ·
    have hne := drop_ne (t := l) (n := q) h10_0
    have hrs := rune_size (l.drop q)
    have hrs3 := hrs.2.2 hne
    rw [List.length_drop] at hrs3
    rw [vld_cons hne, Bool.and_eq_true] at hvq
    have hr0 := of_decide_eq_true hvq.1
    have hvn := hvq.2
    have hrl := rune_lt (l.drop q)
    have hdr : ((dr (l.drop q)).1 : Int) = (rune (l.drop q)).1 := by rw [dr_fix0, fix0_id hr0]
    have hch : chars (l.drop q) = ((rune (l.drop q)).1, (l.drop q).take (rune (l.drop q)).2) :: chars (l.drop (q + (rune (l.drop q)).2)) := by rw [chars_cons hne, List.drop_drop]
    refine WR.nextT H h10_0 rfl (by repeat (first | exact Upd.head | apply Upd.tail)) (Wn.none rfl) rfl ?_
    intro w H
    refine WR.step (Ex.extract rfl rfl) (Wn.none rfl) rfl rfl ?_
    refine WR.nil ?_
    refine WQ.then ?_
    refine WC.seq ?_
    refine WC.condT rfl ?_
    refine WC.skip ?_
    refine WQ.then ?_
    refine WC.block ?_
    refine WC.seq ?_
    refine WC.region ?_
    refine WR.step (Ex.extract rfl rfl) (Wn.none rfl) rfl rfl ?_
    refine WR.stepE (v' := encR (rune (l.drop q)).1) (Ex.extract rfl rfl) (congrArg encR hdr) (Wn.none rfl) rfl rfl ?_
    refine WR.step (Ex.assign rfl) (Wn.none rfl) rfl rfl ?_
    refine WR.step (Ex.assign rfl) (Wn.none rfl) rfl rfl ?_
    refine WR.nil ?_
    refine WQ.then ?_
    refine WC.seq ?_
    refine WC.region ?_
    refine WR.step (Ex.fieldAddr Tryd.underlying61 rfl Tryd.sizeOf59 (by decide) rfl) (Wn.none rfl) rfl rfl ?_
    first | refine WR.step (Ex.loadM H rfl (by assumption) Tryd.isAgg59) (Wn.none rfl) rfl rfl ?_ | refine WR.step (Ex.load1 H rfl (by repeat (first | exact List.Mem.head _ | apply List.Mem.tail)) Tryd.isAgg59 (by rfl)) (Wn.none rfl) rfl rfl ?_
    refine WR.step (Ex.move rfl) (Wn.none rfl) rfl rfl ?_
    by_cases hok : (rune (l.drop q)).1 < 256
    ·
      have hstep : encK 1 (rune (l.drop q)).1 = some ([ub (rune (l.drop q)).1]) := by rw [encK1, Chs.encS, if_pos hok]
      have hbl := encK_len hstep
      refine WR.callV (cap := [ptr b1 0]) H (Ct.mono (enc1_spec (rune (l.drop q)).1 b1 256) (R' := fun r M => ∃ v, r = .tuple #[v, .bool true] ∧ Bs M v ([ub (rune (l.drop q)).1])) (fun _ _ ⟨v, h1, h2⟩ => ⟨v, by rw [decide_eq_true hok] at h1; exact h1, h2⟩)) rfl rfl (by assumption) (Wn.none rfl) rfl ?_
      intro v39 M w H hle hr39
      replace hc1 := hc1.mono hle
      obtain ⟨v39, rfl, hf39⟩ := hr39
      refine WR.step (Ex.move rfl) (Wn.none rfl) rfl rfl ?_
      refine WR.step (Ex.extract rfl rfl) (Wn.none rfl) rfl rfl ?_
      refine WR.step (Ex.extract rfl rfl) (Wn.none rfl) rfl rfl ?_
      refine WR.step (Ex.assign rfl) (Wn.none rfl) rfl rfl ?_
      refine WR.step (Ex.assign rfl) (Wn.none rfl) rfl rfl ?_
      refine WR.nil ?_
      refine WQ.then ?_
      refine WC.seq ?_
      refine WC.seq ?_
      refine WC.region ?_
      refine WR.step (Ex.move rfl) (Wn.none rfl) rfl rfl ?_
      refine WR.step (Ex.notT rfl) (Wn.none rfl) rfl rfl ?_
      refine WR.nil ?_
      refine WQ.then ?_
      refine WC.condF rfl ?_
      refine WC.skip ?_
      refine WQ.then ?_
      refine WC.region ?_
      refine WR.step (Ex.move rfl) (Wn.none rfl) rfl rfl ?_
      refine WR.step (Ex.move rfl) (Wn.none rfl) rfl rfl ?_
      refine WR.appendSl ty34 (fun _ => rfl) H rfl (fun _ => by repeat (first | exact Upd.head | apply Upd.tail)) rfl (by assumption) (by first | omega | (simp only [List.length_append, List.length_cons, List.length_nil, List.length_take, List.length_drop]; omega)) (by first | (simp only [maxLen]; omega) | (simp only [maxLen, List.length_append, List.length_cons, List.length_nil, List.length_take, List.length_drop]; omega)) (Wn.none rfl) rfl ?_
      intro v48 w H
      refine WR.step (Ex.assign rfl) (Wn.none rfl) rfl rfl ?_
      refine WR.nil ?_
      refine WQ.inBlock ?_
      refine WQ.again3 (q + (dr (l.drop q)).2) (v48) (o ++ ([ub (rune (l.drop q)).1])) ⟨rfl, rfl, rfl, rfl, trivial⟩ ?_ ?_
      · refine ⟨by rw [dr_size, List.length_append]; omega, ?_, ?_, M, H, hc1⟩
        · rw [dr_size, ← List.drop_drop]; exact hvn
        · rw [hgo, hch, encGo_step o hstep, dr_size]
          simp only [List.length_take, List.length_drop]
          rw [Nat.min_eq_left (by omega)]
      · rw [dr_size]; omega
    ·
      have hres : encGo (encK 1) (chars l) 0 = .error q := by rw [hgo, hch]; exact encGo_stop o (by rw [encK1, Chs.encS, if_neg hok])
      refine WR.callV (cap := [ptr b1 0]) H (Ct.mono (enc1_spec (rune (l.drop q)).1 b1 256) (R' := fun r M => ∃ v, r = .tuple #[v, .bool false] ∧ Bs M v ([ub (rune (l.drop q)).1])) (fun _ _ ⟨v, h1, h2⟩ => ⟨v, by rw [decide_eq_false hok] at h1; exact h1, h2⟩)) rfl rfl (by assumption) (Wn.none rfl) rfl ?_
      intro v39 M w H hle hr39
      replace hc1 := hc1.mono hle
      obtain ⟨v39, rfl, hf39⟩ := hr39
      refine WR.step (Ex.move rfl) (Wn.none rfl) rfl rfl ?_
      refine WR.step (Ex.extract rfl rfl) (Wn.none rfl) rfl rfl ?_
      refine WR.step (Ex.extract rfl rfl) (Wn.none rfl) rfl rfl ?_
      refine WR.step (Ex.assign rfl) (Wn.none rfl) rfl rfl ?_
      refine WR.step (Ex.assign rfl) (Wn.none rfl) rfl rfl ?_
      refine WR.nil ?_
      refine WQ.then ?_
      refine WC.seq ?_
      refine WC.seq ?_
      refine WC.region ?_
      refine WR.step (Ex.move rfl) (Wn.none rfl) rfl rfl ?_
      refine WR.step (Ex.notF rfl) (Wn.none rfl) rfl rfl ?_
      refine WR.nil ?_
      refine WQ.then ?_
      refine WC.condT rfl ?_
      refine WC.seq ?_
      refine WC.region ?_
      refine WR.step (Ex.move rfl) (Wn.none rfl) rfl rfl ?_
      refine WR.call H (fault_spec _ _) rfl (trivial) (Wn.none rfl) rfl ?_
      intro v45 M w H hle hr45
      replace hc1 := hc1.mono hle
      replace hf39 := hf39.mono hle
      obtain rfl := hr45
      refine WR.step (Ex.assign rfl) (Wn.none rfl) rfl rfl ?_
      refine WR.store [_, _] H rfl rfl rfl (by repeat (first | exact Upd.head | apply Upd.tail)) Tryd.sizeOf28 rfl (by rfl) (by rfl) (Wn.none rfl) ?_
      intro w H
      refine WR.nil ?_
      refine WQ.then ?_
      refine WC.ret ?_
      (repeat (first | refine WQ.thenRet ?_ | refine WQ.inBlockRet ?_))
      refine WQ.ret2 rfl rfl ⟨_, rfl, H.loadAgg (by repeat (first | exact List.Mem.head _ | apply List.Mem.tail)) Tryd.isAgg28 Tryd.sizeOf28 (by rfl)⟩ H.ext ?_
      refine ?_
      rw [hres]
  ·
    have hres : encGo (encK 1) (chars l) 0 = .ok o := by rw [hgo, List.drop_eq_nil_of_le (by omega), chars_nil]; simp [encGo, pre]
    refine WR.nextF H (Nat.le_of_not_lt h10_0) rfl (by repeat (first | exact List.Mem.head _ | apply List.Mem.tail)) (Wn.none rfl) rfl ?_
    refine WR.step (Ex.extract rfl rfl) (Wn.none rfl) rfl rfl ?_
    refine WR.nil ?_
    refine WQ.then ?_
    refine WC.seq ?_
    refine WC.condF rfl ?_
    refine WC.exit ?_
    refine WQ.thenExit ?_
    refine WQ.thenExit ?_
    refine WQ.exitHere ?_
    refine WQ.then ?_
    refine WC.seq ?_
    refine WC.region ?_
    refine WR.step (Ex.move rfl) (Wn.none rfl) rfl rfl ?_
    refine WR.call H (none_spec) rfl (trivial) (Wn.none rfl) rfl ?_
    intro v50 M w H hle hr50
    replace hc1 := hc1.mono hle
    obtain rfl := hr50
    refine WR.step (Ex.assign rfl) (Wn.none rfl) rfl rfl ?_
    refine WR.store [_, _] H rfl rfl rfl (by repeat (first | exact Upd.head | apply Upd.tail)) Tryd.sizeOf28 rfl (by rfl) (by rfl) (Wn.none rfl) ?_
    intro w H
    refine WR.nil ?_
    refine WQ.then ?_
    refine WC.ret ?_
    (repeat (first | refine WQ.thenRet ?_ | refine WQ.inBlockRet ?_))
    obtain ⟨M, hle, hf, H⟩ := H.freezeRow (v := ov) (enc := encB) (t := 5) (by repeat (first | exact Rem.head | apply Rem.tail))
    refine WQ.ret2 rfl rfl ⟨_, rfl, H.loadAgg (by repeat (first | exact List.Mem.head _ | apply List.Mem.tail)) Tryd.isAgg28 Tryd.sizeOf28 (by rfl)⟩ H.ext ?_
    refine ?_
    rw [hres]
    exact ⟨_, rfl, hf⟩

theorem encode_2 (name l : List UInt8) (hn : name.length ≤ maxLen) (hs : l.length ≤ 12000) (hk : setOf name = some 2) (hv : vld l = true) : Ct Tryd.prog 25 [S name, S l] (fun M => Tabs M) (fun r M => match encGo (encK 2) (chars l) 0 with | .ok b => ∃ v, r = .tuple #[v, fault 0 0] ∧ Bs M v b | .error e => r = .tuple #[.slice none 0 0, fault 17 (e : Int)]) := by
  refine Ct.of Tryd.func25 (enters Tryd.func25 (by kernel_rfl) rfl) rfl rfl rfl ?_
  intro w0 M0 H hp
  refine WC.seq ?_
  refine WC.region ?_
  refine WR.step (Ex.assign rfl) (Wn.none rfl) rfl rfl ?_
  refine WR.alloc [_, _] H Tryd.zeroValue28 rfl (Wn.none rfl) rfl ?_
  intro b5 w H
  refine WR.nil ?_
  refine WQ.then ?_
  refine WC.seq ?_
  refine WC.seq ?_
  refine WC.region ?_
  refine WR.step (Ex.move rfl) (Wn.none rfl) rfl rfl ?_
  refine WR.step (Ex.lenStr Tryd.underlying9 rfl) (Wn.none rfl) rfl rfl ?_
  refine WR.stepF (Ex.gtr rfl rfl) (by omega) (Wn.none rfl) rfl rfl ?_
  refine WR.nil ?_
  refine WQ.then ?_
  refine WC.condF rfl ?_
  refine WC.skip ?_
  refine WQ.then ?_
  refine WC.seq ?_
  refine WC.region ?_
  refine WR.step (Ex.move rfl) (Wn.none rfl) rfl rfl ?_
  refine WR.call H (Ct.mono (find_spec name hn) (R' := fun r M => ∃ b0 b1, CellM M ⟨b0, 0, none⟩ (encR 128) ∧ CellM M ⟨b1, 0, none⟩ (encR 256) ∧ r = .tuple #[.agg #[S [117, 116, 102, 56], .func (.func 50) #[] #[], .func (.func 51) #[] #[]], .bool true]) (fun _ _ ⟨b0, b1, h0, h1, h⟩ => ⟨b0, b1, h0, h1, by rw [hk] at h; exact h⟩)) rfl (trivial) (Wn.none rfl) rfl ?_
  intro v19 M w H hle hr19
  replace hp := hp.mono hle
  obtain ⟨b0, b1, hc0, hc1, rfl⟩ := hr19
  refine WR.step (Ex.move rfl) (Wn.none rfl) rfl rfl ?_
  refine WR.step (Ex.extract rfl rfl) (Wn.none rfl) rfl rfl ?_
  refine WR.step (Ex.extract rfl rfl) (Wn.none rfl) rfl rfl ?_
  refine WR.alloc [_, _, _] H Tryd.zeroValue61 rfl (Wn.none rfl) rfl ?_
  intro b6 w H
  refine WR.store [_, _, _] H rfl rfl rfl (by repeat (first | exact Upd.head | apply Upd.tail)) Tryd.sizeOf61 rfl (by rfl) (by rfl) (Wn.none rfl) ?_
  intro w H
  refine WR.step (Ex.assign rfl) (Wn.none rfl) rfl rfl ?_
  refine WR.nil ?_
  refine WQ.then ?_
  refine WC.seq ?_
  refine WC.seq ?_
  refine WC.region ?_
  refine WR.step (Ex.move rfl) (Wn.none rfl) rfl rfl ?_
  refine WR.step (Ex.notT rfl) (Wn.none rfl) rfl rfl ?_
  refine WR.nil ?_
  refine WQ.then ?_
  refine WC.condF rfl ?_
  refine WC.skip ?_
  refine WQ.then ?_
  refine WC.seq ?_
  refine WC.seq ?_
  refine WC.region ?_
  refine WR.step (Ex.move rfl) (Wn.none rfl) rfl rfl ?_
  refine WR.call H (Ct.mono (validString_spec l (by omega)) (R' := fun r _ => r = .bool true) (fun _ _ h => by rw [hv] at h; exact h)) rfl (by assumption) (Wn.none rfl) rfl ?_
  intro v26 M w H hle hr26
  replace hp := hp.mono hle
  replace hc0 := hc0.mono hle
  replace hc1 := hc1.mono hle
  obtain rfl := hr26
  refine WR.step (Ex.notT rfl) (Wn.none rfl) rfl rfl ?_
  refine WR.nil ?_
  refine WQ.then ?_
  refine WC.condF rfl ?_
  refine WC.skip ?_
  refine WQ.then ?_
  refine WC.seq ?_
  refine WC.region ?_
  replace H := H.newRow 5 encB
  refine WR.step (Ex.assign rfl) (Wn.none rfl) rfl rfl ?_
  refine WR.nil ?_
  refine WQ.then ?_
  refine WC.seq ?_
  refine WC.seq ?_
  refine WC.region ?_
  refine WR.step (Ex.move rfl) (Wn.none rfl) rfl rfl ?_
  refine WR.rangeStr H Tryd.underlying9 rfl (Wn.none rfl) rfl ?_
  intro b30 w H
  refine WR.nil ?_
  refine WQ.then ?_
  refine WC.block ?_
  refine WC.loop3 (fun (q : Nat) (ov : Value) (o : List UInt8) => [(5, ptr b5 0), (6, ptr b6 0), (8, ov), (30, ptr b30 0)]) (fun (q : Nat) (ov : Value) (o : List UInt8) w => (q ≤ l.length ∧ o.length ≤ 4 * q) ∧ vld (l.drop q) = true ∧ encGo (encK 2) (chars l) 0 = pre o (encGo (encK 2) (chars (l.drop q)) q) ∧ ∃ M, St w0 M0 M [.blk b30 (.stringIter ⟨l.toArray⟩ q), RowI 5 encB ov o, .blk b6 (.cells #[S [117, 116, 102, 56], .func (.func 50) #[] #[], .func (.func 51) #[] #[]] 61), .blk b5 (.cells #[I 0, I 0] 28)] w) (fun (q : Nat) (ov : Value) (o : List UInt8) => l.length - q) (0) (_) (_) ⟨rfl, rfl, rfl, rfl, trivial⟩ (⟨by simp, hv, (pre_nil _).symm, M, H⟩) ?_
  intro q ov o w
  rintro ⟨hq, hvq, hgo, M, H⟩
  refine WC.seq ?_
  refine WC.region ?_
  by_cases h10_0 : q < l.length
  ·
    have hne := drop_ne (t := l) (n := q) h10_0
    have hrs := rune_size (l.drop q)
    have hrs3 := hrs.2.2 hne
    rw [List.length_drop] at hrs3
    rw [vld_cons hne, Bool.and_eq_true] at hvq
    have hr0 := of_decide_eq_true hvq.1
    have hvn := hvq.2
    have hrl := rune_lt (l.drop q)
    have hdr : ((dr (l.drop q)).1 : Int) = (rune (l.drop q)).1 := by rw [dr_fix0, fix0_id hr0]
    have hch : chars (l.drop q) = ((rune (l.drop q)).1, (l.drop q).take (rune (l.drop q)).2) :: chars (l.drop (q + (rune (l.drop q)).2)) := by rw [chars_cons hne, List.drop_drop]
    have hstep : encK 2 (rune (l.drop q)).1 = some (utf8 (rune (l.drop q)).1) := by rw [encK2]; rfl
    have hbl := encK_len hstep
    refine WR.nextT H h10_0 rfl (by repeat (first | exact Upd.head | apply Upd.tail)) (Wn.none rfl) rfl ?_
    intro w H
    refine WR.step (Ex.extract rfl rfl) (Wn.none rfl) rfl rfl ?_
    refine WR.nil ?_
    refine WQ.then ?_
    refine WC.seq ?_
    refine WC.condT rfl ?_
    refine WC.skip ?_
    refine WQ.then ?_
    refine WC.block ?_
    refine WC.seq ?_
    refine WC.region ?_
    refine WR.step (Ex.extract rfl rfl) (Wn.none rfl) rfl rfl ?_
    refine WR.stepE (v' := encR (rune (l.drop q)).1) (Ex.extract rfl rfl) (congrArg encR hdr) (Wn.none rfl) rfl rfl ?_
    refine WR.step (Ex.assign rfl) (Wn.none rfl) rfl rfl ?_
    refine WR.step (Ex.assign rfl) (Wn.none rfl) rfl rfl ?_
    refine WR.nil ?_
    refine WQ.then ?_
    refine WC.seq ?_
    refine WC.region ?_
    refine WR.step (Ex.fieldAddr Tryd.underlying61 rfl Tryd.sizeOf59 (by decide) rfl) (Wn.none rfl) rfl rfl ?_
    first | refine WR.step (Ex.loadM H rfl (by assumption) Tryd.isAgg59) (Wn.none rfl) rfl rfl ?_ | refine WR.step (Ex.load1 H rfl (by repeat (first | exact List.Mem.head _ | apply List.Mem.tail)) Tryd.isAgg59 (by rfl)) (Wn.none rfl) rfl rfl ?_
    refine WR.step (Ex.move rfl) (Wn.none rfl) rfl rfl ?_
    refine WR.callV (cap := []) H (encU_spec (rune (l.drop q)).1 (by omega) (by omega)) rfl rfl (trivial) (Wn.none rfl) rfl ?_
    intro v39 M w H hle hr39
    obtain ⟨v39, rfl, hf39⟩ := hr39
    refine WR.step (Ex.move rfl) (Wn.none rfl) rfl rfl ?_
    refine WR.step (Ex.extract rfl rfl) (Wn.none rfl) rfl rfl ?_
    refine WR.step (Ex.extract rfl rfl) (Wn.none rfl) rfl rfl ?_
    refine WR.step (Ex.assign rfl) (Wn.none rfl) rfl rfl ?_
    refine WR.step (Ex.assign rfl) (Wn.none rfl) rfl rfl ?_
    refine WR.nil ?_
    refine WQ.then ?_
    refine WC.seq ?_
    refine WC.seq ?_
    refine WC.region ?_
    refine WR.step (Ex.move rfl) (Wn.none rfl) rfl rfl ?_
    refine WR.step (Ex.notT rfl) (Wn.none rfl) rfl rfl ?_
    refine WR.nil ?_
    refine WQ.then ?_
    refine WC.condF rfl ?_
    refine WC.skip ?_
    refine WQ.then ?_
    refine WC.region ?_
    refine WR.step (Ex.move rfl) (Wn.none rfl) rfl rfl ?_
    refine WR.step (Ex.move rfl) (Wn.none rfl) rfl rfl ?_
    refine WR.appendSl ty34 (fun _ => rfl) H rfl (fun _ => by repeat (first | exact Upd.head | apply Upd.tail)) rfl (by assumption) (by first | omega | (simp only [List.length_append, List.length_cons, List.length_nil, List.length_take, List.length_drop]; omega)) (by first | (simp only [maxLen]; omega) | (simp only [maxLen, List.length_append, List.length_cons, List.length_nil, List.length_take, List.length_drop]; omega)) (Wn.none rfl) rfl ?_
    intro v48 w H
    refine WR.step (Ex.assign rfl) (Wn.none rfl) rfl rfl ?_
    refine WR.nil ?_
    refine WQ.inBlock ?_
    refine WQ.again3 (q + (dr (l.drop q)).2) (v48) (o ++ (utf8 (rune (l.drop q)).1)) ⟨rfl, rfl, rfl, rfl, trivial⟩ ?_ ?_
    · refine ⟨by rw [dr_size, List.length_append]; omega, ?_, ?_, M, H⟩
      · rw [dr_size, ← List.drop_drop]; exact hvn
      · rw [hgo, hch, encGo_step o hstep, dr_size]
        simp only [List.length_take, List.length_drop]
        rw [Nat.min_eq_left (by omega)]
    · rw [dr_size]; omega
  ·
    have hres : encGo (encK 2) (chars l) 0 = .ok o := by rw [hgo, List.drop_eq_nil_of_le (by omega), chars_nil]; simp [encGo, pre]
    refine WR.nextF H (Nat.le_of_not_lt h10_0) rfl (by repeat (first | exact List.Mem.head _ | apply List.Mem.tail)) (Wn.none rfl) rfl ?_
    refine WR.step (Ex.extract rfl rfl) (Wn.none rfl) rfl rfl ?_
    refine WR.nil ?_
    refine WQ.then ?_
    refine WC.seq ?_
    refine WC.condF rfl ?_
    refine WC.exit ?_
    refine WQ.thenExit ?_
    refine WQ.thenExit ?_
    refine WQ.exitHere ?_
    refine WQ.then ?_
    refine WC.seq ?_
    refine WC.region ?_
    refine WR.step (Ex.move rfl) (Wn.none rfl) rfl rfl ?_
    refine WR.call H (none_spec) rfl (trivial) (Wn.none rfl) rfl ?_
    intro v50 M w H hle hr50
    obtain rfl := hr50
    refine WR.step (Ex.assign rfl) (Wn.none rfl) rfl rfl ?_
    refine WR.store [_, _] H rfl rfl rfl (by repeat (first | exact Upd.head | apply Upd.tail)) Tryd.sizeOf28 rfl (by rfl) (by rfl) (Wn.none rfl) ?_
    intro w H
    refine WR.nil ?_
    refine WQ.then ?_
    refine WC.ret ?_
    (repeat (first | refine WQ.thenRet ?_ | refine WQ.inBlockRet ?_))
    obtain ⟨M, hle, hf, H⟩ := H.freezeRow (v := ov) (enc := encB) (t := 5) (by repeat (first | exact Rem.head | apply Rem.tail))
    refine WQ.ret2 rfl rfl ⟨_, rfl, H.loadAgg (by repeat (first | exact List.Mem.head _ | apply List.Mem.tail)) Tryd.isAgg28 Tryd.sizeOf28 (by rfl)⟩ H.ext ?_
    refine ?_
    rw [hres]
    exact ⟨_, rfl, hf⟩

theorem encode_3 (name l : List UInt8) (hn : name.length ≤ maxLen) (hs : l.length ≤ 12000) (hk : setOf name = some 3) (hv : vld l = true) : Ct Tryd.prog 25 [S name, S l] (fun M => Tabs M) (fun r M => match encGo (encK 3) (chars l) 0 with | .ok b => ∃ v, r = .tuple #[v, fault 0 0] ∧ Bs M v b | .error e => r = .tuple #[.slice none 0 0, fault 17 (e : Int)]) := by
  refine Ct.of Tryd.func25 (enters Tryd.func25 (by kernel_rfl) rfl) rfl rfl rfl ?_
  intro w0 M0 H hp
  refine WC.seq ?_
  refine WC.region ?_
  refine WR.step (Ex.assign rfl) (Wn.none rfl) rfl rfl ?_
  refine WR.alloc [_, _] H Tryd.zeroValue28 rfl (Wn.none rfl) rfl ?_
  intro b5 w H
  refine WR.nil ?_
  refine WQ.then ?_
  refine WC.seq ?_
  refine WC.seq ?_
  refine WC.region ?_
  refine WR.step (Ex.move rfl) (Wn.none rfl) rfl rfl ?_
  refine WR.step (Ex.lenStr Tryd.underlying9 rfl) (Wn.none rfl) rfl rfl ?_
  refine WR.stepF (Ex.gtr rfl rfl) (by omega) (Wn.none rfl) rfl rfl ?_
  refine WR.nil ?_
  refine WQ.then ?_
  refine WC.condF rfl ?_
  refine WC.skip ?_
  refine WQ.then ?_
  refine WC.seq ?_
  refine WC.region ?_
  refine WR.step (Ex.move rfl) (Wn.none rfl) rfl rfl ?_
  refine WR.call H (Ct.mono (find_spec name hn) (R' := fun r M => ∃ b0 b1, CellM M ⟨b0, 0, none⟩ (encR 128) ∧ CellM M ⟨b1, 0, none⟩ (encR 256) ∧ r = .tuple #[.agg #[S [117, 116, 102, 49, 54, 98, 101], .func (.func 53) #[] #[], .func (.func 54) #[] #[]], .bool true]) (fun _ _ ⟨b0, b1, h0, h1, h⟩ => ⟨b0, b1, h0, h1, by rw [hk] at h; exact h⟩)) rfl (trivial) (Wn.none rfl) rfl ?_
  intro v19 M w H hle hr19
  replace hp := hp.mono hle
  obtain ⟨b0, b1, hc0, hc1, rfl⟩ := hr19
  refine WR.step (Ex.move rfl) (Wn.none rfl) rfl rfl ?_
  refine WR.step (Ex.extract rfl rfl) (Wn.none rfl) rfl rfl ?_
  refine WR.step (Ex.extract rfl rfl) (Wn.none rfl) rfl rfl ?_
  refine WR.alloc [_, _, _] H Tryd.zeroValue61 rfl (Wn.none rfl) rfl ?_
  intro b6 w H
  refine WR.store [_, _, _] H rfl rfl rfl (by repeat (first | exact Upd.head | apply Upd.tail)) Tryd.sizeOf61 rfl (by rfl) (by rfl) (Wn.none rfl) ?_
  intro w H
  refine WR.step (Ex.assign rfl) (Wn.none rfl) rfl rfl ?_
  refine WR.nil ?_
  refine WQ.then ?_
  refine WC.seq ?_
  refine WC.seq ?_
  refine WC.region ?_
  refine WR.step (Ex.move rfl) (Wn.none rfl) rfl rfl ?_
  refine WR.step (Ex.notT rfl) (Wn.none rfl) rfl rfl ?_
  refine WR.nil ?_
  refine WQ.then ?_
  refine WC.condF rfl ?_
  refine WC.skip ?_
  refine WQ.then ?_
  refine WC.seq ?_
  refine WC.seq ?_
  refine WC.region ?_
  refine WR.step (Ex.move rfl) (Wn.none rfl) rfl rfl ?_
  refine WR.call H (Ct.mono (validString_spec l (by omega)) (R' := fun r _ => r = .bool true) (fun _ _ h => by rw [hv] at h; exact h)) rfl (by assumption) (Wn.none rfl) rfl ?_
  intro v26 M w H hle hr26
  replace hp := hp.mono hle
  replace hc0 := hc0.mono hle
  replace hc1 := hc1.mono hle
  obtain rfl := hr26
  refine WR.step (Ex.notT rfl) (Wn.none rfl) rfl rfl ?_
  refine WR.nil ?_
  refine WQ.then ?_
  refine WC.condF rfl ?_
  refine WC.skip ?_
  refine WQ.then ?_
  refine WC.seq ?_
  refine WC.region ?_
  replace H := H.newRow 5 encB
  refine WR.step (Ex.assign rfl) (Wn.none rfl) rfl rfl ?_
  refine WR.nil ?_
  refine WQ.then ?_
  refine WC.seq ?_
  refine WC.seq ?_
  refine WC.region ?_
  refine WR.step (Ex.move rfl) (Wn.none rfl) rfl rfl ?_
  refine WR.rangeStr H Tryd.underlying9 rfl (Wn.none rfl) rfl ?_
  intro b30 w H
  refine WR.nil ?_
  refine WQ.then ?_
  refine WC.block ?_
  refine WC.loop3 (fun (q : Nat) (ov : Value) (o : List UInt8) => [(5, ptr b5 0), (6, ptr b6 0), (8, ov), (30, ptr b30 0)]) (fun (q : Nat) (ov : Value) (o : List UInt8) w => (q ≤ l.length ∧ o.length ≤ 4 * q) ∧ vld (l.drop q) = true ∧ encGo (encK 3) (chars l) 0 = pre o (encGo (encK 3) (chars (l.drop q)) q) ∧ ∃ M, St w0 M0 M [.blk b30 (.stringIter ⟨l.toArray⟩ q), RowI 5 encB ov o, .blk b6 (.cells #[S [117, 116, 102, 49, 54, 98, 101], .func (.func 53) #[] #[], .func (.func 54) #[] #[]] 61), .blk b5 (.cells #[I 0, I 0] 28)] w) (fun (q : Nat) (ov : Value) (o : List UInt8) => l.length - q) (0) (_) (_) ⟨rfl, rfl, rfl, rfl, trivial⟩ (⟨by simp, hv, (pre_nil _).symm, M, H⟩) ?_
  intro q ov o w
  rintro ⟨hq, hvq, hgo, M, H⟩
  refine WC.seq ?_
  refine WC.region ?_
  by_cases h10_0 : q < l.length
  ·
    have hne := drop_ne (t := l) (n := q) h10_0
    have hrs := rune_size (l.drop q)
    have hrs3 := hrs.2.2 hne
    rw [List.length_drop] at hrs3
    rw [vld_cons hne, Bool.and_eq_true] at hvq
    have hr0 := of_decide_eq_true hvq.1
    have hvn := hvq.2
    have hrl := rune_lt (l.drop q)
    have hdr : ((dr (l.drop q)).1 : Int) = (rune (l.drop q)).1 := by rw [dr_fix0, fix0_id hr0]
    have hch : chars (l.drop q) = ((rune (l.drop q)).1, (l.drop q).take (rune (l.drop q)).2) :: chars (l.drop (q + (rune (l.drop q)).2)) := by rw [chars_cons hne, List.drop_drop]
    have hstep : encK 3 (rune (l.drop q)).1 = some (encWb (rune (l.drop q)).1) := by rw [encK3]; rfl
    have hbl := encK_len hstep
    refine WR.nextT H h10_0 rfl (by repeat (first | exact Upd.head | apply Upd.tail)) (Wn.none rfl) rfl ?_
    intro w H
    refine WR.step (Ex.extract rfl rfl) (Wn.none rfl) rfl rfl ?_
    refine WR.nil ?_
    refine WQ.then ?_
    refine WC.seq ?_
    refine WC.condT rfl ?_
    refine WC.skip ?_
    refine WQ.then ?_
    refine WC.block ?_
    refine WC.seq ?_
    refine WC.region ?_
    refine WR.step (Ex.extract rfl rfl) (Wn.none rfl) rfl rfl ?_
    refine WR.stepE (v' := encR (rune (l.drop q)).1) (Ex.extract rfl rfl) (congrArg encR hdr) (Wn.none rfl) rfl rfl ?_
    refine WR.step (Ex.assign rfl) (Wn.none rfl) rfl rfl ?_
    refine WR.step (Ex.assign rfl) (Wn.none rfl) rfl rfl ?_
    refine WR.nil ?_
    refine WQ.then ?_
    refine WC.seq ?_
    refine WC.region ?_
    refine WR.step (Ex.fieldAddr Tryd.underlying61 rfl Tryd.sizeOf59 (by decide) rfl) (Wn.none rfl) rfl rfl ?_
    first | refine WR.step (Ex.loadM H rfl (by assumption) Tryd.isAgg59) (Wn.none rfl) rfl rfl ?_ | refine WR.step (Ex.load1 H rfl (by repeat (first | exact List.Mem.head _ | apply List.Mem.tail)) Tryd.isAgg59 (by rfl)) (Wn.none rfl) rfl rfl ?_
    refine WR.step (Ex.move rfl) (Wn.none rfl) rfl rfl ?_
    refine WR.callV (cap := []) H ((show Ct Tryd.prog 54 [encR (rune (l.drop q)).1] (fun _ => True) (fun r M => ∃ v, r = .tuple #[v, .bool true] ∧ Bs M v (encWb (rune (l.drop q)).1)) by
      have h := double_spec (rune (l.drop q)).1.toNat (by omega)
      rw [Int.toNat_of_nonneg hr0] at h
      exact h)) rfl rfl (trivial) (Wn.none rfl) rfl ?_
    intro v39 M w H hle hr39
    obtain ⟨v39, rfl, hf39⟩ := hr39
    refine WR.step (Ex.move rfl) (Wn.none rfl) rfl rfl ?_
    refine WR.step (Ex.extract rfl rfl) (Wn.none rfl) rfl rfl ?_
    refine WR.step (Ex.extract rfl rfl) (Wn.none rfl) rfl rfl ?_
    refine WR.step (Ex.assign rfl) (Wn.none rfl) rfl rfl ?_
    refine WR.step (Ex.assign rfl) (Wn.none rfl) rfl rfl ?_
    refine WR.nil ?_
    refine WQ.then ?_
    refine WC.seq ?_
    refine WC.seq ?_
    refine WC.region ?_
    refine WR.step (Ex.move rfl) (Wn.none rfl) rfl rfl ?_
    refine WR.step (Ex.notT rfl) (Wn.none rfl) rfl rfl ?_
    refine WR.nil ?_
    refine WQ.then ?_
    refine WC.condF rfl ?_
    refine WC.skip ?_
    refine WQ.then ?_
    refine WC.region ?_
    refine WR.step (Ex.move rfl) (Wn.none rfl) rfl rfl ?_
    refine WR.step (Ex.move rfl) (Wn.none rfl) rfl rfl ?_
    refine WR.appendSl ty34 (fun _ => rfl) H rfl (fun _ => by repeat (first | exact Upd.head | apply Upd.tail)) rfl (by assumption) (by first | omega | (simp only [List.length_append, List.length_cons, List.length_nil, List.length_take, List.length_drop]; omega)) (by first | (simp only [maxLen]; omega) | (simp only [maxLen, List.length_append, List.length_cons, List.length_nil, List.length_take, List.length_drop]; omega)) (Wn.none rfl) rfl ?_
    intro v48 w H
    refine WR.step (Ex.assign rfl) (Wn.none rfl) rfl rfl ?_
    refine WR.nil ?_
    refine WQ.inBlock ?_
    refine WQ.again3 (q + (dr (l.drop q)).2) (v48) (o ++ (encWb (rune (l.drop q)).1)) ⟨rfl, rfl, rfl, rfl, trivial⟩ ?_ ?_
    · refine ⟨by rw [dr_size, List.length_append]; omega, ?_, ?_, M, H⟩
      · rw [dr_size, ← List.drop_drop]; exact hvn
      · rw [hgo, hch, encGo_step o hstep, dr_size]
        simp only [List.length_take, List.length_drop]
        rw [Nat.min_eq_left (by omega)]
    · rw [dr_size]; omega
  ·
    have hres : encGo (encK 3) (chars l) 0 = .ok o := by rw [hgo, List.drop_eq_nil_of_le (by omega), chars_nil]; simp [encGo, pre]
    refine WR.nextF H (Nat.le_of_not_lt h10_0) rfl (by repeat (first | exact List.Mem.head _ | apply List.Mem.tail)) (Wn.none rfl) rfl ?_
    refine WR.step (Ex.extract rfl rfl) (Wn.none rfl) rfl rfl ?_
    refine WR.nil ?_
    refine WQ.then ?_
    refine WC.seq ?_
    refine WC.condF rfl ?_
    refine WC.exit ?_
    refine WQ.thenExit ?_
    refine WQ.thenExit ?_
    refine WQ.exitHere ?_
    refine WQ.then ?_
    refine WC.seq ?_
    refine WC.region ?_
    refine WR.step (Ex.move rfl) (Wn.none rfl) rfl rfl ?_
    refine WR.call H (none_spec) rfl (trivial) (Wn.none rfl) rfl ?_
    intro v50 M w H hle hr50
    obtain rfl := hr50
    refine WR.step (Ex.assign rfl) (Wn.none rfl) rfl rfl ?_
    refine WR.store [_, _] H rfl rfl rfl (by repeat (first | exact Upd.head | apply Upd.tail)) Tryd.sizeOf28 rfl (by rfl) (by rfl) (Wn.none rfl) ?_
    intro w H
    refine WR.nil ?_
    refine WQ.then ?_
    refine WC.ret ?_
    (repeat (first | refine WQ.thenRet ?_ | refine WQ.inBlockRet ?_))
    obtain ⟨M, hle, hf, H⟩ := H.freezeRow (v := ov) (enc := encB) (t := 5) (by repeat (first | exact Rem.head | apply Rem.tail))
    refine WQ.ret2 rfl rfl ⟨_, rfl, H.loadAgg (by repeat (first | exact List.Mem.head _ | apply List.Mem.tail)) Tryd.isAgg28 Tryd.sizeOf28 (by rfl)⟩ H.ext ?_
    refine ?_
    rw [hres]
    exact ⟨_, rfl, hf⟩

end Go.Proofs.YtnjglbmaonbcbaaDoor
