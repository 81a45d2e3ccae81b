/-
  Cod, Rdc, Ren, B64Plain, Ref, Dec, Grp, Wpf: own texts of this repository (wip/tpl, wip/plans), merged and shaken by wip/tools/pack.py.
-/
import Derived.KernelRfl
import Derived.Test.YtogkmhjnojphiaaGreatDoorE1c
set_option maxRecDepth 100000
section
set_option linter.unusedVariables false
set_option linter.unusedSimpArgs false
namespace Go.Proofs.YtogkmhjnojphiaaGreatDoor
open Go Go.RowKit Go.Ph
open Go.Ph.Gr Go.Ph.Utf Go.Ph.Chs
theorem decode_unk (name : List UInt8) (v : Value) (l : List UInt8) (hn : name.length ≤ maxLen) (hs : l.length ≤ 12000) (hk : setOf name = none) : Ct Tryz.prog 97 [S name, v] (fun M => Bs M v l) (fun r _ => r = .tuple #[S [], fault 18 (-2)]) := by
  refine Ct.of Tryz.func97 (enters Tryz.func97 (by kernel_rfl) rfl) rfl rfl rfl ?_
  intro w0 M0 H hp
  refine SQ (RG (AS rfl rfl (WR.alloc [_, _] H Tryz.zeroValue24 rfl (Wn.none rfl) rfl ?_)))
  intro b5 w H
  refine NL (TN (SQ (SQ (RG (MV rfl rfl ?_)))))
  first | refine WR.step (Ex.lenSl Tryz.underlying30 (by assumption) rfl) (Wn.none rfl) rfl rfl ?_ | refine WR.step (Ex.lenRow Tryz.underlying30 H (by repeat (first | exact List.Mem.head _ | apply List.Mem.tail)) rfl) (Wn.none rfl) rfl rfl ?_ | refine WR.step (Ex.lenSlice Tryz.underlying30 rfl) (Wn.none rfl) rfl rfl ?_
  refine WR.stepF (Ex.gtr rfl rfl) (by omega) (Wn.none rfl) rfl rfl ?_
  refine NL (TN (CF rfl (SK (TN (SQ (RG (MV rfl rfl (WR.call H (Ct.mono (find_spec name hn) (R' := fun r M => ∃ b0 b1, CellM M ⟨b0, 0, none⟩ (encR 128) ∧ CellM M ⟨b1, 0, none⟩ (encR 256) ∧ r = .tuple #[.agg #[S [], .nilFunc, .nilFunc], .bool false]) (fun _ _ ⟨b0, b1, h0, h1, h⟩ => ⟨b0, b1, h0, h1, by rw [hk] at h; exact h⟩)) rfl (trivial) (Wn.none rfl) rfl ?_))))))))
  intro v14 M w H hle hr14
  replace hp := hp.mono hle
  obtain ⟨b0, b1, hc0, hc1, rfl⟩ := hr14
  refine MV rfl rfl (ST (Ex.extract rfl rfl) rfl (ST (Ex.extract rfl rfl) rfl (WR.alloc [_, _, _] H Tryz.zeroValue156 rfl (Wn.none rfl) rfl ?_)))
  intro b6 w H
  refine WR.store [_, _, _] H rfl rfl rfl (by repeat first | exact .head | apply Upd.tail) Tryz.sizeOf156 rfl (by rfl) (by rfl) (Wn.none rfl) ?_
  intro w H
  refine AS rfl rfl (NL (TN (SQ (SQ (RG (MV rfl rfl (ST (Ex.notF rfl) rfl (NL (TN (CT rfl (SQ (RG (WR.call H (fault_spec _ _) rfl (trivial) (Wn.none rfl) rfl ?_)))))))))))))
  intro v19 M w H hle hr19
  replace hp := hp.mono hle
  replace hc0 := hc0.mono hle
  replace hc1 := hc1.mono hle
  obtain rfl := hr19
  refine AS rfl rfl (WR.store [_, _] H rfl rfl rfl (by repeat first | exact .head | apply Upd.tail) Tryz.sizeOf24 rfl (by rfl) (by rfl) (Wn.none rfl) ?_)
  intro w H
  refine NL (TN (RT ?_))
  refine WQ.ret2 rfl rfl ⟨_, rfl, H.loadAgg (by repeat (first | exact List.Mem.head _ | apply List.Mem.tail)) Tryz.isAgg24 Tryz.sizeOf24 (by rfl)⟩ H.ext ?_
  exact rfl
theorem decode_0 (name : List UInt8) (v : Value) (l : List UInt8) (hn : name.length ≤ maxLen) (hs : l.length ≤ 12000) (hk : setOf name = some 0) : Ct Tryz.prog 97 [S name, v] (fun M => Bs M v l) (fun r _ => r = .tuple #[S (decoded 0 l), fault 0 0]) := by
  refine Ct.of Tryz.func97 (enters Tryz.func97 (by kernel_rfl) rfl) rfl rfl rfl ?_
  intro w0 M0 H hp
  refine SQ (RG (AS rfl rfl (WR.alloc [_, _] H Tryz.zeroValue24 rfl (Wn.none rfl) rfl ?_)))
  intro b5 w H
  refine NL (TN (SQ (SQ (RG (MV rfl rfl ?_)))))
  first | refine WR.step (Ex.lenSl Tryz.underlying30 (by assumption) rfl) (Wn.none rfl) rfl rfl ?_ | refine WR.step (Ex.lenRow Tryz.underlying30 H (by repeat (first | exact List.Mem.head _ | apply List.Mem.tail)) rfl) (Wn.none rfl) rfl rfl ?_ | refine WR.step (Ex.lenSlice Tryz.underlying30 rfl) (Wn.none rfl) rfl rfl ?_
  refine WR.stepF (Ex.gtr rfl rfl) (by omega) (Wn.none rfl) rfl rfl ?_
  refine NL (TN (CF rfl (SK (TN (SQ (RG (MV rfl rfl (WR.call H (Ct.mono (find_spec name hn) (R' := fun r M => ∃ b0 b1, CellM M ⟨b0, 0, none⟩ (encR 128) ∧ CellM M ⟨b1, 0, none⟩ (encR 256) ∧ r = .tuple #[.agg #[S [97, 115, 99, 105, 105], .func (.func 186) #[] #[ptr b0 0], .func (.func 187) #[] #[ptr b0 0]], .bool true]) (fun _ _ ⟨b0, b1, h0, h1, h⟩ => ⟨b0, b1, h0, h1, by rw [hk] at h; exact h⟩)) rfl (trivial) (Wn.none rfl) rfl ?_))))))))
  intro v14 M w H hle hr14
  replace hp := hp.mono hle
  obtain ⟨b0, b1, hc0, hc1, rfl⟩ := hr14
  refine MV rfl rfl (ST (Ex.extract rfl rfl) rfl (ST (Ex.extract rfl rfl) rfl (WR.alloc [_, _, _] H Tryz.zeroValue156 rfl (Wn.none rfl) rfl ?_)))
  intro b6 w H
  refine WR.store [_, _, _] H rfl rfl rfl (by repeat first | exact .head | apply Upd.tail) Tryz.sizeOf156 rfl (by rfl) (by rfl) (Wn.none rfl) ?_
  intro w H
  refine AS rfl rfl (NL (TN (SQ (SQ (RG (MV rfl rfl (ST (Ex.notT rfl) rfl (NL (TN (CF rfl (SK (TN (SQ (WC.draw (m := 8) rfl rfl H ?_))))))))))))))
  intro w H
  refine WA.take (i := 0) rfl (by kernel_rfl) (by kernel_rfl) (by kernel_rfl) (fun _ => Ex.fieldAddr Tryz.underlying156 rfl Tryz.sizeOf153 (by decide) rfl) (Wn.none rfl) rfl rfl (fun _ _ => rfl) (WA.take (i := 2) rfl (by kernel_rfl) (by kernel_rfl) (by kernel_rfl) (fun _ => Ex.move rfl) (Wn.none rfl) rfl rfl (fun _ _ => rfl) (ON 1 (by kernel_rfl) rfl ?_))
  first | refine WR.step (Ex.loadM H rfl (by assumption) Tryz.isAgg153) (Wn.none rfl) rfl rfl ?_ | refine WR.step (Ex.load1 H rfl (by repeat (first | exact List.Mem.head _ | apply List.Mem.tail)) Tryz.isAgg153 (by rfl)) (Wn.none rfl) rfl rfl ?_
  refine NA (ON 3 (by kernel_rfl) rfl (WR.callV (cap := [ptr b0 0]) H (dec1_spec _ l b0 128 (by omega)) rfl rfl (⟨by assumption, by assumption⟩) (Wn.none rfl) rfl ?_))
  intro v23 M w H hle hr23
  replace hp := hp.mono hle
  replace hc0 := hc0.mono hle
  replace hc1 := hc1.mono hle
  have hf23 := hr23
  refine NA ?_
  refine WA.two (i := 4) (j := 5) (by kernel_rfl) rfl rfl ?_ ?_
  · refine ST (Ex.runesStr Tryz.underlying170 Tryz.underlying21 Tryz.underlying9 H (by assumption) rfl) rfl ?_
    refine NA (ON 5 (by kernel_rfl) rfl (WR.call H (none_spec) rfl (trivial) (Wn.none rfl) rfl ?_))
    intro v25 M w H hle hr25
    replace hp := hp.mono hle
    replace hc0 := hc0.mono hle
    replace hc1 := hc1.mono hle
    replace hf23 := hf23.mono hle
    obtain rfl := hr25
    refine NA (ON 6 (by kernel_rfl) rfl (AS rfl rfl (NA (ON 7 (by kernel_rfl) rfl (WR.store [_, _] H rfl rfl rfl (by repeat first | exact .head | apply Upd.tail) Tryz.sizeOf24 rfl (by rfl) (by rfl) (Wn.none rfl) ?_)))))
    intro w H
    refine NA (WA.done (by kernel_rfl) (TN (RT ?_)))
    refine WQ.ret2 rfl rfl ⟨_, rfl, H.loadAgg (by repeat (first | exact List.Mem.head _ | apply List.Mem.tail)) Tryz.isAgg24 Tryz.sizeOf24 (by rfl)⟩ H.ext ?_
    exact rfl
  · refine WR.call H (none_spec) rfl (trivial) (Wn.none rfl) rfl ?_
    intro v25 M w H hle hr25
    replace hp := hp.mono hle
    replace hc0 := hc0.mono hle
    replace hc1 := hc1.mono hle
    replace hf23 := hf23.mono hle
    obtain rfl := hr25
    refine NA (ON 4 (by kernel_rfl) rfl (ST (Ex.runesStr Tryz.underlying170 Tryz.underlying21 Tryz.underlying9 H (by assumption) rfl) rfl ?_))
    refine NA (ON 6 (by kernel_rfl) rfl (AS rfl rfl (NA (ON 7 (by kernel_rfl) rfl (WR.store [_, _] H rfl rfl rfl (by repeat first | exact .head | apply Upd.tail) Tryz.sizeOf24 rfl (by rfl) (by rfl) (Wn.none rfl) ?_)))))
    intro w H
    refine NA (WA.done (by kernel_rfl) (TN (RT ?_)))
    refine WQ.ret2 rfl rfl ⟨_, rfl, H.loadAgg (by repeat (first | exact List.Mem.head _ | apply List.Mem.tail)) Tryz.isAgg24 Tryz.sizeOf24 (by rfl)⟩ H.ext ?_
    exact rfl
theorem decode_1 (name : List UInt8) (v : Value) (l : List UInt8) (hn : name.length ≤ maxLen) (hs : l.length ≤ 12000) (hk : setOf name = some 1) : Ct Tryz.prog 97 [S name, v] (fun M => Bs M v l) (fun r _ => r = .tuple #[S (decoded 1 l), fault 0 0]) := by
  refine Ct.of Tryz.func97 (enters Tryz.func97 (by kernel_rfl) rfl) rfl rfl rfl ?_
  intro w0 M0 H hp
  refine SQ (RG (AS rfl rfl (WR.alloc [_, _] H Tryz.zeroValue24 rfl (Wn.none rfl) rfl ?_)))
  intro b5 w H
  refine NL (TN (SQ (SQ (RG (MV rfl rfl ?_)))))
  first | refine WR.step (Ex.lenSl Tryz.underlying30 (by assumption) rfl) (Wn.none rfl) rfl rfl ?_ | refine WR.step (Ex.lenRow Tryz.underlying30 H (by repeat (first | exact List.Mem.head _ | apply List.Mem.tail)) rfl) (Wn.none rfl) rfl rfl ?_ | refine WR.step (Ex.lenSlice Tryz.underlying30 rfl) (Wn.none rfl) rfl rfl ?_
  refine WR.stepF (Ex.gtr rfl rfl) (by omega) (Wn.none rfl) rfl rfl ?_
  refine NL (TN (CF rfl (SK (TN (SQ (RG (MV rfl rfl (WR.call H (Ct.mono (find_spec name hn) (R' := fun r M => ∃ b0 b1, CellM M ⟨b0, 0, none⟩ (encR 128) ∧ CellM M ⟨b1, 0, none⟩ (encR 256) ∧ r = .tuple #[.agg #[S [108, 97, 116, 105, 110, 49], .func (.func 186) #[] #[ptr b1 0], .func (.func 187) #[] #[ptr b1 0]], .bool true]) (fun _ _ ⟨b0, b1, h0, h1, h⟩ => ⟨b0, b1, h0, h1, by rw [hk] at h; exact h⟩)) rfl (trivial) (Wn.none rfl) rfl ?_))))))))
  intro v14 M w H hle hr14
  replace hp := hp.mono hle
  obtain ⟨b0, b1, hc0, hc1, rfl⟩ := hr14
  refine MV rfl rfl (ST (Ex.extract rfl rfl) rfl (ST (Ex.extract rfl rfl) rfl (WR.alloc [_, _, _] H Tryz.zeroValue156 rfl (Wn.none rfl) rfl ?_)))
  intro b6 w H
  refine WR.store [_, _, _] H rfl rfl rfl (by repeat first | exact .head | apply Upd.tail) Tryz.sizeOf156 rfl (by rfl) (by rfl) (Wn.none rfl) ?_
  intro w H
  refine AS rfl rfl (NL (TN (SQ (SQ (RG (MV rfl rfl (ST (Ex.notT rfl) rfl (NL (TN (CF rfl (SK (TN (SQ (WC.draw (m := 8) rfl rfl H ?_))))))))))))))
  intro w H
  refine WA.take (i := 0) rfl (by kernel_rfl) (by kernel_rfl) (by kernel_rfl) (fun _ => Ex.fieldAddr Tryz.underlying156 rfl Tryz.sizeOf153 (by decide) rfl) (Wn.none rfl) rfl rfl (fun _ _ => rfl) (WA.take (i := 2) rfl (by kernel_rfl) (by kernel_rfl) (by kernel_rfl) (fun _ => Ex.move rfl) (Wn.none rfl) rfl rfl (fun _ _ => rfl) (ON 1 (by kernel_rfl) rfl ?_))
  first | refine WR.step (Ex.loadM H rfl (by assumption) Tryz.isAgg153) (Wn.none rfl) rfl rfl ?_ | refine WR.step (Ex.load1 H rfl (by repeat (first | exact List.Mem.head _ | apply List.Mem.tail)) Tryz.isAgg153 (by rfl)) (Wn.none rfl) rfl rfl ?_
  refine NA (ON 3 (by kernel_rfl) rfl (WR.callV (cap := [ptr b1 0]) H (dec1_spec _ l b1 256 (by omega)) rfl rfl (⟨by assumption, by assumption⟩) (Wn.none rfl) rfl ?_))
  intro v23 M w H hle hr23
  replace hp := hp.mono hle
  replace hc0 := hc0.mono hle
  replace hc1 := hc1.mono hle
  have hf23 := hr23
  refine NA ?_
  refine WA.two (i := 4) (j := 5) (by kernel_rfl) rfl rfl ?_ ?_
  · refine ST (Ex.runesStr Tryz.underlying170 Tryz.underlying21 Tryz.underlying9 H (by assumption) rfl) rfl ?_
    refine NA (ON 5 (by kernel_rfl) rfl (WR.call H (none_spec) rfl (trivial) (Wn.none rfl) rfl ?_))
    intro v25 M w H hle hr25
    replace hp := hp.mono hle
    replace hc0 := hc0.mono hle
    replace hc1 := hc1.mono hle
    replace hf23 := hf23.mono hle
    obtain rfl := hr25
    refine NA (ON 6 (by kernel_rfl) rfl (AS rfl rfl (NA (ON 7 (by kernel_rfl) rfl (WR.store [_, _] H rfl rfl rfl (by repeat first | exact .head | apply Upd.tail) Tryz.sizeOf24 rfl (by rfl) (by rfl) (Wn.none rfl) ?_)))))
    intro w H
    refine NA (WA.done (by kernel_rfl) (TN (RT ?_)))
    refine WQ.ret2 rfl rfl ⟨_, rfl, H.loadAgg (by repeat (first | exact List.Mem.head _ | apply List.Mem.tail)) Tryz.isAgg24 Tryz.sizeOf24 (by rfl)⟩ H.ext ?_
    exact rfl
  · refine WR.call H (none_spec) rfl (trivial) (Wn.none rfl) rfl ?_
    intro v25 M w H hle hr25
    replace hp := hp.mono hle
    replace hc0 := hc0.mono hle
    replace hc1 := hc1.mono hle
    replace hf23 := hf23.mono hle
    obtain rfl := hr25
    refine NA (ON 4 (by kernel_rfl) rfl (ST (Ex.runesStr Tryz.underlying170 Tryz.underlying21 Tryz.underlying9 H (by assumption) rfl) rfl ?_))
    refine NA (ON 6 (by kernel_rfl) rfl (AS rfl rfl (NA (ON 7 (by kernel_rfl) rfl (WR.store [_, _] H rfl rfl rfl (by repeat first | exact .head | apply Upd.tail) Tryz.sizeOf24 rfl (by rfl) (by rfl) (Wn.none rfl) ?_)))))
    intro w H
    refine NA (WA.done (by kernel_rfl) (TN (RT ?_)))
    refine WQ.ret2 rfl rfl ⟨_, rfl, H.loadAgg (by repeat (first | exact List.Mem.head _ | apply List.Mem.tail)) Tryz.isAgg24 Tryz.sizeOf24 (by rfl)⟩ H.ext ?_
    exact rfl
theorem decode_2 (name : List UInt8) (v : Value) (l : List UInt8) (hn : name.length ≤ maxLen) (hs : l.length ≤ 12000) (hk : setOf name = some 2) : Ct Tryz.prog 97 [S name, v] (fun M => Bs M v l) (fun r _ => r = .tuple #[S (decoded 2 l), fault 0 0]) := by
  refine Ct.of Tryz.func97 (enters Tryz.func97 (by kernel_rfl) rfl) rfl rfl rfl ?_
  intro w0 M0 H hp
  refine SQ (RG (AS rfl rfl (WR.alloc [_, _] H Tryz.zeroValue24 rfl (Wn.none rfl) rfl ?_)))
  intro b5 w H
  refine NL (TN (SQ (SQ (RG (MV rfl rfl ?_)))))
  first | refine WR.step (Ex.lenSl Tryz.underlying30 (by assumption) rfl) (Wn.none rfl) rfl rfl ?_ | refine WR.step (Ex.lenRow Tryz.underlying30 H (by repeat (first | exact List.Mem.head _ | apply List.Mem.tail)) rfl) (Wn.none rfl) rfl rfl ?_ | refine WR.step (Ex.lenSlice Tryz.underlying30 rfl) (Wn.none rfl) rfl rfl ?_
  refine WR.stepF (Ex.gtr rfl rfl) (by omega) (Wn.none rfl) rfl rfl ?_
  refine NL (TN (CF rfl (SK (TN (SQ (RG (MV rfl rfl (WR.call H (Ct.mono (find_spec name hn) (R' := fun r M => ∃ b0 b1, CellM M ⟨b0, 0, none⟩ (encR 128) ∧ CellM M ⟨b1, 0, none⟩ (encR 256) ∧ r = .tuple #[.agg #[S [117, 116, 102, 56], .func (.func 158) #[] #[], .func (.func 159) #[] #[]], .bool true]) (fun _ _ ⟨b0, b1, h0, h1, h⟩ => ⟨b0, b1, h0, h1, by rw [hk] at h; exact h⟩)) rfl (trivial) (Wn.none rfl) rfl ?_))))))))
  intro v14 M w H hle hr14
  replace hp := hp.mono hle
  obtain ⟨b0, b1, hc0, hc1, rfl⟩ := hr14
  refine MV rfl rfl (ST (Ex.extract rfl rfl) rfl (ST (Ex.extract rfl rfl) rfl (WR.alloc [_, _, _] H Tryz.zeroValue156 rfl (Wn.none rfl) rfl ?_)))
  intro b6 w H
  refine WR.store [_, _, _] H rfl rfl rfl (by repeat first | exact .head | apply Upd.tail) Tryz.sizeOf156 rfl (by rfl) (by rfl) (Wn.none rfl) ?_
  intro w H
  refine AS rfl rfl (NL (TN (SQ (SQ (RG (MV rfl rfl (ST (Ex.notT rfl) rfl (NL (TN (CF rfl (SK (TN (SQ (WC.draw (m := 8) rfl rfl H ?_))))))))))))))
  intro w H
  refine WA.take (i := 0) rfl (by kernel_rfl) (by kernel_rfl) (by kernel_rfl) (fun _ => Ex.fieldAddr Tryz.underlying156 rfl Tryz.sizeOf153 (by decide) rfl) (Wn.none rfl) rfl rfl (fun _ _ => rfl) (WA.take (i := 2) rfl (by kernel_rfl) (by kernel_rfl) (by kernel_rfl) (fun _ => Ex.move rfl) (Wn.none rfl) rfl rfl (fun _ _ => rfl) (ON 1 (by kernel_rfl) rfl ?_))
  first | refine WR.step (Ex.loadM H rfl (by assumption) Tryz.isAgg153) (Wn.none rfl) rfl rfl ?_ | refine WR.step (Ex.load1 H rfl (by repeat (first | exact List.Mem.head _ | apply List.Mem.tail)) Tryz.isAgg153 (by rfl)) (Wn.none rfl) rfl rfl ?_
  refine NA (ON 3 (by kernel_rfl) rfl (WR.callV (cap := []) H (decU_spec _ l (by omega)) rfl rfl (by assumption) (Wn.none rfl) rfl ?_))
  intro v23 M w H hle hr23
  replace hp := hp.mono hle
  replace hc0 := hc0.mono hle
  replace hc1 := hc1.mono hle
  have hf23 := hr23
  refine NA ?_
  refine WA.two (i := 4) (j := 5) (by kernel_rfl) rfl rfl ?_ ?_
  · refine ST (Ex.runesStr Tryz.underlying170 Tryz.underlying21 Tryz.underlying9 H (by assumption) rfl) rfl ?_
    refine NA (ON 5 (by kernel_rfl) rfl (WR.call H (none_spec) rfl (trivial) (Wn.none rfl) rfl ?_))
    intro v25 M w H hle hr25
    replace hp := hp.mono hle
    replace hc0 := hc0.mono hle
    replace hc1 := hc1.mono hle
    replace hf23 := hf23.mono hle
    obtain rfl := hr25
    refine NA (ON 6 (by kernel_rfl) rfl (AS rfl rfl (NA (ON 7 (by kernel_rfl) rfl (WR.store [_, _] H rfl rfl rfl (by repeat first | exact .head | apply Upd.tail) Tryz.sizeOf24 rfl (by rfl) (by rfl) (Wn.none rfl) ?_)))))
    intro w H
    refine NA (WA.done (by kernel_rfl) (TN (RT ?_)))
    refine WQ.ret2 rfl rfl ⟨_, rfl, H.loadAgg (by repeat (first | exact List.Mem.head _ | apply List.Mem.tail)) Tryz.isAgg24 Tryz.sizeOf24 (by rfl)⟩ H.ext ?_
    exact rfl
  · refine WR.call H (none_spec) rfl (trivial) (Wn.none rfl) rfl ?_
    intro v25 M w H hle hr25
    replace hp := hp.mono hle
    replace hc0 := hc0.mono hle
    replace hc1 := hc1.mono hle
    replace hf23 := hf23.mono hle
    obtain rfl := hr25
    refine NA (ON 4 (by kernel_rfl) rfl (ST (Ex.runesStr Tryz.underlying170 Tryz.underlying21 Tryz.underlying9 H (by assumption) rfl) rfl ?_))
    refine NA (ON 6 (by kernel_rfl) rfl (AS rfl rfl (NA (ON 7 (by kernel_rfl) rfl (WR.store [_, _] H rfl rfl rfl (by repeat first | exact .head | apply Upd.tail) Tryz.sizeOf24 rfl (by rfl) (by rfl) (Wn.none rfl) ?_)))))
    intro w H
    refine NA (WA.done (by kernel_rfl) (TN (RT ?_)))
    refine WQ.ret2 rfl rfl ⟨_, rfl, H.loadAgg (by repeat (first | exact List.Mem.head _ | apply List.Mem.tail)) Tryz.isAgg24 Tryz.sizeOf24 (by rfl)⟩ H.ext ?_
    exact rfl
theorem decode_3 (name : List UInt8) (v : Value) (l : List UInt8) (hn : name.length ≤ maxLen) (hs : l.length ≤ 12000) (hk : setOf name = some 3) : Ct Tryz.prog 97 [S name, v] (fun M => Bs M v l) (fun r _ => r = .tuple #[S (decoded 3 l), fault 0 0]) := by
  refine Ct.of Tryz.func97 (enters Tryz.func97 (by kernel_rfl) rfl) rfl rfl rfl ?_
  intro w0 M0 H hp
  refine SQ (RG (AS rfl rfl (WR.alloc [_, _] H Tryz.zeroValue24 rfl (Wn.none rfl) rfl ?_)))
  intro b5 w H
  refine NL (TN (SQ (SQ (RG (MV rfl rfl ?_)))))
  first | refine WR.step (Ex.lenSl Tryz.underlying30 (by assumption) rfl) (Wn.none rfl) rfl rfl ?_ | refine WR.step (Ex.lenRow Tryz.underlying30 H (by repeat (first | exact List.Mem.head _ | apply List.Mem.tail)) rfl) (Wn.none rfl) rfl rfl ?_ | refine WR.step (Ex.lenSlice Tryz.underlying30 rfl) (Wn.none rfl) rfl rfl ?_
  refine WR.stepF (Ex.gtr rfl rfl) (by omega) (Wn.none rfl) rfl rfl ?_
  refine NL (TN (CF rfl (SK (TN (SQ (RG (MV rfl rfl (WR.call H (Ct.mono (find_spec name hn) (R' := fun r M => ∃ b0 b1, CellM M ⟨b0, 0, none⟩ (encR 128) ∧ CellM M ⟨b1, 0, none⟩ (encR 256) ∧ r = .tuple #[.agg #[S [117, 116, 102, 49, 54, 98, 101], .func (.func 161) #[] #[], .func (.func 162) #[] #[]], .bool true]) (fun _ _ ⟨b0, b1, h0, h1, h⟩ => ⟨b0, b1, h0, h1, by rw [hk] at h; exact h⟩)) rfl (trivial) (Wn.none rfl) rfl ?_))))))))
  intro v14 M w H hle hr14
  replace hp := hp.mono hle
  obtain ⟨b0, b1, hc0, hc1, rfl⟩ := hr14
  refine MV rfl rfl (ST (Ex.extract rfl rfl) rfl (ST (Ex.extract rfl rfl) rfl (WR.alloc [_, _, _] H Tryz.zeroValue156 rfl (Wn.none rfl) rfl ?_)))
  intro b6 w H
  refine WR.store [_, _, _] H rfl rfl rfl (by repeat first | exact .head | apply Upd.tail) Tryz.sizeOf156 rfl (by rfl) (by rfl) (Wn.none rfl) ?_
  intro w H
  refine AS rfl rfl (NL (TN (SQ (SQ (RG (MV rfl rfl (ST (Ex.notT rfl) rfl (NL (TN (CF rfl (SK (TN (SQ (WC.draw (m := 8) rfl rfl H ?_))))))))))))))
  intro w H
  refine WA.take (i := 0) rfl (by kernel_rfl) (by kernel_rfl) (by kernel_rfl) (fun _ => Ex.fieldAddr Tryz.underlying156 rfl Tryz.sizeOf153 (by decide) rfl) (Wn.none rfl) rfl rfl (fun _ _ => rfl) (WA.take (i := 2) rfl (by kernel_rfl) (by kernel_rfl) (by kernel_rfl) (fun _ => Ex.move rfl) (Wn.none rfl) rfl rfl (fun _ _ => rfl) (ON 1 (by kernel_rfl) rfl ?_))
  first | refine WR.step (Ex.loadM H rfl (by assumption) Tryz.isAgg153) (Wn.none rfl) rfl rfl ?_ | refine WR.step (Ex.load1 H rfl (by repeat (first | exact List.Mem.head _ | apply List.Mem.tail)) Tryz.isAgg153 (by rfl)) (Wn.none rfl) rfl rfl ?_
  refine NA (ON 3 (by kernel_rfl) rfl (WR.callV (cap := []) H (units_spec _ l (by omega)) rfl rfl (by assumption) (Wn.none rfl) rfl ?_))
  intro v23 M w H hle hr23
  replace hp := hp.mono hle
  replace hc0 := hc0.mono hle
  replace hc1 := hc1.mono hle
  have hf23 := hr23
  refine NA ?_
  refine WA.two (i := 4) (j := 5) (by kernel_rfl) rfl rfl ?_ ?_
  · refine ST (Ex.runesStr Tryz.underlying170 Tryz.underlying21 Tryz.underlying9 H (by assumption) rfl) rfl ?_
    refine NA (ON 5 (by kernel_rfl) rfl (WR.call H (none_spec) rfl (trivial) (Wn.none rfl) rfl ?_))
    intro v25 M w H hle hr25
    replace hp := hp.mono hle
    replace hc0 := hc0.mono hle
    replace hc1 := hc1.mono hle
    replace hf23 := hf23.mono hle
    obtain rfl := hr25
    refine NA (ON 6 (by kernel_rfl) rfl (AS rfl rfl (NA (ON 7 (by kernel_rfl) rfl (WR.store [_, _] H rfl rfl rfl (by repeat first | exact .head | apply Upd.tail) Tryz.sizeOf24 rfl (by rfl) (by rfl) (Wn.none rfl) ?_)))))
    intro w H
    refine NA (WA.done (by kernel_rfl) (TN (RT ?_)))
    refine WQ.ret2 rfl rfl ⟨_, rfl, H.loadAgg (by repeat (first | exact List.Mem.head _ | apply List.Mem.tail)) Tryz.isAgg24 Tryz.sizeOf24 (by rfl)⟩ H.ext ?_
    exact rfl
  · refine WR.call H (none_spec) rfl (trivial) (Wn.none rfl) rfl ?_
    intro v25 M w H hle hr25
    replace hp := hp.mono hle
    replace hc0 := hc0.mono hle
    replace hc1 := hc1.mono hle
    replace hf23 := hf23.mono hle
    obtain rfl := hr25
    refine NA (ON 4 (by kernel_rfl) rfl (ST (Ex.runesStr Tryz.underlying170 Tryz.underlying21 Tryz.underlying9 H (by assumption) rfl) rfl ?_))
    refine NA (ON 6 (by kernel_rfl) rfl (AS rfl rfl (NA (ON 7 (by kernel_rfl) rfl (WR.store [_, _] H rfl rfl rfl (by repeat first | exact .head | apply Upd.tail) Tryz.sizeOf24 rfl (by rfl) (by rfl) (Wn.none rfl) ?_)))))
    intro w H
    refine NA (WA.done (by kernel_rfl) (TN (RT ?_)))
    refine WQ.ret2 rfl rfl ⟨_, rfl, H.loadAgg (by repeat (first | exact List.Mem.head _ | apply List.Mem.tail)) Tryz.isAgg24 Tryz.sizeOf24 (by rfl)⟩ H.ext ?_
    exact rfl
theorem decode_spec_k (name : List UInt8) (v : Value) (l : List UInt8) (hn : name.length ≤ maxLen) (hs : l.length ≤ 12000) (k : Nat) (hk : setOf name = some k) : Ct Tryz.prog 97 [S name, v] (fun M => Bs M v l) (fun r _ => r = .tuple #[S (decoded k l), fault 0 0]) := by
  have h4 := setOf_lt hk
  rcases k with _ | _ | _ | _ | k
  · exact decode_0 name v l hn hs hk
  · exact decode_1 name v l hn hs hk
  · exact decode_2 name v l hn hs hk
  · exact decode_3 name v l hn hs hk
  · omega
theorem dr_fix0 (l : List UInt8) : ((dr l).1 : Int) = fix0 (rune l).1 := by
  rw [rune_dr]; unfold fix0
  split
  · rfl
  · simp only []; omega
theorem fix0_id {n : Int} (h : 0 ≤ n) : fix0 n = n := by unfold fix0; rw [if_neg (by omega)]
theorem encode_big (name l : List UInt8) (hn : name.length ≤ maxLen) (hs : 12000 < l.length) : Ct Tryz.prog 84 [S name, S l] (fun M => Tabs M) (fun r _ => r = .tuple #[.slice none 0 0, fault 1 (-1)]) := by
  refine Ct.of Tryz.func84 (enters Tryz.func84 (by kernel_rfl) rfl) rfl rfl rfl ?_
  intro w0 M0 H hp
  refine SQ (RG (AS rfl rfl (WR.alloc [_, _] H Tryz.zeroValue24 rfl (Wn.none rfl) rfl ?_)))
  intro b5 w H
  refine NL (TN (SQ (SQ (RG (MV rfl rfl (ST (Ex.lenStr Tryz.underlying9 rfl) rfl (WR.stepT (Ex.gtr rfl rfl) (by omega) (Wn.none rfl) rfl rfl ?_)))))))
  refine NL (TN (CT rfl (SQ (RG (WR.call H (fault_spec _ _) rfl (trivial) (Wn.none rfl) rfl ?_)))))
  intro v16 M w H hle hr16
  replace hp := hp.mono hle
  obtain rfl := hr16
  refine AS rfl rfl (WR.store [_, _] H rfl rfl rfl (by repeat first | exact .head | apply Upd.tail) Tryz.sizeOf24 rfl (by rfl) (by rfl) (Wn.none rfl) ?_)
  intro w H
  refine NL (TN (RT ?_))
  refine WQ.ret2 rfl rfl ⟨_, rfl, H.loadAgg (by repeat (first | exact List.Mem.head _ | apply List.Mem.tail)) Tryz.isAgg24 Tryz.sizeOf24 (by rfl)⟩ H.ext ?_
  exact rfl
theorem encode_unk (name l : List UInt8) (hn : name.length ≤ maxLen) (hs : l.length ≤ 12000) (hk : setOf name = none) : Ct Tryz.prog 84 [S name, S l] (fun M => Tabs M) (fun r _ => r = .tuple #[.slice none 0 0, fault 18 (-2)]) := by
  refine Ct.of Tryz.func84 (enters Tryz.func84 (by kernel_rfl) rfl) rfl rfl rfl ?_
  intro w0 M0 H hp
  refine SQ (RG (AS rfl rfl (WR.alloc [_, _] H Tryz.zeroValue24 rfl (Wn.none rfl) rfl ?_)))
  intro b5 w H
  refine NL (TN (SQ (SQ (RG (MV rfl rfl (ST (Ex.lenStr Tryz.underlying9 rfl) rfl (WR.stepF (Ex.gtr rfl rfl) (by omega) (Wn.none rfl) rfl rfl ?_)))))))
  refine NL (TN (CF rfl (SK (TN (SQ (RG (MV rfl rfl (WR.call H (Ct.mono (find_spec name hn) (R' := fun r M => ∃ b0 b1, CellM M ⟨b0, 0, none⟩ (encR 128) ∧ CellM M ⟨b1, 0, none⟩ (encR 256) ∧ r = .tuple #[.agg #[S [], .nilFunc, .nilFunc], .bool false]) (fun _ _ ⟨b0, b1, h0, h1, h⟩ => ⟨b0, b1, h0, h1, by rw [hk] at h; exact h⟩)) rfl (trivial) (Wn.none rfl) rfl ?_))))))))
  intro v19 M w H hle hr19
  replace hp := hp.mono hle
  obtain ⟨b0, b1, hc0, hc1, rfl⟩ := hr19
  refine MV rfl rfl (ST (Ex.extract rfl rfl) rfl (ST (Ex.extract rfl rfl) rfl (WR.alloc [_, _, _] H Tryz.zeroValue156 rfl (Wn.none rfl) rfl ?_)))
  intro b6 w H
  refine WR.store [_, _, _] H rfl rfl rfl (by repeat first | exact .head | apply Upd.tail) Tryz.sizeOf156 rfl (by rfl) (by rfl) (Wn.none rfl) ?_
  intro w H
  refine AS rfl rfl (NL (TN (SQ (SQ (RG (MV rfl rfl (ST (Ex.notF rfl) rfl (NL (TN (CT rfl (SQ (RG (WR.call H (fault_spec _ _) rfl (trivial) (Wn.none rfl) rfl ?_)))))))))))))
  intro v24 M w H hle hr24
  replace hp := hp.mono hle
  replace hc0 := hc0.mono hle
  replace hc1 := hc1.mono hle
  obtain rfl := hr24
  refine AS rfl rfl (WR.store [_, _] H rfl rfl rfl (by repeat first | exact .head | apply Upd.tail) Tryz.sizeOf24 rfl (by rfl) (by rfl) (Wn.none rfl) ?_)
  intro w H
  refine NL (TN (RT ?_))
  refine WQ.ret2 rfl rfl ⟨_, rfl, H.loadAgg (by repeat (first | exact List.Mem.head _ | apply List.Mem.tail)) Tryz.isAgg24 Tryz.sizeOf24 (by rfl)⟩ H.ext ?_
  exact rfl
theorem encode_mal0 (name l : List UInt8) (hn : name.length ≤ maxLen) (hs : l.length ≤ 12000) (hk : setOf name = some 0) (hv : vld l = false) : Ct Tryz.prog 84 [S name, S l] (fun M => Tabs M) (fun r _ => r = .tuple #[.slice none 0 0, fault 5 (-3)]) := by
  refine Ct.of Tryz.func84 (enters Tryz.func84 (by kernel_rfl) rfl) rfl rfl rfl ?_
  intro w0 M0 H hp
  refine SQ (RG (AS rfl rfl (WR.alloc [_, _] H Tryz.zeroValue24 rfl (Wn.none rfl) rfl ?_)))
  intro b5 w H
  refine NL (TN (SQ (SQ (RG (MV rfl rfl (ST (Ex.lenStr Tryz.underlying9 rfl) rfl (WR.stepF (Ex.gtr rfl rfl) (by omega) (Wn.none rfl) rfl rfl ?_)))))))
  refine NL (TN (CF rfl (SK (TN (SQ (RG (MV rfl rfl (WR.call H (Ct.mono (find_spec name hn) (R' := fun r M => ∃ b0 b1, CellM M ⟨b0, 0, none⟩ (encR 128) ∧ CellM M ⟨b1, 0, none⟩ (encR 256) ∧ r = .tuple #[.agg #[S [97, 115, 99, 105, 105], .func (.func 186) #[] #[ptr b0 0], .func (.func 187) #[] #[ptr b0 0]], .bool true]) (fun _ _ ⟨b0, b1, h0, h1, h⟩ => ⟨b0, b1, h0, h1, by rw [hk] at h; exact h⟩)) rfl (trivial) (Wn.none rfl) rfl ?_))))))))
  intro v19 M w H hle hr19
  replace hp := hp.mono hle
  obtain ⟨b0, b1, hc0, hc1, rfl⟩ := hr19
  refine MV rfl rfl (ST (Ex.extract rfl rfl) rfl (ST (Ex.extract rfl rfl) rfl (WR.alloc [_, _, _] H Tryz.zeroValue156 rfl (Wn.none rfl) rfl ?_)))
  intro b6 w H
  refine WR.store [_, _, _] H rfl rfl rfl (by repeat first | exact .head | apply Upd.tail) Tryz.sizeOf156 rfl (by rfl) (by rfl) (Wn.none rfl) ?_
  intro w H
  refine AS rfl rfl (NL (TN (SQ (SQ (RG (MV rfl rfl (ST (Ex.notT rfl) rfl (NL (TN (CF rfl (SK (TN (SQ (SQ (RG (MV rfl rfl (WR.call H (Ct.mono (validString_spec l (by omega)) (R' := fun r _ => r = .bool false) (fun _ _ h => by rw [hv] at h; exact h)) rfl (by assumption) (Wn.none rfl) rfl ?_)))))))))))))))))
  intro v26 M w H hle hr26
  replace hp := hp.mono hle
  replace hc0 := hc0.mono hle
  replace hc1 := hc1.mono hle
  obtain rfl := hr26
  refine ST (Ex.notF rfl) rfl (NL (TN (CT rfl (SQ (RG (WR.call H (fault_spec _ _) rfl (trivial) (Wn.none rfl) rfl ?_))))))
  intro v28 M w H hle hr28
  replace hp := hp.mono hle
  replace hc0 := hc0.mono hle
  replace hc1 := hc1.mono hle
  obtain rfl := hr28
  refine AS rfl rfl (WR.store [_, _] H rfl rfl rfl (by repeat first | exact .head | apply Upd.tail) Tryz.sizeOf24 rfl (by rfl) (by rfl) (Wn.none rfl) ?_)
  intro w H
  refine NL (TN (RT ?_))
  refine WQ.ret2 rfl rfl ⟨_, rfl, H.loadAgg (by repeat (first | exact List.Mem.head _ | apply List.Mem.tail)) Tryz.isAgg24 Tryz.sizeOf24 (by rfl)⟩ H.ext ?_
  exact rfl
theorem encode_mal1 (name l : List UInt8) (hn : name.length ≤ maxLen) (hs : l.length ≤ 12000) (hk : setOf name = some 1) (hv : vld l = false) : Ct Tryz.prog 84 [S name, S l] (fun M => Tabs M) (fun r _ => r = .tuple #[.slice none 0 0, fault 5 (-3)]) := by
  refine Ct.of Tryz.func84 (enters Tryz.func84 (by kernel_rfl) rfl) rfl rfl rfl ?_
  intro w0 M0 H hp
  refine SQ (RG (AS rfl rfl (WR.alloc [_, _] H Tryz.zeroValue24 rfl (Wn.none rfl) rfl ?_)))
  intro b5 w H
  refine NL (TN (SQ (SQ (RG (MV rfl rfl (ST (Ex.lenStr Tryz.underlying9 rfl) rfl (WR.stepF (Ex.gtr rfl rfl) (by omega) (Wn.none rfl) rfl rfl ?_)))))))
  refine NL (TN (CF rfl (SK (TN (SQ (RG (MV rfl rfl (WR.call H (Ct.mono (find_spec name hn) (R' := fun r M => ∃ b0 b1, CellM M ⟨b0, 0, none⟩ (encR 128) ∧ CellM M ⟨b1, 0, none⟩ (encR 256) ∧ r = .tuple #[.agg #[S [108, 97, 116, 105, 110, 49], .func (.func 186) #[] #[ptr b1 0], .func (.func 187) #[] #[ptr b1 0]], .bool true]) (fun _ _ ⟨b0, b1, h0, h1, h⟩ => ⟨b0, b1, h0, h1, by rw [hk] at h; exact h⟩)) rfl (trivial) (Wn.none rfl) rfl ?_))))))))
  intro v19 M w H hle hr19
  replace hp := hp.mono hle
  obtain ⟨b0, b1, hc0, hc1, rfl⟩ := hr19
  refine MV rfl rfl (ST (Ex.extract rfl rfl) rfl (ST (Ex.extract rfl rfl) rfl (WR.alloc [_, _, _] H Tryz.zeroValue156 rfl (Wn.none rfl) rfl ?_)))
  intro b6 w H
  refine WR.store [_, _, _] H rfl rfl rfl (by repeat first | exact .head | apply Upd.tail) Tryz.sizeOf156 rfl (by rfl) (by rfl) (Wn.none rfl) ?_
  intro w H
  refine AS rfl rfl (NL (TN (SQ (SQ (RG (MV rfl rfl (ST (Ex.notT rfl) rfl (NL (TN (CF rfl (SK (TN (SQ (SQ (RG (MV rfl rfl (WR.call H (Ct.mono (validString_spec l (by omega)) (R' := fun r _ => r = .bool false) (fun _ _ h => by rw [hv] at h; exact h)) rfl (by assumption) (Wn.none rfl) rfl ?_)))))))))))))))))
  intro v26 M w H hle hr26
  replace hp := hp.mono hle
  replace hc0 := hc0.mono hle
  replace hc1 := hc1.mono hle
  obtain rfl := hr26
  refine ST (Ex.notF rfl) rfl (NL (TN (CT rfl (SQ (RG (WR.call H (fault_spec _ _) rfl (trivial) (Wn.none rfl) rfl ?_))))))
  intro v28 M w H hle hr28
  replace hp := hp.mono hle
  replace hc0 := hc0.mono hle
  replace hc1 := hc1.mono hle
  obtain rfl := hr28
  refine AS rfl rfl (WR.store [_, _] H rfl rfl rfl (by repeat first | exact .head | apply Upd.tail) Tryz.sizeOf24 rfl (by rfl) (by rfl) (Wn.none rfl) ?_)
  intro w H
  refine NL (TN (RT ?_))
  refine WQ.ret2 rfl rfl ⟨_, rfl, H.loadAgg (by repeat (first | exact List.Mem.head _ | apply List.Mem.tail)) Tryz.isAgg24 Tryz.sizeOf24 (by rfl)⟩ H.ext ?_
  exact rfl
theorem encode_mal2 (name l : List UInt8) (hn : name.length ≤ maxLen) (hs : l.length ≤ 12000) (hk : setOf name = some 2) (hv : vld l = false) : Ct Tryz.prog 84 [S name, S l] (fun M => Tabs M) (fun r _ => r = .tuple #[.slice none 0 0, fault 5 (-3)]) := by
  refine Ct.of Tryz.func84 (enters Tryz.func84 (by kernel_rfl) rfl) rfl rfl rfl ?_
  intro w0 M0 H hp
  refine SQ (RG (AS rfl rfl (WR.alloc [_, _] H Tryz.zeroValue24 rfl (Wn.none rfl) rfl ?_)))
  intro b5 w H
  refine NL (TN (SQ (SQ (RG (MV rfl rfl (ST (Ex.lenStr Tryz.underlying9 rfl) rfl (WR.stepF (Ex.gtr rfl rfl) (by omega) (Wn.none rfl) rfl rfl ?_)))))))
  refine NL (TN (CF rfl (SK (TN (SQ (RG (MV rfl rfl (WR.call H (Ct.mono (find_spec name hn) (R' := fun r M => ∃ b0 b1, CellM M ⟨b0, 0, none⟩ (encR 128) ∧ CellM M ⟨b1, 0, none⟩ (encR 256) ∧ r = .tuple #[.agg #[S [117, 116, 102, 56], .func (.func 158) #[] #[], .func (.func 159) #[] #[]], .bool true]) (fun _ _ ⟨b0, b1, h0, h1, h⟩ => ⟨b0, b1, h0, h1, by rw [hk] at h; exact h⟩)) rfl (trivial) (Wn.none rfl) rfl ?_))))))))
  intro v19 M w H hle hr19
  replace hp := hp.mono hle
  obtain ⟨b0, b1, hc0, hc1, rfl⟩ := hr19
  refine MV rfl rfl (ST (Ex.extract rfl rfl) rfl (ST (Ex.extract rfl rfl) rfl (WR.alloc [_, _, _] H Tryz.zeroValue156 rfl (Wn.none rfl) rfl ?_)))
  intro b6 w H
  refine WR.store [_, _, _] H rfl rfl rfl (by repeat first | exact .head | apply Upd.tail) Tryz.sizeOf156 rfl (by rfl) (by rfl) (Wn.none rfl) ?_
  intro w H
  refine AS rfl rfl (NL (TN (SQ (SQ (RG (MV rfl rfl (ST (Ex.notT rfl) rfl (NL (TN (CF rfl (SK (TN (SQ (SQ (RG (MV rfl rfl (WR.call H (Ct.mono (validString_spec l (by omega)) (R' := fun r _ => r = .bool false) (fun _ _ h => by rw [hv] at h; exact h)) rfl (by assumption) (Wn.none rfl) rfl ?_)))))))))))))))))
  intro v26 M w H hle hr26
  replace hp := hp.mono hle
  replace hc0 := hc0.mono hle
  replace hc1 := hc1.mono hle
  obtain rfl := hr26
  refine ST (Ex.notF rfl) rfl (NL (TN (CT rfl (SQ (RG (WR.call H (fault_spec _ _) rfl (trivial) (Wn.none rfl) rfl ?_))))))
  intro v28 M w H hle hr28
  replace hp := hp.mono hle
  replace hc0 := hc0.mono hle
  replace hc1 := hc1.mono hle
  obtain rfl := hr28
  refine AS rfl rfl (WR.store [_, _] H rfl rfl rfl (by repeat first | exact .head | apply Upd.tail) Tryz.sizeOf24 rfl (by rfl) (by rfl) (Wn.none rfl) ?_)
  intro w H
  refine NL (TN (RT ?_))
  refine WQ.ret2 rfl rfl ⟨_, rfl, H.loadAgg (by repeat (first | exact List.Mem.head _ | apply List.Mem.tail)) Tryz.isAgg24 Tryz.sizeOf24 (by rfl)⟩ H.ext ?_
  exact rfl
theorem encode_mal3 (name l : List UInt8) (hn : name.length ≤ maxLen) (hs : l.length ≤ 12000) (hk : setOf name = some 3) (hv : vld l = false) : Ct Tryz.prog 84 [S name, S l] (fun M => Tabs M) (fun r _ => r = .tuple #[.slice none 0 0, fault 5 (-3)]) := by
  refine Ct.of Tryz.func84 (enters Tryz.func84 (by kernel_rfl) rfl) rfl rfl rfl ?_
  intro w0 M0 H hp
  refine SQ (RG (AS rfl rfl (WR.alloc [_, _] H Tryz.zeroValue24 rfl (Wn.none rfl) rfl ?_)))
  intro b5 w H
  refine NL (TN (SQ (SQ (RG (MV rfl rfl (ST (Ex.lenStr Tryz.underlying9 rfl) rfl (WR.stepF (Ex.gtr rfl rfl) (by omega) (Wn.none rfl) rfl rfl ?_)))))))
  refine NL (TN (CF rfl (SK (TN (SQ (RG (MV rfl rfl (WR.call H (Ct.mono (find_spec name hn) (R' := fun r M => ∃ b0 b1, CellM M ⟨b0, 0, none⟩ (encR 128) ∧ CellM M ⟨b1, 0, none⟩ (encR 256) ∧ r = .tuple #[.agg #[S [117, 116, 102, 49, 54, 98, 101], .func (.func 161) #[] #[], .func (.func 162) #[] #[]], .bool true]) (fun _ _ ⟨b0, b1, h0, h1, h⟩ => ⟨b0, b1, h0, h1, by rw [hk] at h; exact h⟩)) rfl (trivial) (Wn.none rfl) rfl ?_))))))))
  intro v19 M w H hle hr19
  replace hp := hp.mono hle
  obtain ⟨b0, b1, hc0, hc1, rfl⟩ := hr19
  refine MV rfl rfl (ST (Ex.extract rfl rfl) rfl (ST (Ex.extract rfl rfl) rfl (WR.alloc [_, _, _] H Tryz.zeroValue156 rfl (Wn.none rfl) rfl ?_)))
  intro b6 w H
  refine WR.store [_, _, _] H rfl rfl rfl (by repeat first | exact .head | apply Upd.tail) Tryz.sizeOf156 rfl (by rfl) (by rfl) (Wn.none rfl) ?_
  intro w H
  refine AS rfl rfl (NL (TN (SQ (SQ (RG (MV rfl rfl (ST (Ex.notT rfl) rfl (NL (TN (CF rfl (SK (TN (SQ (SQ (RG (MV rfl rfl (WR.call H (Ct.mono (validString_spec l (by omega)) (R' := fun r _ => r = .bool false) (fun _ _ h => by rw [hv] at h; exact h)) rfl (by assumption) (Wn.none rfl) rfl ?_)))))))))))))))))
  intro v26 M w H hle hr26
  replace hp := hp.mono hle
  replace hc0 := hc0.mono hle
  replace hc1 := hc1.mono hle
  obtain rfl := hr26
  refine ST (Ex.notF rfl) rfl (NL (TN (CT rfl (SQ (RG (WR.call H (fault_spec _ _) rfl (trivial) (Wn.none rfl) rfl ?_))))))
  intro v28 M w H hle hr28
  replace hp := hp.mono hle
  replace hc0 := hc0.mono hle
  replace hc1 := hc1.mono hle
  obtain rfl := hr28
  refine AS rfl rfl (WR.store [_, _] H rfl rfl rfl (by repeat first | exact .head | apply Upd.tail) Tryz.sizeOf24 rfl (by rfl) (by rfl) (Wn.none rfl) ?_)
  intro w H
  refine NL (TN (RT ?_))
  refine WQ.ret2 rfl rfl ⟨_, rfl, H.loadAgg (by repeat (first | exact List.Mem.head _ | apply List.Mem.tail)) Tryz.isAgg24 Tryz.sizeOf24 (by rfl)⟩ H.ext ?_
  exact rfl
theorem encode_0 (name l : List UInt8) (hn : name.length ≤ maxLen) (hs : l.length ≤ 12000) (hk : setOf name = some 0) (hv : vld l = true) : Ct Tryz.prog 84 [S name, S l] (fun M => Tabs M) (fun r M => match encGo (encK 0) (chars l) 0 with | .ok b => ∃ v, r = .tuple #[v, fault 0 0] ∧ Bs M v b | .error e => r = .tuple #[.slice none 0 0, fault 17 (e : Int)]) := by
  refine Ct.of Tryz.func84 (enters Tryz.func84 (by kernel_rfl) rfl) rfl rfl rfl ?_
  intro w0 M0 H hp
  refine SQ (RG (AS rfl rfl (WR.alloc [_, _] H Tryz.zeroValue24 rfl (Wn.none rfl) rfl ?_)))
  intro b5 w H
  refine NL (TN (SQ (SQ (RG (MV rfl rfl (ST (Ex.lenStr Tryz.underlying9 rfl) rfl (WR.stepF (Ex.gtr rfl rfl) (by omega) (Wn.none rfl) rfl rfl ?_)))))))
  refine NL (TN (CF rfl (SK (TN (SQ (RG (MV rfl rfl (WR.call H (Ct.mono (find_spec name hn) (R' := fun r M => ∃ b0 b1, CellM M ⟨b0, 0, none⟩ (encR 128) ∧ CellM M ⟨b1, 0, none⟩ (encR 256) ∧ r = .tuple #[.agg #[S [97, 115, 99, 105, 105], .func (.func 186) #[] #[ptr b0 0], .func (.func 187) #[] #[ptr b0 0]], .bool true]) (fun _ _ ⟨b0, b1, h0, h1, h⟩ => ⟨b0, b1, h0, h1, by rw [hk] at h; exact h⟩)) rfl (trivial) (Wn.none rfl) rfl ?_))))))))
  intro v19 M w H hle hr19
  replace hp := hp.mono hle
  obtain ⟨b0, b1, hc0, hc1, rfl⟩ := hr19
  refine MV rfl rfl (ST (Ex.extract rfl rfl) rfl (ST (Ex.extract rfl rfl) rfl (WR.alloc [_, _, _] H Tryz.zeroValue156 rfl (Wn.none rfl) rfl ?_)))
  intro b6 w H
  refine WR.store [_, _, _] H rfl rfl rfl (by repeat first | exact .head | apply Upd.tail) Tryz.sizeOf156 rfl (by rfl) (by rfl) (Wn.none rfl) ?_
  intro w H
  refine AS rfl rfl (NL (TN (SQ (SQ (RG (MV rfl rfl (ST (Ex.notT rfl) rfl (NL (TN (CF rfl (SK (TN (SQ (SQ (RG (MV rfl rfl (WR.call H (Ct.mono (validString_spec l (by omega)) (R' := fun r _ => r = .bool true) (fun _ _ h => by rw [hv] at h; exact h)) rfl (by assumption) (Wn.none rfl) rfl ?_)))))))))))))))))
  intro v26 M w H hle hr26
  replace hp := hp.mono hle
  replace hc0 := hc0.mono hle
  replace hc1 := hc1.mono hle
  obtain rfl := hr26
  refine ST (Ex.notT rfl) rfl (NL (TN (CF rfl (SK (TN (SQ (RG ?_)))))))
  replace H := H.newRow 5 encB
  refine AS rfl rfl (NL (TN (SQ (SQ (RG (MV rfl rfl (WR.rangeStr H Tryz.underlying9 rfl (Wn.none rfl) rfl ?_)))))))
  intro b30 w H
  refine NL (TN (BL (WC.loop3 (fun (q : Nat) (ov : Value) (o : List UInt8) => [(5, ptr b5 0), (6, ptr b6 0), (8, ov), (30, ptr b30 0)]) (fun (q : Nat) (ov : Value) (o : List UInt8) w => (q ≤ l.length ∧ o.length ≤ 4 * q) ∧ vld (l.drop q) = true ∧ encGo (encK 0) (chars l) 0 = pre o (encGo (encK 0) (chars (l.drop q)) q) ∧ ∃ M, St w0 M0 M [.blk b30 (.stringIter ⟨l.toArray⟩ q), RowI 5 encB ov o, .blk b6 (.cells #[S [97, 115, 99, 105, 105], .func (.func 186) #[] #[ptr b0 0], .func (.func 187) #[] #[ptr b0 0]] 156), .blk b5 (.cells #[I 0, I 0] 24)] w ∧ CellM M ⟨b0, 0, none⟩ (encR 128)) (fun (q : Nat) (ov : Value) (o : List UInt8) => l.length - q) (0) (_) (_) ⟨rfl, rfl, rfl, rfl, trivial⟩ (⟨by simp, hv, (pre_nil _).symm, M, H, hc0⟩) ?_)))
  intro q ov o w
  rintro ⟨hq, hvq, hgo, M, H, hc0⟩
  refine SQ (RG ?_)
  by_cases h10_0 : q < l.length
  · have hne := drop_ne (t := l) (n := q) h10_0
    have hrs := rune_size (l.drop q)
    have hrs3 := hrs.2.2 hne
    rw [List.length_drop] at hrs3
    rw [vld_cons hne, Bool.and_eq_true] at hvq
    have hr0 := of_decide_eq_true hvq.1
    have hvn := hvq.2
    have hrl := rune_lt (l.drop q)
    have hdr : ((dr (l.drop q)).1 : Int) = (rune (l.drop q)).1 := by rw [dr_fix0, fix0_id hr0]
    have hch : chars (l.drop q) = ((rune (l.drop q)).1, (l.drop q).take (rune (l.drop q)).2) :: chars (l.drop (q + (rune (l.drop q)).2)) := by rw [chars_cons hne, List.drop_drop]
    refine WR.nextT H h10_0 rfl (by repeat first | exact .head | apply Upd.tail) (Wn.none rfl) rfl ?_
    intro w H
    refine ST (Ex.extract rfl rfl) rfl (NL (TN (SQ (CT rfl (SK (TN (BL (SQ (RG (ST (Ex.extract rfl rfl) rfl (WR.stepE (v' := encR (rune (l.drop q)).1) (Ex.extract rfl rfl) (congrArg encR hdr) (Wn.none rfl) rfl rfl (AS rfl rfl (AS rfl rfl (NL (TN (SQ (RG (ST (Ex.fieldAddr Tryz.underlying156 rfl Tryz.sizeOf154 (by decide) rfl) rfl ?_))))))))))))))))))
    first | refine WR.step (Ex.loadM H rfl (by assumption) Tryz.isAgg154) (Wn.none rfl) rfl rfl ?_ | refine WR.step (Ex.load1 H rfl (by repeat (first | exact List.Mem.head _ | apply List.Mem.tail)) Tryz.isAgg154 (by rfl)) (Wn.none rfl) rfl rfl ?_
    refine MV rfl rfl ?_
    by_cases hok : (rune (l.drop q)).1 < 128
    · have hstep : encK 0 (rune (l.drop q)).1 = some ([ub (rune (l.drop q)).1]) := by rw [encK0, Chs.encS, if_pos hok]
      have hbl := encK_len hstep
      refine WR.callV (cap := [ptr b0 0]) H (Ct.mono (enc1_spec (rune (l.drop q)).1 b0 128) (R' := fun r M => ∃ v, r = .tuple #[v, .bool true] ∧ Bs M v ([ub (rune (l.drop q)).1])) (fun _ _ ⟨v, h1, h2⟩ => ⟨v, by rw [decide_eq_true hok] at h1; exact h1, h2⟩)) rfl rfl (by assumption) (Wn.none rfl) rfl ?_
      intro v39 M w H hle hr39
      replace hc0 := hc0.mono hle
      obtain ⟨v39, rfl, hf39⟩ := hr39
      refine MV rfl rfl (ST (Ex.extract rfl rfl) rfl (ST (Ex.extract rfl rfl) rfl (AS rfl rfl (AS rfl rfl (NL (TN (SQ (SQ (RG (MV rfl rfl (ST (Ex.notT rfl) rfl (NL (TN (CF rfl (SK (TN (RG (MV rfl rfl (MV rfl rfl (WR.appendSl ty30 (fun _ => rfl) H rfl (fun _ => by repeat first | exact .head | apply Upd.tail) rfl (by assumption) (by first | omega | (simp only [List.length_append, List.length_cons, List.length_nil, List.length_take, List.length_drop]; omega)) (by first | (simp only [maxLen]; omega) | (simp only [maxLen, List.length_append, List.length_cons, List.length_nil, List.length_take, List.length_drop]; omega)) (Wn.none rfl) rfl ?_))))))))))))))))))))
      intro v48 w H
      refine AS rfl rfl (NL (IB ?_))
      refine WQ.again3 (q + (dr (l.drop q)).2) (v48) (o ++ ([ub (rune (l.drop q)).1])) ⟨rfl, rfl, rfl, rfl, trivial⟩ ?_ ?_
      · refine ⟨by rw [dr_size, List.length_append]; omega, ?_, ?_, M, H, hc0⟩
        · rw [dr_size, ← List.drop_drop]; exact hvn
        · rw [hgo, hch, encGo_step o hstep, dr_size]
          simp only [List.length_take, List.length_drop]
          rw [Nat.min_eq_left (by omega)]
      · rw [dr_size]; omega
    · have hres : encGo (encK 0) (chars l) 0 = .error q := by rw [hgo, hch]; exact encGo_stop o (by rw [encK0, Chs.encS, if_neg hok])
      refine WR.callV (cap := [ptr b0 0]) H (Ct.mono (enc1_spec (rune (l.drop q)).1 b0 128) (R' := fun r M => ∃ v, r = .tuple #[v, .bool false] ∧ Bs M v ([ub (rune (l.drop q)).1])) (fun _ _ ⟨v, h1, h2⟩ => ⟨v, by rw [decide_eq_false hok] at h1; exact h1, h2⟩)) rfl rfl (by assumption) (Wn.none rfl) rfl ?_
      intro v39 M w H hle hr39
      replace hc0 := hc0.mono hle
      obtain ⟨v39, rfl, hf39⟩ := hr39
      refine MV rfl rfl (ST (Ex.extract rfl rfl) rfl (ST (Ex.extract rfl rfl) rfl (AS rfl rfl (AS rfl rfl (NL (TN (SQ (SQ (RG (MV rfl rfl (ST (Ex.notF rfl) rfl (NL (TN (CT rfl (SQ (RG (MV rfl rfl (WR.call H (fault_spec _ _) rfl (trivial) (Wn.none rfl) rfl ?_))))))))))))))))))
      intro v45 M w H hle hr45
      replace hc0 := hc0.mono hle
      replace hf39 := hf39.mono hle
      obtain rfl := hr45
      refine AS rfl rfl (WR.store [_, _] H rfl rfl rfl (by repeat first | exact .head | apply Upd.tail) Tryz.sizeOf24 rfl (by rfl) (by rfl) (Wn.none rfl) ?_)
      intro w H
      refine NL (TN (RT ?_))
      refine WQ.ret2 rfl rfl ⟨_, rfl, H.loadAgg (by repeat (first | exact List.Mem.head _ | apply List.Mem.tail)) Tryz.isAgg24 Tryz.sizeOf24 (by rfl)⟩ H.ext ?_
      refine  ?_
      rw [hres]
  · have hres : encGo (encK 0) (chars l) 0 = .ok o := by rw [hgo, List.drop_eq_nil_of_le (by omega), chars_nil]; simp [encGo, pre]
    refine WR.nextF H (Nat.le_of_not_lt h10_0) rfl (by repeat (first | exact List.Mem.head _ | apply List.Mem.tail)) (Wn.none rfl) rfl ?_
    refine ST (Ex.extract rfl rfl) rfl (NL (TN (SQ (CF rfl (WC.exit (WQ.thenExit (WQ.thenExit (WQ.exitHere (TN (SQ (RG (MV rfl rfl (WR.call H (none_spec) rfl (trivial) (Wn.none rfl) rfl ?_)))))))))))))
    intro v50 M w H hle hr50
    replace hc0 := hc0.mono hle
    obtain rfl := hr50
    refine AS rfl rfl (WR.store [_, _] H rfl rfl rfl (by repeat first | exact .head | apply Upd.tail) Tryz.sizeOf24 rfl (by rfl) (by rfl) (Wn.none rfl) ?_)
    intro w H
    refine NL (TN (RT ?_))
    obtain ⟨M, hle, hf, H⟩ := H.freezeRow (v := ov) (enc := encB) (t := 5) (by repeat first | exact .head | apply Rem.tail)
    refine WQ.ret2 rfl rfl ⟨_, rfl, H.loadAgg (by repeat (first | exact List.Mem.head _ | apply List.Mem.tail)) Tryz.isAgg24 Tryz.sizeOf24 (by rfl)⟩ H.ext ?_
    refine  ?_
    rw [hres]
    exact ⟨_, rfl, hf⟩
theorem encode_1 (name l : List UInt8) (hn : name.length ≤ maxLen) (hs : l.length ≤ 12000) (hk : setOf name = some 1) (hv : vld l = true) : Ct Tryz.prog 84 [S name, S l] (fun M => Tabs M) (fun r M => match encGo (encK 1) (chars l) 0 with | .ok b => ∃ v, r = .tuple #[v, fault 0 0] ∧ Bs M v b | .error e => r = .tuple #[.slice none 0 0, fault 17 (e : Int)]) := by
  refine Ct.of Tryz.func84 (enters Tryz.func84 (by kernel_rfl) rfl) rfl rfl rfl ?_
  intro w0 M0 H hp
  refine SQ (RG (AS rfl rfl (WR.alloc [_, _] H Tryz.zeroValue24 rfl (Wn.none rfl) rfl ?_)))
  intro b5 w H
  refine NL (TN (SQ (SQ (RG (MV rfl rfl (ST (Ex.lenStr Tryz.underlying9 rfl) rfl (WR.stepF (Ex.gtr rfl rfl) (by omega) (Wn.none rfl) rfl rfl ?_)))))))
  refine NL (TN (CF rfl (SK (TN (SQ (RG (MV rfl rfl (WR.call H (Ct.mono (find_spec name hn) (R' := fun r M => ∃ b0 b1, CellM M ⟨b0, 0, none⟩ (encR 128) ∧ CellM M ⟨b1, 0, none⟩ (encR 256) ∧ r = .tuple #[.agg #[S [108, 97, 116, 105, 110, 49], .func (.func 186) #[] #[ptr b1 0], .func (.func 187) #[] #[ptr b1 0]], .bool true]) (fun _ _ ⟨b0, b1, h0, h1, h⟩ => ⟨b0, b1, h0, h1, by rw [hk] at h; exact h⟩)) rfl (trivial) (Wn.none rfl) rfl ?_))))))))
  intro v19 M w H hle hr19
  replace hp := hp.mono hle
  obtain ⟨b0, b1, hc0, hc1, rfl⟩ := hr19
  refine MV rfl rfl (ST (Ex.extract rfl rfl) rfl (ST (Ex.extract rfl rfl) rfl (WR.alloc [_, _, _] H Tryz.zeroValue156 rfl (Wn.none rfl) rfl ?_)))
  intro b6 w H
  refine WR.store [_, _, _] H rfl rfl rfl (by repeat first | exact .head | apply Upd.tail) Tryz.sizeOf156 rfl (by rfl) (by rfl) (Wn.none rfl) ?_
  intro w H
  refine AS rfl rfl (NL (TN (SQ (SQ (RG (MV rfl rfl (ST (Ex.notT rfl) rfl (NL (TN (CF rfl (SK (TN (SQ (SQ (RG (MV rfl rfl (WR.call H (Ct.mono (validString_spec l (by omega)) (R' := fun r _ => r = .bool true) (fun _ _ h => by rw [hv] at h; exact h)) rfl (by assumption) (Wn.none rfl) rfl ?_)))))))))))))))))
  intro v26 M w H hle hr26
  replace hp := hp.mono hle
  replace hc0 := hc0.mono hle
  replace hc1 := hc1.mono hle
  obtain rfl := hr26
  refine ST (Ex.notT rfl) rfl (NL (TN (CF rfl (SK (TN (SQ (RG ?_)))))))
  replace H := H.newRow 5 encB
  refine AS rfl rfl (NL (TN (SQ (SQ (RG (MV rfl rfl (WR.rangeStr H Tryz.underlying9 rfl (Wn.none rfl) rfl ?_)))))))
  intro b30 w H
  refine NL (TN (BL (WC.loop3 (fun (q : Nat) (ov : Value) (o : List UInt8) => [(5, ptr b5 0), (6, ptr b6 0), (8, ov), (30, ptr b30 0)]) (fun (q : Nat) (ov : Value) (o : List UInt8) w => (q ≤ l.length ∧ o.length ≤ 4 * q) ∧ vld (l.drop q) = true ∧ encGo (encK 1) (chars l) 0 = pre o (encGo (encK 1) (chars (l.drop q)) q) ∧ ∃ M, St w0 M0 M [.blk b30 (.stringIter ⟨l.toArray⟩ q), RowI 5 encB ov o, .blk b6 (.cells #[S [108, 97, 116, 105, 110, 49], .func (.func 186) #[] #[ptr b1 0], .func (.func 187) #[] #[ptr b1 0]] 156), .blk b5 (.cells #[I 0, I 0] 24)] w ∧ CellM M ⟨b1, 0, none⟩ (encR 256)) (fun (q : Nat) (ov : Value) (o : List UInt8) => l.length - q) (0) (_) (_) ⟨rfl, rfl, rfl, rfl, trivial⟩ (⟨by simp, hv, (pre_nil _).symm, M, H, hc1⟩) ?_)))
  intro q ov o w
  rintro ⟨hq, hvq, hgo, M, H, hc1⟩
  refine SQ (RG ?_)
  by_cases h10_0 : q < l.length
  · have hne := drop_ne (t := l) (n := q) h10_0
    have hrs := rune_size (l.drop q)
    have hrs3 := hrs.2.2 hne
    rw [List.length_drop] at hrs3
    rw [vld_cons hne, Bool.and_eq_true] at hvq
    have hr0 := of_decide_eq_true hvq.1
    have hvn := hvq.2
    have hrl := rune_lt (l.drop q)
    have hdr : ((dr (l.drop q)).1 : Int) = (rune (l.drop q)).1 := by rw [dr_fix0, fix0_id hr0]
    have hch : chars (l.drop q) = ((rune (l.drop q)).1, (l.drop q).take (rune (l.drop q)).2) :: chars (l.drop (q + (rune (l.drop q)).2)) := by rw [chars_cons hne, List.drop_drop]
    refine WR.nextT H h10_0 rfl (by repeat first | exact .head | apply Upd.tail) (Wn.none rfl) rfl ?_
    intro w H
    refine ST (Ex.extract rfl rfl) rfl (NL (TN (SQ (CT rfl (SK (TN (BL (SQ (RG (ST (Ex.extract rfl rfl) rfl (WR.stepE (v' := encR (rune (l.drop q)).1) (Ex.extract rfl rfl) (congrArg encR hdr) (Wn.none rfl) rfl rfl (AS rfl rfl (AS rfl rfl (NL (TN (SQ (RG (ST (Ex.fieldAddr Tryz.underlying156 rfl Tryz.sizeOf154 (by decide) rfl) rfl ?_))))))))))))))))))
    first | refine WR.step (Ex.loadM H rfl (by assumption) Tryz.isAgg154) (Wn.none rfl) rfl rfl ?_ | refine WR.step (Ex.load1 H rfl (by repeat (first | exact List.Mem.head _ | apply List.Mem.tail)) Tryz.isAgg154 (by rfl)) (Wn.none rfl) rfl rfl ?_
    refine MV rfl rfl ?_
    by_cases hok : (rune (l.drop q)).1 < 256
    · have hstep : encK 1 (rune (l.drop q)).1 = some ([ub (rune (l.drop q)).1]) := by rw [encK1, Chs.encS, if_pos hok]
      have hbl := encK_len hstep
      refine WR.callV (cap := [ptr b1 0]) H (Ct.mono (enc1_spec (rune (l.drop q)).1 b1 256) (R' := fun r M => ∃ v, r = .tuple #[v, .bool true] ∧ Bs M v ([ub (rune (l.drop q)).1])) (fun _ _ ⟨v, h1, h2⟩ => ⟨v, by rw [decide_eq_true hok] at h1; exact h1, h2⟩)) rfl rfl (by assumption) (Wn.none rfl) rfl ?_
      intro v39 M w H hle hr39
      replace hc1 := hc1.mono hle
      obtain ⟨v39, rfl, hf39⟩ := hr39
      refine MV rfl rfl (ST (Ex.extract rfl rfl) rfl (ST (Ex.extract rfl rfl) rfl (AS rfl rfl (AS rfl rfl (NL (TN (SQ (SQ (RG (MV rfl rfl (ST (Ex.notT rfl) rfl (NL (TN (CF rfl (SK (TN (RG (MV rfl rfl (MV rfl rfl (WR.appendSl ty30 (fun _ => rfl) H rfl (fun _ => by repeat first | exact .head | apply Upd.tail) rfl (by assumption) (by first | omega | (simp only [List.length_append, List.length_cons, List.length_nil, List.length_take, List.length_drop]; omega)) (by first | (simp only [maxLen]; omega) | (simp only [maxLen, List.length_append, List.length_cons, List.length_nil, List.length_take, List.length_drop]; omega)) (Wn.none rfl) rfl ?_))))))))))))))))))))
      intro v48 w H
      refine AS rfl rfl (NL (IB ?_))
      refine WQ.again3 (q + (dr (l.drop q)).2) (v48) (o ++ ([ub (rune (l.drop q)).1])) ⟨rfl, rfl, rfl, rfl, trivial⟩ ?_ ?_
      · refine ⟨by rw [dr_size, List.length_append]; omega, ?_, ?_, M, H, hc1⟩
        · rw [dr_size, ← List.drop_drop]; exact hvn
        · rw [hgo, hch, encGo_step o hstep, dr_size]
          simp only [List.length_take, List.length_drop]
          rw [Nat.min_eq_left (by omega)]
      · rw [dr_size]; omega
    · have hres : encGo (encK 1) (chars l) 0 = .error q := by rw [hgo, hch]; exact encGo_stop o (by rw [encK1, Chs.encS, if_neg hok])
      refine WR.callV (cap := [ptr b1 0]) H (Ct.mono (enc1_spec (rune (l.drop q)).1 b1 256) (R' := fun r M => ∃ v, r = .tuple #[v, .bool false] ∧ Bs M v ([ub (rune (l.drop q)).1])) (fun _ _ ⟨v, h1, h2⟩ => ⟨v, by rw [decide_eq_false hok] at h1; exact h1, h2⟩)) rfl rfl (by assumption) (Wn.none rfl) rfl ?_
      intro v39 M w H hle hr39
      replace hc1 := hc1.mono hle
      obtain ⟨v39, rfl, hf39⟩ := hr39
      refine MV rfl rfl (ST (Ex.extract rfl rfl) rfl (ST (Ex.extract rfl rfl) rfl (AS rfl rfl (AS rfl rfl (NL (TN (SQ (SQ (RG (MV rfl rfl (ST (Ex.notF rfl) rfl (NL (TN (CT rfl (SQ (RG (MV rfl rfl (WR.call H (fault_spec _ _) rfl (trivial) (Wn.none rfl) rfl ?_))))))))))))))))))
      intro v45 M w H hle hr45
      replace hc1 := hc1.mono hle
      replace hf39 := hf39.mono hle
      obtain rfl := hr45
      refine AS rfl rfl (WR.store [_, _] H rfl rfl rfl (by repeat first | exact .head | apply Upd.tail) Tryz.sizeOf24 rfl (by rfl) (by rfl) (Wn.none rfl) ?_)
      intro w H
      refine NL (TN (RT ?_))
      refine WQ.ret2 rfl rfl ⟨_, rfl, H.loadAgg (by repeat (first | exact List.Mem.head _ | apply List.Mem.tail)) Tryz.isAgg24 Tryz.sizeOf24 (by rfl)⟩ H.ext ?_
      refine  ?_
      rw [hres]
  · have hres : encGo (encK 1) (chars l) 0 = .ok o := by rw [hgo, List.drop_eq_nil_of_le (by omega), chars_nil]; simp [encGo, pre]
    refine WR.nextF H (Nat.le_of_not_lt h10_0) rfl (by repeat (first | exact List.Mem.head _ | apply List.Mem.tail)) (Wn.none rfl) rfl ?_
    refine ST (Ex.extract rfl rfl) rfl (NL (TN (SQ (CF rfl (WC.exit (WQ.thenExit (WQ.thenExit (WQ.exitHere (TN (SQ (RG (MV rfl rfl (WR.call H (none_spec) rfl (trivial) (Wn.none rfl) rfl ?_)))))))))))))
    intro v50 M w H hle hr50
    replace hc1 := hc1.mono hle
    obtain rfl := hr50
    refine AS rfl rfl (WR.store [_, _] H rfl rfl rfl (by repeat first | exact .head | apply Upd.tail) Tryz.sizeOf24 rfl (by rfl) (by rfl) (Wn.none rfl) ?_)
    intro w H
    refine NL (TN (RT ?_))
    obtain ⟨M, hle, hf, H⟩ := H.freezeRow (v := ov) (enc := encB) (t := 5) (by repeat first | exact .head | apply Rem.tail)
    refine WQ.ret2 rfl rfl ⟨_, rfl, H.loadAgg (by repeat (first | exact List.Mem.head _ | apply List.Mem.tail)) Tryz.isAgg24 Tryz.sizeOf24 (by rfl)⟩ H.ext ?_
    refine  ?_
    rw [hres]
    exact ⟨_, rfl, hf⟩
theorem encode_2 (name l : List UInt8) (hn : name.length ≤ maxLen) (hs : l.length ≤ 12000) (hk : setOf name = some 2) (hv : vld l = true) : Ct Tryz.prog 84 [S name, S l] (fun M => Tabs M) (fun r M => match encGo (encK 2) (chars l) 0 with | .ok b => ∃ v, r = .tuple #[v, fault 0 0] ∧ Bs M v b | .error e => r = .tuple #[.slice none 0 0, fault 17 (e : Int)]) := by
  refine Ct.of Tryz.func84 (enters Tryz.func84 (by kernel_rfl) rfl) rfl rfl rfl ?_
  intro w0 M0 H hp
  refine SQ (RG (AS rfl rfl (WR.alloc [_, _] H Tryz.zeroValue24 rfl (Wn.none rfl) rfl ?_)))
  intro b5 w H
  refine NL (TN (SQ (SQ (RG (MV rfl rfl (ST (Ex.lenStr Tryz.underlying9 rfl) rfl (WR.stepF (Ex.gtr rfl rfl) (by omega) (Wn.none rfl) rfl rfl ?_)))))))
  refine NL (TN (CF rfl (SK (TN (SQ (RG (MV rfl rfl (WR.call H (Ct.mono (find_spec name hn) (R' := fun r M => ∃ b0 b1, CellM M ⟨b0, 0, none⟩ (encR 128) ∧ CellM M ⟨b1, 0, none⟩ (encR 256) ∧ r = .tuple #[.agg #[S [117, 116, 102, 56], .func (.func 158) #[] #[], .func (.func 159) #[] #[]], .bool true]) (fun _ _ ⟨b0, b1, h0, h1, h⟩ => ⟨b0, b1, h0, h1, by rw [hk] at h; exact h⟩)) rfl (trivial) (Wn.none rfl) rfl ?_))))))))
  intro v19 M w H hle hr19
  replace hp := hp.mono hle
  obtain ⟨b0, b1, hc0, hc1, rfl⟩ := hr19
  refine MV rfl rfl (ST (Ex.extract rfl rfl) rfl (ST (Ex.extract rfl rfl) rfl (WR.alloc [_, _, _] H Tryz.zeroValue156 rfl (Wn.none rfl) rfl ?_)))
  intro b6 w H
  refine WR.store [_, _, _] H rfl rfl rfl (by repeat first | exact .head | apply Upd.tail) Tryz.sizeOf156 rfl (by rfl) (by rfl) (Wn.none rfl) ?_
  intro w H
  refine AS rfl rfl (NL (TN (SQ (SQ (RG (MV rfl rfl (ST (Ex.notT rfl) rfl (NL (TN (CF rfl (SK (TN (SQ (SQ (RG (MV rfl rfl (WR.call H (Ct.mono (validString_spec l (by omega)) (R' := fun r _ => r = .bool true) (fun _ _ h => by rw [hv] at h; exact h)) rfl (by assumption) (Wn.none rfl) rfl ?_)))))))))))))))))
  intro v26 M w H hle hr26
  replace hp := hp.mono hle
  replace hc0 := hc0.mono hle
  replace hc1 := hc1.mono hle
  obtain rfl := hr26
  refine ST (Ex.notT rfl) rfl (NL (TN (CF rfl (SK (TN (SQ (RG ?_)))))))
  replace H := H.newRow 5 encB
  refine AS rfl rfl (NL (TN (SQ (SQ (RG (MV rfl rfl (WR.rangeStr H Tryz.underlying9 rfl (Wn.none rfl) rfl ?_)))))))
  intro b30 w H
  refine NL (TN (BL (WC.loop3 (fun (q : Nat) (ov : Value) (o : List UInt8) => [(5, ptr b5 0), (6, ptr b6 0), (8, ov), (30, ptr b30 0)]) (fun (q : Nat) (ov : Value) (o : List UInt8) w => (q ≤ l.length ∧ o.length ≤ 4 * q) ∧ vld (l.drop q) = true ∧ encGo (encK 2) (chars l) 0 = pre o (encGo (encK 2) (chars (l.drop q)) q) ∧ ∃ M, St w0 M0 M [.blk b30 (.stringIter ⟨l.toArray⟩ q), RowI 5 encB ov o, .blk b6 (.cells #[S [117, 116, 102, 56], .func (.func 158) #[] #[], .func (.func 159) #[] #[]] 156), .blk b5 (.cells #[I 0, I 0] 24)] w) (fun (q : Nat) (ov : Value) (o : List UInt8) => l.length - q) (0) (_) (_) ⟨rfl, rfl, rfl, rfl, trivial⟩ (⟨by simp, hv, (pre_nil _).symm, M, H⟩) ?_)))
  intro q ov o w
  rintro ⟨hq, hvq, hgo, M, H⟩
  refine SQ (RG ?_)
  by_cases h10_0 : q < l.length
  · have hne := drop_ne (t := l) (n := q) h10_0
    have hrs := rune_size (l.drop q)
    have hrs3 := hrs.2.2 hne
    rw [List.length_drop] at hrs3
    rw [vld_cons hne, Bool.and_eq_true] at hvq
    have hr0 := of_decide_eq_true hvq.1
    have hvn := hvq.2
    have hrl := rune_lt (l.drop q)
    have hdr : ((dr (l.drop q)).1 : Int) = (rune (l.drop q)).1 := by rw [dr_fix0, fix0_id hr0]
    have hch : chars (l.drop q) = ((rune (l.drop q)).1, (l.drop q).take (rune (l.drop q)).2) :: chars (l.drop (q + (rune (l.drop q)).2)) := by rw [chars_cons hne, List.drop_drop]
    have hstep : encK 2 (rune (l.drop q)).1 = some (utf8 (rune (l.drop q)).1) := by rw [encK2]; rfl
    have hbl := encK_len hstep
    refine WR.nextT H h10_0 rfl (by repeat first | exact .head | apply Upd.tail) (Wn.none rfl) rfl ?_
    intro w H
    refine ST (Ex.extract rfl rfl) rfl (NL (TN (SQ (CT rfl (SK (TN (BL (SQ (RG (ST (Ex.extract rfl rfl) rfl (WR.stepE (v' := encR (rune (l.drop q)).1) (Ex.extract rfl rfl) (congrArg encR hdr) (Wn.none rfl) rfl rfl (AS rfl rfl (AS rfl rfl (NL (TN (SQ (RG (ST (Ex.fieldAddr Tryz.underlying156 rfl Tryz.sizeOf154 (by decide) rfl) rfl ?_))))))))))))))))))
    first | refine WR.step (Ex.loadM H rfl (by assumption) Tryz.isAgg154) (Wn.none rfl) rfl rfl ?_ | refine WR.step (Ex.load1 H rfl (by repeat (first | exact List.Mem.head _ | apply List.Mem.tail)) Tryz.isAgg154 (by rfl)) (Wn.none rfl) rfl rfl ?_
    refine MV rfl rfl (WR.callV (cap := []) H (encU_spec (rune (l.drop q)).1 (by omega) (by omega)) rfl rfl (trivial) (Wn.none rfl) rfl ?_)
    intro v39 M w H hle hr39
    obtain ⟨v39, rfl, hf39⟩ := hr39
    refine MV rfl rfl (ST (Ex.extract rfl rfl) rfl (ST (Ex.extract rfl rfl) rfl (AS rfl rfl (AS rfl rfl (NL (TN (SQ (SQ (RG (MV rfl rfl (ST (Ex.notT rfl) rfl (NL (TN (CF rfl (SK (TN (RG (MV rfl rfl (MV rfl rfl (WR.appendSl ty30 (fun _ => rfl) H rfl (fun _ => by repeat first | exact .head | apply Upd.tail) rfl (by assumption) (by first | omega | (simp only [List.length_append, List.length_cons, List.length_nil, List.length_take, List.length_drop]; omega)) (by first | (simp only [maxLen]; omega) | (simp only [maxLen, List.length_append, List.length_cons, List.length_nil, List.length_take, List.length_drop]; omega)) (Wn.none rfl) rfl ?_))))))))))))))))))))
    intro v48 w H
    refine AS rfl rfl (NL (IB ?_))
    refine WQ.again3 (q + (dr (l.drop q)).2) (v48) (o ++ (utf8 (rune (l.drop q)).1)) ⟨rfl, rfl, rfl, rfl, trivial⟩ ?_ ?_
    · refine ⟨by rw [dr_size, List.length_append]; omega, ?_, ?_, M, H⟩
      · rw [dr_size, ← List.drop_drop]; exact hvn
      · rw [hgo, hch, encGo_step o hstep, dr_size]
        simp only [List.length_take, List.length_drop]
        rw [Nat.min_eq_left (by omega)]
    · rw [dr_size]; omega
  · have hres : encGo (encK 2) (chars l) 0 = .ok o := by rw [hgo, List.drop_eq_nil_of_le (by omega), chars_nil]; simp [encGo, pre]
    refine WR.nextF H (Nat.le_of_not_lt h10_0) rfl (by repeat (first | exact List.Mem.head _ | apply List.Mem.tail)) (Wn.none rfl) rfl ?_
    refine ST (Ex.extract rfl rfl) rfl (NL (TN (SQ (CF rfl (WC.exit (WQ.thenExit (WQ.thenExit (WQ.exitHere (TN (SQ (RG (MV rfl rfl (WR.call H (none_spec) rfl (trivial) (Wn.none rfl) rfl ?_)))))))))))))
    intro v50 M w H hle hr50
    obtain rfl := hr50
    refine AS rfl rfl (WR.store [_, _] H rfl rfl rfl (by repeat first | exact .head | apply Upd.tail) Tryz.sizeOf24 rfl (by rfl) (by rfl) (Wn.none rfl) ?_)
    intro w H
    refine NL (TN (RT ?_))
    obtain ⟨M, hle, hf, H⟩ := H.freezeRow (v := ov) (enc := encB) (t := 5) (by repeat first | exact .head | apply Rem.tail)
    refine WQ.ret2 rfl rfl ⟨_, rfl, H.loadAgg (by repeat (first | exact List.Mem.head _ | apply List.Mem.tail)) Tryz.isAgg24 Tryz.sizeOf24 (by rfl)⟩ H.ext ?_
    refine  ?_
    rw [hres]
    exact ⟨_, rfl, hf⟩
theorem encode_3 (name l : List UInt8) (hn : name.length ≤ maxLen) (hs : l.length ≤ 12000) (hk : setOf name = some 3) (hv : vld l = true) : Ct Tryz.prog 84 [S name, S l] (fun M => Tabs M) (fun r M => match encGo (encK 3) (chars l) 0 with | .ok b => ∃ v, r = .tuple #[v, fault 0 0] ∧ Bs M v b | .error e => r = .tuple #[.slice none 0 0, fault 17 (e : Int)]) := by
  refine Ct.of Tryz.func84 (enters Tryz.func84 (by kernel_rfl) rfl) rfl rfl rfl ?_
  intro w0 M0 H hp
  refine SQ (RG (AS rfl rfl (WR.alloc [_, _] H Tryz.zeroValue24 rfl (Wn.none rfl) rfl ?_)))
  intro b5 w H
  refine NL (TN (SQ (SQ (RG (MV rfl rfl (ST (Ex.lenStr Tryz.underlying9 rfl) rfl (WR.stepF (Ex.gtr rfl rfl) (by omega) (Wn.none rfl) rfl rfl ?_)))))))
  refine NL (TN (CF rfl (SK (TN (SQ (RG (MV rfl rfl (WR.call H (Ct.mono (find_spec name hn) (R' := fun r M => ∃ b0 b1, CellM M ⟨b0, 0, none⟩ (encR 128) ∧ CellM M ⟨b1, 0, none⟩ (encR 256) ∧ r = .tuple #[.agg #[S [117, 116, 102, 49, 54, 98, 101], .func (.func 161) #[] #[], .func (.func 162) #[] #[]], .bool true]) (fun _ _ ⟨b0, b1, h0, h1, h⟩ => ⟨b0, b1, h0, h1, by rw [hk] at h; exact h⟩)) rfl (trivial) (Wn.none rfl) rfl ?_))))))))
  intro v19 M w H hle hr19
  replace hp := hp.mono hle
  obtain ⟨b0, b1, hc0, hc1, rfl⟩ := hr19
  refine MV rfl rfl (ST (Ex.extract rfl rfl) rfl (ST (Ex.extract rfl rfl) rfl (WR.alloc [_, _, _] H Tryz.zeroValue156 rfl (Wn.none rfl) rfl ?_)))
  intro b6 w H
  refine WR.store [_, _, _] H rfl rfl rfl (by repeat first | exact .head | apply Upd.tail) Tryz.sizeOf156 rfl (by rfl) (by rfl) (Wn.none rfl) ?_
  intro w H
  refine AS rfl rfl (NL (TN (SQ (SQ (RG (MV rfl rfl (ST (Ex.notT rfl) rfl (NL (TN (CF rfl (SK (TN (SQ (SQ (RG (MV rfl rfl (WR.call H (Ct.mono (validString_spec l (by omega)) (R' := fun r _ => r = .bool true) (fun _ _ h => by rw [hv] at h; exact h)) rfl (by assumption) (Wn.none rfl) rfl ?_)))))))))))))))))
  intro v26 M w H hle hr26
  replace hp := hp.mono hle
  replace hc0 := hc0.mono hle
  replace hc1 := hc1.mono hle
  obtain rfl := hr26
  refine ST (Ex.notT rfl) rfl (NL (TN (CF rfl (SK (TN (SQ (RG ?_)))))))
  replace H := H.newRow 5 encB
  refine AS rfl rfl (NL (TN (SQ (SQ (RG (MV rfl rfl (WR.rangeStr H Tryz.underlying9 rfl (Wn.none rfl) rfl ?_)))))))
  intro b30 w H
  refine NL (TN (BL (WC.loop3 (fun (q : Nat) (ov : Value) (o : List UInt8) => [(5, ptr b5 0), (6, ptr b6 0), (8, ov), (30, ptr b30 0)]) (fun (q : Nat) (ov : Value) (o : List UInt8) w => (q ≤ l.length ∧ o.length ≤ 4 * q) ∧ vld (l.drop q) = true ∧ encGo (encK 3) (chars l) 0 = pre o (encGo (encK 3) (chars (l.drop q)) q) ∧ ∃ M, St w0 M0 M [.blk b30 (.stringIter ⟨l.toArray⟩ q), RowI 5 encB ov o, .blk b6 (.cells #[S [117, 116, 102, 49, 54, 98, 101], .func (.func 161) #[] #[], .func (.func 162) #[] #[]] 156), .blk b5 (.cells #[I 0, I 0] 24)] w) (fun (q : Nat) (ov : Value) (o : List UInt8) => l.length - q) (0) (_) (_) ⟨rfl, rfl, rfl, rfl, trivial⟩ (⟨by simp, hv, (pre_nil _).symm, M, H⟩) ?_)))
  intro q ov o w
  rintro ⟨hq, hvq, hgo, M, H⟩
  refine SQ (RG ?_)
  by_cases h10_0 : q < l.length
  · have hne := drop_ne (t := l) (n := q) h10_0
    have hrs := rune_size (l.drop q)
    have hrs3 := hrs.2.2 hne
    rw [List.length_drop] at hrs3
    rw [vld_cons hne, Bool.and_eq_true] at hvq
    have hr0 := of_decide_eq_true hvq.1
    have hvn := hvq.2
    have hrl := rune_lt (l.drop q)
    have hdr : ((dr (l.drop q)).1 : Int) = (rune (l.drop q)).1 := by rw [dr_fix0, fix0_id hr0]
    have hch : chars (l.drop q) = ((rune (l.drop q)).1, (l.drop q).take (rune (l.drop q)).2) :: chars (l.drop (q + (rune (l.drop q)).2)) := by rw [chars_cons hne, List.drop_drop]
    have hstep : encK 3 (rune (l.drop q)).1 = some (encWb (rune (l.drop q)).1) := by rw [encK3]; rfl
    have hbl := encK_len hstep
    refine WR.nextT H h10_0 rfl (by repeat first | exact .head | apply Upd.tail) (Wn.none rfl) rfl ?_
    intro w H
    refine ST (Ex.extract rfl rfl) rfl (NL (TN (SQ (CT rfl (SK (TN (BL (SQ (RG (ST (Ex.extract rfl rfl) rfl (WR.stepE (v' := encR (rune (l.drop q)).1) (Ex.extract rfl rfl) (congrArg encR hdr) (Wn.none rfl) rfl rfl (AS rfl rfl (AS rfl rfl (NL (TN (SQ (RG (ST (Ex.fieldAddr Tryz.underlying156 rfl Tryz.sizeOf154 (by decide) rfl) rfl ?_))))))))))))))))))
    first | refine WR.step (Ex.loadM H rfl (by assumption) Tryz.isAgg154) (Wn.none rfl) rfl rfl ?_ | refine WR.step (Ex.load1 H rfl (by repeat (first | exact List.Mem.head _ | apply List.Mem.tail)) Tryz.isAgg154 (by rfl)) (Wn.none rfl) rfl rfl ?_
    refine MV rfl rfl ?_
    refine WR.callV (cap := []) H ((show Ct Tryz.prog 162 [encR (rune (l.drop q)).1] (fun _ => True) (fun r M => ∃ v, r = .tuple #[v, .bool true] ∧ Bs M v (encWb (rune (l.drop q)).1)) by
      have h := double_spec (rune (l.drop q)).1.toNat (by omega)
      rw [Int.toNat_of_nonneg hr0] at h
      exact h)) rfl rfl (trivial) (Wn.none rfl) rfl ?_
    intro v39 M w H hle hr39
    obtain ⟨v39, rfl, hf39⟩ := hr39
    refine MV rfl rfl (ST (Ex.extract rfl rfl) rfl (ST (Ex.extract rfl rfl) rfl (AS rfl rfl (AS rfl rfl (NL (TN (SQ (SQ (RG (MV rfl rfl (ST (Ex.notT rfl) rfl (NL (TN (CF rfl (SK (TN (RG (MV rfl rfl (MV rfl rfl (WR.appendSl ty30 (fun _ => rfl) H rfl (fun _ => by repeat first | exact .head | apply Upd.tail) rfl (by assumption) (by first | omega | (simp only [List.length_append, List.length_cons, List.length_nil, List.length_take, List.length_drop]; omega)) (by first | (simp only [maxLen]; omega) | (simp only [maxLen, List.length_append, List.length_cons, List.length_nil, List.length_take, List.length_drop]; omega)) (Wn.none rfl) rfl ?_))))))))))))))))))))
    intro v48 w H
    refine AS rfl rfl (NL (IB ?_))
    refine WQ.again3 (q + (dr (l.drop q)).2) (v48) (o ++ (encWb (rune (l.drop q)).1)) ⟨rfl, rfl, rfl, rfl, trivial⟩ ?_ ?_
    · refine ⟨by rw [dr_size, List.length_append]; omega, ?_, ?_, M, H⟩
      · rw [dr_size, ← List.drop_drop]; exact hvn
      · rw [hgo, hch, encGo_step o hstep, dr_size]
        simp only [List.length_take, List.length_drop]
        rw [Nat.min_eq_left (by omega)]
    · rw [dr_size]; omega
  · have hres : encGo (encK 3) (chars l) 0 = .ok o := by rw [hgo, List.drop_eq_nil_of_le (by omega), chars_nil]; simp [encGo, pre]
    refine WR.nextF H (Nat.le_of_not_lt h10_0) rfl (by repeat (first | exact List.Mem.head _ | apply List.Mem.tail)) (Wn.none rfl) rfl ?_
    refine ST (Ex.extract rfl rfl) rfl (NL (TN (SQ (CF rfl (WC.exit (WQ.thenExit (WQ.thenExit (WQ.exitHere (TN (SQ (RG (MV rfl rfl (WR.call H (none_spec) rfl (trivial) (Wn.none rfl) rfl ?_)))))))))))))
    intro v50 M w H hle hr50
    obtain rfl := hr50
    refine AS rfl rfl (WR.store [_, _] H rfl rfl rfl (by repeat first | exact .head | apply Upd.tail) Tryz.sizeOf24 rfl (by rfl) (by rfl) (Wn.none rfl) ?_)
    intro w H
    refine NL (TN (RT ?_))
    obtain ⟨M, hle, hf, H⟩ := H.freezeRow (v := ov) (enc := encB) (t := 5) (by repeat first | exact .head | apply Rem.tail)
    refine WQ.ret2 rfl rfl ⟨_, rfl, H.loadAgg (by repeat (first | exact List.Mem.head _ | apply List.Mem.tail)) Tryz.isAgg24 Tryz.sizeOf24 (by rfl)⟩ H.ext ?_
    refine  ?_
    rw [hres]
    exact ⟨_, rfl, hf⟩
end Go.Proofs.YtogkmhjnojphiaaGreatDoor
end
section
set_option linter.unusedVariables false
set_option linter.unusedSimpArgs false
namespace Go.Proofs.YtogkmhjnojphiaaGreatDoor
open Go Go.RowKit Go.Ph
open Go.Ph.Gr Go.Ph.Utf Go.Ph.Chs
theorem chars_lt (l : List UInt8) : ∀ c ∈ chars l, c.1 ≤ 1114111 := by
  have key : ∀ (k : Nat) (l : List UInt8), l.length ≤ k → ∀ c ∈ chars l, c.1 ≤ 1114111 := by
    intro k
    induction k with
    | zero => intro l h c hc; obtain rfl := List.eq_nil_of_length_eq_zero (Nat.le_zero.1 h); cases hc
    | succ k ih =>
      intro l h c hc
      by_cases hl : l = []
      · subst hl; cases hc
      · obtain ⟨h1, _, h2⟩ := rune_size l
        have h3 := h2 hl
        rw [chars_cons hl] at hc
        rcases List.mem_cons.1 hc with rfl | hc
        · exact (rune_lt l).2
        · exact ih _ (by rw [List.length_drop]; omega) c hc
  exact key _ l (Nat.le_refl _)
theorem flat_len (ns : List Int) : (ns.flatMap utf8).length ≤ 4 * ns.length := by
  induction ns with
  | nil => simp
  | cons n ns ih =>
    have := utf8_len n
    rw [List.flatMap_cons, List.length_append, List.length_cons]; omega
def bestN (l : List UInt8) : List UInt8 := setN.getD (bestK l) []
theorem best_spec (l : List UInt8) : Ct Tryz.prog 41 [S l] (fun _ => True) (fun r _ => r = S (bestN l)) := by
  refine Ct.of Tryz.func41 (enters Tryz.func41 (by kernel_rfl) rfl) rfl rfl rfl ?_
  intro w0 M0 H hp
  refine SQ (RG (AS rfl rfl (NL (TN (SQ (RG (AS rfl rfl (NL (TN (SQ (SQ (RG (MV rfl rfl (WR.rangeStr H Tryz.underlying9 rfl (Wn.none rfl) rfl ?_))))))))))))))
  intro b7 w H
  refine NL (TN (BL (WC.loop2 (fun (q : Nat) (seen : Bool) => [(3, S (if seen then [108, 97, 116, 105, 110, 49] else [97, 115, 99, 105, 105])), (7, ptr b7 0)]) (fun (q : Nat) (seen : Bool) w => q ≤ l.length ∧ (chars l).any (fun c : Ch => decide (255 < fix0 c.1)) = (chars (l.drop q)).any (fun c : Ch => decide (255 < fix0 c.1)) ∧ (chars l).any (fun c : Ch => decide (127 < fix0 c.1)) = (seen || (chars (l.drop q)).any (fun c : Ch => decide (127 < fix0 c.1))) ∧ ∃ M, St w0 M0 M [.blk b7 (.stringIter ⟨l.toArray⟩ q)] w) (fun (q : Nat) (seen : Bool) => l.length - q) (0) (false) ⟨rfl, rfl, trivial⟩ (⟨by omega, rfl, rfl, M0, H⟩) ?_)))
  intro q seen w
  rintro ⟨hq, h255, h127, M, H⟩
  refine SQ (RG ?_)
  by_cases h3_0 : q < l.length
  · have hne := drop_ne (t := l) (n := q) h3_0
    have hrs := rune_size (l.drop q)
    have hrs3 := hrs.2.2 hne
    rw [List.length_drop] at hrs3
    have hch : chars (l.drop q) = ((rune (l.drop q)).1, (l.drop q).take (rune (l.drop q)).2) :: chars (l.drop (q + (rune (l.drop q)).2)) := by rw [chars_cons hne, List.drop_drop]
    refine WR.nextT H h3_0 rfl (by repeat first | exact .head | apply Upd.tail) (Wn.none rfl) rfl ?_
    intro w H
    refine ST (Ex.extract rfl rfl) rfl (NL (TN (SQ (CT rfl (SK (TN (BL (SQ (RG (WR.stepE (v' := encR (fix0 (rune (l.drop q)).1)) (Ex.extract rfl rfl) (congrArg encR (dr_fix0 _)) (Wn.none rfl) rfl rfl (AS rfl rfl (NL (TN (BL (SQ (RG (MV rfl rfl ?_)))))))))))))))))
    refine WR.split (Ex.gtr rfl rfl) (Wn.none rfl) rfl rfl (fun h5_1 => ?_) (fun h5_1 => ?_)
    · have hr : bestK l = 2 := by unfold bestK; rw [h255, hch, List.any_cons, decide_eq_true (by omega)]; rfl
      refine AS rfl rfl (NL (TN (CT rfl (SQ (RG (AS rfl rfl (NL (TN (RT ?_)))))))))
      refine WQ.ret1 rfl rfl H.ext ?_
      exact by unfold bestN; rw [hr]; rfl
    · refine AS rfl rfl (NL (TN (CF rfl (SQ (RG (MV rfl rfl ?_))))))
      refine WR.split (Ex.gtr rfl rfl) (Wn.none rfl) rfl rfl (fun h7_1 => ?_) (fun h7_1 => ?_)
      · refine AS rfl rfl (NL (TN (CT rfl (RG (AS rfl rfl (NL (IB (IB ?_))))))))
        refine WQ.again2 (q + (dr (l.drop q)).2) (true) ⟨rfl, rfl, trivial⟩ ?_ ?_
        · refine ⟨by rw [dr_size]; omega, ?_, ?_, M, H⟩
          · rw [h255, hch, dr_size, List.any_cons, decide_eq_false (by omega), Bool.false_or]
          · rw [h127, hch, dr_size, List.any_cons, decide_eq_true (by omega)]; simp
        · rw [dr_size]; omega
      · refine AS rfl rfl (NL (TN (CF rfl (SK (IB (IB ?_))))))
        refine WQ.again2 (q + (dr (l.drop q)).2) (seen) ⟨rfl, rfl, trivial⟩ ?_ ?_
        · refine ⟨by rw [dr_size]; omega, ?_, ?_, M, H⟩
          · rw [h255, hch, dr_size, List.any_cons, decide_eq_false (by omega), Bool.false_or]
          · rw [h127, hch, dr_size, List.any_cons, decide_eq_false (by omega)]; simp
        · rw [dr_size]; omega
  · have hr : bestK l = if seen then 1 else 0 := by
      unfold bestK
      rw [h255, h127, List.drop_eq_nil_of_le (by omega), chars_nil]
      simp
    refine WR.nextF H (Nat.le_of_not_lt h3_0) rfl (by repeat (first | exact List.Mem.head _ | apply List.Mem.tail)) (Wn.none rfl) rfl ?_
    refine ST (Ex.extract rfl rfl) rfl (NL (TN (SQ (CF rfl (WC.exit (WQ.thenExit (WQ.thenExit (WQ.exitHere (TN (SQ (RG (MV rfl rfl (AS rfl rfl (NL (TN (RT ?_))))))))))))))))
    refine WQ.ret1 rfl rfl H.ext ?_
    exact by unfold bestN; rw [hr]; cases seen <;> rfl
theorem rbest_spec (l : List UInt8) (hs : l.length ≤ 1048576) : Ct Tryz.prog 47 [S l] (fun _ => True) (fun r _ => r = S (bestN l)) := by
  refine Ct.of Tryz.func47 (enters Tryz.func47 (by kernel_rfl) rfl) rfl rfl rfl ?_
  intro w0 M0 H hp
  refine SQ (RG (AS rfl rfl (NL (TN (SQ (RG (AS rfl rfl (NL (TN (SQ (RG (MV rfl rfl (WR.call H (runes_spec _ (by omega)) rfl (trivial) (Wn.none rfl) rfl ?_)))))))))))))
  intro v8 M w H hle hr8
  have hf8 := hr8
  refine AS rfl rfl (NL (TN (SQ (SQ (RG (AS rfl rfl (NL (TN (BL (WC.loop2 (fun (k : Nat) (most : Int) => [(3, I most), (4, v8), (5, encN k)]) (fun (k : Nat) (most : Int) w => k ≤ (chars l).length ∧ (0 ≤ most ∧ most ≤ 1114111) ∧ decide (255 < most) = ((chars l).take k).any (fun c : Ch => decide (255 < fix0 c.1)) ∧ decide (127 < most) = ((chars l).take k).any (fun c : Ch => decide (127 < fix0 c.1)) ∧ ∃ M, St w0 M0 M [] w ∧ Sl M encI v8 ((chars l).map (·.1))) (fun (k : Nat) (most : Int) => (chars l).length - k) (0) (0) ⟨rfl, rfl, rfl, trivial⟩ (⟨by omega, by omega, by simp, by simp, M, H, hf8⟩) ?_))))))))))
  intro k most w
  rintro ⟨hk, hmo, h255, h127, M, H, hf8⟩
  have hml : ((chars l).map (·.1)).length = (chars l).length := List.length_map _
  have hcl := decU_len l
  rw [decU, List.length_map] at hcl
  refine SQ (SQ (RG (MV rfl rfl (MV rfl rfl ?_))))
  first | refine WR.step (Ex.lenSl Tryz.underlying107 (by assumption) rfl) (Wn.none rfl) rfl rfl ?_ | refine WR.step (Ex.lenRow Tryz.underlying107 H (by repeat (first | exact List.Mem.head _ | apply List.Mem.tail)) rfl) (Wn.none rfl) rfl rfl ?_ | refine WR.step (Ex.lenSlice Tryz.underlying107 rfl) (Wn.none rfl) rfl rfl ?_
  refine WR.split (Ex.lss rfl rfl) (Wn.none rfl) rfl rfl (fun h4_3 => ?_) (fun h4_3 => ?_)
  · obtain ⟨c, hc⟩ : ∃ c, (chars l)[k]? = some c := ⟨_, List.getElem?_eq_getElem (by omega)⟩
    obtain ⟨n, hn⟩ : ∃ n, c.1 = n := ⟨_, rfl⟩
    have hx : ((chars l).map (·.1))[k]? = some n := by rw [List.getElem?_map, hc, ← hn]; rfl
    have hsn : (chars l).take (k + 1) = (chars l).take k ++ [c] := by
      have e := List.getElem?_eq_some_iff.1 hc
      rw [List.take_succ_eq_append_getElem e.1, e.2]
    have hnl : n ≤ 1114111 := by rw [← hn]; exact (chars_lt l c (List.mem_of_getElem? hc))
    refine NL (TN (CT rfl (SK (TN (SQ (BL (SQ (RG (MV rfl rfl (MV rfl rfl (WR.idxSl Tryz.underlying107 Tryz.sizeOf3 (by assumption) rfl rfl (hx) (Wn.none rfl) rfl ?_)))))))))))
    intro p17 hc17
    first | refine WR.step (Ex.loadM H rfl (by assumption) Tryz.isAgg3) (Wn.none rfl) rfl rfl ?_ | refine WR.step (Ex.load1 H rfl (by repeat (first | exact List.Mem.head _ | apply List.Mem.tail)) Tryz.isAgg3 (by rfl)) (Wn.none rfl) rfl rfl ?_
    refine AS rfl rfl (NL (TN (SQ (SQ (RG (MV rfl rfl ?_))))))
    refine WR.split (Ex.lss rfl rfl) (Wn.none rfl) rfl rfl (fun h7_1 => ?_) (fun h7_1 => ?_)
    · have hfx : fix0 c.1 = 65533 := by unfold fix0; rw [hn, if_pos h7_1]
      refine NL (TN (CT rfl (RG (AS rfl rfl (NL (TN (SQ (RG (MV rfl rfl (MV rfl rfl ?_))))))))))
      refine WR.split (Ex.gtr rfl rfl) (Wn.none rfl) rfl rfl (fun h9_2 => ?_) (fun h9_2 => ?_)
      · refine NL (TN (CT rfl (RG (MV rfl rfl (AS rfl rfl (NL (IB (TN (RG (MV rfl rfl (ST (Ex.add64 rfl rfl (by omega)) rfl ?_)))))))))))
        refine AS rfl rfl (NL ?_)
        refine WQ.again2 (k + 1) (65533) ⟨rfl, rfl, rfl, trivial⟩ ?_ ?_
        · refine ⟨by omega, by omega, ?_, ?_, M, H, hf8⟩
          · rw [hsn, List.any_append, ← h255]; simp only [List.any_cons, List.any_nil, Bool.or_false]; rw [hfx, ← Bool.decide_or]; exact decide_eq_decide.2 (by omega)
          · rw [hsn, List.any_append, ← h127]; simp only [List.any_cons, List.any_nil, Bool.or_false]; rw [hfx, ← Bool.decide_or]; exact decide_eq_decide.2 (by omega)
        · omega
      · refine NL (TN (CF rfl (SK (IB (TN (RG (MV rfl rfl (ST (Ex.add64 rfl rfl (by omega)) rfl ?_))))))))
        refine AS rfl rfl (NL ?_)
        refine WQ.again2 (k + 1) (most) ⟨rfl, rfl, rfl, trivial⟩ ?_ ?_
        · refine ⟨by omega, by omega, ?_, ?_, M, H, hf8⟩
          · rw [hsn, List.any_append, ← h255]; simp only [List.any_cons, List.any_nil, Bool.or_false]; rw [hfx, ← Bool.decide_or]; exact decide_eq_decide.2 (by omega)
          · rw [hsn, List.any_append, ← h127]; simp only [List.any_cons, List.any_nil, Bool.or_false]; rw [hfx, ← Bool.decide_or]; exact decide_eq_decide.2 (by omega)
        · omega
    · have hfx : fix0 c.1 = n := by unfold fix0; rw [hn, if_neg h7_1]
      refine NL (TN (CF rfl (SK (TN (SQ (RG (MV rfl rfl (MV rfl rfl ?_))))))))
      refine WR.split (Ex.gtr rfl rfl) (Wn.none rfl) rfl rfl (fun h9_2 => ?_) (fun h9_2 => ?_)
      · refine NL (TN (CT rfl (RG (MV rfl rfl (AS rfl rfl (NL (IB (TN (RG (MV rfl rfl (ST (Ex.add64 rfl rfl (by omega)) rfl ?_)))))))))))
        refine AS rfl rfl (NL ?_)
        refine WQ.again2 (k + 1) (n) ⟨rfl, rfl, rfl, trivial⟩ ?_ ?_
        · refine ⟨by omega, by omega, ?_, ?_, M, H, hf8⟩
          · rw [hsn, List.any_append, ← h255]; simp only [List.any_cons, List.any_nil, Bool.or_false]; rw [hfx, ← Bool.decide_or]; exact decide_eq_decide.2 (by omega)
          · rw [hsn, List.any_append, ← h127]; simp only [List.any_cons, List.any_nil, Bool.or_false]; rw [hfx, ← Bool.decide_or]; exact decide_eq_decide.2 (by omega)
        · omega
      · refine NL (TN (CF rfl (SK (IB (TN (RG (MV rfl rfl (ST (Ex.add64 rfl rfl (by omega)) rfl ?_))))))))
        refine AS rfl rfl (NL ?_)
        refine WQ.again2 (k + 1) (most) ⟨rfl, rfl, rfl, trivial⟩ ?_ ?_
        · refine ⟨by omega, by omega, ?_, ?_, M, H, hf8⟩
          · rw [hsn, List.any_append, ← h255]; simp only [List.any_cons, List.any_nil, Bool.or_false]; rw [hfx, ← Bool.decide_or]; exact decide_eq_decide.2 (by omega)
          · rw [hsn, List.any_append, ← h127]; simp only [List.any_cons, List.any_nil, Bool.or_false]; rw [hfx, ← Bool.decide_or]; exact decide_eq_decide.2 (by omega)
        · omega
  · rw [List.take_of_length_le (by omega)] at h255 h127
    refine NL (TN (CF rfl (WC.exit (WQ.thenExit (WQ.thenExit (WQ.exitHere (TN (SQ (SQ (RG (MV rfl rfl ?_)))))))))))
    refine WR.split (Ex.lss rfl rfl) (Wn.none rfl) rfl rfl (fun h11_1 => ?_) (fun h11_1 => ?_)
    · refine NL (TN (CT rfl (SQ (RG (AS rfl rfl (NL (TN (RT ?_))))))))
      refine WQ.ret1 rfl rfl H.ext ?_
      exact by unfold bestN bestK; rw [← h255, ← h127, decide_eq_false (by omega), decide_eq_false (by omega)]; rfl
    · refine NL (TN (CF rfl (SK (TN (SQ (SQ (RG (MV rfl rfl ?_))))))))
      refine WR.split (Ex.lss rfl rfl) (Wn.none rfl) rfl rfl (fun h13_1 => ?_) (fun h13_1 => ?_)
      · refine NL (TN (CT rfl (SQ (RG (AS rfl rfl (NL (TN (RT ?_))))))))
        refine WQ.ret1 rfl rfl H.ext ?_
        exact by unfold bestN bestK; rw [← h255, ← h127, decide_eq_false (by omega), decide_eq_true (by omega)]; rfl
      · refine NL (TN (CF rfl (SK (TN (SQ (RG (AS rfl rfl (NL (TN (RT ?_))))))))))
        refine WQ.ret1 rfl rfl H.ext ?_
        exact by unfold bestN bestK; rw [← h255, decide_eq_true (by omega)]; rfl
end Go.Proofs.YtogkmhjnojphiaaGreatDoor
end
section
set_option linter.unusedVariables false
set_option linter.unusedSimpArgs false
namespace Go.Proofs.YtogkmhjnojphiaaGreatDoor
open Go Go.RowKit Go.Ph
open Go.Ph.Gr Go.Ph.Utf Go.Ph.Chs
theorem encoded_0 (l : List UInt8) (hs : l.length ≤ 1048576) (hv : vld l = true) : Ct Tryz.prog 91 [I 0, S l] (fun _ => True) (fun r M => match encGo (encK 0) (chars l) 0 with | .ok b => ∃ v, r = .tuple #[v, I (-1)] ∧ Bs M v b | .error e => r = .tuple #[.slice none 0 0, encN e]) := by
  refine Ct.of Tryz.func91 (enters Tryz.func91 (by kernel_rfl) rfl) rfl rfl rfl ?_
  intro w0 M0 H hp
  refine SQ (RG (AS rfl rfl (AS rfl rfl (NL (TN (SQ (RG (AS rfl rfl (NL (TN (SQ (SQ (RG (AS rfl rfl (NL (TN (BL ?_)))))))))))))))))
  replace H := H.newRow 5 encB
  refine WC.loop3 (fun (q : Nat) (ov : Value) (o : List UInt8) => [(0, I 0), (1, S l), (6, ov), (7, encN q)]) (fun (q : Nat) (ov : Value) (o : List UInt8) w => (q ≤ l.length ∧ o.length ≤ 4 * q) ∧ vld (l.drop q) = true ∧ encGo (encK 0) (chars l) 0 = pre o (encGo (encK 0) (chars (l.drop q)) q) ∧ ∃ M, St w0 M0 M [RowI 5 encB ov o] w) (fun (q : Nat) (ov : Value) (o : List UInt8) => l.length - q) (0) (_) (_) ⟨rfl, rfl, rfl, rfl, trivial⟩ (⟨by simp, hv, (pre_nil _).symm, M0, H⟩) ?_
  intro q ov o w
  rintro ⟨hq, hvq, hgo, M, H⟩
  refine SQ (SQ (RG (MV rfl rfl (MV rfl rfl (ST (Ex.lenStr Tryz.underlying9 rfl) rfl ?_)))))
  refine WR.split (Ex.lss rfl rfl) (Wn.none rfl) rfl rfl (fun h3_3 => ?_) (fun h3_3 => ?_)
  · have hne := drop_ne (t := l) (n := q) (by omega)
    have hrs := rune_size (l.drop q)
    have hrs3 := hrs.2.2 hne
    rw [List.length_drop] at hrs3
    rw [vld_cons hne, Bool.and_eq_true] at hvq
    have hr0 := of_decide_eq_true hvq.1
    have hvn := hvq.2
    have hrl := rune_lt (l.drop q)
    have hch : chars (l.drop q) = ((rune (l.drop q)).1, (l.drop q).take (rune (l.drop q)).2) :: chars (l.drop (q + (rune (l.drop q)).2)) := by rw [chars_cons hne, List.drop_drop]
    have hhi : hiS (rune (l.drop q)).1 ≤ 57343 := by unfold hiS; omega
    have hlo : loS (rune (l.drop q)).1 ≤ 57343 := by unfold loS; omega
    refine NL (TN (CT rfl (SK (TN (BL (SQ (RG (MV rfl rfl (MV rfl rfl (WR.call H (rune_spec _ _ (by omega) (by omega)) rfl (trivial) (Wn.none rfl) rfl ?_))))))))))
    intro v19 M w H hle hr19
    obtain rfl := hr19
    refine MV rfl rfl (ST (Ex.extract rfl rfl) rfl (ST (Ex.extract rfl rfl) rfl (AS rfl rfl (AS rfl rfl (NL (TN (SQ (BL (SQ (RG (MV rfl rfl (WR.stepT (Ex.eql rfl rfl) rfl (Wn.none rfl) rfl rfl (MV rfl rfl (SG (Ex.move rfl) rfl rfl rfl ?_))))))))))))))
    refine WR.split (Ex.gtr rfl rfl) (Wn.some rfl rfl rfl) rfl rfl (fun h8_4 => ?_) (fun h8_4 => ?_)
    · have hres : encGo (encK 0) (chars l) 0 = .error q := by rw [hgo, hch]; exact encGo_stop o (by rw [encK0, Chs.encS, if_neg (by omega)])
      refine PT rfl rfl rfl (MV rfl rfl (GT rfl rfl rfl (GT rfl rfl rfl (GT rfl rfl rfl (GU rfl rfl rfl (GU rfl rfl rfl (GT rfl rfl rfl (PT rfl rfl rfl (AS rfl rfl (NL (TN (CT rfl (SQ (RG (MV rfl rfl (AS rfl rfl (AS rfl rfl (NL (TN (RT ?_))))))))))))))))))))
      refine WQ.ret2 rfl rfl rfl H.ext ( ?_)
      rw [hres]
    · refine PT rfl rfl rfl (MV rfl rfl (SG (Ex.move rfl) rfl rfl rfl (WR.stepF (Ex.eql rfl rfl) (by decide) (Wn.some rfl rfl rfl) rfl rfl (SG (Ex.move rfl) rfl rfl rfl (GF rfl rfl rfl (GF rfl rfl rfl (SG (Ex.pickF rfl rfl) rfl rfl rfl (PF rfl rfl rfl (AS rfl rfl (NL (TN (CF rfl (SQ (RG (MV rfl rfl (WR.stepT (Ex.leq rfl rfl) (by decide) (Wn.none rfl) rfl rfl (AS rfl rfl (NL (TN (CT rfl (RG (MV rfl rfl (MV rfl rfl (ST (Ex.convU8 Tryz.underlying3 Tryz.underlying5 rfl) rfl (WR.lit (enc := encB) ty30 [_] H rfl (by rfl) (fun _ => rfl) rfl rfl (Wn.none rfl) rfl ?_)))))))))))))))))))))))))
      intro v67 M w H hle hl67
      refine WR.appendSl ty30 (fun _ => rfl) H rfl (fun _ => by repeat first | exact .head | apply Upd.tail) rfl (by assumption) (by first | omega | (simp only [List.length_append, List.length_cons, List.length_nil, List.length_take, List.length_drop]; omega)) (by first | (simp only [maxLen]; omega) | (simp only [maxLen, List.length_append, List.length_cons, List.length_nil, List.length_take, List.length_drop]; omega)) (Wn.none rfl) rfl ?_
      intro v68 w H
      refine AS rfl rfl (NL (IB (TN (RG (MV rfl rfl (MV rfl rfl (WR.stepE (v' := encN (q + (rune (l.drop q)).2)) (Ex.add64 rfl rfl (by omega)) rfl (Wn.none rfl) rfl rfl ?_)))))))
      refine AS rfl rfl (NL (IB ?_))
      refine WQ.again3 (q + (rune (l.drop q)).2) (v68) (o ++ [ub (rune (l.drop q)).1]) ⟨rfl, rfl, rfl, rfl, trivial⟩ ?_ ?_
      · have hstep : encK 0 (rune (l.drop q)).1 = some [ub (rune (l.drop q)).1] := by rw [encK0, Chs.encS, if_pos (by omega)]
        have hbl := encK_len hstep
        refine ⟨by rw [List.length_append]; omega, ?_, ?_, M, H⟩
        · rw [← List.drop_drop]; exact hvn
        · rw [hgo, hch, encGo_step o hstep]
          simp only [List.length_take, List.length_drop]
          rw [Nat.min_eq_left (by omega)]
      · omega
  · have hres : encGo (encK 0) (chars l) 0 = .ok o := by rw [hgo, List.drop_eq_nil_of_le (by omega), chars_nil]; simp [encGo, pre]
    refine NL (TN (CF rfl (WC.exit (WQ.thenExit (WQ.thenExit (WQ.exitHere (TN (SQ (RG (MV rfl rfl (AS rfl rfl (AS rfl rfl (NL (TN (RT ?_)))))))))))))))
    obtain ⟨M, hle, hf, H⟩ := H.freezeRow (v := ov) (enc := encB) (t := 5) (by repeat first | exact .head | apply Rem.tail)
    refine WQ.ret2 rfl rfl rfl H.ext ( ?_)
    rw [hres]
    exact ⟨_, rfl, hf⟩
theorem encoded_1 (l : List UInt8) (hs : l.length ≤ 1048576) (hv : vld l = true) : Ct Tryz.prog 91 [I 1, S l] (fun _ => True) (fun r M => match encGo (encK 1) (chars l) 0 with | .ok b => ∃ v, r = .tuple #[v, I (-1)] ∧ Bs M v b | .error e => r = .tuple #[.slice none 0 0, encN e]) := by
  refine Ct.of Tryz.func91 (enters Tryz.func91 (by kernel_rfl) rfl) rfl rfl rfl ?_
  intro w0 M0 H hp
  refine SQ (RG (AS rfl rfl (AS rfl rfl (NL (TN (SQ (RG (AS rfl rfl (NL (TN (SQ (SQ (RG (AS rfl rfl (NL (TN (BL ?_)))))))))))))))))
  replace H := H.newRow 5 encB
  refine WC.loop3 (fun (q : Nat) (ov : Value) (o : List UInt8) => [(0, I 1), (1, S l), (6, ov), (7, encN q)]) (fun (q : Nat) (ov : Value) (o : List UInt8) w => (q ≤ l.length ∧ o.length ≤ 4 * q) ∧ vld (l.drop q) = true ∧ encGo (encK 1) (chars l) 0 = pre o (encGo (encK 1) (chars (l.drop q)) q) ∧ ∃ M, St w0 M0 M [RowI 5 encB ov o] w) (fun (q : Nat) (ov : Value) (o : List UInt8) => l.length - q) (0) (_) (_) ⟨rfl, rfl, rfl, rfl, trivial⟩ (⟨by simp, hv, (pre_nil _).symm, M0, H⟩) ?_
  intro q ov o w
  rintro ⟨hq, hvq, hgo, M, H⟩
  refine SQ (SQ (RG (MV rfl rfl (MV rfl rfl (ST (Ex.lenStr Tryz.underlying9 rfl) rfl ?_)))))
  refine WR.split (Ex.lss rfl rfl) (Wn.none rfl) rfl rfl (fun h3_3 => ?_) (fun h3_3 => ?_)
  · have hne := drop_ne (t := l) (n := q) (by omega)
    have hrs := rune_size (l.drop q)
    have hrs3 := hrs.2.2 hne
    rw [List.length_drop] at hrs3
    rw [vld_cons hne, Bool.and_eq_true] at hvq
    have hr0 := of_decide_eq_true hvq.1
    have hvn := hvq.2
    have hrl := rune_lt (l.drop q)
    have hch : chars (l.drop q) = ((rune (l.drop q)).1, (l.drop q).take (rune (l.drop q)).2) :: chars (l.drop (q + (rune (l.drop q)).2)) := by rw [chars_cons hne, List.drop_drop]
    have hhi : hiS (rune (l.drop q)).1 ≤ 57343 := by unfold hiS; omega
    have hlo : loS (rune (l.drop q)).1 ≤ 57343 := by unfold loS; omega
    refine NL (TN (CT rfl (SK (TN (BL (SQ (RG (MV rfl rfl (MV rfl rfl (WR.call H (rune_spec _ _ (by omega) (by omega)) rfl (trivial) (Wn.none rfl) rfl ?_))))))))))
    intro v19 M w H hle hr19
    obtain rfl := hr19
    refine MV rfl rfl (ST (Ex.extract rfl rfl) rfl (ST (Ex.extract rfl rfl) rfl (AS rfl rfl (AS rfl rfl (NL (TN (SQ (BL (SQ (RG (MV rfl rfl (WR.stepF (Ex.eql rfl rfl) (by decide) (Wn.none rfl) rfl rfl (MV rfl rfl (GF rfl rfl rfl (GF rfl rfl rfl (PF rfl rfl rfl (MV rfl rfl (SG (Ex.move rfl) rfl rfl rfl (WR.stepT (Ex.eql rfl rfl) rfl (Wn.some rfl rfl rfl) rfl rfl (SG (Ex.move rfl) rfl rfl rfl (SG (Ex.move rfl) rfl rfl rfl ?_)))))))))))))))))))))
    refine WR.split (Ex.gtr rfl rfl) (Wn.some rfl rfl rfl) rfl rfl (fun h8_11 => ?_) (fun h8_11 => ?_)
    · have hres : encGo (encK 1) (chars l) 0 = .error q := by rw [hgo, hch]; exact encGo_stop o (by rw [encK1, Chs.encS, if_neg (by omega)])
      refine SG (Ex.pickT rfl rfl) rfl rfl rfl (PF rfl rfl rfl (AS rfl rfl (NL (TN (CT rfl (SQ (RG (MV rfl rfl (AS rfl rfl (AS rfl rfl (NL (TN (RT ?_)))))))))))))
      refine WQ.ret2 rfl rfl rfl H.ext ( ?_)
      rw [hres]
    · refine SG (Ex.pickT rfl rfl) rfl rfl rfl (PF rfl rfl rfl (AS rfl rfl (NL (TN (CF rfl (SQ (RG (MV rfl rfl (WR.stepT (Ex.leq rfl rfl) (by decide) (Wn.none rfl) rfl rfl (AS rfl rfl (NL (TN (CT rfl (RG (MV rfl rfl (MV rfl rfl (ST (Ex.convU8 Tryz.underlying3 Tryz.underlying5 rfl) rfl (WR.lit (enc := encB) ty30 [_] H rfl (by rfl) (fun _ => rfl) rfl rfl (Wn.none rfl) rfl ?_))))))))))))))))))
      intro v67 M w H hle hl67
      refine WR.appendSl ty30 (fun _ => rfl) H rfl (fun _ => by repeat first | exact .head | apply Upd.tail) rfl (by assumption) (by first | omega | (simp only [List.length_append, List.length_cons, List.length_nil, List.length_take, List.length_drop]; omega)) (by first | (simp only [maxLen]; omega) | (simp only [maxLen, List.length_append, List.length_cons, List.length_nil, List.length_take, List.length_drop]; omega)) (Wn.none rfl) rfl ?_
      intro v68 w H
      refine AS rfl rfl (NL (IB (TN (RG (MV rfl rfl (MV rfl rfl (WR.stepE (v' := encN (q + (rune (l.drop q)).2)) (Ex.add64 rfl rfl (by omega)) rfl (Wn.none rfl) rfl rfl ?_)))))))
      refine AS rfl rfl (NL (IB ?_))
      refine WQ.again3 (q + (rune (l.drop q)).2) (v68) (o ++ [ub (rune (l.drop q)).1]) ⟨rfl, rfl, rfl, rfl, trivial⟩ ?_ ?_
      · have hstep : encK 1 (rune (l.drop q)).1 = some [ub (rune (l.drop q)).1] := by rw [encK1, Chs.encS, if_pos (by omega)]
        have hbl := encK_len hstep
        refine ⟨by rw [List.length_append]; omega, ?_, ?_, M, H⟩
        · rw [← List.drop_drop]; exact hvn
        · rw [hgo, hch, encGo_step o hstep]
          simp only [List.length_take, List.length_drop]
          rw [Nat.min_eq_left (by omega)]
      · omega
  · have hres : encGo (encK 1) (chars l) 0 = .ok o := by rw [hgo, List.drop_eq_nil_of_le (by omega), chars_nil]; simp [encGo, pre]
    refine NL (TN (CF rfl (WC.exit (WQ.thenExit (WQ.thenExit (WQ.exitHere (TN (SQ (RG (MV rfl rfl (AS rfl rfl (AS rfl rfl (NL (TN (RT ?_)))))))))))))))
    obtain ⟨M, hle, hf, H⟩ := H.freezeRow (v := ov) (enc := encB) (t := 5) (by repeat first | exact .head | apply Rem.tail)
    refine WQ.ret2 rfl rfl rfl H.ext ( ?_)
    rw [hres]
    exact ⟨_, rfl, hf⟩
theorem encoded_2 (l : List UInt8) (hs : l.length ≤ 1048576) (hv : vld l = true) : Ct Tryz.prog 91 [I 2, S l] (fun _ => True) (fun r M => match encGo (encK 2) (chars l) 0 with | .ok b => ∃ v, r = .tuple #[v, I (-1)] ∧ Bs M v b | .error e => r = .tuple #[.slice none 0 0, encN e]) := by
  refine Ct.of Tryz.func91 (enters Tryz.func91 (by kernel_rfl) rfl) rfl rfl rfl ?_
  intro w0 M0 H hp
  refine SQ (RG (AS rfl rfl (AS rfl rfl (NL (TN (SQ (RG (AS rfl rfl (NL (TN (SQ (SQ (RG (AS rfl rfl (NL (TN (BL ?_)))))))))))))))))
  replace H := H.newRow 5 encB
  refine WC.loop3 (fun (q : Nat) (ov : Value) (o : List UInt8) => [(0, I 2), (1, S l), (6, ov), (7, encN q)]) (fun (q : Nat) (ov : Value) (o : List UInt8) w => (q ≤ l.length ∧ o.length ≤ 4 * q) ∧ vld (l.drop q) = true ∧ encGo (encK 2) (chars l) 0 = pre o (encGo (encK 2) (chars (l.drop q)) q) ∧ ∃ M, St w0 M0 M [RowI 5 encB ov o] w) (fun (q : Nat) (ov : Value) (o : List UInt8) => l.length - q) (0) (_) (_) ⟨rfl, rfl, rfl, rfl, trivial⟩ (⟨by simp, hv, (pre_nil _).symm, M0, H⟩) ?_
  intro q ov o w
  rintro ⟨hq, hvq, hgo, M, H⟩
  refine SQ (SQ (RG (MV rfl rfl (MV rfl rfl (ST (Ex.lenStr Tryz.underlying9 rfl) rfl ?_)))))
  refine WR.split (Ex.lss rfl rfl) (Wn.none rfl) rfl rfl (fun h3_3 => ?_) (fun h3_3 => ?_)
  · have hne := drop_ne (t := l) (n := q) (by omega)
    have hrs := rune_size (l.drop q)
    have hrs3 := hrs.2.2 hne
    rw [List.length_drop] at hrs3
    rw [vld_cons hne, Bool.and_eq_true] at hvq
    have hr0 := of_decide_eq_true hvq.1
    have hvn := hvq.2
    have hrl := rune_lt (l.drop q)
    have hch : chars (l.drop q) = ((rune (l.drop q)).1, (l.drop q).take (rune (l.drop q)).2) :: chars (l.drop (q + (rune (l.drop q)).2)) := by rw [chars_cons hne, List.drop_drop]
    have hhi : hiS (rune (l.drop q)).1 ≤ 57343 := by unfold hiS; omega
    have hlo : loS (rune (l.drop q)).1 ≤ 57343 := by unfold loS; omega
    refine NL (TN (CT rfl (SK (TN (BL (SQ (RG (MV rfl rfl (MV rfl rfl (WR.call H (rune_spec _ _ (by omega) (by omega)) rfl (trivial) (Wn.none rfl) rfl ?_))))))))))
    intro v19 M w H hle hr19
    obtain rfl := hr19
    refine MV rfl rfl (ST (Ex.extract rfl rfl) rfl (ST (Ex.extract rfl rfl) rfl (AS rfl rfl (AS rfl rfl (NL (TN (SQ (BL (SQ (RG (MV rfl rfl (WR.stepF (Ex.eql rfl rfl) (by decide) (Wn.none rfl) rfl rfl (MV rfl rfl (GF rfl rfl rfl (GF rfl rfl rfl (PF rfl rfl rfl (MV rfl rfl (SG (Ex.move rfl) rfl rfl rfl (WR.stepF (Ex.eql rfl rfl) (by decide) (Wn.some rfl rfl rfl) rfl rfl (SG (Ex.move rfl) rfl rfl rfl (GF rfl rfl rfl (GF rfl rfl rfl (SG (Ex.pickF rfl rfl) rfl rfl rfl (PF rfl rfl rfl (AS rfl rfl (NL (TN (CF rfl (SQ (RG (MV rfl rfl (WR.stepF (Ex.leq rfl rfl) (by decide) (Wn.none rfl) rfl rfl (AS rfl rfl (NL (TN (CF rfl (SQ (RG (MV rfl rfl (WR.stepT (Ex.eql rfl rfl) rfl (Wn.none rfl) rfl rfl (AS rfl rfl (NL (TN (CT rfl (RG (MV rfl rfl (MV rfl rfl (MV rfl rfl (MV rfl rfl (MV rfl rfl (WR.stepE (v' := encN (q + (rune (l.drop q)).2)) (Ex.add64 rfl rfl (by omega)) rfl (Wn.none rfl) rfl rfl ?_)))))))))))))))))))))))))))))))))))))))))))))))))))
    refine WR.stepE (v' := S ((l.drop q).take (rune (l.drop q)).2)) (Ex.sliceStr (i := q) (j := q + (rune (l.drop q)).2) Tryz.underlying9 rfl (.inl ⟨_, rfl, rfl⟩) (.inl ⟨_, rfl, rfl⟩) (by omega) (by omega)) (by rw [List.drop_take, Nat.add_sub_cancel_left]) (Wn.none rfl) rfl rfl ?_
    refine WR.appendStr ty30 Tryz.underlying9 H rfl (fun _ => by repeat first | exact .head | apply Upd.tail) rfl (by first | omega | (simp only [List.length_append, List.length_cons, List.length_nil, List.length_take, List.length_drop]; omega)) (Wn.none rfl) rfl ?_
    intro v79 w H
    refine AS rfl rfl (NL (IB (TN (RG (MV rfl rfl (MV rfl rfl (WR.stepE (v' := encN (q + (rune (l.drop q)).2)) (Ex.add64 rfl rfl (by omega)) rfl (Wn.none rfl) rfl rfl ?_)))))))
    refine AS rfl rfl (NL (IB ?_))
    refine WQ.again3 (q + (rune (l.drop q)).2) (v79) (o ++ ((l.drop q).take (rune (l.drop q)).2)) ⟨rfl, rfl, rfl, rfl, trivial⟩ ?_ ?_
    · have hstep : encK 2 (rune (l.drop q)).1 = some ((l.drop q).take (rune (l.drop q)).2) := by rw [encK2, encU, utf8_rune _ hne hr0]
      have hbl := encK_len hstep
      refine ⟨by rw [List.length_append]; omega, ?_, ?_, M, H⟩
      · rw [← List.drop_drop]; exact hvn
      · rw [hgo, hch, encGo_step o hstep]
        simp only [List.length_take, List.length_drop]
        rw [Nat.min_eq_left (by omega)]
    · omega
  · have hres : encGo (encK 2) (chars l) 0 = .ok o := by rw [hgo, List.drop_eq_nil_of_le (by omega), chars_nil]; simp [encGo, pre]
    refine NL (TN (CF rfl (WC.exit (WQ.thenExit (WQ.thenExit (WQ.exitHere (TN (SQ (RG (MV rfl rfl (AS rfl rfl (AS rfl rfl (NL (TN (RT ?_)))))))))))))))
    obtain ⟨M, hle, hf, H⟩ := H.freezeRow (v := ov) (enc := encB) (t := 5) (by repeat first | exact .head | apply Rem.tail)
    refine WQ.ret2 rfl rfl rfl H.ext ( ?_)
    rw [hres]
    exact ⟨_, rfl, hf⟩
theorem encoded_3 (l : List UInt8) (hs : l.length ≤ 1048576) (hv : vld l = true) : Ct Tryz.prog 91 [I 3, S l] (fun _ => True) (fun r M => match encGo (encK 3) (chars l) 0 with | .ok b => ∃ v, r = .tuple #[v, I (-1)] ∧ Bs M v b | .error e => r = .tuple #[.slice none 0 0, encN e]) := by
  refine Ct.of Tryz.func91 (enters Tryz.func91 (by kernel_rfl) rfl) rfl rfl rfl ?_
  intro w0 M0 H hp
  refine SQ (RG (AS rfl rfl (AS rfl rfl (NL (TN (SQ (RG (AS rfl rfl (NL (TN (SQ (SQ (RG (AS rfl rfl (NL (TN (BL ?_)))))))))))))))))
  replace H := H.newRow 5 encB
  refine WC.loop3 (fun (q : Nat) (ov : Value) (o : List UInt8) => [(0, I 3), (1, S l), (6, ov), (7, encN q)]) (fun (q : Nat) (ov : Value) (o : List UInt8) w => (q ≤ l.length ∧ o.length ≤ 4 * q) ∧ vld (l.drop q) = true ∧ encGo (encK 3) (chars l) 0 = pre o (encGo (encK 3) (chars (l.drop q)) q) ∧ ∃ M, St w0 M0 M [RowI 5 encB ov o] w) (fun (q : Nat) (ov : Value) (o : List UInt8) => l.length - q) (0) (_) (_) ⟨rfl, rfl, rfl, rfl, trivial⟩ (⟨by simp, hv, (pre_nil _).symm, M0, H⟩) ?_
  intro q ov o w
  rintro ⟨hq, hvq, hgo, M, H⟩
  refine SQ (SQ (RG (MV rfl rfl (MV rfl rfl (ST (Ex.lenStr Tryz.underlying9 rfl) rfl ?_)))))
  refine WR.split (Ex.lss rfl rfl) (Wn.none rfl) rfl rfl (fun h3_3 => ?_) (fun h3_3 => ?_)
  · have hne := drop_ne (t := l) (n := q) (by omega)
    have hrs := rune_size (l.drop q)
    have hrs3 := hrs.2.2 hne
    rw [List.length_drop] at hrs3
    rw [vld_cons hne, Bool.and_eq_true] at hvq
    have hr0 := of_decide_eq_true hvq.1
    have hvn := hvq.2
    have hrl := rune_lt (l.drop q)
    have hch : chars (l.drop q) = ((rune (l.drop q)).1, (l.drop q).take (rune (l.drop q)).2) :: chars (l.drop (q + (rune (l.drop q)).2)) := by rw [chars_cons hne, List.drop_drop]
    have hhi : hiS (rune (l.drop q)).1 ≤ 57343 := by unfold hiS; omega
    have hlo : loS (rune (l.drop q)).1 ≤ 57343 := by unfold loS; omega
    refine NL (TN (CT rfl (SK (TN (BL (SQ (RG (MV rfl rfl (MV rfl rfl (WR.call H (rune_spec _ _ (by omega) (by omega)) rfl (trivial) (Wn.none rfl) rfl ?_))))))))))
    intro v19 M w H hle hr19
    obtain rfl := hr19
    refine MV rfl rfl (ST (Ex.extract rfl rfl) rfl (ST (Ex.extract rfl rfl) rfl (AS rfl rfl (AS rfl rfl (NL (TN (SQ (BL (SQ (RG (MV rfl rfl (WR.stepF (Ex.eql rfl rfl) (by decide) (Wn.none rfl) rfl rfl (MV rfl rfl (GF rfl rfl rfl (GF rfl rfl rfl (PF rfl rfl rfl (MV rfl rfl (SG (Ex.move rfl) rfl rfl rfl (WR.stepF (Ex.eql rfl rfl) (by decide) (Wn.some rfl rfl rfl) rfl rfl (SG (Ex.move rfl) rfl rfl rfl (GF rfl rfl rfl (GF rfl rfl rfl (SG (Ex.pickF rfl rfl) rfl rfl rfl (PF rfl rfl rfl (AS rfl rfl (NL (TN (CF rfl (SQ (RG (MV rfl rfl (WR.stepF (Ex.leq rfl rfl) (by decide) (Wn.none rfl) rfl rfl (AS rfl rfl (NL (TN (CF rfl (SQ (RG (MV rfl rfl (WR.stepF (Ex.eql rfl rfl) (by decide) (Wn.none rfl) rfl rfl (AS rfl rfl (NL (TN (CF rfl (SQ (RG (MV rfl rfl ?_)))))))))))))))))))))))))))))))))))))))))))))))
    refine WR.split (Ex.lss rfl rfl) (Wn.none rfl) rfl rfl (fun h14_1 => ?_) (fun h14_1 => ?_)
    · refine AS rfl rfl (NL (TN (CT rfl (RG (MV rfl rfl (MV rfl rfl (ST (Ex.quo64 rfl rfl (by first | omega | exact ⟨Int.natCast_nonneg _, by decide⟩)) rfl ?_)))))))
      refine ST (Ex.convU8 Tryz.underlying3 Tryz.underlying5 rfl) rfl (MV rfl rfl (ST (Ex.rem64 rfl rfl (by first | omega | exact ⟨Int.natCast_nonneg _, by decide⟩)) rfl ?_))
      refine ST (Ex.convU8 Tryz.underlying3 Tryz.underlying5 rfl) rfl (WR.lit (enc := encB) ty30 [_, _] H rfl (by rfl) (fun _ => rfl) rfl rfl (Wn.none rfl) rfl ?_)
      intro v90 M w H hle hl90
      refine WR.appendSl ty30 (fun _ => rfl) H rfl (fun _ => by repeat first | exact .head | apply Upd.tail) rfl (by assumption) (by first | omega | (simp only [List.length_append, List.length_cons, List.length_nil, List.length_take, List.length_drop]; omega)) (by first | (simp only [maxLen]; omega) | (simp only [maxLen, List.length_append, List.length_cons, List.length_nil, List.length_take, List.length_drop]; omega)) (Wn.none rfl) rfl ?_
      intro v91 w H
      refine AS rfl rfl (NL (IB (TN (RG (MV rfl rfl (MV rfl rfl (WR.stepE (v' := encN (q + (rune (l.drop q)).2)) (Ex.add64 rfl rfl (by omega)) rfl (Wn.none rfl) rfl rfl ?_)))))))
      refine AS rfl rfl (NL (IB ?_))
      refine WQ.again3 (q + (rune (l.drop q)).2) (v91) (o ++ [ub ((rune (l.drop q)).1 / 256), ub ((rune (l.drop q)).1 % 256)]) ⟨rfl, rfl, rfl, rfl, trivial⟩ ?_ ?_
      · have hstep : encK 3 (rune (l.drop q)).1 = some [ub ((rune (l.drop q)).1 / 256), ub ((rune (l.drop q)).1 % 256)] := by rw [encK3, encW, if_pos (by omega)]
        have hbl := encK_len hstep
        refine ⟨by rw [List.length_append]; omega, ?_, ?_, M, H⟩
        · rw [← List.drop_drop]; exact hvn
        · rw [hgo, hch, encGo_step o hstep]
          simp only [List.length_take, List.length_drop]
          rw [Nat.min_eq_left (by omega)]
      · omega
    · have hhi0 : 55296 ≤ hiS (rune (l.drop q)).1 := by unfold hiS; omega
      have hlo0 : 56320 ≤ loS (rune (l.drop q)).1 := by unfold loS; omega
      refine AS rfl rfl (NL (TN (CF rfl (SQ (RG (MV rfl rfl (ST (Ex.sub64 rfl rfl (by omega)) rfl ?_)))))))
      refine ST (Ex.quo64 rfl rfl (by first | omega | exact ⟨Int.natCast_nonneg _, by decide⟩)) rfl ?_
      refine WR.stepE (v' := I (hiS (rune (l.drop q)).1)) (Ex.add64 rfl rfl (by omega)) (congrArg I (by unfold hiS; rfl)) (Wn.none rfl) rfl rfl ?_
      refine AS rfl rfl (NL (TN (SQ (RG (MV rfl rfl (ST (Ex.sub64 rfl rfl (by omega)) rfl ?_))))))
      refine ST (Ex.rem64 rfl rfl (by first | omega | exact ⟨Int.natCast_nonneg _, by decide⟩)) rfl ?_
      refine WR.stepE (v' := I (loS (rune (l.drop q)).1)) (Ex.add64 rfl rfl (by omega)) (congrArg I (by unfold loS; rfl)) (Wn.none rfl) rfl rfl ?_
      refine AS rfl rfl (NL (TN (RG (MV rfl rfl (MV rfl rfl (ST (Ex.quo64 rfl rfl (by first | omega | exact ⟨Int.natCast_nonneg _, by decide⟩)) rfl ?_))))))
      refine ST (Ex.convU8 Tryz.underlying3 Tryz.underlying5 rfl) rfl (MV rfl rfl (ST (Ex.rem64 rfl rfl (by first | omega | exact ⟨Int.natCast_nonneg _, by decide⟩)) rfl ?_))
      refine ST (Ex.convU8 Tryz.underlying3 Tryz.underlying5 rfl) rfl (MV rfl rfl (ST (Ex.quo64 rfl rfl (by first | omega | exact ⟨Int.natCast_nonneg _, by decide⟩)) rfl ?_))
      refine ST (Ex.convU8 Tryz.underlying3 Tryz.underlying5 rfl) rfl (MV rfl rfl (ST (Ex.rem64 rfl rfl (by first | omega | exact ⟨Int.natCast_nonneg _, by decide⟩)) rfl ?_))
      refine ST (Ex.convU8 Tryz.underlying3 Tryz.underlying5 rfl) rfl (WR.lit (enc := encB) ty30 [_, _, _, _] H rfl (by rfl) (fun _ => rfl) rfl rfl (Wn.none rfl) rfl ?_)
      intro v43 M w H hle hl43
      refine WR.appendSl ty30 (fun _ => rfl) H rfl (fun _ => by repeat first | exact .head | apply Upd.tail) rfl (by assumption) (by first | omega | (simp only [List.length_append, List.length_cons, List.length_nil, List.length_take, List.length_drop]; omega)) (by first | (simp only [maxLen]; omega) | (simp only [maxLen, List.length_append, List.length_cons, List.length_nil, List.length_take, List.length_drop]; omega)) (Wn.none rfl) rfl ?_
      intro v44 w H
      refine AS rfl rfl (NL (IB (TN (RG (MV rfl rfl (MV rfl rfl (WR.stepE (v' := encN (q + (rune (l.drop q)).2)) (Ex.add64 rfl rfl (by omega)) rfl (Wn.none rfl) rfl rfl ?_)))))))
      refine AS rfl rfl (NL (IB ?_))
      refine WQ.again3 (q + (rune (l.drop q)).2) (v44) (o ++ [ub (hiS (rune (l.drop q)).1 / 256), ub (hiS (rune (l.drop q)).1 % 256), ub (loS (rune (l.drop q)).1 / 256), ub (loS (rune (l.drop q)).1 % 256)]) ⟨rfl, rfl, rfl, rfl, trivial⟩ ?_ ?_
      · have hstep : encK 3 (rune (l.drop q)).1 = some [ub (hiS (rune (l.drop q)).1 / 256), ub (hiS (rune (l.drop q)).1 % 256), ub (loS (rune (l.drop q)).1 / 256), ub (loS (rune (l.drop q)).1 % 256)] := by rw [encK3, encW, if_neg (by omega)]
        have hbl := encK_len hstep
        refine ⟨by rw [List.length_append]; omega, ?_, ?_, M, H⟩
        · rw [← List.drop_drop]; exact hvn
        · rw [hgo, hch, encGo_step o hstep]
          simp only [List.length_take, List.length_drop]
          rw [Nat.min_eq_left (by omega)]
      · omega
  · have hres : encGo (encK 3) (chars l) 0 = .ok o := by rw [hgo, List.drop_eq_nil_of_le (by omega), chars_nil]; simp [encGo, pre]
    refine NL (TN (CF rfl (WC.exit (WQ.thenExit (WQ.thenExit (WQ.exitHere (TN (SQ (RG (MV rfl rfl (AS rfl rfl (AS rfl rfl (NL (TN (RT ?_)))))))))))))))
    obtain ⟨M, hle, hf, H⟩ := H.freezeRow (v := ov) (enc := encB) (t := 5) (by repeat first | exact .head | apply Rem.tail)
    refine WQ.ret2 rfl rfl rfl H.ext ( ?_)
    rw [hres]
    exact ⟨_, rfl, hf⟩
abbrev encPost (k : Nat) (l : List UInt8) (r : Value) (M : Mem) : Prop := match encGo (encK k) (chars l) 0 with | .ok b => ∃ v, r = .tuple #[v, I (-1)] ∧ Bs M v b | .error e => r = .tuple #[.slice none 0 0, encN e]
theorem encoded_ok {l b : List UInt8} {k : Nat} (hk : k < 4) (hs : l.length ≤ 1048576) (hv : vld l = true) (h : encGo (encK k) (chars l) 0 = .ok b) : Ct Tryz.prog 91 [I (k : Int), S l] (fun _ => True) (fun r M => ∃ v, r = .tuple #[v, I (-1)] ∧ Bs M v b) := by
  have key : Ct Tryz.prog 91 [I (k : Int), S l] (fun _ => True) (fun r M => encPost k l r M) := by
    rcases k with _ | _ | _ | _ | k
    · exact encoded_0 l hs hv
    · exact encoded_1 l hs hv
    · exact encoded_2 l hs hv
    · exact encoded_3 l hs hv
    · omega
  exact Ct.mono key fun r M hr => by unfold encPost at hr; rw [h] at hr; exact hr
theorem encoded_err {l : List UInt8} {k e : Nat} (hk : k < 4) (hs : l.length ≤ 1048576) (hv : vld l = true) (h : encGo (encK k) (chars l) 0 = .error e) : Ct Tryz.prog 91 [I (k : Int), S l] (fun _ => True) (fun r M => r = .tuple #[.slice none 0 0, encN e]) := by
  have key : Ct Tryz.prog 91 [I (k : Int), S l] (fun _ => True) (fun r M => encPost k l r M) := by
    rcases k with _ | _ | _ | _ | k
    · exact encoded_0 l hs hv
    · exact encoded_1 l hs hv
    · exact encoded_2 l hs hv
    · exact encoded_3 l hs hv
    · omega
  exact Ct.mono key fun r M hr => by unfold encPost at hr; rw [h] at hr; exact hr
abbrev encPostP (k : Nat) (l : List UInt8) (r : Value) (M : Mem) : Prop := match encGo (encK k) (chars l) 0 with | .ok b => ∃ v, r = .tuple #[v, fault 0 0] ∧ Bs M v b | .error e => r = .tuple #[.slice none 0 0, fault 17 (e : Int)]
theorem encode_k (name l : List UInt8) (hn : name.length ≤ maxLen) (hs : l.length ≤ 12000) (k : Nat) (hk : setOf name = some k) (hv : vld l = true) : Ct Tryz.prog 84 [S name, S l] (fun M => Tabs M) (fun r M => encPostP k l r M) := by
  have h4 := setOf_lt hk
  rcases k with _ | _ | _ | _ | k
  · exact encode_0 name l hn hs hk hv
  · exact encode_1 name l hn hs hk hv
  · exact encode_2 name l hn hs hk hv
  · exact encode_3 name l hn hs hk hv
  · omega
theorem encode_ok {name l b : List UInt8} (hn : name.length ≤ maxLen) (hs : l.length ≤ 12000) {k : Nat} (hk : setOf name = some k) (hv : vld l = true) (h : encGo (encK k) (chars l) 0 = .ok b) : Ct Tryz.prog 84 [S name, S l] (fun M => Tabs M) (fun r M => ∃ v, r = .tuple #[v, fault 0 0] ∧ Bs M v b) :=
  Ct.mono (encode_k name l hn hs k hk hv) fun r M hr => by unfold encPostP at hr; rw [h] at hr; exact hr
theorem encode_err {name l : List UInt8} {e : Nat} (hn : name.length ≤ maxLen) (hs : l.length ≤ 12000) {k : Nat} (hk : setOf name = some k) (hv : vld l = true) (h : encGo (encK k) (chars l) 0 = .error e) : Ct Tryz.prog 84 [S name, S l] (fun M => Tabs M) (fun r M => r = .tuple #[.slice none 0 0, fault 17 (e : Int)]) :=
  Ct.mono (encode_k name l hn hs k hk hv) fun r M hr => by unfold encPostP at hr; rw [h] at hr; exact hr
theorem encode_mal (name l : List UInt8) (hn : name.length ≤ maxLen) (hs : l.length ≤ 12000) (k : Nat) (hk : setOf name = some k) (hv : vld l = false) : Ct Tryz.prog 84 [S name, S l] (fun M => Tabs M) (fun r _ => r = .tuple #[.slice none 0 0, fault 5 (-3)]) := by
  have h4 := setOf_lt hk
  rcases k with _ | _ | _ | _ | k
  · exact encode_mal0 name l hn hs hk hv
  · exact encode_mal1 name l hn hs hk hv
  · exact encode_mal2 name l hn hs hk hv
  · exact encode_mal3 name l hn hs hk hv
  · omega
end Go.Proofs.YtogkmhjnojphiaaGreatDoor
end
section
set_option linter.unusedVariables false
set_option linter.unusedSimpArgs false
namespace Go.Ph.B64
def alpha : List UInt8 := [65, 66, 67, 68, 69, 70, 71, 72, 73, 74, 75, 76, 77, 78, 79, 80, 81, 82, 83, 84, 85, 86, 87, 88, 89, 90, 97, 98, 99, 100, 101, 102, 103, 104, 105, 106, 107, 108, 109, 110, 111, 112, 113, 114, 115, 116, 117, 118, 119, 120, 121, 122, 48, 49, 50, 51, 52, 53, 54, 55, 56, 57, 43, 47]
theorem alpha_len : alpha.length = 64 := rfl
def idx (c : UInt8) : Nat := alpha.idxOf c
def val64 (c : UInt8) : Int := if idx c < 64 then (idx c : Int) else -1
def bits8 (u : Nat) : List Nat := [u / 128 % 2, u / 64 % 2, u / 32 % 2, u / 16 % 2, u / 8 % 2, u / 4 % 2, u / 2 % 2, u / 1 % 2]
def bitsOf (l : List UInt8) : List Nat := l.flatMap fun u => bits8 u.toNat
def sumN (l : List Nat) : Nat := l.foldl (fun n x => 2 * n + x) 0
theorem bits8_len (u : Nat) : (bits8 u).length = 8 := rfl
theorem bits8_at (u j : Nat) (hj : j < 8) : (bits8 u)[j]'(by rw [bits8_len]; exact hj) = u / 2 ^ (7 - j) % 2 := by
  match j, hj with
  | 0, _ => rfl
  | 1, _ => rfl
  | 2, _ => rfl
  | 3, _ => rfl
  | 4, _ => rfl
  | 5, _ => rfl
  | 6, _ => rfl
  | 7, _ => rfl
theorem bitsOf_len (l : List UInt8) : (bitsOf l).length = 8 * l.length := by
  induction l with
  | nil => rfl
  | cons u l ih => simp only [bitsOf, List.flatMap_cons, List.length_append, bits8_len, List.length_cons] at ih ⊢; omega
theorem bitsOf_take (l : List UInt8) (k : Nat) (hk : k < l.length) : bitsOf (l.take (k + 1)) = bitsOf (l.take k) ++ bits8 (l[k]).toNat := by
  rw [List.take_succ_eq_append_getElem hk]
  unfold bitsOf
  rw [List.flatMap_append]
  simp only [List.flatMap_cons, List.flatMap_nil, List.append_nil]
theorem sumN_snoc (l : List Nat) (x : Nat) : sumN (l ++ [x]) = 2 * sumN l + x := by simp [sumN]
theorem sumN_acc (l : List Nat) (h : ∀ x ∈ l, x ≤ 1) : ∀ a, l.foldl (fun n x => 2 * n + x) a < (a + 1) * 2 ^ l.length := by
  induction l with
  | nil => intro a; simp
  | cons x l ih =>
    intro a
    have h1 := ih (fun y hy => h y (by simp [hy])) (2 * a + x)
    have h2 := h x (by simp)
    rw [List.foldl_cons, List.length_cons, Nat.pow_succ]
    refine Nat.lt_of_lt_of_le h1 ?_
    rw [Nat.mul_comm (2 ^ l.length) 2, ← Nat.mul_assoc]
    exact Nat.mul_le_mul_right _ (by omega)
theorem sumN_lt (l : List Nat) (h : ∀ x ∈ l, x ≤ 1) : sumN l < 2 ^ l.length := by
  have := sumN_acc l h 0
  simpa [sumN] using this
theorem bitsOf_next {l : List UInt8} {k : Nat} {u : UInt8} (hu : l[k]? = some u) : bitsOf (l.take (k + 1)) = bitsOf (l.take k) ++ bits8 u.toNat := by
  obtain ⟨hk, rfl⟩ := List.getElem?_eq_some_iff.1 hu
  exact bitsOf_take l k hk
theorem bits8_next (u j : Nat) (hj : j < 8) : (bits8 u).take (j + 1) = (bits8 u).take j ++ [u / 2 ^ (7 - j) % 2] := by
  rw [List.take_succ_eq_append_getElem (by rw [bits8_len]; exact hj), bits8_at u j hj]
def padBits (l : List UInt8) : List Nat := bitsOf l ++ List.replicate ((6 - 8 * l.length % 6) % 6) 0
theorem padBits_len (l : List UInt8) : (padBits l).length = 8 * l.length + (6 - 8 * l.length % 6) % 6 := by simp [padBits, bitsOf_len]
theorem bits8_le (u : Nat) : ∀ x ∈ bits8 u, x ≤ 1 := by
  intro x hx
  simp only [bits8, List.mem_cons, List.not_mem_nil, or_false] at hx
  omega
theorem bitsOf_le (l : List UInt8) : ∀ x ∈ bitsOf l, x ≤ 1 := by
  intro x hx
  obtain ⟨u, _, h⟩ := List.mem_flatMap.1 hx
  exact bits8_le _ x h
theorem padBits_le (l : List UInt8) : ∀ x ∈ padBits l, x ≤ 1 := by
  intro x hx
  rcases List.mem_append.1 hx with h | h
  · exact bitsOf_le l x h
  · rw [(List.mem_replicate.1 h).2]; omega
theorem part_le {l : List Nat} (h : ∀ x ∈ l, x ≤ 1) (i j : Nat) : ∀ x ∈ (l.take j).drop i, x ≤ 1 := fun x hx => h x (List.mem_of_mem_take (List.mem_of_mem_drop hx))
def six (bits : List Nat) (q : Nat) : Nat := sumN ((bits.take (6 * q + 6)).drop (6 * q))
theorem six_lt {bits : List Nat} (h : ∀ x ∈ bits, x ≤ 1) (q : Nat) : six bits q < 64 := by
  have h1 := sumN_lt _ (part_le h (6 * q) (6 * q + 6))
  have h2 : 2 ^ ((bits.take (6 * q + 6)).drop (6 * q)).length ≤ 2 ^ 6 := Nat.pow_le_pow_right (by decide) (by simp only [List.length_drop, List.length_take]; omega)
  unfold six
  omega
def sext (bits : List Nat) : Nat → List UInt8
  | 0 => []
  | q + 1 => sext bits q ++ (alpha.take (six bits q + 1)).drop (six bits q)
theorem alpha_one (k : Nat) (h : k < 64) : (alpha.take (k + 1)).drop k = [alpha.getD k 0] := by
  have hk : k < alpha.length := by rw [alpha_len]; exact h
  rw [List.take_succ_eq_append_getElem hk, List.drop_append_of_le_length (by rw [List.length_take, alpha_len]; omega), List.drop_eq_nil_of_le (by rw [List.length_take]; omega)]
  simp [List.getD, hk]
theorem sext_len {bits : List Nat} (h : ∀ x ∈ bits, x ≤ 1) (q : Nat) : (sext bits q).length = q := by
  induction q with
  | zero => rfl
  | succ q ih => rw [sext, List.length_append, ih, alpha_one _ (six_lt h q)]; rfl
def chars64 (l : List UInt8) : List UInt8 :=
  let s := sext (padBits l) ((padBits l).length / 6)
  s ++ List.replicate ((4 - s.length % 4) % 4) 61
def wrapTo (cs : List UInt8) : Nat → List UInt8
  | 0 => []
  | m + 1 => wrapTo cs m ++ (cs.drop (76 * m)).take 76 ++ [13, 10]
def lines64 (cs : List UInt8) : List UInt8 := wrapTo cs ((cs.length - 1) / 76) ++ (if cs.drop (76 * ((cs.length - 1) / 76)) = [] then [] else cs.drop (76 * ((cs.length - 1) / 76)) ++ [13, 10])
def upto61 (l : List UInt8) : List UInt8 := l.takeWhile (· != 61)
theorem upto61_eq (l : List UInt8) (k : Nat) (hb : ∀ j u, l[j]? = some u → j < k → u ≠ 61) (he : l.length ≤ k ∨ l[k]? = some 61) : upto61 l = l.take k := by
  induction l generalizing k with
  | nil => simp [upto61]
  | cons u l ih =>
    cases k with
    | zero =>
      have : u = 61 := by simpa using he
      subst this
      rfl
    | succ k =>
      have h1 : u ≠ 61 := hb 0 u rfl (by omega)
      have h2 := ih k (fun j v hj hk => hb (j + 1) v (by simpa using hj) (by omega)) (by simpa using he)
      unfold upto61 at h2 ⊢
      rw [List.takeWhile_cons_of_pos (by simpa using h1), h2]
      rfl
def lstep (s : List UInt8 × Nat × Nat) (c : UInt8) : List UInt8 × Nat × Nat :=
  if val64 c < 0 then s
  else if s.2.2 + 6 < 8 then (s.1, s.2.1 * 64 + idx c, s.2.2 + 6)
  else (s.1 ++ [UInt8.ofNat ((s.2.1 * 64 + idx c) / 2 ^ (s.2.2 + 6 - 8))], (s.2.1 * 64 + idx c) % 2 ^ (s.2.2 + 6 - 8), s.2.2 + 6 - 8)
def lrun (l : List UInt8) : List UInt8 × Nat × Nat := l.foldl lstep ([], 0, 0)
def lenient (l : List UInt8) : List UInt8 := (lrun (upto61 l)).1
theorem lrun_next {l : List UInt8} {k : Nat} {u : UInt8} (hu : l[k]? = some u) : lrun (l.take (k + 1)) = lstep (lrun (l.take k)) u := by
  obtain ⟨hk, rfl⟩ := List.getElem?_eq_some_iff.1 hu
  rw [List.take_succ_eq_append_getElem hk, lrun, List.foldl_append]
  rfl
theorem val64_idx {c : UInt8} (h : 0 ≤ val64 c) : val64 c = (idx c : Int) ∧ idx c < 64 := by
  unfold val64 at h ⊢
  split <;> rename_i hi
  · exact ⟨rfl, hi⟩
  · rw [if_neg hi] at h; omega
theorem lstep_inv (s : List UInt8 × Nat × Nat) (c : UInt8) (h1 : s.2.2 ≤ 6 ∧ s.2.2 % 2 = 0) (h2 : s.2.1 < 2 ^ s.2.2) : ((lstep s c).2.2 ≤ 6 ∧ (lstep s c).2.2 % 2 = 0) ∧ (lstep s c).2.1 < 2 ^ (lstep s c).2.2 := by
  unfold lstep
  by_cases hv : val64 c < 0
  · rw [if_pos hv]; exact ⟨h1, h2⟩
  · rw [if_neg hv]
    have hi := (val64_idx (c := c) (by omega)).2
    by_cases hb : s.2.2 + 6 < 8
    · rw [if_pos hb]
      have h0 : s.2.2 = 0 := by omega
      rw [h0] at h2 ⊢
      exact ⟨by simp, by simp at h2 ⊢; omega⟩
    · rw [if_neg hb]
      exact ⟨by simp only []; omega, Nat.mod_lt _ (Nat.two_pow_pos _)⟩
theorem lrun_inv (l : List UInt8) : ((lrun l).2.2 ≤ 6 ∧ (lrun l).2.2 % 2 = 0) ∧ (lrun l).2.1 < 2 ^ (lrun l).2.2 := by
  have key : ∀ (l : List UInt8) (s : List UInt8 × Nat × Nat), ((s.2.2 ≤ 6 ∧ s.2.2 % 2 = 0) ∧ s.2.1 < 2 ^ s.2.2) → (((l.foldl lstep s).2.2 ≤ 6 ∧ (l.foldl lstep s).2.2 % 2 = 0) ∧ (l.foldl lstep s).2.1 < 2 ^ (l.foldl lstep s).2.2) := by
    intro l
    induction l with
    | nil => exact fun s h => h
    | cons c l ih => exact fun s h => ih _ (lstep_inv s c h.1 h.2)
  exact key l ([], 0, 0) (by simp)
theorem lrun_len (l : List UInt8) : (lrun l).1.length ≤ l.length := by
  have key : ∀ (l : List UInt8) (s : List UInt8 × Nat × Nat), (l.foldl lstep s).1.length ≤ s.1.length + l.length := by
    intro l
    induction l with
    | nil => intro s; simp
    | cons c l ih =>
      intro s
      have h1 := ih (lstep s c)
      have h2 : (lstep s c).1.length ≤ s.1.length + 1 := by unfold lstep; split <;> (try split) <;> simp
      simp only [List.foldl_cons, List.length_cons]
      omega
  have := key l ([], 0, 0)
  simpa [lrun] using this
theorem or_six (x v : Nat) (hv : v < 64) : x * 2 ^ 6 ||| v = x * 64 + v := by
  have := Nat.two_pow_add_eq_or_of_lt (i := 6) (b := v) (by omega) x
  rw [Nat.mul_comm x, ← this, Nat.mul_comm]
theorem and_mask (x s : Nat) : x &&& (2 ^ s - 1) = x % 2 ^ s := Nat.and_two_pow_sub_one_eq_mod x s
theorem oct_lt (x v b : Nat) (h1 : b ≤ 6 ∧ b % 2 = 0) (h2 : x < 2 ^ b) (hv : v < 64) (hb : 8 ≤ b + 6) : (x * 64 + v) / 2 ^ (b + 6 - 8) < 256 := by
  obtain h | h | h : b = 2 ∨ b = 4 ∨ b = 6 := by omega
  all_goals (subst h; simp at h2 ⊢; omega)
theorem getD_out {α : Type} (l : List α) (i : Nat) (d : α) (h : l.length ≤ i) : l.getD i d = d := by
  rw [List.getD_eq_getElem?_getD, List.getElem?_eq_none h]; rfl
theorem getD_in {α : Type} (l : List α) (i : Nat) (d : α) (h : i < l.length) : l.getD i d = l[i] := by
  rw [List.getD_eq_getElem?_getD, List.getElem?_eq_getElem h]; rfl
def accN (l : List UInt8) : Nat → Nat
  | 0 => 0
  | i + 1 => accN l i * 256 + (l.getD i 0).toNat
theorem accN_out (l : List UInt8) (i : Nat) (h : l.length ≤ i) : accN l i * 256 = accN l (i + 1) := by
  rw [accN, getD_out _ _ _ h]; simp
theorem accN_lt (l : List UInt8) (i : Nat) : accN l i < 256 ^ i := by
  induction i with
  | zero => simp [accN]
  | succ i ih =>
    have := (l.getD i 0).toNat_lt
    rw [accN, Nat.pow_succ]
    omega
def ch (l : List UInt8) (i : Nat) : UInt8 := if min 3 l.length < i then 61 else alpha.getD (accN l 3 / 2 ^ (18 - 6 * i) % 64) 0
def outp (l : List UInt8) (j : Nat) : List UInt8 := (List.range 4).map fun i => if i < j then ch l i else 0
theorem outp_set (l : List UInt8) (j : Nat) (hj : j < 4) : (outp l j).set j (ch l j) = outp l (j + 1) := by
  match j, hj with
  | 0, _ => rfl
  | 1, _ => rfl
  | 2, _ => rfl
  | 3, _ => rfl
def grpAt (l : List UInt8) (k : Nat) : List UInt8 := outp (l.drop (3 * k)) 4
def grpsTo (l : List UInt8) (k : Nat) : List (List UInt8) := (List.range k).map (grpAt l)
def grps (l : List UInt8) : List (List UInt8) := grpsTo l ((l.length + 2) / 3)
theorem grpsTo_next (l : List UInt8) (k : Nat) : grpsTo l (k + 1) = grpsTo l k ++ [grpAt l k] := by
  simp [grpsTo, List.range_succ]
theorem grpsTo_ini (l : List UInt8) (k : Nat) (h : 3 * k < l.length) : (grpsTo l k ++ [grpAt l k]) <+: grps l := by
  rw [← grpsTo_next]
  refine ⟨((List.range' (k + 1) ((l.length + 2) / 3 - (k + 1))).map (grpAt l)), ?_⟩
  unfold grps grpsTo
  rw [← List.map_append]
  have h1 : List.range (k + 1) ++ List.range' (k + 1) ((l.length + 2) / 3 - (k + 1)) = List.range ((l.length + 2) / 3) := by
    have h2 := List.range'_append_1 (s := 0) (m := k + 1) (n := (l.length + 2) / 3 - (k + 1))
    rw [Nat.zero_add] at h2
    rw [List.range_eq_range', List.range_eq_range', h2]
    congr 1
    omega
  rw [h1]
theorem drop_next (l : List UInt8) (k n : Nat) (hn : n = min 3 (l.drop (3 * k)).length) : (l.drop (3 * k)).drop n = l.drop (3 * (k + 1)) := by
  rw [List.drop_drop]
  simp only [List.length_drop] at hn
  by_cases h : 3 ≤ l.length - 3 * k
  · rw [show 3 * k + n = 3 * (k + 1) by omega]
  · rw [List.drop_eq_nil_of_le (by omega), List.drop_eq_nil_of_le (by omega)]
theorem or_eight (x : Nat) (v : UInt8) : x * 2 ^ 8 ||| v.toNat = x * 256 + v.toNat := by
  have := Nat.two_pow_add_eq_or_of_lt (i := 8) (b := v.toNat) (by have := v.toNat_lt; omega) x
  rw [Nat.mul_comm x, ← this, Nat.mul_comm]
def encStep (s : List UInt8 × Nat) (g : List UInt8) : List UInt8 × Nat := if s.2 = 76 then (s.1 ++ [13, 10] ++ g, 4) else (s.1 ++ g, s.2 + 4)
def encRun (gs : List (List UInt8)) : List UInt8 × Nat := gs.foldl encStep ([], 0)
def encode (l : List UInt8) : List UInt8 := if 0 < (encRun (grps l)).2 then (encRun (grps l)).1 ++ [13, 10] else (encRun (grps l)).1
theorem encRun_next (gs : List (List UInt8)) (g : List UInt8) : encRun (gs ++ [g]) = encStep (encRun gs) g := by simp [encRun]
theorem grps_len (l : List UInt8) : (grps l).length = (l.length + 2) / 3 := by simp [grps, grpsTo]
theorem ini_len {l x : List UInt8} {pre : List (List UInt8)} (h : (pre ++ [x]) <+: grps l) : x.length = 4 ∧ (∀ g ∈ pre, g.length = 4) ∧ pre.length + 1 ≤ (l.length + 2) / 3 := by
  refine ⟨?_, fun g hg => ?_, ?_⟩
  · obtain ⟨k, _, rfl⟩ := List.mem_map.1 (h.subset (List.mem_append_right _ (List.mem_singleton.2 rfl))); rfl
  · obtain ⟨k, _, rfl⟩ := List.mem_map.1 (h.subset (List.mem_append_left _ hg)); rfl
  · have := h.length_le
    rw [grps_len] at this
    simpa using this
theorem grps_all (l : List UInt8) : ∀ g ∈ grps l, g.length = 4 := fun g hg => by
  obtain ⟨k, _, rfl⟩ := List.mem_map.1 hg; rfl
theorem encRun_inv (gs : List (List UInt8)) (h : ∀ g ∈ gs, g.length = 4) : (encRun gs).1.length ≤ 6 * gs.length ∧ (encRun gs).2 ≤ 76 ∧ (encRun gs).2 % 4 = 0 := by
  have key : ∀ (gs : List (List UInt8)) (s : List UInt8 × Nat), (∀ g ∈ gs, g.length = 4) → s.2 ≤ 76 → s.2 % 4 = 0 → (gs.foldl encStep s).1.length ≤ s.1.length + 6 * gs.length ∧ (gs.foldl encStep s).2 ≤ 76 ∧ (gs.foldl encStep s).2 % 4 = 0 := by
    intro gs
    induction gs with
    | nil => intro s _ h1 h2; exact ⟨by simp, h1, h2⟩
    | cons g gs ih =>
      intro s hg h1 h2
      have hg4 : g.length = 4 := hg g List.mem_cons_self
      have h3 : (encStep s g).1.length ≤ s.1.length + 6 ∧ (encStep s g).2 ≤ 76 ∧ (encStep s g).2 % 4 = 0 := by
        unfold encStep
        split
        · simp [hg4]
        · simp [hg4]; omega
      have := ih (encStep s g) (fun x hx => hg x (List.mem_cons_of_mem _ hx)) h3.2.1 h3.2.2
      simp only [List.foldl_cons, List.length_cons]
      omega
  have := key gs ([], 0) h (by simp) (by simp)
  simpa [encRun] using this
end Go.Ph.B64
end
section
set_option linter.unusedVariables false
set_option linter.unusedSimpArgs false
namespace Go.Proofs.YtogkmhjnojphiaaGreatDoor
open Go Go.RowKit Go.Ph
open Go.Ph.B64
theorem b_eq {a c : UInt8} : ((a.toNat : Int) = (c.toNat : Int)) ↔ a = c := by rw [Int.ofNat_inj, UInt8.toNat_inj]
theorem sum_spec (v : Value) (l : List Nat) (hs : l.length ≤ 8) (h1 : ∀ x ∈ l, x ≤ 1) : Ct Tryz.prog 136 [v] (fun M => Sl M encN v l) (fun r _ => r = encN (sumN l)) := by
  refine Ct.of Tryz.func136 (enters Tryz.func136 (by kernel_rfl) rfl) rfl rfl rfl ?_
  intro w0 M0 H hp
  refine SQ (RG (AS rfl rfl (NL (TN (SQ (RG (AS rfl rfl (NL (TN (SQ (SQ (RG (AS rfl rfl (NL (TN (BL (WC.loop1 (fun (k : Nat) => [(0, v), (3, encN (sumN (l.take k))), (4, I (k : Int))]) (fun (k : Nat) w => k ≤ l.length ∧ St w0 M0 M0 [] w) (fun (k : Nat) => l.length - k) (0) ⟨rfl, rfl, rfl, trivial⟩ (⟨by omega, H⟩) ?_)))))))))))))))))
  intro k w
  rintro ⟨hk, H⟩
  have hb := sumN_lt (l.take k) (fun x hx => h1 x (List.mem_of_mem_take hx))
  have hb2 : 2 ^ (l.take k).length ≤ 2 ^ 8 := Nat.pow_le_pow_right (by decide) (by rw [List.length_take]; omega)
  refine SQ (SQ (RG (MV rfl rfl (MV rfl rfl ?_))))
  first | refine WR.step (Ex.lenSl Tryz.underlying107 (by assumption) rfl) (Wn.none rfl) rfl rfl ?_ | refine WR.step (Ex.lenRow Tryz.underlying107 H (by repeat (first | exact List.Mem.head _ | apply List.Mem.tail)) rfl) (Wn.none rfl) rfl rfl ?_ | refine WR.step (Ex.lenSlice Tryz.underlying107 rfl) (Wn.none rfl) rfl rfl ?_
  refine WR.split (Ex.lss rfl rfl) (Wn.none rfl) rfl rfl (fun h3_3 => ?_) (fun h3_3 => ?_)
  · refine NL (TN (CT rfl (SK (TN (SQ (BL (RG (MV rfl rfl (ST (Ex.mul64 rfl rfl (by omega)) rfl ?_)))))))))
    refine MV rfl rfl (MV rfl rfl ?_)
    refine WR.idxSl Tryz.underlying107 Tryz.sizeOf3 (by assumption) rfl rfl (List.getElem?_eq_getElem (by omega)) (Wn.none rfl) rfl ?_
    intro p15 hc15
    first | refine WR.step (Ex.loadM H rfl (by assumption) Tryz.isAgg3) (Wn.none rfl) rfl rfl ?_ | refine WR.step (Ex.load1 H rfl (by repeat (first | exact List.Mem.head _ | apply List.Mem.tail)) Tryz.isAgg3 (by rfl)) (Wn.none rfl) rfl rfl ?_
    have hx1 := h1 l[k] (List.getElem_mem _)
    refine WR.stepE (v' := encN (sumN (l.take (k + 1)))) (Ex.add64 rfl rfl (by omega)) (by rw [List.take_succ_eq_append_getElem (by omega), sumN_snoc]; simp) (Wn.none rfl) rfl rfl ?_
    refine AS rfl rfl (NL (IB (TN (RG (MV rfl rfl (ST (Ex.add64 rfl rfl (by omega)) rfl ?_))))))
    refine AS rfl rfl (NL ?_)
    refine WQ.again1 (k + 1) ⟨rfl, rfl, rfl, trivial⟩ ?_ ?_
    · exact ⟨by omega, H⟩
    · omega
  · refine NL (TN (CF rfl (WC.exit (WQ.thenExit (WQ.thenExit (WQ.exitHere (TN (SQ (RG (MV rfl rfl (AS rfl rfl (NL (TN (RT ?_))))))))))))))
    refine WQ.ret1 rfl rfl H.ext ?_
    exact (by rw [List.take_of_length_le (by omega)])
theorem ub_nat (n : Nat) (h : n < 256) : ub (n : Int) = UInt8.ofNat n := by unfold ub; congr 1; omega
theorem mod2 (x : Nat) : I ((x : Int) % 2) = encN (x % 2) := rfl
theorem bits_spec (b : Value) (l : List UInt8) (hs : l.length ≤ 1000000) : CtO Tryz.prog 135 [b] (fun M => Bs M b l) (fun r _ its => its = [RowI 3 encN r (bitsOf l)]) := by
  refine CtO.of Tryz.func135 (enters Tryz.func135 (by kernel_rfl) rfl) rfl rfl rfl ?_
  intro w0 M0 H hp
  refine SQ (RG (AS rfl rfl (NL (TN (SQ (RG (AS rfl rfl (NL (TN (SQ (SQ (RG (AS rfl rfl (NL (TN (BL (WC.loop2 (fun (k : Nat) (v : Value) => [(0, b), (3, v), (4, I (k : Int))]) (fun (k : Nat) (v : Value) w => k ≤ l.length ∧ ∃ M, St w0 M0 M [RowI 3 encN v (bitsOf (l.take k))] w) (fun (k : Nat) (v : Value) => l.length - k) (0) (_) ⟨rfl, rfl, rfl, trivial⟩ (⟨by omega, M0, H.newRow 3 encN⟩) ?_)))))))))))))))))
  intro k v w
  rintro ⟨hk, M, H⟩
  have hb := hp.mono H.ext.le
  refine SQ (SQ (RG (MV rfl rfl (MV rfl rfl ?_))))
  first | refine WR.step (Ex.lenSl Tryz.underlying30 (by assumption) rfl) (Wn.none rfl) rfl rfl ?_ | refine WR.step (Ex.lenRow Tryz.underlying30 H (by repeat (first | exact List.Mem.head _ | apply List.Mem.tail)) rfl) (Wn.none rfl) rfl rfl ?_ | refine WR.step (Ex.lenSlice Tryz.underlying30 rfl) (Wn.none rfl) rfl rfl ?_
  refine WR.split (Ex.lss rfl rfl) (Wn.none rfl) rfl rfl (fun h3_3 => ?_) (fun h3_3 => ?_)
  · obtain ⟨u, hu⟩ : ∃ u, l[k]? = some u := ⟨_, List.getElem?_eq_getElem (by omega)⟩
    refine NL (TN (CT rfl (SK (TN (SQ (BL (SQ (RG (AS rfl rfl (NL (TN (BL (WC.loop2 (fun (j : Nat) (v : Value) => [(0, b), (3, v), (4, I (k : Int)), (5, I (7 - (j : Int)))]) (fun (j : Nat) (v : Value) w => j ≤ 8 ∧ ∃ M, St w0 M0 M [RowI 3 encN v (bitsOf (l.take k) ++ (bits8 u.toNat).take j)] w) (fun (j : Nat) (v : Value) => 8 - j) (0) (_) ⟨rfl, rfl, rfl, rfl, trivial⟩ (⟨by omega, M, by simpa using H⟩) ?_)))))))))))))
    intro j v w
    rintro ⟨hj, M, H⟩
    have hb := hp.mono H.ext.le
    have e1 := bitsOf_len (l.take k)
    have e2 : (l.take k).length ≤ l.length := List.length_take_le' _ _
    have e3 : ((bits8 u.toNat).take j).length ≤ 8 := by rw [List.length_take, bits8_len]; omega
    refine SQ (SQ (RG (MV rfl rfl ?_)))
    refine WR.split (Ex.geq rfl rfl) (Wn.none rfl) rfl rfl (fun h6_1 => ?_) (fun h6_1 => ?_)
    · refine NL (TN (CT rfl (SK (TN (SQ (BL (RG (MV rfl rfl (MV rfl rfl (MV rfl rfl (WR.idxSl Tryz.underlying30 Tryz.sizeOf5 (by assumption) rfl rfl (hu) (Wn.none rfl) rfl ?_)))))))))))
      intro p19 hc19
      first | refine WR.step (Ex.loadM H rfl (by assumption) Tryz.isAgg5) (Wn.none rfl) rfl rfl ?_ | refine WR.step (Ex.load1 H rfl (by repeat (first | exact List.Mem.head _ | apply List.Mem.tail)) Tryz.isAgg5 (by rfl)) (Wn.none rfl) rfl rfl ?_
      first | refine WR.step (Ex.convB Tryz.underlying5 Tryz.underlying3 rfl) (Wn.none rfl) rfl rfl ?_ | refine WR.step (Ex.convI Tryz.underlying5 Tryz.underlying3 rfl (by omega)) (Wn.none rfl) rfl rfl ?_
      refine WR.stepE (v' := I ((7 - j : Nat) : Int)) (Ex.move rfl) (congrArg I (by omega)) (Wn.none rfl) rfl rfl ?_
      refine ST (Ex.convU64 Tryz.underlying3 Tryz.underlying102 rfl (by omega)) rfl ?_
      refine ST (Ex.shrN (m := _) (s := _) rfl rfl (by first | (show _ ≤ 64; omega) | (show _ ≤ 8; omega) | decide)) rfl ?_
      refine WR.stepE (v' := encN (u.toNat / 2 ^ (7 - j) % 2)) (Ex.rem64 rfl rfl (by first | omega | exact ⟨Int.natCast_nonneg _, by decide⟩)) (mod2 _) (Wn.none rfl) rfl rfl ?_
      refine WR.lit (enc := encN) ty107 [_] H rfl (by rfl) (fun _ => rfl) rfl rfl (Wn.none rfl) rfl ?_
      intro v26 M w H hle hl26
      replace hb := hb.mono hle
      replace hc19 := hc19.mono hle
      refine WR.appendSl ty107 (fun _ => rfl) H rfl (fun _ => by repeat first | exact .head | apply Upd.tail) rfl (by assumption) (by first | omega | (simp only [List.length_append, List.length_cons, List.length_nil, List.length_take, List.length_drop]; omega) | (simp only [List.length_append, List.length_cons, List.length_nil, List.length_take, List.length_drop, List.length_replicate, bitsOf_len] at *; omega)) (by first | (simp only [maxLen]; omega) | (simp only [maxLen, List.length_append, List.length_cons, List.length_nil, List.length_take, List.length_drop]; omega) | (simp only [maxLen, List.length_append, List.length_cons, List.length_nil, List.length_take, List.length_drop, List.length_replicate, bitsOf_len] at *; omega)) (Wn.none rfl) rfl ?_
      intro v27 w H
      refine AS rfl rfl (NL (IB (TN (RG (MV rfl rfl (WR.stepE (v' := I (7 - ((j + 1 : Nat) : Int))) (Ex.sub64 rfl rfl (by omega)) (congrArg I (by omega)) (Wn.none rfl) rfl rfl ?_))))))
      refine AS rfl rfl (NL ?_)
      refine WQ.again2 (j + 1) (v27) ⟨rfl, rfl, rfl, rfl, trivial⟩ ?_ ?_
      · refine ⟨by omega, M, ?_⟩
        rw [bits8_next _ _ (by omega), ← List.append_assoc]
        exact H
      · omega
    · refine NL (TN (CF rfl (WC.exit (WQ.thenExit (WQ.thenExit (WQ.exitHere (IB (TN (RG (MV rfl rfl (ST (Ex.add64 rfl rfl (by omega)) rfl ?_)))))))))))
      refine AS rfl rfl (NL ?_)
      refine WQ.again2 (k + 1) (v) ⟨rfl, rfl, rfl, trivial⟩ ?_ ?_
      · refine ⟨by omega, M, ?_⟩
        rw [bitsOf_next hu]
        rw [List.take_of_length_le (l := bits8 u.toNat) (by rw [bits8_len]; omega)] at H
        exact H
      · omega
  · refine NL (TN (CF rfl (WC.exit (WQ.thenExit (WQ.thenExit (WQ.exitHere (TN (SQ (RG (MV rfl rfl (AS rfl rfl (NL (TN (RT ?_))))))))))))))
    rw [List.take_of_length_le (by omega)] at H
    refine WQ.ret1O rfl rfl H (List.Sublist.refl _) ?_
    exact rfl
theorem chars64_spec (b : Value) (l : List UInt8) (hs : l.length ≤ 1000000) : Ct Tryz.prog 93 [b] (fun M => Bs M b l) (fun r _ => r = S (chars64 l)) := by
  refine Ct.of Tryz.func93 (enters Tryz.func93 (by kernel_rfl) rfl) rfl rfl rfl ?_
  intro w0 M0 H hp
  refine SQ (RG (AS rfl rfl (NL (TN (SQ (RG (MV rfl rfl (WR.callO H (bits_spec _ _ (by omega)) rfl (by assumption) (Wn.none rfl) rfl ?_))))))))
  intro v8 M w its H hle hr8
  replace hp := hp.mono hle
  obtain rfl := hr8
  simp only [List.cons_append, List.nil_append] at H
  refine AS rfl rfl (NL (TN (SQ (BL (WC.loop2 (fun (j : Nat) (v : Value) => [(3, v)]) (fun (j : Nat) (v : Value) w => j ≤ (6 - 8 * l.length % 6) % 6 ∧ ∃ M, St w0 M0 M [RowI 3 encN v (bitsOf l ++ List.replicate j 0)] w) (fun (j : Nat) (v : Value) => 6 - j) (0) (_) ⟨rfl, trivial⟩ (⟨by omega, M, by simpa using H⟩) ?_)))))
  intro j v w
  rintro ⟨hj, M, H⟩
  have hL : (bitsOf l ++ List.replicate j 0).length = 8 * l.length + j := by simp [bitsOf_len]
  refine SQ (SQ (RG (MV rfl rfl ?_)))
  first | refine WR.step (Ex.lenSl Tryz.underlying107 (by assumption) rfl) (Wn.none rfl) rfl rfl ?_ | refine WR.step (Ex.lenRow Tryz.underlying107 H (by repeat (first | exact List.Mem.head _ | apply List.Mem.tail)) rfl) (Wn.none rfl) rfl rfl ?_ | refine WR.step (Ex.lenSlice Tryz.underlying107 rfl) (Wn.none rfl) rfl rfl ?_
  refine ST (Ex.rem64 rfl rfl (by first | omega | exact ⟨Int.natCast_nonneg _, by decide⟩)) rfl ?_
  refine WR.split (Ex.neq rfl rfl) (Wn.none rfl) rfl rfl (fun h2_3 => ?_) (fun h2_3 => ?_)
  · refine NL (TN (CT rfl (SK (TN (BL (RG (MV rfl rfl (WR.lit (enc := encN) ty107 [(0)] H rfl (by rfl) (fun _ => rfl) rfl rfl (Wn.none rfl) rfl ?_))))))))
    intro v14 M w H hle hl14
    refine WR.appendSl ty107 (fun _ => rfl) H rfl (fun _ => by repeat first | exact .head | apply Upd.tail) rfl (by assumption) (by first | omega | (simp only [List.length_append, List.length_cons, List.length_nil, List.length_take, List.length_drop]; omega) | (simp only [List.length_append, List.length_cons, List.length_nil, List.length_take, List.length_drop, List.length_replicate, bitsOf_len] at *; omega)) (by first | (simp only [maxLen]; omega) | (simp only [maxLen, List.length_append, List.length_cons, List.length_nil, List.length_take, List.length_drop]; omega) | (simp only [maxLen, List.length_append, List.length_cons, List.length_nil, List.length_take, List.length_drop, List.length_replicate, bitsOf_len] at *; omega)) (Wn.none rfl) rfl ?_
    intro v15 w H
    refine AS rfl rfl (NL (IB ?_))
    refine WQ.again2 (j + 1) (v15) ⟨rfl, trivial⟩ ?_ ?_
    · refine ⟨by omega, M, ?_⟩
      rw [List.replicate_succ', ← List.append_assoc]
      exact H
    · omega
  · refine NL (TN (CF rfl (WC.exit (WQ.thenExit (WQ.thenExit (WQ.exitHere (TN (SQ (RG (AS rfl rfl (NL (TN (SQ (SQ (RG (AS rfl rfl (NL (TN (BL ?_)))))))))))))))))))
    obtain ⟨M, hle, hf, H⟩ := H.freezeRow (v := v) (enc := encN) (t := 3) (by repeat first | exact .head | apply Rem.tail)
    rw [show bitsOf l ++ List.replicate j 0 = padBits l by rw [padBits]; congr; omega] at hf
    refine WC.loop1 (fun (q : Nat) => [(3, v), (4, S (sext (padBits l) q)), (5, I ((6 * q : Nat) : Int))]) (fun (q : Nat) w => 6 * q ≤ (padBits l).length ∧ ∃ M, St w0 M0 M [] w ∧ Sl M encN v (padBits l)) (fun (q : Nat) => (padBits l).length - 6 * q) (0) ⟨rfl, rfl, rfl, trivial⟩ (⟨by omega, M, H, hf⟩) ?_
    intro q w
    rintro ⟨hq, M, H, hf⟩
    have e1 := padBits_len l
    have e2 := sext_len (padBits_le l) q
    have e3 := six_lt (padBits_le l) q
    refine SQ (SQ (RG (MV rfl rfl (MV rfl rfl ?_))))
    first | refine WR.step (Ex.lenSl Tryz.underlying107 (by assumption) rfl) (Wn.none rfl) rfl rfl ?_ | refine WR.step (Ex.lenRow Tryz.underlying107 H (by repeat (first | exact List.Mem.head _ | apply List.Mem.tail)) rfl) (Wn.none rfl) rfl rfl ?_ | refine WR.step (Ex.lenSlice Tryz.underlying107 rfl) (Wn.none rfl) rfl rfl ?_
    refine WR.split (Ex.lss rfl rfl) (Wn.none rfl) rfl rfl (fun h6_3 => ?_) (fun h6_3 => ?_)
    · refine NL (TN (CT rfl (SK (TN (SQ (BL (SQ (RG (MV rfl rfl (MV rfl rfl (MV rfl rfl (ST (Ex.add64 rfl rfl (by omega)) rfl ?_))))))))))))
      refine WR.sliceSl (i := 6 * q) (j := 6 * q + 6) Tryz.underlying107 Tryz.sizeOf3 (by assumption) rfl (.inl ⟨_, rfl, rfl⟩) (.inl ⟨_, rfl, rfl⟩) (by omega) (by omega) (Wn.none rfl) rfl ?_
      intro v26 hs26
      refine WR.call H (sum_spec _ (((padBits l).take (6 * q + 6)).drop (6 * q)) (by simp only [List.length_drop, List.length_take]; omega) (part_le (padBits_le l) _ _)) rfl (by assumption) (Wn.none rfl) rfl ?_
      intro v27 M w H hle hr27
      replace hf := hf.mono hle
      replace hs26 := hs26.mono hle
      obtain rfl := hr27
      refine WR.stepE (v' := encN (six (padBits l) q)) (Ex.assign rfl) rfl (Wn.none rfl) rfl rfl (NL (TN (RG (MV rfl rfl (MV rfl rfl (MV rfl rfl (ST (Ex.add64 rfl rfl (by omega)) rfl ?_)))))))
      refine ST (Ex.sliceStr (l := alpha) (i := six (padBits l) q) (j := six (padBits l) q + 1) Tryz.underlying9 rfl (.inl ⟨_, rfl, rfl⟩) (.inl ⟨_, rfl, rfl⟩) (by omega) (by rw [alpha_len]; omega)) rfl ?_
      refine WR.stepE (v' := S (sext (padBits l) (q + 1))) (Ex.strAdd rfl rfl (by first | omega | (simp only [List.length_cons, List.length_nil]; omega) | (simp only [List.length_append, List.length_cons, List.length_nil, List.length_drop, List.length_take]; omega))) rfl (Wn.none rfl) rfl rfl ?_
      refine AS rfl rfl (NL (IB (TN (RG (MV rfl rfl (WR.stepE (v' := I ((6 * (q + 1) : Nat) : Int)) (Ex.add64 rfl rfl (by omega)) (congrArg I (by omega)) (Wn.none rfl) rfl rfl ?_))))))
      refine AS rfl rfl (NL ?_)
      refine WQ.again1 (q + 1) ⟨rfl, rfl, rfl, trivial⟩ ?_ ?_
      · exact ⟨by omega, M, H, hf⟩
      · omega
    · refine NL (TN (CF rfl (WC.exit (WQ.thenExit (WQ.thenExit (WQ.exitHere (TN (SQ (BL (WC.loop1 (fun (m : Nat) => [(4, S (sext (padBits l) q ++ List.replicate m 61))]) (fun (m : Nat) w => m ≤ (4 - (sext (padBits l) q).length % 4) % 4 ∧ ∃ M, St w0 M0 M [] w) (fun (m : Nat) => 4 - m) (0) ⟨(by rw [List.replicate_zero, List.append_nil]; rfl), trivial⟩ (⟨by omega, M, H⟩) ?_))))))))))
      intro m w
      rintro ⟨hm, M, H⟩
      have hL2 : (sext (padBits l) q ++ List.replicate m 61).length = (sext (padBits l) q).length + m := by simp
      refine SQ (SQ (RG (MV rfl rfl (ST (Ex.lenStr Tryz.underlying9 rfl) rfl (ST (Ex.rem64 rfl rfl (by first | omega | exact ⟨Int.natCast_nonneg _, by decide⟩)) rfl ?_)))))
      refine WR.split (Ex.neq rfl rfl) (Wn.none rfl) rfl rfl (fun h10_3 => ?_) (fun h10_3 => ?_)
      · refine NL (TN (CT rfl (SK (TN (BL (RG (MV rfl rfl (WR.stepE (v' := S (sext (padBits l) q ++ List.replicate (m + 1) 61)) (Ex.strAdd rfl rfl (by first | omega | (simp only [List.length_cons, List.length_nil]; omega) | (simp only [List.length_append, List.length_cons, List.length_nil, List.length_drop, List.length_take]; omega))) (by rw [List.replicate_succ', ← List.append_assoc]) (Wn.none rfl) rfl rfl ?_))))))))
        refine AS rfl rfl (NL (IB ?_))
        refine WQ.again1 (m + 1) ⟨rfl, trivial⟩ ?_ ?_
        · exact ⟨by omega, M, H⟩
        · omega
      · refine NL (TN (CF rfl (WC.exit (WQ.thenExit (WQ.thenExit (WQ.exitHere (TN (SQ (RG (MV rfl rfl (AS rfl rfl (NL (TN (RT ?_))))))))))))))
        refine WQ.ret1 rfl rfl H.ext ?_
        exact (by
            have hq2 : q = (padBits l).length / 6 := by omega
            have hm2 : m = (4 - (sext (padBits l) q).length % 4) % 4 := by omega
            subst hq2
            rw [hm2, chars64])
end Go.Proofs.YtogkmhjnojphiaaGreatDoor
end
section
set_option linter.unusedVariables false
set_option linter.unusedSimpArgs false
namespace Go.Proofs.YtogkmhjnojphiaaGreatDoor
open Go Go.RowKit Go.Ph
theorem bytesOf_natsB (l : List UInt8) : Lib.bytesOf (l.map fun u => (u.toNat : Int)) = l := by
  unfold Lib.bytesOf
  rw [List.map_map]
  conv => rhs; rw [← List.map_id l]
  apply List.map_congr_left
  intro u _
  simp
theorem indexByte_idx (l : List UInt8) (c : UInt8) : Lib.indexByte l c = if l.idxOf c < l.length then (l.idxOf c : Int) else -1 := by
  induction l with
  | nil => simp [Lib.indexByte]
  | cons b l ih =>
    simp only [Lib.indexByte, List.idxOf_cons, List.length_cons]
    by_cases h : b = c
    · subst h; simp
    · have h' : (b == c) = false := by simpa using h
      rw [h', ih]
      simp only [Bool.false_eq_true, if_false, cond_false]
      by_cases hl : l.idxOf c < l.length
      · have h1 : l.idxOf c + 1 < l.length + 1 := by omega
        have h2 : ¬ (((l.idxOf c : Int) == -1) = true) := by simp only [beq_iff_eq]; omega
        simp only [hl, h1, if_true, h2, if_false, Bool.false_eq_true]
        omega
      · have h1 : ¬ (l.idxOf c + 1 < l.length + 1) := by omega
        simp only [hl, h1, if_false]
        rfl
theorem indexByte_alpha (c : UInt8) : Lib.indexByte B64.alpha c = B64.val64 c := by
  rw [indexByte_idx, B64.alpha_len]; rfl
theorem indexByte_spec (b : Value) (l : List UInt8) (c : UInt8) : Ct Tryz.prog 102 [b, encB c] (fun M => Bs M b l) (fun r _ => r = I (Lib.indexByte l c)) := by
  refine ⟨enters Tryz.func102 (by kernel_rfl) rfl, fun w M ha hp => ?_⟩
  obtain ⟨A, cp, rfl, hc, hn⟩ := hp.cells ha
  have hcv : ((c.toNat : Int)).toNat.toUInt8 = c := by simp
  cases A with
  | none =>
    obtain ⟨rfl, rfl⟩ := hn rfl
    exact (Tryz.bytes_IndexByte_nil (c.toNat : Int) w).mono fun e w' ⟨he, hw⟩ => ⟨_, M, he, by subst hw; exact Ext.refl ha, rfl⟩
  | some ad =>
    refine (Tryz.bytes_IndexByte_at ad l.length cp (l.map fun u => (u.toNat : Int)) (c.toNat : Int) w (by simp) (fun i hi => ?_)).mono fun e w' ⟨he, hw⟩ => ⟨_, M, he, by subst hw; exact Ext.refl ha, ?_⟩
    · have := hc ad rfl i (encB l[i]) (by simp [hi])
      rw [this]
      simp [hi]
    · rw [bytesOf_natsB, hcv]
open Go.Ph.B64
theorem next61 {l : List UInt8} {k : Nat} {u : UInt8} (hb : ∀ j u, l[j]? = some u → j < k → u ≠ 61) (hu : l[k]? = some u) (h : ¬ ((u.toNat : Int) = 61)) : ∀ j u, l[j]? = some u → j < k + 1 → u ≠ 61 := by
  intro j x hj hjk
  rcases Nat.lt_or_ge j k with h1 | h1
  · exact hb j x hj h1
  · obtain rfl : j = k := by omega
    rw [hu] at hj; cases hj
    exact fun e => h (by rw [e]; rfl)
theorem lenient_spec (bv : Value) (l : List UInt8) (hs : l.length ≤ 24000) : Ct Tryz.prog 138 [bv] (fun M => Bs M bv l) (fun r M => ∃ v, r = .tuple #[v, fault 0 0] ∧ Bs M v (lenient l)) := by
  refine Ct.of Tryz.func138 (enters Tryz.func138 (by kernel_rfl) rfl) rfl rfl rfl ?_
  intro w0 M0 H hp
  refine SQ (RG (AS rfl rfl (WR.alloc [_, _] H Tryz.zeroValue24 rfl (Wn.none rfl) rfl ?_)))
  intro b3 w H
  refine NL (TN (SQ (SQ (RG (MV rfl rfl ?_)))))
  first | refine WR.step (Ex.lenSl Tryz.underlying30 (by assumption) rfl) (Wn.none rfl) rfl rfl ?_ | refine WR.step (Ex.lenRow Tryz.underlying30 H (by repeat (first | exact List.Mem.head _ | apply List.Mem.tail)) rfl) (Wn.none rfl) rfl rfl ?_ | refine WR.step (Ex.lenSlice Tryz.underlying30 rfl) (Wn.none rfl) rfl rfl ?_
  refine WR.stepF (Ex.gtr rfl rfl) (by omega) (Wn.none rfl) rfl rfl ?_
  refine NL (TN (CF rfl (SK (TN (SQ (RG (AS rfl rfl (NL (TN (SQ (RG (AS rfl rfl (AS rfl rfl (NL (TN ?_)))))))))))))))
  refine WC.cut1 (fun (v : Value) => [(3, ptr b3 0), (4, v)]) (fun (v : Value) w => ∃ M, St w0 M0 M [RowI 5 encB v (lenient l), .blk b3 (.cells #[I 0, I 0] 24)] w) ?_ ?_
  · refine SQ (RG (MV rfl rfl ?_))
    first | refine WR.step (Ex.lenSl Tryz.underlying30 (by assumption) rfl) (Wn.none rfl) rfl rfl ?_ | refine WR.step (Ex.lenRow Tryz.underlying30 H (by repeat (first | exact List.Mem.head _ | apply List.Mem.tail)) rfl) (Wn.none rfl) rfl rfl ?_ | refine WR.step (Ex.lenSlice Tryz.underlying30 rfl) (Wn.none rfl) rfl rfl ?_
    refine MV rfl rfl (NL (TN (BL ?_)))
    replace H := H.newRow 5 encB
    refine WC.loop5 (fun (k : Nat) (v : Value) (o : List UInt8) (x : Nat) (b : Nat) => [(3, ptr b3 0), (4, v), (5, encN x), (6, encN b), (14, bv), (15, I (l.length : Int)), (16, I (k : Int))]) (fun (k : Nat) (v : Value) (o : List UInt8) (x : Nat) (b : Nat) w => k ≤ l.length ∧ (∀ j u, l[j]? = some u → j < k → u ≠ 61) ∧ lrun (l.take k) = (o, x, b) ∧ ∃ M, St w0 M0 M [RowI 5 encB v o, .blk b3 (.cells #[I 0, I 0] 24)] w) (fun (k : Nat) (v : Value) (o : List UInt8) (x : Nat) (b : Nat) => l.length - k) (0) (_) (_) (0) (0) ⟨rfl, rfl, rfl, rfl, rfl, rfl, rfl, trivial⟩ (⟨by omega, fun _ _ _ h => absurd h (by omega), rfl, M0, H⟩) ?_
    intro k v o x b w
    rintro ⟨hk, hb61, hst, M, H⟩
    have hb := hp.mono H.ext.le
    have hi := lrun_inv (l.take k)
    have hl2 := lrun_len (l.take k)
    have hl3 : (l.take k).length ≤ l.length := List.length_take_le' _ _
    rw [hst] at hi hl2
    simp only [] at hi hl2
    have hx2 : 2 ^ b ≤ 2 ^ 6 := Nat.pow_le_pow_right (by decide) hi.1.1
    refine SQ (RG ?_)
    refine WR.split (Ex.lss rfl rfl) (Wn.none rfl) rfl rfl (fun h6_0 => ?_) (fun h6_0 => ?_)
    · obtain ⟨u, hu⟩ : ∃ u, l[k]? = some u := ⟨_, List.getElem?_eq_getElem (by omega)⟩
      refine NL (TN (SQ (CT rfl (SK (TN (SQ (BL (SQ (RG (WR.idxSl Tryz.underlying30 Tryz.sizeOf5 (by assumption) rfl rfl (hu) (Wn.none rfl) rfl ?_))))))))))
      intro p18 hc18
      first | refine WR.step (Ex.loadM H rfl (by assumption) Tryz.isAgg5) (Wn.none rfl) rfl rfl ?_ | refine WR.step (Ex.load1 H rfl (by repeat (first | exact List.Mem.head _ | apply List.Mem.tail)) Tryz.isAgg5 (by rfl)) (Wn.none rfl) rfl rfl ?_
      refine AS rfl rfl (NL (TN (SQ (SQ (RG (MV rfl rfl ?_))))))
      refine WR.split (Ex.eql rfl rfl) (Wn.none rfl) rfl rfl (fun h8_1 => ?_) (fun h8_1 => ?_)
      · refine NL (TN (CT rfl (WC.exit (WQ.thenExit (WQ.exitOut rfl (WQ.thenExit (WQ.thenExit (WQ.exitHere (WQ.meet1 (v) ⟨rfl, rfl, trivial⟩ ?_)))))))))
        refine ⟨M, ?_⟩
        have hlen : lenient l = o := by rw [lenient, upto61_eq l k hb61 (.inr (by rw [hu]; congr 1; exact b_eq.1 h8_1)), hst]
        rw [hlen]
        exact H
      · refine NL (TN (CF rfl (SK (TN (SQ (RG (WR.litC ty30 Tryz.underlying5 alpha H rfl (by rfl) rfl rfl (Wn.none rfl) rfl (fun _ => Wn.none rfl) rfl ?_)))))))
        intro v23 M w H hle hl23
        replace hb := hb.mono hle
        replace hc18 := hc18.mono hle
        refine MV rfl rfl (WR.call H (indexByte_spec _ alpha _) rfl (by assumption) (Wn.none rfl) rfl ?_)
        intro v25 M w H hle hr25
        replace hb := hb.mono hle
        replace hc18 := hc18.mono hle
        replace hl23 := hl23.mono hle
        obtain rfl := hr25
        rw [indexByte_alpha]
        refine AS rfl rfl (NL (TN (SQ (SQ (RG (MV rfl rfl ?_))))))
        refine WR.split (Ex.lss rfl rfl) (Wn.none rfl) rfl rfl (fun h10_1 => ?_) (fun h10_1 => ?_)
        · refine NL (TN (CT rfl (WC.exit (WQ.thenExit (WQ.exitHere (TN (RG (ST (Ex.add64 rfl rfl (by omega)) rfl ?_))))))))
          refine MV rfl rfl (NL ?_)
          refine WQ.again5 (k + 1) (v) (o) (x) (b) ⟨rfl, rfl, rfl, rfl, rfl, rfl, rfl, trivial⟩ ?_ ?_
          · exact ⟨by omega, next61 hb61 hu h8_1, by rw [lrun_next hu, hst, lstep, if_pos h10_1], M, H⟩
          · omega
        · have hix := val64_idx (c := u) (by omega)
          refine NL (TN (CF rfl (SK (TN (SQ (RG (MV rfl rfl (ST (Ex.shlN (m := x) (s := 6) rfl rfl (by first | (show _ ≤ 64; omega) | (show _ ≤ 8; omega) | decide) (by first | omega | (simp; omega))) rfl ?_))))))))
          refine WR.stepE (v' := encN (idx u)) (Ex.move rfl) (congrArg I hix.1) (Wn.none rfl) rfl rfl (WR.stepE (v' := encN (x * 64 + idx u)) (Ex.orN (m := _) (s := _) rfl rfl (by omega) (by omega)) (congrArg encN (or_six x (idx u) hix.2)) (Wn.none rfl) rfl rfl ?_)
          refine MV rfl rfl (WR.stepE (v' := encN (b + 6)) (Ex.add64 rfl rfl (by omega)) rfl (Wn.none rfl) rfl rfl ?_)
          refine AS rfl rfl (AS rfl rfl (NL (TN (SQ (RG (MV rfl rfl ?_))))))
          refine WR.split (Ex.geq rfl rfl) (Wn.none rfl) rfl rfl (fun h12_1 => ?_) (fun h12_1 => ?_)
          · refine NL (TN (CT rfl (SQ (RG (MV rfl rfl (WR.stepE (v' := encN (b + 6 - 8)) (Ex.sub64 rfl rfl (by omega)) (congrArg I (by omega)) (Wn.none rfl) rfl rfl ?_))))))
            refine AS rfl rfl (NL (TN (SQ (RG (MV rfl rfl (MV rfl rfl (MV rfl rfl (ST (Ex.shrN (m := _) (s := _) rfl rfl (by first | (show _ ≤ 64; omega) | (show _ ≤ 8; omega) | decide)) rfl ?_))))))))
            refine WR.stepE (v' := encB (UInt8.ofNat ((x * 64 + idx u) / 2 ^ (b + 6 - 8)))) (Ex.convU8 Tryz.underlying3 Tryz.underlying5 rfl) (congrArg encB (ub_nat _ (oct_lt x (idx u) b hi.1 hi.2 hix.2 (by omega)))) (Wn.none rfl) rfl rfl ?_
            refine WR.lit (enc := encB) ty30 [_] H rfl (by rfl) (fun _ => rfl) rfl rfl (Wn.none rfl) rfl ?_
            intro v43 M w H hle hl43
            replace hb := hb.mono hle
            replace hc18 := hc18.mono hle
            replace hl23 := hl23.mono hle
            refine WR.appendSl ty30 (fun _ => rfl) H rfl (fun _ => by repeat first | exact .head | apply Upd.tail) rfl (by assumption) (by first | omega | (simp only [List.length_append, List.length_cons, List.length_nil, List.length_take, List.length_drop]; omega)) (by first | (simp only [maxLen]; omega) | (simp only [maxLen, List.length_append, List.length_cons, List.length_nil, List.length_take, List.length_drop]; omega)) (Wn.none rfl) rfl ?_
            intro v44 w H
            refine AS rfl rfl (NL (TN (RG (MV rfl rfl (MV rfl rfl ?_)))))
            obtain ⟨P2, hP2⟩ : ∃ P2, P2 = 2 ^ (b + 6 - 8) := ⟨_, rfl⟩
            have hp2 : P2 ≤ 16 := by rw [hP2]; exact Nat.pow_le_pow_right (n := 2) (j := 4) (by decide) (by omega)
            have hp3 : 0 < P2 := by rw [hP2]; exact Nat.two_pow_pos _
            refine WR.stepE (v' := encN P2) (Ex.shlN (m := 1) (s := b + 6 - 8) rfl rfl (by first | (show _ ≤ 64; omega) | (show _ ≤ 8; omega) | decide) (by first | omega | (simp; omega))) (congrArg encN (by rw [hP2, Nat.one_mul])) (Wn.none rfl) rfl rfl ?_
            refine WR.stepE (v' := encN (P2 - 1)) (Ex.sub64 rfl rfl (by omega)) (congrArg I (by omega)) (Wn.none rfl) rfl rfl ?_
            refine WR.stepE (v' := encN ((x * 64 + idx u) % 2 ^ (b + 6 - 8))) (Ex.andN (m := _) (s := _) rfl rfl (by omega) (by omega)) (congrArg encN (by rw [hP2]; exact and_mask _ _)) (Wn.none rfl) rfl rfl ?_
            refine AS rfl rfl (NL (IB (TN (RG (ST (Ex.add64 rfl rfl (by omega)) rfl ?_)))))
            refine MV rfl rfl (NL ?_)
            refine WQ.again5 (k + 1) (v44) (o ++ [UInt8.ofNat ((x * 64 + idx u) / 2 ^ (b + 6 - 8))]) (_) (_) ⟨rfl, rfl, rfl, rfl, rfl, rfl, rfl, trivial⟩ ?_ ?_
            · exact ⟨by omega, next61 hb61 hu h8_1, by rw [lrun_next hu, hst, lstep, if_neg h10_1, if_neg (by simp only []; omega)], M, H⟩
            · omega
          · refine NL (TN (CF rfl (SK (IB (TN (RG (ST (Ex.add64 rfl rfl (by omega)) rfl ?_)))))))
            refine MV rfl rfl (NL ?_)
            refine WQ.again5 (k + 1) (v) (o) (_) (_) ⟨rfl, rfl, rfl, rfl, rfl, rfl, rfl, trivial⟩ ?_ ?_
            · exact ⟨by omega, next61 hb61 hu h8_1, by rw [lrun_next hu, hst, lstep, if_neg h10_1, if_pos (by simp only []; omega)], M, H⟩
            · omega
    · refine NL (TN (SQ (CF rfl (WC.exit (WQ.thenExit (WQ.thenExit (WQ.exitHere (WQ.meet1 (v) ⟨rfl, rfl, trivial⟩ ?_))))))))
      refine ⟨M, ?_⟩
      have hlen : lenient l = o := by rw [lenient, upto61_eq l k hb61 (.inl (by omega)), hst]
      rw [hlen]
      exact H
  · intro v w
    rintro ⟨M, H⟩
    refine SQ (RG (MV rfl rfl (WR.call H (none_spec) rfl (trivial) (Wn.none rfl) rfl ?_)))
    intro v52 M w H hle hr52
    obtain rfl := hr52
    refine AS rfl rfl (WR.store [_, _] H rfl rfl rfl (by repeat first | exact .head | apply Upd.tail) Tryz.sizeOf24 rfl (by rfl) (by rfl) (Wn.none rfl) ?_)
    intro w H
    refine NL (TN (RT ?_))
    obtain ⟨M, hle, hf, H⟩ := H.freezeRow (v := v) (enc := encB) (t := 5) (by repeat first | exact .head | apply Rem.tail)
    refine WQ.ret2 rfl rfl ⟨_, rfl, H.loadAgg (by repeat (first | exact List.Mem.head _ | apply List.Mem.tail)) Tryz.isAgg24 Tryz.sizeOf24 (by rfl)⟩ H.ext ?_
    exact ⟨_, rfl, hf⟩
end Go.Proofs.YtogkmhjnojphiaaGreatDoor
end
section
set_option linter.unusedVariables false
set_option linter.unusedSimpArgs false
namespace Go.Proofs.YtogkmhjnojphiaaGreatDoor
open Go Go.RowKit Go.Ph
open Go.Ph.B64
abbrev encG (x : List UInt8) : Value := .agg (x.map encB).toArray
theorem groups_iter (bb : Nat) (v0 : Value) (l : List UInt8) (hs : l.length ≤ 1000000) : IterCt Tryz.prog 190 [ptr bb 0] [.blk bb (.cells #[v0] 30)] (fun M => Bs M v0 l) encG (grps l) := by
  refine ⟨enters Tryz.func190 (by kernel_rfl) rfl, fun lid Z Zx hZ hY L0 w0 M0 hz H hp => calls_of_WC Tryz.func190 rfl rfl rfl ?_⟩
  generalize hC : feet ([.blk bb (.cells #[v0] 30)] ++ L0) = C at H ⊢
  simp only [List.cons_append, List.nil_append] at H
  refine BL (WC.loop3 (fun (k : Nat) (v : Value) (Lc : List Ph.Item) => [(0, yv lid), (1, ptr bb 0)]) (fun (k : Nat) (v : Value) (Lc : List Ph.Item) w => k ≤ (l.length + 2) / 3 ∧ ∃ M, StX C w0 M0 M (.blk bb (.cells #[v] 30) :: Lc) w ∧ Bs M v (l.drop (3 * k)) ∧ Z (grpsTo l k) Lc M) (fun (k : Nat) (v : Value) (Lc : List Ph.Item) => l.length + 2 - 3 * k) (0) (_) (_) ⟨rfl, rfl, trivial⟩ (⟨by omega, M0, H, hp, hz⟩) ?_)
  intro k v Lc w
  rintro ⟨hk, M, H, hb, hzc⟩
  have hlen : (l.drop (3 * k)).length = l.length - 3 * k := List.length_drop
  refine SQ (SQ (RG ?_))
  first | refine WR.step (Ex.loadM H rfl (by assumption) Tryz.isAgg30) (Wn.none rfl) rfl rfl ?_ | refine WR.step (Ex.load1 H rfl (by repeat (first | exact List.Mem.head _ | apply List.Mem.tail)) Tryz.isAgg30 (by rfl)) (Wn.none rfl) rfl rfl ?_
  first | refine WR.step (Ex.lenSl Tryz.underlying30 (by assumption) rfl) (Wn.none rfl) rfl rfl ?_ | refine WR.step (Ex.lenRow Tryz.underlying30 H (by repeat (first | exact List.Mem.head _ | apply List.Mem.tail)) rfl) (Wn.none rfl) rfl rfl ?_ | refine WR.step (Ex.lenSlice Tryz.underlying30 rfl) (Wn.none rfl) rfl rfl ?_
  refine WR.split (Ex.gtr rfl rfl) (Wn.none rfl) rfl rfl (fun h0_2 => ?_) (fun h0_2 => ?_)
  · refine NL (TN (CT rfl (SK (TN (BL (SQ (RG ?_)))))))
    first | refine WR.step (Ex.loadM H rfl (by assumption) Tryz.isAgg30) (Wn.none rfl) rfl rfl ?_ | refine WR.step (Ex.load1 H rfl (by repeat (first | exact List.Mem.head _ | apply List.Mem.tail)) Tryz.isAgg30 (by rfl)) (Wn.none rfl) rfl rfl ?_
    first | refine WR.step (Ex.lenSl Tryz.underlying30 (by assumption) rfl) (Wn.none rfl) rfl rfl ?_ | refine WR.step (Ex.lenRow Tryz.underlying30 H (by repeat (first | exact List.Mem.head _ | apply List.Mem.tail)) rfl) (Wn.none rfl) rfl rfl ?_ | refine WR.step (Ex.lenSlice Tryz.underlying30 rfl) (Wn.none rfl) rfl rfl ?_
    refine WR.stepE (v' := encN (min 3 (l.drop (3 * k)).length)) (Ex.min2 rfl rfl) (congrArg I (by omega)) (Wn.none rfl) rfl rfl ?_
    refine AS rfl rfl (NL (TN (SQ (RG (AS rfl rfl (NL (TN (SQ (SQ (RG (MV rfl rfl (NL (TN (BL (WC.loop1 (fun (i : Nat) => [(0, yv lid), (1, ptr bb 0), (3, encN (min 3 (l.drop (3 * k)).length)), (4, encN (accN (l.drop (3 * k)) i)), (14, I (i : Int))]) (fun (i : Nat) w => i ≤ 3 ∧ StX C w0 M0 M (.blk bb (.cells #[v] 30) :: Lc) w) (fun (i : Nat) => 3 - i) (0) ⟨rfl, rfl, rfl, rfl, rfl, trivial⟩ (⟨by omega, H⟩) ?_)))))))))))))))
    intro i w
    rintro ⟨hi, H⟩
    have hac := accN_lt (l.drop (3 * k)) i
    have hac2 : 256 ^ i ≤ 256 ^ 3 := Nat.pow_le_pow_right (by decide) hi
    refine SQ (RG ?_)
    refine WR.split (Ex.lss rfl rfl) (Wn.none rfl) rfl rfl (fun h4_0 => ?_) (fun h4_0 => ?_)
    · refine NL (TN (SQ (CT rfl (SK (TN (SQ (BL (SQ (RG (MV rfl rfl (AS rfl rfl (NL (TN (SQ (RG (MV rfl rfl (WR.stepE (v' := encN (accN (l.drop (3 * k)) i * 256)) (Ex.shlN (m := accN (l.drop (3 * k)) i) (s := 8) rfl rfl (by first | (show _ ≤ 64; omega) | (show _ ≤ 8; omega) | decide) (by first | omega | (simp; omega))) rfl (Wn.none rfl) rfl rfl ?_)))))))))))))))))
      refine AS rfl rfl (NL (TN (SQ (RG (MV rfl rfl (MV rfl rfl ?_))))))
      refine WR.split (Ex.lss rfl rfl) (Wn.none rfl) rfl rfl (fun h7_2 => ?_) (fun h7_2 => ?_)
      · obtain ⟨u, hu⟩ : ∃ u, (l.drop (3 * k))[i]? = some u := ⟨_, List.getElem?_eq_getElem (by omega)⟩
        have hult := u.toNat_lt
        refine NL (TN (CT rfl (RG (MV rfl rfl ?_))))
        first | refine WR.step (Ex.loadM H rfl (by assumption) Tryz.isAgg30) (Wn.none rfl) rfl rfl ?_ | refine WR.step (Ex.load1 H rfl (by repeat (first | exact List.Mem.head _ | apply List.Mem.tail)) Tryz.isAgg30 (by rfl)) (Wn.none rfl) rfl rfl ?_
        refine MV rfl rfl (WR.idxSl Tryz.underlying30 Tryz.sizeOf5 (by assumption) rfl rfl (hu) (Wn.none rfl) rfl ?_)
        intro p25 hc25
        first | refine WR.step (Ex.loadM H rfl (by assumption) Tryz.isAgg5) (Wn.none rfl) rfl rfl ?_ | refine WR.step (Ex.load1 H rfl (by repeat (first | exact List.Mem.head _ | apply List.Mem.tail)) Tryz.isAgg5 (by rfl)) (Wn.none rfl) rfl rfl ?_
        first | refine WR.step (Ex.convB Tryz.underlying5 Tryz.underlying3 rfl) (Wn.none rfl) rfl rfl ?_ | refine WR.step (Ex.convI Tryz.underlying5 Tryz.underlying3 rfl (by omega)) (Wn.none rfl) rfl rfl ?_
        refine WR.stepE (v' := encN (accN (l.drop (3 * k)) (i + 1))) (Ex.orN (m := accN (l.drop (3 * k)) i * 256) (s := u.toNat) rfl rfl (by omega) (by omega)) (congrArg encN (by rw [show accN (l.drop (3 * k)) i * 256 = accN (l.drop (3 * k)) i * 2 ^ 8 from rfl, or_eight, accN]; simp [List.getD_eq_getElem?_getD, hu])) (Wn.none rfl) rfl rfl ?_
        refine AS rfl rfl (NL (IB (TN (RG (ST (Ex.add64 rfl rfl (by omega)) rfl ?_)))))
        refine MV rfl rfl (NL ?_)
        refine WQ.again1 (i + 1) ⟨rfl, rfl, rfl, rfl, rfl, trivial⟩ ?_ ?_
        · exact ⟨by omega, H⟩
        · omega
      · refine NL (TN (CF rfl (SK (IB (TN (RG (ST (Ex.add64 rfl rfl (by omega)) rfl ?_)))))))
        refine MV rfl rfl (NL ?_)
        refine WQ.again1 (i + 1) ⟨rfl, rfl, rfl, (congrArg (fun x => some (encN x)) (accN_out _ _ (by omega))), rfl, trivial⟩ ?_ ?_
        · exact ⟨by omega, H⟩
        · omega
    · refine NL (TN (SQ (CF rfl (WC.exit (WQ.thenExit (WQ.thenExit (WQ.exitHere (TN (SQ (RG (WR.alloc [_, _, _, _] H Tryz.zeroValue189 rfl (Wn.none rfl) rfl ?_)))))))))))
      intro b6 w H
      refine NL (TN (SQ (SQ (RG (MV rfl rfl (NL (TN (BL ?_))))))))
      obtain rfl : i = 3 := by omega
      refine WC.loop1 (fun (j : Nat) => [(0, yv lid), (1, ptr bb 0), (3, encN (min 3 (l.drop (3 * k)).length)), (4, encN (accN (l.drop (3 * k)) 3)), (6, ptr b6 0), (30, I (j : Int))]) (fun (j : Nat) w => j ≤ 4 ∧ StX C w0 M0 M (.blk b6 (.cells ((outp (l.drop (3 * k)) j).map encB).toArray 189) :: .blk bb (.cells #[v] 30) :: Lc) w) (fun (j : Nat) => 4 - j) (0) ⟨rfl, rfl, rfl, rfl, rfl, rfl, trivial⟩ (⟨by omega, H⟩) ?_
      intro j w
      rintro ⟨hj, H⟩
      have hac := accN_lt (l.drop (3 * k)) 3
      have hol : (outp (l.drop (3 * k)) j).length = 4 := rfl
      refine SQ (RG ?_)
      refine WR.split (Ex.lss rfl rfl) (Wn.none rfl) rfl rfl (fun h12_0 => ?_) (fun h12_0 => ?_)
      · refine NL (TN (SQ (CT rfl (SK (TN (SQ (BL (SQ (RG (MV rfl rfl (AS rfl rfl (NL (TN (SQ (RG (MV rfl rfl (MV rfl rfl (MV rfl rfl (ST (Ex.mul64 rfl rfl (by omega)) rfl ?_)))))))))))))))))))
        refine WR.stepE (v' := I ((18 - 6 * j : Nat) : Int)) (Ex.sub64 rfl rfl (by omega)) (congrArg I (by omega)) (Wn.none rfl) rfl rfl ?_
        refine ST (Ex.shrN (m := _) (s := _) rfl rfl (by first | (show _ ≤ 64; omega) | (show _ ≤ 8; omega) | decide)) rfl ?_
        have hdv : accN (l.drop (3 * k)) 3 / 2 ^ (18 - 6 * j) ≤ accN (l.drop (3 * k)) 3 := Nat.div_le_self _ _
        refine WR.stepE (v' := encN (accN (l.drop (3 * k)) 3 / 2 ^ (18 - 6 * j) % 64)) (Ex.andN (m := _) (s := 63) rfl rfl (by omega) (by omega)) (congrArg encN (Nat.and_two_pow_sub_one_eq_mod _ 6)) (Wn.none rfl) rfl rfl ?_
        refine WR.stepE (v' := encB (alpha.getD (accN (l.drop (3 * k)) 3 / 2 ^ (18 - 6 * j) % 64) 0)) (Ex.idxStr (l := alpha) Tryz.underlying9 rfl rfl (List.getElem?_eq_getElem (by rw [alpha_len]; omega))) (congrArg encB (by rw [getD_in _ _ _ (by rw [alpha_len]; omega)])) (Wn.none rfl) rfl rfl ?_
        refine ST (Ex.idxArr Tryz.underlying189 Tryz.sizeOf5 rfl rfl (by omega)) rfl ?_
        refine WR.store1 (((outp (l.drop (3 * k)) j).set j (alpha.getD (accN (l.drop (3 * k)) 3 / 2 ^ (18 - 6 * j) % 64) 0)).map encB) H rfl rfl (by repeat first | exact .head | apply Upd.tail) (by simp [List.map_set]) Tryz.sizeOf5 (by simp [hol]; omega) rfl rfl (Wn.none rfl) ?_
        intro w H
        refine NL (TN (SQ (RG (MV rfl rfl (MV rfl rfl ?_)))))
        refine WR.split (Ex.gtr rfl rfl) (Wn.none rfl) rfl rfl (fun h15_2 => ?_) (fun h15_2 => ?_)
        · refine NL (TN (CT rfl (RG (MV rfl rfl (ST (Ex.idxArr Tryz.underlying189 Tryz.sizeOf5 rfl rfl (by omega)) rfl ?_)))))
          refine WR.store1 (((outp (l.drop (3 * k)) j).set j 61).map encB) H rfl rfl (by repeat first | exact .head | apply Upd.tail) (by simp [List.map_set]; rfl) Tryz.sizeOf5 (by simp [hol]; omega) rfl rfl (Wn.none rfl) ?_
          intro w H
          refine NL (IB (TN (RG (ST (Ex.add64 rfl rfl (by omega)) rfl ?_))))
          refine MV rfl rfl (NL ?_)
          refine WQ.again1 (j + 1) ⟨rfl, rfl, rfl, rfl, rfl, rfl, trivial⟩ ?_ ?_
          · refine ⟨by omega, ?_⟩
            rw [← outp_set _ _ (by omega), ch, if_pos (by omega)]
            exact H
          · omega
        · refine NL (TN (CF rfl (SK (IB (TN (RG (ST (Ex.add64 rfl rfl (by omega)) rfl ?_)))))))
          refine MV rfl rfl (NL ?_)
          refine WQ.again1 (j + 1) ⟨rfl, rfl, rfl, rfl, rfl, rfl, trivial⟩ ?_ ?_
          · refine ⟨by omega, ?_⟩
            rw [← outp_set _ _ (by omega), ch, if_neg (by omega)]
            exact H
          · omega
      · refine NL (TN (SQ (CF rfl (WC.exit (WQ.thenExit (WQ.thenExit (WQ.exitHere (TN (SQ (SQ (RG (MV rfl rfl ?_))))))))))))
        first | refine WR.step (Ex.loadAgg H rfl (by repeat (first | exact List.Mem.head _ | apply List.Mem.tail)) Tryz.isAgg189 Tryz.sizeOf189 (by rfl)) (Wn.none rfl) rfl rfl ?_ | refine WR.step (Ex.loadAggM H rfl (by assumption) Tryz.isAgg189 Tryz.sizeOf189 (by rfl)) (Wn.none rfl) rfl rfl ?_
        obtain rfl : j = 4 := by omega
        have hpre : (grpsTo l k ++ [outp (l.drop (3 * k)) 4]) <+: grps l := grpsTo_ini l k (by omega)
        refine WR.yield (hY _ _ _ _ _ hpre hzc (H.hand (.right (.right (Spl.whole _))))) rfl rfl (Wn.none rfl) rfl ?_
        rintro en w ⟨M, Lc, Hs, hcase⟩
        replace H := (H.back (.right (.right (Spl.whole _))) Hs).perm List.perm_append_comm
        simp only [List.cons_append, List.nil_append] at H
        replace hb := hb.mono Hs.ext.le
        rcases hcase with ⟨rfl, hzc⟩ | ⟨rfl, hzc⟩
        · refine ⟨true, rfl, ?_⟩
          refine ST (Ex.notT rfl) rfl (NL (TN (CF rfl (SK (TN (RG ?_))))))
          first | refine WR.step (Ex.loadM H rfl (by assumption) Tryz.isAgg30) (Wn.none rfl) rfl rfl ?_ | refine WR.step (Ex.load1 H rfl (by repeat (first | exact List.Mem.head _ | apply List.Mem.tail)) Tryz.isAgg30 (by rfl)) (Wn.none rfl) rfl rfl ?_
          refine MV rfl rfl (WR.sliceSl (i := min 3 (l.drop (3 * k)).length) (j := (l.drop (3 * k)).length) Tryz.underlying30 Tryz.sizeOf5 (by assumption) rfl (.inl ⟨_, rfl, rfl⟩) (.inr ⟨rfl, rfl⟩) (by omega) (by omega) (Wn.none rfl) rfl ?_)
          intro v54 hs54
          refine WR.putV [_] H rfl rfl (by first | exact One.slice _ _ _ | exact Sl.one (by assumption) | exact StX.rowOne H (by repeat (first | exact List.Mem.head _ | apply List.Mem.tail))) (by repeat first | exact .head | apply Upd.tail) (by rfl) Tryz.sizeOf30 (by first | decide | (simp; done) | (simp; omega)) (Wn.none rfl) ?_
          intro w H
          refine NL (IB ?_)
          refine WQ.again3 (k + 1) (v54) (Lc) ⟨rfl, rfl, trivial⟩ ?_ ?_
          · refine ⟨by omega, M, H.drop (List.sublist_cons_self _ _), ?_, ?_⟩
            · have := drop_next l k (min 3 (l.drop (3 * k)).length) rfl
              rw [List.take_of_length_le (Nat.le_refl _), this] at hs54
              exact hs54
            · rw [grpsTo_next]; exact hzc
          · omega
        · refine ⟨false, rfl, ?_⟩
          refine ST (Ex.notF rfl) rfl (NL (TN (CT rfl (RT ?_))))
          refine WQ.ret0X rfl ?_
          subst hC
          exact ⟨_, M, Lc, rfl, H.drop (by exact (List.sublist_cons_self _ _).trans (List.sublist_cons_self _ _)), .inr ⟨_, hpre, hzc⟩⟩
  · refine NL (TN (CF rfl (WC.exit (WQ.thenExit (WQ.thenExit (WQ.exitHere (WQ.end0X rfl ?_)))))))
    subst hC
    rw [show k = (l.length + 2) / 3 by omega] at hzc
    exact ⟨_, M, Lc, rfl, H.drop (List.sublist_cons_self _ _), .inl hzc⟩
theorem groups_spec (bv : Value) (l : List UInt8) : CtO Tryz.prog 163 [bv] (fun M => Bs M bv l) (fun r _ its => ∃ bb, r = .func (.func 190) #[] #[ptr bb 0] ∧ its = [.blk bb (.cells #[bv] 30)]) := by
  refine CtO.of Tryz.func163 (enters Tryz.func163 (by kernel_rfl) rfl) rfl rfl rfl ?_
  intro w0 M0 H hp
  refine SQ (RG (WR.box [_] H rfl (One.cells (by first | exact One.slice _ _ _ | exact Sl.one (by assumption) | exact StX.rowOne H (by repeat (first | exact List.Mem.head _ | apply List.Mem.tail)))) (Wn.none rfl) rfl ?_))
  intro b1 w H
  refine AS rfl rfl (NL (TN (SQ (RG (ST (Ex.makeFunc rfl) rfl (AS rfl rfl (NL (TN (RT ?_)))))))))
  refine WQ.ret1O rfl rfl H (List.Sublist.refl _) ?_
  exact ⟨_, rfl, rfl⟩
theorem encode_spec (bv : Value) (l : List UInt8) (hs : l.length ≤ 12000) : Ct Tryz.prog 127 [bv] (fun M => Bs M bv l) (fun r M => ∃ v, r = .tuple #[v, fault 0 0] ∧ Bs M v (encode l)) := by
  refine Ct.ofM Tryz.func127 (enters Tryz.func127 (by kernel_rfl) rfl) rfl rfl rfl ?_
  intro w0 M0 H hp
  refine SQ (RG (AS rfl rfl (WR.alloc [_, _] H Tryz.zeroValue24 rfl (Wn.none rfl) rfl ?_)))
  intro b3 w H
  refine NL (TN (SQ (SQ (RG (MV rfl rfl ?_)))))
  first | refine WR.step (Ex.lenSl Tryz.underlying30 (by assumption) rfl) (Wn.none rfl) rfl rfl ?_ | refine WR.step (Ex.lenRow Tryz.underlying30 H (by repeat (first | exact List.Mem.head _ | apply List.Mem.tail)) rfl) (Wn.none rfl) rfl rfl ?_ | refine WR.step (Ex.lenSlice Tryz.underlying30 rfl) (Wn.none rfl) rfl rfl ?_
  refine WR.stepF (Ex.gtr rfl rfl) (by omega) (Wn.none rfl) rfl rfl ?_
  refine NL (TN (CF rfl (SK (TN (SQ (RG (WR.alloc [_] H Tryz.zeroValue30 rfl (Wn.none rfl) rfl ?_)))))))
  intro b4 w H
  refine NL (TN (SQ (RG (WR.alloc [_] H Tryz.zeroValue3 rfl (Wn.none rfl) rfl ?_))))
  intro b5 w H
  refine WR.store [_] H rfl rfl rfl (by repeat first | exact .head | apply Upd.tail) Tryz.sizeOf3 rfl (by rfl) (by rfl) (Wn.none rfl) ?_
  intro w H
  refine NL (TN (SQ (SQ (RG (MV rfl rfl ?_)))))
  replace H := H.newRow 5 encB
  refine WR.callO H (groups_spec _ _) rfl (by assumption) (Wn.none rfl) rfl ?_
  intro v12 M w its H hle hr12
  replace hp := hp.mono hle
  obtain ⟨bb, rfl, rfl⟩ := hr12
  simp only [List.cons_append, List.nil_append] at H
  refine NL (TN (BL ?_))
  refine WC.rangeFunc H rfl (groups_iter bb bv l (by omega)) (.left (.left (.left (.left (.right .nil))))) (hp) rfl (fun pre Lc _ => ∃ v, Lc = [RowI 5 encB v (encRun pre).1, .blk b5 (.cells #[encN (encRun pre).2] 3), .blk b4 (.cells #[v] 30)]) (fun _ _ _ _ => False) (fun _ _ _ _ h _ => h) (⟨_, rfl⟩) ?_ ?_ ?_
  · intro lid rc hrc pre x Lc w M hpre hz H
    obtain ⟨v, rfl⟩ := hz
    have hi4 := ini_len hpre
    have hiv := encRun_inv pre hi4.2.1
    have hx4 := hi4.1
    refine RG (WR.alloc [_, _, _, _] H Tryz.zeroValue189 rfl (Wn.none rfl) rfl ?_)
    intro b6 w H
    refine WR.store (x.map encB) H rfl rfl rfl (by repeat first | exact .head | apply Upd.tail) Tryz.sizeOf189 (by simp [hx4]) rfl (by simp; exact fun _ _ => rfl) (Wn.none rfl) ?_
    intro w H
    refine NL (WQ.begin hrc H (by repeat first | exact .head | apply Upd.tail) ?_)
    intro w H
    refine BL (SQ (SQ (RG ?_)))
    first | refine WR.step (Ex.loadM H rfl (by assumption) Tryz.isAgg3) (Wn.none rfl) rfl rfl ?_ | refine WR.step (Ex.load1 H rfl (by repeat (first | exact List.Mem.head _ | apply List.Mem.tail)) Tryz.isAgg3 (by rfl)) (Wn.none rfl) rfl rfl ?_
    refine WR.split (Ex.eql rfl rfl) (Wn.none rfl) rfl rfl (fun h7_1 => ?_) (fun h7_1 => ?_)
    · refine NL (TN (CT rfl (SQ (RG ?_))))
      first | refine WR.step (Ex.loadM H rfl (by assumption) Tryz.isAgg30) (Wn.none rfl) rfl rfl ?_ | refine WR.step (Ex.load1 H rfl (by repeat (first | exact List.Mem.head _ | apply List.Mem.tail)) Tryz.isAgg30 (by rfl)) (Wn.none rfl) rfl rfl ?_
      refine WR.lit (enc := encB) ty30 [13, 10] H rfl (by rfl) (fun _ => rfl) rfl rfl (Wn.none rfl) rfl ?_
      intro v17 M w H hle hl17
      refine WR.appendSl ty30 (fun _ => rfl) H rfl (fun _ => by repeat first | exact .head | apply Upd.tail) rfl (by assumption) (by first | omega | (simp only [List.length_append, List.length_cons, List.length_nil, List.length_take, List.length_drop]; omega)) (by first | (simp only [maxLen]; omega) | (simp only [maxLen, List.length_append, List.length_cons, List.length_nil, List.length_take, List.length_drop]; omega)) (Wn.none rfl) rfl ?_
      intro v18 w H
      refine WR.putV [_] H rfl rfl (by first | exact One.slice _ _ _ | exact Sl.one (by assumption) | exact StX.rowOne H (by repeat (first | exact List.Mem.head _ | apply List.Mem.tail))) (by repeat first | exact .head | apply Upd.tail) (by rfl) Tryz.sizeOf30 (by first | decide | (simp; done) | (simp; omega)) (Wn.none rfl) ?_
      intro w H
      refine NL (TN (RG (WR.store [_] H rfl rfl rfl (by repeat first | exact .head | apply Upd.tail) Tryz.sizeOf3 rfl (by rfl) (by rfl) (Wn.none rfl) ?_)))
      intro w H
      refine NL (TN (SQ (WC.draw (m := 4) rfl rfl H ?_)))
      intro w H
      refine WA.two (i := 0) (j := 1) (by kernel_rfl) rfl rfl ?_ ?_
      · first | refine WR.step (Ex.loadM H rfl (by assumption) Tryz.isAgg30) (Wn.none rfl) rfl rfl ?_ | refine WR.step (Ex.load1 H rfl (by repeat (first | exact List.Mem.head _ | apply List.Mem.tail)) Tryz.isAgg30 (by rfl)) (Wn.none rfl) rfl rfl ?_
        refine NA (ON 1 (by kernel_rfl) rfl (WR.stepE (v' := .slice (some ⟨b6, 0, none⟩) x.length x.length) (Ex.sliceArr Tryz.underlying189 Tryz.sizeOf5 rfl) (by rw [hx4]) (Wn.none rfl) rfl rfl ?_))
        refine NA (ON 2 (by kernel_rfl) rfl (WR.appendBlk ty30 (fun _ => rfl) H rfl (fun _ => by repeat first | exact .head | apply Upd.tail) rfl (by repeat (first | exact List.Mem.head _ | apply List.Mem.tail)) (by first | omega | (simp only [List.length_append, List.length_cons, List.length_nil, List.length_take, List.length_drop]; omega)) (by first | (simp only [maxLen]; omega) | (simp only [maxLen, List.length_append, List.length_cons, List.length_nil, List.length_take, List.length_drop]; omega)) (Wn.none rfl) rfl ?_))
        intro v21 w H
        refine NA (ON 3 (by kernel_rfl) rfl (WR.putV [_] H rfl rfl (by first | exact One.slice _ _ _ | exact Sl.one (by assumption) | exact StX.rowOne H (by repeat (first | exact List.Mem.head _ | apply List.Mem.tail))) (by repeat first | exact .head | apply Upd.tail) (by rfl) Tryz.sizeOf30 (by first | decide | (simp; done) | (simp; omega)) (Wn.none rfl) ?_))
        intro w H
        refine NA (WA.done (by kernel_rfl) (TN (RG ?_)))
        first | refine WR.step (Ex.loadM H rfl (by assumption) Tryz.isAgg3) (Wn.none rfl) rfl rfl ?_ | refine WR.step (Ex.load1 H rfl (by repeat (first | exact List.Mem.head _ | apply List.Mem.tail)) Tryz.isAgg3 (by rfl)) (Wn.none rfl) rfl rfl ?_
        refine ST (Ex.add64 rfl rfl (by omega)) rfl ?_
        refine WR.store [_] H rfl rfl rfl (by repeat first | exact .head | apply Upd.tail) Tryz.sizeOf3 rfl (by rfl) (by rfl) (Wn.none rfl) ?_
        intro w H
        refine NL (IB ?_)
        refine WQ.roundOn hrc (H.drop (List.sublist_cons_self _ _)) ⟨v21, ?_⟩
        rw [encRun_next, encStep, if_pos (by omega)]
        rfl
      · refine WR.stepE (v' := .slice (some ⟨b6, 0, none⟩) x.length x.length) (Ex.sliceArr Tryz.underlying189 Tryz.sizeOf5 rfl) (by rw [hx4]) (Wn.none rfl) rfl rfl ?_
        refine NA (ON 0 (by kernel_rfl) rfl ?_)
        first | refine WR.step (Ex.loadM H rfl (by assumption) Tryz.isAgg30) (Wn.none rfl) rfl rfl ?_ | refine WR.step (Ex.load1 H rfl (by repeat (first | exact List.Mem.head _ | apply List.Mem.tail)) Tryz.isAgg30 (by rfl)) (Wn.none rfl) rfl rfl ?_
        refine NA (ON 2 (by kernel_rfl) rfl (WR.appendBlk ty30 (fun _ => rfl) H rfl (fun _ => by repeat first | exact .head | apply Upd.tail) rfl (by repeat (first | exact List.Mem.head _ | apply List.Mem.tail)) (by first | omega | (simp only [List.length_append, List.length_cons, List.length_nil, List.length_take, List.length_drop]; omega)) (by first | (simp only [maxLen]; omega) | (simp only [maxLen, List.length_append, List.length_cons, List.length_nil, List.length_take, List.length_drop]; omega)) (Wn.none rfl) rfl ?_))
        intro v21 w H
        refine NA (ON 3 (by kernel_rfl) rfl (WR.putV [_] H rfl rfl (by first | exact One.slice _ _ _ | exact Sl.one (by assumption) | exact StX.rowOne H (by repeat (first | exact List.Mem.head _ | apply List.Mem.tail))) (by repeat first | exact .head | apply Upd.tail) (by rfl) Tryz.sizeOf30 (by first | decide | (simp; done) | (simp; omega)) (Wn.none rfl) ?_))
        intro w H
        refine NA (WA.done (by kernel_rfl) (TN (RG ?_)))
        first | refine WR.step (Ex.loadM H rfl (by assumption) Tryz.isAgg3) (Wn.none rfl) rfl rfl ?_ | refine WR.step (Ex.load1 H rfl (by repeat (first | exact List.Mem.head _ | apply List.Mem.tail)) Tryz.isAgg3 (by rfl)) (Wn.none rfl) rfl rfl ?_
        refine ST (Ex.add64 rfl rfl (by omega)) rfl ?_
        refine WR.store [_] H rfl rfl rfl (by repeat first | exact .head | apply Upd.tail) Tryz.sizeOf3 rfl (by rfl) (by rfl) (Wn.none rfl) ?_
        intro w H
        refine NL (IB ?_)
        refine WQ.roundOn hrc (H.drop (List.sublist_cons_self _ _)) ⟨v21, ?_⟩
        rw [encRun_next, encStep, if_pos (by omega)]
        rfl
    · refine NL (TN (CF rfl (SK (TN (SQ (WC.draw (m := 4) rfl rfl H ?_))))))
      intro w H
      refine WA.two (i := 0) (j := 1) (by kernel_rfl) rfl rfl ?_ ?_
      · first | refine WR.step (Ex.loadM H rfl (by assumption) Tryz.isAgg30) (Wn.none rfl) rfl rfl ?_ | refine WR.step (Ex.load1 H rfl (by repeat (first | exact List.Mem.head _ | apply List.Mem.tail)) Tryz.isAgg30 (by rfl)) (Wn.none rfl) rfl rfl ?_
        refine NA (ON 1 (by kernel_rfl) rfl (WR.stepE (v' := .slice (some ⟨b6, 0, none⟩) x.length x.length) (Ex.sliceArr Tryz.underlying189 Tryz.sizeOf5 rfl) (by rw [hx4]) (Wn.none rfl) rfl rfl ?_))
        refine NA (ON 2 (by kernel_rfl) rfl (WR.appendBlk ty30 (fun _ => rfl) H rfl (fun _ => by repeat first | exact .head | apply Upd.tail) rfl (by repeat (first | exact List.Mem.head _ | apply List.Mem.tail)) (by first | omega | (simp only [List.length_append, List.length_cons, List.length_nil, List.length_take, List.length_drop]; omega)) (by first | (simp only [maxLen]; omega) | (simp only [maxLen, List.length_append, List.length_cons, List.length_nil, List.length_take, List.length_drop]; omega)) (Wn.none rfl) rfl ?_))
        intro v21 w H
        refine NA (ON 3 (by kernel_rfl) rfl (WR.putV [_] H rfl rfl (by first | exact One.slice _ _ _ | exact Sl.one (by assumption) | exact StX.rowOne H (by repeat (first | exact List.Mem.head _ | apply List.Mem.tail))) (by repeat first | exact .head | apply Upd.tail) (by rfl) Tryz.sizeOf30 (by first | decide | (simp; done) | (simp; omega)) (Wn.none rfl) ?_))
        intro w H
        refine NA (WA.done (by kernel_rfl) (TN (RG ?_)))
        first | refine WR.step (Ex.loadM H rfl (by assumption) Tryz.isAgg3) (Wn.none rfl) rfl rfl ?_ | refine WR.step (Ex.load1 H rfl (by repeat (first | exact List.Mem.head _ | apply List.Mem.tail)) Tryz.isAgg3 (by rfl)) (Wn.none rfl) rfl rfl ?_
        refine ST (Ex.add64 rfl rfl (by omega)) rfl ?_
        refine WR.store [_] H rfl rfl rfl (by repeat first | exact .head | apply Upd.tail) Tryz.sizeOf3 rfl (by rfl) (by rfl) (Wn.none rfl) ?_
        intro w H
        refine NL (IB ?_)
        refine WQ.roundOn hrc (H.drop (List.sublist_cons_self _ _)) ⟨v21, ?_⟩
        rw [encRun_next, encStep, if_neg (by omega)]
        rfl
      · refine WR.stepE (v' := .slice (some ⟨b6, 0, none⟩) x.length x.length) (Ex.sliceArr Tryz.underlying189 Tryz.sizeOf5 rfl) (by rw [hx4]) (Wn.none rfl) rfl rfl ?_
        refine NA (ON 0 (by kernel_rfl) rfl ?_)
        first | refine WR.step (Ex.loadM H rfl (by assumption) Tryz.isAgg30) (Wn.none rfl) rfl rfl ?_ | refine WR.step (Ex.load1 H rfl (by repeat (first | exact List.Mem.head _ | apply List.Mem.tail)) Tryz.isAgg30 (by rfl)) (Wn.none rfl) rfl rfl ?_
        refine NA (ON 2 (by kernel_rfl) rfl (WR.appendBlk ty30 (fun _ => rfl) H rfl (fun _ => by repeat first | exact .head | apply Upd.tail) rfl (by repeat (first | exact List.Mem.head _ | apply List.Mem.tail)) (by first | omega | (simp only [List.length_append, List.length_cons, List.length_nil, List.length_take, List.length_drop]; omega)) (by first | (simp only [maxLen]; omega) | (simp only [maxLen, List.length_append, List.length_cons, List.length_nil, List.length_take, List.length_drop]; omega)) (Wn.none rfl) rfl ?_))
        intro v21 w H
        refine NA (ON 3 (by kernel_rfl) rfl (WR.putV [_] H rfl rfl (by first | exact One.slice _ _ _ | exact Sl.one (by assumption) | exact StX.rowOne H (by repeat (first | exact List.Mem.head _ | apply List.Mem.tail))) (by repeat first | exact .head | apply Upd.tail) (by rfl) Tryz.sizeOf30 (by first | decide | (simp; done) | (simp; omega)) (Wn.none rfl) ?_))
        intro w H
        refine NA (WA.done (by kernel_rfl) (TN (RG ?_)))
        first | refine WR.step (Ex.loadM H rfl (by assumption) Tryz.isAgg3) (Wn.none rfl) rfl rfl ?_ | refine WR.step (Ex.load1 H rfl (by repeat (first | exact List.Mem.head _ | apply List.Mem.tail)) Tryz.isAgg3 (by rfl)) (Wn.none rfl) rfl rfl ?_
        refine ST (Ex.add64 rfl rfl (by omega)) rfl ?_
        refine WR.store [_] H rfl rfl rfl (by repeat first | exact .head | apply Upd.tail) Tryz.sizeOf3 rfl (by rfl) (by rfl) (Wn.none rfl) ?_
        intro w H
        refine NL (IB ?_)
        refine WQ.roundOn hrc (H.drop (List.sublist_cons_self _ _)) ⟨v21, ?_⟩
        rw [encRun_next, encStep, if_neg (by omega)]
        rfl
  · intro Dm w M Lc H hle hz
    obtain ⟨v, rfl⟩ := hz
    simp only [List.cons_append, List.nil_append] at H
    have hiv := encRun_inv (grps l) (grps_all l)
    have hgl := grps_len l
    refine IB (TN (SQ (SQ (RG ?_))))
    first | refine WR.step (Ex.loadM H rfl (by assumption) Tryz.isAgg3) (Wn.none rfl) rfl rfl ?_ | refine WR.step (Ex.load1 H rfl (by repeat (first | exact List.Mem.head _ | apply List.Mem.tail)) Tryz.isAgg3 (by rfl)) (Wn.none rfl) rfl rfl ?_
    refine WR.split (Ex.gtr rfl rfl) (Wn.none rfl) rfl rfl (fun h12_1 => ?_) (fun h12_1 => ?_)
    · refine NL (TN (CT rfl (RG ?_)))
      first | refine WR.step (Ex.loadM H rfl (by assumption) Tryz.isAgg30) (Wn.none rfl) rfl rfl ?_ | refine WR.step (Ex.load1 H rfl (by repeat (first | exact List.Mem.head _ | apply List.Mem.tail)) Tryz.isAgg30 (by rfl)) (Wn.none rfl) rfl rfl ?_
      refine WR.lit (enc := encB) ty30 [13, 10] H rfl (by rfl) (fun _ => rfl) rfl rfl (Wn.none rfl) rfl ?_
      intro v27 M w H hle hl27
      refine WR.appendSl ty30 (fun _ => rfl) H rfl (fun _ => by repeat first | exact .head | apply Upd.tail) rfl (by assumption) (by first | omega | (simp only [List.length_append, List.length_cons, List.length_nil, List.length_take, List.length_drop]; omega)) (by first | (simp only [maxLen]; omega) | (simp only [maxLen, List.length_append, List.length_cons, List.length_nil, List.length_take, List.length_drop]; omega)) (Wn.none rfl) rfl ?_
      intro v28 w H
      refine WR.putV [_] H rfl rfl (by first | exact One.slice _ _ _ | exact Sl.one (by assumption) | exact StX.rowOne H (by repeat (first | exact List.Mem.head _ | apply List.Mem.tail))) (by repeat first | exact .head | apply Upd.tail) (by rfl) Tryz.sizeOf30 (by first | decide | (simp; done) | (simp; omega)) (Wn.none rfl) ?_
      intro w H
      refine NL (TN (SQ (WC.draw (m := 4) rfl rfl H ?_)))
      intro w H
      refine WA.two (i := 0) (j := 1) (by kernel_rfl) rfl rfl ?_ ?_
      · first | refine WR.step (Ex.loadM H rfl (by assumption) Tryz.isAgg30) (Wn.none rfl) rfl rfl ?_ | refine WR.step (Ex.load1 H rfl (by repeat (first | exact List.Mem.head _ | apply List.Mem.tail)) Tryz.isAgg30 (by rfl)) (Wn.none rfl) rfl rfl ?_
        refine NA (ON 1 (by kernel_rfl) rfl (WR.call H (none_spec) rfl (trivial) (Wn.none rfl) rfl ?_))
        intro v30 M w H hle hr30
        replace hl27 := hl27.mono hle
        obtain rfl := hr30
        refine NA (ON 2 (by kernel_rfl) rfl (AS rfl rfl (NA (ON 3 (by kernel_rfl) rfl (WR.store [_, _] H rfl rfl rfl (by repeat first | exact .head | apply Upd.tail) Tryz.sizeOf24 rfl (by rfl) (by rfl) (Wn.none rfl) ?_)))))
        intro w H
        refine NA (WA.done (by kernel_rfl) (TN (RT ?_)))
        obtain ⟨M, hle, hf, H⟩ := H.freezeRow (v := v28) (enc := encB) (t := 5) (by repeat first | exact .head | apply Rem.tail)
        refine WQ.retM1 H (by repeat first | exact .head | apply Rem.tail) ?_
        intro w H
        refine ⟨_, resv_run2 rfl rfl ⟨_, rfl, H.loadAgg (by repeat (first | exact List.Mem.head _ | apply List.Mem.tail)) Tryz.isAgg24 Tryz.sizeOf24 (by rfl)⟩, _, _, rfl, H.ext, ?_⟩
        refine ⟨_, rfl, ?_⟩
        rw [encode, if_pos (by omega)]
        exact hf
      · refine WR.call H (none_spec) rfl (trivial) (Wn.none rfl) rfl ?_
        intro v30 M w H hle hr30
        replace hl27 := hl27.mono hle
        obtain rfl := hr30
        refine NA (ON 0 (by kernel_rfl) rfl ?_)
        first | refine WR.step (Ex.loadM H rfl (by assumption) Tryz.isAgg30) (Wn.none rfl) rfl rfl ?_ | refine WR.step (Ex.load1 H rfl (by repeat (first | exact List.Mem.head _ | apply List.Mem.tail)) Tryz.isAgg30 (by rfl)) (Wn.none rfl) rfl rfl ?_
        refine NA (ON 2 (by kernel_rfl) rfl (AS rfl rfl (NA (ON 3 (by kernel_rfl) rfl (WR.store [_, _] H rfl rfl rfl (by repeat first | exact .head | apply Upd.tail) Tryz.sizeOf24 rfl (by rfl) (by rfl) (Wn.none rfl) ?_)))))
        intro w H
        refine NA (WA.done (by kernel_rfl) (TN (RT ?_)))
        obtain ⟨M, hle, hf, H⟩ := H.freezeRow (v := v28) (enc := encB) (t := 5) (by repeat first | exact .head | apply Rem.tail)
        refine WQ.retM1 H (by repeat first | exact .head | apply Rem.tail) ?_
        intro w H
        refine ⟨_, resv_run2 rfl rfl ⟨_, rfl, H.loadAgg (by repeat (first | exact List.Mem.head _ | apply List.Mem.tail)) Tryz.isAgg24 Tryz.sizeOf24 (by rfl)⟩, _, _, rfl, H.ext, ?_⟩
        refine ⟨_, rfl, ?_⟩
        rw [encode, if_pos (by omega)]
        exact hf
    · refine NL (TN (CF rfl (SK (TN (SQ (WC.draw (m := 4) rfl rfl H ?_))))))
      intro w H
      refine WA.two (i := 0) (j := 1) (by kernel_rfl) rfl rfl ?_ ?_
      · first | refine WR.step (Ex.loadM H rfl (by assumption) Tryz.isAgg30) (Wn.none rfl) rfl rfl ?_ | refine WR.step (Ex.load1 H rfl (by repeat (first | exact List.Mem.head _ | apply List.Mem.tail)) Tryz.isAgg30 (by rfl)) (Wn.none rfl) rfl rfl ?_
        refine NA (ON 1 (by kernel_rfl) rfl (WR.call H (none_spec) rfl (trivial) (Wn.none rfl) rfl ?_))
        intro v30 M w H hle hr30
        obtain rfl := hr30
        refine NA (ON 2 (by kernel_rfl) rfl (AS rfl rfl (NA (ON 3 (by kernel_rfl) rfl (WR.store [_, _] H rfl rfl rfl (by repeat first | exact .head | apply Upd.tail) Tryz.sizeOf24 rfl (by rfl) (by rfl) (Wn.none rfl) ?_)))))
        intro w H
        refine NA (WA.done (by kernel_rfl) (TN (RT ?_)))
        obtain ⟨M, hle, hf, H⟩ := H.freezeRow (v := v) (enc := encB) (t := 5) (by repeat first | exact .head | apply Rem.tail)
        refine WQ.retM1 H (by repeat first | exact .head | apply Rem.tail) ?_
        intro w H
        refine ⟨_, resv_run2 rfl rfl ⟨_, rfl, H.loadAgg (by repeat (first | exact List.Mem.head _ | apply List.Mem.tail)) Tryz.isAgg24 Tryz.sizeOf24 (by rfl)⟩, _, _, rfl, H.ext, ?_⟩
        refine ⟨_, rfl, ?_⟩
        rw [encode, if_neg (by omega)]
        exact hf
      · refine WR.call H (none_spec) rfl (trivial) (Wn.none rfl) rfl ?_
        intro v30 M w H hle hr30
        obtain rfl := hr30
        refine NA (ON 0 (by kernel_rfl) rfl ?_)
        first | refine WR.step (Ex.loadM H rfl (by assumption) Tryz.isAgg30) (Wn.none rfl) rfl rfl ?_ | refine WR.step (Ex.load1 H rfl (by repeat (first | exact List.Mem.head _ | apply List.Mem.tail)) Tryz.isAgg30 (by rfl)) (Wn.none rfl) rfl rfl ?_
        refine NA (ON 2 (by kernel_rfl) rfl (AS rfl rfl (NA (ON 3 (by kernel_rfl) rfl (WR.store [_, _] H rfl rfl rfl (by repeat first | exact .head | apply Upd.tail) Tryz.sizeOf24 rfl (by rfl) (by rfl) (Wn.none rfl) ?_)))))
        intro w H
        refine NA (WA.done (by kernel_rfl) (TN (RT ?_)))
        obtain ⟨M, hle, hf, H⟩ := H.freezeRow (v := v) (enc := encB) (t := 5) (by repeat first | exact .head | apply Rem.tail)
        refine WQ.retM1 H (by repeat first | exact .head | apply Rem.tail) ?_
        intro w H
        refine ⟨_, resv_run2 rfl rfl ⟨_, rfl, H.loadAgg (by repeat (first | exact List.Mem.head _ | apply List.Mem.tail)) Tryz.isAgg24 Tryz.sizeOf24 (by rfl)⟩, _, _, rfl, H.ext, ?_⟩
        refine ⟨_, rfl, ?_⟩
        rw [encode, if_neg (by omega)]
        exact hf
  · intro Dm w M Lc c pre H hle hpre hz
    exact hz.elim
end Go.Proofs.YtogkmhjnojphiaaGreatDoor
end
section
set_option linter.unusedVariables false
namespace Go.Ph.Pf
open Go.Ph.Pl
def utf8_ValidString (p0 : List UInt8) : Option Bool :=
  if p0.length ≤ 4611686018427387904 then some (Chs.vld p0) else none
def R_Valid (p0 : List UInt8) : Option Bool :=
  if p0.length ≤ 4611686018427387904 then some (Chs.vld p0) else none
def grapheme_Split (p0 : List UInt8) : Option (List (List UInt8)) :=
  if p0.length ≤ 1048576 then some (Gr.pieces p0) else none
def R_Pieces (p0 : List UInt8) : Option (List (List UInt8)) :=
  if p0.length ≤ 1048576 then some (Gr.pieces p0) else none
def R_Runes (p0 : List UInt8) : Option (List Int) :=
  if p0.length ≤ 1048576 then some ((Gr.chars p0).map (·.1)) else none
def R_SetOf (p0 : List UInt8) : Option Int :=
  if p0.length ≤ 9223372036854775807 then some (match Chs.setOf p0 with | some k => (k : Int) | none => -1) else none
def R_Utf8 (p0 : Int) : Option (List UInt8) :=
  some (Chs.utf8 p0)
def charset_Best (p0 : List UInt8) : Option (List UInt8) :=
  some (Chs.setN.getD (Chs.bestK p0) [])
def R_Best (p0 : List UInt8) : Option (List UInt8) :=
  if p0.length ≤ 1048576 then some (Chs.setN.getD (Chs.bestK p0) []) else none
def charset_Decode (p0 : List UInt8) (p1 : List UInt8) : Option (List UInt8 × (Int × Int)) :=
  if p0.length ≤ 9223372036854775807 ∧ p1.length ≤ 12000 then (match Chs.setOf p0 with | some k => some (Chs.decoded k p1, (0, 0)) | none => some ([], (18, -2))) else none
def charset_Encode (p0 : List UInt8) (p1 : List UInt8) : Option (List UInt8 × (Int × Int)) :=
  if p0.length ≤ 9223372036854775807 ∧ p1.length ≤ 12000 then (match Chs.setOf p0 with | some k => (if Chs.vld p1 = true then (match Chs.encGo (Chs.encK k) (Gr.chars p1) 0 with | .ok b => some (b, (0, 0)) | .error e => some ([], (17, (e : Int)))) else some ([], (5, -3))) | none => some ([], (18, -2))) else none
def R_Encoded (p0 : Int) (p1 : List UInt8) : Option (List UInt8 × Int) :=
  if 0 ≤ p0 ∧ p0 < 4 ∧ p1.length ≤ 1048576 ∧ Chs.vld p1 = true then (match Chs.encGo (Chs.encK p0.toNat) (Gr.chars p1) 0 with | .ok b => some (b, -1) | .error e => some ([], (e : Int))) else none
def base64_Encode (p0 : List UInt8) : Option (List UInt8 × (Int × Int)) :=
  if p0.length ≤ 12000 then some (B64.encode p0, (0, 0)) else none
def base64_Lenient (p0 : List UInt8) : Option (List UInt8 × (Int × Int)) :=
  if p0.length ≤ 24000 then some (B64.lenient p0, (0, 0)) else none
def R_Chars64 (p0 : List UInt8) : Option (List UInt8) :=
  if p0.length ≤ 1000000 then some (B64.chars64 p0) else none
def strings_Join (p0 : List (List UInt8)) (p1 : List UInt8) : Option (List UInt8) :=
  if p0.length ≤ 140737488355328 ∧ (jn p1 p0).length ≤ 140737488355328 then some (jn p1 p0) else none
def strings_SplitN (p0 : List UInt8) (p1 : List UInt8) (p2 : Int) : Option (List (List UInt8)) :=
  if p0.length < 4294967281 ∧ 1 ≤ p1.length ∧ 1 ≤ p2 ∧ p2 ≤ 9223372036854775807 then some (Lib.splitN p0 p1 p2.toNat) else none
def strings_ReplaceAll (p0 : List UInt8) (p1 : List UInt8) (p2 : List UInt8) : Option (List UInt8) :=
  if p0.length < 4294967281 ∧ 1 ≤ p1.length ∧ p0.length + p0.length * p2.length ≤ 140737488355328 then some (Lib.replaceAll p0 p1 p2) else none
def strings_Contains (p0 : List UInt8) (p1 : List UInt8) : Option Bool :=
  if p0.length < 4294967281 then some (Lib.contains p0 p1) else none
def basic_Fault (p0 : Int) (p1 : Int) : Option (Int × Int) :=
  some (p0, p1)
def stringslite_HasPrefix (p0 : List UInt8) (p1 : List UInt8) : Option Bool :=
  ((if (p1.length : Int) ≤ (p0.length : Int) then (cut p0 0 (p1.length : Int)).bind fun s5 => some (decide (s5 = p1)) else some false)).bind fun b3 => some b3
def strings_HasPrefix (p0 : List UInt8) (p1 : List UInt8) : Option Bool :=
  (stringslite_HasPrefix p0 p1).bind fun b1 => some b1
def stringslite_HasSuffix (p0 : List UInt8) (p1 : List UInt8) : Option Bool :=
  ((if (p1.length : Int) ≤ (p0.length : Int) then (chk ((p0.length : Int) - (p1.length : Int))).bind fun n5 => (cut p0 n5 (p0.length : Int)).bind fun s6 => some (decide (s6 = p1)) else some false)).bind fun b3 => some b3
def strings_HasSuffix (p0 : List UInt8) (p1 : List UInt8) : Option Bool :=
  (stringslite_HasSuffix p0 p1).bind fun b1 => some b1
def words_plain_L1 (p0 : List UInt8) : Nat → Int → Option (Unit ⊕ Bool)
  | 0, _ => none
  | m4 + 1, n3 => (if n3 < (p0.length : Int) then ((idx p0 n3).bind fun c9 => (if c9.toNat < 32 then some true else (idx p0 n3).bind fun c11 => some (decide (126 < c11.toNat)))).bind fun b8 => (if b8 = true then some (.inr false) else (chk (n3 + 1)).bind fun n14 => words_plain_L1 p0 m4 n14) else some (.inl ()))
def words_plain (p0 : List UInt8) : Option Bool :=
  ((words_plain_L1 p0 FU 0 : Option (Unit ⊕ Bool))).bind fun o27 => (match o27 with | .inl _ => ((strings_HasPrefix p0 [32]).bind fun b19 => (if b19 = true then some false else (strings_HasSuffix p0 [32]).bind fun b21 => (if b21 = true then some false else (strings_Contains p0 [61, 63]).bind fun b23 => some (!b23)))).bind fun b18 => some b18 | .inr r26 => some r26)
def basic_None  : Option (Int × Int) :=
  some (0, 0)
def words_units (p0 : List UInt8) (p1 : List UInt8) : Option (List UInt8 × List UInt8) :=
  some (p1, p0)
def words_flat (p0 : List UInt8) : Option (List UInt8) :=
  (base64_Encode p0).bind fun (l1, (n2, n3)) => (strings_ReplaceAll l1 [13, 10] []).bind fun s5 => some s5
def strings_Builder_WriteByte (p0 : List UInt8) (p1 : UInt8) : Option (Bool × List UInt8) :=
  (app 1 p0 ([p1] : List UInt8)).bind fun l2 => some (true, l2)
def basic_Letter (p0 : UInt8) : Option Bool :=
  ((if 97 ≤ p0.toNat then (if p0.toNat ≤ 122 then some true else (if 65 ≤ p0.toNat then (if p0.toNat ≤ 90 then some true else (if 48 ≤ p0.toNat then some (decide (p0.toNat ≤ 57)) else some false)) else (if 48 ≤ p0.toNat then some (decide (p0.toNat ≤ 57)) else some false))) else (if 65 ≤ p0.toNat then (if p0.toNat ≤ 90 then some true else (if 48 ≤ p0.toNat then some (decide (p0.toNat ≤ 57)) else some false)) else (if 48 ≤ p0.toNat then some (decide (p0.toNat ≤ 57)) else some false)))).bind fun b3 => some b3
def basic_Digit (p0 : UInt8) : Option UInt8 :=
  (idx [48, 49, 50, 51, 52, 53, 54, 55, 56, 57, 65, 66, 67, 68, 69, 70] ((p0 &&& (15 : UInt8)).toNat : Int)).bind fun c1 => some c1
def strings_Builder_Write (p0 : List UInt8) (p1 : List UInt8) : Option (Int × Bool × List UInt8) :=
  (app 1 p0 p1).bind fun l2 => some ((p1.length : Int), true, l2)
def strings_Builder_String (p0 : List UInt8) : Option (List UInt8) :=
  some p0
def words_data_L1 (p0 : List UInt8) : Nat → List UInt8 → Int → Option (List UInt8)
  | 0, _, _ => none
  | m14 + 1, l11, n13 => (if n13 < (p0.length : Int) then (idx p0 n13).bind fun c17 => (if c17 = 32 then (strings_Builder_WriteByte l11 95).bind fun (b19, l20) => (chk (n13 + 1)).bind fun n22 => words_data_L1 p0 m14 l20 n22 else (basic_Letter c17).bind fun b23 => (if b23 = true then (strings_Builder_WriteByte l11 c17).bind fun (b26, l27) => (chk (n13 + 1)).bind fun n29 => words_data_L1 p0 m14 l27 n29 else (basic_Digit (UInt8.ofNat (c17.toNat / 2 ^ 4))).bind fun c30 => (basic_Digit c17).bind fun c32 => (strings_Builder_Write l11 ([61, c30, c32] : List UInt8)).bind fun (n34, b35, l36) => (chk (n13 + 1)).bind fun n38 => words_data_L1 p0 m14 l36 n38)) else some l11)
def words_data (p0 : List UInt8) : Option (List UInt8) :=
  (words_data_L1 p0 FU [] 0).bind fun l6 => (strings_Builder_String l6).bind fun s40 => some s40
def words_word (p0 : List UInt8) (p1 : List UInt8) : Option (List UInt8) :=
  (charset_Encode p0 p1).bind fun (l1, (n2, n3)) => (if p0 = [117, 116, 102, 56] then (cat [61, 63] p0).bind fun s6 => (cat s6 [63, 66, 63]).bind fun s7 => (words_flat l1).bind fun s8 => (cat s7 s8).bind fun s10 => (cat s10 [63, 61]).bind fun s11 => some s11 else (cat [61, 63] p0).bind fun s12 => (cat s12 [63, 81, 63]).bind fun s13 => (words_data l1).bind fun s14 => (cat s13 s14).bind fun s16 => (cat s16 [63, 61]).bind fun s17 => some s17)
def words_units_1_L2 {σ : Type} (Y : σ → (List UInt8) → Option (σ × Bool)) (a10 : List UInt8) : Nat → Nat → σ → Option (σ ⊕ σ)
  | 0, _, _ => none
  | m24 + 1, ps22, s23 => (if ps22 < a10.length then (Y s23 (Chs.utf8 ((Utf.dr (a10.drop ps22)).1 : Int))).bind fun (s26, b27) => (if b27 = true then words_units_1_L2 Y a10 m24 (ps22 + (Utf.dr (a10.drop ps22)).2) s26 else some (.inr s26)) else some (.inl s23))
def words_units_1_L1 {σ : Type} (Y : σ → (List UInt8) → Option (σ × Bool)) (p2 : List UInt8) (l1 : List (List UInt8)) : Nat → Int → σ → Option (σ ⊕ σ)
  | 0, _, _ => none
  | m8 + 1, n6, s7 => (if n6 < (l1.length : Int) then (idx l1 n6).bind fun a10 => (words_word p2 a10).bind fun s11 => (if (s11.length : Int) ≤ (75 : Int) then (Y s7 a10).bind fun (s14, b15) => (if b15 = true then (chk (n6 + 1)).bind fun n18 => words_units_1_L1 Y p2 l1 m8 n18 s14 else some (.inr s14)) else ((words_units_1_L2 Y a10 FU 0 s7 : Option (σ ⊕ σ))).bind fun o33 => (match o33 with | .inl s21 => (chk (n6 + 1)).bind fun n31 => words_units_1_L1 Y p2 l1 m8 n31 s21 | .inr r32 => some (.inr r32))) else some (.inl s7))
def words_units_1 (p1 : List UInt8) (p2 : List UInt8) (σ : Type) (Y : σ → (List UInt8) → Option (σ × Bool)) (s0 : σ) : Option σ :=
  (grapheme_Split p1).bind fun l1 => ((words_units_1_L1 Y p2 l1 FU 0 s0 : Option (σ ⊕ σ))).bind fun o36 => (match o36 with | .inl s5 => some s5 | .inr r35 => some r35)
def words_Encode_Y28 (s17 : List UInt8) (s : (List (List UInt8) × List UInt8)) (x32 : List UInt8) : Option (List (List UInt8) × List UInt8) :=
  match s with
  | (l25, s27) => ((if s27 = [] then some false else (cat s27 x32).bind fun s38 => (words_word s17 s38).bind fun s39 => some (decide ((75 : Int) < (s39.length : Int))))).bind fun b36 => (if b36 = true then (words_word s17 s27).bind fun s43 => (app 16 l25 ([s43] : List (List UInt8))).bind fun l45 => (cat [] x32).bind fun s47 => some (l45, s47) else (cat s27 x32).bind fun s48 => some (l25, s48))
def words_Encode (p0 : List UInt8) : Option (List UInt8 × (Int × Int)) :=
  (if (1000 : Int) < (p0.length : Int) then (basic_Fault 1 (-1)).bind fun (n2, n3) => some ([], (n2, n3)) else (utf8_ValidString p0).bind fun b5 => (if b5 = true then (words_plain p0).bind fun b11 => (if b11 = true then (basic_None).bind fun (n14, n15) => some (p0, (n14, n15)) else (charset_Best p0).bind fun s17 => (words_units s17 p0).bind fun (z19, z21) => (words_units_1 z19 z21 (List (List UInt8) × List UInt8) (stepY goOn (words_Encode_Y28 s17)) ([], [])).bind fun (l25, s27) => (words_word s17 s27).bind fun s49 => (app 16 l25 ([s49] : List (List UInt8))).bind fun l51 => (strings_Join l51 [32]).bind fun s53 => (basic_None).bind fun (n55, n56) => some (s53, (n55, n56))) else (basic_Fault 5 (-2)).bind fun (n8, n9) => some ([], (n8, n9))))
def basic_Hex (p0 : UInt8) : Option (UInt8 × Bool) :=
  ((if 48 ≤ p0.toNat then some (decide (p0.toNat ≤ 57)) else some false)).bind fun b3 => (if b3 = true then some ((p0 - (48 : UInt8)), true) else ((if 65 ≤ p0.toNat then some (decide (p0.toNat ≤ 70)) else some false)).bind fun b9 => (if b9 = true then some (((p0 - (65 : UInt8)) + (10 : UInt8)), true) else ((if 97 ≤ p0.toNat then some (decide (p0.toNat ≤ 102)) else some false)).bind fun b15 => (if b15 = true then some (((p0 - (97 : UInt8)) + (10 : UInt8)), true) else some (0, false))))
def basic_Pair (p0 : List UInt8) : Option (UInt8 × Bool) :=
  (if (p0.length : Int) < (2 : Int) then some (0, false) else (idx p0 0).bind fun c2 => (basic_Hex c2).bind fun (c3, b4) => (idx p0 1).bind fun c6 => (basic_Hex c6).bind fun (c7, b8) => ((if b4 = true then some (((UInt8.ofNat (c3.toNat * 2 ^ 4)) ||| c7), b8) else some (((UInt8.ofNat (c3.toNat * 2 ^ 4)) ||| c7), false))).bind fun (c12, b13) => some (c12, b13))
def words_bytesOf_L1 (p1 : List UInt8) : Nat → List UInt8 → Int → Option (List UInt8 ⊕ (List UInt8 × Bool))
  | 0, _, _ => none
  | m29 + 1, l26, n28 => (if n28 < (p1.length : Int) then (idx p1 n28).bind fun c32 => (if c32 = 95 then (app 1 l26 ([32] : List UInt8)).bind fun l34 => (chk (n28 + 1)).bind fun n35 => words_bytesOf_L1 p1 m29 l34 n35 else (idx p1 n28).bind fun c36 => (if c36 = 61 then (chk (n28 + 1)).bind fun n38 => (cut p1 n38 (p1.length : Int)).bind fun s39 => (basic_Pair s39).bind fun (c40, b41) => (if b41 = true then (app 1 l26 ([c40] : List UInt8)).bind fun l44 => (chk (n28 + 2)).bind fun n45 => (chk (n45 + 1)).bind fun n46 => words_bytesOf_L1 p1 m29 l44 n46 else some (.inr ([], false))) else ((idx p1 n28).bind fun c50 => (if 33 ≤ c50.toNat then (idx p1 n28).bind fun c52 => some (decide (c52.toNat ≤ 126)) else some false)).bind fun b49 => (if b49 = true then (idx p1 n28).bind fun c55 => (app 1 l26 ([c55] : List UInt8)).bind fun l56 => (chk (n28 + 1)).bind fun n57 => words_bytesOf_L1 p1 m29 l56 n57 else some (.inr ([], false))))) else some (.inl l26))
def words_bytesOf (p0 : List UInt8) (p1 : List UInt8) : Option (List UInt8 × Bool) :=
  ((if p0 = [66] then some (decide (p0 = [66])) else some (decide (p0 = [98])))).bind fun b3 => (if b3 = true then (toB p1).bind fun l7 => (base64_Lenient l7).bind fun (l8, (n9, n10)) => (words_flat l8).bind fun s12 => some (l8, decide (s12 = p1)) else ((if p0 = [81] then some (decide (p0 = [81])) else some (decide (p0 = [113])))).bind fun b16 => (if b16 = true then ((words_bytesOf_L1 p1 FU [] 0 : Option (List UInt8 ⊕ (List UInt8 × Bool)))).bind fun o61 => (match o61 with | .inl l23 => some (l23, true) | .inr r60 => some r60) else some ([], false)))
def basic_Failed (p0 : (Int × Int)) : Option Bool :=
  some (!decide (p0.1 = (0 : Int)))
def words_read (p0 : List UInt8) : Option (List UInt8 × Int × Bool) :=
  (strings_HasPrefix p0 [61, 63]).bind fun b1 => (if b1 = true then (cut p0 2 (min (p0.length : Int) 75)).bind fun s4 => (strings_SplitN s4 [63] 4).bind fun l5 => ((if (l5.length : Int) < (4 : Int) then some true else (idx l5 3).bind fun a11 => (strings_HasPrefix a11 [61]).bind fun b12 => some (!b12))).bind fun b9 => (if b9 = true then some ([], 0, false) else (idx l5 1).bind fun a16 => (idx l5 2).bind fun a17 => (words_bytesOf a16 a17).bind fun (l18, b19) => (idx l5 0).bind fun a21 => (charset_Decode a21 l18).bind fun (s22, (n23, n24)) => ((idx l5 0).bind fun a31 => (chk ((2 : Int) + (a31.length : Int))).bind fun n32 => (idx l5 1).bind fun a33 => (chk (n32 + (a33.length : Int))).bind fun n34 => (idx l5 2).bind fun a35 => (chk (n34 + (a35.length : Int))).bind fun n36 => (chk (n36 + 4)).bind fun n37 => (if b19 = true then (basic_Failed (n23, n24)).bind fun b38 => some (s22, n37, !b38) else some (s22, n37, false))).bind fun (s28, n29, b30) => some (s28, n29, b30)) else some ([], 0, false))
def basic_Blank (p0 : UInt8) : Option Bool :=
  ((if p0 = 32 then some true else some (decide (p0 = 9)))).bind fun b3 => some b3
def strings_Builder_WriteString (p0 : List UInt8) (p1 : List UInt8) : Option (Int × Bool × List UInt8) :=
  (app 1 p0 p1).bind fun l2 => some ((p1.length : Int), true, l2)
def words_Decode_L1 (p0 : List UInt8) : Nat → List UInt8 → Int → Int → Option (List UInt8 × Int)
  | 0, _, _, _ => none
  | m20 + 1, l16, n18, n19 => (if n19 < (p0.length : Int) then (cut p0 n19 (p0.length : Int)).bind fun s23 => (words_read s23).bind fun (s24, n25, b26) => (if b26 = true then (strings_Builder_WriteString l16 s24).bind fun (n67, b68, l69) => (chk (n19 + n25)).bind fun n71 => words_Decode_L1 p0 m20 l69 n71 n71 else ((if n18 < (0 : Int) then (idx p0 n19).bind fun c37 => (strings_Builder_WriteByte l16 c37).bind fun (b38, l39) => some l39 else some l16)).bind fun l34 => ((if (0 : Int) ≤ n18 then (idx p0 n19).bind fun c46 => (basic_Blank c46).bind fun b47 => some (!b47) else some false)).bind fun b44 => ((if b44 = true then (chk (n19 + 1)).bind fun n59 => (cut p0 n18 n59).bind fun s60 => (strings_Builder_WriteString l34 s60).bind fun (n61, b62, l63) => some (l63, (-1)) else some (l34, n18))).bind fun (l55, n57) => (chk (n19 + 1)).bind fun n66 => words_Decode_L1 p0 m20 l55 n57 n66) else some (l16, n18))
def words_Decode (p0 : List UInt8) : Option (List UInt8 × (Int × Int)) :=
  (if (4000 : Int) < (p0.length : Int) then (basic_Fault 1 (-1)).bind fun (n2, n3) => some ([], (n2, n3)) else (words_Decode_L1 p0 FU [] (-1) 0).bind fun (l10, n12) => ((if (0 : Int) ≤ n12 then (cut p0 n12 (p0.length : Int)).bind fun s81 => (strings_Builder_WriteString l10 s81).bind fun (n82, b83, l84) => some l84 else some l10)).bind fun l78 => (strings_Builder_String l78).bind fun s87 => (basic_None).bind fun (n89, n90) => some (s87, (n89, n90)))
def L_wordsExample  : Option Bool :=
  (words_Encode [195, 164, 32, 98]).bind fun (s1, (n2, n3)) => (words_Decode [61, 63, 108, 97, 116, 105, 110, 49, 63, 81, 63, 61, 69, 52, 95, 98, 63, 61]).bind fun (s5, (n6, n7)) => ((if n2 = (0 : Int) then (if n6 = (0 : Int) then (if s1 = [61, 63, 108, 97, 116, 105, 110, 49, 63, 81, 63, 61, 69, 52, 95, 98, 63, 61] then some (decide (s5 = [195, 164, 32, 98])) else some false) else some false) else some false)).bind fun b11 => some b11
def R_At (p0 : Int) (p1 : Int) : Option (Int × Int) :=
  some (p0, p1)
def R_In (p0 : Int) (p1 : Int) (p2 : Int) : Option Bool :=
  ((if p1 ≤ p0 then some (decide (p0 ≤ p2)) else some false)).bind fun b3 => some b3
def R_Find_L1 (p0 : List UInt8) (p1 : List UInt8) : Nat → Int → Option (Unit ⊕ Int)
  | 0, _ => none
  | m4 + 1, n3 => (chk (n3 + (p1.length : Int))).bind fun n5 => (if n5 ≤ (p0.length : Int) then (chk (n3 + (p1.length : Int))).bind fun n7 => (cut p0 n3 n7).bind fun s8 => (if s8 = p1 then some (.inr n3) else (chk (n3 + 1)).bind fun n10 => R_Find_L1 p0 p1 m4 n10) else some (.inl ()))
def R_Find (p0 : List UInt8) (p1 : List UInt8) (p2 : Int) : Option Int :=
  ((R_Find_L1 p0 p1 FU p2 : Option (Unit ⊕ Int))).bind fun o13 => (match o13 with | .inl _ => some (-1) | .inr r12 => some r12)
def R_Plain_L1 (p0 : List UInt8) : Nat → Int → Option (Unit ⊕ Bool)
  | 0, _ => none
  | m4 + 1, n3 => (if n3 < (p0.length : Int) then (idx p0 n3).bind fun c6 => (R_In (c6.toNat : Int) 32 126).bind fun b7 => (if b7 = true then (chk (n3 + 1)).bind fun n10 => R_Plain_L1 p0 m4 n10 else some (.inr false)) else some (.inl ()))
def R_Plain (p0 : List UInt8) : Option Bool :=
  ((R_Plain_L1 p0 FU 0 : Option (Unit ⊕ Bool))).bind fun o25 => (match o25 with | .inl _ => ((R_Find p0 [61, 63] 0).bind fun n15 => (if n15 < (0 : Int) then (if p0 = [] then some true else (idx p0 0).bind fun c19 => (if c19 = 32 then some false else (chk ((p0.length : Int) - 1)).bind fun n21 => (idx p0 n21).bind fun c22 => some (!decide (c22 = 32)))) else some false)).bind fun b14 => some b14 | .inr r24 => some r24)
def R_Two (p0 : UInt8) : Option (List UInt8) :=
  (cut [48, 49, 50, 51, 52, 53, 54, 55, 56, 57, 65, 66, 67, 68, 69, 70] ((UInt8.ofNat (p0.toNat / 16)).toNat : Int) (((UInt8.ofNat (p0.toNat / 16)) + (1 : UInt8)).toNat : Int)).bind fun s1 => (cut [48, 49, 50, 51, 52, 53, 54, 55, 56, 57, 65, 66, 67, 68, 69, 70] ((UInt8.ofNat (p0.toNat % 16)).toNat : Int) (((UInt8.ofNat (p0.toNat % 16)) + (1 : UInt8)).toNat : Int)).bind fun s2 => (cat s1 s2).bind fun s3 => some s3
def R_Word_L1 (l3 : List UInt8) : Nat → List UInt8 → Int → Option (List UInt8)
  | 0, _, _ => none
  | m18 + 1, s16, n17 => (if n17 < (l3.length : Int) then (idx l3 n17).bind fun c20 => (if (c20.toNat : Int) = (32 : Int) then (cat s16 [95]).bind fun s22 => (chk (n17 + 1)).bind fun n23 => R_Word_L1 l3 m18 s22 n23 else ((R_In (c20.toNat : Int) 48 57).bind fun b27 => (if b27 = true then some true else (R_In (c20.toNat : Int) 65 90).bind fun b29 => (if b29 = true then some true else (R_In (c20.toNat : Int) 97 122).bind fun b31 => some b31))).bind fun b26 => (if b26 = true then (idx l3 n17).bind fun c35 => (cat s16 ([c35] : List UInt8)).bind fun s36 => (chk (n17 + 1)).bind fun n37 => R_Word_L1 l3 m18 s36 n37 else (cat s16 [61]).bind fun s38 => (idx l3 n17).bind fun c39 => (R_Two c39).bind fun s40 => (cat s38 s40).bind fun s42 => (chk (n17 + 1)).bind fun n43 => R_Word_L1 l3 m18 s42 n43)) else some s16)
def R_Word (p0 : List UInt8) (p1 : List UInt8) : Option (List UInt8) :=
  (R_SetOf p0).bind fun n1 => (R_Encoded n1 p1).bind fun (l3, n4) => (if p0 = [117, 116, 102, 56] then (R_Chars64 l3).bind fun s7 => (cat [61, 63, 117, 116, 102, 56, 63, 66, 63] s7).bind fun s9 => (cat s9 [63, 61]).bind fun s10 => some s10 else (cat [61, 63] p0).bind fun s11 => (cat s11 [63, 81, 63]).bind fun s12 => (R_Word_L1 l3 FU s12 0).bind fun s15 => (cat s15 [63, 61]).bind fun s45 => some s45)
def R_WordUnits_L2 (l23 : List Int) : Nat → List (List UInt8) → Int → Option (List (List UInt8))
  | 0, _, _ => none
  | m34 + 1, l31, n33 => (if n33 < (l23.length : Int) then (idx l23 n33).bind fun a36 => (R_Utf8 a36).bind fun s37 => (app 16 l31 ([s37] : List (List UInt8))).bind fun l39 => (chk (n33 + 1)).bind fun n40 => R_WordUnits_L2 l23 m34 l39 n40 else some l31)
def R_WordUnits_L1 (p0 : List UInt8) (l1 : List (List UInt8)) : Nat → List (List UInt8) → Int → Option (List (List UInt8))
  | 0, _, _ => none
  | m12 + 1, l9, n11 => (if n11 < (l1.length : Int) then (idx l1 n11).bind fun a15 => (R_Word p0 a15).bind fun s16 => (if (s16.length : Int) ≤ (75 : Int) then (idx l1 n11).bind fun a19 => (app 16 l9 ([a19] : List (List UInt8))).bind fun l20 => (chk (n11 + 1)).bind fun n21 => R_WordUnits_L1 p0 l1 m12 l20 n21 else (idx l1 n11).bind fun a22 => (R_Runes a22).bind fun l23 => (R_WordUnits_L2 l23 FU l9 0).bind fun l28 => (chk (n11 + 1)).bind fun n42 => R_WordUnits_L1 p0 l1 m12 l28 n42) else some l9)
def R_WordUnits (p0 : List UInt8) (p1 : List UInt8) : Option (List (List UInt8)) :=
  (R_Pieces p1).bind fun l1 => (R_WordUnits_L1 p0 l1 FU [] 0).bind fun l6 => some l6
def R_Words_L2 (s4 : List UInt8) (l6 : List (List UInt8)) : Nat → Int → List UInt8 → Option (Int × List UInt8)
  | 0, _, _ => none
  | m23 + 1, n21, s22 => ((if n21 < (l6.length : Int) then (idx l6 n21).bind fun a28 => (cat s22 a28).bind fun s29 => (R_Word s4 s29).bind fun s30 => some (decide ((s30.length : Int) ≤ (75 : Int))) else some false)).bind fun b26 => (if b26 = true then (idx l6 n21).bind fun a34 => (cat s22 a34).bind fun s35 => (chk (n21 + 1)).bind fun n36 => R_Words_L2 s4 l6 m23 n36 s35 else some (n21, s22))
def R_Words_L1 (s4 : List UInt8) (l6 : List (List UInt8)) : Nat → List UInt8 → Int → Option (List UInt8)
  | 0, _, _ => none
  | m13 + 1, s11, n12 => (if n12 < (l6.length : Int) then (idx l6 n12).bind fun a15 => (chk (n12 + 1)).bind fun n16 => (R_Words_L2 s4 l6 FU n16 a15).bind fun (n19, s20) => ((if s11 = [] then some s11 else (cat s11 [32]).bind fun s42 => some s42)).bind fun s40 => (R_Word s4 s20).bind fun s44 => (cat s40 s44).bind fun s46 => R_Words_L1 s4 l6 m13 s46 n19 else some s11)
def R_Words (p0 : List UInt8) : Option (List UInt8) :=
  (R_Plain p0).bind fun b1 => (if b1 = true then some p0 else (R_Best p0).bind fun s4 => (R_WordUnits s4 p0).bind fun l6 => (R_Words_L1 s4 l6 FU [] 0).bind fun s10 => some s10)
def L_WordsEncodeMatchesSpec (p0 : List UInt8) : Option Bool :=
  (L_wordsExample).bind fun b1 => (if b1 = true then (words_Encode p0).bind fun (s4, (n5, n6)) => (if (1000 : Int) < (p0.length : Int) then ((R_At 1 (-1)).bind fun (n12, n13) => (if n5 = n12 ∧ n6 = n13 then some (decide (s4 = [])) else some false)).bind fun b11 => some b11 else (R_Valid p0).bind fun b17 => (if b17 = true then ((if n5 = (0 : Int) then (R_Words p0).bind fun s32 => some (decide (s4 = s32)) else some false)).bind fun b30 => some b30 else ((R_At 5 (-2)).bind fun (n23, n24) => (if n5 = n23 ∧ n6 = n24 then some (decide (s4 = [])) else some false)).bind fun b22 => some b22)) else some false)
end Go.Ph.Pf
end
