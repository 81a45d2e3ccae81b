/-
  Dates: contracts of the program's functions over their plain forms, written by wip/tools/ext.py.
-/
import Derived.Test.YtlopnlagpdchiaaGreatDoorBct1
import Derived.KernelRfl
set_option maxRecDepth 100000
set_option linter.unusedVariables false
set_option linter.unusedSimpArgs false
namespace Go.Proofs.YtlopnlagpdchiaaGreatDoor
open Go Go.RowKit Go.Ph Go.Ph.Pl Go.Ph.Pf
theorem dates_Weekday_ct {p0 : (Int × Int × Int × Int × Int × Int × Int)} {r : (Int × (Int × Int))} (h : dates_Weekday p0 = some r) : Ct Tryz.prog 11 [Value.agg #[I p0.1, I p0.2.1, I p0.2.2.1, I p0.2.2.2.1, I p0.2.2.2.2.1, I p0.2.2.2.2.2.1, I p0.2.2.2.2.2.2]] (fun M => True) (fun v M => v = Value.tuple #[I r.1, Value.agg #[I r.2.1, I r.2.2]]) := by
  refine Ct.of Tryz.func11 (enters Tryz.func11 (by kernel_rfl) rfl) rfl rfl rfl ?_
  intro w0 M0 H hp
  unfold dates_Weekday at h
  refine WC.seq ?_
  refine WC.region ?_
  refine WR.box [_, _, _, _, _, _, _] H rfl rfl (Wn.none rfl) rfl ?_
  intro b1 w H
  refine WR.step (Ex.assign rfl) (Wn.none rfl) rfl rfl ?_
  refine WR.alloc [_, _] H Tryz.zeroValue26 rfl (Wn.none rfl) rfl ?_
  intro b3 w H
  refine WR.nil ?_
  refine WQ.then ?_
  refine WC.seq ?_
  refine WC.seq ?_
  obtain ⟨⟨n1, n2⟩, hx3, h⟩ := bnd h
  try dsimp only at h
  refine WC.region ?_
  refine WR.step (Ex.loadAgg H rfl (by repeat (first | exact List.Mem.head _ | apply List.Mem.tail)) Tryz.isAgg23 Tryz.sizeOf23 (by rfl)) (Wn.none rfl) rfl rfl ?_
  refine WR.call H (dates_Validate_ct hx3) rfl trivial (Wn.none rfl) rfl ?_
  intro v8 M w H hle hR
  try dsimp only at hR
  obtain rfl := hR
  refine WR.alloc [_, _] H Tryz.zeroValue26 rfl (Wn.none rfl) rfl ?_
  intro b4 w H
  refine WR.store [_, _] H rfl rfl rfl (by repeat (first | exact Upd.head | apply Upd.tail)) Tryz.sizeOf26 rfl (by rfl) (by rfl) (Wn.none rfl) ?_
  intro w H
  refine WR.nil ?_
  refine WQ.then ?_
  refine WC.seq ?_
  obtain ⟨b4, hx5, h⟩ := bnd h
  refine WC.region ?_
  refine WR.step (Ex.loadAgg H rfl (by repeat (first | exact List.Mem.head _ | apply List.Mem.tail)) Tryz.isAgg26 Tryz.sizeOf26 (by rfl)) (Wn.none rfl) rfl rfl ?_
  refine WR.call H (basic_Failed_ct hx5) rfl trivial (Wn.none rfl) rfl ?_
  intro v10 M w H hle hR
  obtain rfl := hR
  refine WR.nil ?_
  refine WQ.then ?_
  refine WC.condB rfl (fun hk6 => ?_) (fun hk6 => ?_)
  ·
   subst hk6
   rw [if_pos rfl] at h
   refine WC.seq ?_
   refine WC.draw (m := 3) rfl rfl H ?_
   intro w H
   refine WA.take (i := 1) rfl (by kernel_rfl) (by kernel_rfl) (by kernel_rfl) (fun _ => Ex.assign rfl) (Wn.none rfl) rfl rfl (fun _ _ => rfl) ?_
   refine WA.seq (fuel := 0) [0, 2] rfl (by kernel_rfl) ?_
   refine WR.step (Ex.loadAgg H rfl (by repeat (first | exact List.Mem.head _ | apply List.Mem.tail)) Tryz.isAgg26 Tryz.sizeOf26 (by rfl)) (Wn.none rfl) rfl rfl ?_
   refine WR.store [_, _] H rfl rfl rfl (by repeat (first | exact Upd.head | apply Upd.tail)) Tryz.sizeOf26 rfl (by rfl) (by rfl) (Wn.none rfl) ?_
   intro w H
   refine WR.nil (WQ.any ?_)
   refine WA.done (by kernel_rfl) ?_
   refine WQ.then ?_
   refine WC.ret ?_
   (repeat (first | refine WQ.thenRet ?_ | refine WQ.inBlockRet ?_ | refine WQ.cutRet ?_ | refine WQ.scRet ?_))
   obtain rfl := Option.some.inj h
   exact WQ.ret2 rfl rfl ⟨_, rfl, H.loadAgg (by repeat (first | exact List.Mem.head _ | apply List.Mem.tail)) Tryz.isAgg26 Tryz.sizeOf26 (by rfl)⟩ H.ext rfl
  ·
   subst hk6
   rw [if_neg Bool.false_ne_true] at h
   refine WC.skip ?_
   refine WQ.then ?_
   refine WC.seq ?_
   obtain ⟨n7, hx8, h⟩ := bnd h
   obtain ⟨n9, hxn9, h⟩ := bnd h
   obtain ⟨⟨n10, n11⟩, hx12, h⟩ := bnd h
   try dsimp only at h
   refine WC.region ?_
   refine WR.step (Ex.fieldAddr Tryz.underlying23 rfl Tryz.sizeOf3 (by decide) rfl) (Wn.none rfl) rfl rfl ?_
   refine WR.step (Ex.load1 H rfl (by repeat (first | exact List.Mem.head _ | apply List.Mem.tail)) Tryz.isAgg3 (by rfl)) (Wn.none rfl) rfl rfl ?_
   refine WR.step (Ex.fieldAddr Tryz.underlying23 rfl Tryz.sizeOf3 (by decide) rfl) (Wn.none rfl) rfl rfl ?_
   refine WR.step (Ex.load1 H rfl (by repeat (first | exact List.Mem.head _ | apply List.Mem.tail)) Tryz.isAgg3 (by rfl)) (Wn.none rfl) rfl rfl ?_
   refine WR.step (Ex.fieldAddr Tryz.underlying23 rfl Tryz.sizeOf3 (by decide) rfl) (Wn.none rfl) rfl rfl ?_
   refine WR.step (Ex.load1 H rfl (by repeat (first | exact List.Mem.head _ | apply List.Mem.tail)) Tryz.isAgg3 (by rfl)) (Wn.none rfl) rfl rfl ?_
   refine WR.call H (dates_day_ct hx8) rfl trivial (Wn.none rfl) rfl ?_
   intro v19 M w H hle hR
   obtain rfl := hR
   refine WR.step (Ex.addC rfl rfl hxn9) (Wn.none rfl) rfl rfl ?_
   refine WR.call H (dates_split_ct hx12) rfl trivial (Wn.none rfl) rfl ?_
   intro v21 M w H hle hR
   try dsimp only at hR
   obtain rfl := hR
   refine WR.step (Ex.move rfl) (Wn.none rfl) rfl rfl ?_
   refine WR.step (Ex.extract rfl rfl) (Wn.none rfl) rfl rfl ?_
   refine WR.step (Ex.extract rfl rfl) (Wn.none rfl) rfl rfl ?_
   refine WR.step (Ex.assign rfl) (Wn.none rfl) rfl rfl ?_
   refine WR.step (Ex.assign rfl) (Wn.none rfl) rfl rfl ?_
   refine WR.nil ?_
   refine WQ.then ?_
   refine WC.seq ?_
   obtain ⟨⟨n13, n14⟩, hx15, h⟩ := bnd h
   try dsimp only at h
   refine WC.region ?_
   refine WR.step (Ex.move rfl) (Wn.none rfl) rfl rfl ?_
   refine WR.call H (basic_None_ct hx15) rfl trivial (Wn.none rfl) rfl ?_
   intro v25 M w H hle hR
   try dsimp only at hR
   obtain rfl := hR
   refine WR.step (Ex.assign rfl) (Wn.none rfl) rfl rfl ?_
   refine WR.store [_, _] H rfl rfl rfl (by repeat (first | exact Upd.head | apply Upd.tail)) Tryz.sizeOf26 rfl (by rfl) (by rfl) (Wn.none rfl) ?_
   intro w H
   refine WR.nil ?_
   refine WQ.then ?_
   refine WC.ret ?_
   (repeat (first | refine WQ.thenRet ?_ | refine WQ.inBlockRet ?_ | refine WQ.cutRet ?_ | refine WQ.scRet ?_))
   obtain rfl := Option.some.inj h
   exact WQ.ret2 rfl rfl ⟨_, rfl, H.loadAgg (by repeat (first | exact List.Mem.head _ | apply List.Mem.tail)) Tryz.isAgg26 Tryz.sizeOf26 (by rfl)⟩ H.ext rfl
theorem dates_pad_ct {p0 : Int} {p1 : Int} {r : List UInt8} (h : dates_pad p0 p1 = some r) : Ct Tryz.prog 33 [I p0, I p1] (fun M => GlF (fun w => Lib.TabIs Tryz.prog w "internal/strconv.uint64pow10" .u64 Lib.pow10Tab) M) (fun v M => v = S r) := by
  refine Ct.of Tryz.func33 (enters Tryz.func33 (by kernel_rfl) rfl) rfl rfl rfl ?_
  intro w0 M0 H hp
  have hg_pow10 := hp
  unfold dates_pad at h
  refine WC.seq ?_
  refine WC.region ?_
  refine WR.step (Ex.assign rfl) (Wn.none rfl) rfl rfl ?_
  refine WR.nil ?_
  refine WQ.then ?_
  refine WC.seq ?_
  obtain ⟨s1, hx2, h⟩ := bnd h
  refine WC.region ?_
  refine WR.step (Ex.move rfl) (Wn.none rfl) rfl rfl ?_
  refine WR.call H (strconv_Itoa_ct hx2) rfl (hg_pow10) (Wn.none rfl) rfl ?_
  intro v7 M w H hle hR
  replace hg_pow10 := hg_pow10.mono hle
  obtain rfl := hR
  refine WR.step (Ex.assign rfl) (Wn.none rfl) rfl rfl ?_
  refine WR.nil ?_
  refine WQ.then ?_
  refine WC.seq ?_
  obtain ⟨n3, hxn3, h⟩ := bnd h
  obtain ⟨s4, hx5, h⟩ := bnd h
  obtain ⟨s6, hxs6, h⟩ := bnd h
  refine WC.region ?_
  refine WR.step (Ex.move rfl) (Wn.none rfl) rfl rfl ?_
  refine WR.step (Ex.move rfl) (Wn.none rfl) rfl rfl ?_
  refine WR.step (Ex.lenStr Tryz.underlying9 rfl) (Wn.none rfl) rfl rfl ?_
  refine WR.step (Ex.subC rfl rfl hxn3) (Wn.none rfl) rfl rfl ?_
  refine WR.step (Ex.max2 rfl rfl) (Wn.none rfl) rfl rfl ?_
  refine WR.call H (strings_Repeat_ct hx5) rfl trivial (Wn.none rfl) rfl ?_
  intro v13 M w H hle hR
  replace hg_pow10 := hg_pow10.mono hle
  obtain rfl := hR
  refine WR.step (Ex.move rfl) (Wn.none rfl) rfl rfl ?_
  refine WR.step (Ex.strAddC rfl rfl hxs6) (Wn.none rfl) rfl rfl ?_
  refine WR.step (Ex.assign rfl) (Wn.none rfl) rfl rfl ?_
  refine WR.nil ?_
  refine WQ.then ?_
  refine WC.ret ?_
  (repeat (first | refine WQ.thenRet ?_ | refine WQ.inBlockRet ?_ | refine WQ.cutRet ?_ | refine WQ.scRet ?_))
  obtain rfl := Option.some.inj h
  exact WQ.ret1 rfl rfl H.ext rfl
theorem dates_weekdays_ct  {r : List (List UInt8)} (h : dates_weekdays = some r) : Ct Tryz.prog 35 [] (fun M => True) (fun v M => v = Value.agg (List.map encS r).toArray) := by
  refine Ct.of Tryz.func35 (enters Tryz.func35 (by kernel_rfl) rfl) rfl rfl rfl ?_
  intro w0 M0 H hp
  unfold dates_weekdays at h
  refine WC.seq ?_
  refine WC.region ?_
  refine WR.alloc (List.map encS (List.replicate 7 [] : List (List UInt8))) H Tryz.zeroValue55 (by kernel_rfl) (Wn.none rfl) rfl ?_
  intro b0 w H
  refine WR.nil ?_
  refine WQ.then ?_
  refine WC.seq ?_
  obtain ⟨l1, hxl1, h⟩ := bnd h
  obtain ⟨l2, hxl2, h⟩ := bnd h
  refine WC.region ?_
  refine WR.step (Ex.buildArr [S [83, 117, 110], S [77, 111, 110], S [84, 117, 101], S [87, 101, 100], S [84, 104, 117], S [70, 114, 105], S [83, 97, 116]] Tryz.underlying55 Tryz.zeroValue55 Tryz.sizeOf9 rfl (by kernel_rfl)) (Wn.none rfl) rfl rfl ?_
  refine WR.storeA (l2 := ([[83, 117, 110], [77, 111, 110], [84, 117, 101], [87, 101, 100], [84, 104, 117], [70, 114, 105], [83, 97, 116]] : List (List UInt8))) H rfl rfl (fun _ => rfl) (fun _ => by repeat (first | exact Upd.head | apply Upd.tail)) hxl1 hxl2 Tryz.sizeOf55 (Wn.none rfl) ?_
  intro w H
  refine WR.nil ?_
  refine WQ.then ?_
  refine WC.ret ?_
  (repeat (first | refine WQ.thenRet ?_ | refine WQ.inBlockRet ?_ | refine WQ.cutRet ?_ | refine WQ.scRet ?_))
  obtain ⟨l3, hxl3, h⟩ := bnd h
  obtain rfl := Option.some.inj h
  exact WQ.ret1 rfl ⟨_, rfl, H.loadAggA (by repeat (first | exact List.Mem.head _ | apply List.Mem.tail)) Tryz.isAgg55 Tryz.sizeOf55 hxl3⟩ H.ext rfl
theorem dates_months_ct  {r : List (List UInt8)} (h : dates_months = some r) : Ct Tryz.prog 36 [] (fun M => True) (fun v M => v = Value.agg (List.map encS r).toArray) := by
  refine Ct.of Tryz.func36 (enters Tryz.func36 (by kernel_rfl) rfl) rfl rfl rfl ?_
  intro w0 M0 H hp
  unfold dates_months at h
  refine WC.seq ?_
  refine WC.region ?_
  refine WR.alloc (List.map encS (List.replicate 12 [] : List (List UInt8))) H Tryz.zeroValue57 (by kernel_rfl) (Wn.none rfl) rfl ?_
  intro b0 w H
  refine WR.nil ?_
  refine WQ.then ?_
  refine WC.seq ?_
  obtain ⟨l1, hxl1, h⟩ := bnd h
  obtain ⟨l2, hxl2, h⟩ := bnd h
  refine WC.region ?_
  refine WR.step (Ex.buildArr [S [74, 97, 110], S [70, 101, 98], S [77, 97, 114], S [65, 112, 114], S [77, 97, 121], S [74, 117, 110], S [74, 117, 108], S [65, 117, 103], S [83, 101, 112], S [79, 99, 116], S [78, 111, 118], S [68, 101, 99]] Tryz.underlying57 Tryz.zeroValue57 Tryz.sizeOf9 rfl (by kernel_rfl)) (Wn.none rfl) rfl rfl ?_
  refine WR.storeA (l2 := ([[74, 97, 110], [70, 101, 98], [77, 97, 114], [65, 112, 114], [77, 97, 121], [74, 117, 110], [74, 117, 108], [65, 117, 103], [83, 101, 112], [79, 99, 116], [78, 111, 118], [68, 101, 99]] : List (List UInt8))) H rfl rfl (fun _ => rfl) (fun _ => by repeat (first | exact Upd.head | apply Upd.tail)) hxl1 hxl2 Tryz.sizeOf57 (Wn.none rfl) ?_
  intro w H
  refine WR.nil ?_
  refine WQ.then ?_
  refine WC.ret ?_
  (repeat (first | refine WQ.thenRet ?_ | refine WQ.inBlockRet ?_ | refine WQ.cutRet ?_ | refine WQ.scRet ?_))
  obtain ⟨l3, hxl3, h⟩ := bnd h
  obtain rfl := Option.some.inj h
  exact WQ.ret1 rfl ⟨_, rfl, H.loadAggA (by repeat (first | exact List.Mem.head _ | apply List.Mem.tail)) Tryz.isAgg57 Tryz.sizeOf57 hxl3⟩ H.ext rfl
theorem dates_Print_ct {p0 : (Int × Int × Int × Int × Int × Int × Int)} {r : (List UInt8 × (Int × Int))} (h : dates_Print p0 = some r) : Ct Tryz.prog 18 [Value.agg #[I p0.1, I p0.2.1, I p0.2.2.1, I p0.2.2.2.1, I p0.2.2.2.2.1, I p0.2.2.2.2.2.1, I p0.2.2.2.2.2.2]] (fun M => GlF (fun w => Lib.TabIs Tryz.prog w "internal/strconv.uint64pow10" .u64 Lib.pow10Tab) M) (fun v M => v = Value.tuple #[S r.1, Value.agg #[I r.2.1, I r.2.2]]) := by
  refine Ct.of Tryz.func18 (enters Tryz.func18 (by kernel_rfl) rfl) rfl rfl rfl ?_
  intro w0 M0 H hp
  have hg_pow10 := hp
  unfold dates_Print at h
  refine WC.seq ?_
  refine WC.region ?_
  refine WR.box [_, _, _, _, _, _, _] H rfl rfl (Wn.none rfl) rfl ?_
  intro b1 w H
  refine WR.step (Ex.assign rfl) (Wn.none rfl) rfl rfl ?_
  refine WR.alloc [_, _] H Tryz.zeroValue26 rfl (Wn.none rfl) rfl ?_
  intro b3 w H
  refine WR.nil ?_
  refine WQ.then ?_
  refine WC.seq ?_
  obtain ⟨⟨n1, ⟨n2, n3⟩⟩, hx4, h⟩ := bnd h
  try dsimp only at h
  refine WC.region ?_
  refine WR.step (Ex.loadAgg H rfl (by repeat (first | exact List.Mem.head _ | apply List.Mem.tail)) Tryz.isAgg23 Tryz.sizeOf23 (by rfl)) (Wn.none rfl) rfl rfl ?_
  refine WR.call H (dates_Weekday_ct hx4) rfl trivial (Wn.none rfl) rfl ?_
  intro v11 M w H hle hR
  replace hg_pow10 := hg_pow10.mono hle
  try dsimp only at hR
  obtain rfl := hR
  refine WR.step (Ex.move rfl) (Wn.none rfl) rfl rfl ?_
  refine WR.step (Ex.extract rfl rfl) (Wn.none rfl) rfl rfl ?_
  refine WR.step (Ex.extract rfl rfl) (Wn.none rfl) rfl rfl ?_
  refine WR.alloc [_, _] H Tryz.zeroValue26 rfl (Wn.none rfl) rfl ?_
  intro b5 w H
  refine WR.step (Ex.assign rfl) (Wn.none rfl) rfl rfl ?_
  refine WR.store [_, _] H rfl rfl rfl (by repeat (first | exact Upd.head | apply Upd.tail)) Tryz.sizeOf26 rfl (by rfl) (by rfl) (Wn.none rfl) ?_
  intro w H
  refine WR.nil ?_
  refine WQ.then ?_
  refine WC.seq ?_
  refine WC.seq ?_
  obtain ⟨b5, hx6, h⟩ := bnd h
  refine WC.region ?_
  refine WR.step (Ex.loadAgg H rfl (by repeat (first | exact List.Mem.head _ | apply List.Mem.tail)) Tryz.isAgg26 Tryz.sizeOf26 (by rfl)) (Wn.none rfl) rfl rfl ?_
  refine WR.call H (basic_Failed_ct hx6) rfl trivial (Wn.none rfl) rfl ?_
  intro v15 M w H hle hR
  replace hg_pow10 := hg_pow10.mono hle
  obtain rfl := hR
  refine WR.nil ?_
  refine WQ.then ?_
  refine WC.condB rfl (fun hk7 => ?_) (fun hk7 => ?_)
  ·
   subst hk7
   rw [if_pos rfl] at h
   refine WC.seq ?_
   refine WC.draw (m := 3) rfl rfl H ?_
   intro w H
   refine WA.take (i := 1) rfl (by kernel_rfl) (by kernel_rfl) (by kernel_rfl) (fun _ => Ex.assign rfl) (Wn.none rfl) rfl rfl (fun _ _ => rfl) ?_
   refine WA.seq (fuel := 0) [0, 2] rfl (by kernel_rfl) ?_
   refine WR.step (Ex.loadAgg H rfl (by repeat (first | exact List.Mem.head _ | apply List.Mem.tail)) Tryz.isAgg26 Tryz.sizeOf26 (by rfl)) (Wn.none rfl) rfl rfl ?_
   refine WR.store [_, _] H rfl rfl rfl (by repeat (first | exact Upd.head | apply Upd.tail)) Tryz.sizeOf26 rfl (by rfl) (by rfl) (Wn.none rfl) ?_
   intro w H
   refine WR.nil (WQ.any ?_)
   refine WA.done (by kernel_rfl) ?_
   refine WQ.then ?_
   refine WC.ret ?_
   (repeat (first | refine WQ.thenRet ?_ | refine WQ.inBlockRet ?_ | refine WQ.cutRet ?_ | refine WQ.scRet ?_))
   obtain rfl := Option.some.inj h
   exact WQ.ret2 rfl rfl ⟨_, rfl, H.loadAgg (by repeat (first | exact List.Mem.head _ | apply List.Mem.tail)) Tryz.isAgg26 Tryz.sizeOf26 (by rfl)⟩ H.ext rfl
  ·
   subst hk7
   rw [if_neg Bool.false_ne_true] at h
   refine WC.skip ?_
   refine WQ.then ?_
   refine WC.seq ?_
   refine WC.draw (m := 4) rfl rfl H ?_
   intro w H
   refine WA.take (i := 0) rfl (by kernel_rfl) (by kernel_rfl) (by kernel_rfl) (fun _ => Ex.fieldAddr Tryz.underlying23 rfl Tryz.sizeOf3 (by decide) rfl) (Wn.none rfl) rfl rfl (fun _ _ => rfl) ?_
   refine WA.take (i := 2) rfl (by kernel_rfl) (by kernel_rfl) (by kernel_rfl) (fun _ => Ex.assign rfl) (Wn.none rfl) rfl rfl (fun _ _ => rfl) ?_
   refine WA.seq (fuel := 0) [1, 3] rfl (by kernel_rfl) ?_
   refine WR.step (Ex.load1 H rfl (by repeat (first | exact List.Mem.head _ | apply List.Mem.tail)) Tryz.isAgg3 (by rfl)) (Wn.none rfl) rfl rfl ?_
   refine WR.step (Ex.assign rfl) (Wn.none rfl) rfl rfl ?_
   refine WR.nil (WQ.any ?_)
   refine WA.done (by kernel_rfl) ?_
   refine WQ.then ?_
   refine WC.seq ?_
   refine WC.seq ?_
   refine WC.region ?_
   refine WR.step (Ex.fieldAddr Tryz.underlying23 rfl Tryz.sizeOf3 (by decide) rfl) (Wn.none rfl) rfl rfl ?_
   refine WR.step (Ex.load1 H rfl (by repeat (first | exact List.Mem.head _ | apply List.Mem.tail)) Tryz.isAgg3 (by rfl)) (Wn.none rfl) rfl rfl ?_
   refine WR.step (Ex.lss rfl rfl) (Wn.none rfl) rfl rfl ?_
   refine WR.nil ?_
   refine WQ.then ?_
   obtain ⟨o8, e9, h⟩ := bnd h
   refine WC.cutX (fun e w => ∃ (s10 : List UInt8) (n11 : Int) (M : Mem), e = [(1, ptr b1 0), (3, ptr b3 0), (4, I n1), (6, S s10), (7, I n11)] ∧ St w0 M0 M [.blk b1 (.cells #[I p0.1, I p0.2.1, I p0.2.2.1, I p0.2.2.2.1, I p0.2.2.2.2.1, I p0.2.2.2.2.2.1, I p0.2.2.2.2.2.2] 23), .blk b3 (.cells #[I 0, I 0] 26)] w ∧ GlF (fun w => Lib.TabIs Tryz.prog w "internal/strconv.uint64pow10" .u64 Lib.pow10Tab) M ∧ some (s10, n11) = some o8) [] ?_ ?_ (trivial)
   ·
    refine WC.condB rfl (fun hk12 => ?_) (fun hk12 => ?_)
    ·
     replace hk12 : p0.2.2.2.2.2.2 < (0 : Int) := of_decide_eq_true hk12
     rw [if_pos hk12] at e9
     obtain ⟨n13, hxn13, e9⟩ := bnd e9
     refine WC.draw (m := 5) rfl rfl H ?_
     intro w H
     refine WA.take (i := 0) rfl (by kernel_rfl) (by kernel_rfl) (by kernel_rfl) (fun _ => Ex.fieldAddr Tryz.underlying23 rfl Tryz.sizeOf3 (by decide) rfl) (Wn.none rfl) rfl rfl (fun _ _ => rfl) ?_
     refine WA.take (i := 3) rfl (by kernel_rfl) (by kernel_rfl) (by kernel_rfl) (fun _ => Ex.assign rfl) (Wn.none rfl) rfl rfl (fun _ _ => rfl) ?_
     refine WA.seq (fuel := 0) [1, 2, 4] rfl (by kernel_rfl) ?_
     refine WR.step (Ex.load1 H rfl (by repeat (first | exact List.Mem.head _ | apply List.Mem.tail)) Tryz.isAgg3 (by rfl)) (Wn.none rfl) rfl rfl ?_
     refine WR.step (Ex.negC rfl hxn13) (Wn.none rfl) rfl rfl ?_
     refine WR.step (Ex.assign rfl) (Wn.none rfl) rfl rfl ?_
     refine WR.nil (WQ.any ?_)
     refine WA.done (by kernel_rfl) ?_
     exact WQ.meetN [(1, _), (3, _), (4, _), (6, _), (7, _)] ⟨rfl, rfl, rfl, rfl, rfl, trivial⟩ ⟨_, _, _, rfl, (H.pick (L' := [.blk b1 (.cells #[I p0.1, I p0.2.1, I p0.2.2.1, I p0.2.2.2.1, I p0.2.2.2.2.1, I p0.2.2.2.2.2.1, I p0.2.2.2.2.2.2] 23), .blk b3 (.cells #[I 0, I 0] 26)]) (by repeat (first | exact Pick.nil | refine Pick.cons (by repeat (first | exact Rem.head | apply Rem.tail)) ?_))), hg_pow10, e9⟩
    ·
     replace hk12 : ¬ (p0.2.2.2.2.2.2 < (0 : Int)) := of_decide_eq_false hk12
     rw [if_neg hk12] at e9
     refine WC.skip ?_
     exact WQ.meetN [(1, _), (3, _), (4, _), (6, _), (7, _)] ⟨rfl, rfl, rfl, rfl, rfl, trivial⟩ ⟨_, _, _, rfl, (H.pick (L' := [.blk b1 (.cells #[I p0.1, I p0.2.1, I p0.2.2.1, I p0.2.2.2.1, I p0.2.2.2.2.1, I p0.2.2.2.2.2.1, I p0.2.2.2.2.2.2] 23), .blk b3 (.cells #[I 0, I 0] 26)]) (by repeat (first | exact Pick.nil | refine Pick.cons (by repeat (first | exact Rem.head | apply Rem.tail)) ?_))), hg_pow10, e9⟩
   ·
    rintro e w ⟨s10, n11, M, rfl, H, hg_pow10, q14⟩
    obtain rfl := Option.some.inj q14
    try dsimp only at h
    refine WQ.then ?_
    refine WC.seq ?_
    obtain ⟨n15, hxn15, h⟩ := bnd h
    obtain ⟨s16, hx17, h⟩ := bnd h
    obtain ⟨n18, hxn18, h⟩ := bnd h
    obtain ⟨s19, hx20, h⟩ := bnd h
    obtain ⟨s21, hxs21, h⟩ := bnd h
    obtain ⟨s22, hxs22, h⟩ := bnd h
    refine WC.region ?_
    refine WR.step (Ex.move rfl) (Wn.none rfl) rfl rfl ?_
    refine WR.step (Ex.move rfl) (Wn.none rfl) rfl rfl ?_
    refine WR.step (Ex.quoC rfl rfl hxn15) (Wn.none rfl) rfl rfl ?_
    refine WR.call H (dates_pad_ct hx17) rfl (hg_pow10) (Wn.none rfl) rfl ?_
    intro v28 M w H hle hR
    replace hg_pow10 := hg_pow10.mono hle
    obtain rfl := hR
    refine WR.step (Ex.move rfl) (Wn.none rfl) rfl rfl ?_
    refine WR.step (Ex.remC rfl rfl hxn18) (Wn.none rfl) rfl rfl ?_
    refine WR.call H (dates_pad_ct hx20) rfl (hg_pow10) (Wn.none rfl) rfl ?_
    intro v31 M w H hle hR
    replace hg_pow10 := hg_pow10.mono hle
    obtain rfl := hR
    refine WR.step (Ex.strAddC rfl rfl hxs21) (Wn.none rfl) rfl rfl ?_
    refine WR.step (Ex.strAddC rfl rfl hxs22) (Wn.none rfl) rfl rfl ?_
    refine WR.step (Ex.assign rfl) (Wn.none rfl) rfl rfl ?_
    refine WR.nil ?_
    refine WQ.then ?_
    refine WC.seq ?_
    obtain ⟨s23, hx24, h⟩ := bnd h
    obtain ⟨s25, hxs25, h⟩ := bnd h
    obtain ⟨s26, hx27, h⟩ := bnd h
    obtain ⟨s28, hxs28, h⟩ := bnd h
    obtain ⟨s29, hxs29, h⟩ := bnd h
    obtain ⟨s30, hx31, h⟩ := bnd h
    obtain ⟨s32, hxs32, h⟩ := bnd h
    refine WC.sub (e' := [(1, _), (3, _), (4, _), (6, _)]) ⟨rfl, rfl, rfl, rfl, trivial⟩ ?_
    refine WC.draw (m := 14) rfl rfl H ?_
    intro w H
    refine WA.conf (c := 14) [(34, ptr b1 3, []), (35, I p0.2.2.2.1, [0]), (36, S s23, [1]), (37, S s25, [2]), (38, ptr b1 4, []), (39, I p0.2.2.2.2.1, [4]), (40, S s26, [5]), (41, S s28, [3, 6]), (42, S s29, [7]), (43, ptr b1 5, []), (44, I p0.2.2.2.2.2.1, [9]), (45, S s30, [10]), (46, S s32, [8, 11]), (8, S s32, [12])] rfl rfl (by kernel_rfl) rfl rfl H ⟨⟨_, rfl, fun E w M H hle Qk kk => ?_⟩, ⟨_, rfl, fun E w M H hle Qk kk => ?_⟩, ⟨_, rfl, fun E w M H hle Qk kk => ?_⟩, ⟨_, rfl, fun E w M H hle Qk kk => ?_⟩, ⟨_, rfl, fun E w M H hle Qk kk => ?_⟩, ⟨_, rfl, fun E w M H hle Qk kk => ?_⟩, ⟨_, rfl, fun E w M H hle Qk kk => ?_⟩, ⟨_, rfl, fun E w M H hle Qk kk => ?_⟩, ⟨_, rfl, fun E w M H hle Qk kk => ?_⟩, ⟨_, rfl, fun E w M H hle Qk kk => ?_⟩, ⟨_, rfl, fun E w M H hle Qk kk => ?_⟩, ⟨_, rfl, fun E w M H hle Qk kk => ?_⟩, ⟨_, rfl, fun E w M H hle Qk kk => ?_⟩, ⟨_, rfl, fun E w M H hle Qk kk => ?_⟩, trivial⟩ ?_
    ·
     have hg_pow10 := hg_pow10.mono hle
     refine WR.step (Ex.fieldAddr Tryz.underlying23 rfl Tryz.sizeOf3 (by decide) rfl) (Wn.none rfl) rfl rfl ?_
     exact WR.nil (kk _ _ H (Mem.le.refl _))
    ·
     have hg_pow10 := hg_pow10.mono hle
     refine WR.step (Ex.load1 H rfl (by repeat (first | exact List.Mem.head _ | apply List.Mem.tail)) Tryz.isAgg3 (by rfl)) (Wn.none rfl) rfl rfl ?_
     exact WR.nil (kk _ _ H (Mem.le.refl _))
    ·
     have hg_pow10 := hg_pow10.mono hle
     refine WR.call H (dates_pad_ct hx24) rfl (hg_pow10) (Wn.none rfl) rfl ?_
     intro v36 M w H hle hR
     replace hg_pow10 := hg_pow10.mono hle
     obtain rfl := hR
     exact WR.nil (kk _ _ H hle)
    ·
     have hg_pow10 := hg_pow10.mono hle
     refine WR.step (Ex.strAddC rfl rfl hxs25) (Wn.none rfl) rfl rfl ?_
     exact WR.nil (kk _ _ H (Mem.le.refl _))
    ·
     have hg_pow10 := hg_pow10.mono hle
     refine WR.step (Ex.fieldAddr Tryz.underlying23 rfl Tryz.sizeOf3 (by decide) rfl) (Wn.none rfl) rfl rfl ?_
     exact WR.nil (kk _ _ H (Mem.le.refl _))
    ·
     have hg_pow10 := hg_pow10.mono hle
     refine WR.step (Ex.load1 H rfl (by repeat (first | exact List.Mem.head _ | apply List.Mem.tail)) Tryz.isAgg3 (by rfl)) (Wn.none rfl) rfl rfl ?_
     exact WR.nil (kk _ _ H (Mem.le.refl _))
    ·
     have hg_pow10 := hg_pow10.mono hle
     refine WR.call H (dates_pad_ct hx27) rfl (hg_pow10) (Wn.none rfl) rfl ?_
     intro v40 M w H hle hR
     replace hg_pow10 := hg_pow10.mono hle
     obtain rfl := hR
     exact WR.nil (kk _ _ H hle)
    ·
     have hg_pow10 := hg_pow10.mono hle
     refine WR.step (Ex.strAddC rfl rfl hxs28) (Wn.none rfl) rfl rfl ?_
     exact WR.nil (kk _ _ H (Mem.le.refl _))
    ·
     have hg_pow10 := hg_pow10.mono hle
     refine WR.step (Ex.strAddC rfl rfl hxs29) (Wn.none rfl) rfl rfl ?_
     exact WR.nil (kk _ _ H (Mem.le.refl _))
    ·
     have hg_pow10 := hg_pow10.mono hle
     refine WR.step (Ex.fieldAddr Tryz.underlying23 rfl Tryz.sizeOf3 (by decide) rfl) (Wn.none rfl) rfl rfl ?_
     exact WR.nil (kk _ _ H (Mem.le.refl _))
    ·
     have hg_pow10 := hg_pow10.mono hle
     refine WR.step (Ex.load1 H rfl (by repeat (first | exact List.Mem.head _ | apply List.Mem.tail)) Tryz.isAgg3 (by rfl)) (Wn.none rfl) rfl rfl ?_
     exact WR.nil (kk _ _ H (Mem.le.refl _))
    ·
     have hg_pow10 := hg_pow10.mono hle
     refine WR.call H (dates_pad_ct hx31) rfl (hg_pow10) (Wn.none rfl) rfl ?_
     intro v45 M w H hle hR
     replace hg_pow10 := hg_pow10.mono hle
     obtain rfl := hR
     exact WR.nil (kk _ _ H hle)
    ·
     have hg_pow10 := hg_pow10.mono hle
     refine WR.step (Ex.strAddC rfl rfl hxs32) (Wn.none rfl) rfl rfl ?_
     exact WR.nil (kk _ _ H (Mem.le.refl _))
    ·
     have hg_pow10 := hg_pow10.mono hle
     refine WR.step (Ex.assign rfl) (Wn.none rfl) rfl rfl ?_
     exact WR.nil (kk _ _ H (Mem.le.refl _))
    ·
     intro w M H hle
     replace hg_pow10 := hg_pow10.mono hle
     refine WA.done (by kernel_rfl) ?_
     refine WQ.then ?_
     refine WC.seq ?_
     obtain ⟨n33, hx34, h⟩ := bnd h
     obtain ⟨a35, hxa35, h⟩ := bnd h
     obtain ⟨s36, hxs36, h⟩ := bnd h
     obtain ⟨s37, hx38, h⟩ := bnd h
     obtain ⟨n39, hx40, h⟩ := bnd h
     obtain ⟨n41, hxn41, h⟩ := bnd h
     obtain ⟨a42, hxa42, h⟩ := bnd h
     obtain ⟨s43, hx44, h⟩ := bnd h
     obtain ⟨s45, hx46, h⟩ := bnd h
     obtain ⟨⟨n47, n48⟩, hx49, h⟩ := bnd h
     try dsimp only at h
     refine WC.sub (e' := [(1, _), (3, _), (4, _), (6, _), (8, _)]) ⟨rfl, rfl, rfl, rfl, rfl, trivial⟩ ?_
     refine WC.draw (m := 22) rfl rfl H ?_
     intro w H
     refine WA.conf (c := 17) [(47, Value.agg (List.map encS n33).toArray, []), (48, I n1, []), (49, S a35, [0, 1]), (50, S s36, [2]), (51, ptr b1 2, []), (52, I p0.2.2.1, [4]), (53, S s37, [5]), (54, Value.agg (List.map encS n39).toArray, []), (55, ptr b1 1, []), (56, I p0.2.1, [8]), (57, I n41, [9]), (58, S a42, [7, 10]), (59, ptr b1 0, []), (60, I p0.1, [12]), (61, S s43, [13]), (62, S s32, []), (63, S s22, [])] rfl rfl (by kernel_rfl) rfl rfl H ⟨⟨_, rfl, fun E w M H hle Qk kk => ?_⟩, ⟨_, rfl, fun E w M H hle Qk kk => ?_⟩, ⟨_, rfl, fun E w M H hle Qk kk => ?_⟩, ⟨_, rfl, fun E w M H hle Qk kk => ?_⟩, ⟨_, rfl, fun E w M H hle Qk kk => ?_⟩, ⟨_, rfl, fun E w M H hle Qk kk => ?_⟩, ⟨_, rfl, fun E w M H hle Qk kk => ?_⟩, ⟨_, rfl, fun E w M H hle Qk kk => ?_⟩, ⟨_, rfl, fun E w M H hle Qk kk => ?_⟩, ⟨_, rfl, fun E w M H hle Qk kk => ?_⟩, ⟨_, rfl, fun E w M H hle Qk kk => ?_⟩, ⟨_, rfl, fun E w M H hle Qk kk => ?_⟩, ⟨_, rfl, fun E w M H hle Qk kk => ?_⟩, ⟨_, rfl, fun E w M H hle Qk kk => ?_⟩, ⟨_, rfl, fun E w M H hle Qk kk => ?_⟩, ⟨_, rfl, fun E w M H hle Qk kk => ?_⟩, ⟨_, rfl, fun E w M H hle Qk kk => ?_⟩, trivial⟩ ?_
     ·
      have hg_pow10 := hg_pow10.mono hle
      refine WR.call H (dates_weekdays_ct hx34) rfl trivial (Wn.none rfl) rfl ?_
      intro v47 M w H hle hR
      replace hg_pow10 := hg_pow10.mono hle
      obtain rfl := hR
      exact WR.nil (kk _ _ H hle)
     ·
      have hg_pow10 := hg_pow10.mono hle
      refine WR.step (Ex.move rfl) (Wn.none rfl) rfl rfl ?_
      exact WR.nil (kk _ _ H (Mem.le.refl _))
     ·
      have hg_pow10 := hg_pow10.mono hle
      refine WR.step (Ex.idxAggA (l := n33) Tryz.underlying55 Tryz.sizeOf9 Tryz.isAgg9 rfl rfl hxa35) (Wn.none rfl) rfl rfl ?_
      exact WR.nil (kk _ _ H (Mem.le.refl _))
     ·
      have hg_pow10 := hg_pow10.mono hle
      refine WR.step (Ex.strAddC rfl rfl hxs36) (Wn.none rfl) rfl rfl ?_
      exact WR.nil (kk _ _ H (Mem.le.refl _))
     ·
      have hg_pow10 := hg_pow10.mono hle
      refine WR.step (Ex.fieldAddr Tryz.underlying23 rfl Tryz.sizeOf3 (by decide) rfl) (Wn.none rfl) rfl rfl ?_
      exact WR.nil (kk _ _ H (Mem.le.refl _))
     ·
      have hg_pow10 := hg_pow10.mono hle
      refine WR.step (Ex.load1 H rfl (by repeat (first | exact List.Mem.head _ | apply List.Mem.tail)) Tryz.isAgg3 (by rfl)) (Wn.none rfl) rfl rfl ?_
      exact WR.nil (kk _ _ H (Mem.le.refl _))
     ·
      have hg_pow10 := hg_pow10.mono hle
      refine WR.call H (dates_pad_ct hx38) rfl (hg_pow10) (Wn.none rfl) rfl ?_
      intro v53 M w H hle hR
      replace hg_pow10 := hg_pow10.mono hle
      obtain rfl := hR
      exact WR.nil (kk _ _ H hle)
     ·
      have hg_pow10 := hg_pow10.mono hle
      refine WR.call H (dates_months_ct hx40) rfl trivial (Wn.none rfl) rfl ?_
      intro v54 M w H hle hR
      replace hg_pow10 := hg_pow10.mono hle
      obtain rfl := hR
      exact WR.nil (kk _ _ H hle)
     ·
      have hg_pow10 := hg_pow10.mono hle
      refine WR.step (Ex.fieldAddr Tryz.underlying23 rfl Tryz.sizeOf3 (by decide) rfl) (Wn.none rfl) rfl rfl ?_
      exact WR.nil (kk _ _ H (Mem.le.refl _))
     ·
      have hg_pow10 := hg_pow10.mono hle
      refine WR.step (Ex.load1 H rfl (by repeat (first | exact List.Mem.head _ | apply List.Mem.tail)) Tryz.isAgg3 (by rfl)) (Wn.none rfl) rfl rfl ?_
      exact WR.nil (kk _ _ H (Mem.le.refl _))
     ·
      have hg_pow10 := hg_pow10.mono hle
      refine WR.step (Ex.subC rfl rfl hxn41) (Wn.none rfl) rfl rfl ?_
      exact WR.nil (kk _ _ H (Mem.le.refl _))
     ·
      have hg_pow10 := hg_pow10.mono hle
      refine WR.step (Ex.idxAggA (l := n39) Tryz.underlying57 Tryz.sizeOf9 Tryz.isAgg9 rfl rfl hxa42) (Wn.none rfl) rfl rfl ?_
      exact WR.nil (kk _ _ H (Mem.le.refl _))
     ·
      have hg_pow10 := hg_pow10.mono hle
      refine WR.step (Ex.fieldAddr Tryz.underlying23 rfl Tryz.sizeOf3 (by decide) rfl) (Wn.none rfl) rfl rfl ?_
      exact WR.nil (kk _ _ H (Mem.le.refl _))
     ·
      have hg_pow10 := hg_pow10.mono hle
      refine WR.step (Ex.load1 H rfl (by repeat (first | exact List.Mem.head _ | apply List.Mem.tail)) Tryz.isAgg3 (by rfl)) (Wn.none rfl) rfl rfl ?_
      exact WR.nil (kk _ _ H (Mem.le.refl _))
     ·
      have hg_pow10 := hg_pow10.mono hle
      refine WR.call H (dates_pad_ct hx44) rfl (hg_pow10) (Wn.none rfl) rfl ?_
      intro v61 M w H hle hR
      replace hg_pow10 := hg_pow10.mono hle
      obtain rfl := hR
      exact WR.nil (kk _ _ H hle)
     ·
      have hg_pow10 := hg_pow10.mono hle
      refine WR.step (Ex.move rfl) (Wn.none rfl) rfl rfl ?_
      exact WR.nil (kk _ _ H (Mem.le.refl _))
     ·
      have hg_pow10 := hg_pow10.mono hle
      refine WR.step (Ex.move rfl) (Wn.none rfl) rfl rfl ?_
      exact WR.nil (kk _ _ H (Mem.le.refl _))
     ·
      intro w M H hle
      replace hg_pow10 := hg_pow10.mono hle
      refine WA.seq (fuel := 0) [17, 18, 19, 20, 21] rfl (by kernel_rfl) ?_
      refine WR.lit (enc := encS) xty59 ([s36, s37, a42, s43, s32, s22] : List (List UInt8)) H rfl (by rfl) (fun _ => rfl) rfl rfl (Wn.none rfl) rfl ?_
      intro v64 M w H hle hs64
      replace hg_pow10 := hg_pow10.mono hle
      refine WR.call H (strings_Join_ct hx46) rfl (hs64) (Wn.none rfl) rfl ?_
      intro v65 M w H hle hR
      replace hg_pow10 := hg_pow10.mono hle
      replace hs64 := hs64.mono hle
      obtain rfl := hR
      refine WR.call H (basic_None_ct hx49) rfl trivial (Wn.none rfl) rfl ?_
      intro v66 M w H hle hR
      replace hg_pow10 := hg_pow10.mono hle
      replace hs64 := hs64.mono hle
      try dsimp only at hR
      obtain rfl := hR
      refine WR.step (Ex.assign rfl) (Wn.none rfl) rfl rfl ?_
      refine WR.store [_, _] H rfl rfl rfl (by repeat (first | exact Upd.head | apply Upd.tail)) Tryz.sizeOf26 rfl (by rfl) (by rfl) (Wn.none rfl) ?_
      intro w H
      refine WR.nil (WQ.any ?_)
      refine WA.done (by kernel_rfl) ?_
      refine WQ.then ?_
      refine WC.ret ?_
      (repeat (first | refine WQ.thenRet ?_ | refine WQ.inBlockRet ?_ | refine WQ.cutRet ?_ | refine WQ.scRet ?_))
      obtain rfl := Option.some.inj h
      exact WQ.ret2 rfl rfl ⟨_, rfl, H.loadAgg (by repeat (first | exact List.Mem.head _ | apply List.Mem.tail)) Tryz.isAgg26 Tryz.sizeOf26 (by rfl)⟩ H.ext rfl
theorem strings_FieldsFunc_ct {p0 : List UInt8} {p1 : (Int → Option Bool)} {vp1 : Value} {r : List (List UInt8)} (h : strings_FieldsFunc p0 p1 = some r) : Ct Tryz.prog 37 [S p0, vp1] (fun M => FnT61 M vp1 p1) (fun v M => Sl M encS v r) := by
  refine Ct.of Tryz.func37 (enters Tryz.func37 (by kernel_rfl) rfl) rfl rfl rfl ?_
  intro w0 M0 H hp
  have hp1 := hp
  unfold strings_FieldsFunc at h
  refine WC.seq ?_
  refine WC.region ?_
  refine WR.step (Ex.assign rfl) (Wn.none rfl) rfl rfl ?_
  refine WR.nil ?_
  refine WQ.then ?_
  refine WC.seq ?_
  obtain ⟨l1, hxl1, h⟩ := bnd h
  refine WC.region ?_
  refine WR.mkSC (enc := xenc81) (z0 := ((0, 0) : (Int × Int))) xty79 rfl H rfl rfl hxl1 (Wn.none rfl) rfl ?_
  intro v12 w H
  refine WR.step (Ex.assign rfl) (Wn.none rfl) rfl rfl ?_
  refine WR.nil ?_
  refine WQ.then ?_
  refine WC.seq ?_
  refine WC.region ?_
  refine WR.step (Ex.assign rfl) (Wn.none rfl) rfl rfl ?_
  refine WR.nil ?_
  refine WQ.then ?_
  refine WC.seq ?_
  refine WC.seq ?_
  refine WC.region ?_
  refine WR.step (Ex.move rfl) (Wn.none rfl) rfl rfl ?_
  refine WR.rangeStr H Tryz.underlying9 rfl (Wn.none rfl) rfl ?_
  intro b14 w H
  refine WR.nil ?_
  refine WQ.then ?_
  obtain ⟨o3, e4, h⟩ := bnd h
  refine WC.cutX (fun e w => ∃ (l6 : List (Int × Int)) (v7 : Value) (n8 : Int) (M : Mem), e = [(0, S p0), (5, v7), (6, I n8)] ∧ St w0 M0 M [RowS 81 2 xenc81 v7 l6] w ∧ some (l6, n8) = some o3) [] ?_ ?_ (trivial)
  ·
   refine WC.block ?_
   refine WC.loopP (fun m e w => ∃ (l10 : List (Int × Int)) (v11 : Value) (n12 : Int) (ps13 : Nat) (M : Mem), e = [(0, S p0), (1, vp1), (5, v11), (6, I n12), (14, ptr b14 0)] ∧ St w0 M0 M [RowS 81 2 xenc81 v11 l10, .blk b14 (.stringIter ⟨((p0) : List UInt8).toArray⟩ ps13)] w ∧ FnT61 M vp1 p1 ∧ strings_FieldsFunc_L1 p0 p1 m l10 n12 ps13 = some o3) FU [(0, _), (1, _), (5, _), (6, _), (14, _)] ⟨rfl, rfl, rfl, rfl, rfl, trivial⟩ ⟨_, _, _, _, _, rfl, (H.pick (L' := [RowS 81 2 xenc81 v12 l1, .blk b14 (.stringIter ⟨((p0) : List UInt8).toArray⟩ 0)]) (by repeat (first | exact Pick.nil | refine Pick.cons (by repeat (first | exact Rem.head | apply Rem.tail)) ?_))), hp1, e4⟩ ?_
   rintro m14 e w ⟨l10, v11, n12, ps13, M, rfl, H, hp1, e4⟩
   rcases m14 with _ | m14
   · rw [strings_FieldsFunc_L1] at e4; cases e4
   rw [strings_FieldsFunc_L1] at e4
   refine WC.seq ?_
   by_cases hk15 : ps13 < p0.length
   ·
    rw [if_pos hk15] at e4
    refine WC.region ?_
    refine WR.nextT H hk15 rfl (by repeat (first | exact Upd.head | apply Upd.tail)) (Wn.none rfl) rfl ?_
    intro w H
    refine WR.step (Ex.extract rfl rfl) (Wn.none rfl) rfl rfl ?_
    refine WR.nil ?_
    refine WQ.then ?_
    refine WC.seq ?_
    refine WC.condT rfl ?_
    refine WC.skip ?_
    refine WQ.then ?_
    refine WC.block ?_
    refine WC.seq ?_
    refine WC.region ?_
    refine WR.step (Ex.extract rfl rfl) (Wn.none rfl) rfl rfl ?_
    refine WR.step (Ex.extract rfl rfl) (Wn.none rfl) rfl rfl ?_
    refine WR.step (Ex.assign rfl) (Wn.none rfl) rfl rfl ?_
    refine WR.step (Ex.assign rfl) (Wn.none rfl) rfl rfl ?_
    refine WR.nil ?_
    refine WQ.then ?_
    refine WC.seq ?_
    obtain ⟨b16, hx17, e4⟩ := bnd e4
    refine WC.region ?_
    refine WR.step (Ex.move rfl) (Wn.none rfl) rfl rfl ?_
    refine WR.step (Ex.move rfl) (Wn.none rfl) rfl rfl ?_
    refine WR.callF H (hp1 _ _ hx17) rfl rfl (Wn.none rfl) rfl ?_
    intro v21 M w H hle hR
    replace hp1 := hp1.mono hle
    obtain rfl := hR
    refine WR.nil ?_
    refine WQ.then ?_
    refine WC.condB rfl (fun hk18 => ?_) (fun hk18 => ?_)
    ·
     subst hk18
     rw [if_pos rfl] at e4
     refine WC.seq ?_
     refine WC.region ?_
     refine WR.step (Ex.move rfl) (Wn.none rfl) rfl rfl ?_
     refine WR.step (Ex.geq rfl rfl) (Wn.none rfl) rfl rfl ?_
     refine WR.nil ?_
     refine WQ.then ?_
     refine WC.condB rfl (fun hk19 => ?_) (fun hk19 => ?_)
     ·
      replace hk19 : (0 : Int) ≤ n12 := of_decide_eq_true hk19
      rw [if_pos hk19] at e4
      refine WC.seq ?_
      obtain ⟨l20, hxl20, e4⟩ := bnd e4
      refine WC.region ?_
      refine WR.step (Ex.move rfl) (Wn.none rfl) rfl rfl ?_
      refine WR.step (Ex.move rfl) (Wn.none rfl) rfl rfl ?_
      refine WR.step (Ex.move rfl) (Wn.none rfl) rfl rfl ?_
      refine WR.step (Ex.build [I n12, I (ps13 : Int)] Tryz.underlying81 Tryz.zeroValue81 (xplaces81 Tryz.underlying81) rfl rfl) (Wn.none rfl) rfl rfl ?_
      refine WR.litS (enc := xenc81) xty79 ([(n12, (ps13 : Int))] : List (Int × Int)) H (fun _ => rfl) rfl (by kernel_rfl) rfl rfl rfl (Wn.none rfl) rfl ?_
      intro v28 M w H hle hs28
      replace hp1 := hp1.mono hle
      refine WR.appSC (l := l10) xty79 rfl xone81 H rfl (fun _ => by repeat (first | exact Upd.head | apply Upd.tail)) rfl (hs28) hxl20 (Wn.none rfl) rfl ?_
      intro v29 w H
      refine WR.step (Ex.assign rfl) (Wn.none rfl) rfl rfl ?_
      refine WR.nil ?_
      refine WQ.then ?_
      obtain ⟨n21, hxn21, e4⟩ := bnd e4
      refine WC.region ?_
      refine WR.step (Ex.move rfl) (Wn.none rfl) rfl rfl ?_
      refine WR.step (Ex.xorC rfl hxn21) (Wn.none rfl) rfl rfl ?_
      refine WR.step (Ex.assign rfl) (Wn.none rfl) rfl rfl ?_
      refine WR.nil ?_
      refine WQ.inBlock ?_
      exact WQ.againP m14 [(0, _), (1, _), (5, _), (6, _), (14, _)] ⟨rfl, rfl, rfl, rfl, rfl, trivial⟩ ⟨_, _, _, _, _, rfl, H, hp1, e4⟩ (Nat.lt_succ_self _)
     ·
      replace hk19 : ¬ ((0 : Int) ≤ n12) := of_decide_eq_false hk19
      rw [if_neg hk19] at e4
      refine WC.skip ?_
      refine WQ.inBlock ?_
      exact WQ.againP m14 [(0, _), (1, _), (5, _), (6, _), (14, _)] ⟨rfl, rfl, rfl, rfl, rfl, trivial⟩ ⟨_, _, _, _, _, rfl, H, hp1, e4⟩ (Nat.lt_succ_self _)
    ·
     subst hk18
     rw [if_neg Bool.false_ne_true] at e4
     refine WC.seq ?_
     refine WC.region ?_
     refine WR.step (Ex.move rfl) (Wn.none rfl) rfl rfl ?_
     refine WR.step (Ex.lss rfl rfl) (Wn.none rfl) rfl rfl ?_
     refine WR.nil ?_
     refine WQ.then ?_
     refine WC.condB rfl (fun hk22 => ?_) (fun hk22 => ?_)
     ·
      replace hk22 : n12 < (0 : Int) := of_decide_eq_true hk22
      rw [if_pos hk22] at e4
      refine WC.region ?_
      refine WR.step (Ex.move rfl) (Wn.none rfl) rfl rfl ?_
      refine WR.step (Ex.assign rfl) (Wn.none rfl) rfl rfl ?_
      refine WR.nil ?_
      refine WQ.inBlock ?_
      exact WQ.againP m14 [(0, _), (1, _), (5, _), (6, _), (14, _)] ⟨rfl, rfl, rfl, rfl, rfl, trivial⟩ ⟨_, _, _, _, _, rfl, H, hp1, e4⟩ (Nat.lt_succ_self _)
     ·
      replace hk22 : ¬ (n12 < (0 : Int)) := of_decide_eq_false hk22
      rw [if_neg hk22] at e4
      refine WC.skip ?_
      refine WQ.inBlock ?_
      exact WQ.againP m14 [(0, _), (1, _), (5, _), (6, _), (14, _)] ⟨rfl, rfl, rfl, rfl, rfl, trivial⟩ ⟨_, _, _, _, _, rfl, H, hp1, e4⟩ (Nat.lt_succ_self _)
   ·
    rw [if_neg hk15] at e4
    refine WC.region ?_
    refine WR.nextF H (Nat.le_of_not_lt hk15) rfl (by repeat (first | exact List.Mem.head _ | apply List.Mem.tail)) (Wn.none rfl) rfl ?_
    refine WR.step (Ex.extract rfl rfl) (Wn.none rfl) rfl rfl ?_
    refine WR.nil ?_
    refine WQ.then ?_
    refine WC.seq ?_
    refine WC.condF rfl ?_
    refine WC.exit ?_
    refine WQ.thenExit ?_
    refine WQ.thenExit ?_
    refine WQ.exitHere ?_
    exact WQ.meetN [(0, _), (5, _), (6, _)] ⟨rfl, rfl, rfl, trivial⟩ ⟨_, _, _, _, rfl, (H.pick (L' := [RowS 81 2 xenc81 v11 l10]) (by repeat (first | exact Pick.nil | refine Pick.cons (by repeat (first | exact Rem.head | apply Rem.tail)) ?_))), e4⟩
  ·
   rintro e w ⟨l6, v7, n8, M, rfl, H, q23⟩
   obtain rfl := Option.some.inj q23
   try dsimp only at h
   refine WQ.then ?_
   refine WC.seq ?_
   refine WC.seq ?_
   refine WC.region ?_
   refine WR.step (Ex.move rfl) (Wn.none rfl) rfl rfl ?_
   refine WR.step (Ex.geq rfl rfl) (Wn.none rfl) rfl rfl ?_
   refine WR.nil ?_
   refine WQ.then ?_
   obtain ⟨o24, e25, h⟩ := bnd h
   refine WC.cutX (fun e w => ∃ (l27 : List (Int × Int)) (v28 : Value) (M : Mem), e = [(0, S p0), (5, v28)] ∧ St w0 M0 M [RowS 81 2 xenc81 v28 l27] w ∧ some l27 = some o24) [] ?_ ?_ (trivial)
   ·
    refine WC.condB rfl (fun hk29 => ?_) (fun hk29 => ?_)
    ·
     replace hk29 : (0 : Int) ≤ n8 := of_decide_eq_true hk29
     rw [if_pos hk29] at e25
     obtain ⟨l30, hxl30, e25⟩ := bnd e25
     refine WC.region ?_
     refine WR.step (Ex.move rfl) (Wn.none rfl) rfl rfl ?_
     refine WR.step (Ex.move rfl) (Wn.none rfl) rfl rfl ?_
     refine WR.step (Ex.move rfl) (Wn.none rfl) rfl rfl ?_
     refine WR.step (Ex.lenStr Tryz.underlying9 rfl) (Wn.none rfl) rfl rfl ?_
     refine WR.step (Ex.build [I n8, I (p0.length : Int)] Tryz.underlying81 Tryz.zeroValue81 (xplaces81 Tryz.underlying81) rfl rfl) (Wn.none rfl) rfl rfl ?_
     refine WR.litS (enc := xenc81) xty79 ([(n8, (p0.length : Int))] : List (Int × Int)) H (fun _ => rfl) rfl (by kernel_rfl) rfl rfl rfl (Wn.none rfl) rfl ?_
     intro v42 M w H hle hs42
     refine WR.appSC (l := l6) xty79 rfl xone81 H rfl (fun _ => by repeat (first | exact Upd.head | apply Upd.tail)) rfl (hs42) hxl30 (Wn.none rfl) rfl ?_
     intro v43 w H
     refine WR.step (Ex.assign rfl) (Wn.none rfl) rfl rfl ?_
     refine WR.nil ?_
     exact WQ.meetN [(0, _), (5, _)] ⟨rfl, rfl, trivial⟩ ⟨_, _, _, rfl, H, e25⟩
    ·
     replace hk29 : ¬ ((0 : Int) ≤ n8) := of_decide_eq_false hk29
     rw [if_neg hk29] at e25
     refine WC.skip ?_
     exact WQ.meetN [(0, _), (5, _)] ⟨rfl, rfl, trivial⟩ ⟨_, _, _, rfl, H, e25⟩
   ·
    rintro e w ⟨l27, v28, M, rfl, H, q31⟩
    obtain rfl := Option.some.inj q31
    refine WQ.then ?_
    refine WC.seq ?_
    obtain ⟨l32, hxl32, h⟩ := bnd h
    refine WC.region ?_
    refine WR.step (Ex.move rfl) (Wn.none rfl) rfl rfl ?_
    refine WR.step (Ex.lenRowS (l := l27) Tryz.underlying79 H (by repeat (first | exact List.Mem.head _ | apply List.Mem.tail)) rfl) (Wn.none rfl) rfl rfl ?_
    refine WR.mkC (enc := encS) (z0 := ([] : List UInt8)) xty59 rfl H rfl rfl hxl32 (Wn.none rfl) rfl ?_
    intro v46 w H
    refine WR.step (Ex.assign rfl) (Wn.none rfl) rfl rfl ?_
    refine WR.nil ?_
    refine WQ.then ?_
    refine WC.seq ?_
    refine WC.seq ?_
    refine WC.region ?_
    refine WR.step (Ex.move rfl) (Wn.none rfl) rfl rfl ?_
    refine WR.step (Ex.lenRowS (l := l27) Tryz.underlying79 H (by repeat (first | exact List.Mem.head _ | apply List.Mem.tail)) rfl) (Wn.none rfl) rfl rfl ?_
    refine WR.step (Ex.move rfl) (Wn.none rfl) rfl rfl ?_
    refine WR.nil ?_
    refine WQ.then ?_
    obtain ⟨o34, e35, h⟩ := bnd h
    refine WC.cutX (fun e w => ∃ (l36 : List (List UInt8)) (M : Mem), e = [(9, v46)] ∧ St w0 M0 M [RowI 9 encS v46 l36] w ∧ some l36 = some o34) [] ?_ ?_ (trivial)
    ·
     refine WC.block ?_
     refine WC.loopP (fun m e w => ∃ (l37 : List (List UInt8)) (n38 : Int) (M : Mem), e = [(0, S p0), (9, v46), (47, v28), (48, I (l27.length : Int)), (49, I n38)] ∧ St w0 M0 M [RowI 9 encS v46 l37, RowS 81 2 xenc81 v28 l27] w ∧ strings_FieldsFunc_L2 p0 l27 m l37 n38 = some o34) FU [(0, _), (9, _), (47, _), (48, _), (49, _)] ⟨rfl, rfl, rfl, rfl, rfl, trivial⟩ ⟨_, _, _, rfl, H, e35⟩ ?_
     rintro m39 e w ⟨l37, n38, M, rfl, H, e35⟩
     rcases m39 with _ | m39
     · rw [strings_FieldsFunc_L2] at e35; cases e35
     rw [strings_FieldsFunc_L2] at e35
     refine WC.seq ?_
     refine WC.region ?_
     refine WR.step (Ex.lss rfl rfl) (Wn.none rfl) rfl rfl ?_
     refine WR.nil ?_
     refine WQ.then ?_
     refine WC.seq ?_
     refine WC.condB rfl (fun hk40 => ?_) (fun hk40 => ?_)
     ·
      replace hk40 : n38 < (l27.length : Int) := of_decide_eq_true hk40
      rw [if_pos hk40] at e35
      refine WC.skip ?_
      refine WQ.then ?_
      refine WC.seq ?_
      refine WC.block ?_
      refine WC.seq ?_
      obtain ⟨a41, hxa41, e35⟩ := bnd e35
      refine WC.region ?_
      refine WR.step (Ex.move rfl) (Wn.none rfl) rfl rfl ?_
      refine WR.idxRowSC (l := l27) H Tryz.underlying79 Tryz.sizeOf81 (by repeat (first | exact List.Mem.head _ | apply List.Mem.tail)) rfl rfl hxa41 (Wn.none rfl) rfl ?_
      intro g52 hg52
      refine WR.step (Ex.loadRowA H rfl hg52 (by repeat (first | exact List.Mem.head _ | apply List.Mem.tail)) (fun _ => rfl) hxa41 Tryz.isAgg81 Tryz.sizeOf81) (Wn.none rfl) rfl rfl ?_
      refine WR.alloc [_, _] H Tryz.zeroValue81 rfl (Wn.none rfl) rfl ?_
      intro b11 w H
      refine WR.step (Ex.assign rfl) (Wn.none rfl) rfl rfl ?_
      refine WR.store [_, _] H rfl rfl rfl (by repeat (first | exact Upd.head | apply Upd.tail)) Tryz.sizeOf81 rfl (by rfl) (by rfl) (Wn.none rfl) ?_
      intro w H
      refine WR.nil ?_
      refine WQ.then ?_
      obtain ⟨s42, hxs42, e35⟩ := bnd e35
      obtain ⟨a43, hxa43, e35⟩ := bnd e35
      obtain ⟨l44, hxl44, e35⟩ := bnd e35
      refine WC.region ?_
      refine WR.step (Ex.move rfl) (Wn.none rfl) rfl rfl ?_
      refine WR.step (Ex.move rfl) (Wn.none rfl) rfl rfl ?_
      refine WR.step (Ex.move rfl) (Wn.none rfl) rfl rfl ?_
      refine WR.step (Ex.fieldAddr Tryz.underlying81 rfl Tryz.sizeOf3 (by decide) rfl) (Wn.none rfl) rfl rfl ?_
      refine WR.step (Ex.load1 H rfl (by repeat (first | exact List.Mem.head _ | apply List.Mem.tail)) Tryz.isAgg3 (by rfl)) (Wn.none rfl) rfl rfl ?_
      refine WR.step (Ex.fieldAddr Tryz.underlying81 rfl Tryz.sizeOf3 (by decide) rfl) (Wn.none rfl) rfl rfl ?_
      refine WR.step (Ex.load1 H rfl (by repeat (first | exact List.Mem.head _ | apply List.Mem.tail)) Tryz.isAgg3 (by rfl)) (Wn.none rfl) rfl rfl ?_
      refine WR.step (Ex.sliceC Tryz.underlying9 rfl rfl rfl hxs42) (Wn.none rfl) rfl rfl ?_
      refine WR.idxRowC (l := l37) H Tryz.underlying59 Tryz.sizeOf9 (by repeat (first | exact List.Mem.head _ | apply List.Mem.tail)) rfl rfl hxa43 (Wn.none rfl) rfl ?_
      intro g62 hg62
      refine WR.storeRowC (a := s42) H rfl rfl ⟨rfl, rfl⟩ hg62 (fun _ => by repeat (first | exact Upd.head | apply Upd.tail)) hxl44 Tryz.sizeOf9 (Wn.none rfl) ?_
      intro w H
      refine WR.nil ?_
      refine WQ.inBlock ?_
      refine WQ.then ?_
      obtain ⟨n45, hxn45, e35⟩ := bnd e35
      refine WC.region ?_
      refine WR.step (Ex.addC rfl rfl hxn45) (Wn.none rfl) rfl rfl ?_
      refine WR.step (Ex.move rfl) (Wn.none rfl) rfl rfl ?_
      refine WR.nil ?_
      exact WQ.againP m39 [(0, _), (9, _), (47, _), (48, _), (49, _)] ⟨rfl, rfl, rfl, rfl, rfl, trivial⟩ ⟨_, _, _, rfl, (H.pick (L' := [RowI 9 encS v46 l44, RowS 81 2 xenc81 v28 l27]) (by repeat (first | exact Pick.nil | refine Pick.cons (by repeat (first | exact Rem.head | apply Rem.tail)) ?_))), e35⟩ (Nat.lt_succ_self _)
     ·
      replace hk40 : ¬ (n38 < (l27.length : Int)) := of_decide_eq_false hk40
      rw [if_neg hk40] at e35
      refine WC.exit ?_
      refine WQ.thenExit ?_
      refine WQ.thenExit ?_
      refine WQ.exitHere ?_
      exact WQ.meetN [(9, _)] ⟨rfl, trivial⟩ ⟨_, _, rfl, (H.pick (L' := [RowI 9 encS v46 l37]) (by repeat (first | exact Pick.nil | refine Pick.cons (by repeat (first | exact Rem.head | apply Rem.tail)) ?_))), e35⟩
    ·
     rintro e w ⟨l36, M, rfl, H, q46⟩
     obtain rfl := Option.some.inj q46
     refine WQ.then ?_
     refine WC.seq ?_
     refine WC.region ?_
     refine WR.step (Ex.move rfl) (Wn.none rfl) rfl rfl ?_
     refine WR.step (Ex.assign rfl) (Wn.none rfl) rfl rfl ?_
     refine WR.nil ?_
     refine WQ.then ?_
     refine WC.ret ?_
     (repeat (first | refine WQ.thenRet ?_ | refine WQ.inBlockRet ?_ | refine WQ.cutRet ?_ | refine WQ.scRet ?_))
     obtain ⟨M, hle, hs47, H⟩ := H.freezeRow (v := v46) (enc := encS) (t := 9) (by repeat (first | exact Rem.head | apply Rem.tail))
     obtain rfl := Option.some.inj h
     exact WQ.ret1 rfl rfl H.ext hs47
theorem dates_Parse_1_ct {p0 : Int} {r : Bool} (h : dates_Parse_1 p0 = some r) : Ct Tryz.prog 38 [Value.int .i32 p0] (fun M => True) (fun v M => v = Value.bool r) := by
  refine Ct.of Tryz.func38 (enters Tryz.func38 (by kernel_rfl) rfl) rfl rfl rfl ?_
  intro w0 M0 H hp
  unfold dates_Parse_1 at h
  refine WC.seq ?_
  refine WC.region ?_
  refine WR.step (Ex.assign rfl) (Wn.none rfl) rfl rfl ?_
  refine WR.nil ?_
  refine WQ.then ?_
  refine WC.seq ?_
  obtain ⟨o1, e2, h⟩ := bnd h
  refine WC.cutX (fun e w => ∃ (b3 : Bool) (M : Mem), e = [(2, Value.bool b3)] ∧ St w0 M0 M [] w ∧ some b3 = some o1) [] ?_ ?_ (trivial)
  ·
   by_cases hk4 : p0 = (32 : Int)
   ·
    rw [if_pos hk4] at e2
    refine WC.region ?_
    refine WR.step (Ex.move rfl) (Wn.none rfl) rfl rfl ?_
    refine WR.stepE (v' := .bool true) (Ex.eql rfl rfl) (congrArg Value.bool (decide_eq_true hk4)) (Wn.none rfl) rfl rfl ?_
    refine WR.step (Ex.move rfl) (Wn.none rfl) rfl rfl ?_
    refine WR.skipG (b := true) rfl rfl rfl rfl rfl ?_
    refine WR.skipG (b := true) rfl rfl rfl rfl rfl ?_
    refine WR.step (Ex.pickT rfl rfl) (Wn.none rfl) rfl rfl ?_
    refine WR.step (Ex.assign rfl) (Wn.none rfl) rfl rfl ?_
    refine WR.nil ?_
    exact WQ.meetN [(2, _)] ⟨rfl, trivial⟩ ⟨_, _, rfl, H, e2⟩
   ·
    rw [if_neg hk4] at e2
    refine WC.region ?_
    refine WR.step (Ex.move rfl) (Wn.none rfl) rfl rfl ?_
    refine WR.stepE (v' := .bool false) (Ex.eql rfl rfl) (congrArg Value.bool (decide_eq_false hk4)) (Wn.none rfl) rfl rfl ?_
    refine WR.step (Ex.move rfl) (Wn.none rfl) rfl rfl ?_
    refine WR.step (Ex.move rfl) (Wn.some rfl rfl rfl) rfl rfl ?_
    refine WR.step (Ex.eql rfl rfl) (Wn.some rfl rfl rfl) rfl rfl ?_
    refine WR.step (Ex.pickF rfl rfl) (Wn.none rfl) rfl rfl ?_
    refine WR.step (Ex.assign rfl) (Wn.none rfl) rfl rfl ?_
    refine WR.nil ?_
    exact WQ.meetN [(2, _)] ⟨rfl, trivial⟩ ⟨_, _, rfl, H, e2⟩
  ·
   rintro e w ⟨b3, M, rfl, H, q5⟩
   obtain rfl := Option.some.inj q5
   refine WQ.then ?_
   refine WC.ret ?_
   (repeat (first | refine WQ.thenRet ?_ | refine WQ.inBlockRet ?_ | refine WQ.cutRet ?_ | refine WQ.scRet ?_))
   obtain rfl := Option.some.inj h
   exact WQ.ret1 rfl rfl H.ext rfl
theorem stringslite_HasSuffix_ct {p0 : List UInt8} {p1 : List UInt8} {r : Bool} (h : stringslite_HasSuffix p0 p1 = some r) : Ct Tryz.prog 68 [S p0, S p1] (fun M => True) (fun v M => v = Value.bool r) := by
  refine Ct.of Tryz.func68 (enters Tryz.func68 (by kernel_rfl) rfl) rfl rfl rfl ?_
  intro w0 M0 H hp
  unfold stringslite_HasSuffix at h
  refine WC.seq ?_
  refine WC.region ?_
  refine WR.step (Ex.assign rfl) (Wn.none rfl) rfl rfl ?_
  refine WR.nil ?_
  refine WQ.then ?_
  refine WC.seq ?_
  obtain ⟨o1, e2, h⟩ := bnd h
  refine WC.cutX (fun e w => ∃ (b3 : Bool) (M : Mem), e = [(4, Value.bool b3)] ∧ St w0 M0 M [] w ∧ some b3 = some o1) [] ?_ ?_ (trivial)
  ·
   refine WC.region ?_
   refine WR.step (Ex.move rfl) (Wn.none rfl) rfl rfl ?_
   refine WR.step (Ex.lenStr Tryz.underlying9 rfl) (Wn.none rfl) rfl rfl ?_
   refine WR.step (Ex.move rfl) (Wn.none rfl) rfl rfl ?_
   refine WR.step (Ex.lenStr Tryz.underlying9 rfl) (Wn.none rfl) rfl rfl ?_
   by_cases hk4 : (p1.length : Int) ≤ (p0.length : Int)
   ·
    rw [if_pos hk4] at e2
    obtain ⟨n5, hxn5, e2⟩ := bnd e2
    obtain ⟨s6, hxs6, e2⟩ := bnd e2
    refine WR.stepE (v' := .bool true) (Ex.geq rfl rfl) (congrArg Value.bool (decide_eq_true hk4)) (Wn.none rfl) rfl rfl ?_
    refine WR.step (Ex.move rfl) (Wn.none rfl) rfl rfl ?_
    refine WR.step (Ex.move rfl) (Wn.some rfl rfl rfl) rfl rfl ?_
    refine WR.step (Ex.move rfl) (Wn.some rfl rfl rfl) rfl rfl ?_
    refine WR.step (Ex.lenStr Tryz.underlying9 rfl) (Wn.some rfl rfl rfl) rfl rfl ?_
    refine WR.step (Ex.move rfl) (Wn.some rfl rfl rfl) rfl rfl ?_
    refine WR.step (Ex.lenStr Tryz.underlying9 rfl) (Wn.some rfl rfl rfl) rfl rfl ?_
    refine WR.step (Ex.subC rfl rfl hxn5) (Wn.some rfl rfl rfl) rfl rfl ?_
    refine WR.step (Ex.sliceL Tryz.underlying9 rfl rfl hxs6) (Wn.some rfl rfl rfl) rfl rfl ?_
    refine WR.step (Ex.move rfl) (Wn.some rfl rfl rfl) rfl rfl ?_
    refine WR.step (Ex.strEql rfl rfl) (Wn.some rfl rfl rfl) rfl rfl ?_
    refine WR.step (Ex.pickT rfl rfl) (Wn.none rfl) rfl rfl ?_
    refine WR.step (Ex.assign rfl) (Wn.none rfl) rfl rfl ?_
    refine WR.nil ?_
    exact WQ.meetN [(4, _)] ⟨rfl, trivial⟩ ⟨_, _, rfl, H, e2⟩
   ·
    rw [if_neg hk4] at e2
    refine WR.stepE (v' := .bool false) (Ex.geq rfl rfl) (congrArg Value.bool (decide_eq_false hk4)) (Wn.none rfl) rfl rfl ?_
    refine WR.step (Ex.move rfl) (Wn.none rfl) rfl rfl ?_
    refine WR.skipN 9 rfl rfl ?_
    refine WR.step (Ex.pickF rfl rfl) (Wn.none rfl) rfl rfl ?_
    refine WR.step (Ex.assign rfl) (Wn.none rfl) rfl rfl ?_
    refine WR.nil ?_
    exact WQ.meetN [(4, _)] ⟨rfl, trivial⟩ ⟨_, _, rfl, H, e2⟩
  ·
   rintro e w ⟨b3, M, rfl, H, q7⟩
   obtain rfl := Option.some.inj q7
   refine WQ.then ?_
   refine WC.ret ?_
   (repeat (first | refine WQ.thenRet ?_ | refine WQ.inBlockRet ?_ | refine WQ.cutRet ?_ | refine WQ.scRet ?_))
   obtain rfl := Option.some.inj h
   exact WQ.ret1 rfl rfl H.ext rfl
theorem strings_HasSuffix_ct {p0 : List UInt8} {p1 : List UInt8} {r : Bool} (h : strings_HasSuffix p0 p1 = some r) : Ct Tryz.prog 53 [S p0, S p1] (fun M => True) (fun v M => v = Value.bool r) := by
  refine Ct.of Tryz.func53 (enters Tryz.func53 (by kernel_rfl) rfl) rfl rfl rfl ?_
  intro w0 M0 H hp
  unfold strings_HasSuffix at h
  refine WC.seq ?_
  refine WC.region ?_
  refine WR.step (Ex.assign rfl) (Wn.none rfl) rfl rfl ?_
  refine WR.nil ?_
  refine WQ.then ?_
  refine WC.seq ?_
  obtain ⟨b1, hx2, h⟩ := bnd h
  refine WC.region ?_
  refine WR.step (Ex.move rfl) (Wn.none rfl) rfl rfl ?_
  refine WR.step (Ex.move rfl) (Wn.none rfl) rfl rfl ?_
  refine WR.call H (stringslite_HasSuffix_ct hx2) rfl trivial (Wn.none rfl) rfl ?_
  intro v7 M w H hle hR
  obtain rfl := hR
  refine WR.step (Ex.assign rfl) (Wn.none rfl) rfl rfl ?_
  refine WR.nil ?_
  refine WQ.then ?_
  refine WC.ret ?_
  (repeat (first | refine WQ.thenRet ?_ | refine WQ.inBlockRet ?_ | refine WQ.cutRet ?_ | refine WQ.scRet ?_))
  obtain rfl := Option.some.inj h
  exact WQ.ret1 rfl rfl H.ext rfl
theorem stringslite_TrimSuffix_ct {p0 : List UInt8} {p1 : List UInt8} {r : List UInt8} (h : stringslite_TrimSuffix p0 p1 = some r) : Ct Tryz.prog 69 [S p0, S p1] (fun M => True) (fun v M => v = S r) := by
  refine Ct.of Tryz.func69 (enters Tryz.func69 (by kernel_rfl) rfl) rfl rfl rfl ?_
  intro w0 M0 H hp
  unfold stringslite_TrimSuffix at h
  refine WC.seq ?_
  refine WC.region ?_
  refine WR.step (Ex.assign rfl) (Wn.none rfl) rfl rfl ?_
  refine WR.nil ?_
  refine WQ.then ?_
  refine WC.seq ?_
  refine WC.seq ?_
  obtain ⟨b1, hx2, h⟩ := bnd h
  refine WC.region ?_
  refine WR.step (Ex.move rfl) (Wn.none rfl) rfl rfl ?_
  refine WR.step (Ex.move rfl) (Wn.none rfl) rfl rfl ?_
  refine WR.call H (stringslite_HasSuffix_ct hx2) rfl trivial (Wn.none rfl) rfl ?_
  intro v7 M w H hle hR
  obtain rfl := hR
  refine WR.nil ?_
  refine WQ.then ?_
  refine WC.condB rfl (fun hk3 => ?_) (fun hk3 => ?_)
  ·
   subst hk3
   rw [if_pos rfl] at h
   refine WC.seq ?_
   obtain ⟨n4, hxn4, h⟩ := bnd h
   obtain ⟨s5, hxs5, h⟩ := bnd h
   refine WC.region ?_
   refine WR.step (Ex.move rfl) (Wn.none rfl) rfl rfl ?_
   refine WR.step (Ex.move rfl) (Wn.none rfl) rfl rfl ?_
   refine WR.step (Ex.lenStr Tryz.underlying9 rfl) (Wn.none rfl) rfl rfl ?_
   refine WR.step (Ex.move rfl) (Wn.none rfl) rfl rfl ?_
   refine WR.step (Ex.lenStr Tryz.underlying9 rfl) (Wn.none rfl) rfl rfl ?_
   refine WR.step (Ex.subC rfl rfl hxn4) (Wn.none rfl) rfl rfl ?_
   refine WR.step (Ex.sliceH Tryz.underlying9 rfl rfl hxs5) (Wn.none rfl) rfl rfl ?_
   refine WR.step (Ex.assign rfl) (Wn.none rfl) rfl rfl ?_
   refine WR.nil ?_
   refine WQ.then ?_
   refine WC.ret ?_
   (repeat (first | refine WQ.thenRet ?_ | refine WQ.inBlockRet ?_ | refine WQ.cutRet ?_ | refine WQ.scRet ?_))
   obtain rfl := Option.some.inj h
   exact WQ.ret1 rfl rfl H.ext rfl
  ·
   subst hk3
   rw [if_neg Bool.false_ne_true] at h
   refine WC.skip ?_
   refine WQ.then ?_
   refine WC.seq ?_
   refine WC.region ?_
   refine WR.step (Ex.move rfl) (Wn.none rfl) rfl rfl ?_
   refine WR.step (Ex.assign rfl) (Wn.none rfl) rfl rfl ?_
   refine WR.nil ?_
   refine WQ.then ?_
   refine WC.ret ?_
   (repeat (first | refine WQ.thenRet ?_ | refine WQ.inBlockRet ?_ | refine WQ.cutRet ?_ | refine WQ.scRet ?_))
   obtain rfl := Option.some.inj h
   exact WQ.ret1 rfl rfl H.ext rfl
theorem strings_TrimSuffix_ct {p0 : List UInt8} {p1 : List UInt8} {r : List UInt8} (h : strings_TrimSuffix p0 p1 = some r) : Ct Tryz.prog 55 [S p0, S p1] (fun M => True) (fun v M => v = S r) := by
  refine Ct.of Tryz.func55 (enters Tryz.func55 (by kernel_rfl) rfl) rfl rfl rfl ?_
  intro w0 M0 H hp
  unfold strings_TrimSuffix at h
  refine WC.seq ?_
  refine WC.region ?_
  refine WR.step (Ex.assign rfl) (Wn.none rfl) rfl rfl ?_
  refine WR.nil ?_
  refine WQ.then ?_
  refine WC.seq ?_
  obtain ⟨s1, hx2, h⟩ := bnd h
  refine WC.region ?_
  refine WR.step (Ex.move rfl) (Wn.none rfl) rfl rfl ?_
  refine WR.step (Ex.move rfl) (Wn.none rfl) rfl rfl ?_
  refine WR.call H (stringslite_TrimSuffix_ct hx2) rfl trivial (Wn.none rfl) rfl ?_
  intro v7 M w H hle hR
  obtain rfl := hR
  refine WR.step (Ex.assign rfl) (Wn.none rfl) rfl rfl ?_
  refine WR.nil ?_
  refine WQ.then ?_
  refine WC.ret ?_
  (repeat (first | refine WQ.thenRet ?_ | refine WQ.inBlockRet ?_ | refine WQ.cutRet ?_ | refine WQ.scRet ?_))
  obtain rfl := Option.some.inj h
  exact WQ.ret1 rfl rfl H.ext rfl
theorem slices_Index_string_string_ct {p0 : List (List UInt8)} {p1 : List UInt8} {vp0 : Value} {r : Int} (h : slices_Index_string_string p0 p1 = some r) : Ct Tryz.prog 57 [vp0, S p1] (fun M => Sl M encS vp0 p0) (fun v M => v = I r) := by
  refine Ct.of Tryz.func57 (enters Tryz.func57 (by kernel_rfl) rfl) rfl rfl rfl ?_
  intro w0 M0 H hp
  have hp0 := hp
  unfold slices_Index_string_string at h
  refine WC.seq ?_
  refine WC.region ?_
  refine WR.step (Ex.assign rfl) (Wn.none rfl) rfl rfl ?_
  refine WR.nil ?_
  refine WQ.then ?_
  refine WC.seq ?_
  refine WC.seq ?_
  refine WC.region ?_
  refine WR.step (Ex.move rfl) (Wn.none rfl) rfl rfl ?_
  refine WR.step (Ex.lenSl Tryz.underlying59 hp0 rfl) (Wn.none rfl) rfl rfl ?_
  refine WR.step (Ex.move rfl) (Wn.none rfl) rfl rfl ?_
  refine WR.nil ?_
  refine WQ.then ?_
  obtain ⟨o1, e2, h⟩ := bnd h
  refine WC.cutX (fun e w => ∃  (M : Mem), e = [] ∧ St w0 M0 M [] w ∧ some (.inl ()) = some o1) [] ?_ ?_ (trivial)
  ·
   refine WC.block ?_
   refine WC.loopP (fun m e w => ∃ (n3 : Int) (M : Mem), e = [(0, vp0), (1, S p1), (7, I (p0.length : Int)), (8, I n3)] ∧ St w0 M0 M [] w ∧ Sl M encS vp0 p0 ∧ slices_Index_string_string_L1 p0 p1 m n3 = some o1) FU [(0, _), (1, _), (7, _), (8, _)] ⟨rfl, rfl, rfl, rfl, trivial⟩ ⟨_, _, rfl, H, hp0, e2⟩ ?_
   rintro m4 e w ⟨n3, M, rfl, H, hp0, e2⟩
   rcases m4 with _ | m4
   · rw [slices_Index_string_string_L1] at e2; cases e2
   rw [slices_Index_string_string_L1] at e2
   refine WC.seq ?_
   refine WC.region ?_
   refine WR.step (Ex.lss rfl rfl) (Wn.none rfl) rfl rfl ?_
   refine WR.nil ?_
   refine WQ.then ?_
   refine WC.seq ?_
   refine WC.condB rfl (fun hk5 => ?_) (fun hk5 => ?_)
   ·
    replace hk5 : n3 < (p0.length : Int) := of_decide_eq_true hk5
    rw [if_pos hk5] at e2
    refine WC.skip ?_
    refine WQ.then ?_
    refine WC.seq ?_
    refine WC.block ?_
    refine WC.seq ?_
    refine WC.region ?_
    refine WR.step (Ex.move rfl) (Wn.none rfl) rfl rfl ?_
    refine WR.step (Ex.assign rfl) (Wn.none rfl) rfl rfl ?_
    refine WR.nil ?_
    refine WQ.then ?_
    refine WC.seq ?_
    obtain ⟨a6, hxa6, e2⟩ := bnd e2
    refine WC.region ?_
    refine WR.step (Ex.move rfl) (Wn.none rfl) rfl rfl ?_
    refine WR.step (Ex.move rfl) (Wn.none rfl) rfl rfl ?_
    refine WR.step (Ex.move rfl) (Wn.none rfl) rfl rfl ?_
    refine WR.idxC Tryz.underlying59 Tryz.sizeOf9 (hp0) rfl rfl hxa6 (Wn.none rfl) rfl ?_
    intro p14 hc14
    refine WR.step (Ex.loadM H rfl hc14 Tryz.isAgg9) (Wn.none rfl) rfl rfl ?_
    refine WR.step (Ex.strEql rfl rfl) (Wn.none rfl) rfl rfl ?_
    refine WR.nil ?_
    refine WQ.then ?_
    refine WC.condB rfl (fun hk7 => ?_) (fun hk7 => ?_)
    ·
     replace hk7 : p1 = a6 := of_decide_eq_true hk7
     rw [if_pos hk7] at e2
     refine WC.seq ?_
     refine WC.region ?_
     refine WR.step (Ex.move rfl) (Wn.none rfl) rfl rfl ?_
     refine WR.step (Ex.assign rfl) (Wn.none rfl) rfl rfl ?_
     refine WR.nil ?_
     refine WQ.then ?_
     refine WC.ret ?_
     (repeat (first | refine WQ.thenRet ?_ | refine WQ.inBlockRet ?_ | refine WQ.cutRet ?_ | refine WQ.scRet ?_))
     obtain rfl := Option.some.inj e2
     try dsimp only at h
     obtain rfl := Option.some.inj h
     exact WQ.ret1 rfl rfl H.ext rfl
    ·
     replace hk7 : ¬ (p1 = a6) := of_decide_eq_false hk7
     rw [if_neg hk7] at e2
     refine WC.skip ?_
     refine WQ.inBlock ?_
     refine WQ.then ?_
     obtain ⟨n8, hxn8, e2⟩ := bnd e2
     refine WC.region ?_
     refine WR.step (Ex.addC rfl rfl hxn8) (Wn.none rfl) rfl rfl ?_
     refine WR.step (Ex.move rfl) (Wn.none rfl) rfl rfl ?_
     refine WR.nil ?_
     exact WQ.againP m4 [(0, _), (1, _), (7, _), (8, _)] ⟨rfl, rfl, rfl, rfl, trivial⟩ ⟨_, _, rfl, H, hp0, e2⟩ (Nat.lt_succ_self _)
   ·
    replace hk5 : ¬ (n3 < (p0.length : Int)) := of_decide_eq_false hk5
    rw [if_neg hk5] at e2
    refine WC.exit ?_
    refine WQ.thenExit ?_
    refine WQ.thenExit ?_
    refine WQ.exitHere ?_
    exact WQ.meetN [] trivial ⟨_, rfl, H, e2⟩
  ·
   rintro e w ⟨M, rfl, H, q9⟩
   obtain rfl := Option.some.inj q9
   try dsimp only at h
   refine WQ.then ?_
   refine WC.seq ?_
   refine WC.region ?_
   refine WR.step (Ex.assign rfl) (Wn.none rfl) rfl rfl ?_
   refine WR.nil ?_
   refine WQ.then ?_
   refine WC.ret ?_
   (repeat (first | refine WQ.thenRet ?_ | refine WQ.inBlockRet ?_ | refine WQ.cutRet ?_ | refine WQ.scRet ?_))
   obtain rfl := Option.some.inj h
   exact WQ.ret1 rfl rfl H.ext rfl
theorem slices_Contains_string_string_ct {p0 : List (List UInt8)} {p1 : List UInt8} {vp0 : Value} {r : Bool} (h : slices_Contains_string_string p0 p1 = some r) : Ct Tryz.prog 54 [vp0, S p1] (fun M => Sl M encS vp0 p0) (fun v M => v = Value.bool r) := by
  refine Ct.of Tryz.func54 (enters Tryz.func54 (by kernel_rfl) rfl) rfl rfl rfl ?_
  intro w0 M0 H hp
  have hp0 := hp
  unfold slices_Contains_string_string at h
  refine WC.seq ?_
  refine WC.region ?_
  refine WR.step (Ex.assign rfl) (Wn.none rfl) rfl rfl ?_
  refine WR.nil ?_
  refine WQ.then ?_
  refine WC.seq ?_
  obtain ⟨n1, hx2, h⟩ := bnd h
  refine WC.region ?_
  refine WR.step (Ex.move rfl) (Wn.none rfl) rfl rfl ?_
  refine WR.step (Ex.move rfl) (Wn.none rfl) rfl rfl ?_
  refine WR.call H (slices_Index_string_string_ct hx2) rfl (hp0) (Wn.none rfl) rfl ?_
  intro v7 M w H hle hR
  replace hp0 := hp0.mono hle
  obtain rfl := hR
  refine WR.step (Ex.geq rfl rfl) (Wn.none rfl) rfl rfl ?_
  refine WR.step (Ex.assign rfl) (Wn.none rfl) rfl rfl ?_
  refine WR.nil ?_
  refine WQ.then ?_
  refine WC.ret ?_
  (repeat (first | refine WQ.thenRet ?_ | refine WQ.inBlockRet ?_ | refine WQ.cutRet ?_ | refine WQ.scRet ?_))
  obtain rfl := Option.some.inj h
  exact WQ.ret1 rfl rfl H.ext rfl
theorem basic_Digits_ct {p0 : List UInt8} {r : Bool} (h : basic_Digits p0 = some r) : Ct Tryz.prog 71 [S p0] (fun M => True) (fun v M => v = Value.bool r) := by
  refine Ct.of Tryz.func71 (enters Tryz.func71 (by kernel_rfl) rfl) rfl rfl rfl ?_
  intro w0 M0 H hp
  unfold basic_Digits at h
  refine WC.seq ?_
  refine WC.region ?_
  refine WR.step (Ex.assign rfl) (Wn.none rfl) rfl rfl ?_
  refine WR.nil ?_
  refine WQ.then ?_
  refine WC.seq ?_
  refine WC.seq ?_
  refine WC.region ?_
  refine WR.step (Ex.move rfl) (Wn.none rfl) rfl rfl ?_
  refine WR.step (Ex.lenStr Tryz.underlying9 rfl) (Wn.none rfl) rfl rfl ?_
  refine WR.step (Ex.move rfl) (Wn.none rfl) rfl rfl ?_
  refine WR.nil ?_
  refine WQ.then ?_
  obtain ⟨o1, e2, h⟩ := bnd h
  refine WC.cutX (fun e w => ∃  (M : Mem), e = [(0, S p0)] ∧ St w0 M0 M [] w ∧ some (.inl ()) = some o1) [] ?_ ?_ (trivial)
  ·
   refine WC.block ?_
   refine WC.loopP (fun m e w => ∃ (n3 : Int) (M : Mem), e = [(0, S p0), (5, I (p0.length : Int)), (6, I n3)] ∧ St w0 M0 M [] w ∧ basic_Digits_L1 p0 m n3 = some o1) FU [(0, _), (5, _), (6, _)] ⟨rfl, rfl, rfl, trivial⟩ ⟨_, _, rfl, H, e2⟩ ?_
   rintro m4 e w ⟨n3, M, rfl, H, e2⟩
   rcases m4 with _ | m4
   · rw [basic_Digits_L1] at e2; cases e2
   rw [basic_Digits_L1] at e2
   refine WC.seq ?_
   refine WC.region ?_
   refine WR.step (Ex.lss rfl rfl) (Wn.none rfl) rfl rfl ?_
   refine WR.nil ?_
   refine WQ.then ?_
   refine WC.seq ?_
   refine WC.condB rfl (fun hk5 => ?_) (fun hk5 => ?_)
   ·
    replace hk5 : n3 < (p0.length : Int) := of_decide_eq_true hk5
    rw [if_pos hk5] at e2
    refine WC.skip ?_
    refine WQ.then ?_
    refine WC.seq ?_
    refine WC.block ?_
    refine WC.seq ?_
    refine WC.region ?_
    refine WR.step (Ex.move rfl) (Wn.none rfl) rfl rfl ?_
    refine WR.step (Ex.assign rfl) (Wn.none rfl) rfl rfl ?_
    refine WR.nil ?_
    refine WQ.then ?_
    refine WC.seq ?_
    obtain ⟨o6, e7, e2⟩ := bnd e2
    refine WC.cutX (fun e w => ∃ (b8 : Bool) (M : Mem), e = [(0, S p0), (5, I (p0.length : Int)), (6, I n3), (18, Value.bool b8)] ∧ St w0 M0 M [] w ∧ some b8 = some o6) [] ?_ ?_ (trivial)
    ·
     obtain ⟨c9, hxc9, e7⟩ := bnd e7
     refine WC.region ?_
     refine WR.step (Ex.move rfl) (Wn.none rfl) rfl rfl ?_
     refine WR.step (Ex.move rfl) (Wn.none rfl) rfl rfl ?_
     refine WR.step (Ex.idxStrC Tryz.underlying9 rfl rfl hxc9) (Wn.none rfl) rfl rfl ?_
     by_cases hk10 : c9.toNat < 48
     ·
      rw [if_pos hk10] at e7
      refine WR.stepE (v' := .bool true) (Ex.lssB (i := c9.toNat) (j := 48) rfl rfl) (congrArg Value.bool (decide_eq_true hk10)) (Wn.none rfl) rfl rfl ?_
      refine WR.step (Ex.move rfl) (Wn.none rfl) rfl rfl ?_
      refine WR.skipN 4 rfl rfl ?_
      refine WR.step (Ex.pickT rfl rfl) (Wn.none rfl) rfl rfl ?_
      refine WR.nil ?_
      exact WQ.meetN [(0, _), (5, _), (6, _), (18, _)] ⟨rfl, rfl, rfl, rfl, trivial⟩ ⟨_, _, rfl, H, e7⟩
     ·
      rw [if_neg hk10] at e7
      obtain ⟨c11, hxc11, e7⟩ := bnd e7
      refine WR.stepE (v' := .bool false) (Ex.lssB (i := c9.toNat) (j := 48) rfl rfl) (congrArg Value.bool (decide_eq_false hk10)) (Wn.none rfl) rfl rfl ?_
      refine WR.step (Ex.move rfl) (Wn.none rfl) rfl rfl ?_
      refine WR.step (Ex.move rfl) (Wn.some rfl rfl rfl) rfl rfl ?_
      refine WR.step (Ex.move rfl) (Wn.some rfl rfl rfl) rfl rfl ?_
      refine WR.step (Ex.idxStrC Tryz.underlying9 rfl rfl hxc11) (Wn.some rfl rfl rfl) rfl rfl ?_
      refine WR.step (Ex.gtrB (i := c11.toNat) (j := 57) rfl rfl) (Wn.some rfl rfl rfl) rfl rfl ?_
      refine WR.step (Ex.pickF rfl rfl) (Wn.none rfl) rfl rfl ?_
      refine WR.nil ?_
      exact WQ.meetN [(0, _), (5, _), (6, _), (18, _)] ⟨rfl, rfl, rfl, rfl, trivial⟩ ⟨_, _, rfl, H, e7⟩
    ·
     rintro e w ⟨b8, M, rfl, H, q12⟩
     obtain rfl := Option.some.inj q12
     refine WQ.then ?_
     refine WC.condB rfl (fun hk13 => ?_) (fun hk13 => ?_)
     ·
      subst hk13
      rw [if_pos rfl] at e2
      refine WC.seq ?_
      refine WC.region ?_
      refine WR.step (Ex.assign rfl) (Wn.none rfl) rfl rfl ?_
      refine WR.nil ?_
      refine WQ.then ?_
      refine WC.ret ?_
      (repeat (first | refine WQ.thenRet ?_ | refine WQ.inBlockRet ?_ | refine WQ.cutRet ?_ | refine WQ.scRet ?_))
      obtain rfl := Option.some.inj e2
      try dsimp only at h
      obtain rfl := Option.some.inj h
      exact WQ.ret1 rfl rfl H.ext rfl
     ·
      subst hk13
      rw [if_neg Bool.false_ne_true] at e2
      refine WC.skip ?_
      refine WQ.inBlock ?_
      refine WQ.then ?_
      obtain ⟨n14, hxn14, e2⟩ := bnd e2
      refine WC.region ?_
      refine WR.step (Ex.addC rfl rfl hxn14) (Wn.none rfl) rfl rfl ?_
      refine WR.step (Ex.move rfl) (Wn.none rfl) rfl rfl ?_
      refine WR.nil ?_
      exact WQ.againP m4 [(0, _), (5, _), (6, _)] ⟨rfl, rfl, rfl, trivial⟩ ⟨_, _, rfl, H, e2⟩ (Nat.lt_succ_self _)
   ·
    replace hk5 : ¬ (n3 < (p0.length : Int)) := of_decide_eq_false hk5
    rw [if_neg hk5] at e2
    refine WC.exit ?_
    refine WQ.thenExit ?_
    refine WQ.thenExit ?_
    refine WQ.exitHere ?_
    exact WQ.meetN [(0, _)] ⟨rfl, trivial⟩ ⟨_, rfl, H, e2⟩
  ·
   rintro e w ⟨M, rfl, H, q15⟩
   obtain rfl := Option.some.inj q15
   try dsimp only at h
   refine WQ.then ?_
   refine WC.seq ?_
   refine WC.region ?_
   refine WR.step (Ex.move rfl) (Wn.none rfl) rfl rfl ?_
   refine WR.step (Ex.strNeqC rfl rfl) (Wn.none rfl) rfl rfl ?_
   refine WR.step (Ex.assign rfl) (Wn.none rfl) rfl rfl ?_
   refine WR.nil ?_
   refine WQ.then ?_
   refine WC.ret ?_
   (repeat (first | refine WQ.thenRet ?_ | refine WQ.inBlockRet ?_ | refine WQ.cutRet ?_ | refine WQ.scRet ?_))
   obtain rfl := Option.some.inj h
   exact WQ.ret1 rfl rfl H.ext rfl
theorem dates_number_ct {p0 : List UInt8} {p1 : Int} {r : (Int × Bool)} (h : dates_number p0 p1 = some r) : Ct Tryz.prog 56 [S p0, I p1] (fun M => GlF (fun w => ∃ tp p, w.var? Tryz.prog "strconv.ErrRange" = some #[.iface tp p]) M ∧ GlF (fun w => ∃ tp p, w.var? Tryz.prog "strconv.ErrSyntax" = some #[.iface tp p]) M) (fun v M => v = Value.tuple #[I r.1, Value.bool r.2]) := by
  refine Ct.of Tryz.func56 (enters Tryz.func56 (by kernel_rfl) rfl) rfl rfl rfl ?_
  intro w0 M0 H hp
  obtain ⟨hg_errR, hg_errS⟩ := hp
  unfold dates_number at h
  refine WC.seq ?_
  refine WC.region ?_
  refine WR.step (Ex.assign rfl) (Wn.none rfl) rfl rfl ?_
  refine WR.step (Ex.assign rfl) (Wn.none rfl) rfl rfl ?_
  refine WR.nil ?_
  refine WQ.then ?_
  refine WC.seq ?_
  obtain ⟨⟨n1, b2⟩, hx3, h⟩ := bnd h
  try dsimp only at h
  refine WC.region ?_
  refine WR.step (Ex.move rfl) (Wn.none rfl) rfl rfl ?_
  refine WR.call H (strconv_Atoi_ct hx3) rfl ⟨hg_errR, hg_errS⟩ (Wn.none rfl) rfl ?_
  intro v10 M w H hle hR
  replace hg_errR := hg_errR.mono hle
  replace hg_errS := hg_errS.mono hle
  try dsimp only at hR
  obtain ⟨x10_1, rfl, f10_1⟩ := hR
  refine WR.step (Ex.move rfl) (Wn.none rfl) rfl rfl ?_
  refine WR.step (Ex.extract rfl rfl) (Wn.none rfl) rfl rfl ?_
  refine WR.step (Ex.extract rfl rfl) (Wn.none rfl) rfl rfl ?_
  refine WR.step (Ex.assign rfl) (Wn.none rfl) rfl rfl ?_
  refine WR.step (Ex.assign rfl) (Wn.none rfl) rfl rfl ?_
  refine WR.nil ?_
  refine WQ.then ?_
  refine WC.seq ?_
  obtain ⟨o4, e5, h⟩ := bnd h
  refine WC.cutX (fun e w => ∃ (n6 : Int) (b7 : Bool) (M : Mem), e = [(4, I n6), (5, Value.bool b7)] ∧ St w0 M0 M [] w ∧ GlF (fun w => ∃ tp p, w.var? Tryz.prog "strconv.ErrRange" = some #[.iface tp p]) M ∧ GlF (fun w => ∃ tp p, w.var? Tryz.prog "strconv.ErrSyntax" = some #[.iface tp p]) M ∧ some (n6, b7) = some o4) [] ?_ ?_ (trivial)
  ·
   refine WC.region ?_
   refine WR.step (Ex.move rfl) (Wn.none rfl) rfl rfl ?_
   refine WR.step (Ex.move rfl) (Wn.none rfl) rfl rfl ?_
   refine WR.step (Ex.eqlNil Tryz.underlying75 f10_1 rfl) (Wn.none rfl) rfl rfl ?_
   refine WR.step (Ex.move rfl) (Wn.none rfl) rfl rfl ?_
   rcases b2 with _ | _
   ·
    rw [if_neg Bool.false_ne_true] at e5
    refine WR.skipN 4 rfl rfl ?_
    refine WR.step (Ex.pickF rfl rfl) (Wn.none rfl) rfl rfl ?_
    refine WR.step (Ex.move rfl) (Wn.none rfl) rfl rfl ?_
    refine WR.skipG (b := false) rfl rfl rfl rfl rfl ?_
    refine WR.skipG (b := false) rfl rfl rfl rfl rfl ?_
    refine WR.step (Ex.pickF rfl rfl) (Wn.none rfl) rfl rfl ?_
    refine WR.step (Ex.assign rfl) (Wn.none rfl) rfl rfl ?_
    refine WR.step (Ex.assign rfl) (Wn.none rfl) rfl rfl ?_
    refine WR.nil ?_
    exact WQ.meetN [(4, _), (5, _)] ⟨rfl, rfl, trivial⟩ ⟨_, _, _, rfl, H, hg_errR, hg_errS, e5⟩
   ·
    rw [if_pos rfl] at e5
    refine WR.step (Ex.move rfl) (Wn.some rfl rfl rfl) rfl rfl ?_
    refine WR.step (Ex.lenStr Tryz.underlying9 rfl) (Wn.some rfl rfl rfl) rfl rfl ?_
    refine WR.step (Ex.move rfl) (Wn.some rfl rfl rfl) rfl rfl ?_
    by_cases hk8 : (p0.length : Int) = p1
    ·
     rw [if_pos hk8] at e5
     obtain ⟨b9, hx10, e5⟩ := bnd e5
     refine WR.stepE (v' := .bool true) (Ex.eql rfl rfl) (congrArg Value.bool (decide_eq_true hk8)) (Wn.some rfl rfl rfl) rfl rfl ?_
     refine WR.step (Ex.pickT rfl rfl) (Wn.none rfl) rfl rfl ?_
     refine WR.step (Ex.move rfl) (Wn.none rfl) rfl rfl ?_
     refine WR.step (Ex.move rfl) (Wn.some rfl rfl rfl) rfl rfl ?_
     refine WR.call H (basic_Digits_ct hx10) rfl trivial (Wn.some rfl rfl rfl) rfl ?_
     intro v24 M w H hle hR
     replace hg_errR := hg_errR.mono hle
     replace hg_errS := hg_errS.mono hle
     replace f10_1 := f10_1.mono hle
     obtain rfl := hR
     refine WR.step (Ex.pickT rfl rfl) (Wn.none rfl) rfl rfl ?_
     refine WR.step (Ex.assign rfl) (Wn.none rfl) rfl rfl ?_
     refine WR.step (Ex.assign rfl) (Wn.none rfl) rfl rfl ?_
     refine WR.nil ?_
     exact WQ.meetN [(4, _), (5, _)] ⟨rfl, rfl, trivial⟩ ⟨_, _, _, rfl, H, hg_errR, hg_errS, e5⟩
    ·
     rw [if_neg hk8] at e5
     refine WR.stepE (v' := .bool false) (Ex.eql rfl rfl) (congrArg Value.bool (decide_eq_false hk8)) (Wn.some rfl rfl rfl) rfl rfl ?_
     refine WR.step (Ex.pickT rfl rfl) (Wn.none rfl) rfl rfl ?_
     refine WR.step (Ex.move rfl) (Wn.none rfl) rfl rfl ?_
     refine WR.skipG (b := false) rfl rfl rfl rfl rfl ?_
     refine WR.skipG (b := false) rfl rfl rfl rfl rfl ?_
     refine WR.step (Ex.pickF rfl rfl) (Wn.none rfl) rfl rfl ?_
     refine WR.step (Ex.assign rfl) (Wn.none rfl) rfl rfl ?_
     refine WR.step (Ex.assign rfl) (Wn.none rfl) rfl rfl ?_
     refine WR.nil ?_
     exact WQ.meetN [(4, _), (5, _)] ⟨rfl, rfl, trivial⟩ ⟨_, _, _, rfl, H, hg_errR, hg_errS, e5⟩
  ·
   rintro e w ⟨n6, b7, M, rfl, H, hg_errR, hg_errS, q11⟩
   obtain rfl := Option.some.inj q11
   try dsimp only at h
   refine WQ.then ?_
   refine WC.ret ?_
   (repeat (first | refine WQ.thenRet ?_ | refine WQ.inBlockRet ?_ | refine WQ.cutRet ?_ | refine WQ.scRet ?_))
   obtain rfl := Option.some.inj h
   exact WQ.ret2 rfl rfl rfl H.ext rfl
theorem dates_clock_ct {p0 : List UInt8} {r : (Int × Int × Int × Bool)} (h : dates_clock p0 = some r) : Ct Tryz.prog 58 [S p0] (fun M => GlF (fun w => ∃ tp p, w.var? Tryz.prog "strconv.ErrRange" = some #[.iface tp p]) M ∧ GlF (fun w => ∃ tp p, w.var? Tryz.prog "strconv.ErrSyntax" = some #[.iface tp p]) M ∧ GlF (fun w => ∃ m, w.cell? ⟨0, 0, none⟩ = some (.int .i64 m)) M) (fun v M => v = Value.tuple #[I r.1, I r.2.1, I r.2.2.1, Value.bool r.2.2.2]) := by
  refine Ct.of Tryz.func58 (enters Tryz.func58 (by kernel_rfl) rfl) rfl rfl rfl ?_
  intro w0 M0 H hp
  obtain ⟨hg_errR, hg_errS, hg_maxl⟩ := hp
  unfold dates_clock at h
  refine WC.seq ?_
  refine WC.region ?_
  refine WR.step (Ex.assign rfl) (Wn.none rfl) rfl rfl ?_
  refine WR.step (Ex.assign rfl) (Wn.none rfl) rfl rfl ?_
  refine WR.step (Ex.assign rfl) (Wn.none rfl) rfl rfl ?_
  refine WR.step (Ex.assign rfl) (Wn.none rfl) rfl rfl ?_
  refine WR.nil ?_
  refine WQ.then ?_
  refine WC.seq ?_
  obtain ⟨l1, hx2, h⟩ := bnd h
  refine WC.region ?_
  refine WR.step (Ex.move rfl) (Wn.none rfl) rfl rfl ?_
  refine WR.call H (strings_Split_ct hx2) rfl (hg_maxl) (Wn.none rfl) rfl ?_
  intro v11 M w H hle hR
  replace hg_errR := hg_errR.mono hle
  replace hg_errS := hg_errS.mono hle
  replace hg_maxl := hg_maxl.mono hle
  have f11_0 := hR
  refine WR.step (Ex.assign rfl) (Wn.none rfl) rfl rfl ?_
  refine WR.nil ?_
  refine WQ.then ?_
  refine WC.seq ?_
  refine WC.seq ?_
  obtain ⟨o3, e4, h⟩ := bnd h
  refine WC.cutX (fun e w => ∃ (b5 : Bool) (M : Mem), e = [(4, I 0), (6, v11), (19, Value.bool b5)] ∧ St w0 M0 M [] w ∧ GlF (fun w => ∃ tp p, w.var? Tryz.prog "strconv.ErrRange" = some #[.iface tp p]) M ∧ GlF (fun w => ∃ tp p, w.var? Tryz.prog "strconv.ErrSyntax" = some #[.iface tp p]) M ∧ GlF (fun w => ∃ m, w.cell? ⟨0, 0, none⟩ = some (.int .i64 m)) M ∧ Sl M encS v11 l1 ∧ some b5 = some o3) [] ?_ ?_ (trivial)
  ·
   refine WC.region ?_
   refine WR.step (Ex.move rfl) (Wn.none rfl) rfl rfl ?_
   refine WR.step (Ex.lenSl Tryz.underlying59 f11_0 rfl) (Wn.none rfl) rfl rfl ?_
   by_cases hk6 : (l1.length : Int) < (2 : Int)
   ·
    rw [if_pos hk6] at e4
    refine WR.stepE (v' := .bool true) (Ex.lss rfl rfl) (congrArg Value.bool (decide_eq_true hk6)) (Wn.none rfl) rfl rfl ?_
    refine WR.step (Ex.move rfl) (Wn.none rfl) rfl rfl ?_
    refine WR.skipN 3 rfl rfl ?_
    refine WR.step (Ex.pickT rfl rfl) (Wn.none rfl) rfl rfl ?_
    refine WR.nil ?_
    exact WQ.meetN [(4, _), (6, _), (19, _)] ⟨rfl, rfl, rfl, trivial⟩ ⟨_, _, rfl, H, hg_errR, hg_errS, hg_maxl, f11_0, e4⟩
   ·
    rw [if_neg hk6] at e4
    refine WR.stepE (v' := .bool false) (Ex.lss rfl rfl) (congrArg Value.bool (decide_eq_false hk6)) (Wn.none rfl) rfl rfl ?_
    refine WR.step (Ex.move rfl) (Wn.none rfl) rfl rfl ?_
    refine WR.step (Ex.move rfl) (Wn.some rfl rfl rfl) rfl rfl ?_
    refine WR.step (Ex.lenSl Tryz.underlying59 f11_0 rfl) (Wn.some rfl rfl rfl) rfl rfl ?_
    refine WR.step (Ex.gtr rfl rfl) (Wn.some rfl rfl rfl) rfl rfl ?_
    refine WR.step (Ex.pickF rfl rfl) (Wn.none rfl) rfl rfl ?_
    refine WR.nil ?_
    exact WQ.meetN [(4, _), (6, _), (19, _)] ⟨rfl, rfl, rfl, trivial⟩ ⟨_, _, rfl, H, hg_errR, hg_errS, hg_maxl, f11_0, e4⟩
  ·
   rintro e w ⟨b5, M, rfl, H, hg_errR, hg_errS, hg_maxl, f11_0, q7⟩
   obtain rfl := Option.some.inj q7
   refine WQ.then ?_
   refine WC.condB rfl (fun hk8 => ?_) (fun hk8 => ?_)
   ·
    subst hk8
    rw [if_pos rfl] at h
    refine WC.seq ?_
    refine WC.region ?_
    refine WR.step (Ex.assign rfl) (Wn.none rfl) rfl rfl ?_
    refine WR.step (Ex.assign rfl) (Wn.none rfl) rfl rfl ?_
    refine WR.step (Ex.assign rfl) (Wn.none rfl) rfl rfl ?_
    refine WR.step (Ex.assign rfl) (Wn.none rfl) rfl rfl ?_
    refine WR.nil ?_
    refine WQ.then ?_
    refine WC.ret ?_
    (repeat (first | refine WQ.thenRet ?_ | refine WQ.inBlockRet ?_ | refine WQ.cutRet ?_ | refine WQ.scRet ?_))
    obtain rfl := Option.some.inj h
    exact WQ.ret4 rfl rfl rfl rfl rfl H.ext rfl
   ·
    subst hk8
    rw [if_neg Bool.false_ne_true] at h
    refine WC.skip ?_
    refine WQ.then ?_
    refine WC.seq ?_
    obtain ⟨a9, hxa9, h⟩ := bnd h
    obtain ⟨⟨n10, b11⟩, hx12, h⟩ := bnd h
    try dsimp only at h
    refine WC.region ?_
    refine WR.step (Ex.move rfl) (Wn.none rfl) rfl rfl ?_
    refine WR.idxC Tryz.underlying59 Tryz.sizeOf9 (f11_0) rfl rfl hxa9 (Wn.none rfl) rfl ?_
    intro p22 hc22
    refine WR.step (Ex.loadM H rfl hc22 Tryz.isAgg9) (Wn.none rfl) rfl rfl ?_
    refine WR.call H (dates_number_ct hx12) rfl ⟨hg_errR, hg_errS⟩ (Wn.none rfl) rfl ?_
    intro v24 M w H hle hR
    replace hg_errR := hg_errR.mono hle
    replace hg_errS := hg_errS.mono hle
    replace hg_maxl := hg_maxl.mono hle
    replace f11_0 := f11_0.mono hle
    replace hc22 := hc22.mono hle
    try dsimp only at hR
    obtain rfl := hR
    refine WR.step (Ex.move rfl) (Wn.none rfl) rfl rfl ?_
    refine WR.step (Ex.extract rfl rfl) (Wn.none rfl) rfl rfl ?_
    refine WR.step (Ex.extract rfl rfl) (Wn.none rfl) rfl rfl ?_
    refine WR.step (Ex.assign rfl) (Wn.none rfl) rfl rfl ?_
    refine WR.step (Ex.assign rfl) (Wn.none rfl) rfl rfl ?_
    refine WR.nil ?_
    refine WQ.then ?_
    refine WC.seq ?_
    obtain ⟨a13, hxa13, h⟩ := bnd h
    obtain ⟨⟨n14, b15⟩, hx16, h⟩ := bnd h
    try dsimp only at h
    refine WC.region ?_
    refine WR.step (Ex.move rfl) (Wn.none rfl) rfl rfl ?_
    refine WR.idxC Tryz.underlying59 Tryz.sizeOf9 (f11_0) rfl rfl hxa13 (Wn.none rfl) rfl ?_
    intro p29 hc29
    refine WR.step (Ex.loadM H rfl hc29 Tryz.isAgg9) (Wn.none rfl) rfl rfl ?_
    refine WR.call H (dates_number_ct hx16) rfl ⟨hg_errR, hg_errS⟩ (Wn.none rfl) rfl ?_
    intro v31 M w H hle hR
    replace hg_errR := hg_errR.mono hle
    replace hg_errS := hg_errS.mono hle
    replace hg_maxl := hg_maxl.mono hle
    replace f11_0 := f11_0.mono hle
    replace hc22 := hc22.mono hle
    replace hc29 := hc29.mono hle
    try dsimp only at hR
    obtain rfl := hR
    refine WR.step (Ex.move rfl) (Wn.none rfl) rfl rfl ?_
    refine WR.step (Ex.extract rfl rfl) (Wn.none rfl) rfl rfl ?_
    refine WR.step (Ex.extract rfl rfl) (Wn.none rfl) rfl rfl ?_
    refine WR.step (Ex.assign rfl) (Wn.none rfl) rfl rfl ?_
    refine WR.step (Ex.assign rfl) (Wn.none rfl) rfl rfl ?_
    refine WR.nil ?_
    refine WQ.then ?_
    refine WC.seq ?_
    refine WC.region ?_
    refine WR.step (Ex.assign rfl) (Wn.none rfl) rfl rfl ?_
    refine WR.nil ?_
    refine WQ.then ?_
    refine WC.seq ?_
    refine WC.seq ?_
    refine WC.region ?_
    refine WR.step (Ex.move rfl) (Wn.none rfl) rfl rfl ?_
    refine WR.step (Ex.lenSl Tryz.underlying59 f11_0 rfl) (Wn.none rfl) rfl rfl ?_
    refine WR.step (Ex.eql rfl rfl) (Wn.none rfl) rfl rfl ?_
    refine WR.nil ?_
    refine WQ.then ?_
    obtain ⟨o17, e18, h⟩ := bnd h
    refine WC.cutX (fun e w => ∃ (n19 : Int) (b20 : Bool) (M : Mem), e = [(2, I n10), (3, I n14), (4, I n19), (7, Value.bool b11), (8, Value.bool b15), (9, Value.bool b20)] ∧ St w0 M0 M [] w ∧ GlF (fun w => ∃ tp p, w.var? Tryz.prog "strconv.ErrRange" = some #[.iface tp p]) M ∧ GlF (fun w => ∃ tp p, w.var? Tryz.prog "strconv.ErrSyntax" = some #[.iface tp p]) M ∧ GlF (fun w => ∃ m, w.cell? ⟨0, 0, none⟩ = some (.int .i64 m)) M ∧ some (n19, b20) = some o17) [] ?_ ?_ (trivial)
    ·
     refine WC.condB rfl (fun hk21 => ?_) (fun hk21 => ?_)
     ·
      replace hk21 : (l1.length : Int) = (3 : Int) := of_decide_eq_true hk21
      rw [if_pos hk21] at e18
      obtain ⟨a22, hxa22, e18⟩ := bnd e18
      obtain ⟨⟨n23, b24⟩, hx25, e18⟩ := bnd e18
      try dsimp only at e18
      refine WC.region ?_
      refine WR.step (Ex.move rfl) (Wn.none rfl) rfl rfl ?_
      refine WR.idxC Tryz.underlying59 Tryz.sizeOf9 (f11_0) rfl rfl hxa22 (Wn.none rfl) rfl ?_
      intro p39 hc39
      refine WR.step (Ex.loadM H rfl hc39 Tryz.isAgg9) (Wn.none rfl) rfl rfl ?_
      refine WR.call H (dates_number_ct hx25) rfl ⟨hg_errR, hg_errS⟩ (Wn.none rfl) rfl ?_
      intro v41 M w H hle hR
      replace hg_errR := hg_errR.mono hle
      replace hg_errS := hg_errS.mono hle
      replace hg_maxl := hg_maxl.mono hle
      replace f11_0 := f11_0.mono hle
      replace hc22 := hc22.mono hle
      replace hc29 := hc29.mono hle
      replace hc39 := hc39.mono hle
      try dsimp only at hR
      obtain rfl := hR
      refine WR.step (Ex.move rfl) (Wn.none rfl) rfl rfl ?_
      refine WR.step (Ex.extract rfl rfl) (Wn.none rfl) rfl rfl ?_
      refine WR.step (Ex.extract rfl rfl) (Wn.none rfl) rfl rfl ?_
      refine WR.step (Ex.assign rfl) (Wn.none rfl) rfl rfl ?_
      refine WR.step (Ex.assign rfl) (Wn.none rfl) rfl rfl ?_
      refine WR.nil ?_
      exact WQ.meetN [(2, _), (3, _), (4, _), (7, _), (8, _), (9, _)] ⟨rfl, rfl, rfl, rfl, rfl, rfl, trivial⟩ ⟨_, _, _, rfl, H, hg_errR, hg_errS, hg_maxl, e18⟩
     ·
      replace hk21 : ¬ ((l1.length : Int) = (3 : Int)) := of_decide_eq_false hk21
      rw [if_neg hk21] at e18
      refine WC.skip ?_
      exact WQ.meetN [(2, _), (3, _), (4, _), (7, _), (8, _), (9, _)] ⟨rfl, rfl, rfl, rfl, rfl, rfl, trivial⟩ ⟨_, _, _, rfl, H, hg_errR, hg_errS, hg_maxl, e18⟩
    ·
     rintro e w ⟨n19, b20, M, rfl, H, hg_errR, hg_errS, hg_maxl, q26⟩
     obtain rfl := Option.some.inj q26
     try dsimp only at h
     refine WQ.then ?_
     refine WC.seq ?_
     obtain ⟨o27, e28, h⟩ := bnd h
     refine WC.cutX (fun e w => ∃ (n29 : Int) (n30 : Int) (n31 : Int) (b32 : Bool) (M : Mem), e = [(2, I n29), (3, I n30), (4, I n31), (5, Value.bool b32)] ∧ St w0 M0 M [] w ∧ GlF (fun w => ∃ tp p, w.var? Tryz.prog "strconv.ErrRange" = some #[.iface tp p]) M ∧ GlF (fun w => ∃ tp p, w.var? Tryz.prog "strconv.ErrSyntax" = some #[.iface tp p]) M ∧ GlF (fun w => ∃ m, w.cell? ⟨0, 0, none⟩ = some (.int .i64 m)) M ∧ some (n29, n30, n31, b32) = some o27) [] ?_ ?_ (trivial)
     ·
      refine WC.region ?_
      refine WR.step (Ex.move rfl) (Wn.none rfl) rfl rfl ?_
      refine WR.step (Ex.move rfl) (Wn.none rfl) rfl rfl ?_
      refine WR.step (Ex.move rfl) (Wn.none rfl) rfl rfl ?_
      refine WR.step (Ex.move rfl) (Wn.none rfl) rfl rfl ?_
      refine WR.step (Ex.move rfl) (Wn.none rfl) rfl rfl ?_
      rcases b11 with _ | _
      ·
       rw [if_neg Bool.false_ne_true] at e28
       refine WR.skipG (b := false) rfl rfl rfl rfl rfl ?_
       refine WR.step (Ex.pickF rfl rfl) (Wn.none rfl) rfl rfl ?_
       refine WR.step (Ex.move rfl) (Wn.none rfl) rfl rfl ?_
       refine WR.skipG (b := false) rfl rfl rfl rfl rfl ?_
       refine WR.step (Ex.pickF rfl rfl) (Wn.none rfl) rfl rfl ?_
       refine WR.step (Ex.assign rfl) (Wn.none rfl) rfl rfl ?_
       refine WR.step (Ex.assign rfl) (Wn.none rfl) rfl rfl ?_
       refine WR.step (Ex.assign rfl) (Wn.none rfl) rfl rfl ?_
       refine WR.step (Ex.assign rfl) (Wn.none rfl) rfl rfl ?_
       refine WR.nil ?_
       exact WQ.meetN [(2, _), (3, _), (4, _), (5, _)] ⟨rfl, rfl, rfl, rfl, trivial⟩ ⟨_, _, _, _, _, rfl, H, hg_errR, hg_errS, hg_maxl, e28⟩
      ·
       rw [if_pos rfl] at e28
       refine WR.step (Ex.move rfl) (Wn.some rfl rfl rfl) rfl rfl ?_
       refine WR.step (Ex.pickT rfl rfl) (Wn.none rfl) rfl rfl ?_
       refine WR.step (Ex.move rfl) (Wn.none rfl) rfl rfl ?_
       rcases b15 with _ | _
       ·
        rw [if_neg Bool.false_ne_true] at e28
        refine WR.skipG (b := false) rfl rfl rfl rfl rfl ?_
        refine WR.step (Ex.pickF rfl rfl) (Wn.none rfl) rfl rfl ?_
        refine WR.step (Ex.assign rfl) (Wn.none rfl) rfl rfl ?_
        refine WR.step (Ex.assign rfl) (Wn.none rfl) rfl rfl ?_
        refine WR.step (Ex.assign rfl) (Wn.none rfl) rfl rfl ?_
        refine WR.step (Ex.assign rfl) (Wn.none rfl) rfl rfl ?_
        refine WR.nil ?_
        exact WQ.meetN [(2, _), (3, _), (4, _), (5, _)] ⟨rfl, rfl, rfl, rfl, trivial⟩ ⟨_, _, _, _, _, rfl, H, hg_errR, hg_errS, hg_maxl, e28⟩
       ·
        rw [if_pos rfl] at e28
        refine WR.step (Ex.move rfl) (Wn.some rfl rfl rfl) rfl rfl ?_
        refine WR.step (Ex.pickT rfl rfl) (Wn.none rfl) rfl rfl ?_
        refine WR.step (Ex.assign rfl) (Wn.none rfl) rfl rfl ?_
        refine WR.step (Ex.assign rfl) (Wn.none rfl) rfl rfl ?_
        refine WR.step (Ex.assign rfl) (Wn.none rfl) rfl rfl ?_
        refine WR.step (Ex.assign rfl) (Wn.none rfl) rfl rfl ?_
        refine WR.nil ?_
        exact WQ.meetN [(2, _), (3, _), (4, _), (5, _)] ⟨rfl, rfl, rfl, rfl, trivial⟩ ⟨_, _, _, _, _, rfl, H, hg_errR, hg_errS, hg_maxl, e28⟩
     ·
      rintro e w ⟨n29, n30, n31, b32, M, rfl, H, hg_errR, hg_errS, hg_maxl, q33⟩
      obtain rfl := Option.some.inj q33
      try dsimp only at h
      refine WQ.then ?_
      refine WC.ret ?_
      (repeat (first | refine WQ.thenRet ?_ | refine WQ.inBlockRet ?_ | refine WQ.cutRet ?_ | refine WQ.scRet ?_))
      obtain rfl := Option.some.inj h
      exact WQ.ret4 rfl rfl rfl rfl rfl H.ext rfl
theorem dates_zone_ct {p0 : List UInt8} {r : (Int × Bool)} (h : dates_zone p0 = some r) : Ct Tryz.prog 59 [S p0] (fun M => GlF (fun w => ∃ tp p, w.var? Tryz.prog "strconv.ErrRange" = some #[.iface tp p]) M ∧ GlF (fun w => ∃ tp p, w.var? Tryz.prog "strconv.ErrSyntax" = some #[.iface tp p]) M) (fun v M => v = Value.tuple #[I r.1, Value.bool r.2]) := by
  refine Ct.of Tryz.func59 (enters Tryz.func59 (by kernel_rfl) rfl) rfl rfl rfl ?_
  intro w0 M0 H hp
  obtain ⟨hg_errR, hg_errS⟩ := hp
  unfold dates_zone at h
  refine WC.seq ?_
  refine WC.region ?_
  refine WR.step (Ex.assign rfl) (Wn.none rfl) rfl rfl ?_
  refine WR.step (Ex.assign rfl) (Wn.none rfl) rfl rfl ?_
  refine WR.nil ?_
  refine WQ.then ?_
  refine WC.seq ?_
  refine WC.seq ?_
  obtain ⟨o1, e2, h⟩ := bnd h
  refine WC.cutX (fun e w => ∃ (b3 : Bool) (M : Mem), e = [(0, S p0), (18, Value.bool b3)] ∧ St w0 M0 M [] w ∧ GlF (fun w => ∃ tp p, w.var? Tryz.prog "strconv.ErrRange" = some #[.iface tp p]) M ∧ GlF (fun w => ∃ tp p, w.var? Tryz.prog "strconv.ErrSyntax" = some #[.iface tp p]) M ∧ some b3 = some o1) [] ?_ ?_ (trivial)
  ·
   by_cases hk4 : p0 = [71, 77, 84]
   ·
    rw [if_pos hk4] at e2
    refine WC.region ?_
    refine WR.step (Ex.move rfl) (Wn.none rfl) rfl rfl ?_
    refine WR.stepE (v' := .bool true) (Ex.strEql rfl rfl) (congrArg Value.bool (decide_eq_true hk4)) (Wn.none rfl) rfl rfl ?_
    refine WR.step (Ex.move rfl) (Wn.none rfl) rfl rfl ?_
    refine WR.skipG (b := true) rfl rfl rfl rfl rfl ?_
    refine WR.skipG (b := true) rfl rfl rfl rfl rfl ?_
    refine WR.step (Ex.pickT rfl rfl) (Wn.none rfl) rfl rfl ?_
    refine WR.step (Ex.move rfl) (Wn.none rfl) rfl rfl ?_
    refine WR.skipG (b := true) rfl rfl rfl rfl rfl ?_
    refine WR.skipG (b := true) rfl rfl rfl rfl rfl ?_
    refine WR.step (Ex.pickT rfl rfl) (Wn.none rfl) rfl rfl ?_
    refine WR.nil ?_
    exact WQ.meetN [(0, _), (18, _)] ⟨rfl, rfl, trivial⟩ ⟨_, _, rfl, H, hg_errR, hg_errS, e2⟩
   ·
    rw [if_neg hk4] at e2
    refine WC.region ?_
    refine WR.step (Ex.move rfl) (Wn.none rfl) rfl rfl ?_
    refine WR.stepE (v' := .bool false) (Ex.strEql rfl rfl) (congrArg Value.bool (decide_eq_false hk4)) (Wn.none rfl) rfl rfl ?_
    by_cases hk5 : p0 = [85, 84]
    ·
     rw [if_pos hk5] at e2
     refine WR.step (Ex.move rfl) (Wn.none rfl) rfl rfl ?_
     refine WR.step (Ex.move rfl) (Wn.some rfl rfl rfl) rfl rfl ?_
     refine WR.stepE (v' := .bool true) (Ex.strEql rfl rfl) (congrArg Value.bool (decide_eq_true hk5)) (Wn.some rfl rfl rfl) rfl rfl ?_
     refine WR.step (Ex.pickF rfl rfl) (Wn.none rfl) rfl rfl ?_
     refine WR.step (Ex.move rfl) (Wn.none rfl) rfl rfl ?_
     refine WR.skipG (b := true) rfl rfl rfl rfl rfl ?_
     refine WR.skipG (b := true) rfl rfl rfl rfl rfl ?_
     refine WR.step (Ex.pickT rfl rfl) (Wn.none rfl) rfl rfl ?_
     refine WR.nil ?_
     exact WQ.meetN [(0, _), (18, _)] ⟨rfl, rfl, trivial⟩ ⟨_, _, rfl, H, hg_errR, hg_errS, e2⟩
    ·
     rw [if_neg hk5] at e2
     refine WR.step (Ex.move rfl) (Wn.none rfl) rfl rfl ?_
     refine WR.step (Ex.move rfl) (Wn.some rfl rfl rfl) rfl rfl ?_
     refine WR.stepE (v' := .bool false) (Ex.strEql rfl rfl) (congrArg Value.bool (decide_eq_false hk5)) (Wn.some rfl rfl rfl) rfl rfl ?_
     refine WR.step (Ex.pickF rfl rfl) (Wn.none rfl) rfl rfl ?_
     refine WR.step (Ex.move rfl) (Wn.none rfl) rfl rfl ?_
     refine WR.step (Ex.move rfl) (Wn.some rfl rfl rfl) rfl rfl ?_
     refine WR.step (Ex.strEql rfl rfl) (Wn.some rfl rfl rfl) rfl rfl ?_
     refine WR.step (Ex.pickF rfl rfl) (Wn.none rfl) rfl rfl ?_
     refine WR.nil ?_
     exact WQ.meetN [(0, _), (18, _)] ⟨rfl, rfl, trivial⟩ ⟨_, _, rfl, H, hg_errR, hg_errS, e2⟩
  ·
   rintro e w ⟨b3, M, rfl, H, hg_errR, hg_errS, q6⟩
   obtain rfl := Option.some.inj q6
   refine WQ.then ?_
   refine WC.condB rfl (fun hk7 => ?_) (fun hk7 => ?_)
   ·
    subst hk7
    rw [if_pos rfl] at h
    refine WC.seq ?_
    refine WC.region ?_
    refine WR.step (Ex.assign rfl) (Wn.none rfl) rfl rfl ?_
    refine WR.step (Ex.assign rfl) (Wn.none rfl) rfl rfl ?_
    refine WR.nil ?_
    refine WQ.then ?_
    refine WC.ret ?_
    (repeat (first | refine WQ.thenRet ?_ | refine WQ.inBlockRet ?_ | refine WQ.cutRet ?_ | refine WQ.scRet ?_))
    obtain rfl := Option.some.inj h
    exact WQ.ret2 rfl rfl rfl H.ext rfl
   ·
    subst hk7
    rw [if_neg Bool.false_ne_true] at h
    refine WC.skip ?_
    refine WQ.then ?_
    refine WC.seq ?_
    refine WC.seq ?_
    obtain ⟨o8, e9, h⟩ := bnd h
    refine WC.cutX (fun e w => ∃ (b10 : Bool) (M : Mem), e = [(0, S p0), (31, Value.bool b10)] ∧ St w0 M0 M [] w ∧ GlF (fun w => ∃ tp p, w.var? Tryz.prog "strconv.ErrRange" = some #[.iface tp p]) M ∧ GlF (fun w => ∃ tp p, w.var? Tryz.prog "strconv.ErrSyntax" = some #[.iface tp p]) M ∧ some b10 = some o8) [] ?_ ?_ (trivial)
    ·
     refine WC.region ?_
     refine WR.step (Ex.move rfl) (Wn.none rfl) rfl rfl ?_
     refine WR.step (Ex.lenStr Tryz.underlying9 rfl) (Wn.none rfl) rfl rfl ?_
     by_cases hk11 : (p0.length : Int) = (5 : Int)
     ·
      rw [if_pos hk11] at e9
      obtain ⟨c12, hxc12, e9⟩ := bnd e9
      by_cases hk13 : c12 = 43
      ·
       rw [if_pos hk13] at e9
       refine WR.stepE (v' := .bool false) (Ex.neqC rfl rfl) (congrArg Value.bool (by rw [decide_eq_true hk11]; rfl)) (Wn.none rfl) rfl rfl ?_
       refine WR.step (Ex.move rfl) (Wn.none rfl) rfl rfl ?_
       refine WR.step (Ex.move rfl) (Wn.some rfl rfl rfl) rfl rfl ?_
       refine WR.step (Ex.idxStrC Tryz.underlying9 rfl rfl hxc12) (Wn.some rfl rfl rfl) rfl rfl ?_
       refine WR.stepE (v' := .bool false) (Ex.neqB (c := c12) (d := 43) rfl rfl) (congrArg Value.bool (by rw [decide_eq_true hk13]; rfl)) (Wn.some rfl rfl rfl) rfl rfl ?_
       refine WR.step (Ex.move rfl) (Wn.some rfl rfl rfl) rfl rfl ?_
       refine WR.skipN 3 rfl rfl ?_
       refine WR.step (Ex.pickF rfl rfl) (Wn.some rfl rfl rfl) rfl rfl ?_
       refine WR.step (Ex.pickF rfl rfl) (Wn.none rfl) rfl rfl ?_
       refine WR.nil ?_
       exact WQ.meetN [(0, _), (31, _)] ⟨rfl, rfl, trivial⟩ ⟨_, _, rfl, H, hg_errR, hg_errS, e9⟩
      ·
       rw [if_neg hk13] at e9
       obtain ⟨c14, hxc14, e9⟩ := bnd e9
       refine WR.stepE (v' := .bool false) (Ex.neqC rfl rfl) (congrArg Value.bool (by rw [decide_eq_true hk11]; rfl)) (Wn.none rfl) rfl rfl ?_
       refine WR.step (Ex.move rfl) (Wn.none rfl) rfl rfl ?_
       refine WR.step (Ex.move rfl) (Wn.some rfl rfl rfl) rfl rfl ?_
       refine WR.step (Ex.idxStrC Tryz.underlying9 rfl rfl hxc12) (Wn.some rfl rfl rfl) rfl rfl ?_
       refine WR.stepE (v' := .bool true) (Ex.neqB (c := c12) (d := 43) rfl rfl) (congrArg Value.bool (by rw [decide_eq_false hk13]; rfl)) (Wn.some rfl rfl rfl) rfl rfl ?_
       refine WR.step (Ex.move rfl) (Wn.some rfl rfl rfl) rfl rfl ?_
       refine WR.step (Ex.move rfl) (Wn.some rfl rfl rfl) rfl rfl ?_
       refine WR.step (Ex.idxStrC Tryz.underlying9 rfl rfl hxc14) (Wn.some rfl rfl rfl) rfl rfl ?_
       refine WR.step (Ex.neqB (c := c14) (d := 45) rfl rfl) (Wn.some rfl rfl rfl) rfl rfl ?_
       refine WR.step (Ex.pickT rfl rfl) (Wn.some rfl rfl rfl) rfl rfl ?_
       refine WR.step (Ex.pickF rfl rfl) (Wn.none rfl) rfl rfl ?_
       refine WR.nil ?_
       exact WQ.meetN [(0, _), (31, _)] ⟨rfl, rfl, trivial⟩ ⟨_, _, rfl, H, hg_errR, hg_errS, e9⟩
     ·
      rw [if_neg hk11] at e9
      refine WR.stepE (v' := .bool true) (Ex.neqC rfl rfl) (congrArg Value.bool (by rw [decide_eq_false hk11]; rfl)) (Wn.none rfl) rfl rfl ?_
      refine WR.step (Ex.move rfl) (Wn.none rfl) rfl rfl ?_
      refine WR.skipN 8 rfl rfl ?_
      refine WR.step (Ex.pickT rfl rfl) (Wn.none rfl) rfl rfl ?_
      refine WR.nil ?_
      exact WQ.meetN [(0, _), (31, _)] ⟨rfl, rfl, trivial⟩ ⟨_, _, rfl, H, hg_errR, hg_errS, e9⟩
    ·
     rintro e w ⟨b10, M, rfl, H, hg_errR, hg_errS, q15⟩
     obtain rfl := Option.some.inj q15
     refine WQ.then ?_
     refine WC.condB rfl (fun hk16 => ?_) (fun hk16 => ?_)
     ·
      subst hk16
      rw [if_pos rfl] at h
      refine WC.seq ?_
      refine WC.region ?_
      refine WR.step (Ex.assign rfl) (Wn.none rfl) rfl rfl ?_
      refine WR.step (Ex.assign rfl) (Wn.none rfl) rfl rfl ?_
      refine WR.nil ?_
      refine WQ.then ?_
      refine WC.ret ?_
      (repeat (first | refine WQ.thenRet ?_ | refine WQ.inBlockRet ?_ | refine WQ.cutRet ?_ | refine WQ.scRet ?_))
      obtain rfl := Option.some.inj h
      exact WQ.ret2 rfl rfl rfl H.ext rfl
     ·
      subst hk16
      rw [if_neg Bool.false_ne_true] at h
      refine WC.skip ?_
      refine WQ.then ?_
      refine WC.seq ?_
      obtain ⟨s17, hxs17, h⟩ := bnd h
      obtain ⟨⟨n18, b19⟩, hx20, h⟩ := bnd h
      try dsimp only at h
      refine WC.region ?_
      refine WR.step (Ex.move rfl) (Wn.none rfl) rfl rfl ?_
      refine WR.step (Ex.sliceC Tryz.underlying9 rfl rfl rfl hxs17) (Wn.none rfl) rfl rfl ?_
      refine WR.call H (dates_number_ct hx20) rfl ⟨hg_errR, hg_errS⟩ (Wn.none rfl) rfl ?_
      intro v35 M w H hle hR
      replace hg_errR := hg_errR.mono hle
      replace hg_errS := hg_errS.mono hle
      try dsimp only at hR
      obtain rfl := hR
      refine WR.step (Ex.move rfl) (Wn.none rfl) rfl rfl ?_
      refine WR.step (Ex.extract rfl rfl) (Wn.none rfl) rfl rfl ?_
      refine WR.step (Ex.extract rfl rfl) (Wn.none rfl) rfl rfl ?_
      refine WR.step (Ex.assign rfl) (Wn.none rfl) rfl rfl ?_
      refine WR.step (Ex.assign rfl) (Wn.none rfl) rfl rfl ?_
      refine WR.nil ?_
      refine WQ.then ?_
      refine WC.seq ?_
      obtain ⟨s21, hxs21, h⟩ := bnd h
      obtain ⟨⟨n22, b23⟩, hx24, h⟩ := bnd h
      try dsimp only at h
      refine WC.region ?_
      refine WR.step (Ex.move rfl) (Wn.none rfl) rfl rfl ?_
      refine WR.step (Ex.sliceL Tryz.underlying9 rfl rfl hxs21) (Wn.none rfl) rfl rfl ?_
      refine WR.call H (dates_number_ct hx24) rfl ⟨hg_errR, hg_errS⟩ (Wn.none rfl) rfl ?_
      intro v41 M w H hle hR
      replace hg_errR := hg_errR.mono hle
      replace hg_errS := hg_errS.mono hle
      try dsimp only at hR
      obtain rfl := hR
      refine WR.step (Ex.move rfl) (Wn.none rfl) rfl rfl ?_
      refine WR.step (Ex.extract rfl rfl) (Wn.none rfl) rfl rfl ?_
      refine WR.step (Ex.extract rfl rfl) (Wn.none rfl) rfl rfl ?_
      refine WR.step (Ex.assign rfl) (Wn.none rfl) rfl rfl ?_
      refine WR.step (Ex.assign rfl) (Wn.none rfl) rfl rfl ?_
      refine WR.nil ?_
      refine WQ.then ?_
      refine WC.seq ?_
      obtain ⟨n25, hxn25, h⟩ := bnd h
      obtain ⟨n26, hxn26, h⟩ := bnd h
      refine WC.region ?_
      refine WR.step (Ex.move rfl) (Wn.none rfl) rfl rfl ?_
      refine WR.step (Ex.mulC rfl rfl hxn25) (Wn.none rfl) rfl rfl ?_
      refine WR.step (Ex.move rfl) (Wn.none rfl) rfl rfl ?_
      refine WR.step (Ex.addC rfl rfl hxn26) (Wn.none rfl) rfl rfl ?_
      refine WR.step (Ex.assign rfl) (Wn.none rfl) rfl rfl ?_
      refine WR.nil ?_
      refine WQ.then ?_
      refine WC.seq ?_
      refine WC.seq ?_
      obtain ⟨c27, hxc27, h⟩ := bnd h
      refine WC.region ?_
      refine WR.step (Ex.move rfl) (Wn.none rfl) rfl rfl ?_
      refine WR.step (Ex.idxStrC Tryz.underlying9 rfl rfl hxc27) (Wn.none rfl) rfl rfl ?_
      refine WR.step (Ex.eqlB (c := c27) (d := 45) rfl rfl) (Wn.none rfl) rfl rfl ?_
      refine WR.nil ?_
      refine WQ.then ?_
      obtain ⟨o28, e29, h⟩ := bnd h
      refine WC.cutX (fun e w => ∃ (n30 : Int) (M : Mem), e = [(5, Value.bool b19), (6, I n22), (7, Value.bool b23), (8, I n30)] ∧ St w0 M0 M [] w ∧ GlF (fun w => ∃ tp p, w.var? Tryz.prog "strconv.ErrRange" = some #[.iface tp p]) M ∧ GlF (fun w => ∃ tp p, w.var? Tryz.prog "strconv.ErrSyntax" = some #[.iface tp p]) M ∧ some n30 = some o28) [] ?_ ?_ (trivial)
      ·
       refine WC.condB rfl (fun hk31 => ?_) (fun hk31 => ?_)
       ·
        replace hk31 : c27 = 45 := of_decide_eq_true hk31
        rw [if_pos hk31] at e29
        obtain ⟨n32, hxn32, e29⟩ := bnd e29
        refine WC.region ?_
        refine WR.step (Ex.move rfl) (Wn.none rfl) rfl rfl ?_
        refine WR.step (Ex.negC rfl hxn32) (Wn.none rfl) rfl rfl ?_
        refine WR.step (Ex.assign rfl) (Wn.none rfl) rfl rfl ?_
        refine WR.nil ?_
        exact WQ.meetN [(5, _), (6, _), (7, _), (8, _)] ⟨rfl, rfl, rfl, rfl, trivial⟩ ⟨_, _, rfl, H, hg_errR, hg_errS, e29⟩
       ·
        replace hk31 : ¬ (c27 = 45) := of_decide_eq_false hk31
        rw [if_neg hk31] at e29
        refine WC.skip ?_
        exact WQ.meetN [(5, _), (6, _), (7, _), (8, _)] ⟨rfl, rfl, rfl, rfl, trivial⟩ ⟨_, _, rfl, H, hg_errR, hg_errS, e29⟩
      ·
       rintro e w ⟨n30, M, rfl, H, hg_errR, hg_errS, q33⟩
       obtain rfl := Option.some.inj q33
       refine WQ.then ?_
       refine WC.seq ?_
       obtain ⟨o34, e35, h⟩ := bnd h
       refine WC.cutX (fun e w => ∃ (n36 : Int) (b37 : Bool) (M : Mem), e = [(2, I n36), (3, Value.bool b37)] ∧ St w0 M0 M [] w ∧ GlF (fun w => ∃ tp p, w.var? Tryz.prog "strconv.ErrRange" = some #[.iface tp p]) M ∧ GlF (fun w => ∃ tp p, w.var? Tryz.prog "strconv.ErrSyntax" = some #[.iface tp p]) M ∧ some (n36, b37) = some o34) [] ?_ ?_ (trivial)
       ·
        refine WC.region ?_
        refine WR.step (Ex.move rfl) (Wn.none rfl) rfl rfl ?_
        refine WR.step (Ex.move rfl) (Wn.none rfl) rfl rfl ?_
        refine WR.step (Ex.move rfl) (Wn.none rfl) rfl rfl ?_
        rcases b19 with _ | _
        ·
         rw [if_neg Bool.false_ne_true] at e35
         refine WR.skipG (b := false) rfl rfl rfl rfl rfl ?_
         refine WR.step (Ex.pickF rfl rfl) (Wn.none rfl) rfl rfl ?_
         refine WR.step (Ex.move rfl) (Wn.none rfl) rfl rfl ?_
         refine WR.skipG (b := false) rfl rfl rfl rfl rfl ?_
         refine WR.skipG (b := false) rfl rfl rfl rfl rfl ?_
         refine WR.step (Ex.pickF rfl rfl) (Wn.none rfl) rfl rfl ?_
         refine WR.step (Ex.assign rfl) (Wn.none rfl) rfl rfl ?_
         refine WR.step (Ex.assign rfl) (Wn.none rfl) rfl rfl ?_
         refine WR.nil ?_
         exact WQ.meetN [(2, _), (3, _)] ⟨rfl, rfl, trivial⟩ ⟨_, _, _, rfl, H, hg_errR, hg_errS, e35⟩
        ·
         rw [if_pos rfl] at e35
         refine WR.step (Ex.move rfl) (Wn.some rfl rfl rfl) rfl rfl ?_
         refine WR.step (Ex.pickT rfl rfl) (Wn.none rfl) rfl rfl ?_
         refine WR.step (Ex.move rfl) (Wn.none rfl) rfl rfl ?_
         rcases b23 with _ | _
         ·
          rw [if_neg Bool.false_ne_true] at e35
          refine WR.skipG (b := false) rfl rfl rfl rfl rfl ?_
          refine WR.skipG (b := false) rfl rfl rfl rfl rfl ?_
          refine WR.step (Ex.pickF rfl rfl) (Wn.none rfl) rfl rfl ?_
          refine WR.step (Ex.assign rfl) (Wn.none rfl) rfl rfl ?_
          refine WR.step (Ex.assign rfl) (Wn.none rfl) rfl rfl ?_
          refine WR.nil ?_
          exact WQ.meetN [(2, _), (3, _)] ⟨rfl, rfl, trivial⟩ ⟨_, _, _, rfl, H, hg_errR, hg_errS, e35⟩
         ·
          rw [if_pos rfl] at e35
          refine WR.step (Ex.move rfl) (Wn.some rfl rfl rfl) rfl rfl ?_
          refine WR.step (Ex.lss rfl rfl) (Wn.some rfl rfl rfl) rfl rfl ?_
          refine WR.step (Ex.pickT rfl rfl) (Wn.none rfl) rfl rfl ?_
          refine WR.step (Ex.assign rfl) (Wn.none rfl) rfl rfl ?_
          refine WR.step (Ex.assign rfl) (Wn.none rfl) rfl rfl ?_
          refine WR.nil ?_
          exact WQ.meetN [(2, _), (3, _)] ⟨rfl, rfl, trivial⟩ ⟨_, _, _, rfl, H, hg_errR, hg_errS, e35⟩
       ·
        rintro e w ⟨n36, b37, M, rfl, H, hg_errR, hg_errS, q38⟩
        obtain rfl := Option.some.inj q38
        try dsimp only at h
        refine WQ.then ?_
        refine WC.ret ?_
        (repeat (first | refine WQ.thenRet ?_ | refine WQ.inBlockRet ?_ | refine WQ.cutRet ?_ | refine WQ.scRet ?_))
        obtain rfl := Option.some.inj h
        exact WQ.ret2 rfl rfl rfl H.ext rfl
set_option maxHeartbeats 4000000 in
theorem dates_read_ct {p0 : List (List UInt8)} {vp0 : Value} {r : ((Int × Int × Int × Int × Int × Int × Int) × Bool)} (h : dates_read p0 = some r) : Ct Tryz.prog 39 [vp0] (fun M => GlF (fun w => ∃ tp p, w.var? Tryz.prog "strconv.ErrRange" = some #[.iface tp p]) M ∧ GlF (fun w => ∃ tp p, w.var? Tryz.prog "strconv.ErrSyntax" = some #[.iface tp p]) M ∧ GlF (fun w => ∃ m, w.cell? ⟨0, 0, none⟩ = some (.int .i64 m)) M ∧ Sl M encS vp0 p0) (fun v M => v = Value.tuple #[Value.agg #[I r.1.1, I r.1.2.1, I r.1.2.2.1, I r.1.2.2.2.1, I r.1.2.2.2.2.1, I r.1.2.2.2.2.2.1, I r.1.2.2.2.2.2.2], Value.bool r.2]) := by
  refine Ct.of Tryz.func39 (enters Tryz.func39 (by kernel_rfl) rfl) rfl rfl rfl ?_
  intro w0 M0 H hp
  obtain ⟨hg_errR, hg_errS, hg_maxl, hp0⟩ := hp
  unfold dates_read at h
  refine WC.seq ?_
  refine WC.region ?_
  refine WR.alloc [_, _, _, _, _, _, _] H Tryz.zeroValue23 rfl (Wn.none rfl) rfl ?_
  intro b2 w H
  refine WR.step (Ex.assign rfl) (Wn.none rfl) rfl rfl ?_
  refine WR.nil ?_
  refine WQ.then ?_
  refine WC.seq ?_
  obtain ⟨n1, hx2, h⟩ := bnd h
  obtain ⟨l3, hxl3, h⟩ := bnd h
  obtain ⟨l4, hxl4, h⟩ := bnd h
  refine WC.region ?_
  refine WR.call H (dates_weekdays_ct hx2) rfl trivial (Wn.none rfl) rfl ?_
  intro v8 M w H hle hR
  replace hg_errR := hg_errR.mono hle
  replace hg_errS := hg_errS.mono hle
  replace hg_maxl := hg_maxl.mono hle
  replace hp0 := hp0.mono hle
  obtain rfl := hR
  refine WR.alloc (List.map encS (List.replicate 7 [] : List (List UInt8))) H Tryz.zeroValue55 (by kernel_rfl) (Wn.none rfl) rfl ?_
  intro b4 w H
  refine WR.storeA (l2 := n1) H rfl rfl (fun _ => rfl) (fun _ => by repeat (first | exact Upd.head | apply Upd.tail)) hxl3 hxl4 Tryz.sizeOf55 (Wn.none rfl) ?_
  intro w H
  refine WR.nil ?_
  refine WQ.then ?_
  refine WC.seq ?_
  refine WC.seq ?_
  obtain ⟨o5, e6, h⟩ := bnd h
  refine WC.cutX (fun e w => ∃ (b7 : Bool) (M : Mem), e = [(0, vp0), (2, ptr b2 0), (4, ptr b4 0), (17, Value.bool b7)] ∧ St w0 M0 M [.blk b2 (.cells #[I 0, I 0, I 0, I 0, I 0, I 0, I 0] 23), .blk b4 (.cells (List.map encS n1).toArray 55)] w ∧ GlF (fun w => ∃ tp p, w.var? Tryz.prog "strconv.ErrRange" = some #[.iface tp p]) M ∧ GlF (fun w => ∃ tp p, w.var? Tryz.prog "strconv.ErrSyntax" = some #[.iface tp p]) M ∧ GlF (fun w => ∃ m, w.cell? ⟨0, 0, none⟩ = some (.int .i64 m)) M ∧ Sl M encS vp0 p0 ∧ some b7 = some o5) [] ?_ ?_ (trivial)
  ·
   refine WC.region ?_
   refine WR.step (Ex.move rfl) (Wn.none rfl) rfl rfl ?_
   refine WR.step (Ex.lenSl Tryz.underlying59 hp0 rfl) (Wn.none rfl) rfl rfl ?_
   by_cases hk8 : (0 : Int) < (p0.length : Int)
   ·
    rw [if_pos hk8] at e6
    obtain ⟨a9, hxa9, e6⟩ := bnd e6
    obtain ⟨b10, hx11, e6⟩ := bnd e6
    refine WR.stepE (v' := .bool true) (Ex.gtr rfl rfl) (congrArg Value.bool (decide_eq_true hk8)) (Wn.none rfl) rfl rfl ?_
    refine WR.step (Ex.move rfl) (Wn.none rfl) rfl rfl ?_
    refine WR.step (Ex.move rfl) (Wn.some rfl rfl rfl) rfl rfl ?_
    refine WR.idxC Tryz.underlying59 Tryz.sizeOf9 (hp0) rfl rfl hxa9 (Wn.some rfl rfl rfl) rfl ?_
    intro p14 hc14
    refine WR.step (Ex.loadM H rfl hc14 Tryz.isAgg9) (Wn.some rfl rfl rfl) rfl rfl ?_
    refine WR.call H (strings_HasSuffix_ct hx11) rfl trivial (Wn.some rfl rfl rfl) rfl ?_
    intro v16 M w H hle hR
    replace hg_errR := hg_errR.mono hle
    replace hg_errS := hg_errS.mono hle
    replace hg_maxl := hg_maxl.mono hle
    replace hp0 := hp0.mono hle
    replace hc14 := hc14.mono hle
    obtain rfl := hR
    refine WR.step (Ex.pickT rfl rfl) (Wn.none rfl) rfl rfl ?_
    refine WR.nil ?_
    exact WQ.meetN [(0, _), (2, _), (4, _), (17, _)] ⟨rfl, rfl, rfl, rfl, trivial⟩ ⟨_, _, rfl, (H.pick (L' := [.blk b2 (.cells #[I 0, I 0, I 0, I 0, I 0, I 0, I 0] 23), .blk b4 (.cells (List.map encS n1).toArray 55)]) (by repeat (first | exact Pick.nil | refine Pick.cons (by repeat (first | exact Rem.head | apply Rem.tail)) ?_))), hg_errR, hg_errS, hg_maxl, hp0, e6⟩
   ·
    rw [if_neg hk8] at e6
    refine WR.stepE (v' := .bool false) (Ex.gtr rfl rfl) (congrArg Value.bool (decide_eq_false hk8)) (Wn.none rfl) rfl rfl ?_
    refine WR.step (Ex.move rfl) (Wn.none rfl) rfl rfl ?_
    refine WR.skipN 4 rfl rfl ?_
    refine WR.step (Ex.pickF rfl rfl) (Wn.none rfl) rfl rfl ?_
    refine WR.nil ?_
    exact WQ.meetN [(0, _), (2, _), (4, _), (17, _)] ⟨rfl, rfl, rfl, rfl, trivial⟩ ⟨_, _, rfl, (H.pick (L' := [.blk b2 (.cells #[I 0, I 0, I 0, I 0, I 0, I 0, I 0] 23), .blk b4 (.cells (List.map encS n1).toArray 55)]) (by repeat (first | exact Pick.nil | refine Pick.cons (by repeat (first | exact Rem.head | apply Rem.tail)) ?_))), hg_errR, hg_errS, hg_maxl, hp0, e6⟩
  ·
   rintro e w ⟨b7, M, rfl, H, hg_errR, hg_errS, hg_maxl, hp0, q12⟩
   obtain rfl := Option.some.inj q12
   refine WQ.then ?_
   obtain ⟨o13, e14, h⟩ := bnd h
   refine WC.cutX (fun e w => ∃ (l15 : List (List UInt8)) (v16 : Value) (n18 : Int) (n19 : Int) (n20 : Int) (n21 : Int) (n22 : Int) (n23 : Int) (n24 : Int) (M : Mem), e = [(0, v16), (2, ptr b2 0)] ∧ St w0 M0 M [.blk b2 (.cells #[I n18, I n19, I n20, I n21, I n22, I n23, I n24] 23)] w ∧ GlF (fun w => ∃ tp p, w.var? Tryz.prog "strconv.ErrRange" = some #[.iface tp p]) M ∧ GlF (fun w => ∃ tp p, w.var? Tryz.prog "strconv.ErrSyntax" = some #[.iface tp p]) M ∧ GlF (fun w => ∃ m, w.cell? ⟨0, 0, none⟩ = some (.int .i64 m)) M ∧ Sl M encS v16 l15 ∧ some (.inl (l15, n18, n19, n20, n21, n22, n23, n24)) = some o13) [] ?_ ?_ (trivial)
   ·
    refine WC.condB rfl (fun hk25 => ?_) (fun hk25 => ?_)
    ·
     subst hk25
     rw [if_pos rfl] at e14
     refine WC.seq ?_
     refine WC.seq ?_
     obtain ⟨l27, hxl27, e14⟩ := bnd e14
     obtain ⟨a28, hxa28, e14⟩ := bnd e14
     obtain ⟨s29, hx30, e14⟩ := bnd e14
     obtain ⟨b31, hx32, e14⟩ := bnd e14
     refine WC.cutP (fun e w => ∃  (M : Mem), e = [(0, vp0), (2, ptr b2 0), (24, Value.bool (!b31))] ∧ St w0 M0 M [.blk b2 (.cells #[I 0, I 0, I 0, I 0, I 0, I 0, I 0] 23)] w ∧ GlF (fun w => ∃ tp p, w.var? Tryz.prog "strconv.ErrRange" = some #[.iface tp p]) M ∧ GlF (fun w => ∃ tp p, w.var? Tryz.prog "strconv.ErrSyntax" = some #[.iface tp p]) M ∧ GlF (fun w => ∃ m, w.cell? ⟨0, 0, none⟩ = some (.int .i64 m)) M ∧ Sl M encS vp0 p0) ?_ ?_
     ·
      refine WC.draw (m := 7) rfl rfl H ?_
      intro w H
      refine WA.take (i := 1) rfl (by kernel_rfl) (by kernel_rfl) (by kernel_rfl) (fun _ => Ex.move rfl) (Wn.none rfl) rfl rfl (fun _ _ => rfl) ?_
      refine WA.two (i := 0) (j := 2) (by kernel_rfl) rfl rfl ?_ ?_
      ·
       obtain ⟨M, hle, hb26, H⟩ := H.freezeVar (b := b4) (by repeat (first | exact Rem.head | apply Rem.tail))
       replace hg_errR := hg_errR.mono hle
       replace hg_errS := hg_errS.mono hle
       replace hg_maxl := hg_maxl.mono hle
       replace hp0 := hp0.mono hle
       have hs18 := hb26.sl hxl27 rfl
       refine WR.step (Ex.sliceArr Tryz.underlying55 Tryz.sizeOf9 rfl) (Wn.none rfl) rfl rfl ?_
       refine WR.nil (WQ.any ?_)
       refine WA.seq (fuel := 0) [2, 3, 4, 5, 6] rfl (by kernel_rfl) ?_
       refine WR.idxC Tryz.underlying59 Tryz.sizeOf9 (hp0) rfl rfl hxa28 (Wn.none rfl) rfl ?_
       intro p20 hc20
       refine WR.step (Ex.loadM H rfl hc20 Tryz.isAgg9) (Wn.none rfl) rfl rfl ?_
       refine WR.call H (strings_TrimSuffix_ct hx30) rfl trivial (Wn.none rfl) rfl ?_
       intro v22 M w H hle hR
       replace hg_errR := hg_errR.mono hle
       replace hg_errS := hg_errS.mono hle
       replace hg_maxl := hg_maxl.mono hle
       replace hp0 := hp0.mono hle
       replace hb26 := hb26.mono hle
       replace hs18 := hs18.mono hle
       replace hc20 := hc20.mono hle
       obtain rfl := hR
       refine WR.call H (slices_Contains_string_string_ct hx32) rfl (hs18) (Wn.none rfl) rfl ?_
       intro v23 M w H hle hR
       replace hg_errR := hg_errR.mono hle
       replace hg_errS := hg_errS.mono hle
       replace hg_maxl := hg_maxl.mono hle
       replace hp0 := hp0.mono hle
       replace hb26 := hb26.mono hle
       replace hs18 := hs18.mono hle
       replace hc20 := hc20.mono hle
       obtain rfl := hR
       refine WR.step (Ex.not rfl) (Wn.none rfl) rfl rfl ?_
       refine WR.nil (WQ.any ?_)
       refine WA.done (by kernel_rfl) ?_
       exact WQ.meetP [(0, _), (2, _), (24, _)] ⟨rfl, rfl, rfl, trivial⟩ ⟨_, rfl, H, hg_errR, hg_errS, hg_maxl, hp0⟩
      ·
       refine WR.idxC Tryz.underlying59 Tryz.sizeOf9 (hp0) rfl rfl hxa28 (Wn.none rfl) rfl ?_
       intro p20 hc20
       refine WR.nil (WQ.any ?_)
       refine WA.two (i := 0) (j := 3) (by kernel_rfl) rfl rfl ?_ ?_
       ·
        obtain ⟨M, hle, hb26, H⟩ := H.freezeVar (b := b4) (by repeat (first | exact Rem.head | apply Rem.tail))
        replace hg_errR := hg_errR.mono hle
        replace hg_errS := hg_errS.mono hle
        replace hg_maxl := hg_maxl.mono hle
        replace hp0 := hp0.mono hle
        replace hc20 := hc20.mono hle
        have hs18 := hb26.sl hxl27 rfl
        refine WR.step (Ex.sliceArr Tryz.underlying55 Tryz.sizeOf9 rfl) (Wn.none rfl) rfl rfl ?_
        refine WR.nil (WQ.any ?_)
        refine WA.seq (fuel := 0) [3, 4, 5, 6] rfl (by kernel_rfl) ?_
        refine WR.step (Ex.loadM H rfl hc20 Tryz.isAgg9) (Wn.none rfl) rfl rfl ?_
        refine WR.call H (strings_TrimSuffix_ct hx30) rfl trivial (Wn.none rfl) rfl ?_
        intro v22 M w H hle hR
        replace hg_errR := hg_errR.mono hle
        replace hg_errS := hg_errS.mono hle
        replace hg_maxl := hg_maxl.mono hle
        replace hp0 := hp0.mono hle
        replace hc20 := hc20.mono hle
        replace hb26 := hb26.mono hle
        replace hs18 := hs18.mono hle
        obtain rfl := hR
        refine WR.call H (slices_Contains_string_string_ct hx32) rfl (hs18) (Wn.none rfl) rfl ?_
        intro v23 M w H hle hR
        replace hg_errR := hg_errR.mono hle
        replace hg_errS := hg_errS.mono hle
        replace hg_maxl := hg_maxl.mono hle
        replace hp0 := hp0.mono hle
        replace hc20 := hc20.mono hle
        replace hb26 := hb26.mono hle
        replace hs18 := hs18.mono hle
        obtain rfl := hR
        refine WR.step (Ex.not rfl) (Wn.none rfl) rfl rfl ?_
        refine WR.nil (WQ.any ?_)
        refine WA.done (by kernel_rfl) ?_
        exact WQ.meetP [(0, _), (2, _), (24, _)] ⟨rfl, rfl, rfl, trivial⟩ ⟨_, rfl, H, hg_errR, hg_errS, hg_maxl, hp0⟩
       ·
        refine WR.step (Ex.loadM H rfl hc20 Tryz.isAgg9) (Wn.none rfl) rfl rfl ?_
        refine WR.nil (WQ.any ?_)
        refine WA.two (i := 0) (j := 4) (by kernel_rfl) rfl rfl ?_ ?_
        ·
         obtain ⟨M, hle, hb26, H⟩ := H.freezeVar (b := b4) (by repeat (first | exact Rem.head | apply Rem.tail))
         replace hg_errR := hg_errR.mono hle
         replace hg_errS := hg_errS.mono hle
         replace hg_maxl := hg_maxl.mono hle
         replace hp0 := hp0.mono hle
         replace hc20 := hc20.mono hle
         have hs18 := hb26.sl hxl27 rfl
         refine WR.step (Ex.sliceArr Tryz.underlying55 Tryz.sizeOf9 rfl) (Wn.none rfl) rfl rfl ?_
         refine WR.nil (WQ.any ?_)
         refine WA.seq (fuel := 0) [4, 5, 6] rfl (by kernel_rfl) ?_
         refine WR.call H (strings_TrimSuffix_ct hx30) rfl trivial (Wn.none rfl) rfl ?_
         intro v22 M w H hle hR
         replace hg_errR := hg_errR.mono hle
         replace hg_errS := hg_errS.mono hle
         replace hg_maxl := hg_maxl.mono hle
         replace hp0 := hp0.mono hle
         replace hc20 := hc20.mono hle
         replace hb26 := hb26.mono hle
         replace hs18 := hs18.mono hle
         obtain rfl := hR
         refine WR.call H (slices_Contains_string_string_ct hx32) rfl (hs18) (Wn.none rfl) rfl ?_
         intro v23 M w H hle hR
         replace hg_errR := hg_errR.mono hle
         replace hg_errS := hg_errS.mono hle
         replace hg_maxl := hg_maxl.mono hle
         replace hp0 := hp0.mono hle
         replace hc20 := hc20.mono hle
         replace hb26 := hb26.mono hle
         replace hs18 := hs18.mono hle
         obtain rfl := hR
         refine WR.step (Ex.not rfl) (Wn.none rfl) rfl rfl ?_
         refine WR.nil (WQ.any ?_)
         refine WA.done (by kernel_rfl) ?_
         exact WQ.meetP [(0, _), (2, _), (24, _)] ⟨rfl, rfl, rfl, trivial⟩ ⟨_, rfl, H, hg_errR, hg_errS, hg_maxl, hp0⟩
        ·
         refine WR.call H (strings_TrimSuffix_ct hx30) rfl trivial (Wn.none rfl) rfl ?_
         intro v22 M w H hle hR
         replace hg_errR := hg_errR.mono hle
         replace hg_errS := hg_errS.mono hle
         replace hg_maxl := hg_maxl.mono hle
         replace hp0 := hp0.mono hle
         replace hc20 := hc20.mono hle
         obtain rfl := hR
         refine WR.nil (WQ.any ?_)
         refine WA.seq (fuel := 0) [0, 5, 6] rfl (by kernel_rfl) ?_
         obtain ⟨M, hle, hb26, H⟩ := H.freezeVar (b := b4) (by repeat (first | exact Rem.head | apply Rem.tail))
         replace hg_errR := hg_errR.mono hle
         replace hg_errS := hg_errS.mono hle
         replace hg_maxl := hg_maxl.mono hle
         replace hp0 := hp0.mono hle
         replace hc20 := hc20.mono hle
         have hs18 := hb26.sl hxl27 rfl
         refine WR.step (Ex.sliceArr Tryz.underlying55 Tryz.sizeOf9 rfl) (Wn.none rfl) rfl rfl ?_
         refine WR.call H (slices_Contains_string_string_ct hx32) rfl (hs18) (Wn.none rfl) rfl ?_
         intro v23 M w H hle hR
         replace hg_errR := hg_errR.mono hle
         replace hg_errS := hg_errS.mono hle
         replace hg_maxl := hg_maxl.mono hle
         replace hp0 := hp0.mono hle
         replace hc20 := hc20.mono hle
         replace hb26 := hb26.mono hle
         replace hs18 := hs18.mono hle
         obtain rfl := hR
         refine WR.step (Ex.not rfl) (Wn.none rfl) rfl rfl ?_
         refine WR.nil (WQ.any ?_)
         refine WA.done (by kernel_rfl) ?_
         exact WQ.meetP [(0, _), (2, _), (24, _)] ⟨rfl, rfl, rfl, trivial⟩ ⟨_, rfl, H, hg_errR, hg_errS, hg_maxl, hp0⟩
     ·
      rintro e w ⟨M, rfl, H, hg_errR, hg_errS, hg_maxl, hp0⟩
      refine WQ.then ?_
      refine WC.condB rfl (fun hk33 => ?_) (fun hk33 => ?_)
      ·
       replace hk33 : b31 = false := by simpa using hk33
       subst hk33
       rw [if_neg Bool.false_ne_true] at e14
       refine WC.seq ?_
       refine WC.region ?_
       refine WR.step (Ex.build [I 0, I 0, I 0, I 0, I 0, I 0, I 0] Tryz.underlying23 Tryz.zeroValue23 (xplaces23 Tryz.underlying23) rfl (by kernel_rfl)) (Wn.none rfl) rfl rfl ?_
       refine WR.store [_, _, _, _, _, _, _] H rfl rfl rfl (by repeat (first | exact Upd.head | apply Upd.tail)) Tryz.sizeOf23 rfl (by rfl) (by rfl) (Wn.none rfl) ?_
       intro w H
       refine WR.step (Ex.assign rfl) (Wn.none rfl) rfl rfl ?_
       refine WR.nil ?_
       refine WQ.then ?_
       refine WC.ret ?_
       (repeat (first | refine WQ.thenRet ?_ | refine WQ.inBlockRet ?_ | refine WQ.cutRet ?_ | refine WQ.scRet ?_))
       obtain rfl := Option.some.inj e14
       try dsimp only at h
       obtain rfl := Option.some.inj h
       exact WQ.ret2 rfl ⟨_, rfl, H.loadAgg (by repeat (first | exact List.Mem.head _ | apply List.Mem.tail)) Tryz.isAgg23 Tryz.sizeOf23 (by rfl)⟩ rfl H.ext rfl
      ·
       replace hk33 : b31 = true := by simpa using hk33
       subst hk33
       rw [if_pos rfl] at e14
       refine WC.skip ?_
       refine WQ.then ?_
       obtain ⟨l34, hxl34, e14⟩ := bnd e14
       refine WC.region ?_
       refine WR.step (Ex.move rfl) (Wn.none rfl) rfl rfl ?_
       refine WR.sliceL Tryz.underlying59 Tryz.sizeOf9 (hp0) rfl rfl hxl34 (Wn.none rfl) rfl ?_
       intro v27 hs27
       refine WR.step (Ex.assign rfl) (Wn.none rfl) rfl rfl ?_
       refine WR.nil ?_
       exact WQ.meetN [(0, _), (2, _)] ⟨rfl, rfl, trivial⟩ ⟨_, _, _, _, _, _, _, _, _, _, rfl, H, hg_errR, hg_errS, hg_maxl, hs27, e14⟩
    ·
     subst hk25
     rw [if_neg Bool.false_ne_true] at e14
     refine WC.skip ?_
     exact WQ.meetN [(0, _), (2, _)] ⟨rfl, rfl, trivial⟩ ⟨_, _, _, _, _, _, _, _, _, _, rfl, (H.pick (L' := [.blk b2 (.cells #[I 0, I 0, I 0, I 0, I 0, I 0, I 0] 23)]) (by repeat (first | exact Pick.nil | refine Pick.cons (by repeat (first | exact Rem.head | apply Rem.tail)) ?_))), hg_errR, hg_errS, hg_maxl, hp0, e14⟩
   ·
    rintro e w ⟨l15, v16, n18, n19, n20, n21, n22, n23, n24, M, rfl, H, hg_errR, hg_errS, hg_maxl, hs17, q35⟩
    obtain rfl := Option.some.inj q35
    try dsimp only at h
    refine WQ.then ?_
    refine WC.seq ?_
    refine WC.seq ?_
    refine WC.region ?_
    refine WR.step (Ex.move rfl) (Wn.none rfl) rfl rfl ?_
    refine WR.step (Ex.lenSl Tryz.underlying59 hs17 rfl) (Wn.none rfl) rfl rfl ?_
    refine WR.step (Ex.neqC rfl rfl) (Wn.none rfl) rfl rfl ?_
    refine WR.nil ?_
    refine WQ.then ?_
    refine WC.condB rfl (fun hk36 => ?_) (fun hk36 => ?_)
    ·
     replace hk36 : ¬ ((l15.length : Int) = (5 : Int)) := of_not_decide hk36
     rw [if_neg hk36] at h
     refine WC.seq ?_
     refine WC.region ?_
     refine WR.step (Ex.build [I 0, I 0, I 0, I 0, I 0, I 0, I 0] Tryz.underlying23 Tryz.zeroValue23 (xplaces23 Tryz.underlying23) rfl (by kernel_rfl)) (Wn.none rfl) rfl rfl ?_
     refine WR.store [_, _, _, _, _, _, _] H rfl rfl rfl (by repeat (first | exact Upd.head | apply Upd.tail)) Tryz.sizeOf23 rfl (by rfl) (by rfl) (Wn.none rfl) ?_
     intro w H
     refine WR.step (Ex.assign rfl) (Wn.none rfl) rfl rfl ?_
     refine WR.nil ?_
     refine WQ.then ?_
     refine WC.ret ?_
     (repeat (first | refine WQ.thenRet ?_ | refine WQ.inBlockRet ?_ | refine WQ.cutRet ?_ | refine WQ.scRet ?_))
     obtain rfl := Option.some.inj h
     exact WQ.ret2 rfl ⟨_, rfl, H.loadAgg (by repeat (first | exact List.Mem.head _ | apply List.Mem.tail)) Tryz.isAgg23 Tryz.sizeOf23 (by rfl)⟩ rfl H.ext rfl
    ·
     replace hk36 : (l15.length : Int) = (5 : Int) := of_not_decide' hk36
     rw [if_pos hk36] at h
     refine WC.skip ?_
     refine WQ.then ?_
     refine WC.seq ?_
     refine WC.region ?_
     refine WR.alloc [_, _, _, _, _, _, _] H Tryz.zeroValue23 rfl (Wn.none rfl) rfl ?_
     intro b5 w H
     refine WR.nil ?_
     refine WQ.then ?_
     refine WC.seq ?_
     refine WC.region ?_
     refine WR.alloc (List.map encBo (List.replicate 4 false : List Bool)) H Tryz.zeroValue85 (by kernel_rfl) (Wn.none rfl) rfl ?_
     intro b6 w H
     refine WR.nil ?_
     refine WQ.then ?_
     refine WC.seq ?_
     obtain ⟨a37, hxa37, h⟩ := bnd h
     obtain ⟨a38, hxa38, h⟩ := bnd h
     obtain ⟨⟨n39, b40⟩, hx41, h⟩ := bnd h
     try dsimp only at h
     obtain ⟨a42, hxa42, h⟩ := bnd h
     obtain ⟨l43, hxl43, h⟩ := bnd h
     refine WC.cutP (fun e w => ∃  (M : Mem), e = [(0, v16), (2, ptr b2 0), (5, ptr b5 0), (6, ptr b6 0)] ∧ St w0 M0 M [.blk b2 (.cells #[I n18, I n19, I n20, I n21, I n22, I n23, I n24] 23), .blk b5 (.cells #[I 0, I 0, I n39, I 0, I 0, I 0, I 0] 23), .blk b6 (.cells (List.map encBo l43).toArray 85)] w ∧ GlF (fun w => ∃ tp p, w.var? Tryz.prog "strconv.ErrRange" = some #[.iface tp p]) M ∧ GlF (fun w => ∃ tp p, w.var? Tryz.prog "strconv.ErrSyntax" = some #[.iface tp p]) M ∧ GlF (fun w => ∃ m, w.cell? ⟨0, 0, none⟩ = some (.int .i64 m)) M ∧ Sl M encS v16 l15) ?_ ?_
     ·
      refine WC.draw (m := 17) rfl rfl H ?_
      intro w H
      refine WA.take (i := 0) rfl (by kernel_rfl) (by kernel_rfl) (by kernel_rfl) (fun _ => Ex.move rfl) (Wn.none rfl) rfl rfl (fun _ _ => rfl) ?_
      refine WA.take (i := 3) rfl (by kernel_rfl) (by kernel_rfl) (by kernel_rfl) (fun _ => Ex.move rfl) (Wn.none rfl) rfl rfl (fun _ _ => rfl) ?_
      refine WA.two (i := 1) (j := 4) (by kernel_rfl) rfl rfl ?_ ?_
      ·
       refine WR.idxC Tryz.underlying59 Tryz.sizeOf9 (hs17) rfl rfl hxa37 (Wn.none rfl) rfl ?_
       intro p34 hc34
       refine WR.nil (WQ.any ?_)
       refine WA.two (i := 2) (j := 4) (by kernel_rfl) rfl rfl ?_ ?_
       ·
        refine WR.step (Ex.loadM H rfl hc34 Tryz.isAgg9) (Wn.none rfl) rfl rfl ?_
        refine WR.nil (WQ.any ?_)
        refine WA.seq (fuel := 6) [4, 5, 6, 7, 8, 9, 10] rfl (by kernel_rfl) ?_
        refine WR.idxC Tryz.underlying59 Tryz.sizeOf9 (hs17) rfl rfl hxa38 (Wn.none rfl) rfl ?_
        intro p37 hc37
        refine WR.step (Ex.loadM H rfl hc37 Tryz.isAgg9) (Wn.none rfl) rfl rfl ?_
        refine WR.step (Ex.lenStr Tryz.underlying9 rfl) (Wn.none rfl) rfl rfl ?_
        refine WR.step (Ex.max2 rfl rfl) (Wn.none rfl) rfl rfl ?_
        refine WR.step (Ex.min2 rfl rfl) (Wn.none rfl) rfl rfl ?_
        refine WR.call H (dates_number_ct hx41) rfl ⟨hg_errR, hg_errS⟩ (Wn.none rfl) rfl ?_
        intro v42 M w H hle hR
        replace hg_errR := hg_errR.mono hle
        replace hg_errS := hg_errS.mono hle
        replace hg_maxl := hg_maxl.mono hle
        replace hs17 := hs17.mono hle
        replace hc34 := hc34.mono hle
        replace hc37 := hc37.mono hle
        try dsimp only at hR
        obtain rfl := hR
        refine WR.step (Ex.move rfl) (Wn.none rfl) rfl rfl ?_
        refine WR.nil (WQ.any ?_)
        refine WA.take (i := 11) rfl (by kernel_rfl) (by kernel_rfl) (by kernel_rfl) (fun _ => Ex.extract rfl rfl) (Wn.none rfl) rfl rfl (fun _ _ => rfl) ?_
        refine WA.take (i := 12) rfl (by kernel_rfl) (by kernel_rfl) (by kernel_rfl) (fun _ => Ex.extract rfl rfl) (Wn.none rfl) rfl rfl (fun _ _ => rfl) ?_
        refine WA.seq (fuel := 0) [13, 14, 15, 16] rfl (by kernel_rfl) ?_
        refine WR.step (Ex.fieldAddr Tryz.underlying23 rfl Tryz.sizeOf3 (by decide) rfl) (Wn.none rfl) rfl rfl ?_
        refine WR.store1 [_, _, _, _, _, _, _] H rfl rfl (by repeat (first | exact Upd.head | apply Upd.tail)) (by rfl) Tryz.sizeOf3 (by first | decide | (simp; done) | (simp; omega)) (by rfl) (by rfl) (Wn.none rfl) ?_
        intro w H
        refine WR.step (Ex.idxArrC (l := (List.replicate 4 false : List Bool)) Tryz.underlying85 Tryz.sizeOf4 rfl rfl hxa42) (Wn.none rfl) rfl rfl ?_
        refine WR.storeArr (a := b40) H rfl rfl ⟨rfl, rfl⟩ (fun _ => by repeat (first | exact Upd.head | apply Upd.tail)) hxl43 Tryz.sizeOf4 (Wn.none rfl) ?_
        intro w H
        refine WR.nil (WQ.any ?_)
        refine WA.done (by kernel_rfl) ?_
        exact WQ.meetP [(0, _), (2, _), (5, _), (6, _)] ⟨rfl, rfl, rfl, rfl, trivial⟩ ⟨_, rfl, (H.pick (L' := [.blk b2 (.cells #[I n18, I n19, I n20, I n21, I n22, I n23, I n24] 23), .blk b5 (.cells #[I 0, I 0, I n39, I 0, I 0, I 0, I 0] 23), .blk b6 (.cells (List.map encBo l43).toArray 85)]) (by repeat (first | exact Pick.nil | refine Pick.cons (by repeat (first | exact Rem.head | apply Rem.tail)) ?_))), hg_errR, hg_errS, hg_maxl, hs17⟩
       ·
        refine WR.idxC Tryz.underlying59 Tryz.sizeOf9 (hs17) rfl rfl hxa38 (Wn.none rfl) rfl ?_
        intro p37 hc37
        refine WR.nil (WQ.any ?_)
        refine WA.two (i := 2) (j := 5) (by kernel_rfl) rfl rfl ?_ ?_
        ·
         refine WR.step (Ex.loadM H rfl hc34 Tryz.isAgg9) (Wn.none rfl) rfl rfl ?_
         refine WR.nil (WQ.any ?_)
         refine WA.seq (fuel := 6) [5, 6, 7, 8, 9, 10] rfl (by kernel_rfl) ?_
         refine WR.step (Ex.loadM H rfl hc37 Tryz.isAgg9) (Wn.none rfl) rfl rfl ?_
         refine WR.step (Ex.lenStr Tryz.underlying9 rfl) (Wn.none rfl) rfl rfl ?_
         refine WR.step (Ex.max2 rfl rfl) (Wn.none rfl) rfl rfl ?_
         refine WR.step (Ex.min2 rfl rfl) (Wn.none rfl) rfl rfl ?_
         refine WR.call H (dates_number_ct hx41) rfl ⟨hg_errR, hg_errS⟩ (Wn.none rfl) rfl ?_
         intro v42 M w H hle hR
         replace hg_errR := hg_errR.mono hle
         replace hg_errS := hg_errS.mono hle
         replace hg_maxl := hg_maxl.mono hle
         replace hs17 := hs17.mono hle
         replace hc34 := hc34.mono hle
         replace hc37 := hc37.mono hle
         try dsimp only at hR
         obtain rfl := hR
         refine WR.step (Ex.move rfl) (Wn.none rfl) rfl rfl ?_
         refine WR.nil (WQ.any ?_)
         refine WA.take (i := 11) rfl (by kernel_rfl) (by kernel_rfl) (by kernel_rfl) (fun _ => Ex.extract rfl rfl) (Wn.none rfl) rfl rfl (fun _ _ => rfl) ?_
         refine WA.take (i := 12) rfl (by kernel_rfl) (by kernel_rfl) (by kernel_rfl) (fun _ => Ex.extract rfl rfl) (Wn.none rfl) rfl rfl (fun _ _ => rfl) ?_
         refine WA.seq (fuel := 0) [13, 14, 15, 16] rfl (by kernel_rfl) ?_
         refine WR.step (Ex.fieldAddr Tryz.underlying23 rfl Tryz.sizeOf3 (by decide) rfl) (Wn.none rfl) rfl rfl ?_
         refine WR.store1 [_, _, _, _, _, _, _] H rfl rfl (by repeat (first | exact Upd.head | apply Upd.tail)) (by rfl) Tryz.sizeOf3 (by first | decide | (simp; done) | (simp; omega)) (by rfl) (by rfl) (Wn.none rfl) ?_
         intro w H
         refine WR.step (Ex.idxArrC (l := (List.replicate 4 false : List Bool)) Tryz.underlying85 Tryz.sizeOf4 rfl rfl hxa42) (Wn.none rfl) rfl rfl ?_
         refine WR.storeArr (a := b40) H rfl rfl ⟨rfl, rfl⟩ (fun _ => by repeat (first | exact Upd.head | apply Upd.tail)) hxl43 Tryz.sizeOf4 (Wn.none rfl) ?_
         intro w H
         refine WR.nil (WQ.any ?_)
         refine WA.done (by kernel_rfl) ?_
         exact WQ.meetP [(0, _), (2, _), (5, _), (6, _)] ⟨rfl, rfl, rfl, rfl, trivial⟩ ⟨_, rfl, (H.pick (L' := [.blk b2 (.cells #[I n18, I n19, I n20, I n21, I n22, I n23, I n24] 23), .blk b5 (.cells #[I 0, I 0, I n39, I 0, I 0, I 0, I 0] 23), .blk b6 (.cells (List.map encBo l43).toArray 85)]) (by repeat (first | exact Pick.nil | refine Pick.cons (by repeat (first | exact Rem.head | apply Rem.tail)) ?_))), hg_errR, hg_errS, hg_maxl, hs17⟩
        ·
         refine WR.step (Ex.loadM H rfl hc37 Tryz.isAgg9) (Wn.none rfl) rfl rfl ?_
         refine WR.nil (WQ.any ?_)
         refine WA.take (i := 6) rfl (by kernel_rfl) (by kernel_rfl) (by kernel_rfl) (fun _ => Ex.lenStr Tryz.underlying9 rfl) (Wn.none rfl) rfl rfl (fun _ _ => rfl) ?_
         refine WA.take (i := 7) rfl (by kernel_rfl) (by kernel_rfl) (by kernel_rfl) (fun _ => Ex.max2 rfl rfl) (Wn.none rfl) rfl rfl (fun _ _ => rfl) ?_
         refine WA.take (i := 8) rfl (by kernel_rfl) (by kernel_rfl) (by kernel_rfl) (fun _ => Ex.min2 rfl rfl) (Wn.none rfl) rfl rfl (fun _ _ => rfl) ?_
         refine WA.seq (fuel := 6) [2, 9, 10] rfl (by kernel_rfl) ?_
         refine WR.step (Ex.loadM H rfl hc34 Tryz.isAgg9) (Wn.none rfl) rfl rfl ?_
         refine WR.call H (dates_number_ct hx41) rfl ⟨hg_errR, hg_errS⟩ (Wn.none rfl) rfl ?_
         intro v42 M w H hle hR
         replace hg_errR := hg_errR.mono hle
         replace hg_errS := hg_errS.mono hle
         replace hg_maxl := hg_maxl.mono hle
         replace hs17 := hs17.mono hle
         replace hc34 := hc34.mono hle
         replace hc37 := hc37.mono hle
         try dsimp only at hR
         obtain rfl := hR
         refine WR.step (Ex.move rfl) (Wn.none rfl) rfl rfl ?_
         refine WR.nil (WQ.any ?_)
         refine WA.take (i := 11) rfl (by kernel_rfl) (by kernel_rfl) (by kernel_rfl) (fun _ => Ex.extract rfl rfl) (Wn.none rfl) rfl rfl (fun _ _ => rfl) ?_
         refine WA.take (i := 12) rfl (by kernel_rfl) (by kernel_rfl) (by kernel_rfl) (fun _ => Ex.extract rfl rfl) (Wn.none rfl) rfl rfl (fun _ _ => rfl) ?_
         refine WA.seq (fuel := 0) [13, 14, 15, 16] rfl (by kernel_rfl) ?_
         refine WR.step (Ex.fieldAddr Tryz.underlying23 rfl Tryz.sizeOf3 (by decide) rfl) (Wn.none rfl) rfl rfl ?_
         refine WR.store1 [_, _, _, _, _, _, _] H rfl rfl (by repeat (first | exact Upd.head | apply Upd.tail)) (by rfl) Tryz.sizeOf3 (by first | decide | (simp; done) | (simp; omega)) (by rfl) (by rfl) (Wn.none rfl) ?_
         intro w H
         refine WR.step (Ex.idxArrC (l := (List.replicate 4 false : List Bool)) Tryz.underlying85 Tryz.sizeOf4 rfl rfl hxa42) (Wn.none rfl) rfl rfl ?_
         refine WR.storeArr (a := b40) H rfl rfl ⟨rfl, rfl⟩ (fun _ => by repeat (first | exact Upd.head | apply Upd.tail)) hxl43 Tryz.sizeOf4 (Wn.none rfl) ?_
         intro w H
         refine WR.nil (WQ.any ?_)
         refine WA.done (by kernel_rfl) ?_
         exact WQ.meetP [(0, _), (2, _), (5, _), (6, _)] ⟨rfl, rfl, rfl, rfl, trivial⟩ ⟨_, rfl, (H.pick (L' := [.blk b2 (.cells #[I n18, I n19, I n20, I n21, I n22, I n23, I n24] 23), .blk b5 (.cells #[I 0, I 0, I n39, I 0, I 0, I 0, I 0] 23), .blk b6 (.cells (List.map encBo l43).toArray 85)]) (by repeat (first | exact Pick.nil | refine Pick.cons (by repeat (first | exact Rem.head | apply Rem.tail)) ?_))), hg_errR, hg_errS, hg_maxl, hs17⟩
      ·
       refine WR.idxC Tryz.underlying59 Tryz.sizeOf9 (hs17) rfl rfl hxa38 (Wn.none rfl) rfl ?_
       intro p37 hc37
       refine WR.nil (WQ.any ?_)
       refine WA.two (i := 1) (j := 5) (by kernel_rfl) rfl rfl ?_ ?_
       ·
        refine WR.idxC Tryz.underlying59 Tryz.sizeOf9 (hs17) rfl rfl hxa37 (Wn.none rfl) rfl ?_
        intro p34 hc34
        refine WR.nil (WQ.any ?_)
        refine WA.two (i := 2) (j := 5) (by kernel_rfl) rfl rfl ?_ ?_
        ·
         refine WR.step (Ex.loadM H rfl hc34 Tryz.isAgg9) (Wn.none rfl) rfl rfl ?_
         refine WR.nil (WQ.any ?_)
         refine WA.seq (fuel := 6) [5, 6, 7, 8, 9, 10] rfl (by kernel_rfl) ?_
         refine WR.step (Ex.loadM H rfl hc37 Tryz.isAgg9) (Wn.none rfl) rfl rfl ?_
         refine WR.step (Ex.lenStr Tryz.underlying9 rfl) (Wn.none rfl) rfl rfl ?_
         refine WR.step (Ex.max2 rfl rfl) (Wn.none rfl) rfl rfl ?_
         refine WR.step (Ex.min2 rfl rfl) (Wn.none rfl) rfl rfl ?_
         refine WR.call H (dates_number_ct hx41) rfl ⟨hg_errR, hg_errS⟩ (Wn.none rfl) rfl ?_
         intro v42 M w H hle hR
         replace hg_errR := hg_errR.mono hle
         replace hg_errS := hg_errS.mono hle
         replace hg_maxl := hg_maxl.mono hle
         replace hs17 := hs17.mono hle
         replace hc37 := hc37.mono hle
         replace hc34 := hc34.mono hle
         try dsimp only at hR
         obtain rfl := hR
         refine WR.step (Ex.move rfl) (Wn.none rfl) rfl rfl ?_
         refine WR.nil (WQ.any ?_)
         refine WA.take (i := 11) rfl (by kernel_rfl) (by kernel_rfl) (by kernel_rfl) (fun _ => Ex.extract rfl rfl) (Wn.none rfl) rfl rfl (fun _ _ => rfl) ?_
         refine WA.take (i := 12) rfl (by kernel_rfl) (by kernel_rfl) (by kernel_rfl) (fun _ => Ex.extract rfl rfl) (Wn.none rfl) rfl rfl (fun _ _ => rfl) ?_
         refine WA.seq (fuel := 0) [13, 14, 15, 16] rfl (by kernel_rfl) ?_
         refine WR.step (Ex.fieldAddr Tryz.underlying23 rfl Tryz.sizeOf3 (by decide) rfl) (Wn.none rfl) rfl rfl ?_
         refine WR.store1 [_, _, _, _, _, _, _] H rfl rfl (by repeat (first | exact Upd.head | apply Upd.tail)) (by rfl) Tryz.sizeOf3 (by first | decide | (simp; done) | (simp; omega)) (by rfl) (by rfl) (Wn.none rfl) ?_
         intro w H
         refine WR.step (Ex.idxArrC (l := (List.replicate 4 false : List Bool)) Tryz.underlying85 Tryz.sizeOf4 rfl rfl hxa42) (Wn.none rfl) rfl rfl ?_
         refine WR.storeArr (a := b40) H rfl rfl ⟨rfl, rfl⟩ (fun _ => by repeat (first | exact Upd.head | apply Upd.tail)) hxl43 Tryz.sizeOf4 (Wn.none rfl) ?_
         intro w H
         refine WR.nil (WQ.any ?_)
         refine WA.done (by kernel_rfl) ?_
         exact WQ.meetP [(0, _), (2, _), (5, _), (6, _)] ⟨rfl, rfl, rfl, rfl, trivial⟩ ⟨_, rfl, (H.pick (L' := [.blk b2 (.cells #[I n18, I n19, I n20, I n21, I n22, I n23, I n24] 23), .blk b5 (.cells #[I 0, I 0, I n39, I 0, I 0, I 0, I 0] 23), .blk b6 (.cells (List.map encBo l43).toArray 85)]) (by repeat (first | exact Pick.nil | refine Pick.cons (by repeat (first | exact Rem.head | apply Rem.tail)) ?_))), hg_errR, hg_errS, hg_maxl, hs17⟩
        ·
         refine WR.step (Ex.loadM H rfl hc37 Tryz.isAgg9) (Wn.none rfl) rfl rfl ?_
         refine WR.nil (WQ.any ?_)
         refine WA.take (i := 6) rfl (by kernel_rfl) (by kernel_rfl) (by kernel_rfl) (fun _ => Ex.lenStr Tryz.underlying9 rfl) (Wn.none rfl) rfl rfl (fun _ _ => rfl) ?_
         refine WA.take (i := 7) rfl (by kernel_rfl) (by kernel_rfl) (by kernel_rfl) (fun _ => Ex.max2 rfl rfl) (Wn.none rfl) rfl rfl (fun _ _ => rfl) ?_
         refine WA.take (i := 8) rfl (by kernel_rfl) (by kernel_rfl) (by kernel_rfl) (fun _ => Ex.min2 rfl rfl) (Wn.none rfl) rfl rfl (fun _ _ => rfl) ?_
         refine WA.seq (fuel := 6) [2, 9, 10] rfl (by kernel_rfl) ?_
         refine WR.step (Ex.loadM H rfl hc34 Tryz.isAgg9) (Wn.none rfl) rfl rfl ?_
         refine WR.call H (dates_number_ct hx41) rfl ⟨hg_errR, hg_errS⟩ (Wn.none rfl) rfl ?_
         intro v42 M w H hle hR
         replace hg_errR := hg_errR.mono hle
         replace hg_errS := hg_errS.mono hle
         replace hg_maxl := hg_maxl.mono hle
         replace hs17 := hs17.mono hle
         replace hc37 := hc37.mono hle
         replace hc34 := hc34.mono hle
         try dsimp only at hR
         obtain rfl := hR
         refine WR.step (Ex.move rfl) (Wn.none rfl) rfl rfl ?_
         refine WR.nil (WQ.any ?_)
         refine WA.take (i := 11) rfl (by kernel_rfl) (by kernel_rfl) (by kernel_rfl) (fun _ => Ex.extract rfl rfl) (Wn.none rfl) rfl rfl (fun _ _ => rfl) ?_
         refine WA.take (i := 12) rfl (by kernel_rfl) (by kernel_rfl) (by kernel_rfl) (fun _ => Ex.extract rfl rfl) (Wn.none rfl) rfl rfl (fun _ _ => rfl) ?_
         refine WA.seq (fuel := 0) [13, 14, 15, 16] rfl (by kernel_rfl) ?_
         refine WR.step (Ex.fieldAddr Tryz.underlying23 rfl Tryz.sizeOf3 (by decide) rfl) (Wn.none rfl) rfl rfl ?_
         refine WR.store1 [_, _, _, _, _, _, _] H rfl rfl (by repeat (first | exact Upd.head | apply Upd.tail)) (by rfl) Tryz.sizeOf3 (by first | decide | (simp; done) | (simp; omega)) (by rfl) (by rfl) (Wn.none rfl) ?_
         intro w H
         refine WR.step (Ex.idxArrC (l := (List.replicate 4 false : List Bool)) Tryz.underlying85 Tryz.sizeOf4 rfl rfl hxa42) (Wn.none rfl) rfl rfl ?_
         refine WR.storeArr (a := b40) H rfl rfl ⟨rfl, rfl⟩ (fun _ => by repeat (first | exact Upd.head | apply Upd.tail)) hxl43 Tryz.sizeOf4 (Wn.none rfl) ?_
         intro w H
         refine WR.nil (WQ.any ?_)
         refine WA.done (by kernel_rfl) ?_
         exact WQ.meetP [(0, _), (2, _), (5, _), (6, _)] ⟨rfl, rfl, rfl, rfl, trivial⟩ ⟨_, rfl, (H.pick (L' := [.blk b2 (.cells #[I n18, I n19, I n20, I n21, I n22, I n23, I n24] 23), .blk b5 (.cells #[I 0, I 0, I n39, I 0, I 0, I 0, I 0] 23), .blk b6 (.cells (List.map encBo l43).toArray 85)]) (by repeat (first | exact Pick.nil | refine Pick.cons (by repeat (first | exact Rem.head | apply Rem.tail)) ?_))), hg_errR, hg_errS, hg_maxl, hs17⟩
       ·
        refine WR.step (Ex.loadM H rfl hc37 Tryz.isAgg9) (Wn.none rfl) rfl rfl ?_
        refine WR.nil (WQ.any ?_)
        refine WA.take (i := 6) rfl (by kernel_rfl) (by kernel_rfl) (by kernel_rfl) (fun _ => Ex.lenStr Tryz.underlying9 rfl) (Wn.none rfl) rfl rfl (fun _ _ => rfl) ?_
        refine WA.take (i := 7) rfl (by kernel_rfl) (by kernel_rfl) (by kernel_rfl) (fun _ => Ex.max2 rfl rfl) (Wn.none rfl) rfl rfl (fun _ _ => rfl) ?_
        refine WA.take (i := 8) rfl (by kernel_rfl) (by kernel_rfl) (by kernel_rfl) (fun _ => Ex.min2 rfl rfl) (Wn.none rfl) rfl rfl (fun _ _ => rfl) ?_
        refine WA.seq (fuel := 6) [1, 2, 9, 10] rfl (by kernel_rfl) ?_
        refine WR.idxC Tryz.underlying59 Tryz.sizeOf9 (hs17) rfl rfl hxa37 (Wn.none rfl) rfl ?_
        intro p34 hc34
        refine WR.step (Ex.loadM H rfl hc34 Tryz.isAgg9) (Wn.none rfl) rfl rfl ?_
        refine WR.call H (dates_number_ct hx41) rfl ⟨hg_errR, hg_errS⟩ (Wn.none rfl) rfl ?_
        intro v42 M w H hle hR
        replace hg_errR := hg_errR.mono hle
        replace hg_errS := hg_errS.mono hle
        replace hg_maxl := hg_maxl.mono hle
        replace hs17 := hs17.mono hle
        replace hc37 := hc37.mono hle
        replace hc34 := hc34.mono hle
        try dsimp only at hR
        obtain rfl := hR
        refine WR.step (Ex.move rfl) (Wn.none rfl) rfl rfl ?_
        refine WR.nil (WQ.any ?_)
        refine WA.take (i := 11) rfl (by kernel_rfl) (by kernel_rfl) (by kernel_rfl) (fun _ => Ex.extract rfl rfl) (Wn.none rfl) rfl rfl (fun _ _ => rfl) ?_
        refine WA.take (i := 12) rfl (by kernel_rfl) (by kernel_rfl) (by kernel_rfl) (fun _ => Ex.extract rfl rfl) (Wn.none rfl) rfl rfl (fun _ _ => rfl) ?_
        refine WA.seq (fuel := 0) [13, 14, 15, 16] rfl (by kernel_rfl) ?_
        refine WR.step (Ex.fieldAddr Tryz.underlying23 rfl Tryz.sizeOf3 (by decide) rfl) (Wn.none rfl) rfl rfl ?_
        refine WR.store1 [_, _, _, _, _, _, _] H rfl rfl (by repeat (first | exact Upd.head | apply Upd.tail)) (by rfl) Tryz.sizeOf3 (by first | decide | (simp; done) | (simp; omega)) (by rfl) (by rfl) (Wn.none rfl) ?_
        intro w H
        refine WR.step (Ex.idxArrC (l := (List.replicate 4 false : List Bool)) Tryz.underlying85 Tryz.sizeOf4 rfl rfl hxa42) (Wn.none rfl) rfl rfl ?_
        refine WR.storeArr (a := b40) H rfl rfl ⟨rfl, rfl⟩ (fun _ => by repeat (first | exact Upd.head | apply Upd.tail)) hxl43 Tryz.sizeOf4 (Wn.none rfl) ?_
        intro w H
        refine WR.nil (WQ.any ?_)
        refine WA.done (by kernel_rfl) ?_
        exact WQ.meetP [(0, _), (2, _), (5, _), (6, _)] ⟨rfl, rfl, rfl, rfl, trivial⟩ ⟨_, rfl, (H.pick (L' := [.blk b2 (.cells #[I n18, I n19, I n20, I n21, I n22, I n23, I n24] 23), .blk b5 (.cells #[I 0, I 0, I n39, I 0, I 0, I 0, I 0] 23), .blk b6 (.cells (List.map encBo l43).toArray 85)]) (by repeat (first | exact Pick.nil | refine Pick.cons (by repeat (first | exact Rem.head | apply Rem.tail)) ?_))), hg_errR, hg_errS, hg_maxl, hs17⟩
     ·
      rintro e w ⟨M, rfl, H, hg_errR, hg_errS, hg_maxl, hs17⟩
      refine WQ.then ?_
      refine WC.seq ?_
      obtain ⟨n44, hx45, h⟩ := bnd h
      obtain ⟨l46, hxl46, h⟩ := bnd h
      obtain ⟨l47, hxl47, h⟩ := bnd h
      refine WC.region ?_
      refine WR.call H (dates_months_ct hx45) rfl trivial (Wn.none rfl) rfl ?_
      intro v47 M w H hle hR
      replace hg_errR := hg_errR.mono hle
      replace hg_errS := hg_errS.mono hle
      replace hg_maxl := hg_maxl.mono hle
      replace hs17 := hs17.mono hle
      obtain rfl := hR
      refine WR.alloc (List.map encS (List.replicate 12 [] : List (List UInt8))) H Tryz.zeroValue57 (by kernel_rfl) (Wn.none rfl) rfl ?_
      intro b7 w H
      refine WR.storeA (l2 := n44) H rfl rfl (fun _ => rfl) (fun _ => by repeat (first | exact Upd.head | apply Upd.tail)) hxl46 hxl47 Tryz.sizeOf57 (Wn.none rfl) ?_
      intro w H
      refine WR.nil ?_
      refine WQ.then ?_
      refine WC.seq ?_
      obtain ⟨l49, hxl49, h⟩ := bnd h
      obtain ⟨a50, hxa50, h⟩ := bnd h
      obtain ⟨n51, hx52, h⟩ := bnd h
      obtain ⟨n53, hxn53, h⟩ := bnd h
      refine WC.cutP (fun e w => ∃  (M : Mem), e = [(0, v16), (2, ptr b2 0), (5, ptr b5 0), (6, ptr b6 0)] ∧ St w0 M0 M [.blk b2 (.cells #[I n18, I n19, I n20, I n21, I n22, I n23, I n24] 23), .blk b5 (.cells #[I 0, I n53, I n39, I 0, I 0, I 0, I 0] 23), .blk b6 (.cells (List.map encBo l43).toArray 85)] w ∧ GlF (fun w => ∃ tp p, w.var? Tryz.prog "strconv.ErrRange" = some #[.iface tp p]) M ∧ GlF (fun w => ∃ tp p, w.var? Tryz.prog "strconv.ErrSyntax" = some #[.iface tp p]) M ∧ GlF (fun w => ∃ m, w.cell? ⟨0, 0, none⟩ = some (.int .i64 m)) M ∧ Sl M encS v16 l15) ?_ ?_
      ·
       refine WC.draw (m := 8) rfl rfl H ?_
       intro w H
       refine WA.take (i := 1) rfl (by kernel_rfl) (by kernel_rfl) (by kernel_rfl) (fun _ => Ex.move rfl) (Wn.none rfl) rfl rfl (fun _ _ => rfl) ?_
       refine WA.two (i := 0) (j := 2) (by kernel_rfl) rfl rfl ?_ ?_
       ·
        obtain ⟨M, hle, hb48, H⟩ := H.freezeVar (b := b7) (by repeat (first | exact Rem.head | apply Rem.tail))
        replace hg_errR := hg_errR.mono hle
        replace hg_errS := hg_errS.mono hle
        replace hg_maxl := hg_maxl.mono hle
        replace hs17 := hs17.mono hle
        have hs48 := hb48.sl hxl49 rfl
        refine WR.step (Ex.sliceArr Tryz.underlying57 Tryz.sizeOf9 rfl) (Wn.none rfl) rfl rfl ?_
        refine WR.nil (WQ.any ?_)
        refine WA.seq (fuel := 0) [2, 3, 4, 5, 6, 7] rfl (by kernel_rfl) ?_
        refine WR.idxC Tryz.underlying59 Tryz.sizeOf9 (hs17) rfl rfl hxa50 (Wn.none rfl) rfl ?_
        intro p50 hc50
        refine WR.step (Ex.loadM H rfl hc50 Tryz.isAgg9) (Wn.none rfl) rfl rfl ?_
        refine WR.call H (slices_Index_string_string_ct hx52) rfl (hs48) (Wn.none rfl) rfl ?_
        intro v52 M w H hle hR
        replace hg_errR := hg_errR.mono hle
        replace hg_errS := hg_errS.mono hle
        replace hg_maxl := hg_maxl.mono hle
        replace hs17 := hs17.mono hle
        replace hb48 := hb48.mono hle
        replace hs48 := hs48.mono hle
        replace hc50 := hc50.mono hle
        obtain rfl := hR
        refine WR.step (Ex.addC rfl rfl hxn53) (Wn.none rfl) rfl rfl ?_
        refine WR.step (Ex.fieldAddr Tryz.underlying23 rfl Tryz.sizeOf3 (by decide) rfl) (Wn.none rfl) rfl rfl ?_
        refine WR.store1 [_, _, _, _, _, _, _] H rfl rfl (by repeat (first | exact Upd.head | apply Upd.tail)) (by rfl) Tryz.sizeOf3 (by first | decide | (simp; done) | (simp; omega)) (by rfl) (by rfl) (Wn.none rfl) ?_
        intro w H
        refine WR.nil (WQ.any ?_)
        refine WA.done (by kernel_rfl) ?_
        exact WQ.meetP [(0, _), (2, _), (5, _), (6, _)] ⟨rfl, rfl, rfl, rfl, trivial⟩ ⟨_, rfl, H, hg_errR, hg_errS, hg_maxl, hs17⟩
       ·
        refine WR.idxC Tryz.underlying59 Tryz.sizeOf9 (hs17) rfl rfl hxa50 (Wn.none rfl) rfl ?_
        intro p50 hc50
        refine WR.nil (WQ.any ?_)
        refine WA.two (i := 0) (j := 3) (by kernel_rfl) rfl rfl ?_ ?_
        ·
         obtain ⟨M, hle, hb48, H⟩ := H.freezeVar (b := b7) (by repeat (first | exact Rem.head | apply Rem.tail))
         replace hg_errR := hg_errR.mono hle
         replace hg_errS := hg_errS.mono hle
         replace hg_maxl := hg_maxl.mono hle
         replace hs17 := hs17.mono hle
         replace hc50 := hc50.mono hle
         have hs48 := hb48.sl hxl49 rfl
         refine WR.step (Ex.sliceArr Tryz.underlying57 Tryz.sizeOf9 rfl) (Wn.none rfl) rfl rfl ?_
         refine WR.nil (WQ.any ?_)
         refine WA.seq (fuel := 0) [3, 4, 5, 6, 7] rfl (by kernel_rfl) ?_
         refine WR.step (Ex.loadM H rfl hc50 Tryz.isAgg9) (Wn.none rfl) rfl rfl ?_
         refine WR.call H (slices_Index_string_string_ct hx52) rfl (hs48) (Wn.none rfl) rfl ?_
         intro v52 M w H hle hR
         replace hg_errR := hg_errR.mono hle
         replace hg_errS := hg_errS.mono hle
         replace hg_maxl := hg_maxl.mono hle
         replace hs17 := hs17.mono hle
         replace hc50 := hc50.mono hle
         replace hb48 := hb48.mono hle
         replace hs48 := hs48.mono hle
         obtain rfl := hR
         refine WR.step (Ex.addC rfl rfl hxn53) (Wn.none rfl) rfl rfl ?_
         refine WR.step (Ex.fieldAddr Tryz.underlying23 rfl Tryz.sizeOf3 (by decide) rfl) (Wn.none rfl) rfl rfl ?_
         refine WR.store1 [_, _, _, _, _, _, _] H rfl rfl (by repeat (first | exact Upd.head | apply Upd.tail)) (by rfl) Tryz.sizeOf3 (by first | decide | (simp; done) | (simp; omega)) (by rfl) (by rfl) (Wn.none rfl) ?_
         intro w H
         refine WR.nil (WQ.any ?_)
         refine WA.done (by kernel_rfl) ?_
         exact WQ.meetP [(0, _), (2, _), (5, _), (6, _)] ⟨rfl, rfl, rfl, rfl, trivial⟩ ⟨_, rfl, H, hg_errR, hg_errS, hg_maxl, hs17⟩
        ·
         refine WR.step (Ex.loadM H rfl hc50 Tryz.isAgg9) (Wn.none rfl) rfl rfl ?_
         refine WR.nil (WQ.any ?_)
         refine WA.seq (fuel := 0) [0, 4, 5, 6, 7] rfl (by kernel_rfl) ?_
         obtain ⟨M, hle, hb48, H⟩ := H.freezeVar (b := b7) (by repeat (first | exact Rem.head | apply Rem.tail))
         replace hg_errR := hg_errR.mono hle
         replace hg_errS := hg_errS.mono hle
         replace hg_maxl := hg_maxl.mono hle
         replace hs17 := hs17.mono hle
         replace hc50 := hc50.mono hle
         have hs48 := hb48.sl hxl49 rfl
         refine WR.step (Ex.sliceArr Tryz.underlying57 Tryz.sizeOf9 rfl) (Wn.none rfl) rfl rfl ?_
         refine WR.call H (slices_Index_string_string_ct hx52) rfl (hs48) (Wn.none rfl) rfl ?_
         intro v52 M w H hle hR
         replace hg_errR := hg_errR.mono hle
         replace hg_errS := hg_errS.mono hle
         replace hg_maxl := hg_maxl.mono hle
         replace hs17 := hs17.mono hle
         replace hc50 := hc50.mono hle
         replace hb48 := hb48.mono hle
         replace hs48 := hs48.mono hle
         obtain rfl := hR
         refine WR.step (Ex.addC rfl rfl hxn53) (Wn.none rfl) rfl rfl ?_
         refine WR.step (Ex.fieldAddr Tryz.underlying23 rfl Tryz.sizeOf3 (by decide) rfl) (Wn.none rfl) rfl rfl ?_
         refine WR.store1 [_, _, _, _, _, _, _] H rfl rfl (by repeat (first | exact Upd.head | apply Upd.tail)) (by rfl) Tryz.sizeOf3 (by first | decide | (simp; done) | (simp; omega)) (by rfl) (by rfl) (Wn.none rfl) ?_
         intro w H
         refine WR.nil (WQ.any ?_)
         refine WA.done (by kernel_rfl) ?_
         exact WQ.meetP [(0, _), (2, _), (5, _), (6, _)] ⟨rfl, rfl, rfl, rfl, trivial⟩ ⟨_, rfl, H, hg_errR, hg_errS, hg_maxl, hs17⟩
      ·
       rintro e w ⟨M, rfl, H, hg_errR, hg_errS, hg_maxl, hs17⟩
       refine WQ.then ?_
       refine WC.seq ?_
       obtain ⟨a54, hxa54, h⟩ := bnd h
       obtain ⟨⟨n55, b56⟩, hx57, h⟩ := bnd h
       try dsimp only at h
       obtain ⟨a58, hxa58, h⟩ := bnd h
       obtain ⟨l59, hxl59, h⟩ := bnd h
       refine WC.region ?_
       refine WR.step (Ex.move rfl) (Wn.none rfl) rfl rfl ?_
       refine WR.idxC Tryz.underlying59 Tryz.sizeOf9 (hs17) rfl rfl hxa54 (Wn.none rfl) rfl ?_
       intro p57 hc57
       refine WR.step (Ex.loadM H rfl hc57 Tryz.isAgg9) (Wn.none rfl) rfl rfl ?_
       refine WR.call H (dates_number_ct hx57) rfl ⟨hg_errR, hg_errS⟩ (Wn.none rfl) rfl ?_
       intro v59 M w H hle hR
       replace hg_errR := hg_errR.mono hle
       replace hg_errS := hg_errS.mono hle
       replace hg_maxl := hg_maxl.mono hle
       replace hs17 := hs17.mono hle
       replace hc57 := hc57.mono hle
       try dsimp only at hR
       obtain rfl := hR
       refine WR.step (Ex.move rfl) (Wn.none rfl) rfl rfl ?_
       refine WR.step (Ex.extract rfl rfl) (Wn.none rfl) rfl rfl ?_
       refine WR.step (Ex.extract rfl rfl) (Wn.none rfl) rfl rfl ?_
       refine WR.step (Ex.fieldAddr Tryz.underlying23 rfl Tryz.sizeOf3 (by decide) rfl) (Wn.none rfl) rfl rfl ?_
       refine WR.store1 [_, _, _, _, _, _, _] H rfl rfl (by repeat (first | exact Upd.head | apply Upd.tail)) (by rfl) Tryz.sizeOf3 (by first | decide | (simp; done) | (simp; omega)) (by rfl) (by rfl) (Wn.none rfl) ?_
       intro w H
       refine WR.step (Ex.idxArrC (l := l43) Tryz.underlying85 Tryz.sizeOf4 rfl rfl hxa58) (Wn.none rfl) rfl rfl ?_
       refine WR.storeArr (a := b56) H rfl rfl ⟨rfl, rfl⟩ (fun _ => by repeat (first | exact Upd.head | apply Upd.tail)) hxl59 Tryz.sizeOf4 (Wn.none rfl) ?_
       intro w H
       refine WR.nil ?_
       refine WQ.then ?_
       refine WC.seq ?_
       obtain ⟨a60, hxa60, h⟩ := bnd h
       obtain ⟨⟨n61, n62, n63, b64⟩, hx65, h⟩ := bnd h
       try dsimp only at h
       obtain ⟨a66, hxa66, h⟩ := bnd h
       obtain ⟨l67, hxl67, h⟩ := bnd h
       refine WC.region ?_
       refine WR.step (Ex.move rfl) (Wn.none rfl) rfl rfl ?_
       refine WR.idxC Tryz.underlying59 Tryz.sizeOf9 (hs17) rfl rfl hxa60 (Wn.none rfl) rfl ?_
       intro p66 hc66
       refine WR.step (Ex.loadM H rfl hc66 Tryz.isAgg9) (Wn.none rfl) rfl rfl ?_
       refine WR.call H (dates_clock_ct hx65) rfl ⟨hg_errR, hg_errS, hg_maxl⟩ (Wn.none rfl) rfl ?_
       intro v68 M w H hle hR
       replace hg_errR := hg_errR.mono hle
       replace hg_errS := hg_errS.mono hle
       replace hg_maxl := hg_maxl.mono hle
       replace hs17 := hs17.mono hle
       replace hc57 := hc57.mono hle
       replace hc66 := hc66.mono hle
       try dsimp only at hR
       obtain rfl := hR
       refine WR.step (Ex.move rfl) (Wn.none rfl) rfl rfl ?_
       refine WR.step (Ex.extract rfl rfl) (Wn.none rfl) rfl rfl ?_
       refine WR.step (Ex.extract rfl rfl) (Wn.none rfl) rfl rfl ?_
       refine WR.step (Ex.extract rfl rfl) (Wn.none rfl) rfl rfl ?_
       refine WR.step (Ex.extract rfl rfl) (Wn.none rfl) rfl rfl ?_
       refine WR.step (Ex.fieldAddr Tryz.underlying23 rfl Tryz.sizeOf3 (by decide) rfl) (Wn.none rfl) rfl rfl ?_
       refine WR.store1 [_, _, _, _, _, _, _] H rfl rfl (by repeat (first | exact Upd.head | apply Upd.tail)) (by rfl) Tryz.sizeOf3 (by first | decide | (simp; done) | (simp; omega)) (by rfl) (by rfl) (Wn.none rfl) ?_
       intro w H
       refine WR.step (Ex.fieldAddr Tryz.underlying23 rfl Tryz.sizeOf3 (by decide) rfl) (Wn.none rfl) rfl rfl ?_
       refine WR.store1 [_, _, _, _, _, _, _] H rfl rfl (by repeat (first | exact Upd.head | apply Upd.tail)) (by rfl) Tryz.sizeOf3 (by first | decide | (simp; done) | (simp; omega)) (by rfl) (by rfl) (Wn.none rfl) ?_
       intro w H
       refine WR.step (Ex.fieldAddr Tryz.underlying23 rfl Tryz.sizeOf3 (by decide) rfl) (Wn.none rfl) rfl rfl ?_
       refine WR.store1 [_, _, _, _, _, _, _] H rfl rfl (by repeat (first | exact Upd.head | apply Upd.tail)) (by rfl) Tryz.sizeOf3 (by first | decide | (simp; done) | (simp; omega)) (by rfl) (by rfl) (Wn.none rfl) ?_
       intro w H
       refine WR.step (Ex.idxArrC (l := l59) Tryz.underlying85 Tryz.sizeOf4 rfl rfl hxa66) (Wn.none rfl) rfl rfl ?_
       refine WR.storeArr (a := b64) H rfl rfl ⟨rfl, rfl⟩ (fun _ => by repeat (first | exact Upd.head | apply Upd.tail)) hxl67 Tryz.sizeOf4 (Wn.none rfl) ?_
       intro w H
       refine WR.nil ?_
       refine WQ.then ?_
       refine WC.seq ?_
       obtain ⟨a68, hxa68, h⟩ := bnd h
       obtain ⟨⟨n69, b70⟩, hx71, h⟩ := bnd h
       try dsimp only at h
       obtain ⟨a72, hxa72, h⟩ := bnd h
       obtain ⟨l73, hxl73, h⟩ := bnd h
       refine WC.region ?_
       refine WR.step (Ex.move rfl) (Wn.none rfl) rfl rfl ?_
       refine WR.idxC Tryz.underlying59 Tryz.sizeOf9 (hs17) rfl rfl hxa68 (Wn.none rfl) rfl ?_
       intro p79 hc79
       refine WR.step (Ex.loadM H rfl hc79 Tryz.isAgg9) (Wn.none rfl) rfl rfl ?_
       refine WR.call H (dates_zone_ct hx71) rfl ⟨hg_errR, hg_errS⟩ (Wn.none rfl) rfl ?_
       intro v81 M w H hle hR
       replace hg_errR := hg_errR.mono hle
       replace hg_errS := hg_errS.mono hle
       replace hg_maxl := hg_maxl.mono hle
       replace hs17 := hs17.mono hle
       replace hc57 := hc57.mono hle
       replace hc66 := hc66.mono hle
       replace hc79 := hc79.mono hle
       try dsimp only at hR
       obtain rfl := hR
       refine WR.step (Ex.move rfl) (Wn.none rfl) rfl rfl ?_
       refine WR.step (Ex.extract rfl rfl) (Wn.none rfl) rfl rfl ?_
       refine WR.step (Ex.extract rfl rfl) (Wn.none rfl) rfl rfl ?_
       refine WR.step (Ex.fieldAddr Tryz.underlying23 rfl Tryz.sizeOf3 (by decide) rfl) (Wn.none rfl) rfl rfl ?_
       refine WR.store1 [_, _, _, _, _, _, _] H rfl rfl (by repeat (first | exact Upd.head | apply Upd.tail)) (by rfl) Tryz.sizeOf3 (by first | decide | (simp; done) | (simp; omega)) (by rfl) (by rfl) (Wn.none rfl) ?_
       intro w H
       refine WR.step (Ex.idxArrC (l := l67) Tryz.underlying85 Tryz.sizeOf4 rfl rfl hxa72) (Wn.none rfl) rfl rfl ?_
       refine WR.storeArr (a := b70) H rfl rfl ⟨rfl, rfl⟩ (fun _ => by repeat (first | exact Upd.head | apply Upd.tail)) hxl73 Tryz.sizeOf4 (Wn.none rfl) ?_
       intro w H
       refine WR.nil ?_
       refine WQ.then ?_
       refine WC.seq ?_
       obtain ⟨o74, e75, h⟩ := bnd h
       refine WC.cutX (fun e w => ∃ (n76 : Int) (n77 : Int) (n78 : Int) (n79 : Int) (n80 : Int) (n81 : Int) (n82 : Int) (b83 : Bool) (M : Mem), e = [(2, ptr b2 0), (3, Value.bool b83)] ∧ St w0 M0 M [.blk b2 (.cells #[I n76, I n77, I n78, I n79, I n80, I n81, I n82] 23)] w ∧ GlF (fun w => ∃ tp p, w.var? Tryz.prog "strconv.ErrRange" = some #[.iface tp p]) M ∧ GlF (fun w => ∃ tp p, w.var? Tryz.prog "strconv.ErrSyntax" = some #[.iface tp p]) M ∧ GlF (fun w => ∃ m, w.cell? ⟨0, 0, none⟩ = some (.int .i64 m)) M ∧ some (n76, n77, n78, n79, n80, n81, n82, b83) = some o74) [] ?_ ?_ (trivial)
       ·
        refine WC.draw (m := 11) rfl rfl H ?_
        intro w H
        refine WA.take (i := 1) rfl (by kernel_rfl) (by kernel_rfl) (by kernel_rfl) (fun _ => Ex.fieldAddr Tryz.underlying23 rfl Tryz.sizeOf3 (by decide) rfl) (Wn.none rfl) rfl rfl (fun _ _ => rfl) ?_
        by_cases hk84 : (0 : Int) < n53
        ·
         rw [if_pos hk84] at e75
         obtain ⟨l85, hxl85, e75⟩ := bnd e75
         obtain ⟨l86, hxl86, e75⟩ := bnd e75
         obtain ⟨l87, hxl87, e75⟩ := bnd e75
         replace hxl86 := (chkA_some hxl86).1
         replace hxl87 := (chkA_some hxl87).1
         refine WA.two (i := 0) (j := 2) (by kernel_rfl) rfl rfl ?_ ?_
         ·
          refine WR.step (Ex.loadAgg H rfl (by repeat (first | exact List.Mem.head _ | apply List.Mem.tail)) Tryz.isAgg23 Tryz.sizeOf23 (by rfl)) (Wn.none rfl) rfl rfl ?_
          refine WR.nil (WQ.any ?_)
          refine WA.seq (fuel := 6) [2, 3, 4] rfl (by kernel_rfl) ?_
          refine WR.step (Ex.load1 H rfl (by repeat (first | exact List.Mem.head _ | apply List.Mem.tail)) Tryz.isAgg3 (by rfl)) (Wn.none rfl) rfl rfl ?_
          refine WR.stepE (v' := .bool true) (Ex.gtr rfl rfl) (congrArg Value.bool (decide_eq_true hk84)) (Wn.none rfl) rfl rfl ?_
          refine WR.step (Ex.move rfl) (Wn.none rfl) rfl rfl ?_
          refine WR.nil (WQ.any ?_)
          refine WA.take (i := 6) rfl (by kernel_rfl) (by kernel_rfl) (by kernel_rfl) (fun _ => Ex.buildArr [Value.bool true, Value.bool true, Value.bool true, Value.bool true] Tryz.underlying85 Tryz.zeroValue85 Tryz.sizeOf4 rfl (by kernel_rfl)) (Wn.some rfl rfl rfl) rfl rfl (fun _ _ => rfl) ?_
          refine WA.two (i := 5) (j := 9) (by kernel_rfl) rfl rfl ?_ ?_
          ·
           refine WR.step (Ex.loadAggA H rfl (by repeat (first | exact List.Mem.head _ | apply List.Mem.tail)) Tryz.isAgg85 Tryz.sizeOf85 hxl85) (Wn.some rfl rfl rfl) rfl rfl ?_
           refine WR.nil (WQ.any ?_)
           refine WA.take (i := 7) rfl (by kernel_rfl) (by kernel_rfl) (by kernel_rfl) (fun _ => Ex.eqlArr (enc := encBo) (l1 := l85) (l2 := ([true, true, true, true] : List Bool)) rfl rfl rfl rfl (by kernel_rfl) Tryz.underlying85 (by kernel_rfl) (by kernel_rfl) Tryz.isAgg4 (eqBo_at Tryz.underlying4) hxl86 hxl87) (Wn.some rfl rfl rfl) rfl rfl (fun _ _ => rfl) ?_
           refine WA.take (i := 8) rfl (by kernel_rfl) (by kernel_rfl) (by kernel_rfl) (fun _ => Ex.pickT rfl rfl) (Wn.none rfl) rfl rfl (fun _ _ => rfl) ?_
           refine WA.seq (fuel := 0) [9, 10] rfl (by kernel_rfl) ?_
           refine WR.store [_, _, _, _, _, _, _] H rfl rfl rfl (by repeat (first | exact Upd.head | apply Upd.tail)) Tryz.sizeOf23 rfl (by rfl) (by rfl) (Wn.none rfl) ?_
           intro w H
           refine WR.step (Ex.assign rfl) (Wn.none rfl) rfl rfl ?_
           refine WR.nil (WQ.any ?_)
           refine WA.done (by kernel_rfl) ?_
           exact WQ.meetN [(2, _), (3, _)] ⟨rfl, rfl, trivial⟩ ⟨_, _, _, _, _, _, _, _, _, rfl, (H.pick (L' := [.blk b2 (.cells #[I n55, I n53, I n39, I n61, I n62, I n63, I n69] 23)]) (by repeat (first | exact Pick.nil | refine Pick.cons (by repeat (first | exact Rem.head | apply Rem.tail)) ?_))), hg_errR, hg_errS, hg_maxl, e75⟩
          ·
           refine WR.store [_, _, _, _, _, _, _] H rfl rfl rfl (by repeat (first | exact Upd.head | apply Upd.tail)) Tryz.sizeOf23 rfl (by rfl) (by rfl) (Wn.none rfl) ?_
           intro w H
           refine WR.nil (WQ.any ?_)
           refine WA.seq (fuel := 0) [5, 7, 8, 10] rfl (by kernel_rfl) ?_
           refine WR.step (Ex.loadAggA H rfl (by repeat (first | exact List.Mem.head _ | apply List.Mem.tail)) Tryz.isAgg85 Tryz.sizeOf85 hxl85) (Wn.some rfl rfl rfl) rfl rfl ?_
           refine WR.step (Ex.eqlArr (enc := encBo) (l1 := l85) (l2 := ([true, true, true, true] : List Bool)) rfl rfl rfl rfl (by kernel_rfl) Tryz.underlying85 (by kernel_rfl) (by kernel_rfl) Tryz.isAgg4 (eqBo_at Tryz.underlying4) hxl86 hxl87) (Wn.some rfl rfl rfl) rfl rfl ?_
           refine WR.step (Ex.pickT rfl rfl) (Wn.none rfl) rfl rfl ?_
           refine WR.step (Ex.assign rfl) (Wn.none rfl) rfl rfl ?_
           refine WR.nil (WQ.any ?_)
           refine WA.done (by kernel_rfl) ?_
           exact WQ.meetN [(2, _), (3, _)] ⟨rfl, rfl, trivial⟩ ⟨_, _, _, _, _, _, _, _, _, rfl, (H.pick (L' := [.blk b2 (.cells #[I n55, I n53, I n39, I n61, I n62, I n63, I n69] 23)]) (by repeat (first | exact Pick.nil | refine Pick.cons (by repeat (first | exact Rem.head | apply Rem.tail)) ?_))), hg_errR, hg_errS, hg_maxl, e75⟩
         ·
          refine WR.step (Ex.load1 H rfl (by repeat (first | exact List.Mem.head _ | apply List.Mem.tail)) Tryz.isAgg3 (by rfl)) (Wn.none rfl) rfl rfl ?_
          refine WR.nil (WQ.any ?_)
          refine WA.takeE (v' := .bool true) (i := 3) rfl (by kernel_rfl) (by kernel_rfl) (by kernel_rfl) (fun _ => Ex.gtr rfl rfl) (congrArg Value.bool (decide_eq_true hk84)) (Wn.none rfl) rfl rfl (fun _ _ => rfl) ?_
          refine WA.take (i := 4) rfl (by kernel_rfl) (by kernel_rfl) (by kernel_rfl) (fun _ => Ex.move rfl) (Wn.none rfl) rfl rfl (fun _ _ => rfl) ?_
          refine WA.take (i := 6) rfl (by kernel_rfl) (by kernel_rfl) (by kernel_rfl) (fun _ => Ex.buildArr [Value.bool true, Value.bool true, Value.bool true, Value.bool true] Tryz.underlying85 Tryz.zeroValue85 Tryz.sizeOf4 rfl (by kernel_rfl)) (Wn.some rfl rfl rfl) rfl rfl (fun _ _ => rfl) ?_
          refine WA.two (i := 0) (j := 5) (by kernel_rfl) rfl rfl ?_ ?_
          ·
           refine WR.step (Ex.loadAgg H rfl (by repeat (first | exact List.Mem.head _ | apply List.Mem.tail)) Tryz.isAgg23 Tryz.sizeOf23 (by rfl)) (Wn.none rfl) rfl rfl ?_
           refine WR.nil (WQ.any ?_)
           refine WA.two (i := 5) (j := 9) (by kernel_rfl) rfl rfl ?_ ?_
           ·
            refine WR.step (Ex.loadAggA H rfl (by repeat (first | exact List.Mem.head _ | apply List.Mem.tail)) Tryz.isAgg85 Tryz.sizeOf85 hxl85) (Wn.some rfl rfl rfl) rfl rfl ?_
            refine WR.nil (WQ.any ?_)
            refine WA.take (i := 7) rfl (by kernel_rfl) (by kernel_rfl) (by kernel_rfl) (fun _ => Ex.eqlArr (enc := encBo) (l1 := l85) (l2 := ([true, true, true, true] : List Bool)) rfl rfl rfl rfl (by kernel_rfl) Tryz.underlying85 (by kernel_rfl) (by kernel_rfl) Tryz.isAgg4 (eqBo_at Tryz.underlying4) hxl86 hxl87) (Wn.some rfl rfl rfl) rfl rfl (fun _ _ => rfl) ?_
            refine WA.take (i := 8) rfl (by kernel_rfl) (by kernel_rfl) (by kernel_rfl) (fun _ => Ex.pickT rfl rfl) (Wn.none rfl) rfl rfl (fun _ _ => rfl) ?_
            refine WA.seq (fuel := 0) [9, 10] rfl (by kernel_rfl) ?_
            refine WR.store [_, _, _, _, _, _, _] H rfl rfl rfl (by repeat (first | exact Upd.head | apply Upd.tail)) Tryz.sizeOf23 rfl (by rfl) (by rfl) (Wn.none rfl) ?_
            intro w H
            refine WR.step (Ex.assign rfl) (Wn.none rfl) rfl rfl ?_
            refine WR.nil (WQ.any ?_)
            refine WA.done (by kernel_rfl) ?_
            exact WQ.meetN [(2, _), (3, _)] ⟨rfl, rfl, trivial⟩ ⟨_, _, _, _, _, _, _, _, _, rfl, (H.pick (L' := [.blk b2 (.cells #[I n55, I n53, I n39, I n61, I n62, I n63, I n69] 23)]) (by repeat (first | exact Pick.nil | refine Pick.cons (by repeat (first | exact Rem.head | apply Rem.tail)) ?_))), hg_errR, hg_errS, hg_maxl, e75⟩
           ·
            refine WR.store [_, _, _, _, _, _, _] H rfl rfl rfl (by repeat (first | exact Upd.head | apply Upd.tail)) Tryz.sizeOf23 rfl (by rfl) (by rfl) (Wn.none rfl) ?_
            intro w H
            refine WR.nil (WQ.any ?_)
            refine WA.seq (fuel := 0) [5, 7, 8, 10] rfl (by kernel_rfl) ?_
            refine WR.step (Ex.loadAggA H rfl (by repeat (first | exact List.Mem.head _ | apply List.Mem.tail)) Tryz.isAgg85 Tryz.sizeOf85 hxl85) (Wn.some rfl rfl rfl) rfl rfl ?_
            refine WR.step (Ex.eqlArr (enc := encBo) (l1 := l85) (l2 := ([true, true, true, true] : List Bool)) rfl rfl rfl rfl (by kernel_rfl) Tryz.underlying85 (by kernel_rfl) (by kernel_rfl) Tryz.isAgg4 (eqBo_at Tryz.underlying4) hxl86 hxl87) (Wn.some rfl rfl rfl) rfl rfl ?_
            refine WR.step (Ex.pickT rfl rfl) (Wn.none rfl) rfl rfl ?_
            refine WR.step (Ex.assign rfl) (Wn.none rfl) rfl rfl ?_
            refine WR.nil (WQ.any ?_)
            refine WA.done (by kernel_rfl) ?_
            exact WQ.meetN [(2, _), (3, _)] ⟨rfl, rfl, trivial⟩ ⟨_, _, _, _, _, _, _, _, _, rfl, (H.pick (L' := [.blk b2 (.cells #[I n55, I n53, I n39, I n61, I n62, I n63, I n69] 23)]) (by repeat (first | exact Pick.nil | refine Pick.cons (by repeat (first | exact Rem.head | apply Rem.tail)) ?_))), hg_errR, hg_errS, hg_maxl, e75⟩
          ·
           refine WR.step (Ex.loadAggA H rfl (by repeat (first | exact List.Mem.head _ | apply List.Mem.tail)) Tryz.isAgg85 Tryz.sizeOf85 hxl85) (Wn.some rfl rfl rfl) rfl rfl ?_
           refine WR.nil (WQ.any ?_)
           refine WA.take (i := 7) rfl (by kernel_rfl) (by kernel_rfl) (by kernel_rfl) (fun _ => Ex.eqlArr (enc := encBo) (l1 := l85) (l2 := ([true, true, true, true] : List Bool)) rfl rfl rfl rfl (by kernel_rfl) Tryz.underlying85 (by kernel_rfl) (by kernel_rfl) Tryz.isAgg4 (eqBo_at Tryz.underlying4) hxl86 hxl87) (Wn.some rfl rfl rfl) rfl rfl (fun _ _ => rfl) ?_
           refine WA.take (i := 8) rfl (by kernel_rfl) (by kernel_rfl) (by kernel_rfl) (fun _ => Ex.pickT rfl rfl) (Wn.none rfl) rfl rfl (fun _ _ => rfl) ?_
           refine WA.seq (fuel := 0) [0, 9, 10] rfl (by kernel_rfl) ?_
           refine WR.step (Ex.loadAgg H rfl (by repeat (first | exact List.Mem.head _ | apply List.Mem.tail)) Tryz.isAgg23 Tryz.sizeOf23 (by rfl)) (Wn.none rfl) rfl rfl ?_
           refine WR.store [_, _, _, _, _, _, _] H rfl rfl rfl (by repeat (first | exact Upd.head | apply Upd.tail)) Tryz.sizeOf23 rfl (by rfl) (by rfl) (Wn.none rfl) ?_
           intro w H
           refine WR.step (Ex.assign rfl) (Wn.none rfl) rfl rfl ?_
           refine WR.nil (WQ.any ?_)
           refine WA.done (by kernel_rfl) ?_
           exact WQ.meetN [(2, _), (3, _)] ⟨rfl, rfl, trivial⟩ ⟨_, _, _, _, _, _, _, _, _, rfl, (H.pick (L' := [.blk b2 (.cells #[I n55, I n53, I n39, I n61, I n62, I n63, I n69] 23)]) (by repeat (first | exact Pick.nil | refine Pick.cons (by repeat (first | exact Rem.head | apply Rem.tail)) ?_))), hg_errR, hg_errS, hg_maxl, e75⟩
        ·
         rw [if_neg hk84] at e75
         refine WA.two (i := 0) (j := 2) (by kernel_rfl) rfl rfl ?_ ?_
         ·
          refine WR.step (Ex.loadAgg H rfl (by repeat (first | exact List.Mem.head _ | apply List.Mem.tail)) Tryz.isAgg23 Tryz.sizeOf23 (by rfl)) (Wn.none rfl) rfl rfl ?_
          refine WR.nil (WQ.any ?_)
          refine WA.seq (fuel := 6) [2, 3, 4] rfl (by kernel_rfl) ?_
          refine WR.step (Ex.load1 H rfl (by repeat (first | exact List.Mem.head _ | apply List.Mem.tail)) Tryz.isAgg3 (by rfl)) (Wn.none rfl) rfl rfl ?_
          refine WR.stepE (v' := .bool false) (Ex.gtr rfl rfl) (congrArg Value.bool (decide_eq_false hk84)) (Wn.none rfl) rfl rfl ?_
          refine WR.step (Ex.move rfl) (Wn.none rfl) rfl rfl ?_
          refine WR.nil (WQ.any ?_)
          refine WA.takes (fuel := 3) [5, 6, 7] rfl (by kernel_rfl) (by kernel_rfl) rfl ?_
          refine WA.take (i := 8) rfl (by kernel_rfl) (by kernel_rfl) (by kernel_rfl) (fun _ => Ex.pickF rfl rfl) (Wn.none rfl) rfl rfl (fun _ _ => rfl) ?_
          refine WA.seq (fuel := 0) [9, 10] rfl (by kernel_rfl) ?_
          refine WR.store [_, _, _, _, _, _, _] H rfl rfl rfl (by repeat (first | exact Upd.head | apply Upd.tail)) Tryz.sizeOf23 rfl (by rfl) (by rfl) (Wn.none rfl) ?_
          intro w H
          refine WR.step (Ex.assign rfl) (Wn.none rfl) rfl rfl ?_
          refine WR.nil (WQ.any ?_)
          refine WA.done (by kernel_rfl) ?_
          exact WQ.meetN [(2, _), (3, _)] ⟨rfl, rfl, trivial⟩ ⟨_, _, _, _, _, _, _, _, _, rfl, (H.pick (L' := [.blk b2 (.cells #[I n55, I n53, I n39, I n61, I n62, I n63, I n69] 23)]) (by repeat (first | exact Pick.nil | refine Pick.cons (by repeat (first | exact Rem.head | apply Rem.tail)) ?_))), hg_errR, hg_errS, hg_maxl, e75⟩
         ·
          refine WR.step (Ex.load1 H rfl (by repeat (first | exact List.Mem.head _ | apply List.Mem.tail)) Tryz.isAgg3 (by rfl)) (Wn.none rfl) rfl rfl ?_
          refine WR.nil (WQ.any ?_)
          refine WA.takeE (v' := .bool false) (i := 3) rfl (by kernel_rfl) (by kernel_rfl) (by kernel_rfl) (fun _ => Ex.gtr rfl rfl) (congrArg Value.bool (decide_eq_false hk84)) (Wn.none rfl) rfl rfl (fun _ _ => rfl) ?_
          refine WA.take (i := 4) rfl (by kernel_rfl) (by kernel_rfl) (by kernel_rfl) (fun _ => Ex.move rfl) (Wn.none rfl) rfl rfl (fun _ _ => rfl) ?_
          refine WA.takes (fuel := 4) [5, 6, 7] rfl (by kernel_rfl) (by kernel_rfl) rfl ?_
          refine WA.take (i := 8) rfl (by kernel_rfl) (by kernel_rfl) (by kernel_rfl) (fun _ => Ex.pickF rfl rfl) (Wn.none rfl) rfl rfl (fun _ _ => rfl) ?_
          refine WA.seq (fuel := 0) [0, 9, 10] rfl (by kernel_rfl) ?_
          refine WR.step (Ex.loadAgg H rfl (by repeat (first | exact List.Mem.head _ | apply List.Mem.tail)) Tryz.isAgg23 Tryz.sizeOf23 (by rfl)) (Wn.none rfl) rfl rfl ?_
          refine WR.store [_, _, _, _, _, _, _] H rfl rfl rfl (by repeat (first | exact Upd.head | apply Upd.tail)) Tryz.sizeOf23 rfl (by rfl) (by rfl) (Wn.none rfl) ?_
          intro w H
          refine WR.step (Ex.assign rfl) (Wn.none rfl) rfl rfl ?_
          refine WR.nil (WQ.any ?_)
          refine WA.done (by kernel_rfl) ?_
          exact WQ.meetN [(2, _), (3, _)] ⟨rfl, rfl, trivial⟩ ⟨_, _, _, _, _, _, _, _, _, rfl, (H.pick (L' := [.blk b2 (.cells #[I n55, I n53, I n39, I n61, I n62, I n63, I n69] 23)]) (by repeat (first | exact Pick.nil | refine Pick.cons (by repeat (first | exact Rem.head | apply Rem.tail)) ?_))), hg_errR, hg_errS, hg_maxl, e75⟩
       ·
        rintro e w ⟨n76, n77, n78, n79, n80, n81, n82, b83, M, rfl, H, hg_errR, hg_errS, hg_maxl, q88⟩
        obtain rfl := Option.some.inj q88
        try dsimp only at h
        refine WQ.then ?_
        refine WC.ret ?_
        (repeat (first | refine WQ.thenRet ?_ | refine WQ.inBlockRet ?_ | refine WQ.cutRet ?_ | refine WQ.scRet ?_))
        obtain rfl := Option.some.inj h
        exact WQ.ret2 rfl ⟨_, rfl, H.loadAgg (by repeat (first | exact List.Mem.head _ | apply List.Mem.tail)) Tryz.isAgg23 Tryz.sizeOf23 (by rfl)⟩ rfl H.ext rfl
theorem dates_Parse_ct {p0 : List UInt8} {r : ((Int × Int × Int × Int × Int × Int × Int) × (Int × Int))} (h : dates_Parse p0 = some r) : Ct Tryz.prog 19 [S p0] (fun M => GlF (fun w => ∃ tp p, w.var? Tryz.prog "strconv.ErrRange" = some #[.iface tp p]) M ∧ GlF (fun w => ∃ tp p, w.var? Tryz.prog "strconv.ErrSyntax" = some #[.iface tp p]) M ∧ GlF (fun w => ∃ m, w.cell? ⟨0, 0, none⟩ = some (.int .i64 m)) M) (fun v M => v = Value.tuple #[Value.agg #[I r.1.1, I r.1.2.1, I r.1.2.2.1, I r.1.2.2.2.1, I r.1.2.2.2.2.1, I r.1.2.2.2.2.2.1, I r.1.2.2.2.2.2.2], Value.agg #[I r.2.1, I r.2.2]]) := by
  refine Ct.of Tryz.func19 (enters Tryz.func19 (by kernel_rfl) rfl) rfl rfl rfl ?_
  intro w0 M0 H hp
  obtain ⟨hg_errR, hg_errS, hg_maxl⟩ := hp
  unfold dates_Parse at h
  refine WC.seq ?_
  refine WC.region ?_
  refine WR.alloc [_, _, _, _, _, _, _] H Tryz.zeroValue23 rfl (Wn.none rfl) rfl ?_
  intro b2 w H
  refine WR.alloc [_, _] H Tryz.zeroValue26 rfl (Wn.none rfl) rfl ?_
  intro b3 w H
  refine WR.nil ?_
  refine WQ.then ?_
  refine WC.seq ?_
  refine WC.seq ?_
  refine WC.region ?_
  refine WR.step (Ex.move rfl) (Wn.none rfl) rfl rfl ?_
  refine WR.step (Ex.lenStr Tryz.underlying9 rfl) (Wn.none rfl) rfl rfl ?_
  refine WR.step (Ex.gtr rfl rfl) (Wn.none rfl) rfl rfl ?_
  refine WR.nil ?_
  refine WQ.then ?_
  refine WC.condB rfl (fun hk1 => ?_) (fun hk1 => ?_)
  ·
   replace hk1 : (4000 : Int) < (p0.length : Int) := of_decide_eq_true hk1
   rw [if_pos hk1] at h
   refine WC.seq ?_
   obtain ⟨⟨n2, n3⟩, hx4, h⟩ := bnd h
   try dsimp only at h
   refine WC.region ?_
   refine WR.step (Ex.build [I 0, I 0, I 0, I 0, I 0, I 0, I 0] Tryz.underlying23 Tryz.zeroValue23 (xplaces23 Tryz.underlying23) rfl (by kernel_rfl)) (Wn.none rfl) rfl rfl ?_
   refine WR.call H (basic_Fault_ct hx4) rfl trivial (Wn.none rfl) rfl ?_
   intro v12 M w H hle hR
   replace hg_errR := hg_errR.mono hle
   replace hg_errS := hg_errS.mono hle
   replace hg_maxl := hg_maxl.mono hle
   try dsimp only at hR
   obtain rfl := hR
   refine WR.store [_, _, _, _, _, _, _] H rfl rfl rfl (by repeat (first | exact Upd.head | apply Upd.tail)) Tryz.sizeOf23 rfl (by rfl) (by rfl) (Wn.none rfl) ?_
   intro w H
   refine WR.store [_, _] H rfl rfl rfl (by repeat (first | exact Upd.head | apply Upd.tail)) Tryz.sizeOf26 rfl (by rfl) (by rfl) (Wn.none rfl) ?_
   intro w H
   refine WR.nil ?_
   refine WQ.then ?_
   refine WC.ret ?_
   (repeat (first | refine WQ.thenRet ?_ | refine WQ.inBlockRet ?_ | refine WQ.cutRet ?_ | refine WQ.scRet ?_))
   obtain rfl := Option.some.inj h
   exact WQ.ret2 rfl ⟨_, rfl, H.loadAgg (by repeat (first | exact List.Mem.head _ | apply List.Mem.tail)) Tryz.isAgg23 Tryz.sizeOf23 (by rfl)⟩ ⟨_, rfl, H.loadAgg (by repeat (first | exact List.Mem.head _ | apply List.Mem.tail)) Tryz.isAgg26 Tryz.sizeOf26 (by rfl)⟩ H.ext rfl
  ·
   replace hk1 : ¬ ((4000 : Int) < (p0.length : Int)) := of_decide_eq_false hk1
   rw [if_neg hk1] at h
   refine WC.skip ?_
   refine WQ.then ?_
   refine WC.seq ?_
   obtain ⟨l5, hx6, h⟩ := bnd h
   refine WC.region ?_
   refine WR.step (Ex.move rfl) (Wn.none rfl) rfl rfl ?_
   refine WR.call H (strings_FieldsFunc_ct hx6) rfl ((fun _ _ h => FnV.of (dates_Parse_1_ct h) (fun _ _ => trivial))) (Wn.none rfl) rfl ?_
   intro v14 M w H hle hR
   replace hg_errR := hg_errR.mono hle
   replace hg_errS := hg_errS.mono hle
   replace hg_maxl := hg_maxl.mono hle
   have f14_0 := hR
   refine WR.step (Ex.assign rfl) (Wn.none rfl) rfl rfl ?_
   refine WR.nil ?_
   refine WQ.then ?_
   refine WC.seq ?_
   obtain ⟨⟨⟨n7, n8, n9, n10, n11, n12, n13⟩, b14⟩, hx15, h⟩ := bnd h
   try dsimp only at h
   refine WC.region ?_
   refine WR.step (Ex.move rfl) (Wn.none rfl) rfl rfl ?_
   refine WR.call H (dates_read_ct hx15) rfl ⟨hg_errR, hg_errS, hg_maxl, f14_0⟩ (Wn.none rfl) rfl ?_
   intro v17 M w H hle hR
   replace hg_errR := hg_errR.mono hle
   replace hg_errS := hg_errS.mono hle
   replace hg_maxl := hg_maxl.mono hle
   replace f14_0 := f14_0.mono hle
   try dsimp only at hR
   obtain rfl := hR
   refine WR.step (Ex.move rfl) (Wn.none rfl) rfl rfl ?_
   refine WR.step (Ex.extract rfl rfl) (Wn.none rfl) rfl rfl ?_
   refine WR.step (Ex.extract rfl rfl) (Wn.none rfl) rfl rfl ?_
   refine WR.alloc [_, _, _, _, _, _, _] H Tryz.zeroValue23 rfl (Wn.none rfl) rfl ?_
   intro b5 w H
   refine WR.store [_, _, _, _, _, _, _] H rfl rfl rfl (by repeat (first | exact Upd.head | apply Upd.tail)) Tryz.sizeOf23 rfl (by rfl) (by rfl) (Wn.none rfl) ?_
   intro w H
   refine WR.step (Ex.assign rfl) (Wn.none rfl) rfl rfl ?_
   refine WR.nil ?_
   refine WQ.then ?_
   refine WC.seq ?_
   refine WC.seq ?_
   refine WC.region ?_
   refine WR.step (Ex.move rfl) (Wn.none rfl) rfl rfl ?_
   refine WR.step (Ex.not rfl) (Wn.none rfl) rfl rfl ?_
   refine WR.nil ?_
   refine WQ.then ?_
   refine WC.condB rfl (fun hk16 => ?_) (fun hk16 => ?_)
   ·
    replace hk16 : b14 = false := by simpa using hk16
    subst hk16
    rw [if_neg Bool.false_ne_true] at h
    refine WC.seq ?_
    obtain ⟨⟨n17, n18⟩, hx19, h⟩ := bnd h
    try dsimp only at h
    refine WC.region ?_
    refine WR.step (Ex.build [I 0, I 0, I 0, I 0, I 0, I 0, I 0] Tryz.underlying23 Tryz.zeroValue23 (xplaces23 Tryz.underlying23) rfl (by kernel_rfl)) (Wn.none rfl) rfl rfl ?_
    refine WR.call H (basic_Fault_ct hx19) rfl trivial (Wn.none rfl) rfl ?_
    intro v23 M w H hle hR
    replace hg_errR := hg_errR.mono hle
    replace hg_errS := hg_errS.mono hle
    replace hg_maxl := hg_maxl.mono hle
    replace f14_0 := f14_0.mono hle
    try dsimp only at hR
    obtain rfl := hR
    refine WR.store [_, _, _, _, _, _, _] H rfl rfl rfl (by repeat (first | exact Upd.head | apply Upd.tail)) Tryz.sizeOf23 rfl (by rfl) (by rfl) (Wn.none rfl) ?_
    intro w H
    refine WR.store [_, _] H rfl rfl rfl (by repeat (first | exact Upd.head | apply Upd.tail)) Tryz.sizeOf26 rfl (by rfl) (by rfl) (Wn.none rfl) ?_
    intro w H
    refine WR.nil ?_
    refine WQ.then ?_
    refine WC.ret ?_
    (repeat (first | refine WQ.thenRet ?_ | refine WQ.inBlockRet ?_ | refine WQ.cutRet ?_ | refine WQ.scRet ?_))
    obtain rfl := Option.some.inj h
    exact WQ.ret2 rfl ⟨_, rfl, H.loadAgg (by repeat (first | exact List.Mem.head _ | apply List.Mem.tail)) Tryz.isAgg23 Tryz.sizeOf23 (by rfl)⟩ ⟨_, rfl, H.loadAgg (by repeat (first | exact List.Mem.head _ | apply List.Mem.tail)) Tryz.isAgg26 Tryz.sizeOf26 (by rfl)⟩ H.ext rfl
   ·
    replace hk16 : b14 = true := by simpa using hk16
    subst hk16
    rw [if_pos rfl] at h
    refine WC.skip ?_
    refine WQ.then ?_
    refine WC.seq ?_
    refine WC.seq ?_
    obtain ⟨⟨n20, n21⟩, hx22, h⟩ := bnd h
    try dsimp only at h
    refine WC.region ?_
    refine WR.step (Ex.loadAgg H rfl (by repeat (first | exact List.Mem.head _ | apply List.Mem.tail)) Tryz.isAgg23 Tryz.sizeOf23 (by rfl)) (Wn.none rfl) rfl rfl ?_
    refine WR.call H (dates_Validate_ct hx22) rfl trivial (Wn.none rfl) rfl ?_
    intro v25 M w H hle hR
    replace hg_errR := hg_errR.mono hle
    replace hg_errS := hg_errS.mono hle
    replace hg_maxl := hg_maxl.mono hle
    replace f14_0 := f14_0.mono hle
    try dsimp only at hR
    obtain rfl := hR
    refine WR.alloc [_, _] H Tryz.zeroValue26 rfl (Wn.none rfl) rfl ?_
    intro b7 w H
    refine WR.store [_, _] H rfl rfl rfl (by repeat (first | exact Upd.head | apply Upd.tail)) Tryz.sizeOf26 rfl (by rfl) (by rfl) (Wn.none rfl) ?_
    intro w H
    refine WR.nil ?_
    refine WQ.then ?_
    refine WC.seq ?_
    obtain ⟨b23, hx24, h⟩ := bnd h
    refine WC.region ?_
    refine WR.step (Ex.loadAgg H rfl (by repeat (first | exact List.Mem.head _ | apply List.Mem.tail)) Tryz.isAgg26 Tryz.sizeOf26 (by rfl)) (Wn.none rfl) rfl rfl ?_
    refine WR.call H (basic_Failed_ct hx24) rfl trivial (Wn.none rfl) rfl ?_
    intro v27 M w H hle hR
    replace hg_errR := hg_errR.mono hle
    replace hg_errS := hg_errS.mono hle
    replace hg_maxl := hg_maxl.mono hle
    replace f14_0 := f14_0.mono hle
    obtain rfl := hR
    refine WR.nil ?_
    refine WQ.then ?_
    refine WC.condB rfl (fun hk25 => ?_) (fun hk25 => ?_)
    ·
     subst hk25
     rw [if_pos rfl] at h
     refine WC.seq ?_
     refine WC.cutP (fun e w => ∃  (M : Mem), e = [(2, ptr b2 0), (3, ptr b3 0)] ∧ St w0 M0 M [.blk b2 (.cells #[I 0, I 0, I 0, I 0, I 0, I 0, I 0] 23), .blk b3 (.cells #[I n20, I n21] 26)] w ∧ GlF (fun w => ∃ tp p, w.var? Tryz.prog "strconv.ErrRange" = some #[.iface tp p]) M ∧ GlF (fun w => ∃ tp p, w.var? Tryz.prog "strconv.ErrSyntax" = some #[.iface tp p]) M ∧ GlF (fun w => ∃ m, w.cell? ⟨0, 0, none⟩ = some (.int .i64 m)) M) ?_ ?_
     ·
      refine WC.draw (m := 4) rfl rfl H ?_
      intro w H
      refine WA.take (i := 0) rfl (by kernel_rfl) (by kernel_rfl) (by kernel_rfl) (fun _ => Ex.build [I 0, I 0, I 0, I 0, I 0, I 0, I 0] Tryz.underlying23 Tryz.zeroValue23 (xplaces23 Tryz.underlying23) rfl (by kernel_rfl)) (Wn.none rfl) rfl rfl (fun _ _ => rfl) ?_
      refine WA.two (i := 1) (j := 2) (by kernel_rfl) rfl rfl ?_ ?_
      ·
       refine WR.step (Ex.loadAgg H rfl (by repeat (first | exact List.Mem.head _ | apply List.Mem.tail)) Tryz.isAgg26 Tryz.sizeOf26 (by rfl)) (Wn.none rfl) rfl rfl ?_
       refine WR.nil (WQ.any ?_)
       refine WA.seq (fuel := 0) [2, 3] rfl (by kernel_rfl) ?_
       refine WR.store [_, _, _, _, _, _, _] H rfl rfl rfl (by repeat (first | exact Upd.head | apply Upd.tail)) Tryz.sizeOf23 rfl (by rfl) (by rfl) (Wn.none rfl) ?_
       intro w H
       refine WR.store [_, _] H rfl rfl rfl (by repeat (first | exact Upd.head | apply Upd.tail)) Tryz.sizeOf26 rfl (by rfl) (by rfl) (Wn.none rfl) ?_
       intro w H
       refine WR.nil (WQ.any ?_)
       refine WA.done (by kernel_rfl) ?_
       exact WQ.meetP [(2, _), (3, _)] ⟨rfl, rfl, trivial⟩ ⟨_, rfl, (H.pick (L' := [.blk b2 (.cells #[I 0, I 0, I 0, I 0, I 0, I 0, I 0] 23), .blk b3 (.cells #[I n20, I n21] 26)]) (by repeat (first | exact Pick.nil | refine Pick.cons (by repeat (first | exact Rem.head | apply Rem.tail)) ?_))), hg_errR, hg_errS, hg_maxl⟩
      ·
       refine WR.store [_, _, _, _, _, _, _] H rfl rfl rfl (by repeat (first | exact Upd.head | apply Upd.tail)) Tryz.sizeOf23 rfl (by rfl) (by rfl) (Wn.none rfl) ?_
       intro w H
       refine WR.nil (WQ.any ?_)
       refine WA.seq (fuel := 0) [1, 3] rfl (by kernel_rfl) ?_
       refine WR.step (Ex.loadAgg H rfl (by repeat (first | exact List.Mem.head _ | apply List.Mem.tail)) Tryz.isAgg26 Tryz.sizeOf26 (by rfl)) (Wn.none rfl) rfl rfl ?_
       refine WR.store [_, _] H rfl rfl rfl (by repeat (first | exact Upd.head | apply Upd.tail)) Tryz.sizeOf26 rfl (by rfl) (by rfl) (Wn.none rfl) ?_
       intro w H
       refine WR.nil (WQ.any ?_)
       refine WA.done (by kernel_rfl) ?_
       exact WQ.meetP [(2, _), (3, _)] ⟨rfl, rfl, trivial⟩ ⟨_, rfl, (H.pick (L' := [.blk b2 (.cells #[I 0, I 0, I 0, I 0, I 0, I 0, I 0] 23), .blk b3 (.cells #[I n20, I n21] 26)]) (by repeat (first | exact Pick.nil | refine Pick.cons (by repeat (first | exact Rem.head | apply Rem.tail)) ?_))), hg_errR, hg_errS, hg_maxl⟩
     ·
      rintro e w ⟨M, rfl, H, hg_errR, hg_errS, hg_maxl⟩
      refine WQ.then ?_
      refine WC.ret ?_
      (repeat (first | refine WQ.thenRet ?_ | refine WQ.inBlockRet ?_ | refine WQ.cutRet ?_ | refine WQ.scRet ?_))
      obtain rfl := Option.some.inj h
      exact WQ.ret2 rfl ⟨_, rfl, H.loadAgg (by repeat (first | exact List.Mem.head _ | apply List.Mem.tail)) Tryz.isAgg23 Tryz.sizeOf23 (by rfl)⟩ ⟨_, rfl, H.loadAgg (by repeat (first | exact List.Mem.head _ | apply List.Mem.tail)) Tryz.isAgg26 Tryz.sizeOf26 (by rfl)⟩ H.ext rfl
    ·
     subst hk25
     rw [if_neg Bool.false_ne_true] at h
     refine WC.skip ?_
     refine WQ.then ?_
     refine WC.seq ?_
     obtain ⟨⟨n26, n27⟩, hx28, h⟩ := bnd h
     try dsimp only at h
     refine WC.cutP (fun e w => ∃  (M : Mem), e = [(2, ptr b2 0), (3, ptr b3 0)] ∧ St w0 M0 M [.blk b2 (.cells #[I n7, I n8, I n9, I n10, I n11, I n12, I n13] 23), .blk b3 (.cells #[I n26, I n27] 26)] w ∧ GlF (fun w => ∃ tp p, w.var? Tryz.prog "strconv.ErrRange" = some #[.iface tp p]) M ∧ GlF (fun w => ∃ tp p, w.var? Tryz.prog "strconv.ErrSyntax" = some #[.iface tp p]) M ∧ GlF (fun w => ∃ m, w.cell? ⟨0, 0, none⟩ = some (.int .i64 m)) M) ?_ ?_
     ·
      refine WC.draw (m := 4) rfl rfl H ?_
      intro w H
      refine WA.two (i := 0) (j := 1) (by kernel_rfl) rfl rfl ?_ ?_
      ·
       refine WR.step (Ex.loadAgg H rfl (by repeat (first | exact List.Mem.head _ | apply List.Mem.tail)) Tryz.isAgg23 Tryz.sizeOf23 (by rfl)) (Wn.none rfl) rfl rfl ?_
       refine WR.nil (WQ.any ?_)
       refine WA.seq (fuel := 0) [1, 2, 3] rfl (by kernel_rfl) ?_
       refine WR.call H (basic_None_ct hx28) rfl trivial (Wn.none rfl) rfl ?_
       intro v31 M w H hle hR
       replace hg_errR := hg_errR.mono hle
       replace hg_errS := hg_errS.mono hle
       replace hg_maxl := hg_maxl.mono hle
       replace f14_0 := f14_0.mono hle
       try dsimp only at hR
       obtain rfl := hR
       refine WR.store [_, _, _, _, _, _, _] H rfl rfl rfl (by repeat (first | exact Upd.head | apply Upd.tail)) Tryz.sizeOf23 rfl (by rfl) (by rfl) (Wn.none rfl) ?_
       intro w H
       refine WR.store [_, _] H rfl rfl rfl (by repeat (first | exact Upd.head | apply Upd.tail)) Tryz.sizeOf26 rfl (by rfl) (by rfl) (Wn.none rfl) ?_
       intro w H
       refine WR.nil (WQ.any ?_)
       refine WA.done (by kernel_rfl) ?_
       exact WQ.meetP [(2, _), (3, _)] ⟨rfl, rfl, trivial⟩ ⟨_, rfl, (H.pick (L' := [.blk b2 (.cells #[I n7, I n8, I n9, I n10, I n11, I n12, I n13] 23), .blk b3 (.cells #[I n26, I n27] 26)]) (by repeat (first | exact Pick.nil | refine Pick.cons (by repeat (first | exact Rem.head | apply Rem.tail)) ?_))), hg_errR, hg_errS, hg_maxl⟩
      ·
       refine WR.call H (basic_None_ct hx28) rfl trivial (Wn.none rfl) rfl ?_
       intro v31 M w H hle hR
       replace hg_errR := hg_errR.mono hle
       replace hg_errS := hg_errS.mono hle
       replace hg_maxl := hg_maxl.mono hle
       replace f14_0 := f14_0.mono hle
       try dsimp only at hR
       obtain rfl := hR
       refine WR.nil (WQ.any ?_)
       refine WA.seq (fuel := 0) [0, 2, 3] rfl (by kernel_rfl) ?_
       refine WR.step (Ex.loadAgg H rfl (by repeat (first | exact List.Mem.head _ | apply List.Mem.tail)) Tryz.isAgg23 Tryz.sizeOf23 (by rfl)) (Wn.none rfl) rfl rfl ?_
       refine WR.store [_, _, _, _, _, _, _] H rfl rfl rfl (by repeat (first | exact Upd.head | apply Upd.tail)) Tryz.sizeOf23 rfl (by rfl) (by rfl) (Wn.none rfl) ?_
       intro w H
       refine WR.store [_, _] H rfl rfl rfl (by repeat (first | exact Upd.head | apply Upd.tail)) Tryz.sizeOf26 rfl (by rfl) (by rfl) (Wn.none rfl) ?_
       intro w H
       refine WR.nil (WQ.any ?_)
       refine WA.done (by kernel_rfl) ?_
       exact WQ.meetP [(2, _), (3, _)] ⟨rfl, rfl, trivial⟩ ⟨_, rfl, (H.pick (L' := [.blk b2 (.cells #[I n7, I n8, I n9, I n10, I n11, I n12, I n13] 23), .blk b3 (.cells #[I n26, I n27] 26)]) (by repeat (first | exact Pick.nil | refine Pick.cons (by repeat (first | exact Rem.head | apply Rem.tail)) ?_))), hg_errR, hg_errS, hg_maxl⟩
     ·
      rintro e w ⟨M, rfl, H, hg_errR, hg_errS, hg_maxl⟩
      refine WQ.then ?_
      refine WC.ret ?_
      (repeat (first | refine WQ.thenRet ?_ | refine WQ.inBlockRet ?_ | refine WQ.cutRet ?_ | refine WQ.scRet ?_))
      obtain rfl := Option.some.inj h
      exact WQ.ret2 rfl ⟨_, rfl, H.loadAgg (by repeat (first | exact List.Mem.head _ | apply List.Mem.tail)) Tryz.isAgg23 Tryz.sizeOf23 (by rfl)⟩ ⟨_, rfl, H.loadAgg (by repeat (first | exact List.Mem.head _ | apply List.Mem.tail)) Tryz.isAgg26 Tryz.sizeOf26 (by rfl)⟩ H.ext rfl
end Go.Proofs.YtlopnlagpdchiaaGreatDoor
