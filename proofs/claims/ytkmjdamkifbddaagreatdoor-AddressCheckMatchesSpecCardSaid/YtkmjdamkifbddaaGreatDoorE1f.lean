/-
  Kct4, Aa, Ab: own texts of this repository (wip/tpl, wip/plans), merged and shaken by wip/tools/pack.py.
-/
import Derived.KernelRfl
import Derived.Test.YtkmjdamkifbddaaGreatDoorE1e
set_option maxRecDepth 100000
set_option linter.unusedVariables false
set_option linter.unusedSimpArgs false
section
namespace Go.Proofs.YtkmjdamkifbddaaGreatDoor
open Go Go.RowKit Go.Ph Go.Ph.Pl Go.Ph.Pf
theorem address_All_ct {p0 : List (List UInt8 × Bool × List (List UInt8 × List UInt8 × List UInt8))} {vp0 : Value} {r : (List (List UInt8 × List UInt8 × List UInt8) × (Int × Int))} (h : address_All p0 = some r) : Ct Tryz.prog 14 [vp0] (fun M => GlF (fun w => ∃ m, w.cell? ⟨2, 0, none⟩ = some (.int .i64 m)) M ∧ Tabs M ∧ SlR xrl34 M vp0 p0) (fun v M => ∃ x0, v = Value.tuple #[x0, Value.agg #[I r.2.1, I r.2.2]] ∧ SlS M 3 xenc24 x0 r.1) := by
  refine Ct.of Tryz.func14 (enters Tryz.func14 (by kernel_rfl) rfl) rfl rfl rfl ?_
  intro w0 M0 H hp
  obtain ⟨hg_maxl, hg_tabs, hp0⟩ := hp
  unfold address_All at h
  refine SQ (RG (AS rfl rfl (WR.alloc [_, _] H Tryz.zeroValue27 rfl (Wn.none rfl) rfl ?_)))
  intro bk3 w H
  refine NL (TN (SQ (SQ ?_)))
  obtain ⟨⟨n1, n2⟩, hx3, h⟩ := bnd h
  try dsimp only at h
  refine RG (MV rfl rfl (WR.call H (address_Check_ct hx3) rfl ⟨hg_maxl, hg_tabs, hp0⟩ (Wn.none rfl) rfl ?_))
  intro v9 M w H hle hR
  replace hg_maxl := hg_maxl.mono hle
  replace hg_tabs := hg_tabs.mono hle
  replace hp0 := hp0.mono hle
  try dsimp only at hR
  obtain rfl := hR
  refine WR.alloc [_, _] H Tryz.zeroValue27 rfl (Wn.none rfl) rfl ?_
  intro bk4 w H
  refine WR.store [_, _] H rfl rfl rfl (by repeat first | exact .head | apply Upd.tail) Tryz.sizeOf27 rfl (by rfl) (by rfl) (Wn.none rfl) ?_
  intro w H
  refine NL (TN (SQ ?_))
  obtain ⟨b4, hx5, h⟩ := bnd h
  refine RG (ST (Ex.loadAgg H rfl (by repeat first | exact kMh | apply kMt) Tryz.isAgg27 Tryz.sizeOf27 (by rfl)) rfl ?_)
  refine WR.call H (basic_Failed_ct hx5) rfl trivial (Wn.none rfl) rfl ?_
  intro v11 M w H hle hR
  replace hg_maxl := hg_maxl.mono hle
  replace hg_tabs := hg_tabs.mono hle
  replace hp0 := hp0.mono hle
  obtain rfl := hR
  refine NL (TN ?_)
  refine WC.condB rfl (fun hk6 => ?_) (fun hk6 => ?_)
  ·
   subst hk6
   rw [if_pos rfl] at h
   refine SQ (WC.draw (m := 3) rfl rfl H ?_)
   intro w H
   refine WA.take (i := 1) rfl (by kernel_rfl) (by kernel_rfl) (by kernel_rfl) (fun _ => Ex.assign rfl) (Wn.none rfl) rfl rfl (fun _ _ => rfl) (WA.seq (fuel := 0) [0, 2] rfl (by kernel_rfl) (ST (Ex.loadAgg H rfl (by repeat first | exact kMh | apply kMt) Tryz.isAgg27 Tryz.sizeOf27 (by rfl)) rfl ?_))
   refine WR.store [_, _] H rfl rfl rfl (by repeat first | exact .head | apply Upd.tail) Tryz.sizeOf27 rfl (by rfl) (by rfl) (Wn.none rfl) ?_
   intro w H
   refine NA (WA.done (by kernel_rfl) (TN (RT ?_)))
   obtain rfl := oI h
   exact WQ.ret2 rfl rfl ⟨_, rfl, H.loadAgg (by repeat first | exact kMh | apply kMt) Tryz.isAgg27 Tryz.sizeOf27 (by rfl)⟩ H.ext (⟨_, rfl, (SlS.nil _ _ (fun _ => rfl))⟩)
  ·
   subst hk6
   rw [if_neg Bool.false_ne_true] at h
   refine SK (TN (SQ (RG (AS rfl rfl (NL (TN (SQ (SQ (RG (MV rfl rfl (ST (Ex.lenSlR Tryz.underlying22 hp0 rfl) rfl (MV rfl rfl (NL (TN ?_))))))))))))))
   obtain ⟨o7, e8, h⟩ := bnd h
   refine WC.cutX (fun e w => ∃ (l10 : List (List UInt8 × List UInt8 × List UInt8)) (v11 : Value) (M : Mem), e = [(3, ptr bk3 0), (5, v11)] ∧ St w0 M0 M [.blk bk3 (.cells #[I 0, I 0] 27), RowS 24 3 xenc24 v11 l10] w ∧ GlF (fun w => ∃ m, w.cell? ⟨2, 0, none⟩ = some (.int .i64 m)) M ∧ Tabs M ∧ some l10 = some o7) [] ?_ ?_ (trivial)
   ·
    refine BL ?_
    replace H := H.newRowS 24 3 xenc24
    refine WC.loopP (fun m e w => ∃ (l13 : List (List UInt8 × List UInt8 × List UInt8)) (v14 : Value) (n15 : Int) (M : Mem), e = [(3, ptr bk3 0), (5, v14), (13, vp0), (14, I (p0.length : Int)), (15, I n15)] ∧ St w0 M0 M [.blk bk3 (.cells #[I 0, I 0] 27), RowS 24 3 xenc24 v14 l13] w ∧ GlF (fun w => ∃ m, w.cell? ⟨2, 0, none⟩ = some (.int .i64 m)) M ∧ Tabs M ∧ SlR xrl34 M vp0 p0 ∧ address_All_L1 p0 m l13 n15 = some o7) FU [(3, _), (5, _), (13, _), (14, _), (15, _)] ⟨rfl, rfl, rfl, rfl, rfl, trivial⟩ ⟨_, _, _, _, rfl, (H.pick (L' := [.blk bk3 (.cells #[I 0, I 0] 27), RowS 24 3 xenc24 (Value.slice none 0 0) []]) (by repeat first | exact kPn | refine kPc (by repeat first | exact .head | apply Rem.tail) ?_)), hg_maxl, hg_tabs, hp0, e8⟩ ?_
    rintro m16 e w ⟨l13, v14, n15, M, rfl, H, hg_maxl, hg_tabs, hp0, e8⟩
    rcases m16 with _ | m16
    · rw [address_All_L1] at e8; cases e8
    rw [address_All_L1] at e8
    refine SQ (RG (ST (Ex.lss rfl rfl) rfl (NL (TN (SQ ?_)))))
    refine WC.condB rfl (fun hk18 => ?_) (fun hk18 => ?_)
    ·
     replace hk18 : n15 < (p0.length : Int) := of_decide_eq_true hk18
     rw [if_pos hk18] at e8
     refine SK (TN (SQ (BL (SQ ?_))))
     obtain ⟨a19, hxa19, e8⟩ := bnd e8
     obtain ⟨bk17, o17, fq17, ha17, hc17, hr17⟩ := hp0.atC hxa19
     obtain ⟨f17_0, f17_1, q17_2⟩ := fq17
     replace hr17 : f17_0 = a19.1 ∧ f17_1 = a19.2.1 ∧ SlS M 3 xenc24 (hv q17_2) a19.2.2 := hr17
     obtain ⟨rfl, rfl, hs17_2⟩ := hr17
     refine RG (ST (Ex.idxAt ha17 Tryz.underlying22 Tryz.sizeOf34 rfl rfl) rfl (ST (Ex.loadAggM H rfl hc17 Tryz.isAgg34 Tryz.sizeOf34 (by rfl)) rfl ?_))
     refine WR.alloc [_, _, _] H Tryz.zeroValue34 rfl (Wn.none rfl) rfl ?_
     intro bk7 w H
     refine WR.store [_, _, _] H rfl rfl rfl (by repeat first | exact .head | apply Upd.tail) Tryz.sizeOf34 rfl (by rfl) (by simp only [List.all_cons, List.all_nil, (hs17_2).one.2]; rfl) (Wn.none rfl) ?_
     intro w H
     refine NL (TN ?_)
     obtain ⟨l20, hx21, e8⟩ := bnd e8
     obtain ⟨l22, hxl22, e8⟩ := bnd e8
     refine RG (MV rfl rfl (ST (Ex.fieldAddr Tryz.underlying34 rfl Tryz.sizeOf30 (by decide) rfl) rfl (ST (Ex.load1 H rfl (by repeat first | exact kMh | apply kMt) Tryz.isAgg30 (by rfl)) rfl ?_)))
     refine WR.call H (slices_Clone_Address_ct hx21) rfl (hs17_2) (Wn.none rfl) rfl ?_
     intro v22 M w H hle hR
     replace hg_maxl := hg_maxl.mono hle
     replace hg_tabs := hg_tabs.mono hle
     replace hp0 := hp0.mono hle
     replace hc17 := hc17.mono hle
     replace hs17_2 := hs17_2.mono hle
     have f22_0 := hR
     refine WR.appSC (l := l13) xty30 rfl xone24 H rfl (fun _ => by repeat first | exact .head | apply Upd.tail) rfl (f22_0) hxl22 (Wn.none rfl) rfl ?_
     intro v23 w H
     refine AS rfl rfl (NL (IB (TN ?_)))
     obtain ⟨n23, hxn23, e8⟩ := bnd e8
     refine RG (ST (Ex.addC rfl rfl hxn23) rfl (MV rfl rfl (NL ?_)))
     exact WQ.againP m16 [(3, _), (5, _), (13, _), (14, _), (15, _)] ⟨rfl, rfl, rfl, rfl, rfl, trivial⟩ ⟨_, _, _, _, rfl, (H.pick (L' := [.blk bk3 (.cells #[I 0, I 0] 27), RowS 24 3 xenc24 v23 l22]) (by repeat first | exact kPn | refine kPc (by repeat first | exact .head | apply Rem.tail) ?_)), hg_maxl, hg_tabs, hp0, e8⟩ (Nat.lt_succ_self _)
    ·
     replace hk18 : ¬ (n15 < (p0.length : Int)) := of_decide_eq_false hk18
     rw [if_neg hk18] at e8
     refine WC.exit (WQ.thenExit (WQ.thenExit (WQ.exitHere ?_)))
     exact WQ.meetN [(3, _), (5, _)] ⟨rfl, rfl, trivial⟩ ⟨_, _, _, rfl, H, hg_maxl, hg_tabs, e8⟩
   ·
    rintro e w ⟨l10, v11, M, rfl, H, hg_maxl, hg_tabs, q24⟩
    obtain rfl := oI q24
    refine TN (SQ ?_)
    obtain ⟨⟨n25, n26⟩, hx27, h⟩ := bnd h
    try dsimp only at h
    refine RG (MV rfl rfl (WR.call H (basic_None_ct hx27) rfl trivial (Wn.none rfl) rfl ?_))
    intro v26 M w H hle hR
    replace hg_maxl := hg_maxl.mono hle
    replace hg_tabs := hg_tabs.mono hle
    try dsimp only at hR
    obtain rfl := hR
    refine AS rfl rfl (WR.store [_, _] H rfl rfl rfl (by repeat first | exact .head | apply Upd.tail) Tryz.sizeOf27 rfl (by rfl) (by rfl) (Wn.none rfl) ?_)
    intro w H
    refine NL (TN (RT ?_))
    obtain ⟨M, hle, hs28, H⟩ := H.freezeRowS (v := v11) (enc := xenc24) (t := 24) (by repeat first | exact .head | apply Rem.tail) (fun _ => rfl)
    replace hg_maxl := hg_maxl.mono hle
    replace hg_tabs := hg_tabs.mono hle
    obtain rfl := oI h
    exact WQ.ret2 rfl rfl ⟨_, rfl, H.loadAgg (by repeat first | exact kMh | apply kMt) Tryz.isAgg27 Tryz.sizeOf27 (by rfl)⟩ H.ext (⟨_, rfl, hs28⟩)
set_option maxHeartbeats 4000000 in
theorem L_addressExample_ct  {r : Bool} (h : L_addressExample = some r) : Ct Tryz.prog 9 [] (fun M => GlF (fun w => ∃ m, w.cell? ⟨2, 0, none⟩ = some (.int .i64 m)) M ∧ Tabs M) (fun v M => v = Value.bool r) := by
  refine Ct.of Tryz.func9 (enters Tryz.func9 (by kernel_rfl) rfl) rfl rfl rfl ?_
  intro w0 M0 H hp
  obtain ⟨hg_maxl, hg_tabs⟩ := hp
  unfold L_addressExample at h
  refine SQ (RG (AS rfl rfl (NL (TN (SQ ?_)))))
  obtain ⟨⟨s2, ⟨n3, n4⟩⟩, hx5, h⟩ := bnd h
  try dsimp only at h
  refine RG (ST (Ex.build [S [65, 46, 32, 66], S [97], S [120]] Tryz.underlying24 Tryz.zeroValue24 (xplaces24 Tryz.underlying24) rfl rfl) rfl (WR.litS (enc := xenc24) xty30 ([([65, 46, 32, 66], [97], [120])] : List (List UInt8 × List UInt8 × List UInt8)) H (fun _ => rfl) rfl (by kernel_rfl) rfl rfl rfl (Wn.none rfl) rfl ?_))
  intro v11 M w H hle hs11
  replace hg_maxl := hg_maxl.mono hle
  replace hg_tabs := hg_tabs.mono hle
  refine ST (Ex.build [S [], Value.bool false, v11] Tryz.underlying34 Tryz.zeroValue34 (xplaces34 Tryz.underlying34) rfl (by obtain ⟨_, _, _, hv, -⟩ := hs11; rw [hv]; clear hv; rfl)) rfl ?_
  obtain ⟨q1, rfl⟩ := hs11.hd
  refine WR.litS (enc := xrl34.enc) xty22 ([([], false, q1)] : List (List UInt8 × Bool × Hd)) H (fun _ => rfl) rfl (by kernel_rfl) rfl rfl rfl (Wn.none rfl) rfl ?_
  intro v13 M w H hle hs13
  replace hg_maxl := hg_maxl.mono hle
  replace hg_tabs := hg_tabs.mono hle
  replace hs11 := hs11.mono hle
  replace hs13 := SlR.of (R := xrl34) (l := ([([], false, ([([65, 46, 32, 66], [97], [120])] : List (List UInt8 × List UInt8 × List UInt8)))] : List (List UInt8 × Bool × List (List UInt8 × List UInt8 × List UInt8)))) hs13 ⟨⟨rfl, rfl, hs11⟩, trivial⟩
  refine WR.call H (address_Print_ct hx5) rfl ⟨hg_maxl, hg_tabs, hs13⟩ (Wn.none rfl) rfl ?_
  intro v14 M w H hle hR
  replace hg_maxl := hg_maxl.mono hle
  replace hg_tabs := hg_tabs.mono hle
  replace hs11 := hs11.mono hle
  replace hs13 := hs13.mono hle
  try dsimp only at hR
  obtain rfl := hR
  refine MV rfl rfl (ST (Ex.extract rfl rfl) rfl (ST (Ex.extract rfl rfl) rfl (WR.alloc [_, _] H Tryz.zeroValue27 rfl (Wn.none rfl) rfl ?_)))
  intro bk2 w H
  refine AS rfl rfl (WR.store [_, _] H rfl rfl rfl (by repeat first | exact .head | apply Upd.tail) Tryz.sizeOf27 rfl (by rfl) (by rfl) (Wn.none rfl) ?_)
  intro w H
  refine NL (TN (SQ ?_))
  obtain ⟨⟨l6, ⟨n7, n8⟩⟩, hx9, h⟩ := bnd h
  try dsimp only at h
  refine RG (WR.call H (address_Parse_ct hx9) rfl ⟨hg_maxl, hg_tabs⟩ (Wn.none rfl) rfl ?_)
  intro v18 M w H hle hR
  replace hg_maxl := hg_maxl.mono hle
  replace hg_tabs := hg_tabs.mono hle
  replace hs11 := hs11.mono hle
  replace hs13 := hs13.mono hle
  try dsimp only at hR
  obtain ⟨x18_0, rfl, f18_0⟩ := hR
  refine MV rfl rfl (ST (Ex.extract rfl rfl) rfl (ST (Ex.extract rfl rfl) rfl (WR.alloc [_, _] H Tryz.zeroValue27 rfl (Wn.none rfl) rfl ?_)))
  intro bk4 w H
  refine AS rfl rfl (WR.store [_, _] H rfl rfl rfl (by repeat first | exact .head | apply Upd.tail) Tryz.sizeOf27 rfl (by rfl) (by rfl) (Wn.none rfl) ?_)
  intro w H
  refine NL (TN (SQ ?_))
  obtain ⟨⟨s10, ⟨n11, n12⟩⟩, hx13, h⟩ := bnd h
  try dsimp only at h
  refine RG (ST (Ex.build [S [], S [65], S [88, 46, 69, 120, 97, 109, 112, 108, 101]] Tryz.underlying24 Tryz.zeroValue24 (xplaces24 Tryz.underlying24) rfl rfl) rfl (WR.call H (address_Normal_ct hx13) rfl ⟨hg_maxl, hg_tabs⟩ (Wn.none rfl) rfl ?_))
  intro v23 M w H hle hR
  replace hg_maxl := hg_maxl.mono hle
  replace hg_tabs := hg_tabs.mono hle
  replace hs11 := hs11.mono hle
  replace hs13 := hs13.mono hle
  replace f18_0 := f18_0.mono hle
  try dsimp only at hR
  obtain rfl := hR
  refine MV rfl rfl (ST (Ex.extract rfl rfl) rfl (ST (Ex.extract rfl rfl) rfl (WR.alloc [_, _] H Tryz.zeroValue27 rfl (Wn.none rfl) rfl ?_)))
  intro bk6 w H
  refine AS rfl rfl (WR.store [_, _] H rfl rfl rfl (by repeat first | exact .head | apply Upd.tail) Tryz.sizeOf27 rfl (by rfl) (by rfl) (Wn.none rfl) ?_)
  intro w H
  refine NL (TN (SQ ?_))
  obtain ⟨⟨l14, ⟨n15, n16⟩⟩, hx17, h⟩ := bnd h
  try dsimp only at h
  refine RG (MV rfl rfl (WR.call H (address_All_ct hx17) rfl ⟨hg_maxl, hg_tabs, f18_0⟩ (Wn.none rfl) rfl ?_))
  intro v28 M w H hle hR
  replace hg_maxl := hg_maxl.mono hle
  replace hg_tabs := hg_tabs.mono hle
  replace hs11 := hs11.mono hle
  replace hs13 := hs13.mono hle
  replace f18_0 := f18_0.mono hle
  try dsimp only at hR
  obtain ⟨x28_0, rfl, f28_0⟩ := hR
  refine MV rfl rfl (ST (Ex.extract rfl rfl) rfl (ST (Ex.extract rfl rfl) rfl (WR.alloc [_, _] H Tryz.zeroValue27 rfl (Wn.none rfl) rfl ?_)))
  intro bk8 w H
  refine AS rfl rfl (WR.store [_, _] H rfl rfl rfl (by repeat first | exact .head | apply Upd.tail) Tryz.sizeOf27 rfl (by rfl) (by rfl) (Wn.none rfl) ?_)
  intro w H
  refine NL (TN (SQ ?_))
  obtain ⟨o18, e19, h⟩ := bnd h
  refine WC.cutX (fun e w => ∃ (b20 : Bool) (M : Mem), e = [(0, Value.bool b20)] ∧ St w0 M0 M [] w ∧ GlF (fun w => ∃ m, w.cell? ⟨2, 0, none⟩ = some (.int .i64 m)) M ∧ Tabs M ∧ some b20 = some o18) [] ?_ ?_ (trivial)
  ·
   refine RG (ST (Ex.fieldAddr Tryz.underlying27 rfl Tryz.sizeOf3 (by decide) rfl) rfl (ST (Ex.load1 H rfl (by repeat first | exact kMh | apply kMt) Tryz.isAgg3 (by rfl)) rfl ?_))
   by_cases hk21 : n3 = (0 : Int)
   ·
    rw [if_pos hk21] at e19
    by_cases hk22 : n7 = (0 : Int)
    ·
     rw [if_pos hk22] at e19
     by_cases hk23 : n11 = (0 : Int)
     ·
      rw [if_pos hk23] at e19
      by_cases hk24 : n15 = (0 : Int)
      ·
       rw [if_pos hk24] at e19
       by_cases hk25 : s2 = [34, 65, 46, 32, 66, 34, 32, 60, 97, 64, 120, 62]
       ·
        rw [if_pos hk25] at e19
        by_cases hk26 : (l6.length : Int) = (1 : Int)
        ·
         rw [if_pos hk26] at e19
         obtain ⟨a27, hxa27, e19⟩ := bnd e19
         obtain ⟨bk60, o60, fq60, ha60, hc60, hr60⟩ := f18_0.atC hxa27
         obtain ⟨f60_0, f60_1, q60_2⟩ := fq60
         replace hr60 : f60_0 = a27.1 ∧ f60_1 = a27.2.1 ∧ SlS M 3 xenc24 (hv q60_2) a27.2.2 := hr60
         obtain ⟨rfl, rfl, hs60_2⟩ := hr60
         by_cases hk28 : a27.2.1 = true
         ·
          rw [if_pos hk28] at e19
          obtain ⟨a29, hxa29, e19⟩ := bnd e19
          obtain ⟨bk66, o66, fq66, ha66, hc66, hr66⟩ := f18_0.atC hxa29
          obtain ⟨f66_0, f66_1, q66_2⟩ := fq66
          replace hr66 : f66_0 = a29.1 ∧ f66_1 = a29.2.1 ∧ SlS M 3 xenc24 (hv q66_2) a29.2.2 := hr66
          obtain ⟨rfl, rfl, hs66_2⟩ := hr66
          by_cases hk30 : a29.1 = [103]
          ·
           rw [if_pos hk30] at e19
           by_cases hk31 : s10 = [65, 64, 120, 46, 101, 120, 97, 109, 112, 108, 101]
           ·
            rw [if_pos hk31] at e19
            by_cases hk32 : (l14.length : Int) = (2 : Int)
            ·
             rw [if_pos hk32] at e19
             obtain ⟨a33, hxa33, e19⟩ := bnd e19
             obtain ⟨bk82, o82, ha82, hc82⟩ := f28_0.atC hxa33
             refine WR.stepE (v' := .bool true) (Ex.eql rfl rfl) (congrArg Value.bool (decide_eq_true hk21)) (Wn.none rfl) rfl rfl (MV rfl rfl (SG (Ex.fieldAddr Tryz.underlying27 rfl Tryz.sizeOf3 (by decide) rfl) rfl rfl rfl (SG (Ex.load1 H rfl (by repeat first | exact kMh | apply kMt) Tryz.isAgg3 (by rfl)) rfl rfl rfl ?_)))
             refine WR.stepE (v' := .bool true) (Ex.eql rfl rfl) (congrArg Value.bool (decide_eq_true hk22)) (Wn.some rfl rfl rfl) rfl rfl (PT rfl rfl rfl (MV rfl rfl (SG (Ex.fieldAddr Tryz.underlying27 rfl Tryz.sizeOf3 (by decide) rfl) rfl rfl rfl (SG (Ex.load1 H rfl (by repeat first | exact kMh | apply kMt) Tryz.isAgg3 (by rfl)) rfl rfl rfl ?_))))
             refine WR.stepE (v' := .bool true) (Ex.eql rfl rfl) (congrArg Value.bool (decide_eq_true hk23)) (Wn.some rfl rfl rfl) rfl rfl (PT rfl rfl rfl (MV rfl rfl (SG (Ex.fieldAddr Tryz.underlying27 rfl Tryz.sizeOf3 (by decide) rfl) rfl rfl rfl (SG (Ex.load1 H rfl (by repeat first | exact kMh | apply kMt) Tryz.isAgg3 (by rfl)) rfl rfl rfl ?_))))
             refine WR.stepE (v' := .bool true) (Ex.eql rfl rfl) (congrArg Value.bool (decide_eq_true hk24)) (Wn.some rfl rfl rfl) rfl rfl (PT rfl rfl rfl (MV rfl rfl (SG (Ex.move rfl) rfl rfl rfl (WR.stepE (v' := .bool true) (Ex.strEql rfl rfl) (congrArg Value.bool (decide_eq_true hk25)) (Wn.some rfl rfl rfl) rfl rfl (PT rfl rfl rfl (MV rfl rfl (SG (Ex.move rfl) rfl rfl rfl (SG (Ex.lenSlR Tryz.underlying22 f18_0 rfl) rfl rfl rfl (WR.stepE (v' := .bool true) (Ex.eql rfl rfl) (congrArg Value.bool (decide_eq_true hk26)) (Wn.some rfl rfl rfl) rfl rfl (PT rfl rfl rfl (MV rfl rfl (SG (Ex.move rfl) rfl rfl rfl (SG (Ex.idxAt ha60 Tryz.underlying22 Tryz.sizeOf34 rfl rfl) rfl rfl rfl (SG (Ex.fieldAddr Tryz.underlying34 rfl Tryz.sizeOf4 (by decide) rfl) rfl rfl rfl (WR.stepE (v' := .bool true) (Ex.loadM H rfl (hc60.at (j := 1) rfl) Tryz.isAgg4) (congrArg Value.bool hk28) (Wn.some rfl rfl rfl) rfl rfl (PT rfl rfl rfl ?_))))))))))))))))
             refine MV rfl rfl (SG (Ex.move rfl) rfl rfl rfl (SG (Ex.idxAt ha66 Tryz.underlying22 Tryz.sizeOf34 rfl rfl) rfl rfl rfl (SG (Ex.fieldAddr Tryz.underlying34 rfl Tryz.sizeOf9 (by decide) rfl) rfl rfl rfl (SG (Ex.loadM H rfl (hc66.at (j := 0) rfl) Tryz.isAgg9) rfl rfl rfl (WR.stepE (v' := .bool true) (Ex.strEql rfl rfl) (congrArg Value.bool (decide_eq_true hk30)) (Wn.some rfl rfl rfl) rfl rfl (PT rfl rfl rfl (MV rfl rfl (SG (Ex.move rfl) rfl rfl rfl (WR.stepE (v' := .bool true) (Ex.strEql rfl rfl) (congrArg Value.bool (decide_eq_true hk31)) (Wn.some rfl rfl rfl) rfl rfl (PT rfl rfl rfl (MV rfl rfl (SG (Ex.move rfl) rfl rfl rfl (SG (Ex.lenSlS Tryz.underlying30 f28_0 rfl) rfl rfl rfl (WR.stepE (v' := .bool true) (Ex.eql rfl rfl) (congrArg Value.bool (decide_eq_true hk32)) (Wn.some rfl rfl rfl) rfl rfl (PT rfl rfl rfl (MV rfl rfl (SG (Ex.move rfl) rfl rfl rfl (SG (Ex.idxAt ha82 Tryz.underlying30 Tryz.sizeOf24 rfl rfl) rfl rfl rfl ?_))))))))))))))))))
             refine SG (Ex.fieldAddr Tryz.underlying24 rfl Tryz.sizeOf9 (by decide) rfl) rfl rfl rfl (SG (Ex.loadM H rfl (hc82.at (j := 1) rfl) Tryz.isAgg9) rfl rfl rfl (SG (Ex.strEql rfl rfl) rfl rfl rfl (PT rfl rfl rfl (AS rfl rfl (NL ?_)))))
             exact WQ.meetN [(0, _)] ⟨rfl, trivial⟩ ⟨_, _, rfl, (H.pick (L' := []) (by repeat first | exact kPn | refine kPc (by repeat first | exact .head | apply Rem.tail) ?_)), hg_maxl, hg_tabs, e19⟩
            ·
             rw [if_neg hk32] at e19
             refine WR.stepE (v' := .bool true) (Ex.eql rfl rfl) (congrArg Value.bool (decide_eq_true hk21)) (Wn.none rfl) rfl rfl (MV rfl rfl (SG (Ex.fieldAddr Tryz.underlying27 rfl Tryz.sizeOf3 (by decide) rfl) rfl rfl rfl (SG (Ex.load1 H rfl (by repeat first | exact kMh | apply kMt) Tryz.isAgg3 (by rfl)) rfl rfl rfl ?_)))
             refine WR.stepE (v' := .bool true) (Ex.eql rfl rfl) (congrArg Value.bool (decide_eq_true hk22)) (Wn.some rfl rfl rfl) rfl rfl (PT rfl rfl rfl (MV rfl rfl (SG (Ex.fieldAddr Tryz.underlying27 rfl Tryz.sizeOf3 (by decide) rfl) rfl rfl rfl (SG (Ex.load1 H rfl (by repeat first | exact kMh | apply kMt) Tryz.isAgg3 (by rfl)) rfl rfl rfl ?_))))
             refine WR.stepE (v' := .bool true) (Ex.eql rfl rfl) (congrArg Value.bool (decide_eq_true hk23)) (Wn.some rfl rfl rfl) rfl rfl (PT rfl rfl rfl (MV rfl rfl (SG (Ex.fieldAddr Tryz.underlying27 rfl Tryz.sizeOf3 (by decide) rfl) rfl rfl rfl (SG (Ex.load1 H rfl (by repeat first | exact kMh | apply kMt) Tryz.isAgg3 (by rfl)) rfl rfl rfl ?_))))
             refine WR.stepE (v' := .bool true) (Ex.eql rfl rfl) (congrArg Value.bool (decide_eq_true hk24)) (Wn.some rfl rfl rfl) rfl rfl (PT rfl rfl rfl (MV rfl rfl (SG (Ex.move rfl) rfl rfl rfl (WR.stepE (v' := .bool true) (Ex.strEql rfl rfl) (congrArg Value.bool (decide_eq_true hk25)) (Wn.some rfl rfl rfl) rfl rfl (PT rfl rfl rfl (MV rfl rfl (SG (Ex.move rfl) rfl rfl rfl (SG (Ex.lenSlR Tryz.underlying22 f18_0 rfl) rfl rfl rfl (WR.stepE (v' := .bool true) (Ex.eql rfl rfl) (congrArg Value.bool (decide_eq_true hk26)) (Wn.some rfl rfl rfl) rfl rfl (PT rfl rfl rfl (MV rfl rfl (SG (Ex.move rfl) rfl rfl rfl (SG (Ex.idxAt ha60 Tryz.underlying22 Tryz.sizeOf34 rfl rfl) rfl rfl rfl (SG (Ex.fieldAddr Tryz.underlying34 rfl Tryz.sizeOf4 (by decide) rfl) rfl rfl rfl (WR.stepE (v' := .bool true) (Ex.loadM H rfl (hc60.at (j := 1) rfl) Tryz.isAgg4) (congrArg Value.bool hk28) (Wn.some rfl rfl rfl) rfl rfl (PT rfl rfl rfl ?_))))))))))))))))
             refine MV rfl rfl (SG (Ex.move rfl) rfl rfl rfl (SG (Ex.idxAt ha66 Tryz.underlying22 Tryz.sizeOf34 rfl rfl) rfl rfl rfl (SG (Ex.fieldAddr Tryz.underlying34 rfl Tryz.sizeOf9 (by decide) rfl) rfl rfl rfl (SG (Ex.loadM H rfl (hc66.at (j := 0) rfl) Tryz.isAgg9) rfl rfl rfl (WR.stepE (v' := .bool true) (Ex.strEql rfl rfl) (congrArg Value.bool (decide_eq_true hk30)) (Wn.some rfl rfl rfl) rfl rfl (PT rfl rfl rfl (MV rfl rfl (SG (Ex.move rfl) rfl rfl rfl (WR.stepE (v' := .bool true) (Ex.strEql rfl rfl) (congrArg Value.bool (decide_eq_true hk31)) (Wn.some rfl rfl rfl) rfl rfl (PT rfl rfl rfl (MV rfl rfl (SG (Ex.move rfl) rfl rfl rfl (SG (Ex.lenSlS Tryz.underlying30 f28_0 rfl) rfl rfl rfl (WR.stepE (v' := .bool false) (Ex.eql rfl rfl) (congrArg Value.bool (decide_eq_false hk32)) (Wn.some rfl rfl rfl) rfl rfl (PT rfl rfl rfl (MV rfl rfl (WR.skipN 5 rfl rfl (PF rfl rfl rfl (AS rfl rfl (NL ?_))))))))))))))))))))
             exact WQ.meetN [(0, _)] ⟨rfl, trivial⟩ ⟨_, _, rfl, (H.pick (L' := []) (by repeat first | exact kPn | refine kPc (by repeat first | exact .head | apply Rem.tail) ?_)), hg_maxl, hg_tabs, e19⟩
           ·
            rw [if_neg hk31] at e19
            refine WR.stepE (v' := .bool true) (Ex.eql rfl rfl) (congrArg Value.bool (decide_eq_true hk21)) (Wn.none rfl) rfl rfl (MV rfl rfl (SG (Ex.fieldAddr Tryz.underlying27 rfl Tryz.sizeOf3 (by decide) rfl) rfl rfl rfl (SG (Ex.load1 H rfl (by repeat first | exact kMh | apply kMt) Tryz.isAgg3 (by rfl)) rfl rfl rfl ?_)))
            refine WR.stepE (v' := .bool true) (Ex.eql rfl rfl) (congrArg Value.bool (decide_eq_true hk22)) (Wn.some rfl rfl rfl) rfl rfl (PT rfl rfl rfl (MV rfl rfl (SG (Ex.fieldAddr Tryz.underlying27 rfl Tryz.sizeOf3 (by decide) rfl) rfl rfl rfl (SG (Ex.load1 H rfl (by repeat first | exact kMh | apply kMt) Tryz.isAgg3 (by rfl)) rfl rfl rfl ?_))))
            refine WR.stepE (v' := .bool true) (Ex.eql rfl rfl) (congrArg Value.bool (decide_eq_true hk23)) (Wn.some rfl rfl rfl) rfl rfl (PT rfl rfl rfl (MV rfl rfl (SG (Ex.fieldAddr Tryz.underlying27 rfl Tryz.sizeOf3 (by decide) rfl) rfl rfl rfl (SG (Ex.load1 H rfl (by repeat first | exact kMh | apply kMt) Tryz.isAgg3 (by rfl)) rfl rfl rfl ?_))))
            refine WR.stepE (v' := .bool true) (Ex.eql rfl rfl) (congrArg Value.bool (decide_eq_true hk24)) (Wn.some rfl rfl rfl) rfl rfl (PT rfl rfl rfl (MV rfl rfl (SG (Ex.move rfl) rfl rfl rfl (WR.stepE (v' := .bool true) (Ex.strEql rfl rfl) (congrArg Value.bool (decide_eq_true hk25)) (Wn.some rfl rfl rfl) rfl rfl (PT rfl rfl rfl (MV rfl rfl (SG (Ex.move rfl) rfl rfl rfl (SG (Ex.lenSlR Tryz.underlying22 f18_0 rfl) rfl rfl rfl (WR.stepE (v' := .bool true) (Ex.eql rfl rfl) (congrArg Value.bool (decide_eq_true hk26)) (Wn.some rfl rfl rfl) rfl rfl (PT rfl rfl rfl (MV rfl rfl (SG (Ex.move rfl) rfl rfl rfl (SG (Ex.idxAt ha60 Tryz.underlying22 Tryz.sizeOf34 rfl rfl) rfl rfl rfl (SG (Ex.fieldAddr Tryz.underlying34 rfl Tryz.sizeOf4 (by decide) rfl) rfl rfl rfl (WR.stepE (v' := .bool true) (Ex.loadM H rfl (hc60.at (j := 1) rfl) Tryz.isAgg4) (congrArg Value.bool hk28) (Wn.some rfl rfl rfl) rfl rfl (PT rfl rfl rfl ?_))))))))))))))))
            refine MV rfl rfl (SG (Ex.move rfl) rfl rfl rfl (SG (Ex.idxAt ha66 Tryz.underlying22 Tryz.sizeOf34 rfl rfl) rfl rfl rfl (SG (Ex.fieldAddr Tryz.underlying34 rfl Tryz.sizeOf9 (by decide) rfl) rfl rfl rfl (SG (Ex.loadM H rfl (hc66.at (j := 0) rfl) Tryz.isAgg9) rfl rfl rfl (WR.stepE (v' := .bool true) (Ex.strEql rfl rfl) (congrArg Value.bool (decide_eq_true hk30)) (Wn.some rfl rfl rfl) rfl rfl (PT rfl rfl rfl (MV rfl rfl (SG (Ex.move rfl) rfl rfl rfl (WR.stepE (v' := .bool false) (Ex.strEql rfl rfl) (congrArg Value.bool (decide_eq_false hk31)) (Wn.some rfl rfl rfl) rfl rfl (PT rfl rfl rfl (MV rfl rfl (WR.skipN 3 rfl rfl (PF rfl rfl rfl (MV rfl rfl (WR.skipN 5 rfl rfl (PF rfl rfl rfl (AS rfl rfl (NL ?_))))))))))))))))))
            exact WQ.meetN [(0, _)] ⟨rfl, trivial⟩ ⟨_, _, rfl, (H.pick (L' := []) (by repeat first | exact kPn | refine kPc (by repeat first | exact .head | apply Rem.tail) ?_)), hg_maxl, hg_tabs, e19⟩
          ·
           rw [if_neg hk30] at e19
           refine WR.stepE (v' := .bool true) (Ex.eql rfl rfl) (congrArg Value.bool (decide_eq_true hk21)) (Wn.none rfl) rfl rfl (MV rfl rfl (SG (Ex.fieldAddr Tryz.underlying27 rfl Tryz.sizeOf3 (by decide) rfl) rfl rfl rfl (SG (Ex.load1 H rfl (by repeat first | exact kMh | apply kMt) Tryz.isAgg3 (by rfl)) rfl rfl rfl ?_)))
           refine WR.stepE (v' := .bool true) (Ex.eql rfl rfl) (congrArg Value.bool (decide_eq_true hk22)) (Wn.some rfl rfl rfl) rfl rfl (PT rfl rfl rfl (MV rfl rfl (SG (Ex.fieldAddr Tryz.underlying27 rfl Tryz.sizeOf3 (by decide) rfl) rfl rfl rfl (SG (Ex.load1 H rfl (by repeat first | exact kMh | apply kMt) Tryz.isAgg3 (by rfl)) rfl rfl rfl ?_))))
           refine WR.stepE (v' := .bool true) (Ex.eql rfl rfl) (congrArg Value.bool (decide_eq_true hk23)) (Wn.some rfl rfl rfl) rfl rfl (PT rfl rfl rfl (MV rfl rfl (SG (Ex.fieldAddr Tryz.underlying27 rfl Tryz.sizeOf3 (by decide) rfl) rfl rfl rfl (SG (Ex.load1 H rfl (by repeat first | exact kMh | apply kMt) Tryz.isAgg3 (by rfl)) rfl rfl rfl ?_))))
           refine WR.stepE (v' := .bool true) (Ex.eql rfl rfl) (congrArg Value.bool (decide_eq_true hk24)) (Wn.some rfl rfl rfl) rfl rfl (PT rfl rfl rfl (MV rfl rfl (SG (Ex.move rfl) rfl rfl rfl (WR.stepE (v' := .bool true) (Ex.strEql rfl rfl) (congrArg Value.bool (decide_eq_true hk25)) (Wn.some rfl rfl rfl) rfl rfl (PT rfl rfl rfl (MV rfl rfl (SG (Ex.move rfl) rfl rfl rfl (SG (Ex.lenSlR Tryz.underlying22 f18_0 rfl) rfl rfl rfl (WR.stepE (v' := .bool true) (Ex.eql rfl rfl) (congrArg Value.bool (decide_eq_true hk26)) (Wn.some rfl rfl rfl) rfl rfl (PT rfl rfl rfl (MV rfl rfl (SG (Ex.move rfl) rfl rfl rfl (SG (Ex.idxAt ha60 Tryz.underlying22 Tryz.sizeOf34 rfl rfl) rfl rfl rfl (SG (Ex.fieldAddr Tryz.underlying34 rfl Tryz.sizeOf4 (by decide) rfl) rfl rfl rfl (WR.stepE (v' := .bool true) (Ex.loadM H rfl (hc60.at (j := 1) rfl) Tryz.isAgg4) (congrArg Value.bool hk28) (Wn.some rfl rfl rfl) rfl rfl (PT rfl rfl rfl ?_))))))))))))))))
           refine MV rfl rfl (SG (Ex.move rfl) rfl rfl rfl (SG (Ex.idxAt ha66 Tryz.underlying22 Tryz.sizeOf34 rfl rfl) rfl rfl rfl (SG (Ex.fieldAddr Tryz.underlying34 rfl Tryz.sizeOf9 (by decide) rfl) rfl rfl rfl (SG (Ex.loadM H rfl (hc66.at (j := 0) rfl) Tryz.isAgg9) rfl rfl rfl (WR.stepE (v' := .bool false) (Ex.strEql rfl rfl) (congrArg Value.bool (decide_eq_false hk30)) (Wn.some rfl rfl rfl) rfl rfl (PT rfl rfl rfl (MV rfl rfl (GF rfl rfl rfl (GF rfl rfl rfl (PF rfl rfl rfl (MV rfl rfl (WR.skipN 3 rfl rfl (PF rfl rfl rfl (MV rfl rfl (WR.skipN 5 rfl rfl (PF rfl rfl rfl (AS rfl rfl (NL ?_))))))))))))))))))
           exact WQ.meetN [(0, _)] ⟨rfl, trivial⟩ ⟨_, _, rfl, (H.pick (L' := []) (by repeat first | exact kPn | refine kPc (by repeat first | exact .head | apply Rem.tail) ?_)), hg_maxl, hg_tabs, e19⟩
         ·
          rw [if_neg hk28] at e19
          refine WR.stepE (v' := .bool true) (Ex.eql rfl rfl) (congrArg Value.bool (decide_eq_true hk21)) (Wn.none rfl) rfl rfl (MV rfl rfl (SG (Ex.fieldAddr Tryz.underlying27 rfl Tryz.sizeOf3 (by decide) rfl) rfl rfl rfl (SG (Ex.load1 H rfl (by repeat first | exact kMh | apply kMt) Tryz.isAgg3 (by rfl)) rfl rfl rfl ?_)))
          refine WR.stepE (v' := .bool true) (Ex.eql rfl rfl) (congrArg Value.bool (decide_eq_true hk22)) (Wn.some rfl rfl rfl) rfl rfl (PT rfl rfl rfl (MV rfl rfl (SG (Ex.fieldAddr Tryz.underlying27 rfl Tryz.sizeOf3 (by decide) rfl) rfl rfl rfl (SG (Ex.load1 H rfl (by repeat first | exact kMh | apply kMt) Tryz.isAgg3 (by rfl)) rfl rfl rfl ?_))))
          refine WR.stepE (v' := .bool true) (Ex.eql rfl rfl) (congrArg Value.bool (decide_eq_true hk23)) (Wn.some rfl rfl rfl) rfl rfl (PT rfl rfl rfl (MV rfl rfl (SG (Ex.fieldAddr Tryz.underlying27 rfl Tryz.sizeOf3 (by decide) rfl) rfl rfl rfl (SG (Ex.load1 H rfl (by repeat first | exact kMh | apply kMt) Tryz.isAgg3 (by rfl)) rfl rfl rfl ?_))))
          refine WR.stepE (v' := .bool true) (Ex.eql rfl rfl) (congrArg Value.bool (decide_eq_true hk24)) (Wn.some rfl rfl rfl) rfl rfl (PT rfl rfl rfl (MV rfl rfl (SG (Ex.move rfl) rfl rfl rfl (WR.stepE (v' := .bool true) (Ex.strEql rfl rfl) (congrArg Value.bool (decide_eq_true hk25)) (Wn.some rfl rfl rfl) rfl rfl (PT rfl rfl rfl (MV rfl rfl (SG (Ex.move rfl) rfl rfl rfl (SG (Ex.lenSlR Tryz.underlying22 f18_0 rfl) rfl rfl rfl (WR.stepE (v' := .bool true) (Ex.eql rfl rfl) (congrArg Value.bool (decide_eq_true hk26)) (Wn.some rfl rfl rfl) rfl rfl (PT rfl rfl rfl (MV rfl rfl (SG (Ex.move rfl) rfl rfl rfl (SG (Ex.idxAt ha60 Tryz.underlying22 Tryz.sizeOf34 rfl rfl) rfl rfl rfl (SG (Ex.fieldAddr Tryz.underlying34 rfl Tryz.sizeOf4 (by decide) rfl) rfl rfl rfl (WR.stepE (v' := .bool false) (Ex.loadM H rfl (hc60.at (j := 1) rfl) Tryz.isAgg4) (congrArg Value.bool (Bool.of_not_eq_true hk28)) (Wn.some rfl rfl rfl) rfl rfl ?_)))))))))))))))
          refine PT rfl rfl rfl (MV rfl rfl (WR.skipN 5 rfl rfl (PF rfl rfl rfl (MV rfl rfl (GF rfl rfl rfl (GF rfl rfl rfl (PF rfl rfl rfl (MV rfl rfl (WR.skipN 3 rfl rfl (PF rfl rfl rfl (MV rfl rfl (WR.skipN 5 rfl rfl (PF rfl rfl rfl (AS rfl rfl (NL ?_)))))))))))))))
          exact WQ.meetN [(0, _)] ⟨rfl, trivial⟩ ⟨_, _, rfl, (H.pick (L' := []) (by repeat first | exact kPn | refine kPc (by repeat first | exact .head | apply Rem.tail) ?_)), hg_maxl, hg_tabs, e19⟩
        ·
         rw [if_neg hk26] at e19
         refine WR.stepE (v' := .bool true) (Ex.eql rfl rfl) (congrArg Value.bool (decide_eq_true hk21)) (Wn.none rfl) rfl rfl (MV rfl rfl (SG (Ex.fieldAddr Tryz.underlying27 rfl Tryz.sizeOf3 (by decide) rfl) rfl rfl rfl (SG (Ex.load1 H rfl (by repeat first | exact kMh | apply kMt) Tryz.isAgg3 (by rfl)) rfl rfl rfl ?_)))
         refine WR.stepE (v' := .bool true) (Ex.eql rfl rfl) (congrArg Value.bool (decide_eq_true hk22)) (Wn.some rfl rfl rfl) rfl rfl (PT rfl rfl rfl (MV rfl rfl (SG (Ex.fieldAddr Tryz.underlying27 rfl Tryz.sizeOf3 (by decide) rfl) rfl rfl rfl (SG (Ex.load1 H rfl (by repeat first | exact kMh | apply kMt) Tryz.isAgg3 (by rfl)) rfl rfl rfl ?_))))
         refine WR.stepE (v' := .bool true) (Ex.eql rfl rfl) (congrArg Value.bool (decide_eq_true hk23)) (Wn.some rfl rfl rfl) rfl rfl (PT rfl rfl rfl (MV rfl rfl (SG (Ex.fieldAddr Tryz.underlying27 rfl Tryz.sizeOf3 (by decide) rfl) rfl rfl rfl (SG (Ex.load1 H rfl (by repeat first | exact kMh | apply kMt) Tryz.isAgg3 (by rfl)) rfl rfl rfl ?_))))
         refine WR.stepE (v' := .bool true) (Ex.eql rfl rfl) (congrArg Value.bool (decide_eq_true hk24)) (Wn.some rfl rfl rfl) rfl rfl (PT rfl rfl rfl (MV rfl rfl (SG (Ex.move rfl) rfl rfl rfl (WR.stepE (v' := .bool true) (Ex.strEql rfl rfl) (congrArg Value.bool (decide_eq_true hk25)) (Wn.some rfl rfl rfl) rfl rfl (PT rfl rfl rfl (MV rfl rfl (SG (Ex.move rfl) rfl rfl rfl (SG (Ex.lenSlR Tryz.underlying22 f18_0 rfl) rfl rfl rfl (WR.stepE (v' := .bool false) (Ex.eql rfl rfl) (congrArg Value.bool (decide_eq_false hk26)) (Wn.some rfl rfl rfl) rfl rfl (PT rfl rfl rfl (MV rfl rfl (WR.skipN 4 rfl rfl (PF rfl rfl rfl (MV rfl rfl (WR.skipN 5 rfl rfl (PF rfl rfl rfl (MV rfl rfl (GF rfl rfl rfl (GF rfl rfl rfl (PF rfl rfl rfl (MV rfl rfl (WR.skipN 3 rfl rfl (PF rfl rfl rfl (MV rfl rfl (WR.skipN 5 rfl rfl (PF rfl rfl rfl (AS rfl rfl (NL ?_))))))))))))))))))))))))))))
         exact WQ.meetN [(0, _)] ⟨rfl, trivial⟩ ⟨_, _, rfl, (H.pick (L' := []) (by repeat first | exact kPn | refine kPc (by repeat first | exact .head | apply Rem.tail) ?_)), hg_maxl, hg_tabs, e19⟩
       ·
        rw [if_neg hk25] at e19
        refine WR.stepE (v' := .bool true) (Ex.eql rfl rfl) (congrArg Value.bool (decide_eq_true hk21)) (Wn.none rfl) rfl rfl (MV rfl rfl (SG (Ex.fieldAddr Tryz.underlying27 rfl Tryz.sizeOf3 (by decide) rfl) rfl rfl rfl (SG (Ex.load1 H rfl (by repeat first | exact kMh | apply kMt) Tryz.isAgg3 (by rfl)) rfl rfl rfl ?_)))
        refine WR.stepE (v' := .bool true) (Ex.eql rfl rfl) (congrArg Value.bool (decide_eq_true hk22)) (Wn.some rfl rfl rfl) rfl rfl (PT rfl rfl rfl (MV rfl rfl (SG (Ex.fieldAddr Tryz.underlying27 rfl Tryz.sizeOf3 (by decide) rfl) rfl rfl rfl (SG (Ex.load1 H rfl (by repeat first | exact kMh | apply kMt) Tryz.isAgg3 (by rfl)) rfl rfl rfl ?_))))
        refine WR.stepE (v' := .bool true) (Ex.eql rfl rfl) (congrArg Value.bool (decide_eq_true hk23)) (Wn.some rfl rfl rfl) rfl rfl (PT rfl rfl rfl (MV rfl rfl (SG (Ex.fieldAddr Tryz.underlying27 rfl Tryz.sizeOf3 (by decide) rfl) rfl rfl rfl (SG (Ex.load1 H rfl (by repeat first | exact kMh | apply kMt) Tryz.isAgg3 (by rfl)) rfl rfl rfl ?_))))
        refine WR.stepE (v' := .bool true) (Ex.eql rfl rfl) (congrArg Value.bool (decide_eq_true hk24)) (Wn.some rfl rfl rfl) rfl rfl (PT rfl rfl rfl (MV rfl rfl (SG (Ex.move rfl) rfl rfl rfl (WR.stepE (v' := .bool false) (Ex.strEql rfl rfl) (congrArg Value.bool (decide_eq_false hk25)) (Wn.some rfl rfl rfl) rfl rfl (PT rfl rfl rfl (MV rfl rfl (WR.skipN 3 rfl rfl (PF rfl rfl rfl (MV rfl rfl (WR.skipN 4 rfl rfl (PF rfl rfl rfl (MV rfl rfl (WR.skipN 5 rfl rfl (PF rfl rfl rfl (MV rfl rfl (GF rfl rfl rfl (GF rfl rfl rfl (PF rfl rfl rfl (MV rfl rfl (WR.skipN 3 rfl rfl (PF rfl rfl rfl (MV rfl rfl (WR.skipN 5 rfl rfl (PF rfl rfl rfl (AS rfl rfl (NL ?_))))))))))))))))))))))))))
        exact WQ.meetN [(0, _)] ⟨rfl, trivial⟩ ⟨_, _, rfl, (H.pick (L' := []) (by repeat first | exact kPn | refine kPc (by repeat first | exact .head | apply Rem.tail) ?_)), hg_maxl, hg_tabs, e19⟩
      ·
       rw [if_neg hk24] at e19
       refine WR.stepE (v' := .bool true) (Ex.eql rfl rfl) (congrArg Value.bool (decide_eq_true hk21)) (Wn.none rfl) rfl rfl (MV rfl rfl (SG (Ex.fieldAddr Tryz.underlying27 rfl Tryz.sizeOf3 (by decide) rfl) rfl rfl rfl (SG (Ex.load1 H rfl (by repeat first | exact kMh | apply kMt) Tryz.isAgg3 (by rfl)) rfl rfl rfl ?_)))
       refine WR.stepE (v' := .bool true) (Ex.eql rfl rfl) (congrArg Value.bool (decide_eq_true hk22)) (Wn.some rfl rfl rfl) rfl rfl (PT rfl rfl rfl (MV rfl rfl (SG (Ex.fieldAddr Tryz.underlying27 rfl Tryz.sizeOf3 (by decide) rfl) rfl rfl rfl (SG (Ex.load1 H rfl (by repeat first | exact kMh | apply kMt) Tryz.isAgg3 (by rfl)) rfl rfl rfl ?_))))
       refine WR.stepE (v' := .bool true) (Ex.eql rfl rfl) (congrArg Value.bool (decide_eq_true hk23)) (Wn.some rfl rfl rfl) rfl rfl (PT rfl rfl rfl (MV rfl rfl (SG (Ex.fieldAddr Tryz.underlying27 rfl Tryz.sizeOf3 (by decide) rfl) rfl rfl rfl (SG (Ex.load1 H rfl (by repeat first | exact kMh | apply kMt) Tryz.isAgg3 (by rfl)) rfl rfl rfl ?_))))
       refine WR.stepE (v' := .bool false) (Ex.eql rfl rfl) (congrArg Value.bool (decide_eq_false hk24)) (Wn.some rfl rfl rfl) rfl rfl (PT rfl rfl rfl (MV rfl rfl (GF rfl rfl rfl (GF rfl rfl rfl (PF rfl rfl rfl (MV rfl rfl (WR.skipN 3 rfl rfl (PF rfl rfl rfl (MV rfl rfl (WR.skipN 4 rfl rfl (PF rfl rfl rfl (MV rfl rfl (WR.skipN 5 rfl rfl (PF rfl rfl rfl (MV rfl rfl (GF rfl rfl rfl (GF rfl rfl rfl (PF rfl rfl rfl (MV rfl rfl (WR.skipN 3 rfl rfl (PF rfl rfl rfl (MV rfl rfl (WR.skipN 5 rfl rfl (PF rfl rfl rfl (AS rfl rfl (NL ?_))))))))))))))))))))))))))
       exact WQ.meetN [(0, _)] ⟨rfl, trivial⟩ ⟨_, _, rfl, (H.pick (L' := []) (by repeat first | exact kPn | refine kPc (by repeat first | exact .head | apply Rem.tail) ?_)), hg_maxl, hg_tabs, e19⟩
     ·
      rw [if_neg hk23] at e19
      refine WR.stepE (v' := .bool true) (Ex.eql rfl rfl) (congrArg Value.bool (decide_eq_true hk21)) (Wn.none rfl) rfl rfl (MV rfl rfl (SG (Ex.fieldAddr Tryz.underlying27 rfl Tryz.sizeOf3 (by decide) rfl) rfl rfl rfl (SG (Ex.load1 H rfl (by repeat first | exact kMh | apply kMt) Tryz.isAgg3 (by rfl)) rfl rfl rfl ?_)))
      refine WR.stepE (v' := .bool true) (Ex.eql rfl rfl) (congrArg Value.bool (decide_eq_true hk22)) (Wn.some rfl rfl rfl) rfl rfl (PT rfl rfl rfl (MV rfl rfl (SG (Ex.fieldAddr Tryz.underlying27 rfl Tryz.sizeOf3 (by decide) rfl) rfl rfl rfl (SG (Ex.load1 H rfl (by repeat first | exact kMh | apply kMt) Tryz.isAgg3 (by rfl)) rfl rfl rfl ?_))))
      refine WR.stepE (v' := .bool false) (Ex.eql rfl rfl) (congrArg Value.bool (decide_eq_false hk23)) (Wn.some rfl rfl rfl) rfl rfl (PT rfl rfl rfl (MV rfl rfl (WR.skipN 3 rfl rfl (PF rfl rfl rfl (MV rfl rfl (GF rfl rfl rfl (GF rfl rfl rfl (PF rfl rfl rfl (MV rfl rfl (WR.skipN 3 rfl rfl (PF rfl rfl rfl (MV rfl rfl (WR.skipN 4 rfl rfl (PF rfl rfl rfl (MV rfl rfl (WR.skipN 5 rfl rfl (PF rfl rfl rfl (MV rfl rfl (GF rfl rfl rfl (GF rfl rfl rfl (PF rfl rfl rfl (MV rfl rfl (WR.skipN 3 rfl rfl (PF rfl rfl rfl (MV rfl rfl (WR.skipN 5 rfl rfl (PF rfl rfl rfl (AS rfl rfl (NL ?_)))))))))))))))))))))))))))))
      exact WQ.meetN [(0, _)] ⟨rfl, trivial⟩ ⟨_, _, rfl, (H.pick (L' := []) (by repeat first | exact kPn | refine kPc (by repeat first | exact .head | apply Rem.tail) ?_)), hg_maxl, hg_tabs, e19⟩
    ·
     rw [if_neg hk22] at e19
     refine WR.stepE (v' := .bool true) (Ex.eql rfl rfl) (congrArg Value.bool (decide_eq_true hk21)) (Wn.none rfl) rfl rfl (MV rfl rfl (SG (Ex.fieldAddr Tryz.underlying27 rfl Tryz.sizeOf3 (by decide) rfl) rfl rfl rfl (SG (Ex.load1 H rfl (by repeat first | exact kMh | apply kMt) Tryz.isAgg3 (by rfl)) rfl rfl rfl ?_)))
     refine WR.stepE (v' := .bool false) (Ex.eql rfl rfl) (congrArg Value.bool (decide_eq_false hk22)) (Wn.some rfl rfl rfl) rfl rfl (PT rfl rfl rfl (MV rfl rfl (WR.skipN 3 rfl rfl (PF rfl rfl rfl (MV rfl rfl (WR.skipN 3 rfl rfl (PF rfl rfl rfl (MV rfl rfl (GF rfl rfl rfl (GF rfl rfl rfl (PF rfl rfl rfl (MV rfl rfl (WR.skipN 3 rfl rfl (PF rfl rfl rfl (MV rfl rfl (WR.skipN 4 rfl rfl (PF rfl rfl rfl (MV rfl rfl (WR.skipN 5 rfl rfl (PF rfl rfl rfl (MV rfl rfl (GF rfl rfl rfl (GF rfl rfl rfl (PF rfl rfl rfl (MV rfl rfl (WR.skipN 3 rfl rfl (PF rfl rfl rfl (MV rfl rfl (WR.skipN 5 rfl rfl (PF rfl rfl rfl (AS rfl rfl (NL ?_))))))))))))))))))))))))))))))))
     exact WQ.meetN [(0, _)] ⟨rfl, trivial⟩ ⟨_, _, rfl, (H.pick (L' := []) (by repeat first | exact kPn | refine kPc (by repeat first | exact .head | apply Rem.tail) ?_)), hg_maxl, hg_tabs, e19⟩
   ·
    rw [if_neg hk21] at e19
    refine WR.stepE (v' := .bool false) (Ex.eql rfl rfl) (congrArg Value.bool (decide_eq_false hk21)) (Wn.none rfl) rfl rfl (MV rfl rfl (WR.skipN 3 rfl rfl (PF rfl rfl rfl (MV rfl rfl (WR.skipN 3 rfl rfl (PF rfl rfl rfl (MV rfl rfl (WR.skipN 3 rfl rfl (PF rfl rfl rfl (MV rfl rfl (GF rfl rfl rfl (GF rfl rfl rfl (PF rfl rfl rfl (MV rfl rfl (WR.skipN 3 rfl rfl (PF rfl rfl rfl (MV rfl rfl (WR.skipN 4 rfl rfl (PF rfl rfl rfl (MV rfl rfl (WR.skipN 5 rfl rfl (PF rfl rfl rfl (MV rfl rfl (GF rfl rfl rfl (GF rfl rfl rfl (PF rfl rfl rfl (MV rfl rfl (WR.skipN 3 rfl rfl (PF rfl rfl rfl (MV rfl rfl (WR.skipN 5 rfl rfl (PF rfl rfl rfl (AS rfl rfl (NL ?_))))))))))))))))))))))))))))))))))
    exact WQ.meetN [(0, _)] ⟨rfl, trivial⟩ ⟨_, _, rfl, (H.pick (L' := []) (by repeat first | exact kPn | refine kPc (by repeat first | exact .head | apply Rem.tail) ?_)), hg_maxl, hg_tabs, e19⟩
  ·
   rintro e w ⟨b20, M, rfl, H, hg_maxl, hg_tabs, q34⟩
   obtain rfl := oI q34
   refine TN (RT ?_)
   obtain rfl := oI h
   exact WQ.ret1 rfl rfl H.ext rfl
theorem R_displayCode_ct {p0 : List UInt8} {r : Int} (h : R_displayCode p0 = some r) : Ct Tryz.prog 34 [S p0] (fun M => True) (fun v M => v = I r) := by
  refine Ct.of Tryz.func34 (enters Tryz.func34 (by kernel_rfl) rfl) rfl rfl rfl ?_
  intro w0 M0 H hp
  unfold R_displayCode at h
  refine SQ (RG (AS rfl rfl (NL (TN (SQ (SQ (RG (MV rfl rfl (ST (Ex.lenStr Tryz.underlying9 rfl) rfl (ST (Ex.gtr rfl rfl) rfl (NL (TN ?_))))))))))))
  refine WC.condB rfl (fun hk1 => ?_) (fun hk1 => ?_)
  ·
   replace hk1 : (500 : Int) < (p0.length : Int) := of_decide_eq_true hk1
   rw [if_pos hk1] at h
   refine SQ (RG (AS rfl rfl (NL (TN (RT ?_)))))
   obtain rfl := oI h
   exact WQ.ret1 rfl rfl H.ext rfl
  ·
   replace hk1 : ¬ ((500 : Int) < (p0.length : Int)) := of_decide_eq_false hk1
   rw [if_neg hk1] at h
   refine SK (TN (SQ (SQ ?_)))
   obtain ⟨b2, hx3, h⟩ := bnd h
   refine RG (MV rfl rfl (WR.call H (R_Valid_ct hx3) rfl trivial (Wn.none rfl) rfl ?_))
   intro v7 M w H hle hR
   obtain rfl := hR
   refine ST (Ex.not rfl) rfl (NL (TN ?_))
   refine WC.condB rfl (fun hk4 => ?_) (fun hk4 => ?_)
   ·
    replace hk4 : b2 = false := by simpa using hk4
    subst hk4
    rw [if_neg Bool.false_ne_true] at h
    refine SQ (RG (AS rfl rfl (NL (TN (RT ?_)))))
    obtain rfl := oI h
    exact WQ.ret1 rfl rfl H.ext rfl
   ·
    replace hk4 : b2 = true := by simpa using hk4
    subst hk4
    rw [if_pos rfl] at h
    refine SK (TN (SQ (RG (AS rfl rfl (NL (TN (RT ?_)))))))
    obtain rfl := oI h
    exact WQ.ret1 rfl rfl H.ext rfl
theorem R_At_ct {p0 : Int} {p1 : Int} {r : (Int × Int)} (h : R_At p0 p1 = some r) : Ct Tryz.prog 18 [I p0, I p1] (fun M => True) (fun v M => v = Value.agg #[I r.1, I r.2]) := by
  refine Ct.of Tryz.func18 (enters Tryz.func18 (by kernel_rfl) rfl) rfl rfl rfl ?_
  intro w0 M0 H hp
  unfold R_At at h
  refine SQ (RG (WR.alloc [_, _] H Tryz.zeroValue27 rfl (Wn.none rfl) rfl ?_))
  intro bk4 w H
  refine NL (TN (SQ (RG (MV rfl rfl (MV rfl rfl (ST (Ex.build [I p0, I p1] Tryz.underlying27 Tryz.zeroValue27 (xplaces27 Tryz.underlying27) rfl rfl) rfl (WR.store [_, _] H rfl rfl rfl (by repeat first | exact .head | apply Upd.tail) Tryz.sizeOf27 rfl (by rfl) (by rfl) (Wn.none rfl) ?_)))))))
  intro w H
  refine NL (TN (RT ?_))
  obtain rfl := oI h
  exact WQ.ret1 rfl ⟨_, rfl, H.loadAgg (by repeat first | exact kMh | apply kMt) Tryz.isAgg27 Tryz.sizeOf27 (by rfl)⟩ H.ext rfl
theorem R_In_ct {p0 : Int} {p1 : Int} {p2 : Int} {r : Bool} (h : R_In p0 p1 p2 = some r) : Ct Tryz.prog 21 [I p0, I p1, I p2] (fun M => True) (fun v M => v = Value.bool r) := by
  refine Ct.of Tryz.func21 (enters Tryz.func21 (by kernel_rfl) rfl) rfl rfl rfl ?_
  intro w0 M0 H hp
  unfold R_In at h
  refine SQ (RG (AS rfl rfl (NL (TN (SQ ?_)))))
  obtain ⟨o1, e2, h⟩ := bnd h
  refine WC.cutX (fun e w => ∃ (b3 : Bool) (M : Mem), e = [(6, Value.bool b3)] ∧ St w0 M0 M [] w ∧ some b3 = some o1) [] ?_ ?_ (trivial)
  ·
   refine RG (MV rfl rfl (MV rfl rfl ?_))
   by_cases hk4 : p1 ≤ p0
   ·
    rw [if_pos hk4] at e2
    refine WR.stepE (v' := .bool true) (Ex.geq rfl rfl) (congrArg Value.bool (decide_eq_true hk4)) (Wn.none rfl) rfl rfl (MV rfl rfl (SG (Ex.move rfl) rfl rfl rfl (SG (Ex.move rfl) rfl rfl rfl (SG (Ex.leq rfl rfl) rfl rfl rfl (PT rfl rfl rfl (AS rfl rfl (NL ?_)))))))
    exact WQ.meetN [(6, _)] ⟨rfl, trivial⟩ ⟨_, _, rfl, H, e2⟩
   ·
    rw [if_neg hk4] at e2
    refine WR.stepE (v' := .bool false) (Ex.geq rfl rfl) (congrArg Value.bool (decide_eq_false hk4)) (Wn.none rfl) rfl rfl (MV rfl rfl (WR.skipN 3 rfl rfl (PF rfl rfl rfl (AS rfl rfl (NL ?_)))))
    exact WQ.meetN [(6, _)] ⟨rfl, trivial⟩ ⟨_, _, rfl, H, e2⟩
  ·
   rintro e w ⟨b3, M, rfl, H, q5⟩
   obtain rfl := oI q5
   refine TN (RT ?_)
   obtain rfl := oI h
   exact WQ.ret1 rfl rfl H.ext rfl
theorem R_LocalPart_ct {p0 : List UInt8} {r : Bool} (h : R_LocalPart p0 = some r) : Ct Tryz.prog 35 [S p0] (fun M => True) (fun v M => v = Value.bool r) := by
  refine Ct.of Tryz.func35 (enters Tryz.func35 (by kernel_rfl) rfl) rfl rfl rfl ?_
  intro w0 M0 H hp
  unfold R_LocalPart at h
  refine SQ (RG (AS rfl rfl (NL (TN (SQ (SQ (RG (AS rfl rfl (NL (TN ?_))))))))))
  obtain ⟨o1, e2, h⟩ := bnd h
  refine WC.cutX (fun e w => ∃  (M : Mem), e = [(0, S p0)] ∧ St w0 M0 M [] w ∧ some (.inl ()) = some o1) [] ?_ ?_ (trivial)
  ·
   refine BL (WC.loopP (fun m e w => ∃ (n3 : Int) (M : Mem), e = [(0, S p0), (3, I n3)] ∧ St w0 M0 M [] w ∧ R_LocalPart_L1 p0 m n3 = some o1) FU [(0, _), (3, _)] ⟨rfl, rfl, trivial⟩ ⟨_, _, rfl, H, e2⟩ ?_)
   rintro m4 e w ⟨n3, M, rfl, H, e2⟩
   rcases m4 with _ | m4
   · rw [R_LocalPart_L1] at e2; cases e2
   rw [R_LocalPart_L1] at e2
   refine SQ (SQ (RG (MV rfl rfl (MV rfl rfl (ST (Ex.lenStr Tryz.underlying9 rfl) rfl (ST (Ex.lss rfl rfl) rfl (NL (TN ?_))))))))
   refine WC.condB rfl (fun hk5 => ?_) (fun hk5 => ?_)
   ·
    replace hk5 : n3 < (p0.length : Int) := of_decide_eq_true hk5
    rw [if_pos hk5] at e2
    refine SK (TN (SQ (BL (SQ ?_))))
    obtain ⟨c6, hxc6, e2⟩ := bnd e2
    obtain ⟨b7, hx8, e2⟩ := bnd e2
    refine RG (MV rfl rfl (MV rfl rfl (ST (Ex.idxStrC Tryz.underlying9 rfl rfl hxc6) rfl (ST (Ex.convB Tryz.underlying5 Tryz.underlying3 rfl) rfl (WR.call H (R_In_ct hx8) rfl trivial (Wn.none rfl) rfl ?_)))))
    intro v14 M w H hle hR
    obtain rfl := hR
    refine ST (Ex.not rfl) rfl (NL (TN ?_))
    refine WC.condB rfl (fun hk9 => ?_) (fun hk9 => ?_)
    ·
     replace hk9 : b7 = false := by simpa using hk9
     subst hk9
     rw [if_neg Bool.false_ne_true] at e2
     refine SQ (RG (AS rfl rfl (NL (TN (RT ?_)))))
     obtain rfl := oI e2
     try dsimp only at h
     obtain rfl := oI h
     exact WQ.ret1 rfl rfl H.ext rfl
    ·
     replace hk9 : b7 = true := by simpa using hk9
     subst hk9
     rw [if_pos rfl] at e2
     refine SK (IB (TN ?_))
     obtain ⟨n10, hxn10, e2⟩ := bnd e2
     refine RG (MV rfl rfl (ST (Ex.addC rfl rfl hxn10) rfl (AS rfl rfl (NL ?_))))
     exact WQ.againP m4 [(0, _), (3, _)] ⟨rfl, rfl, trivial⟩ ⟨_, _, rfl, H, e2⟩ (Nat.lt_succ_self _)
   ·
    replace hk5 : ¬ (n3 < (p0.length : Int)) := of_decide_eq_false hk5
    rw [if_neg hk5] at e2
    refine WC.exit (WQ.thenExit (WQ.thenExit (WQ.exitHere ?_)))
    exact WQ.meetN [(0, _)] ⟨rfl, trivial⟩ ⟨_, rfl, H, e2⟩
  ·
   rintro e w ⟨M, rfl, H, q11⟩
   obtain rfl := oI q11
   try dsimp only at h
   refine TN (SQ ?_)
   obtain ⟨b12, hx13, h⟩ := bnd h
   refine RG (MV rfl rfl (ST (Ex.lenStr Tryz.underlying9 rfl) rfl (WR.call H (R_In_ct hx13) rfl trivial (Wn.none rfl) rfl ?_)))
   intro v18 M w H hle hR
   obtain rfl := hR
   refine AS rfl rfl (NL (TN (RT ?_)))
   obtain rfl := oI h
   exact WQ.ret1 rfl rfl H.ext rfl
theorem R_letter_ct {p0 : UInt8} {r : Bool} (h : R_letter p0 = some r) : Ct Tryz.prog 73 [encB p0] (fun M => True) (fun v M => v = Value.bool r) := by
  refine Ct.of Tryz.func73 (enters Tryz.func73 (by kernel_rfl) rfl) rfl rfl rfl ?_
  intro w0 M0 H hp
  unfold R_letter at h
  refine SQ (RG (AS rfl rfl (NL (TN (SQ (RG (MV rfl rfl (ST (Ex.convB Tryz.underlying5 Tryz.underlying3 rfl) rfl (AS rfl rfl (NL (TN (SQ ?_))))))))))))
  obtain ⟨o1, e2, h⟩ := bnd h
  refine WC.cutX (fun e w => ∃ (b3 : Bool) (M : Mem), e = [(2, Value.bool b3)] ∧ St w0 M0 M [] w ∧ some b3 = some o1) [] ?_ ?_ (trivial)
  ·
   obtain ⟨b4, hx5, e2⟩ := bnd e2
   refine RG (MV rfl rfl (WR.call H (R_In_ct hx5) rfl trivial (Wn.none rfl) rfl ?_))
   intro v7 M w H hle hR
   obtain rfl := hR
   refine MV rfl rfl ?_
   rcases b4 with _ | _
   ·
    rw [if_neg Bool.false_ne_true] at e2
    obtain ⟨b6, hx7, e2⟩ := bnd e2
    refine SG (Ex.move rfl) rfl rfl rfl (WR.call H (R_In_ct hx7) rfl trivial (Wn.some rfl rfl rfl) rfl ?_)
    intro v10 M w H hle hR
    obtain rfl := hR
    refine PF rfl rfl rfl (MV rfl rfl ?_)
    rcases b6 with _ | _
    ·
     rw [if_neg Bool.false_ne_true] at e2
     obtain ⟨b8, hx9, e2⟩ := bnd e2
     refine SG (Ex.move rfl) rfl rfl rfl (WR.call H (R_In_ct hx9) rfl trivial (Wn.some rfl rfl rfl) rfl ?_)
     intro v14 M w H hle hR
     obtain rfl := hR
     refine PF rfl rfl rfl (AS rfl rfl (NL ?_))
     exact WQ.meetN [(2, _)] ⟨rfl, trivial⟩ ⟨_, _, rfl, H, e2⟩
    ·
     rw [if_pos rfl] at e2
     refine GT rfl rfl rfl (GT rfl rfl rfl (PT rfl rfl rfl (AS rfl rfl (NL ?_))))
     exact WQ.meetN [(2, _)] ⟨rfl, trivial⟩ ⟨_, _, rfl, H, e2⟩
   ·
    rw [if_pos rfl] at e2
    refine GT rfl rfl rfl (GT rfl rfl rfl (PT rfl rfl rfl (MV rfl rfl (GT rfl rfl rfl (GT rfl rfl rfl (PT rfl rfl rfl (AS rfl rfl (NL ?_))))))))
    exact WQ.meetN [(2, _)] ⟨rfl, trivial⟩ ⟨_, _, rfl, H, e2⟩
  ·
   rintro e w ⟨b3, M, rfl, H, q10⟩
   obtain rfl := oI q10
   refine TN (RT ?_)
   obtain rfl := oI h
   exact WQ.ret1 rfl rfl H.ext rfl
theorem R_OneOf_ct {p0 : UInt8} {p1 : List UInt8} {r : Bool} (h : R_OneOf p0 p1 = some r) : Ct Tryz.prog 26 [encB p0, S p1] (fun M => True) (fun v M => v = Value.bool r) := by
  refine Ct.of Tryz.func26 (enters Tryz.func26 (by kernel_rfl) rfl) rfl rfl rfl ?_
  intro w0 M0 H hp
  unfold R_OneOf at h
  refine SQ (RG (AS rfl rfl (NL (TN (SQ (SQ (RG (AS rfl rfl (NL (TN ?_))))))))))
  obtain ⟨o1, e2, h⟩ := bnd h
  refine WC.cutX (fun e w => ∃  (M : Mem), e = [] ∧ St w0 M0 M [] w ∧ some (.inl ()) = some o1) [] ?_ ?_ (trivial)
  ·
   refine BL (WC.loopP (fun m e w => ∃ (n3 : Int) (M : Mem), e = [(0, encB p0), (1, S p1), (5, I n3)] ∧ St w0 M0 M [] w ∧ R_OneOf_L1 p0 p1 m n3 = some o1) FU [(0, _), (1, _), (5, _)] ⟨rfl, rfl, rfl, trivial⟩ ⟨_, _, rfl, H, e2⟩ ?_)
   rintro m4 e w ⟨n3, M, rfl, H, e2⟩
   rcases m4 with _ | m4
   · rw [R_OneOf_L1] at e2; cases e2
   rw [R_OneOf_L1] at e2
   refine SQ (SQ (RG (MV rfl rfl (MV rfl rfl (ST (Ex.lenStr Tryz.underlying9 rfl) rfl (ST (Ex.lss rfl rfl) rfl (NL (TN ?_))))))))
   refine WC.condB rfl (fun hk5 => ?_) (fun hk5 => ?_)
   ·
    replace hk5 : n3 < (p1.length : Int) := of_decide_eq_true hk5
    rw [if_pos hk5] at e2
    refine SK (TN (SQ (BL (SQ ?_))))
    obtain ⟨c6, hxc6, e2⟩ := bnd e2
    refine RG (MV rfl rfl (MV rfl rfl (ST (Ex.idxStrC Tryz.underlying9 rfl rfl hxc6) rfl (MV rfl rfl (ST (Ex.eqlB (c := c6) (d := p0) rfl rfl) rfl (NL (TN ?_)))))))
    refine WC.condB rfl (fun hk7 => ?_) (fun hk7 => ?_)
    ·
     replace hk7 : c6 = p0 := of_decide_eq_true hk7
     rw [if_pos hk7] at e2
     refine SQ (RG (AS rfl rfl (NL (TN (RT ?_)))))
     obtain rfl := oI e2
     try dsimp only at h
     obtain rfl := oI h
     exact WQ.ret1 rfl rfl H.ext rfl
    ·
     replace hk7 : ¬ (c6 = p0) := of_decide_eq_false hk7
     rw [if_neg hk7] at e2
     refine SK (IB (TN ?_))
     obtain ⟨n8, hxn8, e2⟩ := bnd e2
     refine RG (MV rfl rfl (ST (Ex.addC rfl rfl hxn8) rfl (AS rfl rfl (NL ?_))))
     exact WQ.againP m4 [(0, _), (1, _), (5, _)] ⟨rfl, rfl, rfl, trivial⟩ ⟨_, _, rfl, H, e2⟩ (Nat.lt_succ_self _)
   ·
    replace hk5 : ¬ (n3 < (p1.length : Int)) := of_decide_eq_false hk5
    rw [if_neg hk5] at e2
    refine WC.exit (WQ.thenExit (WQ.thenExit (WQ.exitHere ?_)))
    exact WQ.meetN [] trivial ⟨_, rfl, H, e2⟩
  ·
   rintro e w ⟨M, rfl, H, q9⟩
   obtain rfl := oI q9
   try dsimp only at h
   refine TN (SQ (RG (AS rfl rfl (NL (TN (RT ?_))))))
   obtain rfl := oI h
   exact WQ.ret1 rfl rfl H.ext rfl
theorem R_AtomByte_ct {p0 : UInt8} {r : Bool} (h : R_AtomByte p0 = some r) : Ct Tryz.prog 72 [encB p0] (fun M => True) (fun v M => v = Value.bool r) := by
  refine Ct.of Tryz.func72 (enters Tryz.func72 (by kernel_rfl) rfl) rfl rfl rfl ?_
  intro w0 M0 H hp
  unfold R_AtomByte at h
  refine SQ (RG (AS rfl rfl (NL (TN (SQ ?_)))))
  obtain ⟨o1, e2, h⟩ := bnd h
  refine WC.cutX (fun e w => ∃ (b3 : Bool) (M : Mem), e = [(2, Value.bool b3)] ∧ St w0 M0 M [] w ∧ some b3 = some o1) [] ?_ ?_ (trivial)
  ·
   obtain ⟨b4, hx5, e2⟩ := bnd e2
   refine RG (MV rfl rfl (WR.call H (R_letter_ct hx5) rfl trivial (Wn.none rfl) rfl ?_))
   intro v4 M w H hle hR
   obtain rfl := hR
   refine MV rfl rfl ?_
   rcases b4 with _ | _
   ·
    rw [if_neg Bool.false_ne_true] at e2
    obtain ⟨b6, hx7, e2⟩ := bnd e2
    refine SG (Ex.move rfl) rfl rfl rfl (WR.call H (R_OneOf_ct hx7) rfl trivial (Wn.some rfl rfl rfl) rfl ?_)
    intro v7 M w H hle hR
    obtain rfl := hR
    refine PF rfl rfl rfl (AS rfl rfl (NL ?_))
    exact WQ.meetN [(2, _)] ⟨rfl, trivial⟩ ⟨_, _, rfl, H, e2⟩
   ·
    rw [if_pos rfl] at e2
    refine GT rfl rfl rfl (GT rfl rfl rfl (PT rfl rfl rfl (AS rfl rfl (NL ?_))))
    exact WQ.meetN [(2, _)] ⟨rfl, trivial⟩ ⟨_, _, rfl, H, e2⟩
  ·
   rintro e w ⟨b3, M, rfl, H, q8⟩
   obtain rfl := oI q8
   refine TN (RT ?_)
   obtain rfl := oI h
   exact WQ.ret1 rfl rfl H.ext rfl
theorem R_Dotted_ct {p0 : List UInt8} {p1 : Bool} {r : Bool} (h : R_Dotted p0 p1 = some r) : Ct Tryz.prog 36 [S p0, Value.bool p1] (fun M => True) (fun v M => v = Value.bool r) := by
  refine Ct.of Tryz.func36 (enters Tryz.func36 (by kernel_rfl) rfl) rfl rfl rfl ?_
  intro w0 M0 H hp
  unfold R_Dotted at h
  refine SQ (RG (AS rfl rfl (NL (TN (SQ (RG (AS rfl rfl (NL (TN (SQ (SQ (RG (AS rfl rfl (NL (TN ?_)))))))))))))))
  obtain ⟨o1, e2, h⟩ := bnd h
  refine WC.cutX (fun e w => ∃ (b3 : Bool) (M : Mem), e = [(5, Value.bool b3)] ∧ St w0 M0 M [] w ∧ some (.inl b3) = some o1) [] ?_ ?_ (trivial)
  ·
   refine BL (WC.loopP (fun m e w => ∃ (b4 : Bool) (n5 : Int) (M : Mem), e = [(0, S p0), (1, Value.bool p1), (5, Value.bool b4), (6, I n5)] ∧ St w0 M0 M [] w ∧ R_Dotted_L1 p0 p1 m b4 n5 = some o1) FU [(0, _), (1, _), (5, _), (6, _)] ⟨rfl, rfl, rfl, rfl, trivial⟩ ⟨_, _, _, rfl, H, e2⟩ ?_)
   rintro m6 e w ⟨b4, n5, M, rfl, H, e2⟩
   rcases m6 with _ | m6
   · rw [R_Dotted_L1] at e2; cases e2
   rw [R_Dotted_L1] at e2
   refine SQ (SQ (RG (MV rfl rfl (MV rfl rfl (ST (Ex.lenStr Tryz.underlying9 rfl) rfl (ST (Ex.lss rfl rfl) rfl (NL (TN ?_))))))))
   refine WC.condB rfl (fun hk7 => ?_) (fun hk7 => ?_)
   ·
    replace hk7 : n5 < (p0.length : Int) := of_decide_eq_true hk7
    rw [if_pos hk7] at e2
    refine SK (TN (SQ (BL (SQ (SQ ?_)))))
    obtain ⟨c8, hxc8, e2⟩ := bnd e2
    refine RG (MV rfl rfl (MV rfl rfl (ST (Ex.idxStrC Tryz.underlying9 rfl rfl hxc8) rfl (ST (Ex.eqlB (c := c8) (d := 46) rfl rfl) rfl (NL (TN ?_))))))
    refine WC.condB rfl (fun hk9 => ?_) (fun hk9 => ?_)
    ·
     replace hk9 : c8 = 46 := of_decide_eq_true hk9
     rw [if_pos hk9] at e2
     refine SQ (SQ (RG (MV rfl rfl (NL (TN ?_)))))
     refine WC.condB rfl (fun hk10 => ?_) (fun hk10 => ?_)
     ·
      subst hk10
      rw [if_pos rfl] at e2
      refine SQ (RG (AS rfl rfl (NL (TN (RT ?_)))))
      obtain rfl := oI e2
      try dsimp only at h
      obtain rfl := oI h
      exact WQ.ret1 rfl rfl H.ext rfl
     ·
      subst hk10
      rw [if_neg Bool.false_ne_true] at e2
      refine SK (TN (SQ (RG (AS rfl rfl (NL (TN (WC.exit (WQ.thenExit (WQ.exitHere (TN ?_))))))))))
      obtain ⟨n11, hxn11, e2⟩ := bnd e2
      refine RG (MV rfl rfl (ST (Ex.addC rfl rfl hxn11) rfl (AS rfl rfl (NL ?_))))
      exact WQ.againP m6 [(0, _), (1, _), (5, _), (6, _)] ⟨rfl, rfl, rfl, rfl, trivial⟩ ⟨_, _, _, rfl, H, e2⟩ (Nat.lt_succ_self _)
    ·
     replace hk9 : ¬ (c8 = 46) := of_decide_eq_false hk9
     rw [if_neg hk9] at e2
     refine SK (TN (SQ (SQ ?_)))
     obtain ⟨o12, e13, e2⟩ := bnd e2
     refine WC.cutX (fun e w => ∃ (b14 : Bool) (M : Mem), e = [(0, S p0), (1, Value.bool p1), (6, I n5), (38, Value.bool b14)] ∧ St w0 M0 M [] w ∧ some b14 = some o12) [] ?_ ?_ (trivial)
     ·
      obtain ⟨c15, hxc15, e13⟩ := bnd e13
      obtain ⟨b16, hx17, e13⟩ := bnd e13
      refine RG (MV rfl rfl (MV rfl rfl (ST (Ex.idxStrC Tryz.underlying9 rfl rfl hxc15) rfl (WR.call H (R_AtomByte_ct hx17) rfl trivial (Wn.none rfl) rfl ?_))))
      intro v21 M w H hle hR
      obtain rfl := hR
      refine ST (Ex.not rfl) rfl (MV rfl rfl ?_)
      rcases b16 with _ | _
      ·
       rw [if_neg Bool.false_ne_true] at e13
       refine WR.skipN 14 rfl rfl (PT rfl rfl rfl (NL ?_))
       exact WQ.meetN [(0, _), (1, _), (6, _), (38, _)] ⟨rfl, rfl, rfl, rfl, trivial⟩ ⟨_, _, rfl, H, e13⟩
      ·
       rw [if_pos rfl] at e13
       refine SG (Ex.move rfl) rfl rfl rfl (SG (Ex.move rfl) rfl rfl rfl ?_)
       rcases p1 with _ | _
       ·
        rw [if_neg Bool.false_ne_true] at e13
        refine WR.skipN 5 rfl rfl (SG (Ex.pickF rfl rfl) rfl rfl rfl (SG (Ex.move rfl) rfl rfl rfl (WR.skipN 4 rfl rfl (SG (Ex.pickF rfl rfl) rfl rfl rfl (PF rfl rfl rfl (NL ?_))))))
        exact WQ.meetN [(0, _), (1, _), (6, _), (38, _)] ⟨rfl, rfl, rfl, rfl, trivial⟩ ⟨_, _, rfl, H, e13⟩
       ·
        rw [if_pos rfl] at e13
        obtain ⟨c18, hxc18, e13⟩ := bnd e13
        obtain ⟨b19, hx20, e13⟩ := bnd e13
        refine SG (Ex.move rfl) rfl rfl rfl (SG (Ex.move rfl) rfl rfl rfl (SG (Ex.idxStrC Tryz.underlying9 rfl rfl hxc18) rfl rfl rfl (WR.call H (R_letter_ct hx20) rfl trivial (Wn.some rfl rfl rfl) rfl ?_)))
        intro v29 M w H hle hR
        obtain rfl := hR
        refine SG (Ex.not rfl) rfl rfl rfl (SG (Ex.pickT rfl rfl) rfl rfl rfl (SG (Ex.move rfl) rfl rfl rfl ?_))
        rcases b19 with _ | _
        ·
         rw [if_neg Bool.false_ne_true] at e13
         obtain ⟨c21, hxc21, e13⟩ := bnd e13
         refine SG (Ex.move rfl) rfl rfl rfl (SG (Ex.move rfl) rfl rfl rfl (SG (Ex.idxStrC Tryz.underlying9 rfl rfl hxc21) rfl rfl rfl (SG (Ex.neqB (c := c21) (d := 45) rfl rfl) rfl rfl rfl (SG (Ex.pickT rfl rfl) rfl rfl rfl (PF rfl rfl rfl (NL ?_))))))
         exact WQ.meetN [(0, _), (1, _), (6, _), (38, _)] ⟨rfl, rfl, rfl, rfl, trivial⟩ ⟨_, _, rfl, H, e13⟩
        ·
         rw [if_pos rfl] at e13
         refine WR.skipN 4 rfl rfl (SG (Ex.pickF rfl rfl) rfl rfl rfl (PF rfl rfl rfl (NL ?_)))
         exact WQ.meetN [(0, _), (1, _), (6, _), (38, _)] ⟨rfl, rfl, rfl, rfl, trivial⟩ ⟨_, _, rfl, H, e13⟩
     ·
      rintro e w ⟨b14, M, rfl, H, q22⟩
      obtain rfl := oI q22
      refine TN ?_
      refine WC.condB rfl (fun hk23 => ?_) (fun hk23 => ?_)
      ·
       subst hk23
       rw [if_pos rfl] at e2
       refine SQ (RG (AS rfl rfl (NL (TN (RT ?_)))))
       obtain rfl := oI e2
       try dsimp only at h
       obtain rfl := oI h
       exact WQ.ret1 rfl rfl H.ext rfl
      ·
       subst hk23
       rw [if_neg Bool.false_ne_true] at e2
       refine SK (TN (RG (AS rfl rfl (NL (IB (TN ?_))))))
       obtain ⟨n24, hxn24, e2⟩ := bnd e2
       refine RG (MV rfl rfl (ST (Ex.addC rfl rfl hxn24) rfl (AS rfl rfl (NL ?_))))
       exact WQ.againP m6 [(0, _), (1, _), (5, _), (6, _)] ⟨rfl, rfl, rfl, rfl, trivial⟩ ⟨_, _, _, rfl, H, e2⟩ (Nat.lt_succ_self _)
   ·
    replace hk7 : ¬ (n5 < (p0.length : Int)) := of_decide_eq_false hk7
    rw [if_neg hk7] at e2
    refine WC.exit (WQ.thenExit (WQ.thenExit (WQ.exitHere ?_)))
    exact WQ.meetN [(5, _)] ⟨rfl, trivial⟩ ⟨_, _, rfl, H, e2⟩
  ·
   rintro e w ⟨b3, M, rfl, H, q25⟩
   obtain rfl := oI q25
   try dsimp only at h
   refine TN (SQ (RG (MV rfl rfl (ST (Ex.not rfl) rfl (AS rfl rfl (NL (TN (RT ?_))))))))
   obtain rfl := oI h
   exact WQ.ret1 rfl rfl H.ext rfl
theorem R_AddressFault_ct {p0 : (List UInt8 × List UInt8 × List UInt8)} {r : (Int × Int)} (h : R_AddressFault p0 = some r) : Ct Tryz.prog 11 [Value.agg #[S p0.1, S p0.2.1, S p0.2.2]] (fun M => True) (fun v M => v = Value.agg #[I r.1, I r.2]) := by
  refine Ct.of Tryz.func11 (enters Tryz.func11 (by kernel_rfl) rfl) rfl rfl rfl ?_
  intro w0 M0 H hp
  unfold R_AddressFault at h
  refine SQ (RG (WR.box [_, _, _] H rfl rfl (Wn.none rfl) rfl ?_))
  intro bk1 w H
  refine WR.alloc [_, _] H Tryz.zeroValue27 rfl (Wn.none rfl) rfl ?_
  intro bk2 w H
  refine NL (TN (SQ (SQ ?_)))
  obtain ⟨n1, hx2, h⟩ := bnd h
  refine RG (ST (Ex.fieldAddr Tryz.underlying24 rfl Tryz.sizeOf9 (by decide) rfl) rfl (ST (Ex.load1 H rfl (by repeat first | exact kMh | apply kMt) Tryz.isAgg9 (by rfl)) rfl ?_))
  refine WR.call H (R_displayCode_ct hx2) rfl trivial (Wn.none rfl) rfl ?_
  intro v5 M w H hle hR
  obtain rfl := hR
  refine ST (Ex.neqC rfl rfl) rfl (NL (TN ?_))
  refine WC.condB rfl (fun hk3 => ?_) (fun hk3 => ?_)
  ·
   replace hk3 : ¬ (n1 = (0 : Int)) := of_not_decide hk3
   rw [if_neg hk3] at h
   refine SQ ?_
   obtain ⟨n4, hx5, h⟩ := bnd h
   obtain ⟨⟨n6, n7⟩, hx8, h⟩ := bnd h
   try dsimp only at h
   refine RG (ST (Ex.fieldAddr Tryz.underlying24 rfl Tryz.sizeOf9 (by decide) rfl) rfl (ST (Ex.load1 H rfl (by repeat first | exact kMh | apply kMt) Tryz.isAgg9 (by rfl)) rfl ?_))
   refine WR.call H (R_displayCode_ct hx5) rfl trivial (Wn.none rfl) rfl ?_
   intro v9 M w H hle hR
   obtain rfl := hR
   refine WR.call H (R_At_ct hx8) rfl trivial (Wn.none rfl) rfl ?_
   intro v10 M w H hle hR
   try dsimp only at hR
   obtain rfl := hR
   refine WR.store [_, _] H rfl rfl rfl (by repeat first | exact .head | apply Upd.tail) Tryz.sizeOf27 rfl (by rfl) (by rfl) (Wn.none rfl) ?_
   intro w H
   refine NL (TN (RT ?_))
   obtain rfl := oI h
   exact WQ.ret1 rfl ⟨_, rfl, H.loadAgg (by repeat first | exact kMh | apply kMt) Tryz.isAgg27 Tryz.sizeOf27 (by rfl)⟩ H.ext rfl
  ·
   replace hk3 : n1 = (0 : Int) := of_not_decide' hk3
   rw [if_pos hk3] at h
   refine SK (TN (SQ (SQ ?_)))
   obtain ⟨b9, hx10, h⟩ := bnd h
   refine RG (ST (Ex.fieldAddr Tryz.underlying24 rfl Tryz.sizeOf9 (by decide) rfl) rfl (ST (Ex.load1 H rfl (by repeat first | exact kMh | apply kMt) Tryz.isAgg9 (by rfl)) rfl ?_))
   refine WR.call H (R_LocalPart_ct hx10) rfl trivial (Wn.none rfl) rfl ?_
   intro v13 M w H hle hR
   obtain rfl := hR
   refine ST (Ex.not rfl) rfl (NL (TN ?_))
   refine WC.condB rfl (fun hk11 => ?_) (fun hk11 => ?_)
   ·
    replace hk11 : b9 = false := by simpa using hk11
    subst hk11
    rw [if_neg Bool.false_ne_true] at h
    refine SQ ?_
    obtain ⟨⟨n12, n13⟩, hx14, h⟩ := bnd h
    try dsimp only at h
    refine RG (WR.call H (R_At_ct hx14) rfl trivial (Wn.none rfl) rfl ?_)
    intro v15 M w H hle hR
    try dsimp only at hR
    obtain rfl := hR
    refine WR.store [_, _] H rfl rfl rfl (by repeat first | exact .head | apply Upd.tail) Tryz.sizeOf27 rfl (by rfl) (by rfl) (Wn.none rfl) ?_
    intro w H
    refine NL (TN (RT ?_))
    obtain rfl := oI h
    exact WQ.ret1 rfl ⟨_, rfl, H.loadAgg (by repeat first | exact kMh | apply kMt) Tryz.isAgg27 Tryz.sizeOf27 (by rfl)⟩ H.ext rfl
   ·
    replace hk11 : b9 = true := by simpa using hk11
    subst hk11
    rw [if_pos rfl] at h
    refine SK (TN (SQ (SQ ?_)))
    obtain ⟨o15, e16, h⟩ := bnd h
    refine WC.cutX (fun e w => ∃ (b17 : Bool) (M : Mem), e = [(2, ptr bk2 0), (25, Value.bool b17)] ∧ St w0 M0 M [.blk bk2 (.cells #[I 0, I 0] 27)] w ∧ some b17 = some o15) [] ?_ ?_ (trivial)
    ·
     refine RG (ST (Ex.fieldAddr Tryz.underlying24 rfl Tryz.sizeOf9 (by decide) rfl) rfl (ST (Ex.load1 H rfl (by repeat first | exact kMh | apply kMt) Tryz.isAgg9 (by rfl)) rfl ?_))
     refine ST (Ex.lenStr Tryz.underlying9 rfl) rfl ?_
     by_cases hk18 : (60 : Int) < (p0.2.2.length : Int)
     ·
      rw [if_pos hk18] at e16
      refine WR.stepE (v' := .bool true) (Ex.gtr rfl rfl) (congrArg Value.bool (decide_eq_true hk18)) (Wn.none rfl) rfl rfl (MV rfl rfl (WR.skipN 4 rfl rfl (PT rfl rfl rfl (NL ?_))))
      exact WQ.meetN [(2, _), (25, _)] ⟨rfl, rfl, trivial⟩ ⟨_, _, rfl, (H.pick (L' := [.blk bk2 (.cells #[I 0, I 0] 27)]) (by repeat first | exact kPn | refine kPc (by repeat first | exact .head | apply Rem.tail) ?_)), e16⟩
     ·
      rw [if_neg hk18] at e16
      obtain ⟨b19, hx20, e16⟩ := bnd e16
      refine WR.stepE (v' := .bool false) (Ex.gtr rfl rfl) (congrArg Value.bool (decide_eq_false hk18)) (Wn.none rfl) rfl rfl (MV rfl rfl (SG (Ex.fieldAddr Tryz.underlying24 rfl Tryz.sizeOf9 (by decide) rfl) rfl rfl rfl (SG (Ex.load1 H rfl (by repeat first | exact kMh | apply kMt) Tryz.isAgg9 (by rfl)) rfl rfl rfl ?_)))
      refine WR.call H (R_Dotted_ct hx20) rfl trivial (Wn.some rfl rfl rfl) rfl ?_
      intro v23 M w H hle hR
      obtain rfl := hR
      refine SG (Ex.not rfl) rfl rfl rfl (PF rfl rfl rfl (NL ?_))
      exact WQ.meetN [(2, _), (25, _)] ⟨rfl, rfl, trivial⟩ ⟨_, _, rfl, (H.pick (L' := [.blk bk2 (.cells #[I 0, I 0] 27)]) (by repeat first | exact kPn | refine kPc (by repeat first | exact .head | apply Rem.tail) ?_)), e16⟩
    ·
     rintro e w ⟨b17, M, rfl, H, q21⟩
     obtain rfl := oI q21
     refine TN ?_
     refine WC.condB rfl (fun hk22 => ?_) (fun hk22 => ?_)
     ·
      subst hk22
      rw [if_pos rfl] at h
      refine SQ ?_
      obtain ⟨⟨n23, n24⟩, hx25, h⟩ := bnd h
      try dsimp only at h
      refine RG (WR.call H (R_At_ct hx25) rfl trivial (Wn.none rfl) rfl ?_)
      intro v26 M w H hle hR
      try dsimp only at hR
      obtain rfl := hR
      refine WR.store [_, _] H rfl rfl rfl (by repeat first | exact .head | apply Upd.tail) Tryz.sizeOf27 rfl (by rfl) (by rfl) (Wn.none rfl) ?_
      intro w H
      refine NL (TN (RT ?_))
      obtain rfl := oI h
      exact WQ.ret1 rfl ⟨_, rfl, H.loadAgg (by repeat first | exact kMh | apply kMt) Tryz.isAgg27 Tryz.sizeOf27 (by rfl)⟩ H.ext rfl
     ·
      subst hk22
      rw [if_neg Bool.false_ne_true] at h
      refine SK (TN (SQ (RG (ST (Ex.build [I 0, I 0] Tryz.underlying27 Tryz.zeroValue27 (xplaces27 Tryz.underlying27) rfl rfl) rfl (WR.store [_, _] H rfl rfl rfl (by repeat first | exact .head | apply Upd.tail) Tryz.sizeOf27 rfl (by rfl) (by rfl) (Wn.none rfl) ?_)))))
      intro w H
      refine NL (TN (RT ?_))
      obtain rfl := oI h
      exact WQ.ret1 rfl ⟨_, rfl, H.loadAgg (by repeat first | exact kMh | apply kMt) Tryz.isAgg27 Tryz.sizeOf27 (by rfl)⟩ H.ext rfl
theorem R_ItemsFault_ct {p0 : List (List UInt8 × Bool × List (List UInt8 × List UInt8 × List UInt8))} {vp0 : Value} {r : (Int × Int)} (h : R_ItemsFault p0 = some r) : Ct Tryz.prog 13 [vp0] (fun M => SlR xrl34 M vp0 p0) (fun v M => v = Value.agg #[I r.1, I r.2]) := by
  refine Ct.of Tryz.func13 (enters Tryz.func13 (by kernel_rfl) rfl) rfl rfl rfl ?_
  intro w0 M0 H hp
  have hp0 := hp
  unfold R_ItemsFault at h
  refine SQ (RG (WR.alloc [_, _] H Tryz.zeroValue27 rfl (Wn.none rfl) rfl ?_))
  intro bk2 w H
  refine NL (TN (SQ (RG (AS rfl rfl (NL (TN (SQ (SQ (RG (AS rfl rfl (NL (TN ?_))))))))))))
  obtain ⟨o1, e2, h⟩ := bnd h
  refine WC.cutX (fun e w => ∃ (n3 : Int) (M : Mem), e = [(0, vp0), (2, ptr bk2 0), (3, I n3)] ∧ St w0 M0 M [.blk bk2 (.cells #[I 0, I 0] 27)] w ∧ SlR xrl34 M vp0 p0 ∧ some n3 = some o1) [] ?_ ?_ (trivial)
  ·
   refine BL (WC.loopP (fun m e w => ∃ (n4 : Int) (n5 : Int) (M : Mem), e = [(0, vp0), (2, ptr bk2 0), (3, I n4), (4, I n5)] ∧ St w0 M0 M [.blk bk2 (.cells #[I 0, I 0] 27)] w ∧ SlR xrl34 M vp0 p0 ∧ R_ItemsFault_L1 p0 m n4 n5 = some o1) FU [(0, _), (2, _), (3, _), (4, _)] ⟨rfl, rfl, rfl, rfl, trivial⟩ ⟨_, _, _, rfl, H, hp0, e2⟩ ?_)
   rintro m6 e w ⟨n4, n5, M, rfl, H, hp0, e2⟩
   rcases m6 with _ | m6
   · rw [R_ItemsFault_L1] at e2; cases e2
   rw [R_ItemsFault_L1] at e2
   refine SQ (SQ (RG (MV rfl rfl (MV rfl rfl (ST (Ex.lenSlR Tryz.underlying22 hp0 rfl) rfl (ST (Ex.lss rfl rfl) rfl (NL (TN ?_))))))))
   refine WC.condB rfl (fun hk7 => ?_) (fun hk7 => ?_)
   ·
    replace hk7 : n5 < (p0.length : Int) := of_decide_eq_true hk7
    rw [if_pos hk7] at e2
    refine SK (TN (SQ (BL ?_)))
    obtain ⟨a8, hxa8, e2⟩ := bnd e2
    obtain ⟨bk18, o18, fq18, ha18, hc18, hr18⟩ := hp0.atC hxa8
    obtain ⟨f18_0, f18_1, q18_2⟩ := fq18
    replace hr18 : f18_0 = a8.1 ∧ f18_1 = a8.2.1 ∧ SlS M 3 xenc24 (hv q18_2) a8.2.2 := hr18
    obtain ⟨rfl, rfl, hs18_2⟩ := hr18
    refine RG (MV rfl rfl (MV rfl rfl (MV rfl rfl (ST (Ex.idxAt ha18 Tryz.underlying22 Tryz.sizeOf34 rfl rfl) rfl (ST (Ex.fieldAddr Tryz.underlying34 rfl Tryz.sizeOf30 (by decide) rfl) rfl (ST (Ex.loadM H rfl (hc18.at (j := 2) rfl) Tryz.isAgg30) rfl (ST (Ex.lenSlS Tryz.underlying30 hs18_2 rfl) rfl (ST (Ex.add rfl rfl) rfl (AS rfl rfl (NL (IB (TN ?_))))))))))))
    obtain ⟨n9, hxn9, e2⟩ := bnd e2
    refine RG (MV rfl rfl (ST (Ex.addC rfl rfl hxn9) rfl (AS rfl rfl (NL ?_))))
    exact WQ.againP m6 [(0, _), (2, _), (3, _), (4, _)] ⟨rfl, rfl, rfl, rfl, trivial⟩ ⟨_, _, _, rfl, H, hp0, e2⟩ (Nat.lt_succ_self _)
   ·
    replace hk7 : ¬ (n5 < (p0.length : Int)) := of_decide_eq_false hk7
    rw [if_neg hk7] at e2
    refine WC.exit (WQ.thenExit (WQ.thenExit (WQ.exitHere ?_)))
    exact WQ.meetN [(0, _), (2, _), (3, _)] ⟨rfl, rfl, rfl, trivial⟩ ⟨_, _, rfl, H, hp0, e2⟩
  ·
   rintro e w ⟨n3, M, rfl, H, hp0, q10⟩
   obtain rfl := oI q10
   refine TN (SQ (SQ ?_))
   obtain ⟨o11, e12, h⟩ := bnd h
   refine WC.cutX (fun e w => ∃ (b13 : Bool) (M : Mem), e = [(0, vp0), (2, ptr bk2 0), (29, Value.bool b13)] ∧ St w0 M0 M [.blk bk2 (.cells #[I 0, I 0] 27)] w ∧ SlR xrl34 M vp0 p0 ∧ some b13 = some o11) [] ?_ ?_ (trivial)
   ·
    refine RG (MV rfl rfl (ST (Ex.lenSlR Tryz.underlying22 hp0 rfl) rfl ?_))
    by_cases hk14 : (60 : Int) < (p0.length : Int)
    ·
     rw [if_pos hk14] at e12
     refine WR.stepE (v' := .bool true) (Ex.gtr rfl rfl) (congrArg Value.bool (decide_eq_true hk14)) (Wn.none rfl) rfl rfl (MV rfl rfl (GT rfl rfl rfl (GT rfl rfl rfl (PT rfl rfl rfl (NL ?_)))))
     exact WQ.meetN [(0, _), (2, _), (29, _)] ⟨rfl, rfl, rfl, trivial⟩ ⟨_, _, rfl, H, hp0, e12⟩
    ·
     rw [if_neg hk14] at e12
     refine WR.stepE (v' := .bool false) (Ex.gtr rfl rfl) (congrArg Value.bool (decide_eq_false hk14)) (Wn.none rfl) rfl rfl (MV rfl rfl (SG (Ex.move rfl) rfl rfl rfl (SG (Ex.gtr rfl rfl) rfl rfl rfl (PF rfl rfl rfl (NL ?_)))))
     exact WQ.meetN [(0, _), (2, _), (29, _)] ⟨rfl, rfl, rfl, trivial⟩ ⟨_, _, rfl, H, hp0, e12⟩
   ·
    rintro e w ⟨b13, M, rfl, H, hp0, q15⟩
    obtain rfl := oI q15
    refine TN ?_
    refine WC.condB rfl (fun hk16 => ?_) (fun hk16 => ?_)
    ·
     subst hk16
     rw [if_pos rfl] at h
     refine SQ ?_
     obtain ⟨⟨n17, n18⟩, hx19, h⟩ := bnd h
     try dsimp only at h
     refine RG (WR.call H (R_At_ct hx19) rfl trivial (Wn.none rfl) rfl ?_)
     intro v30 M w H hle hR
     replace hp0 := hp0.mono hle
     try dsimp only at hR
     obtain rfl := hR
     refine WR.store [_, _] H rfl rfl rfl (by repeat first | exact .head | apply Upd.tail) Tryz.sizeOf27 rfl (by rfl) (by rfl) (Wn.none rfl) ?_
     intro w H
     refine NL (TN (RT ?_))
     obtain rfl := oI h
     exact WQ.ret1 rfl ⟨_, rfl, H.loadAgg (by repeat first | exact kMh | apply kMt) Tryz.isAgg27 Tryz.sizeOf27 (by rfl)⟩ H.ext rfl
    ·
     subst hk16
     rw [if_neg Bool.false_ne_true] at h
     refine SK (TN (SQ (SQ (RG (AS rfl rfl (NL (TN ?_)))))))
     obtain ⟨o20, e21, h⟩ := bnd h
     refine WC.cutX (fun e w => ∃ (n22 : Int) (n23 : Int) (M : Mem), e = [(2, ptr bk2 0)] ∧ St w0 M0 M [.blk bk2 (.cells #[I n22, I n23] 27)] w ∧ some (.inl (n22, n23)) = some o20) [] ?_ ?_ (trivial)
     ·
      refine BL (WC.loopP (fun m e w => ∃ (n24 : Int) (n25 : Int) (n26 : Int) (M : Mem), e = [(0, vp0), (2, ptr bk2 0), (5, I n26)] ∧ St w0 M0 M [.blk bk2 (.cells #[I n24, I n25] 27)] w ∧ SlR xrl34 M vp0 p0 ∧ R_ItemsFault_L2 p0 m n24 n25 n26 = some o20) FU [(0, _), (2, _), (5, _)] ⟨rfl, rfl, rfl, trivial⟩ ⟨_, _, _, _, rfl, H, hp0, e21⟩ ?_)
      rintro m27 e w ⟨n24, n25, n26, M, rfl, H, hp0, e21⟩
      rcases m27 with _ | m27
      · rw [R_ItemsFault_L2] at e21; cases e21
      rw [R_ItemsFault_L2] at e21
      refine SQ (SQ (RG (MV rfl rfl (MV rfl rfl (ST (Ex.lenSlR Tryz.underlying22 hp0 rfl) rfl (ST (Ex.lss rfl rfl) rfl (NL (TN ?_))))))))
      refine WC.condB rfl (fun hk28 => ?_) (fun hk28 => ?_)
      ·
       replace hk28 : n26 < (p0.length : Int) := of_decide_eq_true hk28
       rw [if_pos hk28] at e21
       refine SK (TN (SQ (BL (SQ ?_))))
       obtain ⟨a29, hxa29, e21⟩ := bnd e21
       obtain ⟨bk39, o39, fq39, ha39, hc39, hr39⟩ := hp0.atC hxa29
       obtain ⟨f39_0, f39_1, q39_2⟩ := fq39
       replace hr39 : f39_0 = a29.1 ∧ f39_1 = a29.2.1 ∧ SlS M 3 xenc24 (hv q39_2) a29.2.2 := hr39
       obtain ⟨rfl, rfl, hs39_2⟩ := hr39
       refine RG (MV rfl rfl (MV rfl rfl (ST (Ex.idxAt ha39 Tryz.underlying22 Tryz.sizeOf34 rfl rfl) rfl (ST (Ex.loadAggM H rfl hc39 Tryz.isAgg34 Tryz.sizeOf34 (by rfl)) rfl ?_))))
       refine WR.alloc [_, _, _] H Tryz.zeroValue34 rfl (Wn.none rfl) rfl ?_
       intro bk6 w H
       refine WR.store [_, _, _] H rfl rfl rfl (by repeat first | exact .head | apply Upd.tail) Tryz.sizeOf34 rfl (by rfl) (by simp only [List.all_cons, List.all_nil, (hs39_2).one.2]; rfl) (Wn.none rfl) ?_
       intro w H
       refine NL (TN (SQ (SQ ?_)))
       obtain ⟨n30, hx31, e21⟩ := bnd e21
       refine RG (ST (Ex.fieldAddr Tryz.underlying34 rfl Tryz.sizeOf9 (by decide) rfl) rfl (ST (Ex.load1 H rfl (by repeat first | exact kMh | apply kMt) Tryz.isAgg9 (by rfl)) rfl ?_))
       refine WR.call H (R_displayCode_ct hx31) rfl trivial (Wn.none rfl) rfl ?_
       intro v43 M w H hle hR
       replace hp0 := hp0.mono hle
       replace hc39 := hc39.mono hle
       replace hs39_2 := hs39_2.mono hle
       obtain rfl := hR
       refine ST (Ex.neqC rfl rfl) rfl (NL (TN ?_))
       refine WC.condB rfl (fun hk32 => ?_) (fun hk32 => ?_)
       ·
        replace hk32 : ¬ (n30 = (0 : Int)) := of_not_decide hk32
        rw [if_neg hk32] at e21
        refine SQ ?_
        obtain ⟨n33, hx34, e21⟩ := bnd e21
        obtain ⟨⟨n35, n36⟩, hx37, e21⟩ := bnd e21
        try dsimp only at e21
        refine RG (ST (Ex.fieldAddr Tryz.underlying34 rfl Tryz.sizeOf9 (by decide) rfl) rfl (ST (Ex.load1 H rfl (by repeat first | exact kMh | apply kMt) Tryz.isAgg9 (by rfl)) rfl ?_))
        refine WR.call H (R_displayCode_ct hx34) rfl trivial (Wn.none rfl) rfl ?_
        intro v47 M w H hle hR
        replace hp0 := hp0.mono hle
        replace hc39 := hc39.mono hle
        replace hs39_2 := hs39_2.mono hle
        obtain rfl := hR
        refine MV rfl rfl (WR.call H (R_At_ct hx37) rfl trivial (Wn.none rfl) rfl ?_)
        intro v49 M w H hle hR
        replace hp0 := hp0.mono hle
        replace hc39 := hc39.mono hle
        replace hs39_2 := hs39_2.mono hle
        try dsimp only at hR
        obtain rfl := hR
        refine WR.store [_, _] H rfl rfl rfl (by repeat first | exact .head | apply Upd.tail) Tryz.sizeOf27 rfl (by rfl) (by rfl) (Wn.none rfl) ?_
        intro w H
        refine NL (TN (RT ?_))
        obtain rfl := oI e21
        try dsimp only at h
        obtain rfl := oI h
        exact WQ.ret1 rfl ⟨_, rfl, H.loadAgg (by repeat first | exact kMh | apply kMt) Tryz.isAgg27 Tryz.sizeOf27 (by rfl)⟩ H.ext rfl
       ·
        replace hk32 : n30 = (0 : Int) := of_not_decide' hk32
        rw [if_pos hk32] at e21
        refine SK (TN (SQ (SQ ?_)))
        obtain ⟨o38, e39, e21⟩ := bnd e21
        refine WC.cutX (fun e w => ∃ (b40 : Bool) (M : Mem), e = [(0, vp0), (2, ptr bk2 0), (5, I n26), (6, ptr bk6 0), (72, Value.bool b40)] ∧ St w0 M0 M [.blk bk2 (.cells #[I n24, I n25] 27), .blk bk6 (.cells #[S a29.1, Value.bool a29.2.1, (hv q39_2)] 34)] w ∧ SlR xrl34 M vp0 p0 ∧ SlS M 3 xenc24 (hv q39_2) a29.2.2 ∧ some b40 = some o38) [] ?_ ?_ (trivial)
        ·
         by_cases hk41 : a29.2.1 = true
         ·
          rw [if_pos hk41] at e39
          refine RG (ST (Ex.fieldAddr Tryz.underlying34 rfl Tryz.sizeOf4 (by decide) rfl) rfl (WR.stepE (v' := .bool true) (Ex.load1 H rfl (by repeat first | exact kMh | apply kMt) Tryz.isAgg4 (by rfl)) (congrArg Value.bool hk41) (Wn.none rfl) rfl rfl ?_))
          by_cases hk42 : a29.1 = []
          ·
           rw [if_pos hk42] at e39
           refine MV rfl rfl (SG (Ex.fieldAddr Tryz.underlying34 rfl Tryz.sizeOf9 (by decide) rfl) rfl rfl rfl (SG (Ex.load1 H rfl (by repeat first | exact kMh | apply kMt) Tryz.isAgg9 (by rfl)) rfl rfl rfl ?_))
           refine WR.stepE (v' := .bool true) (Ex.strEql rfl rfl) (congrArg Value.bool (decide_eq_true hk42)) (Wn.some rfl rfl rfl) rfl rfl (PT rfl rfl rfl (MV rfl rfl (WR.skipN 14 rfl rfl (PT rfl rfl rfl (NL ?_)))))
           exact WQ.meetN [(0, _), (2, _), (5, _), (6, _), (72, _)] ⟨rfl, rfl, rfl, rfl, rfl, trivial⟩ ⟨_, _, rfl, (H.pick (L' := [.blk bk2 (.cells #[I n24, I n25] 27), .blk bk6 (.cells #[S a29.1, Value.bool a29.2.1, (hv q39_2)] 34)]) (by repeat first | exact kPn | refine kPc (by repeat first | exact .head | apply Rem.tail) ?_)), hp0, hs39_2, e39⟩
          ·
           rw [if_neg hk42] at e39
           by_cases hk43 : a29.2.1 = true
           ·
            rw [if_pos hk43] at e39
            refine MV rfl rfl (SG (Ex.fieldAddr Tryz.underlying34 rfl Tryz.sizeOf9 (by decide) rfl) rfl rfl rfl (SG (Ex.load1 H rfl (by repeat first | exact kMh | apply kMt) Tryz.isAgg9 (by rfl)) rfl rfl rfl ?_))
            refine WR.stepE (v' := .bool false) (Ex.strEql rfl rfl) (congrArg Value.bool (decide_eq_false hk42)) (Wn.some rfl rfl rfl) rfl rfl (PT rfl rfl rfl (MV rfl rfl (SG (Ex.fieldAddr Tryz.underlying34 rfl Tryz.sizeOf4 (by decide) rfl) rfl rfl rfl (SG (Ex.load1 H rfl (by repeat first | exact kMh | apply kMt) Tryz.isAgg4 (by rfl)) rfl rfl rfl ?_))))
            refine WR.stepE (v' := .bool false) (Ex.not rfl) (congrArg Value.bool (by rw [hk43]; rfl)) (Wn.some rfl rfl rfl) rfl rfl ?_
            refine SG (Ex.move rfl) rfl rfl rfl (WR.skipN 9 rfl rfl (SG (Ex.pickF rfl rfl) rfl rfl rfl (PF rfl rfl rfl (NL ?_))))
            exact WQ.meetN [(0, _), (2, _), (5, _), (6, _), (72, _)] ⟨rfl, rfl, rfl, rfl, rfl, trivial⟩ ⟨_, _, rfl, (H.pick (L' := [.blk bk2 (.cells #[I n24, I n25] 27), .blk bk6 (.cells #[S a29.1, Value.bool a29.2.1, (hv q39_2)] 34)]) (by repeat first | exact kPn | refine kPc (by repeat first | exact .head | apply Rem.tail) ?_)), hp0, hs39_2, e39⟩
           ·
            rw [if_neg hk43] at e39
            by_cases hk44 : a29.1 = []
            ·
             rw [if_pos hk44] at e39
             refine MV rfl rfl (SG (Ex.fieldAddr Tryz.underlying34 rfl Tryz.sizeOf9 (by decide) rfl) rfl rfl rfl (SG (Ex.load1 H rfl (by repeat first | exact kMh | apply kMt) Tryz.isAgg9 (by rfl)) rfl rfl rfl ?_))
             refine WR.stepE (v' := .bool false) (Ex.strEql rfl rfl) (congrArg Value.bool (decide_eq_false hk42)) (Wn.some rfl rfl rfl) rfl rfl (PT rfl rfl rfl (MV rfl rfl (SG (Ex.fieldAddr Tryz.underlying34 rfl Tryz.sizeOf4 (by decide) rfl) rfl rfl rfl (SG (Ex.load1 H rfl (by repeat first | exact kMh | apply kMt) Tryz.isAgg4 (by rfl)) rfl rfl rfl ?_))))
             refine WR.stepE (v' := .bool true) (Ex.not rfl) (congrArg Value.bool (by rw [(Bool.of_not_eq_true hk43)]; rfl)) (Wn.some rfl rfl rfl) rfl rfl ?_
             refine SG (Ex.move rfl) rfl rfl rfl (SG (Ex.fieldAddr Tryz.underlying34 rfl Tryz.sizeOf9 (by decide) rfl) rfl rfl rfl (SG (Ex.load1 H rfl (by repeat first | exact kMh | apply kMt) Tryz.isAgg9 (by rfl)) rfl rfl rfl ?_))
             refine WR.stepE (v' := .bool false) (Ex.strNeqC rfl rfl) (congrArg Value.bool (by rw [decide_eq_true hk44]; rfl)) (Wn.some rfl rfl rfl) rfl rfl ?_
             refine SG (Ex.move rfl) rfl rfl rfl (SG (Ex.fieldAddr Tryz.underlying34 rfl Tryz.sizeOf30 (by decide) rfl) rfl rfl rfl (SG (Ex.load1 H rfl (by repeat first | exact kMh | apply kMt) Tryz.isAgg30 (by rfl)) rfl rfl rfl ?_))
             refine SG (Ex.lenSlS Tryz.underlying30 hs39_2 rfl) rfl rfl rfl (SG (Ex.neqC rfl rfl) rfl rfl rfl (SG (Ex.pickF rfl rfl) rfl rfl rfl (SG (Ex.pickT rfl rfl) rfl rfl rfl (PF rfl rfl rfl (NL ?_)))))
             exact WQ.meetN [(0, _), (2, _), (5, _), (6, _), (72, _)] ⟨rfl, rfl, rfl, rfl, rfl, trivial⟩ ⟨_, _, rfl, (H.pick (L' := [.blk bk2 (.cells #[I n24, I n25] 27), .blk bk6 (.cells #[S a29.1, Value.bool a29.2.1, (hv q39_2)] 34)]) (by repeat first | exact kPn | refine kPc (by repeat first | exact .head | apply Rem.tail) ?_)), hp0, hs39_2, e39⟩
            ·
             rw [if_neg hk44] at e39
             refine MV rfl rfl (SG (Ex.fieldAddr Tryz.underlying34 rfl Tryz.sizeOf9 (by decide) rfl) rfl rfl rfl (SG (Ex.load1 H rfl (by repeat first | exact kMh | apply kMt) Tryz.isAgg9 (by rfl)) rfl rfl rfl ?_))
             refine WR.stepE (v' := .bool false) (Ex.strEql rfl rfl) (congrArg Value.bool (decide_eq_false hk42)) (Wn.some rfl rfl rfl) rfl rfl (PT rfl rfl rfl (MV rfl rfl (SG (Ex.fieldAddr Tryz.underlying34 rfl Tryz.sizeOf4 (by decide) rfl) rfl rfl rfl (SG (Ex.load1 H rfl (by repeat first | exact kMh | apply kMt) Tryz.isAgg4 (by rfl)) rfl rfl rfl ?_))))
             refine WR.stepE (v' := .bool true) (Ex.not rfl) (congrArg Value.bool (by rw [(Bool.of_not_eq_true hk43)]; rfl)) (Wn.some rfl rfl rfl) rfl rfl ?_
             refine SG (Ex.move rfl) rfl rfl rfl (SG (Ex.fieldAddr Tryz.underlying34 rfl Tryz.sizeOf9 (by decide) rfl) rfl rfl rfl (SG (Ex.load1 H rfl (by repeat first | exact kMh | apply kMt) Tryz.isAgg9 (by rfl)) rfl rfl rfl ?_))
             refine WR.stepE (v' := .bool true) (Ex.strNeqC rfl rfl) (congrArg Value.bool (by rw [decide_eq_false hk44]; rfl)) (Wn.some rfl rfl rfl) rfl rfl ?_
             refine SG (Ex.move rfl) rfl rfl rfl (WR.skipN 4 rfl rfl (SG (Ex.pickT rfl rfl) rfl rfl rfl (SG (Ex.pickT rfl rfl) rfl rfl rfl (PF rfl rfl rfl (NL ?_)))))
             exact WQ.meetN [(0, _), (2, _), (5, _), (6, _), (72, _)] ⟨rfl, rfl, rfl, rfl, rfl, trivial⟩ ⟨_, _, rfl, (H.pick (L' := [.blk bk2 (.cells #[I n24, I n25] 27), .blk bk6 (.cells #[S a29.1, Value.bool a29.2.1, (hv q39_2)] 34)]) (by repeat first | exact kPn | refine kPc (by repeat first | exact .head | apply Rem.tail) ?_)), hp0, hs39_2, e39⟩
         ·
          rw [if_neg hk41] at e39
          refine RG (ST (Ex.fieldAddr Tryz.underlying34 rfl Tryz.sizeOf4 (by decide) rfl) rfl (WR.stepE (v' := .bool false) (Ex.load1 H rfl (by repeat first | exact kMh | apply kMt) Tryz.isAgg4 (by rfl)) (congrArg Value.bool (Bool.of_not_eq_true hk41)) (Wn.none rfl) rfl rfl ?_))
          by_cases hk45 : a29.2.1 = true
          ·
           rw [if_pos hk45] at e39
           refine MV rfl rfl (WR.skipN 3 rfl rfl (PF rfl rfl rfl (MV rfl rfl (SG (Ex.fieldAddr Tryz.underlying34 rfl Tryz.sizeOf4 (by decide) rfl) rfl rfl rfl (SG (Ex.load1 H rfl (by repeat first | exact kMh | apply kMt) Tryz.isAgg4 (by rfl)) rfl rfl rfl ?_)))))
           refine WR.stepE (v' := .bool false) (Ex.not rfl) (congrArg Value.bool (by rw [hk45]; rfl)) (Wn.some rfl rfl rfl) rfl rfl ?_
           refine SG (Ex.move rfl) rfl rfl rfl (WR.skipN 9 rfl rfl (SG (Ex.pickF rfl rfl) rfl rfl rfl (PF rfl rfl rfl (NL ?_))))
           exact WQ.meetN [(0, _), (2, _), (5, _), (6, _), (72, _)] ⟨rfl, rfl, rfl, rfl, rfl, trivial⟩ ⟨_, _, rfl, (H.pick (L' := [.blk bk2 (.cells #[I n24, I n25] 27), .blk bk6 (.cells #[S a29.1, Value.bool a29.2.1, (hv q39_2)] 34)]) (by repeat first | exact kPn | refine kPc (by repeat first | exact .head | apply Rem.tail) ?_)), hp0, hs39_2, e39⟩
          ·
           rw [if_neg hk45] at e39
           by_cases hk46 : a29.1 = []
           ·
            rw [if_pos hk46] at e39
            refine MV rfl rfl (WR.skipN 3 rfl rfl (PF rfl rfl rfl (MV rfl rfl (SG (Ex.fieldAddr Tryz.underlying34 rfl Tryz.sizeOf4 (by decide) rfl) rfl rfl rfl (SG (Ex.load1 H rfl (by repeat first | exact kMh | apply kMt) Tryz.isAgg4 (by rfl)) rfl rfl rfl ?_)))))
            refine WR.stepE (v' := .bool true) (Ex.not rfl) (congrArg Value.bool (by rw [(Bool.of_not_eq_true hk45)]; rfl)) (Wn.some rfl rfl rfl) rfl rfl ?_
            refine SG (Ex.move rfl) rfl rfl rfl (SG (Ex.fieldAddr Tryz.underlying34 rfl Tryz.sizeOf9 (by decide) rfl) rfl rfl rfl (SG (Ex.load1 H rfl (by repeat first | exact kMh | apply kMt) Tryz.isAgg9 (by rfl)) rfl rfl rfl ?_))
            refine WR.stepE (v' := .bool false) (Ex.strNeqC rfl rfl) (congrArg Value.bool (by rw [decide_eq_true hk46]; rfl)) (Wn.some rfl rfl rfl) rfl rfl ?_
            refine SG (Ex.move rfl) rfl rfl rfl (SG (Ex.fieldAddr Tryz.underlying34 rfl Tryz.sizeOf30 (by decide) rfl) rfl rfl rfl (SG (Ex.load1 H rfl (by repeat first | exact kMh | apply kMt) Tryz.isAgg30 (by rfl)) rfl rfl rfl ?_))
            refine SG (Ex.lenSlS Tryz.underlying30 hs39_2 rfl) rfl rfl rfl (SG (Ex.neqC rfl rfl) rfl rfl rfl (SG (Ex.pickF rfl rfl) rfl rfl rfl (SG (Ex.pickT rfl rfl) rfl rfl rfl (PF rfl rfl rfl (NL ?_)))))
            exact WQ.meetN [(0, _), (2, _), (5, _), (6, _), (72, _)] ⟨rfl, rfl, rfl, rfl, rfl, trivial⟩ ⟨_, _, rfl, (H.pick (L' := [.blk bk2 (.cells #[I n24, I n25] 27), .blk bk6 (.cells #[S a29.1, Value.bool a29.2.1, (hv q39_2)] 34)]) (by repeat first | exact kPn | refine kPc (by repeat first | exact .head | apply Rem.tail) ?_)), hp0, hs39_2, e39⟩
           ·
            rw [if_neg hk46] at e39
            refine MV rfl rfl (WR.skipN 3 rfl rfl (PF rfl rfl rfl (MV rfl rfl (SG (Ex.fieldAddr Tryz.underlying34 rfl Tryz.sizeOf4 (by decide) rfl) rfl rfl rfl (SG (Ex.load1 H rfl (by repeat first | exact kMh | apply kMt) Tryz.isAgg4 (by rfl)) rfl rfl rfl ?_)))))
            refine WR.stepE (v' := .bool true) (Ex.not rfl) (congrArg Value.bool (by rw [(Bool.of_not_eq_true hk45)]; rfl)) (Wn.some rfl rfl rfl) rfl rfl ?_
            refine SG (Ex.move rfl) rfl rfl rfl (SG (Ex.fieldAddr Tryz.underlying34 rfl Tryz.sizeOf9 (by decide) rfl) rfl rfl rfl (SG (Ex.load1 H rfl (by repeat first | exact kMh | apply kMt) Tryz.isAgg9 (by rfl)) rfl rfl rfl ?_))
            refine WR.stepE (v' := .bool true) (Ex.strNeqC rfl rfl) (congrArg Value.bool (by rw [decide_eq_false hk46]; rfl)) (Wn.some rfl rfl rfl) rfl rfl ?_
            refine SG (Ex.move rfl) rfl rfl rfl (WR.skipN 4 rfl rfl (SG (Ex.pickT rfl rfl) rfl rfl rfl (SG (Ex.pickT rfl rfl) rfl rfl rfl (PF rfl rfl rfl (NL ?_)))))
            exact WQ.meetN [(0, _), (2, _), (5, _), (6, _), (72, _)] ⟨rfl, rfl, rfl, rfl, rfl, trivial⟩ ⟨_, _, rfl, (H.pick (L' := [.blk bk2 (.cells #[I n24, I n25] 27), .blk bk6 (.cells #[S a29.1, Value.bool a29.2.1, (hv q39_2)] 34)]) (by repeat first | exact kPn | refine kPc (by repeat first | exact .head | apply Rem.tail) ?_)), hp0, hs39_2, e39⟩
        ·
         rintro e w ⟨b40, M, rfl, H, hp0, hs39_2, q47⟩
         obtain rfl := oI q47
         refine TN ?_
         refine WC.condB rfl (fun hk48 => ?_) (fun hk48 => ?_)
         ·
          subst hk48
          rw [if_pos rfl] at e21
          refine SQ ?_
          obtain ⟨⟨n49, n50⟩, hx51, e21⟩ := bnd e21
          try dsimp only at e21
          refine RG (MV rfl rfl (WR.call H (R_At_ct hx51) rfl trivial (Wn.none rfl) rfl ?_))
          intro v74 M w H hle hR
          replace hp0 := hp0.mono hle
          replace hs39_2 := hs39_2.mono hle
          try dsimp only at hR
          obtain rfl := hR
          refine WR.store [_, _] H rfl rfl rfl (by repeat first | exact .head | apply Upd.tail) Tryz.sizeOf27 rfl (by rfl) (by rfl) (Wn.none rfl) ?_
          intro w H
          refine NL (TN (RT ?_))
          obtain rfl := oI e21
          try dsimp only at h
          obtain rfl := oI h
          exact WQ.ret1 rfl ⟨_, rfl, H.loadAgg (by repeat first | exact kMh | apply kMt) Tryz.isAgg27 Tryz.sizeOf27 (by rfl)⟩ H.ext rfl
         ·
          subst hk48
          rw [if_neg Bool.false_ne_true] at e21
          refine SK (TN (SQ (RG (AS rfl rfl (NL (TN ?_))))))
          obtain ⟨o52, e53, e21⟩ := bnd e21
          refine WC.cutX (fun e w => ∃ (n54 : Int) (n55 : Int) (M : Mem), e = [(0, vp0), (2, ptr bk2 0), (5, I n26)] ∧ St w0 M0 M [.blk bk2 (.cells #[I n54, I n55] 27)] w ∧ SlR xrl34 M vp0 p0 ∧ some (.inl (n54, n55)) = some o52) [] ?_ ?_ (trivial)
          ·
           refine BL (WC.loopP (fun m e w => ∃ (n56 : Int) (n57 : Int) (n58 : Int) (M : Mem), e = [(0, vp0), (2, ptr bk2 0), (5, I n26), (6, ptr bk6 0), (7, I n58)] ∧ St w0 M0 M [.blk bk2 (.cells #[I n56, I n57] 27), .blk bk6 (.cells #[S a29.1, Value.bool a29.2.1, (hv q39_2)] 34)] w ∧ SlR xrl34 M vp0 p0 ∧ SlS M 3 xenc24 (hv q39_2) a29.2.2 ∧ R_ItemsFault_L3 n26 a29 m n56 n57 n58 = some o52) FU [(0, _), (2, _), (5, _), (6, _), (7, _)] ⟨rfl, rfl, rfl, rfl, rfl, trivial⟩ ⟨_, _, _, _, rfl, H, hp0, hs39_2, e53⟩ ?_)
           rintro m59 e w ⟨n56, n57, n58, M, rfl, H, hp0, hs39_2, e53⟩
           rcases m59 with _ | m59
           · rw [R_ItemsFault_L3] at e53; cases e53
           rw [R_ItemsFault_L3] at e53
           refine SQ (SQ (RG (MV rfl rfl (ST (Ex.fieldAddr Tryz.underlying34 rfl Tryz.sizeOf30 (by decide) rfl) rfl (ST (Ex.load1 H rfl (by repeat first | exact kMh | apply kMt) Tryz.isAgg30 (by rfl)) rfl ?_)))))
           refine ST (Ex.lenSlS Tryz.underlying30 hs39_2 rfl) rfl (ST (Ex.lss rfl rfl) rfl (NL (TN ?_)))
           refine WC.condB rfl (fun hk60 => ?_) (fun hk60 => ?_)
           ·
            replace hk60 : n58 < (a29.2.2.length : Int) := of_decide_eq_true hk60
            rw [if_pos hk60] at e53
            refine SK (TN (SQ (BL (SQ ?_))))
            obtain ⟨a61, hxa61, e53⟩ := bnd e53
            obtain ⟨bk85, o85, ha85, hc85⟩ := hs39_2.atC hxa61
            obtain ⟨⟨n62, n63⟩, hx64, e53⟩ := bnd e53
            try dsimp only at e53
            refine RG (ST (Ex.fieldAddr Tryz.underlying34 rfl Tryz.sizeOf30 (by decide) rfl) rfl (ST (Ex.load1 H rfl (by repeat first | exact kMh | apply kMt) Tryz.isAgg30 (by rfl)) rfl ?_))
            refine MV rfl rfl (ST (Ex.idxAt ha85 Tryz.underlying30 Tryz.sizeOf24 rfl rfl) rfl (ST (Ex.loadAggM H rfl hc85 Tryz.isAgg24 Tryz.sizeOf24 (by rfl)) rfl ?_))
            refine WR.call H (R_AddressFault_ct hx64) rfl trivial (Wn.none rfl) rfl ?_
            intro v87 M w H hle hR
            replace hp0 := hp0.mono hle
            replace hs39_2 := hs39_2.mono hle
            replace hc85 := hc85.mono hle
            try dsimp only at hR
            obtain rfl := hR
            refine WR.alloc [_, _] H Tryz.zeroValue27 rfl (Wn.none rfl) rfl ?_
            intro bk8 w H
            refine WR.store [_, _] H rfl rfl rfl (by repeat first | exact .head | apply Upd.tail) Tryz.sizeOf27 rfl (by rfl) (by rfl) (Wn.none rfl) ?_
            intro w H
            refine NL (TN (SQ (RG (ST (Ex.fieldAddr Tryz.underlying27 rfl Tryz.sizeOf3 (by decide) rfl) rfl (ST (Ex.load1 H rfl (by repeat first | exact kMh | apply kMt) Tryz.isAgg3 (by rfl)) rfl ?_)))))
            refine ST (Ex.neqC rfl rfl) rfl (NL (TN ?_))
            refine WC.condB rfl (fun hk65 => ?_) (fun hk65 => ?_)
            ·
             replace hk65 : ¬ (n62 = (0 : Int)) := of_not_decide hk65
             rw [if_neg hk65] at e53
             refine SQ ?_
             obtain ⟨⟨n66, n67⟩, hx68, e53⟩ := bnd e53
             try dsimp only at e53
             refine RG (ST (Ex.fieldAddr Tryz.underlying27 rfl Tryz.sizeOf3 (by decide) rfl) rfl (ST (Ex.load1 H rfl (by repeat first | exact kMh | apply kMt) Tryz.isAgg3 (by rfl)) rfl ?_))
             refine MV rfl rfl (WR.call H (R_At_ct hx68) rfl trivial (Wn.none rfl) rfl ?_)
             intro v94 M w H hle hR
             replace hp0 := hp0.mono hle
             replace hs39_2 := hs39_2.mono hle
             replace hc85 := hc85.mono hle
             try dsimp only at hR
             obtain rfl := hR
             refine WR.store [_, _] H rfl rfl rfl (by repeat first | exact .head | apply Upd.tail) Tryz.sizeOf27 rfl (by rfl) (by rfl) (Wn.none rfl) ?_
             intro w H
             refine NL (TN (RT ?_))
             obtain rfl := oI e53
             try dsimp only at e21
             obtain rfl := oI e21
             try dsimp only at h
             obtain rfl := oI h
             exact WQ.ret1 rfl ⟨_, rfl, H.loadAgg (by repeat first | exact kMh | apply kMt) Tryz.isAgg27 Tryz.sizeOf27 (by rfl)⟩ H.ext rfl
            ·
             replace hk65 : n62 = (0 : Int) := of_not_decide' hk65
             rw [if_pos hk65] at e53
             refine SK (IB (TN ?_))
             obtain ⟨n69, hxn69, e53⟩ := bnd e53
             refine RG (MV rfl rfl (ST (Ex.addC rfl rfl hxn69) rfl (AS rfl rfl (NL ?_))))
             exact WQ.againP m59 [(0, _), (2, _), (5, _), (6, _), (7, _)] ⟨rfl, rfl, rfl, rfl, rfl, trivial⟩ ⟨_, _, _, _, rfl, (H.pick (L' := [.blk bk2 (.cells #[I n56, I n57] 27), .blk bk6 (.cells #[S a29.1, Value.bool a29.2.1, (hv q39_2)] 34)]) (by repeat first | exact kPn | refine kPc (by repeat first | exact .head | apply Rem.tail) ?_)), hp0, hs39_2, e53⟩ (Nat.lt_succ_self _)
           ·
            replace hk60 : ¬ (n58 < (a29.2.2.length : Int)) := of_decide_eq_false hk60
            rw [if_neg hk60] at e53
            refine WC.exit (WQ.thenExit (WQ.thenExit (WQ.exitHere ?_)))
            exact WQ.meetN [(0, _), (2, _), (5, _)] ⟨rfl, rfl, rfl, trivial⟩ ⟨_, _, _, rfl, (H.pick (L' := [.blk bk2 (.cells #[I n56, I n57] 27)]) (by repeat first | exact kPn | refine kPc (by repeat first | exact .head | apply Rem.tail) ?_)), hp0, e53⟩
          ·
           rintro e w ⟨n54, n55, M, rfl, H, hp0, q70⟩
           obtain rfl := oI q70
           try dsimp only at e21
           refine IB (TN ?_)
           obtain ⟨n71, hxn71, e21⟩ := bnd e21
           refine RG (MV rfl rfl (ST (Ex.addC rfl rfl hxn71) rfl (AS rfl rfl (NL ?_))))
           exact WQ.againP m27 [(0, _), (2, _), (5, _)] ⟨rfl, rfl, rfl, trivial⟩ ⟨_, _, _, _, rfl, H, hp0, e21⟩ (Nat.lt_succ_self _)
      ·
       replace hk28 : ¬ (n26 < (p0.length : Int)) := of_decide_eq_false hk28
       rw [if_neg hk28] at e21
       refine WC.exit (WQ.thenExit (WQ.thenExit (WQ.exitHere ?_)))
       exact WQ.meetN [(2, _)] ⟨rfl, trivial⟩ ⟨_, _, _, rfl, H, e21⟩
     ·
      rintro e w ⟨n22, n23, M, rfl, H, q74⟩
      obtain rfl := oI q74
      try dsimp only at h
      refine TN (SQ (RG (ST (Ex.build [I 0, I 0] Tryz.underlying27 Tryz.zeroValue27 (xplaces27 Tryz.underlying27) rfl rfl) rfl (WR.store [_, _] H rfl rfl rfl (by repeat first | exact .head | apply Upd.tail) Tryz.sizeOf27 rfl (by rfl) (by rfl) (Wn.none rfl) ?_))))
      intro w H
      refine NL (TN (RT ?_))
      obtain rfl := oI h
      exact WQ.ret1 rfl ⟨_, rfl, H.loadAgg (by repeat first | exact kMh | apply kMt) Tryz.isAgg27 Tryz.sizeOf27 (by rfl)⟩ H.ext rfl
theorem R_SameAddresses_ct {p0 : List (List UInt8 × List UInt8 × List UInt8)} {p1 : List (List UInt8 × List UInt8 × List UInt8)} {vp0 : Value} {vp1 : Value} {r : Bool} (h : R_SameAddresses p0 p1 = some r) : Ct Tryz.prog 15 [vp0, vp1] (fun M => SlS M 3 xenc24 vp0 p0 ∧ SlS M 3 xenc24 vp1 p1) (fun v M => v = Value.bool r) := by
  refine Ct.of Tryz.func15 (enters Tryz.func15 (by kernel_rfl) rfl) rfl rfl rfl ?_
  intro w0 M0 H hp
  obtain ⟨hp0, hp1⟩ := hp
  unfold R_SameAddresses at h
  refine SQ (RG (AS rfl rfl (NL (TN (SQ (SQ (RG (MV rfl rfl (ST (Ex.lenSlS Tryz.underlying30 hp0 rfl) rfl (MV rfl rfl (ST (Ex.lenSlS Tryz.underlying30 hp1 rfl) rfl (ST (Ex.neqC rfl rfl) rfl (NL (TN ?_))))))))))))))
  refine WC.condB rfl (fun hk1 => ?_) (fun hk1 => ?_)
  ·
   replace hk1 : ¬ ((p0.length : Int) = (p1.length : Int)) := of_not_decide hk1
   rw [if_neg hk1] at h
   refine SQ (RG (AS rfl rfl (NL (TN (RT ?_)))))
   obtain rfl := oI h
   exact WQ.ret1 rfl rfl H.ext rfl
  ·
   replace hk1 : (p0.length : Int) = (p1.length : Int) := of_not_decide' hk1
   rw [if_pos hk1] at h
   refine SK (TN (SQ (SQ (RG (AS rfl rfl (NL (TN ?_)))))))
   obtain ⟨o2, e3, h⟩ := bnd h
   refine WC.cutX (fun e w => ∃  (M : Mem), e = [] ∧ St w0 M0 M [] w ∧ some (.inl ()) = some o2) [] ?_ ?_ (trivial)
   ·
    refine BL (WC.loopP (fun m e w => ∃ (n4 : Int) (M : Mem), e = [(0, vp0), (1, vp1), (5, I n4)] ∧ St w0 M0 M [] w ∧ SlS M 3 xenc24 vp0 p0 ∧ SlS M 3 xenc24 vp1 p1 ∧ R_SameAddresses_L1 p0 p1 m n4 = some o2) FU [(0, _), (1, _), (5, _)] ⟨rfl, rfl, rfl, trivial⟩ ⟨_, _, rfl, H, hp0, hp1, e3⟩ ?_)
    rintro m5 e w ⟨n4, M, rfl, H, hp0, hp1, e3⟩
    rcases m5 with _ | m5
    · rw [R_SameAddresses_L1] at e3; cases e3
    rw [R_SameAddresses_L1] at e3
    refine SQ (SQ (RG (MV rfl rfl (MV rfl rfl (ST (Ex.lenSlS Tryz.underlying30 hp0 rfl) rfl (ST (Ex.lss rfl rfl) rfl (NL (TN ?_))))))))
    refine WC.condB rfl (fun hk6 => ?_) (fun hk6 => ?_)
    ·
     replace hk6 : n4 < (p0.length : Int) := of_decide_eq_true hk6
     rw [if_pos hk6] at e3
     refine SK (TN (SQ (BL (SQ ?_))))
     obtain ⟨a7, hxa7, e3⟩ := bnd e3
     obtain ⟨bk19, o19, ha19, hc19⟩ := hp0.atC hxa7
     obtain ⟨a8, hxa8, e3⟩ := bnd e3
     obtain ⟨bk23, o23, ha23, hc23⟩ := hp1.atC hxa8
     refine WC.draw (m := 9) rfl rfl H ?_
     intro w H
     refine WA.take (i := 0) rfl (by kernel_rfl) (by kernel_rfl) (by kernel_rfl) (fun _ => Ex.move rfl) (Wn.none rfl) rfl rfl (fun _ _ => rfl) (WA.take (i := 1) rfl (by kernel_rfl) (by kernel_rfl) (by kernel_rfl) (fun _ => Ex.move rfl) (Wn.none rfl) rfl rfl (fun _ _ => rfl) (WA.take (i := 2) rfl (by kernel_rfl) (by kernel_rfl) (by kernel_rfl) (fun _ => Ex.idxAt ha19 Tryz.underlying30 Tryz.sizeOf24 rfl rfl) (Wn.none rfl) rfl rfl (fun _ _ => rfl) (WA.take (i := 4) rfl (by kernel_rfl) (by kernel_rfl) (by kernel_rfl) (fun _ => Ex.move rfl) (Wn.none rfl) rfl rfl (fun _ _ => rfl) (WA.take (i := 5) rfl (by kernel_rfl) (by kernel_rfl) (by kernel_rfl) (fun _ => Ex.move rfl) (Wn.none rfl) rfl rfl (fun _ _ => rfl) (WA.take (i := 6) rfl (by kernel_rfl) (by kernel_rfl) (by kernel_rfl) (fun _ => Ex.idxAt ha23 Tryz.underlying30 Tryz.sizeOf24 rfl rfl) (Wn.none rfl) rfl rfl (fun _ _ => rfl) (WA.takeM (i := 3) [7] rfl (by kernel_rfl) (by kernel_rfl) (by kernel_rfl) (Ex.loadAggM H rfl hc19 Tryz.isAgg24 Tryz.sizeOf24 (by rfl)) (Wn.none rfl) rfl rfl (fun _ _ => rfl) ?_))))))
     refine WA.seq (fuel := 0) [7, 8] rfl (by kernel_rfl) (ST (Ex.loadAggM H rfl hc23 Tryz.isAgg24 Tryz.sizeOf24 (by rfl)) rfl ?_)
     refine ST (Ex.neqAggC rfl rfl (by kernel_rfl) (xeq24 a7.1 a8.1 a7.2.1 a8.2.1 a7.2.2 a8.2.2)) rfl (NA (WA.done (by kernel_rfl) (TN ?_)))
     refine WC.condB rfl (fun hk9 => ?_) (fun hk9 => ?_)
     ·
      replace hk9 : ¬ (a7.1 = a8.1 ∧ a7.2.1 = a8.2.1 ∧ a7.2.2 = a8.2.2) := of_not_decide hk9
      rw [if_neg hk9] at e3
      refine SQ (RG (AS rfl rfl (NL (TN (RT ?_)))))
      obtain rfl := oI e3
      try dsimp only at h
      obtain rfl := oI h
      exact WQ.ret1 rfl rfl H.ext rfl
     ·
      replace hk9 : a7.1 = a8.1 ∧ a7.2.1 = a8.2.1 ∧ a7.2.2 = a8.2.2 := of_not_decide' hk9
      rw [if_pos hk9] at e3
      refine SK (IB (TN ?_))
      obtain ⟨n10, hxn10, e3⟩ := bnd e3
      refine RG (MV rfl rfl (ST (Ex.addC rfl rfl hxn10) rfl (AS rfl rfl (NL ?_))))
      exact WQ.againP m5 [(0, _), (1, _), (5, _)] ⟨rfl, rfl, rfl, trivial⟩ ⟨_, _, rfl, H, hp0, hp1, e3⟩ (Nat.lt_succ_self _)
    ·
     replace hk6 : ¬ (n4 < (p0.length : Int)) := of_decide_eq_false hk6
     rw [if_neg hk6] at e3
     refine WC.exit (WQ.thenExit (WQ.thenExit (WQ.exitHere ?_)))
     exact WQ.meetN [] trivial ⟨_, rfl, H, e3⟩
   ·
    rintro e w ⟨M, rfl, H, q11⟩
    obtain rfl := oI q11
    try dsimp only at h
    refine TN (SQ (RG (AS rfl rfl (NL (TN (RT ?_))))))
    obtain rfl := oI h
    exact WQ.ret1 rfl rfl H.ext rfl
theorem L_AddressCheckMatchesSpec_ct {p0 : List (List UInt8 × Bool × List (List UInt8 × List UInt8 × List UInt8))} {p1 : (List UInt8 × List UInt8 × List UInt8)} {vp0 : Value} {r : Bool} (h : L_AddressCheckMatchesSpec p0 p1 = some r) : Ct Tryz.prog 3 [vp0, Value.agg #[S p1.1, S p1.2.1, S p1.2.2]] (fun M => GlF (fun w => ∃ m, w.cell? ⟨2, 0, none⟩ = some (.int .i64 m)) M ∧ Tabs M ∧ SlR xrl34 M vp0 p0) (fun v M => v = Value.bool r) := by
  refine Ct.of Tryz.func3 (enters Tryz.func3 (by kernel_rfl) rfl) rfl rfl rfl ?_
  intro w0 M0 H hp
  obtain ⟨hg_maxl, hg_tabs, hp0⟩ := hp
  unfold L_AddressCheckMatchesSpec at h
  refine SQ (RG (WR.box [_, _, _] H rfl rfl (Wn.none rfl) rfl ?_))
  intro bk3 w H
  refine AS rfl rfl (NL (TN (SQ (SQ ?_))))
  obtain ⟨o1, e2, h⟩ := bnd h
  refine WC.cutX (fun e w => ∃ (b3 : Bool) (M : Mem), e = [(0, vp0), (24, Value.bool b3)] ∧ St w0 M0 M [] w ∧ GlF (fun w => ∃ m, w.cell? ⟨2, 0, none⟩ = some (.int .i64 m)) M ∧ Tabs M ∧ SlR xrl34 M vp0 p0 ∧ some b3 = some o1) [] ?_ ?_ (trivial)
  ·
   obtain ⟨b4, hx5, e2⟩ := bnd e2
   refine WC.draw (m := 16) rfl rfl H ?_
   intro w H
   refine WA.seq (fuel := 13) [0, 1, 2] rfl (by kernel_rfl) (WR.call H (L_addressExample_ct hx5) rfl ⟨hg_maxl, hg_tabs⟩ (Wn.none rfl) rfl ?_)
   intro v9 M w H hle hR
   replace hg_maxl := hg_maxl.mono hle
   replace hg_tabs := hg_tabs.mono hle
   replace hp0 := hp0.mono hle
   obtain rfl := hR
   refine ST (Ex.not rfl) rfl (MV rfl rfl (NA ?_))
   rcases b4 with _ | _
   ·
    rw [if_neg Bool.false_ne_true] at e2
    refine WA.takes (fuel := 11) [3, 5] rfl (by kernel_rfl) (by kernel_rfl) rfl (WA.seq (fuel := 6) [4, 6, 7, 8, 9] rfl (by kernel_rfl) (WR.skipN 3 rfl rfl (PT rfl rfl rfl (MV rfl rfl (NA (WA.takes (fuel := 4) [10, 12] rfl (by kernel_rfl) (by kernel_rfl) rfl (WA.seq (fuel := 0) [11, 13, 14, 15] rfl (by kernel_rfl) (WR.skipN 3 rfl rfl (PT rfl rfl rfl (NA (WA.done (by kernel_rfl) ?_)))))))))))
    exact WQ.meetN [(0, _), (24, _)] ⟨rfl, rfl, trivial⟩ ⟨_, _, rfl, (H.pick (L' := []) (by repeat first | exact kPn | refine kPc (by repeat first | exact .head | apply Rem.tail) ?_)), hg_maxl, hg_tabs, hp0, e2⟩
   ·
    rw [if_pos rfl] at e2
    obtain ⟨⟨n6, n7⟩, hx8, e2⟩ := bnd e2
    try dsimp only at e2
    obtain ⟨⟨n9, n10⟩, hx11, e2⟩ := bnd e2
    try dsimp only at e2
    refine WA.takeM (i := 3) [5] rfl (by kernel_rfl) (by kernel_rfl) (by kernel_rfl) (Ex.loadAgg H rfl (by repeat first | exact kMh | apply kMt) Tryz.isAgg24 Tryz.sizeOf24 (by rfl)) (Wn.some rfl rfl rfl) rfl rfl (fun _ _ => rfl) ?_
    by_cases hk12 : n6 = n9 ∧ n7 = n10
    ·
     rw [if_pos hk12] at e2
     obtain ⟨⟨n13, n14⟩, hx15, e2⟩ := bnd e2
     try dsimp only at e2
     obtain ⟨⟨n16, n17⟩, hx18, e2⟩ := bnd e2
     try dsimp only at e2
     refine WA.two (i := 4) (j := 5) (by kernel_rfl) rfl rfl ?_ ?_
     ·
      refine WR.call H (address_Validate_ct hx8) rfl ⟨hg_maxl, hg_tabs⟩ (Wn.some rfl rfl rfl) rfl ?_
      intro v13 M w H hle hR
      replace hg_maxl := hg_maxl.mono hle
      replace hg_tabs := hg_tabs.mono hle
      replace hp0 := hp0.mono hle
      try dsimp only at hR
      obtain rfl := hR
      refine NA (WA.seq (fuel := 6) [5, 6, 7, 8, 9] rfl (by kernel_rfl) (SG (Ex.loadAgg H rfl (by repeat first | exact kMh | apply kMt) Tryz.isAgg24 Tryz.sizeOf24 (by rfl)) rfl rfl rfl ?_))
      refine WR.call H (R_AddressFault_ct hx11) rfl trivial (Wn.some rfl rfl rfl) rfl ?_
      intro v15 M w H hle hR
      replace hg_maxl := hg_maxl.mono hle
      replace hg_tabs := hg_tabs.mono hle
      replace hp0 := hp0.mono hle
      try dsimp only at hR
      obtain rfl := hR
      refine WR.stepE (v' := .bool false) (Ex.neqAggC rfl rfl (by kernel_rfl) (xeq27 n6 n9 n7 n10)) (congrArg Value.bool (by rw [decide_eq_true hk12]; rfl)) (Wn.some rfl rfl rfl) rfl rfl ?_
      refine PF rfl rfl rfl (MV rfl rfl (NA (WA.take (i := 10) rfl (by kernel_rfl) (by kernel_rfl) (by kernel_rfl) (fun _ => Ex.move rfl) (Wn.some rfl rfl rfl) rfl rfl (fun _ _ => rfl) (WA.take (i := 12) rfl (by kernel_rfl) (by kernel_rfl) (by kernel_rfl) (fun _ => Ex.move rfl) (Wn.some rfl rfl rfl) rfl rfl (fun _ _ => rfl) (WA.seq (fuel := 0) [11, 13, 14, 15] rfl (by kernel_rfl) (WR.call H (address_Check_ct hx15) rfl ⟨hg_maxl, hg_tabs, hp0⟩ (Wn.some rfl rfl rfl) rfl ?_))))))
      intro v20 M w H hle hR
      replace hg_maxl := hg_maxl.mono hle
      replace hg_tabs := hg_tabs.mono hle
      replace hp0 := hp0.mono hle
      try dsimp only at hR
      obtain rfl := hR
      refine WR.call H (R_ItemsFault_ct hx18) rfl (hp0) (Wn.some rfl rfl rfl) rfl ?_
      intro v22 M w H hle hR
      replace hg_maxl := hg_maxl.mono hle
      replace hg_tabs := hg_tabs.mono hle
      replace hp0 := hp0.mono hle
      try dsimp only at hR
      obtain rfl := hR
      refine SG (Ex.neqAggC rfl rfl (by kernel_rfl) (xeq27 n13 n16 n14 n17)) rfl rfl rfl (PF rfl rfl rfl (NA (WA.done (by kernel_rfl) ?_)))
      exact WQ.meetN [(0, _), (24, _)] ⟨rfl, rfl, trivial⟩ ⟨_, _, rfl, (H.pick (L' := []) (by repeat first | exact kPn | refine kPc (by repeat first | exact .head | apply Rem.tail) ?_)), hg_maxl, hg_tabs, hp0, e2⟩
     ·
      refine SG (Ex.loadAgg H rfl (by repeat first | exact kMh | apply kMt) Tryz.isAgg24 Tryz.sizeOf24 (by rfl)) rfl rfl rfl ?_
      refine NA (WA.seq (fuel := 6) [4, 6, 7, 8, 9] rfl (by kernel_rfl) (WR.call H (address_Validate_ct hx8) rfl ⟨hg_maxl, hg_tabs⟩ (Wn.some rfl rfl rfl) rfl ?_))
      intro v13 M w H hle hR
      replace hg_maxl := hg_maxl.mono hle
      replace hg_tabs := hg_tabs.mono hle
      replace hp0 := hp0.mono hle
      try dsimp only at hR
      obtain rfl := hR
      refine WR.call H (R_AddressFault_ct hx11) rfl trivial (Wn.some rfl rfl rfl) rfl ?_
      intro v15 M w H hle hR
      replace hg_maxl := hg_maxl.mono hle
      replace hg_tabs := hg_tabs.mono hle
      replace hp0 := hp0.mono hle
      try dsimp only at hR
      obtain rfl := hR
      refine WR.stepE (v' := .bool false) (Ex.neqAggC rfl rfl (by kernel_rfl) (xeq27 n6 n9 n7 n10)) (congrArg Value.bool (by rw [decide_eq_true hk12]; rfl)) (Wn.some rfl rfl rfl) rfl rfl ?_
      refine PF rfl rfl rfl (MV rfl rfl (NA (WA.take (i := 10) rfl (by kernel_rfl) (by kernel_rfl) (by kernel_rfl) (fun _ => Ex.move rfl) (Wn.some rfl rfl rfl) rfl rfl (fun _ _ => rfl) (WA.take (i := 12) rfl (by kernel_rfl) (by kernel_rfl) (by kernel_rfl) (fun _ => Ex.move rfl) (Wn.some rfl rfl rfl) rfl rfl (fun _ _ => rfl) (WA.seq (fuel := 0) [11, 13, 14, 15] rfl (by kernel_rfl) (WR.call H (address_Check_ct hx15) rfl ⟨hg_maxl, hg_tabs, hp0⟩ (Wn.some rfl rfl rfl) rfl ?_))))))
      intro v20 M w H hle hR
      replace hg_maxl := hg_maxl.mono hle
      replace hg_tabs := hg_tabs.mono hle
      replace hp0 := hp0.mono hle
      try dsimp only at hR
      obtain rfl := hR
      refine WR.call H (R_ItemsFault_ct hx18) rfl (hp0) (Wn.some rfl rfl rfl) rfl ?_
      intro v22 M w H hle hR
      replace hg_maxl := hg_maxl.mono hle
      replace hg_tabs := hg_tabs.mono hle
      replace hp0 := hp0.mono hle
      try dsimp only at hR
      obtain rfl := hR
      refine SG (Ex.neqAggC rfl rfl (by kernel_rfl) (xeq27 n13 n16 n14 n17)) rfl rfl rfl (PF rfl rfl rfl (NA (WA.done (by kernel_rfl) ?_)))
      exact WQ.meetN [(0, _), (24, _)] ⟨rfl, rfl, trivial⟩ ⟨_, _, rfl, (H.pick (L' := []) (by repeat first | exact kPn | refine kPc (by repeat first | exact .head | apply Rem.tail) ?_)), hg_maxl, hg_tabs, hp0, e2⟩
    ·
     rw [if_neg hk12] at e2
     refine WA.two (i := 4) (j := 5) (by kernel_rfl) rfl rfl ?_ ?_
     ·
      refine WR.call H (address_Validate_ct hx8) rfl ⟨hg_maxl, hg_tabs⟩ (Wn.some rfl rfl rfl) rfl ?_
      intro v13 M w H hle hR
      replace hg_maxl := hg_maxl.mono hle
      replace hg_tabs := hg_tabs.mono hle
      replace hp0 := hp0.mono hle
      try dsimp only at hR
      obtain rfl := hR
      refine NA (WA.seq (fuel := 6) [5, 6, 7, 8, 9] rfl (by kernel_rfl) (SG (Ex.loadAgg H rfl (by repeat first | exact kMh | apply kMt) Tryz.isAgg24 Tryz.sizeOf24 (by rfl)) rfl rfl rfl ?_))
      refine WR.call H (R_AddressFault_ct hx11) rfl trivial (Wn.some rfl rfl rfl) rfl ?_
      intro v15 M w H hle hR
      replace hg_maxl := hg_maxl.mono hle
      replace hg_tabs := hg_tabs.mono hle
      replace hp0 := hp0.mono hle
      try dsimp only at hR
      obtain rfl := hR
      refine WR.stepE (v' := .bool true) (Ex.neqAggC rfl rfl (by kernel_rfl) (xeq27 n6 n9 n7 n10)) (congrArg Value.bool (by rw [decide_eq_false hk12]; rfl)) (Wn.some rfl rfl rfl) rfl rfl ?_
      refine PF rfl rfl rfl (MV rfl rfl (NA (WA.takes (fuel := 4) [10, 12] rfl (by kernel_rfl) (by kernel_rfl) rfl (WA.seq (fuel := 0) [11, 13, 14, 15] rfl (by kernel_rfl) (WR.skipN 3 rfl rfl (PT rfl rfl rfl (NA (WA.done (by kernel_rfl) ?_))))))))
      exact WQ.meetN [(0, _), (24, _)] ⟨rfl, rfl, trivial⟩ ⟨_, _, rfl, (H.pick (L' := []) (by repeat first | exact kPn | refine kPc (by repeat first | exact .head | apply Rem.tail) ?_)), hg_maxl, hg_tabs, hp0, e2⟩
     ·
      refine SG (Ex.loadAgg H rfl (by repeat first | exact kMh | apply kMt) Tryz.isAgg24 Tryz.sizeOf24 (by rfl)) rfl rfl rfl ?_
      refine NA (WA.seq (fuel := 6) [4, 6, 7, 8, 9] rfl (by kernel_rfl) (WR.call H (address_Validate_ct hx8) rfl ⟨hg_maxl, hg_tabs⟩ (Wn.some rfl rfl rfl) rfl ?_))
      intro v13 M w H hle hR
      replace hg_maxl := hg_maxl.mono hle
      replace hg_tabs := hg_tabs.mono hle
      replace hp0 := hp0.mono hle
      try dsimp only at hR
      obtain rfl := hR
      refine WR.call H (R_AddressFault_ct hx11) rfl trivial (Wn.some rfl rfl rfl) rfl ?_
      intro v15 M w H hle hR
      replace hg_maxl := hg_maxl.mono hle
      replace hg_tabs := hg_tabs.mono hle
      replace hp0 := hp0.mono hle
      try dsimp only at hR
      obtain rfl := hR
      refine WR.stepE (v' := .bool true) (Ex.neqAggC rfl rfl (by kernel_rfl) (xeq27 n6 n9 n7 n10)) (congrArg Value.bool (by rw [decide_eq_false hk12]; rfl)) (Wn.some rfl rfl rfl) rfl rfl ?_
      refine PF rfl rfl rfl (MV rfl rfl (NA (WA.takes (fuel := 4) [10, 12] rfl (by kernel_rfl) (by kernel_rfl) rfl (WA.seq (fuel := 0) [11, 13, 14, 15] rfl (by kernel_rfl) (WR.skipN 3 rfl rfl (PT rfl rfl rfl (NA (WA.done (by kernel_rfl) ?_))))))))
      exact WQ.meetN [(0, _), (24, _)] ⟨rfl, rfl, trivial⟩ ⟨_, _, rfl, (H.pick (L' := []) (by repeat first | exact kPn | refine kPc (by repeat first | exact .head | apply Rem.tail) ?_)), hg_maxl, hg_tabs, hp0, e2⟩
  ·
   rintro e w ⟨b3, M, rfl, H, hg_maxl, hg_tabs, hp0, q19⟩
   obtain rfl := oI q19
   refine TN ?_
   refine WC.condB rfl (fun hk20 => ?_) (fun hk20 => ?_)
   ·
    subst hk20
    rw [if_pos rfl] at h
    refine SQ (RG (AS rfl rfl (NL (TN (RT ?_)))))
    obtain rfl := oI h
    exact WQ.ret1 rfl rfl H.ext rfl
   ·
    subst hk20
    rw [if_neg Bool.false_ne_true] at h
    refine SK (TN (SQ ?_))
    obtain ⟨⟨l21, ⟨n22, n23⟩⟩, hx24, h⟩ := bnd h
    try dsimp only at h
    refine RG (MV rfl rfl (WR.call H (address_All_ct hx24) rfl ⟨hg_maxl, hg_tabs, hp0⟩ (Wn.none rfl) rfl ?_))
    intro v27 M w H hle hR
    replace hg_maxl := hg_maxl.mono hle
    replace hg_tabs := hg_tabs.mono hle
    replace hp0 := hp0.mono hle
    try dsimp only at hR
    obtain ⟨x27_0, rfl, f27_0⟩ := hR
    refine MV rfl rfl (ST (Ex.extract rfl rfl) rfl (ST (Ex.extract rfl rfl) rfl (WR.alloc [_, _] H Tryz.zeroValue27 rfl (Wn.none rfl) rfl ?_)))
    intro bk6 w H
    refine AS rfl rfl (WR.store [_, _] H rfl rfl rfl (by repeat first | exact .head | apply Upd.tail) Tryz.sizeOf27 rfl (by rfl) (by rfl) (Wn.none rfl) ?_)
    intro w H
    refine NL (TN (SQ (SQ ?_)))
    obtain ⟨⟨n25, n26⟩, hx27, h⟩ := bnd h
    try dsimp only at h
    refine RG (MV rfl rfl (WR.call H (R_ItemsFault_ct hx27) rfl (hp0) (Wn.none rfl) rfl ?_))
    intro v31 M w H hle hR
    replace hg_maxl := hg_maxl.mono hle
    replace hg_tabs := hg_tabs.mono hle
    replace hp0 := hp0.mono hle
    replace f27_0 := f27_0.mono hle
    try dsimp only at hR
    obtain rfl := hR
    refine ST (Ex.field Tryz.underlying27 rfl Tryz.isAgg3 rfl rfl) rfl (ST (Ex.neqC rfl rfl) rfl (NL (TN ?_)))
    refine WC.condB rfl (fun hk28 => ?_) (fun hk28 => ?_)
    ·
     replace hk28 : ¬ (n25 = (0 : Int)) := of_not_decide hk28
     rw [if_neg hk28] at h
     refine SQ ?_
     obtain ⟨o29, e30, h⟩ := bnd h
     refine WC.cutX (fun e w => ∃ (b31 : Bool) (M : Mem), e = [(4, Value.bool b31)] ∧ St w0 M0 M [] w ∧ GlF (fun w => ∃ m, w.cell? ⟨2, 0, none⟩ = some (.int .i64 m)) M ∧ Tabs M ∧ some b31 = some o29) [] ?_ ?_ (trivial)
     ·
      obtain ⟨⟨n32, n33⟩, hx34, e30⟩ := bnd e30
      try dsimp only at e30
      refine WC.draw (m := 10) rfl rfl H ?_
      intro w H
      refine WA.take (i := 1) rfl (by kernel_rfl) (by kernel_rfl) (by kernel_rfl) (fun _ => Ex.move rfl) (Wn.none rfl) rfl rfl (fun _ _ => rfl) ?_
      by_cases hk35 : n22 = n32 ∧ n23 = n33
      ·
       rw [if_pos hk35] at e30
       refine WA.two (i := 0) (j := 2) (by kernel_rfl) rfl rfl ?_ ?_
       ·
        refine ST (Ex.loadAgg H rfl (by repeat first | exact kMh | apply kMt) Tryz.isAgg27 Tryz.sizeOf27 (by rfl)) rfl ?_
        refine NA (WA.seq (fuel := 0) [2, 3, 4, 5, 6, 7, 8, 9] rfl (by kernel_rfl) (WR.call H (R_ItemsFault_ct hx34) rfl (hp0) (Wn.none rfl) rfl ?_))
        intro v36 M w H hle hR
        replace hg_maxl := hg_maxl.mono hle
        replace hg_tabs := hg_tabs.mono hle
        replace hp0 := hp0.mono hle
        replace f27_0 := f27_0.mono hle
        try dsimp only at hR
        obtain rfl := hR
        refine WR.stepE (v' := .bool true) (Ex.eqlAgg rfl rfl (by kernel_rfl) (xeq27 n22 n32 n23 n33)) (congrArg Value.bool (decide_eq_true hk35)) (Wn.none rfl) rfl rfl (MV rfl rfl (SG (Ex.move rfl) rfl rfl rfl (SG (Ex.lenSlS Tryz.underlying30 f27_0 rfl) rfl rfl rfl (SG (Ex.eql rfl rfl) rfl rfl rfl (PT rfl rfl rfl (AS rfl rfl (NA (WA.done (by kernel_rfl) ?_))))))))
        exact WQ.meetN [(4, _)] ⟨rfl, trivial⟩ ⟨_, _, rfl, (H.pick (L' := []) (by repeat first | exact kPn | refine kPc (by repeat first | exact .head | apply Rem.tail) ?_)), hg_maxl, hg_tabs, e30⟩
       ·
        refine WR.call H (R_ItemsFault_ct hx34) rfl (hp0) (Wn.none rfl) rfl ?_
        intro v36 M w H hle hR
        replace hg_maxl := hg_maxl.mono hle
        replace hg_tabs := hg_tabs.mono hle
        replace hp0 := hp0.mono hle
        replace f27_0 := f27_0.mono hle
        try dsimp only at hR
        obtain rfl := hR
        refine NA (WA.seq (fuel := 0) [0, 3, 4, 5, 6, 7, 8, 9] rfl (by kernel_rfl) (ST (Ex.loadAgg H rfl (by repeat first | exact kMh | apply kMt) Tryz.isAgg27 Tryz.sizeOf27 (by rfl)) rfl ?_))
        refine WR.stepE (v' := .bool true) (Ex.eqlAgg rfl rfl (by kernel_rfl) (xeq27 n22 n32 n23 n33)) (congrArg Value.bool (decide_eq_true hk35)) (Wn.none rfl) rfl rfl (MV rfl rfl (SG (Ex.move rfl) rfl rfl rfl (SG (Ex.lenSlS Tryz.underlying30 f27_0 rfl) rfl rfl rfl (SG (Ex.eql rfl rfl) rfl rfl rfl (PT rfl rfl rfl (AS rfl rfl (NA (WA.done (by kernel_rfl) ?_))))))))
        exact WQ.meetN [(4, _)] ⟨rfl, trivial⟩ ⟨_, _, rfl, (H.pick (L' := []) (by repeat first | exact kPn | refine kPc (by repeat first | exact .head | apply Rem.tail) ?_)), hg_maxl, hg_tabs, e30⟩
      ·
       rw [if_neg hk35] at e30
       refine WA.two (i := 0) (j := 2) (by kernel_rfl) rfl rfl ?_ ?_
       ·
        refine ST (Ex.loadAgg H rfl (by repeat first | exact kMh | apply kMt) Tryz.isAgg27 Tryz.sizeOf27 (by rfl)) rfl ?_
        refine NA (WA.seq (fuel := 0) [2, 3, 4, 5, 6, 7, 8, 9] rfl (by kernel_rfl) (WR.call H (R_ItemsFault_ct hx34) rfl (hp0) (Wn.none rfl) rfl ?_))
        intro v36 M w H hle hR
        replace hg_maxl := hg_maxl.mono hle
        replace hg_tabs := hg_tabs.mono hle
        replace hp0 := hp0.mono hle
        replace f27_0 := f27_0.mono hle
        try dsimp only at hR
        obtain rfl := hR
        refine WR.stepE (v' := .bool false) (Ex.eqlAgg rfl rfl (by kernel_rfl) (xeq27 n22 n32 n23 n33)) (congrArg Value.bool (decide_eq_false hk35)) (Wn.none rfl) rfl rfl (MV rfl rfl (WR.skipN 3 rfl rfl (PF rfl rfl rfl (AS rfl rfl (NA (WA.done (by kernel_rfl) ?_))))))
        exact WQ.meetN [(4, _)] ⟨rfl, trivial⟩ ⟨_, _, rfl, (H.pick (L' := []) (by repeat first | exact kPn | refine kPc (by repeat first | exact .head | apply Rem.tail) ?_)), hg_maxl, hg_tabs, e30⟩
       ·
        refine WR.call H (R_ItemsFault_ct hx34) rfl (hp0) (Wn.none rfl) rfl ?_
        intro v36 M w H hle hR
        replace hg_maxl := hg_maxl.mono hle
        replace hg_tabs := hg_tabs.mono hle
        replace hp0 := hp0.mono hle
        replace f27_0 := f27_0.mono hle
        try dsimp only at hR
        obtain rfl := hR
        refine NA (WA.seq (fuel := 0) [0, 3, 4, 5, 6, 7, 8, 9] rfl (by kernel_rfl) (ST (Ex.loadAgg H rfl (by repeat first | exact kMh | apply kMt) Tryz.isAgg27 Tryz.sizeOf27 (by rfl)) rfl ?_))
        refine WR.stepE (v' := .bool false) (Ex.eqlAgg rfl rfl (by kernel_rfl) (xeq27 n22 n32 n23 n33)) (congrArg Value.bool (decide_eq_false hk35)) (Wn.none rfl) rfl rfl (MV rfl rfl (WR.skipN 3 rfl rfl (PF rfl rfl rfl (AS rfl rfl (NA (WA.done (by kernel_rfl) ?_))))))
        exact WQ.meetN [(4, _)] ⟨rfl, trivial⟩ ⟨_, _, rfl, (H.pick (L' := []) (by repeat first | exact kPn | refine kPc (by repeat first | exact .head | apply Rem.tail) ?_)), hg_maxl, hg_tabs, e30⟩
     ·
      rintro e w ⟨b31, M, rfl, H, hg_maxl, hg_tabs, q36⟩
      obtain rfl := oI q36
      refine TN (RT ?_)
      obtain rfl := oI h
      exact WQ.ret1 rfl rfl H.ext rfl
    ·
     replace hk28 : n25 = (0 : Int) := of_not_decide' hk28
     rw [if_pos hk28] at h
     refine SK (TN (SQ (RG (AS rfl rfl (NL (TN (SQ (SQ (RG (AS rfl rfl (NL (TN ?_))))))))))))
     obtain ⟨o37, e38, h⟩ := bnd h
     refine WC.cutX (fun e w => ∃ (l40 : List (List UInt8 × List UInt8 × List UInt8)) (v41 : Value) (M : Mem), e = [(5, x27_0), (6, ptr bk6 0), (7, v41)] ∧ St w0 M0 M [.blk bk6 (.cells #[I n22, I n23] 27), RowS 24 3 xenc24 v41 l40] w ∧ GlF (fun w => ∃ m, w.cell? ⟨2, 0, none⟩ = some (.int .i64 m)) M ∧ Tabs M ∧ SlS M 3 xenc24 x27_0 l21 ∧ some l40 = some o37) [] ?_ ?_ (trivial)
     ·
      refine BL ?_
      replace H := H.newRowS 24 3 xenc24
      refine WC.loopP (fun m e w => ∃ (l43 : List (List UInt8 × List UInt8 × List UInt8)) (v44 : Value) (n45 : Int) (M : Mem), e = [(0, vp0), (5, x27_0), (6, ptr bk6 0), (7, v44), (8, I n45)] ∧ St w0 M0 M [.blk bk6 (.cells #[I n22, I n23] 27), RowS 24 3 xenc24 v44 l43] w ∧ GlF (fun w => ∃ m, w.cell? ⟨2, 0, none⟩ = some (.int .i64 m)) M ∧ Tabs M ∧ SlR xrl34 M vp0 p0 ∧ SlS M 3 xenc24 x27_0 l21 ∧ L_AddressCheckMatchesSpec_L1 p0 m l43 n45 = some o37) FU [(0, _), (5, _), (6, _), (7, _), (8, _)] ⟨rfl, rfl, rfl, rfl, rfl, trivial⟩ ⟨_, _, _, _, rfl, (H.pick (L' := [.blk bk6 (.cells #[I n22, I n23] 27), RowS 24 3 xenc24 (Value.slice none 0 0) []]) (by repeat first | exact kPn | refine kPc (by repeat first | exact .head | apply Rem.tail) ?_)), hg_maxl, hg_tabs, hp0, f27_0, e38⟩ ?_
      rintro m46 e w ⟨l43, v44, n45, M, rfl, H, hg_maxl, hg_tabs, hp0, f27_0, e38⟩
      rcases m46 with _ | m46
      · rw [L_AddressCheckMatchesSpec_L1] at e38; cases e38
      rw [L_AddressCheckMatchesSpec_L1] at e38
      refine SQ (SQ (RG (MV rfl rfl (MV rfl rfl (ST (Ex.lenSlR Tryz.underlying22 hp0 rfl) rfl (ST (Ex.lss rfl rfl) rfl (NL (TN ?_))))))))
      refine WC.condB rfl (fun hk48 => ?_) (fun hk48 => ?_)
      ·
       replace hk48 : n45 < (p0.length : Int) := of_decide_eq_true hk48
       rw [if_pos hk48] at e38
       refine SK (TN (SQ (BL ?_)))
       obtain ⟨a49, hxa49, e38⟩ := bnd e38
       obtain ⟨bk52, o52, fq52, ha52, hc52, hr52⟩ := hp0.atC hxa49
       obtain ⟨f52_0, f52_1, q52_2⟩ := fq52
       replace hr52 : f52_0 = a49.1 ∧ f52_1 = a49.2.1 ∧ SlS M 3 xenc24 (hv q52_2) a49.2.2 := hr52
       obtain ⟨rfl, rfl, hs52_2⟩ := hr52
       obtain ⟨l50, hxl50, e38⟩ := bnd e38
       refine RG (MV rfl rfl (MV rfl rfl (MV rfl rfl (ST (Ex.idxAt ha52 Tryz.underlying22 Tryz.sizeOf34 rfl rfl) rfl (ST (Ex.fieldAddr Tryz.underlying34 rfl Tryz.sizeOf30 (by decide) rfl) rfl (ST (Ex.loadM H rfl (hc52.at (j := 2) rfl) Tryz.isAgg30) rfl (WR.appSC (l := l43) xty30 rfl xone24 H rfl (fun _ => by repeat first | exact .head | apply Upd.tail) rfl (hs52_2) hxl50 (Wn.none rfl) rfl ?_)))))))
       intro v55 w H
       refine AS rfl rfl (NL (IB (TN ?_)))
       obtain ⟨n51, hxn51, e38⟩ := bnd e38
       refine RG (MV rfl rfl (ST (Ex.addC rfl rfl hxn51) rfl (AS rfl rfl (NL ?_))))
       exact WQ.againP m46 [(0, _), (5, _), (6, _), (7, _), (8, _)] ⟨rfl, rfl, rfl, rfl, rfl, trivial⟩ ⟨_, _, _, _, rfl, H, hg_maxl, hg_tabs, hp0, f27_0, e38⟩ (Nat.lt_succ_self _)
      ·
       replace hk48 : ¬ (n45 < (p0.length : Int)) := of_decide_eq_false hk48
       rw [if_neg hk48] at e38
       refine WC.exit (WQ.thenExit (WQ.thenExit (WQ.exitHere ?_)))
       exact WQ.meetN [(5, _), (6, _), (7, _)] ⟨rfl, rfl, rfl, trivial⟩ ⟨_, _, _, rfl, H, hg_maxl, hg_tabs, f27_0, e38⟩
     ·
      rintro e w ⟨l40, v41, M, rfl, H, hg_maxl, hg_tabs, f27_0, q52⟩
      obtain rfl := oI q52
      refine TN (SQ ?_)
      obtain ⟨o53, e54, h⟩ := bnd h
      refine WC.cutX (fun e w => ∃ (b55 : Bool) (M : Mem), e = [(4, Value.bool b55)] ∧ St w0 M0 M [] w ∧ GlF (fun w => ∃ m, w.cell? ⟨2, 0, none⟩ = some (.int .i64 m)) M ∧ Tabs M ∧ some b55 = some o53) [] ?_ ?_ (trivial)
      ·
       refine RG (ST (Ex.fieldAddr Tryz.underlying27 rfl Tryz.sizeOf3 (by decide) rfl) rfl (ST (Ex.load1 H rfl (by repeat first | exact kMh | apply kMt) Tryz.isAgg3 (by rfl)) rfl ?_))
       by_cases hk56 : n22 = (0 : Int)
       ·
        rw [if_pos hk56] at e54
        obtain ⟨b58, hx59, e54⟩ := bnd e54
        refine WR.stepE (v' := .bool true) (Ex.eql rfl rfl) (congrArg Value.bool (decide_eq_true hk56)) (Wn.none rfl) rfl rfl (MV rfl rfl (SG (Ex.move rfl) rfl rfl rfl (SG (Ex.move rfl) rfl rfl rfl ?_)))
        obtain ⟨M, hle, hs57, H⟩ := H.freezeRowS (v := v41) (enc := xenc24) (t := 24) (by repeat first | exact .head | apply Rem.tail) (fun _ => rfl)
        replace hg_maxl := hg_maxl.mono hle
        replace hg_tabs := hg_tabs.mono hle
        replace f27_0 := f27_0.mono hle
        refine WR.call H (R_SameAddresses_ct hx59) rfl ⟨f27_0, hs57⟩ (Wn.some rfl rfl rfl) rfl ?_
        intro v62 M w H hle hR
        replace hg_maxl := hg_maxl.mono hle
        replace hg_tabs := hg_tabs.mono hle
        replace f27_0 := f27_0.mono hle
        replace hs57 := hs57.mono hle
        obtain rfl := hR
        refine PT rfl rfl rfl (AS rfl rfl (NL ?_))
        exact WQ.meetN [(4, _)] ⟨rfl, trivial⟩ ⟨_, _, rfl, (H.pick (L' := []) (by repeat first | exact kPn | refine kPc (by repeat first | exact .head | apply Rem.tail) ?_)), hg_maxl, hg_tabs, e54⟩
       ·
        rw [if_neg hk56] at e54
        refine WR.stepE (v' := .bool false) (Ex.eql rfl rfl) (congrArg Value.bool (decide_eq_false hk56)) (Wn.none rfl) rfl rfl (MV rfl rfl (WR.skipN 3 rfl rfl (PF rfl rfl rfl (AS rfl rfl (NL ?_)))))
        exact WQ.meetN [(4, _)] ⟨rfl, trivial⟩ ⟨_, _, rfl, (H.pick (L' := []) (by repeat first | exact kPn | refine kPc (by repeat first | exact .head | apply Rem.tail) ?_)), hg_maxl, hg_tabs, e54⟩
      ·
       rintro e w ⟨b55, M, rfl, H, hg_maxl, hg_tabs, q60⟩
       obtain rfl := oI q60
       refine TN (RT ?_)
       obtain rfl := oI h
       exact WQ.ret1 rfl rfl H.ext rfl
end Go.Proofs.YtkmjdamkifbddaaGreatDoor
end
section
namespace Go.Ph.Ad
open Go.Ph.Pl Go.Ph.Pf
open Go.Ph.Chs (vld lower)
abbrev Big (l : List UInt8) : Prop := l.length ≤ 140737488355328
abbrev Adr : Type := List UInt8 × List UInt8 × List UInt8
abbrev Itm : Type := List UInt8 × Bool × List Adr
theorem foldI {α σ γ : Type} {L : Nat → σ → Int → Option γ} (l : List α) (F : σ → α → σ) (fin : σ → γ) (I : Nat → σ → Prop)
    (hend : ∀ m s, I l.length s → L (m + 1) s (l.length : Int) = some (fin s))
    (hstep : ∀ m s i a, l[i]? = some a → I i s → I (i + 1) (F s a) ∧ L (m + 1) s (i : Int) = L m (F s a) ((i + 1 : Nat) : Int)) :
    ∀ (d i : Nat) (s : σ) (m : Nat), l.length - i = d → i ≤ l.length → d < m → I i s → L m s (i : Int) = some (fin ((l.drop i).foldl F s)) := by
  intro d
  induction d with
  | zero =>
    intro i s m h1 h2 h3 hI
    obtain ⟨m, rfl⟩ : ∃ k, m = k + 1 := ⟨m - 1, by omega⟩
    obtain rfl : i = l.length := by omega
    rw [hend m s hI, List.drop_length]; rfl
  | succ d ih =>
    intro i s m h1 h2 h3 hI
    obtain ⟨m, rfl⟩ : ∃ k, m = k + 1 := ⟨m - 1, by omega⟩
    have hi : i < l.length := by omega
    obtain ⟨hI', hL⟩ := hstep m s i l[i] (List.getElem?_eq_getElem hi) hI
    rw [hL, ih (i + 1) _ m (by omega) (by omega) (by omega) hI', List.drop_eq_getElem_cons hi]; rfl
theorem foldI0 {α σ γ : Type} {L : Nat → σ → Int → Option γ} (l : List α) (F : σ → α → σ) (fin : σ → γ) (I : Nat → σ → Prop) (hl : l.length ≤ 9223372036854775807)
    (hend : ∀ m s, I l.length s → L (m + 1) s (l.length : Int) = some (fin s))
    (hstep : ∀ m s i a, l[i]? = some a → I i s → I (i + 1) (F s a) ∧ L (m + 1) s (i : Int) = L m (F s a) ((i + 1 : Nat) : Int)) (s : σ) (h0 : I 0 s) : L FU s 0 = some (fin (l.foldl F s)) := by
  have := foldI l F fin I hend hstep l.length 0 s FU (by omega) (by omega) (FU_gt hl) h0
  simpa using this
theorem allB {p : UInt8 → Prop} (h : ∀ n, n < 256 → p (UInt8.ofNat n)) (c : UInt8) : p c := by
  have := h c.toNat c.toNat_lt
  rwa [UInt8.ofNat_toNat] at this
theorem failed_eq (a b : Int) : basic_Failed (a, b) = some (!decide (a = 0)) := rfl
theorem fault_eq (a b : Int) : basic_Fault a b = some (a, b) := by unfold basic_Fault; rfl
theorem none_eq : basic_None = some (0, 0) := rfl
theorem at_eq (a b : Int) : R_At a b = some (a, b) := rfl
theorem rin_eq (a b c : Int) : R_In a b c = some (decide (b ≤ a ∧ a ≤ c)) := by
  unfold R_In
  by_cases h : b ≤ a <;> simp [h]
def letB (c : UInt8) : Bool := decide (97 ≤ c.toNat ∧ c.toNat ≤ 122) || (decide (65 ≤ c.toNat ∧ c.toNat ≤ 90) || decide (48 ≤ c.toNat ∧ c.toNat ≤ 57))
def atB (c : UInt8) : Bool := letB c || ([33, 35, 36, 37, 38, 39, 42, 43, 45, 47, 61, 63, 94, 95, 96, 123, 124, 125, 126] : List UInt8).any (fun x => decide (x = c))
def doB (c : UInt8) : Bool := letB c || decide (c = 45)
def prB (c : UInt8) : Bool := decide (32 ≤ c.toNat ∧ c.toNat ≤ 126)
theorem rletter_eq (c : UInt8) : R_letter c = some (letB c) := by
  refine allB (p := fun c => R_letter c = some (letB c)) ?_ c
  decide +kernel
theorem ratom_eq (c : UInt8) : R_AtomByte c = some (atB c) := by
  refine allB (p := fun c => R_AtomByte c = some (atB c)) ?_ c
  decide +kernel
theorem domB_eq (c : UInt8) : address_domain_1 c = some (doB c) := by
  refine allB (p := fun c => address_domain_1 c = some (doB c)) ?_ c
  decide +kernel
theorem locB_eq (c : UInt8) : address_local_1 c = some (prB c) := by
  refine allB (p := fun c => address_local_1 c = some (prB c)) ?_ c
  decide +kernel
theorem atB_doB (c : UInt8) : (atB c && (letB c || decide (c = 45))) = doB c := by
  refine allB (p := fun c => (atB c && (letB c || decide (c = 45))) = doB c) ?_ c
  decide +kernel
theorem all_eq (l : List UInt8) (hl : Big l) (g : UInt8 → Option Bool) (p : UInt8 → Bool) (hg : ∀ c, g c = some (p c)) : basic_All l g = some (l.all p) := by
  unfold basic_All
  rw [scan0 (L := basic_All_L1 l g) (l := l) (p := fun c => !p c) (stop := .inl ()) (r := .inr false) (FU_gt (by omega)) (fun m => by rw [basic_All_L1, if_neg (by omega)]) (fun m i h => by
    rw [basic_All_L1, if_pos (by omega), idx_nat, List.getElem?_eq_getElem h, chk_succ (by have := hl; omega)]
    simp only [bsome, hg]
    cases p l[i] <;> simp)]
  simp only [bsome]
  rw [List.all_eq_not_any_not]
  cases l.any (fun c => !p c) <;> simp
def locT (l : List UInt8) : Bool := l.all prB && decide (1 ≤ l.length ∧ l.length ≤ 60)
theorem local_eq (l : List UInt8) (hl : Big l) : address_local l = some (locT l) := by
  unfold address_local locT
  by_cases h : l = []
  · subst h; rfl
  · have hpos : 1 ≤ l.length := by cases l <;> simp_all
    rw [if_neg h]
    by_cases h2 : l.length ≤ 60
    · rw [if_pos (by omega), all_eq l hl _ prB locB_eq]
      simp [hpos, h2]
    · rw [if_neg (by omega)]
      simp [h2]
theorem rlocal_eq (l : List UInt8) (hl : Big l) : R_LocalPart l = some (locT l) := by
  unfold R_LocalPart locT
  rw [scan0 (L := R_LocalPart_L1 l) (l := l) (p := fun c => !prB c) (stop := .inl ()) (r := .inr false) (FU_gt (by omega)) (fun m => by rw [R_LocalPart_L1, if_neg (by omega)]) (fun m i h => by
    rw [R_LocalPart_L1, if_pos (by omega), idx_nat, List.getElem?_eq_getElem h, chk_succ (by have := hl; omega)]
    simp only [bsome, rin_eq]
    have hp : decide ((32 : Int) ≤ (l[i].toNat : Int) ∧ (l[i].toNat : Int) ≤ 126) = prB l[i] := by
      unfold prB
      exact decide_eq_decide.2 ⟨fun h => by omega, fun h => by omega⟩
    rw [hp]
    cases prB l[i] <;> simp)]
  simp only [bsome]
  rw [List.all_eq_not_any_not]
  cases l.any (fun c => !prB c)
  · simp only [rin_eq, bsome, Bool.false_eq_true, if_false, Bool.not_false, Bool.true_and]
    exact congrArg some (decide_eq_decide.2 ⟨fun h => by omega, fun h => by omega⟩)
  · simp
def dispF (l : List UInt8) : Int := if 500 < l.length then 1 else if vld l = true then 0 else 5
theorem disp_eq (l : List UInt8) : address_display l = some (dispF l) := by
  unfold address_display dispF utf8_ValidString
  by_cases h : 500 < l.length
  · rw [if_pos (by omega), if_pos h]
  · rw [if_neg (by omega), if_neg h, if_pos (by omega)]
    simp only [bsome]
    cases vld l <;> rfl
theorem rdisp_eq (l : List UInt8) : R_displayCode l = some (dispF l) := by
  unfold R_displayCode dispF R_Valid
  by_cases h : 500 < l.length
  · rw [if_pos (by omega), if_pos h]
  · rw [if_neg (by omega), if_neg h, if_pos (by omega)]
    simp only [bsome]
    cases vld l <;> rfl
def nc (c x : UInt8) : Bool := !decide (x = c)
theorem index_c (c : UInt8) : ∀ (l : List UInt8), Lib.index l [c] = if c ∈ l then ((l.takeWhile (nc c)).length : Int) else -1
  | [] => rfl
  | x :: l => by
    rw [Lib.index]
    by_cases h : x = c
    · subst h
      rw [if_pos (by simp [List.isPrefixOf]), if_pos (by simp), List.takeWhile_cons_of_neg (by simp [nc])]; rfl
    · have hn : nc c x = true := by unfold nc; rw [decide_eq_false h]; rfl
      have h' : ¬ c = x := fun e => h e.symm
      rw [if_neg (by simp [List.isPrefixOf, h']), index_c c l, List.takeWhile_cons_of_pos hn]
      by_cases hm : c ∈ l
      · rw [if_pos hm, if_neg (by first | (simp; done) | (simp; omega)), if_pos (by simp [hm]), List.length_cons]; omega
      · rw [if_neg hm, if_pos (by decide), if_neg (by simp [hm, h'])]
def spl (c : UInt8) : List UInt8 → List (List UInt8)
  | [] => [[]]
  | x :: l => if x = c then [] :: spl c l else match spl c l with
    | p :: r => (x :: p) :: r
    | [] => [[x]]
theorem spl_ne (c : UInt8) (l : List UInt8) : spl c l ≠ [] := by
  cases l with
  | nil => simp [spl]
  | cons x l =>
    rw [spl]
    split
    · simp
    · split <;> simp
theorem spl_not {c : UInt8} : ∀ {l : List UInt8}, c ∉ l → spl c l = [l]
  | [], _ => rfl
  | x :: l, h => by
    rw [spl, if_neg (fun e => h (by simp [e])), spl_not (fun e => h (by simp [e]))]
theorem spl_mem {c : UInt8} : ∀ {l : List UInt8}, c ∈ l → spl c l = l.takeWhile (nc c) :: spl c (l.drop ((l.takeWhile (nc c)).length + 1))
  | [], h => by simp at h
  | x :: l, h => by
    by_cases hx : x = c
    · subst hx
      rw [spl, if_pos rfl, List.takeWhile_cons_of_neg (by simp [nc])]; rfl
    · have hn : nc c x = true := by unfold nc; rw [decide_eq_false hx]; rfl
      have hl : c ∈ l := by rcases List.mem_cons.1 h with e | e; exact absurd e.symm hx; exact e
      rw [spl, if_neg hx, spl_mem hl, List.takeWhile_cons_of_pos hn]
      simp
theorem tw_lt {c : UInt8} : ∀ {l : List UInt8}, c ∈ l → (l.takeWhile (nc c)).length < l.length
  | [], h => by simp at h
  | x :: l, h => by
    by_cases hx : x = c
    · subst hx
      rw [List.takeWhile_cons_of_neg (by simp [nc])]; simp
    · have hn : nc c x = true := by unfold nc; rw [decide_eq_false hx]; rfl
      have hl : c ∈ l := by rcases List.mem_cons.1 h with e | e; exact absurd e.symm hx; exact e
      rw [List.takeWhile_cons_of_pos hn]
      have := tw_lt hl
      simp; omega
theorem take_tw (c : UInt8) : ∀ (l : List UInt8), l.take (l.takeWhile (nc c)).length = l.takeWhile (nc c)
  | [] => rfl
  | x :: l => by
    by_cases hn : nc c x = true
    · rw [List.takeWhile_cons_of_pos hn, List.length_cons, List.take_succ_cons, take_tw c l]
    · rw [List.takeWhile_cons_of_neg hn]; rfl
theorem split_L2 {σ : Type} (Y : σ → List UInt8 → Option (σ × Bool)) (c : UInt8) : ∀ (n : Nat) (s : List UInt8) (st : σ) (m : Nat), s.length ≤ n → n < m → s.length < 4294967281 →
    ((strings_splitSeq_1_L2 Y [c] 0 m s st).bind fun o => (match o with | .inl (s24, s25) => (Y s25 s24).bind fun (s41, b42) => some s41 | .inr r44 => some r44)) = runL Y (spl c s) st := by
  intro n
  induction n with
  | zero =>
    intro s st m h1 h2 h3
    obtain ⟨m, rfl⟩ : ∃ k, m = k + 1 := ⟨m - 1, by omega⟩
    obtain rfl : s = [] := List.eq_nil_of_length_eq_zero (by omega)
    rw [strings_splitSeq_1_L2]
    unfold strings_Index
    have hi : Lib.index ([] : List UInt8) [c] = -1 := by rw [index_c, if_neg (by simp)]
    rw [if_pos (by decide), bsome, hi, if_pos (by decide), bsome, spl, runL]
    dsimp only
    cases Y st [] with
    | none => rfl
    | some r => obtain ⟨a, b⟩ := r; cases b <;> rfl
  | succ n ih =>
    intro s st m h1 h2 h3
    obtain ⟨m, rfl⟩ : ∃ k, m = k + 1 := ⟨m - 1, by omega⟩
    rw [strings_splitSeq_1_L2]
    unfold strings_Index
    rw [if_pos h3, bsome, index_c]
    by_cases hm : c ∈ s
    · have hlt := tw_lt hm
      rw [if_pos hm, if_neg (by omega), show ((s.takeWhile (nc c)).length : Int) + 0 = (((s.takeWhile (nc c)).length : Nat) : Int) by omega, chk_ok (by omega) (by omega), bsome, cut_to rfl (by omega), bsome, take_tw, spl_mem hm, runL]
      cases hy : Y st (s.takeWhile (nc c)) with
      | none => rfl
      | some r =>
        obtain ⟨a, b⟩ := r
        rw [bsome, bsome]
        dsimp only
        cases b with
        | false => rfl
        | true =>
          rw [if_pos rfl, if_pos rfl, show (([c] : List UInt8).length : Int) = ((1 : Nat) : Int) from rfl, chk_addN 1 (by omega), bsome, cut_from rfl (by omega), bsome]
          exact ih _ a m (by rw [List.length_drop]; omega) (by omega) (by rw [List.length_drop]; omega)
    · rw [if_neg hm, if_pos (by decide), bsome, spl_not hm, runL]
      dsimp only
      cases Y st s with
      | none => rfl
      | some r => obtain ⟨a, b⟩ := r; cases b <;> rfl
theorem splitSeq_eq {σ : Type} (Y : σ → List UInt8 → Option (σ × Bool)) (c : UInt8) (s : List UInt8) (st : σ) (hs : s.length < 4294967281) : strings_splitSeq_1 [c] s 0 σ Y st = runL Y (spl c s) st := by
  unfold strings_splitSeq_1
  rw [if_neg (by simp)]
  exact split_L2 Y c s.length s st FU (Nat.le_refl _) (FU_gt (by omega)) hs
def good (p : UInt8 → Bool) (x : List UInt8) : Bool := !decide (x = []) && x.all p
theorem parts_run (g : UInt8 → Option Bool) (p : UInt8 → Bool) (hg : ∀ c, g c = some (p c)) : ∀ (l : List (List UInt8)), (∀ x ∈ l, Big x) → runL (stepY exStop (address_parts_Y2 g)) l (false, 0) = some (false, if l.all (good p) = true then 0 else 1)
  | [], _ => rfl
  | x :: l, h => by
    rw [runL]
    unfold stepY
    rw [if_neg (by decide)]
    have hx : address_parts_Y2 g (false, 0) x = some (if good p x = true then (false, 0) else (false, 1)) := by
      unfold address_parts_Y2 good
      dsimp only
      by_cases hx : x = []
      · subst hx; rfl
      · rw [if_neg hx, all_eq x (h x List.mem_cons_self) g p hg]
        simp only [bsome, hx]
        cases x.all p <;> rfl
    rw [hx, List.all_cons]
    have ih := parts_run g p hg l (fun y hy => h y (List.mem_cons_of_mem _ hy))
    cases hgx : good p x with
    | false => rfl
    | true =>
      simp only [if_true, Option.map_some, bsome, Bool.true_and]
      exact ih
theorem spl_len (c : UInt8) : ∀ (l : List UInt8), ∀ x ∈ spl c l, x.length ≤ l.length
  | [], x, hx => by simp [spl] at hx; simp [hx]
  | a :: l, x, hx => by
    rw [spl] at hx
    split at hx
    · rcases List.mem_cons.1 hx with rfl | hx
      · simp
      · have := spl_len c l x hx; simp; omega
    · cases hs : spl c l with
      | nil => exact absurd hs (spl_ne c l)
      | cons p r =>
        rw [hs] at hx
        dsimp only at hx
        rcases List.mem_cons.1 hx with rfl | hx
        · have := spl_len c l p (by rw [hs]; exact List.mem_cons_self); simp; omega
        · have := spl_len c l x (by rw [hs]; exact List.mem_cons_of_mem _ hx); simp; omega
theorem parts_eq (s : List UInt8) (hs : s.length < 4294967281) (g : UInt8 → Option Bool) (p : UInt8 → Bool) (hg : ∀ c, g c = some (p c)) : address_parts s g = some ((spl 46 s).all (good p)) := by
  unfold address_parts
  rw [splitSeq_eq _ _ _ _ hs, parts_run g p hg _ (fun x hx => by have := spl_len 46 s x hx; unfold Big; omega), bsome]
  cases (spl 46 s).all (good p) <;> rfl
def dtF (p : UInt8 → Bool) : Bool → List UInt8 → Bool
  | e, [] => !e
  | e, c :: l => if c = 46 then (if e = true then false else dtF p true l) else (if p c = true then dtF p false l else false)
theorem spl_dt (p : UInt8 → Bool) : ∀ (l : List UInt8) (e : Bool) (h : List UInt8) (t : List (List UInt8)), spl 46 l = h :: t → dtF p e l = (h.all p && ((!e || !decide (h = [])) && t.all (good p)))
  | [], e, h, t, hs => by
    simp only [spl, List.cons.injEq] at hs
    obtain ⟨rfl, rfl⟩ := hs
    cases e <;> rfl
  | c :: l, e, h, t, hs => by
    rw [spl] at hs
    rw [dtF]
    by_cases hc : c = 46
    · rw [if_pos hc] at hs
      obtain ⟨rfl, rfl⟩ := List.cons.inj hs
      rw [if_pos hc]
      cases hl : spl 46 l with
      | nil => exact absurd hl (spl_ne _ _)
      | cons a b =>
        rw [spl_dt p l true a b hl, List.all_cons]
        cases e <;> simp [good, Bool.and_comm, Bool.and_left_comm, Bool.and_assoc]
    · rw [if_neg hc] at hs
      rw [if_neg hc]
      cases hl : spl 46 l with
      | nil => exact absurd hl (spl_ne _ _)
      | cons a b =>
        rw [hl] at hs
        dsimp only at hs
        obtain ⟨rfl, rfl⟩ := List.cons.inj hs
        rw [spl_dt p l false a b hl, List.all_cons]
        cases p c <;> simp
theorem dt_spl (p : UInt8 → Bool) (s : List UInt8) : (spl 46 s).all (good p) = dtF p true s := by
  cases hs : spl 46 s with
  | nil => exact absurd hs (spl_ne _ _)
  | cons h t =>
    rw [spl_dt p s true h t hs, List.all_cons]
    unfold good
    cases h.all p <;> simp
def domT (s : List UInt8) : Bool := decide (s.length ≤ 60) && dtF doB true s
theorem domain_eq (s : List UInt8) : address_domain s = some (domT s) := by
  unfold address_domain domT
  by_cases h : s.length ≤ 60
  · rw [if_pos (by omega), parts_eq s (by omega) _ doB domB_eq, dt_spl]
    simp [h]
  · rw [if_neg (by omega)]
    simp [h]
theorem rdot_L1 (s : List UInt8) (dom : Bool) (hs : Big s) : ∀ (k i m : Nat) (b : Bool), s.length - i ≤ k → k < m → i ≤ s.length →
    ((R_Dotted_L1 s dom m b (i : Int)).bind fun o27 => (match o27 with | .inl b3 => some (!b3) | .inr r26 => some r26)) = some (dtF (fun c => atB c && (!dom || (letB c || decide (c = 45)))) b (s.drop i)) := by
  intro k
  induction k with
  | zero =>
    intro i m b h1 h2 h3
    obtain ⟨m, rfl⟩ : ∃ k, m = k + 1 := ⟨m - 1, by omega⟩
    obtain rfl : i = s.length := by omega
    rw [R_Dotted_L1, if_neg (by omega), bsome, List.drop_length]; rfl
  | succ k ih =>
    intro i m b h1 h2 h3
    obtain ⟨m, rfl⟩ : ∃ k, m = k + 1 := ⟨m - 1, by omega⟩
    by_cases hi : i < s.length
    · rw [R_Dotted_L1, if_pos (by omega), idx_nat, List.getElem?_eq_getElem hi, List.drop_eq_getElem_cons hi, dtF]
      simp only [bsome, ratom_eq, rletter_eq, chk_succ (show i + 1 ≤ 9223372036854775807 by have := hs; omega)]
      by_cases hc : s[i] = 46
      · rw [if_pos hc, if_pos hc]
        cases b with
        | true => rfl
        | false =>
          rw [if_neg (by decide), if_neg (by decide)]
          exact ih (i + 1) m true (by omega) (by omega) (by omega)
      · rw [if_neg hc, if_neg hc]
        have h5 := ih (i + 1) m false (by omega) (by omega) (by omega)
        cases ha : atB s[i] with
        | false => simp
        | true =>
          cases dom with
          | false => simpa using h5
          | true =>
            cases hl : letB s[i] with
            | true => simpa using h5
            | false =>
              by_cases hd : s[i] = 45
              · simpa [hd] using h5
              · simp [hd]
    · obtain rfl : i = s.length := by omega
      rw [R_Dotted_L1, if_neg (by omega), bsome, List.drop_length]; rfl
theorem rdotted_eq (s : List UInt8) (hs : Big s) (dom : Bool) : R_Dotted s dom = some (dtF (fun c => atB c && (!dom || (letB c || decide (c = 45)))) true s) := by
  unfold R_Dotted
  have := rdot_L1 s dom hs s.length 0 FU true (by omega) (FU_gt (by have := hs; omega)) (by omega)
  exact this
theorem rdotD_eq (s : List UInt8) (hs : Big s) : R_Dotted s true = some (dtF doB true s) := by
  rw [rdotted_eq s hs]
  have : (fun c => atB c && (!true || (letB c || decide (c = 45)))) = doB := funext fun c => by rw [Bool.not_true, Bool.false_or, atB_doB]
  rw [this]
def addrF (a : Adr) : Int × Int := if dispF a.1 = 0 then (if locT a.2.1 = true then (if domT a.2.2 = true then (0, 0) else (10, -5)) else (10, -4)) else (dispF a.1, -3)
abbrev BigA (a : Adr) : Prop := Big a.1 ∧ Big a.2.1 ∧ Big a.2.2
theorem validate_eq (a : Adr) (h : BigA a) : address_Validate (a.1, a.2.1, a.2.2) = some (addrF a) := by
  unfold address_Validate addrF
  rw [disp_eq, local_eq _ h.2.1, domain_eq]
  simp only [bsome, fault_eq, none_eq]
  by_cases h1 : dispF a.1 = 0
  · rw [if_pos h1, if_pos h1]
    cases locT a.2.1
    · rfl
    · cases domT a.2.2 <;> rfl
  · rw [if_neg h1, if_neg h1]
theorem raddr_eq (a : Adr) (h : BigA a) : R_AddressFault (a.1, a.2.1, a.2.2) = some (addrF a) := by
  unfold R_AddressFault addrF domT
  simp only [rdisp_eq, rlocal_eq _ h.2.1, rdotD_eq _ h.2.2, bsome, at_eq]
  by_cases h1 : dispF a.1 = 0
  · rw [if_pos h1, if_pos h1]
    cases locT a.2.1
    · rfl
    · show ((if (60 : Int) < (a.2.2.length : Int) then some true else some (!dtF doB true a.2.2)).bind fun b17 => if b17 = true then some ((10 : Int), (-5 : Int)) else some (0, 0)) = some (if (decide (a.2.2.length ≤ 60) && dtF doB true a.2.2) = true then (0, 0) else (10, -5))
      by_cases h2 : a.2.2.length ≤ 60
      · rw [if_neg (by omega), bsome, decide_eq_true h2, Bool.true_and]
        cases dtF doB true a.2.2 <;> rfl
      · rw [if_pos (by omega), bsome, decide_eq_false h2]
        rfl
  · rw [if_neg h1, if_neg h1]
end Go.Ph.Ad
end
section
namespace Go.Ph.Ad
open Go.Ph.Pl Go.Ph.Pf
abbrev BigI (x : Itm) : Prop := Big x.1 ∧ x.2.2.length ≤ 140737488355328 ∧ ∀ a ∈ x.2.2, BigA a
abbrev BigL (l : List Itm) : Prop := l.length ≤ 140737488355328 ∧ ∀ x ∈ l, BigI x
def memF : List Adr → Int
  | [] => 0
  | a :: l => if (addrF a).1 = 0 then memF l else (addrF a).1
def badI (x : Itm) : Bool := !decide (x.2.1 = !decide (x.1 = [])) || (!x.2.1 && !decide (x.2.2.length = 1))
def itemF (x : Itm) : Int := if dispF x.1 = 0 then (if badI x = true then 5 else memF x.2.2) else dispF x.1
theorem item_L1 (x : Itm) (h : BigI x) : ∀ (k i m : Nat), x.2.2.length - i ≤ k → k < m → i ≤ x.2.2.length →
    ((address_item_L1 x m (i : Int)).bind fun o26 => (match o26 with | .inl _ => some 0 | .inr r25 => some r25)) = some (memF (x.2.2.drop i)) := by
  intro k
  induction k with
  | zero =>
    intro i m h1 h2 h3
    obtain ⟨m, rfl⟩ : ∃ k, m = k + 1 := ⟨m - 1, by omega⟩
    obtain rfl : i = x.2.2.length := by omega
    rw [address_item_L1, if_neg (by omega), bsome, List.drop_length]; rfl
  | succ k ih =>
    intro i m h1 h2 h3
    obtain ⟨m, rfl⟩ : ∃ k, m = k + 1 := ⟨m - 1, by omega⟩
    by_cases hi : i < x.2.2.length
    · rw [address_item_L1, if_pos (by omega), idx_nat, List.getElem?_eq_getElem hi, List.drop_eq_getElem_cons hi, memF, bsome]
      rw [validate_eq _ (h.2.2 _ (List.getElem_mem hi)), bsome]
      have h5 := ih (i + 1) m (by omega) (by omega) (by omega)
      obtain ⟨a, b, hab⟩ : ∃ a b, addrF x.2.2[i] = (a, b) := ⟨_, _, rfl⟩
      rw [hab]
      dsimp only
      rw [failed_eq, bsome]
      by_cases ha : a = 0
      · rw [if_neg (by simp [ha]), if_pos ha, chk_succ (by have := h.2.1; omega), bsome]
        exact h5
      · rw [if_pos (by simp [ha]), if_neg ha]; rfl
    · obtain rfl : i = x.2.2.length := by omega
      rw [address_item_L1, if_neg (by omega), bsome, List.drop_length]; rfl
theorem item_eq (x : Itm) (h : BigI x) : address_item (x.1, x.2.1, x.2.2) = some (itemF x) := by
  unfold address_item itemF
  rw [disp_eq, bsome]
  by_cases h1 : dispF x.1 = 0
  · rw [if_pos h1, if_pos h1]
    have hb : (if x.2.1 = (!decide (x.1 = [])) then (if x.2.1 = true then some false else some (!decide ((x.2.2.length : Int) = (1 : Int)))) else some true) = some (badI x) := by
      unfold badI
      have hd : decide ((x.2.2.length : Int) = 1) = decide (x.2.2.length = 1) := decide_eq_decide.2 ⟨fun h => by omega, fun h => by omega⟩
      rw [hd]
      by_cases h2 : x.2.1 = !decide (x.1 = [])
      · rw [if_pos h2, decide_eq_true h2]
        cases x.2.1 <;> rfl
      · rw [if_neg h2, decide_eq_false h2]; rfl
    rw [hb, bsome]
    cases badI x with
    | true => rfl
    | false =>
      rw [if_neg (by decide), if_neg (by decide)]
      exact item_L1 x h x.2.2.length 0 FU (by omega) (FU_gt (by have := h.2.1; omega)) (by omega)
  · rw [if_neg h1, if_neg h1]
theorem ritem_L3 (n : Int) (x : Itm) (h : BigI x) (c d : Int) : ∀ (k i m : Nat), x.2.2.length - i ≤ k → k < m → i ≤ x.2.2.length →
    R_ItemsFault_L3 n x m c d (i : Int) = some (if memF (x.2.2.drop i) = 0 then .inl (c, d) else .inr (memF (x.2.2.drop i), n)) := by
  intro k
  induction k with
  | zero =>
    intro i m h1 h2 h3
    obtain ⟨m, rfl⟩ : ∃ k, m = k + 1 := ⟨m - 1, by omega⟩
    obtain rfl : i = x.2.2.length := by omega
    rw [R_ItemsFault_L3, if_neg (by omega), List.drop_length]; rfl
  | succ k ih =>
    intro i m h1 h2 h3
    obtain ⟨m, rfl⟩ : ∃ k, m = k + 1 := ⟨m - 1, by omega⟩
    by_cases hi : i < x.2.2.length
    · rw [R_ItemsFault_L3, if_pos (by omega), idx_nat, List.getElem?_eq_getElem hi, List.drop_eq_getElem_cons hi, memF, bsome]
      rw [raddr_eq _ (h.2.2 _ (List.getElem_mem hi)), bsome]
      have h5 := ih (i + 1) m (by omega) (by omega) (by omega)
      obtain ⟨a, b, hab⟩ : ∃ a b, addrF x.2.2[i] = (a, b) := ⟨_, _, rfl⟩
      rw [hab]
      dsimp only
      by_cases ha : a = 0
      · rw [if_pos ha, chk_succ (by have := h.2.1; omega), bsome]
        simp only [if_pos ha]
        exact h5
      · rw [if_neg ha, at_eq, bsome]
        simp only [if_neg ha]
    · obtain rfl : i = x.2.2.length := by omega
      rw [R_ItemsFault_L3, if_neg (by omega), List.drop_length]; rfl
def listF : Nat → List Itm → Int × Int
  | _, [] => (0, 0)
  | i, x :: l => if itemF x = 0 then listF (i + 1) l else (itemF x, (i : Int))
def sumW (l : List Itm) : Int := l.foldl (fun n x => IntKind.i64.wrap (n + (x.2.2.length : Int))) 0
def itemsF (l : List Itm) : Int × Int := if 60 < l.length ∨ 60 < sumW l then (2, -1) else listF 0 l
theorem check_L1 (l : List Itm) (h : l.length ≤ 140737488355328) : address_Check_L1 l FU 0 0 = some (sumW l) := by
  refine foldI0 (L := address_Check_L1 l) l (fun n x => IntKind.i64.wrap (n + (x.2.2.length : Int))) id (fun _ _ => True) (by omega) (fun m s _ => ?_) (fun m s i a ha _ => ⟨trivial, ?_⟩) 0 trivial
  · rw [address_Check_L1, if_neg (by omega)]; rfl
  · have hi := (List.getElem?_eq_some_iff.1 ha).1
    rw [address_Check_L1, if_pos (by omega), idx_nat, ha, bsome, chk_succ (by omega), bsome]
theorem rcheck_L1 (l : List Itm) (h : l.length ≤ 140737488355328) : R_ItemsFault_L1 l FU 0 0 = some (sumW l) := by
  refine foldI0 (L := R_ItemsFault_L1 l) l (fun n x => IntKind.i64.wrap (n + (x.2.2.length : Int))) id (fun _ _ => True) (by omega) (fun m s _ => ?_) (fun m s i a ha _ => ⟨trivial, ?_⟩) 0 trivial
  · rw [R_ItemsFault_L1, if_neg (by omega)]; rfl
  · have hi := (List.getElem?_eq_some_iff.1 ha).1
    rw [R_ItemsFault_L1, if_pos (by omega), idx_nat, ha, bsome, chk_succ (by omega), bsome]
theorem check_L2 (l : List Itm) (h : BigL l) : ∀ (k i m : Nat) (c d : Int), l.length - i ≤ k → k < m → i ≤ l.length →
    ((address_Check_L2 l m c d (i : Int)).bind fun o43 => (match o43 with | .inl (n23, n24) => (basic_None).bind fun (n39, n40) => some (n39, n40) | .inr r42 => some r42)) = some (listF i (l.drop i)) := by
  intro k
  induction k with
  | zero =>
    intro i m c d h1 h2 h3
    obtain ⟨m, rfl⟩ : ∃ k, m = k + 1 := ⟨m - 1, by omega⟩
    obtain rfl : i = l.length := by omega
    rw [address_Check_L2, if_neg (by omega), bsome, List.drop_length]; rfl
  | succ k ih =>
    intro i m c d h1 h2 h3
    obtain ⟨m, rfl⟩ : ∃ k, m = k + 1 := ⟨m - 1, by omega⟩
    by_cases hi : i < l.length
    · rw [address_Check_L2, if_pos (by omega), idx_nat, List.getElem?_eq_getElem hi, List.drop_eq_getElem_cons hi, listF, bsome]
      rw [item_eq _ (h.2 _ (List.getElem_mem hi)), bsome]
      by_cases ha : itemF l[i] = 0
      · rw [if_pos ha, if_pos ha, chk_succ (by have := h.1; omega), bsome]
        exact ih (i + 1) m c d (by omega) (by omega) (by omega)
      · rw [if_neg ha, if_neg ha, fault_eq, bsome]; rfl
    · obtain rfl : i = l.length := by omega
      rw [address_Check_L2, if_neg (by omega), bsome, List.drop_length]; rfl
theorem rcheck_L2 (l : List Itm) (h : BigL l) : ∀ (k i m : Nat) (c d : Int), l.length - i ≤ k → k < m → i ≤ l.length →
    ((R_ItemsFault_L2 l m c d (i : Int)).bind fun o77 => (match o77 with | .inl (n23, n24) => some ((0 : Int), (0 : Int)) | .inr r76 => some r76)) = some (listF i (l.drop i)) := by
  intro k
  induction k with
  | zero =>
    intro i m c d h1 h2 h3
    obtain ⟨m, rfl⟩ : ∃ k, m = k + 1 := ⟨m - 1, by omega⟩
    obtain rfl : i = l.length := by omega
    rw [R_ItemsFault_L2, if_neg (by omega), bsome, List.drop_length]; rfl
  | succ k ih =>
    intro i m c d h1 h2 h3
    obtain ⟨m, rfl⟩ : ∃ k, m = k + 1 := ⟨m - 1, by omega⟩
    by_cases hi : i < l.length
    · have hB := h.2 _ (List.getElem_mem hi)
      have h5 := ih (i + 1) m c d (by omega) (by omega) (by omega)
      rw [R_ItemsFault_L2, if_pos (by omega), idx_nat, List.getElem?_eq_getElem hi, List.drop_eq_getElem_cons hi, listF, bsome]
      obtain ⟨x, hx⟩ : ∃ x, l[i] = x := ⟨_, rfl⟩
      rw [hx] at hB ⊢
      have hb : (if x.2.1 = true then (if x.1 = [] then some true else (if x.2.1 = true then some false else (if x.1 = [] then some (!decide ((x.2.2.length : Int) = (1 : Int))) else some true))) else (if x.2.1 = true then some false else (if x.1 = [] then some (!decide ((x.2.2.length : Int) = (1 : Int))) else some true))) = some (badI x) := by
        unfold badI
        have hd : decide ((x.2.2.length : Int) = 1) = decide (x.2.2.length = 1) := decide_eq_decide.2 ⟨fun h => by omega, fun h => by omega⟩
        rw [hd]
        by_cases he : x.1 = [] <;> cases x.2.1 <;> simp [he]
      unfold itemF
      rw [rdisp_eq, bsome]
      by_cases h1 : dispF x.1 = 0
      · rw [if_pos h1, hb, bsome]
        simp only [if_pos h1]
        have h6 : R_ItemsFault_L3 (i : Int) x FU c d 0 = some (if memF x.2.2 = 0 then .inl (c, d) else .inr (memF x.2.2, (i : Int))) := ritem_L3 (i : Int) x hB c d x.2.2.length 0 FU (by omega) (FU_gt (by have := hB.2.1; omega)) (by omega)
        cases badI x with
        | true => rfl
        | false =>
          simp only [Bool.false_eq_true, if_false, h6, bsome]
          by_cases hm : memF x.2.2 = 0
          · simp only [if_pos hm]
            rw [chk_succ (by have := h.1; omega), bsome]
            exact h5
          · simp only [if_neg hm, bsome]
      · rw [if_neg h1]
        simp only [if_neg h1, rdisp_eq, bsome, at_eq]
    · obtain rfl : i = l.length := by omega
      rw [R_ItemsFault_L2, if_neg (by omega), bsome, List.drop_length]; rfl
theorem check_eq (l : List Itm) (h : BigL l) : address_Check l = some (itemsF l) := by
  unfold address_Check itemsF
  rw [check_L1 l h.1, bsome]
  have h5 := check_L2 l h l.length 0 FU 0 0 (by omega) (FU_gt (by have := h.1; omega)) (by omega)
  by_cases h1 : 60 < l.length
  · rw [if_pos (by omega), bsome, if_pos rfl, if_pos (.inl h1)]; rfl
  · rw [if_neg (by omega), bsome]
    by_cases h2 : 60 < sumW l
    · rw [decide_eq_true h2, if_pos rfl, if_pos (.inr h2)]; rfl
    · rw [decide_eq_false h2, if_neg (by decide), if_neg (by intro h; rcases h with h | h; exact h1 h; exact h2 h)]
      exact h5
theorem rcheck_eq (l : List Itm) (h : BigL l) : R_ItemsFault l = some (itemsF l) := by
  unfold R_ItemsFault itemsF
  rw [rcheck_L1 l h.1, bsome]
  have h5 := rcheck_L2 l h l.length 0 FU 0 0 (by omega) (FU_gt (by have := h.1; omega)) (by omega)
  by_cases h1 : 60 < l.length
  · rw [if_pos (by omega), bsome, if_pos rfl, if_pos (.inl h1)]; rfl
  · rw [if_neg (by omega), bsome]
    by_cases h2 : 60 < sumW l
    · rw [decide_eq_true h2, if_pos rfl, if_pos (.inr h2)]; rfl
    · rw [decide_eq_false h2, if_neg (by decide), if_neg (by intro h; rcases h with h | h; exact h1 h; exact h2 h)]
      exact h5
def sumN (l : List Itm) : Nat := (l.map fun x => x.2.2.length).sum
theorem wrap_ok {a : Int} (h1 : -9223372036854775808 ≤ a) (h2 : a ≤ 9223372036854775807) : IntKind.i64.wrap a = a := by
  simp [IntKind.wrap, IntKind.bits, IntKind.signed]; omega
theorem sumW_go (B : Nat) : ∀ (l : List Itm) (n : Nat), (∀ x ∈ l, x.2.2.length ≤ B) → l.length * B + n ≤ 9223372036854775807 →
    l.foldl (fun n x => IntKind.i64.wrap (n + (x.2.2.length : Int))) (n : Int) = ((n + sumN l : Nat) : Int) := by
  intro l
  induction l with
  | nil => intro n _ _; rfl
  | cons x l ih =>
    intro n h hb
    have hx := h x List.mem_cons_self
    rw [List.length_cons, Nat.add_mul, Nat.one_mul] at hb
    have hs : sumN (x :: l) = x.2.2.length + sumN l := by unfold sumN; rw [List.map_cons, List.sum_cons]
    rw [List.foldl_cons, ← Int.natCast_add, wrap_ok (by omega) (by omega), ih (n + x.2.2.length) (fun y hy => h y (List.mem_cons_of_mem _ hy)) (by omega), hs, Nat.add_assoc]
theorem sumW_eq (l : List Itm) (h : BigL l) (hl : l.length ≤ 60) : sumW l = (sumN l : Int) := by
  have := sumW_go 140737488355328 l 0 (fun x hx => (h.2 x hx).2.1) (by omega)
  rw [Nat.zero_add] at this
  exact this
theorem ok_small (l : List Itm) (h : BigL l) (hf : (itemsF l).1 = 0) : l.length ≤ 60 ∧ sumN l ≤ 60 ∧ itemsF l = listF 0 l := by
  unfold itemsF at hf ⊢
  by_cases hc : 60 < l.length ∨ 60 < sumW l
  · rw [if_pos hc] at hf; cases hf
  · rw [if_neg hc]
    have h1 : l.length ≤ 60 := by omega
    have h2 : ¬ 60 < sumW l := fun e => hc (.inr e)
    rw [sumW_eq l h h1] at h2
    exact ⟨h1, by omega, rfl⟩
theorem all_L (L : Nat → List Adr → Int → Option (List Adr)) (l : List Itm) (h : l.length ≤ 60) (hn : sumN l ≤ 60) (hend : ∀ m o, L (m + 1) o (l.length : Int) = some o)
    (hstep : ∀ m (o : List Adr) (i : Nat) (a : Itm), l[i]? = some a → o.length + a.2.2.length ≤ 60 → L (m + 1) o (i : Int) = L m (o ++ a.2.2) ((i + 1 : Nat) : Int)) : L FU [] 0 = some (l.flatMap (·.2.2)) := by
  have hsum : ∀ (l : List Itm) (i : Nat) (a : Itm), l[i]? = some a → ((l.take i).flatMap (·.2.2)).length + a.2.2.length ≤ sumN l := by
    intro l
    induction l with
    | nil => intro i a h; simp at h
    | cons x l ih =>
      intro i a h
      cases i with
      | zero =>
        simp only [List.getElem?_cons_zero, Option.some.injEq] at h
        subst h
        simp [sumN]
      | succ i =>
        have := ih i a (by simpa using h)
        simp only [List.take_succ_cons, List.flatMap_cons, List.length_append, sumN, List.map_cons, List.sum_cons] at this ⊢
        omega
  have key := foldI0 (L := L) l (fun o a => o ++ a.2.2) id (fun i o => o = (l.take i).flatMap (·.2.2)) (by omega) (fun m s _ => hend m s) (fun m s i a ha hI => by
    have hi := (List.getElem?_eq_some_iff.1 ha).1
    have h3 := hsum l i a ha
    subst hI
    refine ⟨?_, hstep m _ i a ha (by omega)⟩
    rw [List.take_add_one, ha, List.flatMap_append]
    simp) [] rfl
  rw [key]
  congr 1
  have : ∀ (l : List Itm) (o : List Adr), l.foldl (fun o a => o ++ a.2.2) o = o ++ l.flatMap (·.2.2) := by
    intro l
    induction l with
    | nil => intro o; simp
    | cons x l ih => intro o; rw [List.foldl_cons, ih]; simp
  have h2 := this l []
  simpa using h2
theorem allItems_eq (l : List Itm) (h : BigL l) : address_All l = some (if (itemsF l).1 = 0 then (l.flatMap (·.2.2), (0, 0)) else ([], itemsF l)) := by
  unfold address_All
  rw [check_eq l h, bsome]
  obtain ⟨a, b, hab⟩ : ∃ a b, itemsF l = (a, b) := ⟨_, _, rfl⟩
  have hs := ok_small l h
  rw [hab] at hs ⊢
  dsimp only
  rw [failed_eq, bsome]
  by_cases ha : a = 0
  · obtain ⟨h1, h2, _⟩ := hs ha
    rw [if_neg (by simp [ha]), if_pos ha, all_L (address_All_L1 l) l h1 h2 (fun m o => by rw [address_All_L1, if_neg (by omega)]) (fun m o i x hx hl => by
      have hi := (List.getElem?_eq_some_iff.1 hx).1
      have hxl : x.2.2.length ≤ 60 := by omega
      unfold slices_Clone_Address at *
      rw [address_All_L1, if_pos (by omega), idx_nat, hx, bsome]
      unfold slices_Clone_Address
      rw [app_ok (by rw [List.length_nil]; omega), bsome, app_ok (by rw [List.nil_append]; omega), bsome, chk_succ (by omega), bsome, List.nil_append]), bsome, none_eq, bsome]
  · rw [if_pos (by simp [ha]), if_neg ha]
theorem sameA_L1 (l : List Adr) (h : l.length ≤ 140737488355328) : ∀ (k i m : Nat), l.length - i ≤ k → k < m → i ≤ l.length → R_SameAddresses_L1 l l m (i : Int) = some (.inl ()) := by
  intro k
  induction k with
  | zero =>
    intro i m h1 h2 h3
    obtain ⟨m, rfl⟩ : ∃ k, m = k + 1 := ⟨m - 1, by omega⟩
    obtain rfl : i = l.length := by omega
    rw [R_SameAddresses_L1, if_neg (by omega)]
  | succ k ih =>
    intro i m h1 h2 h3
    obtain ⟨m, rfl⟩ : ∃ k, m = k + 1 := ⟨m - 1, by omega⟩
    by_cases hi : i < l.length
    · rw [R_SameAddresses_L1, if_pos (by omega), idx_nat, List.getElem?_eq_getElem hi, bsome, bsome, if_pos ⟨rfl, rfl, rfl⟩, chk_succ (by omega), bsome]
      exact ih (i + 1) m (by omega) (by omega) (by omega)
    · obtain rfl : i = l.length := by omega
      rw [R_SameAddresses_L1, if_neg (by omega)]
theorem sameA_refl (l : List Adr) (h : l.length ≤ 140737488355328) : R_SameAddresses l l = some true := by
  unfold R_SameAddresses
  rw [if_pos rfl, show (0 : Int) = ((0 : Nat) : Int) from rfl, sameA_L1 l h l.length 0 FU (by omega) (FU_gt (by omega)) (by omega)]
  rfl
theorem flat_small (l : List Itm) : (l.flatMap (·.2.2)).length = sumN l := by
  unfold sumN
  rw [List.length_flatMap]
theorem bigA_of {a : Adr} (h : a.1.length ≤ 140737488351232 ∧ a.2.1.length ≤ 140737488351232 ∧ a.2.2.length ≤ 140737488351232) : BigA a := ⟨Nat.le_trans h.1 (by decide), Nat.le_trans h.2.1 (by decide), Nat.le_trans h.2.2 (by decide)⟩
theorem bigL_of {l : List Itm} (h : l.length ≤ 140737488351232 ∧ ∀ x ∈ l, x.1.length ≤ 140737488351232 ∧ x.2.2.length ≤ 140737488351232 ∧ ∀ a ∈ x.2.2, (a.1.length ≤ 140737488351232 ∧ a.2.1.length ≤ 140737488351232 ∧ a.2.2.length ≤ 140737488351232)) : BigL l :=
  ⟨Nat.le_trans h.1 (by decide), fun x hx => ⟨Nat.le_trans (h.2 x hx).1 (by decide), Nat.le_trans (h.2 x hx).2.1 (by decide), fun a ha => bigA_of ((h.2 x hx).2.2 a ha)⟩⟩
theorem ex_law : L_addressExample = some true := by decide +kernel
theorem check_law (hex : L_addressExample = some true) (l : List Itm) (a : Adr) (hl : BigL l) (ha : BigA a) : L_AddressCheckMatchesSpec l a = some true := by
  unfold L_AddressCheckMatchesSpec
  rw [hex, bsome, if_pos rfl, validate_eq a ha, bsome]
  simp only [raddr_eq a ha, check_eq l hl, rcheck_eq l hl, allItems_eq l hl, bsome, and_self, if_true, decide_true, Bool.not_true, Bool.false_eq_true, if_false]
  by_cases h : (itemsF l).1 = 0
  · obtain ⟨h1, h2, _⟩ := ok_small l hl h
    have hw : L_AddressCheckMatchesSpec_L1 l FU [] 0 = some (l.flatMap (·.2.2)) := all_L (L_AddressCheckMatchesSpec_L1 l) l h1 h2 (fun m o => by rw [L_AddressCheckMatchesSpec_L1, if_neg (by omega)]) (fun m o i x hx hlen => by
      have hi := (List.getElem?_eq_some_iff.1 hx).1
      rw [L_AddressCheckMatchesSpec_L1, if_pos (by omega), idx_nat, hx, bsome, app_ok (by omega), bsome, chk_succ (by omega), bsome])
    simp only [if_pos h, hw, bsome]
    simp only [if_true, sameA_refl _ (show (l.flatMap (·.2.2)).length ≤ 140737488355328 by rw [flat_small]; omega), bsome]
  · simp only [if_neg h, and_self, if_true, bsome]
    rfl
end Go.Ph.Ad
end
