/-
  Kct5, Aa, Ab, Ac, Ad, Rq, Ae: own texts of this repository (wip/tpl, wip/plans), merged and shaken by wip/tools/pack.py.
-/
import Derived.KernelRfl
import Derived.Test.YtkmjdamkifbddaaGreatDoorE2e
set_option maxRecDepth 100000
set_option linter.unusedVariables false
set_option linter.unusedSimpArgs false
section
namespace Go.Proofs.YtkmjdamkifbddaaGreatDoor
open Go Go.RowKit Go.Ph Go.Ph.Pl Go.Ph.Pf
theorem R_SameItems_ct {p0 : List (List UInt8 × Bool × List (List UInt8 × List UInt8 × List UInt8))} {p1 : List (List UInt8 × Bool × List (List UInt8 × List UInt8 × List UInt8))} {vp0 : Value} {vp1 : Value} {r : Bool} (h : R_SameItems p0 p1 = some r) : Ct Tryz.prog 22 [vp0, vp1] (fun M => SlR xrl34 M vp0 p0 ∧ SlR xrl34 M vp1 p1) (fun v M => v = Value.bool r) := by
  refine Ct.of Tryz.func22 (enters Tryz.func22 (by kernel_rfl) rfl) rfl rfl rfl ?_
  intro w0 M0 H hp
  obtain ⟨hp0, hp1⟩ := hp
  unfold R_SameItems at h
  refine SQ (RG (AS rfl rfl (NL (TN (SQ (SQ (RG (MV rfl rfl (ST (Ex.lenSlR Tryz.underlying22 hp0 rfl) rfl (MV rfl rfl (ST (Ex.lenSlR Tryz.underlying22 hp1 rfl) rfl (ST (Ex.neqC rfl rfl) rfl (NL (TN ?_))))))))))))))
  refine WC.condB rfl (fun hk1 => ?_) (fun hk1 => ?_)
  ·
   replace hk1 : ¬ ((p0.length : Int) = (p1.length : Int)) := of_not_decide hk1
   rw [if_neg hk1] at h
   refine SQ (RG (AS rfl rfl (NL (TN (RT ?_)))))
   obtain rfl := oI h
   exact WQ.ret1 rfl rfl H.ext rfl
  ·
   replace hk1 : (p0.length : Int) = (p1.length : Int) := of_not_decide' hk1
   rw [if_pos hk1] at h
   refine SK (TN (SQ (SQ (RG (AS rfl rfl (NL (TN ?_)))))))
   obtain ⟨o2, e3, h⟩ := bnd h
   refine WC.cutX (fun e w => ∃  (M : Mem), e = [] ∧ St w0 M0 M [] w ∧ some (.inl ()) = some o2) [] ?_ ?_ (trivial)
   ·
    refine BL (WC.loopP (fun m e w => ∃ (n4 : Int) (M : Mem), e = [(0, vp0), (1, vp1), (5, I n4)] ∧ St w0 M0 M [] w ∧ SlR xrl34 M vp0 p0 ∧ SlR xrl34 M vp1 p1 ∧ R_SameItems_L1 p0 p1 m n4 = some o2) FU [(0, _), (1, _), (5, _)] ⟨rfl, rfl, rfl, trivial⟩ ⟨_, _, rfl, H, hp0, hp1, e3⟩ ?_)
    rintro m5 e w ⟨n4, M, rfl, H, hp0, hp1, e3⟩
    rcases m5 with _ | m5
    · rw [R_SameItems_L1] at e3; cases e3
    rw [R_SameItems_L1] at e3
    refine SQ (SQ (RG (MV rfl rfl (MV rfl rfl (ST (Ex.lenSlR Tryz.underlying22 hp0 rfl) rfl (ST (Ex.lss rfl rfl) rfl (NL (TN ?_))))))))
    refine WC.condB rfl (fun hk6 => ?_) (fun hk6 => ?_)
    ·
     replace hk6 : n4 < (p0.length : Int) := of_decide_eq_true hk6
     rw [if_pos hk6] at e3
     refine SK (TN (SQ (BL (SQ ?_))))
     obtain ⟨o7, e8, e3⟩ := bnd e3
     refine WC.cutX (fun e w => ∃ (b9 : Bool) (M : Mem), e = [(0, vp0), (1, vp1), (5, I n4), (54, Value.bool b9)] ∧ St w0 M0 M [] w ∧ SlR xrl34 M vp0 p0 ∧ SlR xrl34 M vp1 p1 ∧ some b9 = some o7) [] ?_ ?_ (trivial)
     ·
      obtain ⟨a10, hxa10, e8⟩ := bnd e8
      obtain ⟨bk19, o19, fq19, ha19, hc19, hr19⟩ := hp0.atC hxa10
      obtain ⟨f19_0, f19_1, q19_2⟩ := fq19
      replace hr19 : f19_0 = a10.1 ∧ f19_1 = a10.2.1 ∧ SlS M 3 xenc24 (hv q19_2) a10.2.2 := hr19
      obtain ⟨rfl, rfl, hs19_2⟩ := hr19
      obtain ⟨a11, hxa11, e8⟩ := bnd e8
      obtain ⟨bk24, o24, fq24, ha24, hc24, hr24⟩ := hp1.atC hxa11
      obtain ⟨f24_0, f24_1, q24_2⟩ := fq24
      replace hr24 : f24_0 = a11.1 ∧ f24_1 = a11.2.1 ∧ SlS M 3 xenc24 (hv q24_2) a11.2.2 := hr24
      obtain ⟨rfl, rfl, hs24_2⟩ := hr24
      refine WC.draw (m := 38) rfl rfl H ?_
      intro w H
      refine WA.take (i := 0) rfl (by kernel_rfl) (by kernel_rfl) (by kernel_rfl) (fun _ => Ex.move rfl) (Wn.none rfl) rfl rfl (fun _ _ => rfl) (WA.take (i := 1) rfl (by kernel_rfl) (by kernel_rfl) (by kernel_rfl) (fun _ => Ex.move rfl) (Wn.none rfl) rfl rfl (fun _ _ => rfl) (WA.take (i := 2) rfl (by kernel_rfl) (by kernel_rfl) (by kernel_rfl) (fun _ => Ex.idxAt ha19 Tryz.underlying22 Tryz.sizeOf34 rfl rfl) (Wn.none rfl) rfl rfl (fun _ _ => rfl) (WA.take (i := 3) rfl (by kernel_rfl) (by kernel_rfl) (by kernel_rfl) (fun _ => Ex.fieldAddr Tryz.underlying34 rfl Tryz.sizeOf9 (by decide) rfl) (Wn.none rfl) rfl rfl (fun _ _ => rfl) (WA.take (i := 5) rfl (by kernel_rfl) (by kernel_rfl) (by kernel_rfl) (fun _ => Ex.move rfl) (Wn.none rfl) rfl rfl (fun _ _ => rfl) (WA.take (i := 6) rfl (by kernel_rfl) (by kernel_rfl) (by kernel_rfl) (fun _ => Ex.move rfl) (Wn.none rfl) rfl rfl (fun _ _ => rfl) (WA.take (i := 7) rfl (by kernel_rfl) (by kernel_rfl) (by kernel_rfl) (fun _ => Ex.idxAt ha24 Tryz.underlying22 Tryz.sizeOf34 rfl rfl) (Wn.none rfl) rfl rfl (fun _ _ => rfl) ?_))))))
      refine WA.take (i := 8) rfl (by kernel_rfl) (by kernel_rfl) (by kernel_rfl) (fun _ => Ex.fieldAddr Tryz.underlying34 rfl Tryz.sizeOf9 (by decide) rfl) (Wn.none rfl) rfl rfl (fun _ _ => rfl) (WA.takeM (i := 4) [9] rfl (by kernel_rfl) (by kernel_rfl) (by kernel_rfl) (Ex.loadM H rfl (hc19.at (j := 0) rfl) Tryz.isAgg9) (Wn.none rfl) rfl rfl (fun _ _ => rfl) (ON 9 (by kernel_rfl) rfl (ST (Ex.loadM H rfl (hc24.at (j := 0) rfl) Tryz.isAgg9) rfl (NA ?_))))
      by_cases hk12 : a10.1 = a11.1
      ·
       rw [if_pos hk12] at e8
       obtain ⟨a13, hxa13, e8⟩ := bnd e8
       obtain ⟨bk31, o31, fq31, ha31, hc31, hr31⟩ := hp0.atC hxa13
       obtain ⟨f31_0, f31_1, q31_2⟩ := fq31
       replace hr31 : f31_0 = a13.1 ∧ f31_1 = a13.2.1 ∧ SlS M 3 xenc24 (hv q31_2) a13.2.2 := hr31
       obtain ⟨rfl, rfl, hs31_2⟩ := hr31
       obtain ⟨a14, hxa14, e8⟩ := bnd e8
       obtain ⟨bk36, o36, fq36, ha36, hc36, hr36⟩ := hp1.atC hxa14
       obtain ⟨f36_0, f36_1, q36_2⟩ := fq36
       replace hr36 : f36_0 = a14.1 ∧ f36_1 = a14.2.1 ∧ SlS M 3 xenc24 (hv q36_2) a14.2.2 := hr36
       obtain ⟨rfl, rfl, hs36_2⟩ := hr36
       by_cases hk15 : a13.2.1 = a14.2.1
       ·
        rw [if_pos hk15] at e8
        obtain ⟨a16, hxa16, e8⟩ := bnd e8
        obtain ⟨bk44, o44, fq44, ha44, hc44, hr44⟩ := hp0.atC hxa16
        obtain ⟨f44_0, f44_1, q44_2⟩ := fq44
        replace hr44 : f44_0 = a16.1 ∧ f44_1 = a16.2.1 ∧ SlS M 3 xenc24 (hv q44_2) a16.2.2 := hr44
        obtain ⟨rfl, rfl, hs44_2⟩ := hr44
        obtain ⟨a17, hxa17, e8⟩ := bnd e8
        obtain ⟨bk49, o49, fq49, ha49, hc49, hr49⟩ := hp1.atC hxa17
        obtain ⟨f49_0, f49_1, q49_2⟩ := fq49
        replace hr49 : f49_0 = a17.1 ∧ f49_1 = a17.2.1 ∧ SlS M 3 xenc24 (hv q49_2) a17.2.2 := hr49
        obtain ⟨rfl, rfl, hs49_2⟩ := hr49
        obtain ⟨b18, hx19, e8⟩ := bnd e8
        refine WA.seq (fuel := 26) [10, 11] rfl (by kernel_rfl) (WR.stepE (v' := .bool false) (Ex.strNeqC rfl rfl) (congrArg Value.bool (by rw [decide_eq_true hk12]; rfl)) (Wn.none rfl) rfl rfl ?_)
        refine MV rfl rfl (NA (WA.take (i := 12) rfl (by kernel_rfl) (by kernel_rfl) (by kernel_rfl) (fun _ => Ex.move rfl) (Wn.some rfl rfl rfl) rfl rfl (fun _ _ => rfl) (WA.take (i := 13) rfl (by kernel_rfl) (by kernel_rfl) (by kernel_rfl) (fun _ => Ex.move rfl) (Wn.some rfl rfl rfl) rfl rfl (fun _ _ => rfl) (WA.take (i := 14) rfl (by kernel_rfl) (by kernel_rfl) (by kernel_rfl) (fun _ => Ex.idxAt ha31 Tryz.underlying22 Tryz.sizeOf34 rfl rfl) (Wn.some rfl rfl rfl) rfl rfl (fun _ _ => rfl) (WA.take (i := 15) rfl (by kernel_rfl) (by kernel_rfl) (by kernel_rfl) (fun _ => Ex.fieldAddr Tryz.underlying34 rfl Tryz.sizeOf4 (by decide) rfl) (Wn.some rfl rfl rfl) rfl rfl (fun _ _ => rfl) (WA.take (i := 17) rfl (by kernel_rfl) (by kernel_rfl) (by kernel_rfl) (fun _ => Ex.move rfl) (Wn.some rfl rfl rfl) rfl rfl (fun _ _ => rfl) (WA.take (i := 18) rfl (by kernel_rfl) (by kernel_rfl) (by kernel_rfl) (fun _ => Ex.move rfl) (Wn.some rfl rfl rfl) rfl rfl (fun _ _ => rfl) ?_)))))))
        refine WA.take (i := 19) rfl (by kernel_rfl) (by kernel_rfl) (by kernel_rfl) (fun _ => Ex.idxAt ha36 Tryz.underlying22 Tryz.sizeOf34 rfl rfl) (Wn.some rfl rfl rfl) rfl rfl (fun _ _ => rfl) (WA.take (i := 20) rfl (by kernel_rfl) (by kernel_rfl) (by kernel_rfl) (fun _ => Ex.fieldAddr Tryz.underlying34 rfl Tryz.sizeOf4 (by decide) rfl) (Wn.some rfl rfl rfl) rfl rfl (fun _ _ => rfl) (WA.takeM (i := 16) [21] rfl (by kernel_rfl) (by kernel_rfl) (by kernel_rfl) (Ex.loadM H rfl (hc31.at (j := 1) rfl) Tryz.isAgg4) (Wn.some rfl rfl rfl) rfl rfl (fun _ _ => rfl) (WA.seq (fuel := 13) [21, 22, 23, 24] rfl (by kernel_rfl) (SG (Ex.loadM H rfl (hc36.at (j := 1) rfl) Tryz.isAgg4) rfl rfl rfl (WR.stepE (v' := .bool false) (Ex.neqBo Tryz.underlying4 rfl rfl) (congrArg Value.bool (by rw [decide_eq_true hk15]; rfl)) (Wn.some rfl rfl rfl) rfl rfl ?_)))))
        refine PF rfl rfl rfl (MV rfl rfl (NA (WA.take (i := 25) rfl (by kernel_rfl) (by kernel_rfl) (by kernel_rfl) (fun _ => Ex.move rfl) (Wn.some rfl rfl rfl) rfl rfl (fun _ _ => rfl) (WA.take (i := 26) rfl (by kernel_rfl) (by kernel_rfl) (by kernel_rfl) (fun _ => Ex.move rfl) (Wn.some rfl rfl rfl) rfl rfl (fun _ _ => rfl) (WA.take (i := 27) rfl (by kernel_rfl) (by kernel_rfl) (by kernel_rfl) (fun _ => Ex.idxAt ha44 Tryz.underlying22 Tryz.sizeOf34 rfl rfl) (Wn.some rfl rfl rfl) rfl rfl (fun _ _ => rfl) (WA.take (i := 28) rfl (by kernel_rfl) (by kernel_rfl) (by kernel_rfl) (fun _ => Ex.fieldAddr Tryz.underlying34 rfl Tryz.sizeOf30 (by decide) rfl) (Wn.some rfl rfl rfl) rfl rfl (fun _ _ => rfl) (WA.take (i := 30) rfl (by kernel_rfl) (by kernel_rfl) (by kernel_rfl) (fun _ => Ex.move rfl) (Wn.some rfl rfl rfl) rfl rfl (fun _ _ => rfl) (WA.take (i := 31) rfl (by kernel_rfl) (by kernel_rfl) (by kernel_rfl) (fun _ => Ex.move rfl) (Wn.some rfl rfl rfl) rfl rfl (fun _ _ => rfl) ?_))))))))
        refine WA.take (i := 32) rfl (by kernel_rfl) (by kernel_rfl) (by kernel_rfl) (fun _ => Ex.idxAt ha49 Tryz.underlying22 Tryz.sizeOf34 rfl rfl) (Wn.some rfl rfl rfl) rfl rfl (fun _ _ => rfl) (WA.take (i := 33) rfl (by kernel_rfl) (by kernel_rfl) (by kernel_rfl) (fun _ => Ex.fieldAddr Tryz.underlying34 rfl Tryz.sizeOf30 (by decide) rfl) (Wn.some rfl rfl rfl) rfl rfl (fun _ _ => rfl) (WA.takeM (i := 29) [34] rfl (by kernel_rfl) (by kernel_rfl) (by kernel_rfl) (Ex.loadM H rfl (hc44.at (j := 2) rfl) Tryz.isAgg30) (Wn.some rfl rfl rfl) rfl rfl (fun _ _ => rfl) (WA.seq (fuel := 0) [34, 35, 36, 37] rfl (by kernel_rfl) (SG (Ex.loadM H rfl (hc49.at (j := 2) rfl) Tryz.isAgg30) rfl rfl rfl (WR.call H (R_SameAddresses_ct hx19) rfl ⟨hs44_2, hs49_2⟩ (Wn.some rfl rfl rfl) rfl ?_)))))
        intro v52 M w H hle hR
        replace hp0 := hp0.mono hle
        replace hp1 := hp1.mono hle
        replace hc19 := hc19.mono hle
        replace hs19_2 := hs19_2.mono hle
        replace hc24 := hc24.mono hle
        replace hs24_2 := hs24_2.mono hle
        replace hc31 := hc31.mono hle
        replace hs31_2 := hs31_2.mono hle
        replace hc36 := hc36.mono hle
        replace hs36_2 := hs36_2.mono hle
        replace hc44 := hc44.mono hle
        replace hs44_2 := hs44_2.mono hle
        replace hc49 := hc49.mono hle
        replace hs49_2 := hs49_2.mono hle
        obtain rfl := hR
        refine SG (Ex.not rfl) rfl rfl rfl (PF rfl rfl rfl (NA (WA.done (by kernel_rfl) ?_)))
        exact WQ.meetN [(0, _), (1, _), (5, _), (54, _)] ⟨rfl, rfl, rfl, rfl, trivial⟩ ⟨_, _, rfl, H, hp0, hp1, e8⟩
       ·
        rw [if_neg hk15] at e8
        refine WA.seq (fuel := 26) [10, 11] rfl (by kernel_rfl) (WR.stepE (v' := .bool false) (Ex.strNeqC rfl rfl) (congrArg Value.bool (by rw [decide_eq_true hk12]; rfl)) (Wn.none rfl) rfl rfl ?_)
        refine MV rfl rfl (NA (WA.take (i := 12) rfl (by kernel_rfl) (by kernel_rfl) (by kernel_rfl) (fun _ => Ex.move rfl) (Wn.some rfl rfl rfl) rfl rfl (fun _ _ => rfl) (WA.take (i := 13) rfl (by kernel_rfl) (by kernel_rfl) (by kernel_rfl) (fun _ => Ex.move rfl) (Wn.some rfl rfl rfl) rfl rfl (fun _ _ => rfl) (WA.take (i := 14) rfl (by kernel_rfl) (by kernel_rfl) (by kernel_rfl) (fun _ => Ex.idxAt ha31 Tryz.underlying22 Tryz.sizeOf34 rfl rfl) (Wn.some rfl rfl rfl) rfl rfl (fun _ _ => rfl) (WA.take (i := 15) rfl (by kernel_rfl) (by kernel_rfl) (by kernel_rfl) (fun _ => Ex.fieldAddr Tryz.underlying34 rfl Tryz.sizeOf4 (by decide) rfl) (Wn.some rfl rfl rfl) rfl rfl (fun _ _ => rfl) (WA.take (i := 17) rfl (by kernel_rfl) (by kernel_rfl) (by kernel_rfl) (fun _ => Ex.move rfl) (Wn.some rfl rfl rfl) rfl rfl (fun _ _ => rfl) (WA.take (i := 18) rfl (by kernel_rfl) (by kernel_rfl) (by kernel_rfl) (fun _ => Ex.move rfl) (Wn.some rfl rfl rfl) rfl rfl (fun _ _ => rfl) ?_)))))))
        refine WA.take (i := 19) rfl (by kernel_rfl) (by kernel_rfl) (by kernel_rfl) (fun _ => Ex.idxAt ha36 Tryz.underlying22 Tryz.sizeOf34 rfl rfl) (Wn.some rfl rfl rfl) rfl rfl (fun _ _ => rfl) (WA.take (i := 20) rfl (by kernel_rfl) (by kernel_rfl) (by kernel_rfl) (fun _ => Ex.fieldAddr Tryz.underlying34 rfl Tryz.sizeOf4 (by decide) rfl) (Wn.some rfl rfl rfl) rfl rfl (fun _ _ => rfl) (WA.takeM (i := 16) [21] rfl (by kernel_rfl) (by kernel_rfl) (by kernel_rfl) (Ex.loadM H rfl (hc31.at (j := 1) rfl) Tryz.isAgg4) (Wn.some rfl rfl rfl) rfl rfl (fun _ _ => rfl) (WA.seq (fuel := 13) [21, 22, 23, 24] rfl (by kernel_rfl) (SG (Ex.loadM H rfl (hc36.at (j := 1) rfl) Tryz.isAgg4) rfl rfl rfl (WR.stepE (v' := .bool true) (Ex.neqBo Tryz.underlying4 rfl rfl) (congrArg Value.bool (by rw [decide_eq_false hk15]; rfl)) (Wn.some rfl rfl rfl) rfl rfl ?_)))))
        refine PF rfl rfl rfl (MV rfl rfl (NA (WA.takes (fuel := 7) [25, 26, 27, 28, 29, 30] rfl (by kernel_rfl) (by kernel_rfl) rfl (WA.seq (fuel := 0) [31, 32, 33, 34, 35, 36, 37] rfl (by kernel_rfl) (WR.skipN 6 rfl rfl (PT rfl rfl rfl (NA (WA.done (by kernel_rfl) ?_))))))))
        exact WQ.meetN [(0, _), (1, _), (5, _), (54, _)] ⟨rfl, rfl, rfl, rfl, trivial⟩ ⟨_, _, rfl, H, hp0, hp1, e8⟩
      ·
       rw [if_neg hk12] at e8
       refine WA.seq (fuel := 26) [10, 11] rfl (by kernel_rfl) (WR.stepE (v' := .bool true) (Ex.strNeqC rfl rfl) (congrArg Value.bool (by rw [decide_eq_false hk12]; rfl)) (Wn.none rfl) rfl rfl ?_)
       refine MV rfl rfl (NA (WA.takes (fuel := 20) [12, 13, 14, 15, 16, 17] rfl (by kernel_rfl) (by kernel_rfl) rfl (WA.seq (fuel := 13) [18, 19, 20, 21, 22, 23, 24] rfl (by kernel_rfl) (WR.skipN 5 rfl rfl (PT rfl rfl rfl (MV rfl rfl (NA (WA.takes (fuel := 7) [25, 26, 27, 28, 29, 30] rfl (by kernel_rfl) (by kernel_rfl) rfl (WA.seq (fuel := 0) [31, 32, 33, 34, 35, 36, 37] rfl (by kernel_rfl) (WR.skipN 6 rfl rfl (PT rfl rfl rfl (NA (WA.done (by kernel_rfl) ?_)))))))))))))
       exact WQ.meetN [(0, _), (1, _), (5, _), (54, _)] ⟨rfl, rfl, rfl, rfl, trivial⟩ ⟨_, _, rfl, H, hp0, hp1, e8⟩
     ·
      rintro e w ⟨b9, M, rfl, H, hp0, hp1, q20⟩
      obtain rfl := oI q20
      refine TN ?_
      refine WC.condB rfl (fun hk21 => ?_) (fun hk21 => ?_)
      ·
       subst hk21
       rw [if_pos rfl] at e3
       refine SQ (RG (AS rfl rfl (NL (TN (RT ?_)))))
       obtain rfl := oI e3
       try dsimp only at h
       obtain rfl := oI h
       exact WQ.ret1 rfl rfl H.ext rfl
      ·
       subst hk21
       rw [if_neg Bool.false_ne_true] at e3
       refine SK (IB (TN ?_))
       obtain ⟨n22, hxn22, e3⟩ := bnd e3
       refine RG (MV rfl rfl (ST (Ex.addC rfl rfl hxn22) rfl (AS rfl rfl (NL ?_))))
       exact WQ.againP m5 [(0, _), (1, _), (5, _)] ⟨rfl, rfl, rfl, trivial⟩ ⟨_, _, rfl, H, hp0, hp1, e3⟩ (Nat.lt_succ_self _)
    ·
     replace hk6 : ¬ (n4 < (p0.length : Int)) := of_decide_eq_false hk6
     rw [if_neg hk6] at e3
     refine WC.exit (WQ.thenExit (WQ.thenExit (WQ.exitHere ?_)))
     exact WQ.meetN [] trivial ⟨_, rfl, H, e3⟩
   ·
    rintro e w ⟨M, rfl, H, q23⟩
    obtain rfl := oI q23
    try dsimp only at h
    refine TN (SQ (RG (AS rfl rfl (NL (TN (RT ?_))))))
    obtain rfl := oI h
    exact WQ.ret1 rfl rfl H.ext rfl
theorem L_AddressNormalMatchesSpec_ct {p0 : (List UInt8 × List UInt8 × List UInt8)} {r : Bool} (h : L_AddressNormalMatchesSpec p0 = some r) : Ct Tryz.prog 6 [Value.agg #[S p0.1, S p0.2.1, S p0.2.2]] (fun M => GlF (fun w => ∃ m, w.cell? ⟨2, 0, none⟩ = some (.int .i64 m)) M ∧ Tabs M) (fun v M => v = Value.bool r) := by
  refine Ct.of Tryz.func6 (enters Tryz.func6 (by kernel_rfl) rfl) rfl rfl rfl ?_
  intro w0 M0 H hp
  obtain ⟨hg_maxl, hg_tabs⟩ := hp
  unfold L_AddressNormalMatchesSpec at h
  refine SQ (RG (WR.box [_, _, _] H rfl rfl (Wn.none rfl) rfl ?_))
  intro bk1 w H
  refine AS rfl rfl (NL (TN (SQ (SQ ?_))))
  obtain ⟨b1, hx2, h⟩ := bnd h
  refine RG (WR.call H (L_addressExample_ct hx2) rfl ⟨hg_maxl, hg_tabs⟩ (Wn.none rfl) rfl ?_)
  intro v9 M w H hle hR
  replace hg_maxl := hg_maxl.mono hle
  replace hg_tabs := hg_tabs.mono hle
  obtain rfl := hR
  refine ST (Ex.not rfl) rfl (NL (TN ?_))
  refine WC.condB rfl (fun hk3 => ?_) (fun hk3 => ?_)
  ·
   replace hk3 : b1 = false := by simpa using hk3
   subst hk3
   rw [if_neg Bool.false_ne_true] at h
   refine SQ (RG (AS rfl rfl (NL (TN (RT ?_)))))
   obtain rfl := oI h
   exact WQ.ret1 rfl rfl H.ext rfl
  ·
   replace hk3 : b1 = true := by simpa using hk3
   subst hk3
   rw [if_pos rfl] at h
   refine SK (TN (SQ ?_))
   obtain ⟨⟨s4, ⟨n5, n6⟩⟩, hx7, h⟩ := bnd h
   try dsimp only at h
   refine RG (ST (Ex.loadAgg H rfl (by repeat first | exact kMh | apply kMt) Tryz.isAgg24 Tryz.sizeOf24 (by rfl)) rfl ?_)
   refine WR.call H (address_Normal_ct hx7) rfl ⟨hg_maxl, hg_tabs⟩ (Wn.none rfl) rfl ?_
   intro v13 M w H hle hR
   replace hg_maxl := hg_maxl.mono hle
   replace hg_tabs := hg_tabs.mono hle
   try dsimp only at hR
   obtain rfl := hR
   refine MV rfl rfl (ST (Ex.extract rfl rfl) rfl (ST (Ex.extract rfl rfl) rfl (WR.alloc [_, _] H Tryz.zeroValue27 rfl (Wn.none rfl) rfl ?_)))
   intro bk4 w H
   refine AS rfl rfl (WR.store [_, _] H rfl rfl rfl (by repeat first | exact .head | apply Upd.tail) Tryz.sizeOf27 rfl (by rfl) (by rfl) (Wn.none rfl) ?_)
   intro w H
   refine NL (TN (SQ (SQ ?_)))
   obtain ⟨⟨n8, n9⟩, hx10, h⟩ := bnd h
   try dsimp only at h
   refine RG (ST (Ex.loadAgg H rfl (by repeat first | exact kMh | apply kMt) Tryz.isAgg24 Tryz.sizeOf24 (by rfl)) rfl ?_)
   refine WR.call H (R_AddressFault_ct hx10) rfl trivial (Wn.none rfl) rfl ?_
   intro v17 M w H hle hR
   replace hg_maxl := hg_maxl.mono hle
   replace hg_tabs := hg_tabs.mono hle
   try dsimp only at hR
   obtain rfl := hR
   refine WR.alloc [_, _] H Tryz.zeroValue27 rfl (Wn.none rfl) rfl ?_
   intro bk5 w H
   refine WR.store [_, _] H rfl rfl rfl (by repeat first | exact .head | apply Upd.tail) Tryz.sizeOf27 rfl (by rfl) (by rfl) (Wn.none rfl) ?_
   intro w H
   refine NL (TN (SQ (RG (ST (Ex.fieldAddr Tryz.underlying27 rfl Tryz.sizeOf3 (by decide) rfl) rfl (ST (Ex.load1 H rfl (by repeat first | exact kMh | apply kMt) Tryz.isAgg3 (by rfl)) rfl ?_)))))
   refine ST (Ex.neqC rfl rfl) rfl (NL (TN ?_))
   refine WC.condB rfl (fun hk11 => ?_) (fun hk11 => ?_)
   ·
    replace hk11 : ¬ (n8 = (0 : Int)) := of_not_decide hk11
    rw [if_neg hk11] at h
    refine SQ ?_
    obtain ⟨o12, e13, h⟩ := bnd h
    refine WC.cutX (fun e w => ∃ (b14 : Bool) (M : Mem), e = [(2, Value.bool b14)] ∧ St w0 M0 M [] w ∧ GlF (fun w => ∃ m, w.cell? ⟨2, 0, none⟩ = some (.int .i64 m)) M ∧ Tabs M ∧ some b14 = some o12) [] ?_ ?_ (trivial)
    ·
     refine RG (ST (Ex.loadAgg H rfl (by repeat first | exact kMh | apply kMt) Tryz.isAgg27 Tryz.sizeOf27 (by rfl)) rfl ?_)
     refine ST (Ex.loadAgg H rfl (by repeat first | exact kMh | apply kMt) Tryz.isAgg27 Tryz.sizeOf27 (by rfl)) rfl ?_
     by_cases hk15 : n5 = n8 ∧ n6 = n9
     ·
      rw [if_pos hk15] at e13
      refine WR.stepE (v' := .bool true) (Ex.eqlAgg rfl rfl (by kernel_rfl) (xeq27 n5 n8 n6 n9)) (congrArg Value.bool (decide_eq_true hk15)) (Wn.none rfl) rfl rfl (MV rfl rfl (SG (Ex.move rfl) rfl rfl rfl (SG (Ex.strEql rfl rfl) rfl rfl rfl (PT rfl rfl rfl (AS rfl rfl (NL ?_))))))
      exact WQ.meetN [(2, _)] ⟨rfl, trivial⟩ ⟨_, _, rfl, (H.pick (L' := []) (by repeat first | exact kPn | refine kPc (by repeat first | exact .head | apply Rem.tail) ?_)), hg_maxl, hg_tabs, e13⟩
     ·
      rw [if_neg hk15] at e13
      refine WR.stepE (v' := .bool false) (Ex.eqlAgg rfl rfl (by kernel_rfl) (xeq27 n5 n8 n6 n9)) (congrArg Value.bool (decide_eq_false hk15)) (Wn.none rfl) rfl rfl (MV rfl rfl (GF rfl rfl rfl (GF rfl rfl rfl (PF rfl rfl rfl (AS rfl rfl (NL ?_))))))
      exact WQ.meetN [(2, _)] ⟨rfl, trivial⟩ ⟨_, _, rfl, (H.pick (L' := []) (by repeat first | exact kPn | refine kPc (by repeat first | exact .head | apply Rem.tail) ?_)), hg_maxl, hg_tabs, e13⟩
    ·
     rintro e w ⟨b14, M, rfl, H, hg_maxl, hg_tabs, q16⟩
     obtain rfl := oI q16
     refine TN (RT ?_)
     obtain rfl := oI h
     exact WQ.ret1 rfl rfl H.ext rfl
   ·
    replace hk11 : n8 = (0 : Int) := of_not_decide' hk11
    rw [if_pos hk11] at h
    refine SK (TN (SQ (RG (ST (Ex.loadAgg H rfl (by repeat first | exact kMh | apply kMt) Tryz.isAgg24 Tryz.sizeOf24 (by rfl)) rfl ?_))))
    refine WR.alloc [_, _, _] H Tryz.zeroValue24 rfl (Wn.none rfl) rfl ?_
    intro bk6 w H
    refine WR.store [_, _, _] H rfl rfl rfl (by repeat first | exact .head | apply Upd.tail) Tryz.sizeOf24 rfl (by rfl) (by rfl) (Wn.none rfl) ?_
    intro w H
    refine NL (TN (SQ ?_))
    obtain ⟨s17, hx18, h⟩ := bnd h
    refine RG (ST (Ex.fieldAddr Tryz.underlying24 rfl Tryz.sizeOf9 (by decide) rfl) rfl (ST (Ex.load1 H rfl (by repeat first | exact kMh | apply kMt) Tryz.isAgg9 (by rfl)) rfl ?_))
    refine WR.call H (R_Lower_ct hx18) rfl trivial (Wn.none rfl) rfl ?_
    intro v31 M w H hle hR
    replace hg_maxl := hg_maxl.mono hle
    replace hg_tabs := hg_tabs.mono hle
    obtain rfl := hR
    refine ST (Ex.fieldAddr Tryz.underlying24 rfl Tryz.sizeOf9 (by decide) rfl) rfl (WR.store1 [_, _, _] H rfl rfl (by repeat first | exact .head | apply Upd.tail) (by rfl) Tryz.sizeOf9 (by first | decide | (simp; done) | (simp; omega)) (by rfl) (by rfl) (Wn.none rfl) ?_)
    intro w H
    refine NL (TN (SQ (RG (ST (Ex.fieldAddr Tryz.underlying24 rfl Tryz.sizeOf9 (by decide) rfl) rfl (WR.store1 [_, _, _] H rfl rfl (by repeat first | exact .head | apply Upd.tail) (by rfl) Tryz.sizeOf9 (by first | decide | (simp; done) | (simp; omega)) (by rfl) (by rfl) (Wn.none rfl) ?_)))))
    intro w H
    refine NL (TN (SQ ?_))
    obtain ⟨⟨l19, ⟨n20, n21⟩⟩, hx22, h⟩ := bnd h
    try dsimp only at h
    refine RG (MV rfl rfl (WR.call H (address_Parse_ct hx22) rfl ⟨hg_maxl, hg_tabs⟩ (Wn.none rfl) rfl ?_))
    intro v36 M w H hle hR
    replace hg_maxl := hg_maxl.mono hle
    replace hg_tabs := hg_tabs.mono hle
    try dsimp only at hR
    obtain ⟨x36_0, rfl, f36_0⟩ := hR
    refine MV rfl rfl (ST (Ex.extract rfl rfl) rfl (ST (Ex.extract rfl rfl) rfl (WR.alloc [_, _] H Tryz.zeroValue27 rfl (Wn.none rfl) rfl ?_)))
    intro bk8 w H
    refine AS rfl rfl (WR.store [_, _] H rfl rfl rfl (by repeat first | exact .head | apply Upd.tail) Tryz.sizeOf27 rfl (by rfl) (by rfl) (Wn.none rfl) ?_)
    intro w H
    refine NL (TN (SQ ?_))
    obtain ⟨o23, e24, h⟩ := bnd h
    refine WC.cutX (fun e w => ∃ (b25 : Bool) (M : Mem), e = [(2, Value.bool b25)] ∧ St w0 M0 M [] w ∧ GlF (fun w => ∃ m, w.cell? ⟨2, 0, none⟩ = some (.int .i64 m)) M ∧ Tabs M ∧ some b25 = some o23) [] ?_ ?_ (trivial)
    ·
     refine RG (ST (Ex.fieldAddr Tryz.underlying27 rfl Tryz.sizeOf3 (by decide) rfl) rfl (ST (Ex.load1 H rfl (by repeat first | exact kMh | apply kMt) Tryz.isAgg3 (by rfl)) rfl ?_))
     by_cases hk26 : n5 = (0 : Int)
     ·
      rw [if_pos hk26] at e24
      obtain ⟨s27, hx28, e24⟩ := bnd e24
      by_cases hk29 : s4 = s27
      ·
       rw [if_pos hk29] at e24
       by_cases hk30 : n20 = (0 : Int)
       ·
        rw [if_pos hk30] at e24
        obtain ⟨b32, hx33, e24⟩ := bnd e24
        refine WR.stepE (v' := .bool true) (Ex.eql rfl rfl) (congrArg Value.bool (decide_eq_true hk26)) (Wn.none rfl) rfl rfl (MV rfl rfl (SG (Ex.move rfl) rfl rfl rfl (SG (Ex.loadAgg H rfl (by repeat first | exact kMh | apply kMt) Tryz.isAgg24 Tryz.sizeOf24 (by rfl)) rfl rfl rfl ?_)))
        refine WR.call H (R_SpecOf_ct hx28) rfl trivial (Wn.some rfl rfl rfl) rfl ?_
        intro v45 M w H hle hR
        replace hg_maxl := hg_maxl.mono hle
        replace hg_tabs := hg_tabs.mono hle
        replace f36_0 := f36_0.mono hle
        obtain rfl := hR
        refine WR.stepE (v' := .bool true) (Ex.strEql rfl rfl) (congrArg Value.bool (decide_eq_true hk29)) (Wn.some rfl rfl rfl) rfl rfl (PT rfl rfl rfl (MV rfl rfl (SG (Ex.fieldAddr Tryz.underlying27 rfl Tryz.sizeOf3 (by decide) rfl) rfl rfl rfl (SG (Ex.load1 H rfl (by repeat first | exact kMh | apply kMt) Tryz.isAgg3 (by rfl)) rfl rfl rfl ?_))))
        refine WR.stepE (v' := .bool true) (Ex.eql rfl rfl) (congrArg Value.bool (decide_eq_true hk30)) (Wn.some rfl rfl rfl) rfl rfl (PT rfl rfl rfl (MV rfl rfl (SG (Ex.move rfl) rfl rfl rfl (SG (Ex.loadAgg H rfl (by repeat first | exact kMh | apply kMt) Tryz.isAgg24 Tryz.sizeOf24 (by rfl)) rfl rfl rfl ?_))))
        refine WR.litS (enc := xenc24) xty30 ([([], p0.2.1, s17)] : List (List UInt8 × List UInt8 × List UInt8)) H (fun _ => rfl) rfl (by kernel_rfl) rfl rfl rfl (Wn.some rfl rfl rfl) rfl ?_
        intro v56 M w H hle hs56
        replace hg_maxl := hg_maxl.mono hle
        replace hg_tabs := hg_tabs.mono hle
        replace f36_0 := f36_0.mono hle
        refine SG (Ex.build [S [], Value.bool false, v56] Tryz.underlying34 Tryz.zeroValue34 (xplaces34 Tryz.underlying34) rfl (by obtain ⟨_, _, _, hv, -⟩ := hs56; rw [hv]; clear hv; rfl)) rfl rfl rfl ?_
        obtain ⟨q31, rfl⟩ := hs56.hd
        refine WR.litS (enc := xrl34.enc) xty22 ([([], false, q31)] : List (List UInt8 × Bool × Hd)) H (fun _ => rfl) rfl (by kernel_rfl) rfl rfl rfl (Wn.some rfl rfl rfl) rfl ?_
        intro v58 M w H hle hs58
        replace hg_maxl := hg_maxl.mono hle
        replace hg_tabs := hg_tabs.mono hle
        replace f36_0 := f36_0.mono hle
        replace hs56 := hs56.mono hle
        replace hs58 := SlR.of (R := xrl34) (l := ([([], false, ([([], p0.2.1, s17)] : List (List UInt8 × List UInt8 × List UInt8)))] : List (List UInt8 × Bool × List (List UInt8 × List UInt8 × List UInt8)))) hs58 ⟨⟨rfl, rfl, hs56⟩, trivial⟩
        refine WR.call H (R_SameItems_ct hx33) rfl ⟨f36_0, hs58⟩ (Wn.some rfl rfl rfl) rfl ?_
        intro v59 M w H hle hR
        replace hg_maxl := hg_maxl.mono hle
        replace hg_tabs := hg_tabs.mono hle
        replace f36_0 := f36_0.mono hle
        replace hs56 := hs56.mono hle
        replace hs58 := hs58.mono hle
        obtain rfl := hR
        refine PT rfl rfl rfl (AS rfl rfl (NL ?_))
        exact WQ.meetN [(2, _)] ⟨rfl, trivial⟩ ⟨_, _, rfl, (H.pick (L' := []) (by repeat first | exact kPn | refine kPc (by repeat first | exact .head | apply Rem.tail) ?_)), hg_maxl, hg_tabs, e24⟩
       ·
        rw [if_neg hk30] at e24
        refine WR.stepE (v' := .bool true) (Ex.eql rfl rfl) (congrArg Value.bool (decide_eq_true hk26)) (Wn.none rfl) rfl rfl (MV rfl rfl (SG (Ex.move rfl) rfl rfl rfl (SG (Ex.loadAgg H rfl (by repeat first | exact kMh | apply kMt) Tryz.isAgg24 Tryz.sizeOf24 (by rfl)) rfl rfl rfl ?_)))
        refine WR.call H (R_SpecOf_ct hx28) rfl trivial (Wn.some rfl rfl rfl) rfl ?_
        intro v45 M w H hle hR
        replace hg_maxl := hg_maxl.mono hle
        replace hg_tabs := hg_tabs.mono hle
        replace f36_0 := f36_0.mono hle
        obtain rfl := hR
        refine WR.stepE (v' := .bool true) (Ex.strEql rfl rfl) (congrArg Value.bool (decide_eq_true hk29)) (Wn.some rfl rfl rfl) rfl rfl (PT rfl rfl rfl (MV rfl rfl (SG (Ex.fieldAddr Tryz.underlying27 rfl Tryz.sizeOf3 (by decide) rfl) rfl rfl rfl (SG (Ex.load1 H rfl (by repeat first | exact kMh | apply kMt) Tryz.isAgg3 (by rfl)) rfl rfl rfl ?_))))
        refine WR.stepE (v' := .bool false) (Ex.eql rfl rfl) (congrArg Value.bool (decide_eq_false hk30)) (Wn.some rfl rfl rfl) rfl rfl (PT rfl rfl rfl (MV rfl rfl (WR.skipN 6 rfl rfl (PF rfl rfl rfl (AS rfl rfl (NL ?_))))))
        exact WQ.meetN [(2, _)] ⟨rfl, trivial⟩ ⟨_, _, rfl, (H.pick (L' := []) (by repeat first | exact kPn | refine kPc (by repeat first | exact .head | apply Rem.tail) ?_)), hg_maxl, hg_tabs, e24⟩
      ·
       rw [if_neg hk29] at e24
       refine WR.stepE (v' := .bool true) (Ex.eql rfl rfl) (congrArg Value.bool (decide_eq_true hk26)) (Wn.none rfl) rfl rfl (MV rfl rfl (SG (Ex.move rfl) rfl rfl rfl (SG (Ex.loadAgg H rfl (by repeat first | exact kMh | apply kMt) Tryz.isAgg24 Tryz.sizeOf24 (by rfl)) rfl rfl rfl ?_)))
       refine WR.call H (R_SpecOf_ct hx28) rfl trivial (Wn.some rfl rfl rfl) rfl ?_
       intro v45 M w H hle hR
       replace hg_maxl := hg_maxl.mono hle
       replace hg_tabs := hg_tabs.mono hle
       replace f36_0 := f36_0.mono hle
       obtain rfl := hR
       refine WR.stepE (v' := .bool false) (Ex.strEql rfl rfl) (congrArg Value.bool (decide_eq_false hk29)) (Wn.some rfl rfl rfl) rfl rfl (PT rfl rfl rfl (MV rfl rfl (WR.skipN 3 rfl rfl (PF rfl rfl rfl (MV rfl rfl (WR.skipN 6 rfl rfl (PF rfl rfl rfl (AS rfl rfl (NL ?_)))))))))
       exact WQ.meetN [(2, _)] ⟨rfl, trivial⟩ ⟨_, _, rfl, (H.pick (L' := []) (by repeat first | exact kPn | refine kPc (by repeat first | exact .head | apply Rem.tail) ?_)), hg_maxl, hg_tabs, e24⟩
     ·
      rw [if_neg hk26] at e24
      refine WR.stepE (v' := .bool false) (Ex.eql rfl rfl) (congrArg Value.bool (decide_eq_false hk26)) (Wn.none rfl) rfl rfl (MV rfl rfl (WR.skipN 4 rfl rfl (PF rfl rfl rfl (MV rfl rfl (WR.skipN 3 rfl rfl (PF rfl rfl rfl (MV rfl rfl (WR.skipN 6 rfl rfl (PF rfl rfl rfl (AS rfl rfl (NL ?_)))))))))))
      exact WQ.meetN [(2, _)] ⟨rfl, trivial⟩ ⟨_, _, rfl, (H.pick (L' := []) (by repeat first | exact kPn | refine kPc (by repeat first | exact .head | apply Rem.tail) ?_)), hg_maxl, hg_tabs, e24⟩
    ·
     rintro e w ⟨b25, M, rfl, H, hg_maxl, hg_tabs, q34⟩
     obtain rfl := oI q34
     refine TN (RT ?_)
     obtain rfl := oI h
     exact WQ.ret1 rfl rfl H.ext rfl
end Go.Proofs.YtkmjdamkifbddaaGreatDoor
end
section
namespace Go.Ph.Ad
open Go.Ph.Pl Go.Ph.Pf
open Go.Ph.Chs (vld lower)
abbrev Big (l : List UInt8) : Prop := l.length ≤ 140737488355328
abbrev Adr : Type := List UInt8 × List UInt8 × List UInt8
abbrev Itm : Type := List UInt8 × Bool × List Adr
theorem foldI {α σ γ : Type} {L : Nat → σ → Int → Option γ} (l : List α) (F : σ → α → σ) (fin : σ → γ) (I : Nat → σ → Prop)
    (hend : ∀ m s, I l.length s → L (m + 1) s (l.length : Int) = some (fin s))
    (hstep : ∀ m s i a, l[i]? = some a → I i s → I (i + 1) (F s a) ∧ L (m + 1) s (i : Int) = L m (F s a) ((i + 1 : Nat) : Int)) :
    ∀ (d i : Nat) (s : σ) (m : Nat), l.length - i = d → i ≤ l.length → d < m → I i s → L m s (i : Int) = some (fin ((l.drop i).foldl F s)) := by
  intro d
  induction d with
  | zero =>
    intro i s m h1 h2 h3 hI
    obtain ⟨m, rfl⟩ : ∃ k, m = k + 1 := ⟨m - 1, by omega⟩
    obtain rfl : i = l.length := by omega
    rw [hend m s hI, List.drop_length]; rfl
  | succ d ih =>
    intro i s m h1 h2 h3 hI
    obtain ⟨m, rfl⟩ : ∃ k, m = k + 1 := ⟨m - 1, by omega⟩
    have hi : i < l.length := by omega
    obtain ⟨hI', hL⟩ := hstep m s i l[i] (List.getElem?_eq_getElem hi) hI
    rw [hL, ih (i + 1) _ m (by omega) (by omega) (by omega) hI', List.drop_eq_getElem_cons hi]; rfl
theorem foldI0 {α σ γ : Type} {L : Nat → σ → Int → Option γ} (l : List α) (F : σ → α → σ) (fin : σ → γ) (I : Nat → σ → Prop) (hl : l.length ≤ 9223372036854775807)
    (hend : ∀ m s, I l.length s → L (m + 1) s (l.length : Int) = some (fin s))
    (hstep : ∀ m s i a, l[i]? = some a → I i s → I (i + 1) (F s a) ∧ L (m + 1) s (i : Int) = L m (F s a) ((i + 1 : Nat) : Int)) (s : σ) (h0 : I 0 s) : L FU s 0 = some (fin (l.foldl F s)) := by
  have := foldI l F fin I hend hstep l.length 0 s FU (by omega) (by omega) (FU_gt hl) h0
  simpa using this
theorem allB {p : UInt8 → Prop} (h : ∀ n, n < 256 → p (UInt8.ofNat n)) (c : UInt8) : p c := by
  have := h c.toNat c.toNat_lt
  rwa [UInt8.ofNat_toNat] at this
theorem failed_eq (a b : Int) : basic_Failed (a, b) = some (!decide (a = 0)) := rfl
theorem fault_eq (a b : Int) : basic_Fault a b = some (a, b) := by unfold basic_Fault; rfl
theorem none_eq : basic_None = some (0, 0) := rfl
theorem at_eq (a b : Int) : R_At a b = some (a, b) := rfl
theorem rin_eq (a b c : Int) : R_In a b c = some (decide (b ≤ a ∧ a ≤ c)) := by
  unfold R_In
  by_cases h : b ≤ a <;> simp [h]
def letB (c : UInt8) : Bool := decide (97 ≤ c.toNat ∧ c.toNat ≤ 122) || (decide (65 ≤ c.toNat ∧ c.toNat ≤ 90) || decide (48 ≤ c.toNat ∧ c.toNat ≤ 57))
def atB (c : UInt8) : Bool := letB c || ([33, 35, 36, 37, 38, 39, 42, 43, 45, 47, 61, 63, 94, 95, 96, 123, 124, 125, 126] : List UInt8).any (fun x => decide (x = c))
def doB (c : UInt8) : Bool := letB c || decide (c = 45)
def prB (c : UInt8) : Bool := decide (32 ≤ c.toNat ∧ c.toNat ≤ 126)
theorem rletter_eq (c : UInt8) : R_letter c = some (letB c) := by
  refine allB (p := fun c => R_letter c = some (letB c)) ?_ c
  decide +kernel
theorem atom_eq (c : UInt8) : address_atom c = some (atB c) := by
  refine allB (p := fun c => address_atom c = some (atB c)) ?_ c
  decide +kernel
theorem ratom_eq (c : UInt8) : R_AtomByte c = some (atB c) := by
  refine allB (p := fun c => R_AtomByte c = some (atB c)) ?_ c
  decide +kernel
theorem domB_eq (c : UInt8) : address_domain_1 c = some (doB c) := by
  refine allB (p := fun c => address_domain_1 c = some (doB c)) ?_ c
  decide +kernel
theorem locB_eq (c : UInt8) : address_local_1 c = some (prB c) := by
  refine allB (p := fun c => address_local_1 c = some (prB c)) ?_ c
  decide +kernel
theorem atB_doB (c : UInt8) : (atB c && (letB c || decide (c = 45))) = doB c := by
  refine allB (p := fun c => (atB c && (letB c || decide (c = 45))) = doB c) ?_ c
  decide +kernel
theorem all_eq (l : List UInt8) (hl : Big l) (g : UInt8 → Option Bool) (p : UInt8 → Bool) (hg : ∀ c, g c = some (p c)) : basic_All l g = some (l.all p) := by
  unfold basic_All
  rw [scan0 (L := basic_All_L1 l g) (l := l) (p := fun c => !p c) (stop := .inl ()) (r := .inr false) (FU_gt (by omega)) (fun m => by rw [basic_All_L1, if_neg (by omega)]) (fun m i h => by
    rw [basic_All_L1, if_pos (by omega), idx_nat, List.getElem?_eq_getElem h, chk_succ (by have := hl; omega)]
    simp only [bsome, hg]
    cases p l[i] <;> simp)]
  simp only [bsome]
  rw [List.all_eq_not_any_not]
  cases l.any (fun c => !p c) <;> simp
def locT (l : List UInt8) : Bool := l.all prB && decide (1 ≤ l.length ∧ l.length ≤ 60)
theorem local_eq (l : List UInt8) (hl : Big l) : address_local l = some (locT l) := by
  unfold address_local locT
  by_cases h : l = []
  · subst h; rfl
  · have hpos : 1 ≤ l.length := by cases l <;> simp_all
    rw [if_neg h]
    by_cases h2 : l.length ≤ 60
    · rw [if_pos (by omega), all_eq l hl _ prB locB_eq]
      simp [hpos, h2]
    · rw [if_neg (by omega)]
      simp [h2]
theorem rlocal_eq (l : List UInt8) (hl : Big l) : R_LocalPart l = some (locT l) := by
  unfold R_LocalPart locT
  rw [scan0 (L := R_LocalPart_L1 l) (l := l) (p := fun c => !prB c) (stop := .inl ()) (r := .inr false) (FU_gt (by omega)) (fun m => by rw [R_LocalPart_L1, if_neg (by omega)]) (fun m i h => by
    rw [R_LocalPart_L1, if_pos (by omega), idx_nat, List.getElem?_eq_getElem h, chk_succ (by have := hl; omega)]
    simp only [bsome, rin_eq]
    have hp : decide ((32 : Int) ≤ (l[i].toNat : Int) ∧ (l[i].toNat : Int) ≤ 126) = prB l[i] := by
      unfold prB
      exact decide_eq_decide.2 ⟨fun h => by omega, fun h => by omega⟩
    rw [hp]
    cases prB l[i] <;> simp)]
  simp only [bsome]
  rw [List.all_eq_not_any_not]
  cases l.any (fun c => !prB c)
  · simp only [rin_eq, bsome, Bool.false_eq_true, if_false, Bool.not_false, Bool.true_and]
    exact congrArg some (decide_eq_decide.2 ⟨fun h => by omega, fun h => by omega⟩)
  · simp
def dispF (l : List UInt8) : Int := if 500 < l.length then 1 else if vld l = true then 0 else 5
theorem disp_eq (l : List UInt8) : address_display l = some (dispF l) := by
  unfold address_display dispF utf8_ValidString
  by_cases h : 500 < l.length
  · rw [if_pos (by omega), if_pos h]
  · rw [if_neg (by omega), if_neg h, if_pos (by omega)]
    simp only [bsome]
    cases vld l <;> rfl
theorem rdisp_eq (l : List UInt8) : R_displayCode l = some (dispF l) := by
  unfold R_displayCode dispF R_Valid
  by_cases h : 500 < l.length
  · rw [if_pos (by omega), if_pos h]
  · rw [if_neg (by omega), if_neg h, if_pos (by omega)]
    simp only [bsome]
    cases vld l <;> rfl
def nc (c x : UInt8) : Bool := !decide (x = c)
theorem index_c (c : UInt8) : ∀ (l : List UInt8), Lib.index l [c] = if c ∈ l then ((l.takeWhile (nc c)).length : Int) else -1
  | [] => rfl
  | x :: l => by
    rw [Lib.index]
    by_cases h : x = c
    · subst h
      rw [if_pos (by simp [List.isPrefixOf]), if_pos (by simp), List.takeWhile_cons_of_neg (by simp [nc])]; rfl
    · have hn : nc c x = true := by unfold nc; rw [decide_eq_false h]; rfl
      have h' : ¬ c = x := fun e => h e.symm
      rw [if_neg (by simp [List.isPrefixOf, h']), index_c c l, List.takeWhile_cons_of_pos hn]
      by_cases hm : c ∈ l
      · rw [if_pos hm, if_neg (by first | (simp; done) | (simp; omega)), if_pos (by simp [hm]), List.length_cons]; omega
      · rw [if_neg hm, if_pos (by decide), if_neg (by simp [hm, h'])]
def spl (c : UInt8) : List UInt8 → List (List UInt8)
  | [] => [[]]
  | x :: l => if x = c then [] :: spl c l else match spl c l with
    | p :: r => (x :: p) :: r
    | [] => [[x]]
theorem spl_ne (c : UInt8) (l : List UInt8) : spl c l ≠ [] := by
  cases l with
  | nil => simp [spl]
  | cons x l =>
    rw [spl]
    split
    · simp
    · split <;> simp
theorem spl_not {c : UInt8} : ∀ {l : List UInt8}, c ∉ l → spl c l = [l]
  | [], _ => rfl
  | x :: l, h => by
    rw [spl, if_neg (fun e => h (by simp [e])), spl_not (fun e => h (by simp [e]))]
theorem spl_mem {c : UInt8} : ∀ {l : List UInt8}, c ∈ l → spl c l = l.takeWhile (nc c) :: spl c (l.drop ((l.takeWhile (nc c)).length + 1))
  | [], h => by simp at h
  | x :: l, h => by
    by_cases hx : x = c
    · subst hx
      rw [spl, if_pos rfl, List.takeWhile_cons_of_neg (by simp [nc])]; rfl
    · have hn : nc c x = true := by unfold nc; rw [decide_eq_false hx]; rfl
      have hl : c ∈ l := by rcases List.mem_cons.1 h with e | e; exact absurd e.symm hx; exact e
      rw [spl, if_neg hx, spl_mem hl, List.takeWhile_cons_of_pos hn]
      simp
theorem tw_lt {c : UInt8} : ∀ {l : List UInt8}, c ∈ l → (l.takeWhile (nc c)).length < l.length
  | [], h => by simp at h
  | x :: l, h => by
    by_cases hx : x = c
    · subst hx
      rw [List.takeWhile_cons_of_neg (by simp [nc])]; simp
    · have hn : nc c x = true := by unfold nc; rw [decide_eq_false hx]; rfl
      have hl : c ∈ l := by rcases List.mem_cons.1 h with e | e; exact absurd e.symm hx; exact e
      rw [List.takeWhile_cons_of_pos hn]
      have := tw_lt hl
      simp; omega
theorem take_tw (c : UInt8) : ∀ (l : List UInt8), l.take (l.takeWhile (nc c)).length = l.takeWhile (nc c)
  | [] => rfl
  | x :: l => by
    by_cases hn : nc c x = true
    · rw [List.takeWhile_cons_of_pos hn, List.length_cons, List.take_succ_cons, take_tw c l]
    · rw [List.takeWhile_cons_of_neg hn]; rfl
theorem split_L2 {σ : Type} (Y : σ → List UInt8 → Option (σ × Bool)) (c : UInt8) : ∀ (n : Nat) (s : List UInt8) (st : σ) (m : Nat), s.length ≤ n → n < m → s.length < 4294967281 →
    ((strings_splitSeq_1_L2 Y [c] 0 m s st).bind fun o => (match o with | .inl (s24, s25) => (Y s25 s24).bind fun (s41, b42) => some s41 | .inr r44 => some r44)) = runL Y (spl c s) st := by
  intro n
  induction n with
  | zero =>
    intro s st m h1 h2 h3
    obtain ⟨m, rfl⟩ : ∃ k, m = k + 1 := ⟨m - 1, by omega⟩
    obtain rfl : s = [] := List.eq_nil_of_length_eq_zero (by omega)
    rw [strings_splitSeq_1_L2]
    unfold strings_Index
    have hi : Lib.index ([] : List UInt8) [c] = -1 := by rw [index_c, if_neg (by simp)]
    rw [if_pos (by decide), bsome, hi, if_pos (by decide), bsome, spl, runL]
    dsimp only
    cases Y st [] with
    | none => rfl
    | some r => obtain ⟨a, b⟩ := r; cases b <;> rfl
  | succ n ih =>
    intro s st m h1 h2 h3
    obtain ⟨m, rfl⟩ : ∃ k, m = k + 1 := ⟨m - 1, by omega⟩
    rw [strings_splitSeq_1_L2]
    unfold strings_Index
    rw [if_pos h3, bsome, index_c]
    by_cases hm : c ∈ s
    · have hlt := tw_lt hm
      rw [if_pos hm, if_neg (by omega), show ((s.takeWhile (nc c)).length : Int) + 0 = (((s.takeWhile (nc c)).length : Nat) : Int) by omega, chk_ok (by omega) (by omega), bsome, cut_to rfl (by omega), bsome, take_tw, spl_mem hm, runL]
      cases hy : Y st (s.takeWhile (nc c)) with
      | none => rfl
      | some r =>
        obtain ⟨a, b⟩ := r
        rw [bsome, bsome]
        dsimp only
        cases b with
        | false => rfl
        | true =>
          rw [if_pos rfl, if_pos rfl, show (([c] : List UInt8).length : Int) = ((1 : Nat) : Int) from rfl, chk_addN 1 (by omega), bsome, cut_from rfl (by omega), bsome]
          exact ih _ a m (by rw [List.length_drop]; omega) (by omega) (by rw [List.length_drop]; omega)
    · rw [if_neg hm, if_pos (by decide), bsome, spl_not hm, runL]
      dsimp only
      cases Y st s with
      | none => rfl
      | some r => obtain ⟨a, b⟩ := r; cases b <;> rfl
theorem splitSeq_eq {σ : Type} (Y : σ → List UInt8 → Option (σ × Bool)) (c : UInt8) (s : List UInt8) (st : σ) (hs : s.length < 4294967281) : strings_splitSeq_1 [c] s 0 σ Y st = runL Y (spl c s) st := by
  unfold strings_splitSeq_1
  rw [if_neg (by simp)]
  exact split_L2 Y c s.length s st FU (Nat.le_refl _) (FU_gt (by omega)) hs
def good (p : UInt8 → Bool) (x : List UInt8) : Bool := !decide (x = []) && x.all p
theorem parts_run (g : UInt8 → Option Bool) (p : UInt8 → Bool) (hg : ∀ c, g c = some (p c)) : ∀ (l : List (List UInt8)), (∀ x ∈ l, Big x) → runL (stepY exStop (address_parts_Y2 g)) l (false, 0) = some (false, if l.all (good p) = true then 0 else 1)
  | [], _ => rfl
  | x :: l, h => by
    rw [runL]
    unfold stepY
    rw [if_neg (by decide)]
    have hx : address_parts_Y2 g (false, 0) x = some (if good p x = true then (false, 0) else (false, 1)) := by
      unfold address_parts_Y2 good
      dsimp only
      by_cases hx : x = []
      · subst hx; rfl
      · rw [if_neg hx, all_eq x (h x List.mem_cons_self) g p hg]
        simp only [bsome, hx]
        cases x.all p <;> rfl
    rw [hx, List.all_cons]
    have ih := parts_run g p hg l (fun y hy => h y (List.mem_cons_of_mem _ hy))
    cases hgx : good p x with
    | false => rfl
    | true =>
      simp only [if_true, Option.map_some, bsome, Bool.true_and]
      exact ih
theorem spl_len (c : UInt8) : ∀ (l : List UInt8), ∀ x ∈ spl c l, x.length ≤ l.length
  | [], x, hx => by simp [spl] at hx; simp [hx]
  | a :: l, x, hx => by
    rw [spl] at hx
    split at hx
    · rcases List.mem_cons.1 hx with rfl | hx
      · simp
      · have := spl_len c l x hx; simp; omega
    · cases hs : spl c l with
      | nil => exact absurd hs (spl_ne c l)
      | cons p r =>
        rw [hs] at hx
        dsimp only at hx
        rcases List.mem_cons.1 hx with rfl | hx
        · have := spl_len c l p (by rw [hs]; exact List.mem_cons_self); simp; omega
        · have := spl_len c l x (by rw [hs]; exact List.mem_cons_of_mem _ hx); simp; omega
theorem parts_eq (s : List UInt8) (hs : s.length < 4294967281) (g : UInt8 → Option Bool) (p : UInt8 → Bool) (hg : ∀ c, g c = some (p c)) : address_parts s g = some ((spl 46 s).all (good p)) := by
  unfold address_parts
  rw [splitSeq_eq _ _ _ _ hs, parts_run g p hg _ (fun x hx => by have := spl_len 46 s x hx; unfold Big; omega), bsome]
  cases (spl 46 s).all (good p) <;> rfl
def dtF (p : UInt8 → Bool) : Bool → List UInt8 → Bool
  | e, [] => !e
  | e, c :: l => if c = 46 then (if e = true then false else dtF p true l) else (if p c = true then dtF p false l else false)
theorem spl_dt (p : UInt8 → Bool) : ∀ (l : List UInt8) (e : Bool) (h : List UInt8) (t : List (List UInt8)), spl 46 l = h :: t → dtF p e l = (h.all p && ((!e || !decide (h = [])) && t.all (good p)))
  | [], e, h, t, hs => by
    simp only [spl, List.cons.injEq] at hs
    obtain ⟨rfl, rfl⟩ := hs
    cases e <;> rfl
  | c :: l, e, h, t, hs => by
    rw [spl] at hs
    rw [dtF]
    by_cases hc : c = 46
    · rw [if_pos hc] at hs
      obtain ⟨rfl, rfl⟩ := List.cons.inj hs
      rw [if_pos hc]
      cases hl : spl 46 l with
      | nil => exact absurd hl (spl_ne _ _)
      | cons a b =>
        rw [spl_dt p l true a b hl, List.all_cons]
        cases e <;> simp [good, Bool.and_comm, Bool.and_left_comm, Bool.and_assoc]
    · rw [if_neg hc] at hs
      rw [if_neg hc]
      cases hl : spl 46 l with
      | nil => exact absurd hl (spl_ne _ _)
      | cons a b =>
        rw [hl] at hs
        dsimp only at hs
        obtain ⟨rfl, rfl⟩ := List.cons.inj hs
        rw [spl_dt p l false a b hl, List.all_cons]
        cases p c <;> simp
theorem dt_spl (p : UInt8 → Bool) (s : List UInt8) : (spl 46 s).all (good p) = dtF p true s := by
  cases hs : spl 46 s with
  | nil => exact absurd hs (spl_ne _ _)
  | cons h t =>
    rw [spl_dt p s true h t hs, List.all_cons]
    unfold good
    cases h.all p <;> simp
theorem dotted_eq (s : List UInt8) (hs : s.length < 4294967281) : address_dotted s = some (dtF atB true s) := by
  unfold address_dotted
  rw [parts_eq s hs _ atB atom_eq, bsome, dt_spl]
def domT (s : List UInt8) : Bool := decide (s.length ≤ 60) && dtF doB true s
theorem domain_eq (s : List UInt8) : address_domain s = some (domT s) := by
  unfold address_domain domT
  by_cases h : s.length ≤ 60
  · rw [if_pos (by omega), parts_eq s (by omega) _ doB domB_eq, dt_spl]
    simp [h]
  · rw [if_neg (by omega)]
    simp [h]
theorem rdot_L1 (s : List UInt8) (dom : Bool) (hs : Big s) : ∀ (k i m : Nat) (b : Bool), s.length - i ≤ k → k < m → i ≤ s.length →
    ((R_Dotted_L1 s dom m b (i : Int)).bind fun o27 => (match o27 with | .inl b3 => some (!b3) | .inr r26 => some r26)) = some (dtF (fun c => atB c && (!dom || (letB c || decide (c = 45)))) b (s.drop i)) := by
  intro k
  induction k with
  | zero =>
    intro i m b h1 h2 h3
    obtain ⟨m, rfl⟩ : ∃ k, m = k + 1 := ⟨m - 1, by omega⟩
    obtain rfl : i = s.length := by omega
    rw [R_Dotted_L1, if_neg (by omega), bsome, List.drop_length]; rfl
  | succ k ih =>
    intro i m b h1 h2 h3
    obtain ⟨m, rfl⟩ : ∃ k, m = k + 1 := ⟨m - 1, by omega⟩
    by_cases hi : i < s.length
    · rw [R_Dotted_L1, if_pos (by omega), idx_nat, List.getElem?_eq_getElem hi, List.drop_eq_getElem_cons hi, dtF]
      simp only [bsome, ratom_eq, rletter_eq, chk_succ (show i + 1 ≤ 9223372036854775807 by have := hs; omega)]
      by_cases hc : s[i] = 46
      · rw [if_pos hc, if_pos hc]
        cases b with
        | true => rfl
        | false =>
          rw [if_neg (by decide), if_neg (by decide)]
          exact ih (i + 1) m true (by omega) (by omega) (by omega)
      · rw [if_neg hc, if_neg hc]
        have h5 := ih (i + 1) m false (by omega) (by omega) (by omega)
        cases ha : atB s[i] with
        | false => simp
        | true =>
          cases dom with
          | false => simpa using h5
          | true =>
            cases hl : letB s[i] with
            | true => simpa using h5
            | false =>
              by_cases hd : s[i] = 45
              · simpa [hd] using h5
              · simp [hd]
    · obtain rfl : i = s.length := by omega
      rw [R_Dotted_L1, if_neg (by omega), bsome, List.drop_length]; rfl
theorem rdotted_eq (s : List UInt8) (hs : Big s) (dom : Bool) : R_Dotted s dom = some (dtF (fun c => atB c && (!dom || (letB c || decide (c = 45)))) true s) := by
  unfold R_Dotted
  have := rdot_L1 s dom hs s.length 0 FU true (by omega) (FU_gt (by have := hs; omega)) (by omega)
  exact this
theorem rdotD_eq (s : List UInt8) (hs : Big s) : R_Dotted s true = some (dtF doB true s) := by
  rw [rdotted_eq s hs]
  have : (fun c => atB c && (!true || (letB c || decide (c = 45)))) = doB := funext fun c => by rw [Bool.not_true, Bool.false_or, atB_doB]
  rw [this]
theorem rdotA_eq (s : List UInt8) (hs : Big s) : R_Dotted s false = some (dtF atB true s) := by
  rw [rdotted_eq s hs]
  have : (fun c => atB c && (!false || (letB c || decide (c = 45)))) = atB := funext fun c => by simp
  rw [this]
def addrF (a : Adr) : Int × Int := if dispF a.1 = 0 then (if locT a.2.1 = true then (if domT a.2.2 = true then (0, 0) else (10, -5)) else (10, -4)) else (dispF a.1, -3)
abbrev BigA (a : Adr) : Prop := Big a.1 ∧ Big a.2.1 ∧ Big a.2.2
theorem validate_eq (a : Adr) (h : BigA a) : address_Validate (a.1, a.2.1, a.2.2) = some (addrF a) := by
  unfold address_Validate addrF
  rw [disp_eq, local_eq _ h.2.1, domain_eq]
  simp only [bsome, fault_eq, none_eq]
  by_cases h1 : dispF a.1 = 0
  · rw [if_pos h1, if_pos h1]
    cases locT a.2.1
    · rfl
    · cases domT a.2.2 <;> rfl
  · rw [if_neg h1, if_neg h1]
theorem raddr_eq (a : Adr) (h : BigA a) : R_AddressFault (a.1, a.2.1, a.2.2) = some (addrF a) := by
  unfold R_AddressFault addrF domT
  simp only [rdisp_eq, rlocal_eq _ h.2.1, rdotD_eq _ h.2.2, bsome, at_eq]
  by_cases h1 : dispF a.1 = 0
  · rw [if_pos h1, if_pos h1]
    cases locT a.2.1
    · rfl
    · show ((if (60 : Int) < (a.2.2.length : Int) then some true else some (!dtF doB true a.2.2)).bind fun b17 => if b17 = true then some ((10 : Int), (-5 : Int)) else some (0, 0)) = some (if (decide (a.2.2.length ≤ 60) && dtF doB true a.2.2) = true then (0, 0) else (10, -5))
      by_cases h2 : a.2.2.length ≤ 60
      · rw [if_neg (by omega), bsome, decide_eq_true h2, Bool.true_and]
        cases dtF doB true a.2.2 <;> rfl
      · rw [if_pos (by omega), bsome, decide_eq_false h2]
        rfl
  · rw [if_neg h1, if_neg h1]
end Go.Ph.Ad
end
section
namespace Go.Ph.Ad
open Go.Ph.Pl Go.Ph.Pf
abbrev BigI (x : Itm) : Prop := Big x.1 ∧ x.2.2.length ≤ 140737488355328 ∧ ∀ a ∈ x.2.2, BigA a
abbrev BigL (l : List Itm) : Prop := l.length ≤ 140737488355328 ∧ ∀ x ∈ l, BigI x
def memF : List Adr → Int
  | [] => 0
  | a :: l => if (addrF a).1 = 0 then memF l else (addrF a).1
def badI (x : Itm) : Bool := !decide (x.2.1 = !decide (x.1 = [])) || (!x.2.1 && !decide (x.2.2.length = 1))
def itemF (x : Itm) : Int := if dispF x.1 = 0 then (if badI x = true then 5 else memF x.2.2) else dispF x.1
theorem item_L1 (x : Itm) (h : BigI x) : ∀ (k i m : Nat), x.2.2.length - i ≤ k → k < m → i ≤ x.2.2.length →
    ((address_item_L1 x m (i : Int)).bind fun o26 => (match o26 with | .inl _ => some 0 | .inr r25 => some r25)) = some (memF (x.2.2.drop i)) := by
  intro k
  induction k with
  | zero =>
    intro i m h1 h2 h3
    obtain ⟨m, rfl⟩ : ∃ k, m = k + 1 := ⟨m - 1, by omega⟩
    obtain rfl : i = x.2.2.length := by omega
    rw [address_item_L1, if_neg (by omega), bsome, List.drop_length]; rfl
  | succ k ih =>
    intro i m h1 h2 h3
    obtain ⟨m, rfl⟩ : ∃ k, m = k + 1 := ⟨m - 1, by omega⟩
    by_cases hi : i < x.2.2.length
    · rw [address_item_L1, if_pos (by omega), idx_nat, List.getElem?_eq_getElem hi, List.drop_eq_getElem_cons hi, memF, bsome]
      rw [validate_eq _ (h.2.2 _ (List.getElem_mem hi)), bsome]
      have h5 := ih (i + 1) m (by omega) (by omega) (by omega)
      obtain ⟨a, b, hab⟩ : ∃ a b, addrF x.2.2[i] = (a, b) := ⟨_, _, rfl⟩
      rw [hab]
      dsimp only
      rw [failed_eq, bsome]
      by_cases ha : a = 0
      · rw [if_neg (by simp [ha]), if_pos ha, chk_succ (by have := h.2.1; omega), bsome]
        exact h5
      · rw [if_pos (by simp [ha]), if_neg ha]; rfl
    · obtain rfl : i = x.2.2.length := by omega
      rw [address_item_L1, if_neg (by omega), bsome, List.drop_length]; rfl
theorem item_eq (x : Itm) (h : BigI x) : address_item (x.1, x.2.1, x.2.2) = some (itemF x) := by
  unfold address_item itemF
  rw [disp_eq, bsome]
  by_cases h1 : dispF x.1 = 0
  · rw [if_pos h1, if_pos h1]
    have hb : (if x.2.1 = (!decide (x.1 = [])) then (if x.2.1 = true then some false else some (!decide ((x.2.2.length : Int) = (1 : Int)))) else some true) = some (badI x) := by
      unfold badI
      have hd : decide ((x.2.2.length : Int) = 1) = decide (x.2.2.length = 1) := decide_eq_decide.2 ⟨fun h => by omega, fun h => by omega⟩
      rw [hd]
      by_cases h2 : x.2.1 = !decide (x.1 = [])
      · rw [if_pos h2, decide_eq_true h2]
        cases x.2.1 <;> rfl
      · rw [if_neg h2, decide_eq_false h2]; rfl
    rw [hb, bsome]
    cases badI x with
    | true => rfl
    | false =>
      rw [if_neg (by decide), if_neg (by decide)]
      exact item_L1 x h x.2.2.length 0 FU (by omega) (FU_gt (by have := h.2.1; omega)) (by omega)
  · rw [if_neg h1, if_neg h1]
def listF : Nat → List Itm → Int × Int
  | _, [] => (0, 0)
  | i, x :: l => if itemF x = 0 then listF (i + 1) l else (itemF x, (i : Int))
def sumW (l : List Itm) : Int := l.foldl (fun n x => IntKind.i64.wrap (n + (x.2.2.length : Int))) 0
def itemsF (l : List Itm) : Int × Int := if 60 < l.length ∨ 60 < sumW l then (2, -1) else listF 0 l
theorem check_L1 (l : List Itm) (h : l.length ≤ 140737488355328) : address_Check_L1 l FU 0 0 = some (sumW l) := by
  refine foldI0 (L := address_Check_L1 l) l (fun n x => IntKind.i64.wrap (n + (x.2.2.length : Int))) id (fun _ _ => True) (by omega) (fun m s _ => ?_) (fun m s i a ha _ => ⟨trivial, ?_⟩) 0 trivial
  · rw [address_Check_L1, if_neg (by omega)]; rfl
  · have hi := (List.getElem?_eq_some_iff.1 ha).1
    rw [address_Check_L1, if_pos (by omega), idx_nat, ha, bsome, chk_succ (by omega), bsome]
theorem check_L2 (l : List Itm) (h : BigL l) : ∀ (k i m : Nat) (c d : Int), l.length - i ≤ k → k < m → i ≤ l.length →
    ((address_Check_L2 l m c d (i : Int)).bind fun o43 => (match o43 with | .inl (n23, n24) => (basic_None).bind fun (n39, n40) => some (n39, n40) | .inr r42 => some r42)) = some (listF i (l.drop i)) := by
  intro k
  induction k with
  | zero =>
    intro i m c d h1 h2 h3
    obtain ⟨m, rfl⟩ : ∃ k, m = k + 1 := ⟨m - 1, by omega⟩
    obtain rfl : i = l.length := by omega
    rw [address_Check_L2, if_neg (by omega), bsome, List.drop_length]; rfl
  | succ k ih =>
    intro i m c d h1 h2 h3
    obtain ⟨m, rfl⟩ : ∃ k, m = k + 1 := ⟨m - 1, by omega⟩
    by_cases hi : i < l.length
    · rw [address_Check_L2, if_pos (by omega), idx_nat, List.getElem?_eq_getElem hi, List.drop_eq_getElem_cons hi, listF, bsome]
      rw [item_eq _ (h.2 _ (List.getElem_mem hi)), bsome]
      by_cases ha : itemF l[i] = 0
      · rw [if_pos ha, if_pos ha, chk_succ (by have := h.1; omega), bsome]
        exact ih (i + 1) m c d (by omega) (by omega) (by omega)
      · rw [if_neg ha, if_neg ha, fault_eq, bsome]; rfl
    · obtain rfl : i = l.length := by omega
      rw [address_Check_L2, if_neg (by omega), bsome, List.drop_length]; rfl
theorem check_eq (l : List Itm) (h : BigL l) : address_Check l = some (itemsF l) := by
  unfold address_Check itemsF
  rw [check_L1 l h.1, bsome]
  have h5 := check_L2 l h l.length 0 FU 0 0 (by omega) (FU_gt (by have := h.1; omega)) (by omega)
  by_cases h1 : 60 < l.length
  · rw [if_pos (by omega), bsome, if_pos rfl, if_pos (.inl h1)]; rfl
  · rw [if_neg (by omega), bsome]
    by_cases h2 : 60 < sumW l
    · rw [decide_eq_true h2, if_pos rfl, if_pos (.inr h2)]; rfl
    · rw [decide_eq_false h2, if_neg (by decide), if_neg (by intro h; rcases h with h | h; exact h1 h; exact h2 h)]
      exact h5
theorem sameA_L1 (l : List Adr) (h : l.length ≤ 140737488355328) : ∀ (k i m : Nat), l.length - i ≤ k → k < m → i ≤ l.length → R_SameAddresses_L1 l l m (i : Int) = some (.inl ()) := by
  intro k
  induction k with
  | zero =>
    intro i m h1 h2 h3
    obtain ⟨m, rfl⟩ : ∃ k, m = k + 1 := ⟨m - 1, by omega⟩
    obtain rfl : i = l.length := by omega
    rw [R_SameAddresses_L1, if_neg (by omega)]
  | succ k ih =>
    intro i m h1 h2 h3
    obtain ⟨m, rfl⟩ : ∃ k, m = k + 1 := ⟨m - 1, by omega⟩
    by_cases hi : i < l.length
    · rw [R_SameAddresses_L1, if_pos (by omega), idx_nat, List.getElem?_eq_getElem hi, bsome, bsome, if_pos ⟨rfl, rfl, rfl⟩, chk_succ (by omega), bsome]
      exact ih (i + 1) m (by omega) (by omega) (by omega)
    · obtain rfl : i = l.length := by omega
      rw [R_SameAddresses_L1, if_neg (by omega)]
theorem sameA_refl (l : List Adr) (h : l.length ≤ 140737488355328) : R_SameAddresses l l = some true := by
  unfold R_SameAddresses
  rw [if_pos rfl, show (0 : Int) = ((0 : Nat) : Int) from rfl, sameA_L1 l h l.length 0 FU (by omega) (FU_gt (by omega)) (by omega)]
  rfl
theorem bigA_of {a : Adr} (h : a.1.length ≤ 140737488351232 ∧ a.2.1.length ≤ 140737488351232 ∧ a.2.2.length ≤ 140737488351232) : BigA a := ⟨Nat.le_trans h.1 (by decide), Nat.le_trans h.2.1 (by decide), Nat.le_trans h.2.2 (by decide)⟩
theorem ex_law : L_addressExample = some true := by decide +kernel
end Go.Ph.Ad
end
section
namespace Go.Ph.Ad
open Go.Ph.Pl Go.Ph.Pf
def cmtF : Nat → List UInt8 → Option (List UInt8)
  | _, [] => none
  | d, [c] => if c = 41 ∧ d = 1 then some [] else none
  | d, c :: x :: l => if c = 40 then cmtF (d + 1) (x :: l) else if c = 41 then (if d = 1 then some (x :: l) else cmtF (d - 1) (x :: l)) else if c = 92 then cmtF d l else cmtF d (x :: l)
theorem cmtF_len : ∀ (l : List UInt8) (d : Nat) (r : List UInt8), cmtF d l = some r → r.length < l.length
  | [], d, r, h => by simp [cmtF] at h
  | [c], d, r, h => by
    rw [cmtF] at h
    split at h
    · cases h; simp
    · cases h
  | c :: x :: l, d, r, h => by
    rw [cmtF] at h
    split at h
    · have := cmtF_len (x :: l) _ _ h; simp at this ⊢; omega
    · split at h
      · split at h
        · cases h; simp
        · have := cmtF_len (x :: l) _ _ h; simp at this ⊢; omega
      · split at h
        · have := cmtF_len l _ _ h; simp at this ⊢; omega
        · have := cmtF_len (x :: l) _ _ h; simp at this ⊢; omega
def blB (c : UInt8) : Bool := decide (c = 32) || decide (c = 9)
theorem blank_eq (c : UInt8) : basic_Blank c = some (blB c) := by
  unfold basic_Blank blB
  by_cases h : c = 32 <;> simp [h]
def skF : Nat → List UInt8 → Option (List UInt8)
  | 0, _ => none
  | _ + 1, [] => some []
  | n + 1, c :: l => if blB c = true then skF n l else if c = 40 then (cmtF 1 l).bind (skF n) else some (c :: l)
theorem skF_len : ∀ (n : Nat) (l r : List UInt8), skF n l = some r → r.length ≤ l.length
  | 0, l, r, h => by simp [skF] at h
  | n + 1, [], r, h => by simp [skF] at h; simp [h]
  | n + 1, c :: l, r, h => by
    rw [skF] at h
    split at h
    · have := skF_len n l r h; simp; omega
    · split at h
      · obtain ⟨x, h1, h2⟩ := bnd h
        have := cmtF_len _ _ _ h1
        have := skF_len n x r h2
        simp; omega
      · cases h; simp
theorem skF_more : ∀ (n m : Nat) (l : List UInt8), l.length < n → l.length < m → skF n l = skF m l
  | 0, m, l, h, _ => by omega
  | n + 1, 0, l, _, h => by omega
  | n + 1, m + 1, [], _, _ => rfl
  | n + 1, m + 1, c :: l, h1, h2 => by
    rw [skF, skF]
    simp only [List.length_cons] at h1 h2
    rw [skF_more n m l (by omega) (by omega)]
    split
    · rfl
    · split
      · cases hc : cmtF 1 l with
        | none => rfl
        | some r =>
          have := cmtF_len _ _ _ hc
          rw [bsome, bsome]
          exact skF_more n m r (by omega) (by omega)
      · rfl
def sk (l : List UInt8) : Option (List UInt8) := skF (l.length + 1) l
theorem sk_nil : sk [] = some [] := rfl
theorem sk_cons (c : UInt8) (l : List UInt8) : sk (c :: l) = if blB c = true then sk l else if c = 40 then (cmtF 1 l).bind sk else some (c :: l) := by
  unfold sk
  rw [List.length_cons, skF]
  split
  · rfl
  · split
    · cases hc : cmtF 1 l with
      | none => rfl
      | some r =>
        have := cmtF_len _ _ _ hc
        rw [bsome, bsome]
        exact skF_more _ _ r (by omega) (by omega)
    · rfl
theorem sk_len {l r : List UInt8} (h : sk l = some r) : r.length ≤ l.length := skF_len _ _ _ h
def quF : List UInt8 → Option (List UInt8 × List UInt8)
  | [] => none
  | [c] => if c = 34 then some ([], []) else none
  | c :: x :: l => if c = 34 then some ([], x :: l) else if c = 92 then (quF l).map fun p => (x :: p.1, p.2) else (quF (x :: l)).map fun p => (c :: p.1, p.2)
theorem quF_len : ∀ (l : List UInt8) (p : List UInt8 × List UInt8), quF l = some p → p.2.length < l.length
  | [], p, h => by simp [quF] at h
  | [c], p, h => by
    rw [quF] at h
    split at h
    · cases h; simp
    · cases h
  | c :: x :: l, p, h => by
    rw [quF] at h
    split at h
    · cases h; simp
    · split at h
      · obtain ⟨q, h1, rfl⟩ := Option.map_eq_some_iff.1 h
        have := quF_len l q h1; simp; omega
      · obtain ⟨q, h1, rfl⟩ := Option.map_eq_some_iff.1 h
        have := quF_len (x :: l) q h1; simp at this ⊢; omega
def waB (c : UInt8) : Bool := atB c || decide (c = 46)
def sgB (c : UInt8) : Bool := ([58, 59, 44, 64, 60, 62] : List UInt8).any fun x => decide (x = c)
def nxF (l : List UInt8) : Option (Elt × List UInt8) :=
  (sk l).bind fun l => match l with
    | [] => some (none, [])
    | c :: r => if c = 34 then (quF r).map fun p => (eltW (p.1, true), p.2) else if sgB c = true then some (eltS c, r) else
        if waB c = true then some (eltW ((c :: r).takeWhile waB, false), (c :: r).dropWhile waB) else none
theorem dw_len (p : UInt8 → Bool) : ∀ l : List UInt8, (l.dropWhile p).length ≤ l.length
  | [] => by simp
  | c :: l => by
    by_cases h : p c = true
    · rw [List.dropWhile_cons_of_pos h]; have := dw_len p l; simp; omega
    · rw [List.dropWhile_cons_of_neg h]; simp
theorem nxF_len {l r : List UInt8} {e : Elt} (h : nxF l = some (e, r)) (he : e ≠ none) : r.length < l.length := by
  unfold nxF at h
  obtain ⟨x, h1, h2⟩ := bnd h
  have hl := sk_len h1
  cases x with
  | nil => cases h2; exact absurd rfl he
  | cons c y =>
    dsimp only at h2
    simp only [List.length_cons] at hl
    split at h2
    · obtain ⟨q, h3, h4⟩ := Option.map_eq_some_iff.1 h2
      cases h4
      have := quF_len _ _ h3; omega
    · split at h2
      · cases h2; omega
      · split at h2
        · rename_i hw
          cases h2
          rw [List.dropWhile_cons_of_pos hw]
          have := dw_len waB y; omega
        · cases h2
inductive LT where
  | err
  | eof
  | tok (e : UInt8 ⊕ (List UInt8 × Bool)) (t : LT)
def lexF : Nat → List UInt8 → LT
  | 0, _ => .err
  | n + 1, l => match nxF l with
    | none => .err
    | some (none, _) => .eof
    | some (some e, r) => .tok e (lexF n r)
theorem lexF_more : ∀ (n m : Nat) (l : List UInt8), l.length < n → l.length < m → lexF n l = lexF m l
  | 0, m, l, h, _ => by omega
  | n + 1, 0, l, _, h => by omega
  | n + 1, m + 1, l, h1, h2 => by
    rw [lexF, lexF]
    cases h : nxF l with
    | none => rfl
    | some p =>
      obtain ⟨e, r⟩ := p
      cases e with
      | none => rfl
      | some e =>
        have := nxF_len h (by simp)
        dsimp only
        rw [lexF_more n m r (by omega) (by omega)]
def lex (l : List UInt8) : LT := lexF (l.length + 1) l
theorem lex_eq (l : List UInt8) : lex l = match nxF l with
    | none => .err
    | some (none, _) => .eof
    | some (some e, r) => .tok e (lex r) := by
  unfold lex
  rw [lexF]
  cases h : nxF l with
  | none => rfl
  | some p =>
    obtain ⟨e, r⟩ := p
    cases e with
    | none => rfl
    | some e =>
      have := nxF_len h (by simp)
      dsimp only
      rw [lexF_more l.length (r.length + 1) r (by omega) (by omega)]
def Rs (s : List UInt8) (f : Option ((List UInt8 × Int) ⊕ Int)) : Option (List UInt8) → Prop
  | some r => ∃ j : Nat, j ≤ s.length ∧ r = s.drop j ∧ f = some (.inl (s, (j : Int)))
  | none => ∃ n : Int, 0 ≤ n ∧ f = some (.inr n)
def Rn {α : Type} (s : List UInt8) (f : Option ((α × (List UInt8 × Int)) ⊕ Int)) : Option (α × List UInt8) → Prop
  | some (a, r) => ∃ j : Nat, j ≤ s.length ∧ r = s.drop j ∧ f = some (.inl (a, (s, (j : Int))))
  | none => ∃ n : Int, 0 ≤ n ∧ f = some (.inr n)
abbrev Sml (s : List UInt8) : Prop := s.length ≤ 4294967280
theorem fail_eq (s : List UInt8) (n : Int) : address_reader_fail (s, n) = some (.inr n) := rfl
theorem cmt_run (s : List UInt8) (hs : Sml s) : ∀ (k i m d : Nat), s.length + 1 - i ≤ k → k < m → i ≤ s.length + 1 → 1 ≤ d → d ≤ i + 1 → Rs s (address_reader_comment_L1 m s (i : Int) (d : Int)) (cmtF d (s.drop i)) := by
  intro k
  induction k with
  | zero =>
    intro i m d h1 h2 h3 h4 h5
    obtain ⟨m, rfl⟩ : ∃ k, m = k + 1 := ⟨m - 1, by omega⟩
    rw [address_reader_comment_L1, if_pos (by omega), fail_eq, List.drop_eq_nil_of_le (by omega), cmtF]
    exact ⟨_, Int.natCast_nonneg _, rfl⟩
  | succ k ih =>
    intro i m d h1 h2 h3 h4 h5
    obtain ⟨m, rfl⟩ : ∃ k, m = k + 1 := ⟨m - 1, by omega⟩
    by_cases hi : i < s.length
    · have n1 := ih (i + 1) m d (by omega) (by omega) (by omega) h4 (by omega)
      have n2 := ih (i + 1) m (d + 1) (by omega) (by omega) (by omega) (by omega) (by omega)
      have n3 : 2 ≤ d → Rs s (address_reader_comment_L1 m s ((i + 1 : Nat) : Int) ((d - 1 : Nat) : Int)) (cmtF (d - 1) (s.drop (i + 1))) := fun hd => ih (i + 1) m (d - 1) (by omega) (by omega) (by omega) (by omega) (by omega)
      have n4 : i + 2 ≤ s.length + 1 → Rs s (address_reader_comment_L1 m s ((i + 1 + 1 : Nat) : Int) (d : Int)) (cmtF d (s.drop (i + 1 + 1))) := fun hd => ih (i + 1 + 1) m d (by omega) (by omega) (by omega) h4 (by omega)
      have hb : s.length ≤ 4294967280 := hs
      rw [address_reader_comment_L1, if_neg (by omega), bsome]
      simp only
      rw [idx_nat, List.getElem?_eq_getElem hi, bsome, List.drop_eq_getElem_cons hi]
      obtain ⟨c, hc⟩ : ∃ c, s[i] = c := ⟨_, rfl⟩
      rw [hc]
      have hlist : cmtF d (c :: s.drop (i + 1)) = if c = 40 then cmtF (d + 1) (s.drop (i + 1)) else if c = 41 then (if d = 1 then some (s.drop (i + 1)) else cmtF (d - 1) (s.drop (i + 1))) else if c = 92 then cmtF d (s.drop (i + 1 + 1)) else cmtF d (s.drop (i + 1)) := by
        by_cases hj : i + 1 < s.length
        · rw [List.drop_eq_getElem_cons hj, cmtF]
        · rw [List.drop_eq_nil_of_le (show s.length ≤ i + 1 by omega), List.drop_eq_nil_of_le (show s.length ≤ i + 1 + 1 by omega), cmtF]
          by_cases q1 : c = 40
          · subst q1; simp [cmtF]
          · by_cases q2 : c = 41
            · subst q2
              by_cases q3 : d = 1 <;> simp [cmtF, q3]
            · simp [cmtF, q1, q2]
      rw [hlist]
      by_cases q1 : c = 40
      · rw [if_pos q1, if_pos q1, chk_succ (by omega), bsome, bsome]
        simp only
        rw [chk_succ (by omega), bsome]
        exact n2
      · rw [if_neg q1, if_neg q1]
        by_cases q2 : c = 41
        · rw [if_pos q2, if_pos q2, chk_pred h4 (by omega), bsome]
          by_cases q3 : d = 1
          · rw [if_pos (by omega), if_pos q3, chk_succ (by omega), bsome, bsome]
            exact ⟨i + 1, by omega, rfl, rfl⟩
          · rw [if_neg (by omega), if_neg q3, bsome]
            simp only
            rw [chk_succ (by omega), bsome]
            exact n3 (by omega)
        · rw [if_neg q2, if_neg q2]
          by_cases q3 : c = 92
          · rw [if_pos q3, if_pos q3, chk_succ (by omega), bsome, bsome]
            simp only
            rw [chk_succ (by omega), bsome]
            exact n4 (by omega)
          · rw [if_neg q3, if_neg q3, bsome]
            simp only
            rw [chk_succ (by omega), bsome]
            exact n1
    · rw [address_reader_comment_L1, if_pos (by omega), fail_eq, List.drop_eq_nil_of_le (by omega), cmtF]
      exact ⟨_, Int.natCast_nonneg _, rfl⟩
theorem comment_run (s : List UInt8) (hs : Sml s) (i : Nat) (hi : i < s.length) (hc : s[i] = 40) : Rs s (address_reader_comment (s, (i : Int))) (cmtF 1 (s.drop (i + 1))) := by
  have hb : s.length ≤ 4294967280 := hs
  unfold address_reader_comment
  rw [FU_pos, address_reader_comment_L1]
  dsimp only
  rw [if_neg (by omega), bsome]
  simp only
  rw [idx_nat, List.getElem?_eq_getElem hi, bsome, hc, if_pos rfl]
  have h1 : chk ((0 : Int) + 1) = some ((1 : Nat) : Int) := by decide
  rw [h1, bsome, bsome]
  simp only
  rw [chk_succ (by omega), bsome]
  have := cmt_run s hs (s.length + 1) (i + 1) 18446744073709551615 1 (by omega) (by omega) (by omega) (by omega) (by omega)
  revert this
  cases cmtF 1 (s.drop (i + 1)) with
  | none => rintro ⟨n, h1, h2⟩; exact ⟨n, h1, by rw [h2, bsome]⟩
  | some r => rintro ⟨j, h1, h2, h3⟩; exact ⟨j, h1, h2, by rw [h3, bsome]⟩
end Go.Ph.Ad
end
section
namespace Go.Ph.Ad
open Go.Ph.Pl Go.Ph.Pf
theorem skip_L1 (s : List UInt8) (hs : Sml s) : ∀ (k i m : Nat), s.length - i ≤ k → k < m → i ≤ s.length →
    Rs s ((address_reader_skip_L1 m s (i : Int)).bind fun o21 => (match o21 with | .inl (s3, n4) => some (.inl (s3, n4)) | .inr r20 => some r20)) (sk (s.drop i)) := by
  intro k
  induction k with
  | zero =>
    intro i m h1 h2 h3
    obtain ⟨m, rfl⟩ : ∃ k, m = k + 1 := ⟨m - 1, by omega⟩
    rw [address_reader_skip_L1, if_neg (by omega), bsome, List.drop_eq_nil_of_le (by omega), sk_nil]
    exact ⟨i, h3, (List.drop_eq_nil_of_le (by omega)).symm, rfl⟩
  | succ k ih =>
    intro i m h1 h2 h3
    obtain ⟨m, rfl⟩ : ∃ k, m = k + 1 := ⟨m - 1, by omega⟩
    have hb : s.length ≤ 4294967280 := hs
    by_cases hi : i < s.length
    · rw [address_reader_skip_L1, if_pos (by omega), idx_nat, List.getElem?_eq_getElem hi, bsome, blank_eq, bsome, List.drop_eq_getElem_cons hi, sk_cons]
      by_cases hbl : blB s[i] = true
      · rw [if_pos hbl, if_pos hbl, chk_succ (by omega), bsome]
        exact ih (i + 1) m (by omega) (by omega) (by omega)
      · rw [if_neg hbl, if_neg hbl]
        by_cases hc : s[i] = 40
        · rw [if_pos hc, if_pos hc]
          have hcm := comment_run s hs i hi hc
          have hlen := cmtF_len (s.drop (i + 1)) 1
          revert hcm hlen
          cases cmtF 1 (s.drop (i + 1)) with
          | none => rintro ⟨n, q1, q2⟩ _; rw [q2, bsome]; exact ⟨n, q1, rfl⟩
          | some r =>
            rintro ⟨j, q1, rfl, q3⟩ hlen
            have hl := hlen _ rfl
            rw [List.length_drop, List.length_drop] at hl
            rw [q3, bsome, bsome]
            exact ih j m (by omega) (by omega) q1
        · rw [if_neg hc, if_neg hc, bsome]
          exact ⟨i, h3, (List.drop_eq_getElem_cons hi).symm, rfl⟩
    · rw [address_reader_skip_L1, if_neg (by omega), bsome, List.drop_eq_nil_of_le (by omega), sk_nil]
      exact ⟨i, h3, (List.drop_eq_nil_of_le (by omega)).symm, rfl⟩
theorem skip_run (s : List UInt8) (hs : Sml s) (i : Nat) (h3 : i ≤ s.length) : Rs s (address_reader_skip (s, (i : Int))) (sk (s.drop i)) :=
  skip_L1 s hs s.length i FU (by omega) (FU_gt (by have : s.length ≤ 4294967280 := hs; omega)) h3
theorem quote_L1 (s : List UInt8) (hs : Sml s) : ∀ (k i m : Nat) (acc : List UInt8), s.length - i ≤ k → k < m → i ≤ s.length → acc.length ≤ i →
    Rn s (address_reader_quote_L1 m s (i : Int) acc) ((quF (s.drop i)).map fun p => (acc ++ p.1, p.2)) := by
  intro k
  induction k with
  | zero =>
    intro i m acc h1 h2 h3 h4
    obtain ⟨m, rfl⟩ : ∃ k, m = k + 1 := ⟨m - 1, by omega⟩
    rw [address_reader_quote_L1, if_pos (by omega), fail_eq, List.drop_eq_nil_of_le (by omega), quF]
    exact ⟨_, Int.natCast_nonneg _, rfl⟩
  | succ k ih =>
    intro i m acc h1 h2 h3 h4
    obtain ⟨m, rfl⟩ : ∃ k, m = k + 1 := ⟨m - 1, by omega⟩
    have hb : s.length ≤ 4294967280 := hs
    by_cases hi : i < s.length
    · have n1 := fun c => ih (i + 1) m (acc ++ [c]) (by omega) (by omega) (by omega) (by rw [List.length_append]; simp; omega)
      have n2 := fun (hj : i + 1 < s.length) c => ih (i + 1 + 1) m (acc ++ [c]) (by omega) (by omega) (by omega) (by rw [List.length_append]; simp; omega)
      have ha : ∀ c : UInt8, app 1 acc [c] = some (acc ++ [c]) := fun c => app_ok (by simp; omega)
      rw [address_reader_quote_L1, if_neg (by omega), bsome]
      simp only
      rw [idx_nat, List.getElem?_eq_getElem hi, bsome, List.drop_eq_getElem_cons hi]
      obtain ⟨c, hc⟩ : ∃ c, s[i] = c := ⟨_, rfl⟩
      rw [hc]
      by_cases q1 : c = 34
      · rw [if_pos q1, chk_succ (by omega), bsome]
        have : quF (c :: s.drop (i + 1)) = some ([], s.drop (i + 1)) := by
          cases s.drop (i + 1) <;> simp [quF, q1]
        rw [this]
        exact ⟨i + 1, by omega, rfl, by simp⟩
      · rw [if_neg q1]
        by_cases q2 : c = 92
        · rw [if_pos q2, chk_succ (by omega), bsome]
          by_cases hj : i + 1 < s.length
          · rw [if_neg (by omega), bsome]
            simp only
            rw [idx_nat, List.getElem?_eq_getElem hj, bsome, ha, bsome, bsome]
            simp only
            rw [chk_succ (by omega), bsome, List.drop_eq_getElem_cons hj, quF, if_neg q1, if_pos q2]
            have h5 := n2 hj s[i + 1]
            revert h5
            cases quF (s.drop (i + 1 + 1)) with
            | none => exact id
            | some p => simp
          · rw [if_pos (by omega), fail_eq, bsome, bsome]
            have : quF (c :: s.drop (i + 1)) = none := by rw [List.drop_eq_nil_of_le (by omega), quF, if_neg q1]
            rw [this]
            exact ⟨_, Int.natCast_nonneg _, rfl⟩
        · rw [if_neg q2, ha, bsome, bsome]
          simp only
          rw [chk_succ (by omega), bsome]
          have : quF (c :: s.drop (i + 1)) = (quF (s.drop (i + 1))).map fun p => (c :: p.1, p.2) := by
            cases hd : s.drop (i + 1) with
            | nil => simp [quF, q1]
            | cons x l => rw [quF, if_neg q1, if_neg q2]
          rw [this]
          have h5 := n1 c
          revert h5
          cases quF (s.drop (i + 1)) with
          | none => exact id
          | some p => simp
    · rw [address_reader_quote_L1, if_pos (by omega), fail_eq, List.drop_eq_nil_of_le (by omega), quF]
      exact ⟨_, Int.natCast_nonneg _, rfl⟩
theorem quote_run (s : List UInt8) (hs : Sml s) (i : Nat) (hi : i < s.length) : Rn s (address_reader_quote (s, (i : Int))) (quF (s.drop (i + 1))) := by
  have hb : s.length ≤ 4294967280 := hs
  unfold address_reader_quote
  dsimp only
  rw [chk_succ (by omega), bsome]
  have := quote_L1 s hs s.length (i + 1) FU [] (by omega) (FU_gt (by omega)) (by omega) (by simp)
  revert this
  cases quF (s.drop (i + 1)) with
  | none => rintro ⟨n, h1, h2⟩; exact ⟨n, h1, by rw [h2, bsome]⟩
  | some r => rintro ⟨j, h1, h2, h3⟩; exact ⟨j, h1, h2, by rw [h3, bsome]; rfl⟩
theorem word_L1 (s : List UInt8) (hs : Sml s) : ∀ (k i m : Nat), s.length - i ≤ k → k < m → i ≤ s.length →
    address_reader_next_L1 m s (i : Int) = some (s, ((i + ((s.drop i).takeWhile waB).length : Nat) : Int)) := by
  intro k
  induction k with
  | zero =>
    intro i m h1 h2 h3
    obtain ⟨m, rfl⟩ : ∃ k, m = k + 1 := ⟨m - 1, by omega⟩
    rw [address_reader_next_L1, if_neg (by omega), bsome, if_neg (by decide), List.drop_eq_nil_of_le (by omega)]; rfl
  | succ k ih =>
    intro i m h1 h2 h3
    obtain ⟨m, rfl⟩ : ∃ k, m = k + 1 := ⟨m - 1, by omega⟩
    have hb : s.length ≤ 4294967280 := hs
    by_cases hi : i < s.length
    · rw [address_reader_next_L1, if_pos (by omega), idx_nat, List.getElem?_eq_getElem hi, bsome, atom_eq, bsome, List.drop_eq_getElem_cons hi]
      have hw : (if atB s[i] = true then some true else (some s[i]).bind fun c31 => some (decide (c31 = 46))) = some (waB s[i]) := by
        unfold waB
        cases atB s[i] <;> simp
      rw [hw, bsome]
      by_cases q : waB s[i] = true
      · rw [if_pos q, chk_succ (by omega), bsome, ih (i + 1) m (by omega) (by omega) (by omega), List.takeWhile_cons_of_pos q, List.length_cons]
        congr 3; omega
      · rw [if_neg q, List.takeWhile_cons_of_neg q]; rfl
    · rw [address_reader_next_L1, if_neg (by omega), bsome, if_neg (by decide), List.drop_eq_nil_of_le (by omega)]; rfl
theorem sign_eq (c : UInt8) : strings_IndexByte [58, 59, 44, 64, 60, 62] c = some (ixB [58, 59, 44, 64, 60, 62] c) ∧ (0 ≤ ixB [58, 59, 44, 64, 60, 62] c ↔ sgB c = true) := by
  refine ⟨by unfold strings_IndexByte; rfl, ?_⟩
  refine allB (p := fun c => 0 ≤ ixB [58, 59, 44, 64, 60, 62] c ↔ sgB c = true) ?_ c
  decide +kernel
theorem tw_take (p : UInt8 → Bool) : ∀ l : List UInt8, l.take (l.takeWhile p).length = l.takeWhile p
  | [] => rfl
  | c :: l => by
    by_cases h : p c = true
    · rw [List.takeWhile_cons_of_pos h, List.length_cons, List.take_succ_cons, tw_take p l]
    · rw [List.takeWhile_cons_of_neg h]; rfl
theorem tw_drop (p : UInt8 → Bool) : ∀ l : List UInt8, l.drop (l.takeWhile p).length = l.dropWhile p
  | [] => rfl
  | c :: l => by
    by_cases h : p c = true
    · rw [List.takeWhile_cons_of_pos h, List.length_cons, List.drop_succ_cons, tw_drop p l, List.dropWhile_cons_of_pos h]
    · rw [List.takeWhile_cons_of_neg h, List.dropWhile_cons_of_neg h]; rfl
theorem tw_le (p : UInt8 → Bool) : ∀ l : List UInt8, (l.takeWhile p).length ≤ l.length
  | [] => by simp
  | c :: l => by
    by_cases h : p c = true
    · rw [List.takeWhile_cons_of_pos h]; have := tw_le p l; simp; omega
    · rw [List.takeWhile_cons_of_neg h]; simp
theorem next_run (s : List UInt8) (hs : Sml s) (i : Nat) (h3 : i ≤ s.length) : Rn s (address_reader_next (s, (i : Int))) (nxF (s.drop i)) := by
  have hb : s.length ≤ 4294967280 := hs
  unfold address_reader_next nxF
  have hsk := skip_run s hs i h3
  revert hsk
  dsimp only
  cases sk (s.drop i) with
  | none => rintro ⟨n, q1, q2⟩; rw [q2, bsome]; exact ⟨n, q1, rfl⟩
  | some r =>
    rintro ⟨j, q1, rfl, q3⟩
    rw [q3, bsome, bsome]
    by_cases hj : j < s.length
    · dsimp only
      rw [if_neg (by omega), idx_nat, List.getElem?_eq_getElem hj, bsome, List.drop_eq_getElem_cons hj]
      dsimp only
      by_cases c1 : s[j] = 34
      · rw [if_pos c1, if_pos c1]
        have hq := quote_run s hs j hj
        revert hq
        cases quF (s.drop (j + 1)) with
        | none => rintro ⟨n, w1, w2⟩; rw [w2, bsome]; exact ⟨n, w1, rfl⟩
        | some p => rintro ⟨k, w1, w2, w3⟩; rw [w3, bsome]; exact ⟨k, w1, w2, rfl⟩
      · rw [if_neg c1, if_neg c1, (sign_eq s[j]).1, bsome]
        by_cases c2 : sgB s[j] = true
        · rw [if_pos ((sign_eq s[j]).2.2 c2), if_pos c2, chk_succ (by omega), bsome]
          exact ⟨j + 1, by omega, rfl, rfl⟩
        · rw [if_neg (fun e => c2 ((sign_eq s[j]).2.1 e)), if_neg c2, word_L1 s hs s.length j FU (by omega) (FU_gt (by omega)) (by omega), bsome, List.drop_eq_getElem_cons hj]
          dsimp only
          by_cases c3 : waB s[j] = true
          · have hw : (s[j] :: s.drop (j + 1)) = s.drop j := (List.drop_eq_getElem_cons hj).symm
            have hpos : 1 ≤ ((s[j] :: s.drop (j + 1)).takeWhile waB).length := by rw [List.takeWhile_cons_of_pos c3]; simp
            have hle := tw_le waB (s.drop j)
            rw [List.length_drop] at hle
            rw [if_neg (by omega), if_pos c3, bsome]
            rw [hw] at hpos ⊢
            dsimp only
            rw [cut_of rfl rfl (by omega) (by omega), bsome, List.drop_take, Nat.add_sub_cancel_left, tw_take]
            exact ⟨j + ((s.drop j).takeWhile waB).length, by omega, by rw [← List.drop_drop, tw_drop], rfl⟩
          · rw [if_pos (by rw [List.takeWhile_cons_of_neg c3]; simp), if_neg c3, fail_eq, bsome, bsome]
            exact ⟨_, Int.natCast_nonneg _, rfl⟩
    · dsimp only
      rw [if_pos (by omega), List.drop_eq_nil_of_le (by omega)]
      exact ⟨j, q1, (List.drop_eq_nil_of_le (by omega)).symm, rfl⟩
def RnS {α : Type} (s : List UInt8) (f : Option ((α × (List UInt8 × Int)) ⊕ Int)) : Option (α × LT) → Prop
  | some (a, t) => ∃ j : Nat, j ≤ s.length ∧ t = lex (s.drop j) ∧ f = some (.inl (a, (s, (j : Int))))
  | none => ∃ n : Int, 0 ≤ n ∧ f = some (.inr n)
def RsS (s : List UInt8) (f : Option ((List UInt8 × Int) ⊕ Int)) : Option LT → Prop
  | some t => ∃ j : Nat, j ≤ s.length ∧ t = lex (s.drop j) ∧ f = some (.inl (s, (j : Int)))
  | none => ∃ n : Int, 0 ≤ n ∧ f = some (.inr n)
def elOf : LT → Elt
  | .tok e _ => some e
  | _ => none
theorem peek_run (s : List UInt8) (hs : Sml s) (i : Nat) (h3 : i ≤ s.length) :
    (lex (s.drop i) = .err ∧ ∃ n : Int, 0 ≤ n ∧ address_reader_peek (s, (i : Int)) = some (.inr n)) ∨ (lex (s.drop i) ≠ .err ∧ address_reader_peek (s, (i : Int)) = some (.inl (elOf (lex (s.drop i)), (s, (i : Int))))) := by
  have hn := next_run s hs i h3
  unfold address_reader_peek
  dsimp only
  rw [lex_eq]
  revert hn
  cases nxF (s.drop i) with
  | none => rintro ⟨n, q1, q2⟩; exact .inl ⟨rfl, n, q1, by rw [q2, bsome]⟩
  | some p =>
    obtain ⟨e, r⟩ := p
    rintro ⟨j, q1, q2, q3⟩
    refine .inr ?_
    rw [q3, bsome]
    cases e with
    | none => exact ⟨fun h => (by cases h), rfl⟩
    | some e => exact ⟨fun h => (by cases h), rfl⟩
theorem next_tok (s : List UInt8) (hs : Sml s) (i : Nat) (h3 : i ≤ s.length) {e : UInt8 ⊕ (List UInt8 × Bool)} {t : LT} (h : lex (s.drop i) = .tok e t) :
    ∃ j : Nat, j ≤ s.length ∧ i < j ∧ t = lex (s.drop j) ∧ address_reader_next (s, (i : Int)) = some (.inl (some e, (s, (j : Int)))) := by
  have hn := next_run s hs i h3
  rw [lex_eq] at h
  have hl := @nxF_len (s.drop i)
  revert hn h hl
  cases nxF (s.drop i) with
  | none => intro h; cases h
  | some p =>
    obtain ⟨e', r⟩ := p
    rintro h ⟨j, q1, rfl, q3⟩ hl
    cases e' with
    | none => cases h
    | some e' =>
      dsimp only at h
      injection h with h1 h2
      subst h1 h2
      have := hl rfl (by simp)
      rw [List.length_drop, List.length_drop] at this
      exact ⟨j, q1, by omega, rfl, q3⟩
def wordsS : LT → Option (List (List UInt8 × Bool) × LT)
  | .err => none
  | .eof => some ([], .eof)
  | .tok (.inl c) t => some ([], .tok (.inl c) t)
  | .tok (.inr w) t => (wordsS t).map fun p => (w :: p.1, p.2)
def isS (c : UInt8) : LT → Option (Bool × LT)
  | .err => none
  | .eof => some (false, .eof)
  | .tok (.inr w) t => some (false, .tok (.inr w) t)
  | .tok (.inl d) t => if d = c then some (true, t) else some (false, .tok (.inl d) t)
def needS (c : UInt8) (t : LT) : Option LT := (isS c t).bind fun p => if p.1 = true then some p.2 else none
theorem words_L1 (s : List UInt8) (hs : Sml s) : ∀ (k i m : Nat) (acc : List (List UInt8 × Bool)), s.length - i ≤ k → k < m → i ≤ s.length → acc.length ≤ i →
    RnS s (address_reader_words_L1 m s (i : Int) acc) ((wordsS (lex (s.drop i))).map fun p => (acc ++ p.1, p.2)) := by
  intro k
  induction k with
  | zero =>
    intro i m acc h1 h2 h3 h4
    obtain ⟨m, rfl⟩ : ∃ k, m = k + 1 := ⟨m - 1, by omega⟩
    have he : lex (s.drop i) = .eof := by rw [List.drop_eq_nil_of_le (by omega)]; rfl
    rcases peek_run s hs i h3 with ⟨q1, _⟩ | ⟨_, q2⟩
    · rw [he] at q1; cases q1
    · rw [address_reader_words_L1, q2, bsome, he]
      simp only [elOf, okW_eq, bsome, isW, getW, Bool.false_eq_true, if_false, wordsS, Option.map_some]
      exact ⟨i, h3, he.symm, by rw [List.append_nil]⟩
  | succ k ih =>
    intro i m acc h1 h2 h3 h4
    obtain ⟨m, rfl⟩ : ∃ k, m = k + 1 := ⟨m - 1, by omega⟩
    have hb : s.length ≤ 4294967280 := hs
    rcases peek_run s hs i h3 with ⟨q1, n, q2, q3⟩ | ⟨q1, q2⟩
    · rw [address_reader_words_L1, q3, bsome, q1]
      exact ⟨n, q2, rfl⟩
    · rw [address_reader_words_L1, q2, bsome]
      cases hl : lex (s.drop i) with
      | err => exact absurd hl q1
      | eof =>
        simp only [elOf, okW_eq, bsome, isW, getW, Bool.false_eq_true, if_false, wordsS, Option.map_some]
        exact ⟨i, h3, hl.symm, by rw [List.append_nil]⟩
      | tok e t =>
        cases e with
        | inl c =>
          simp only [elOf, okW_eq, bsome, isW, getW, Bool.false_eq_true, if_false, wordsS, Option.map_some]
          exact ⟨i, h3, hl.symm, by rw [List.append_nil]⟩
        | inr w =>
          obtain ⟨j, w1, w2, rfl, w4⟩ := next_tok s hs i h3 hl
          simp only [elOf, okW_eq, bsome, isW, getW, if_true, w4]
          rw [app_ok (by simp; omega), bsome]
          have h5 := ih j m (acc ++ [w]) (by omega) (by omega) w1 (by rw [List.length_append]; simp; omega)
          rw [wordsS]
          revert h5
          cases wordsS (lex (s.drop j)) with
          | none => exact id
          | some p => simp
theorem words_run (s : List UInt8) (hs : Sml s) (i : Nat) (h3 : i ≤ s.length) : RnS s (address_reader_words (s, (i : Int))) (wordsS (lex (s.drop i))) := by
  have hb : s.length ≤ 4294967280 := hs
  unfold address_reader_words
  dsimp only
  have := words_L1 s hs s.length i FU [] (by omega) (FU_gt (by omega)) h3 (by simp)
  revert this
  cases wordsS (lex (s.drop i)) with
  | none => rintro ⟨n, h1, h2⟩; exact ⟨n, h1, by rw [h2, bsome]⟩
  | some r => rintro ⟨j, h1, h2, h3⟩; exact ⟨j, h1, h2, by rw [h3, bsome]; rfl⟩
theorem is_run (s : List UInt8) (hs : Sml s) (i : Nat) (h3 : i ≤ s.length) (c : UInt8) : RnS s (address_reader_is (s, (i : Int)) c) (isS c (lex (s.drop i))) := by
  unfold address_reader_is
  dsimp only
  rcases peek_run s hs i h3 with ⟨q1, n, q2, q3⟩ | ⟨q1, q2⟩
  · rw [q3, bsome, q1]
    exact ⟨n, q2, rfl⟩
  · rw [q2, bsome]
    dsimp only
    cases hl : lex (s.drop i) with
    | err => exact absurd hl q1
    | eof =>
      dsimp only [isS]
      rw [if_neg (show ¬ elOf LT.eof = eltS c by simp [elOf, eltS])]
      exact ⟨i, h3, hl.symm, rfl⟩
    | tok e t =>
      cases e with
      | inr w =>
        dsimp only [isS]
        rw [if_neg (show ¬ elOf (LT.tok (.inr w) t) = eltS c by simp [elOf, eltS])]
        exact ⟨i, h3, hl.symm, rfl⟩
      | inl d =>
        dsimp only [isS]
        by_cases hd : d = c
        · obtain ⟨j, w1, w2, rfl, w4⟩ := next_tok s hs i h3 hl
          rw [if_pos (show elOf (LT.tok (.inl d) _) = eltS c by rw [hd]; rfl), if_pos hd, w4, bsome]
          exact ⟨j, w1, rfl, rfl⟩
        · rw [if_neg (show ¬ elOf (LT.tok (.inl d) t) = eltS c by intro e; exact hd (by simpa [elOf, eltS] using e)), if_neg hd]
          exact ⟨i, h3, hl.symm, rfl⟩
theorem need_run (s : List UInt8) (hs : Sml s) (i : Nat) (h3 : i ≤ s.length) (c : UInt8) : RsS s (address_reader_need (s, (i : Int)) c) (needS c (lex (s.drop i))) := by
  have h := is_run s hs i h3 c
  unfold address_reader_need needS
  dsimp only
  revert h
  cases isS c (lex (s.drop i)) with
  | none => rintro ⟨n, h1, h2⟩; rw [h2, bsome]; exact ⟨n, h1, rfl⟩
  | some p =>
    obtain ⟨b, t⟩ := p
    rintro ⟨j, h1, h2, h3⟩
    rw [h3, bsome, bsome]
    cases b with
    | true => exact ⟨j, h1, h2, rfl⟩
    | false => exact ⟨_, Int.natCast_nonneg _, rfl⟩
end Go.Ph.Ad
end
section
namespace Go.Ph.Ad
open Go.Ph.Pl Go.Ph.Pf
theorem foldl_app {α β : Type} (f : α → List β) : ∀ (l : List α) (o : List β), l.foldl (fun o a => o ++ f a) o = o ++ l.flatMap f
  | [], o => by simp
  | a :: l, o => by rw [List.foldl_cons, foldl_app f l]; simp
def esc (c : UInt8) : Option (List UInt8) := if c = 34 then some [92, 34] else if c = 92 then some [92, 92] else none
def q1 (c : UInt8) : List UInt8 := (esc c).getD [c]
def qt (p : List UInt8) : List UInt8 := p.flatMap q1
def cnt (p : List UInt8) : Nat := p.countP fun c => (esc c).isSome
theorem tab_at (c : UInt8) : idxO (tabk 2) (c.toNat : Int) = some (esc c) := by
  refine allB (p := fun c => idxO (tabk 2) (c.toNat : Int) = some (esc c)) ?_ c
  decide +kernel
theorem esc_two {c : UInt8} {s : List UInt8} (h : esc c = some s) : s.length = 2 := by
  unfold esc at h
  split at h
  · cases h; rfl
  · split at h
    · cases h; rfl
    · cases h
theorem qt_cons (c : UInt8) (p : List UInt8) : qt (c :: p) = q1 c ++ qt p := rfl
theorem qt_len : ∀ p : List UInt8, (qt p).length = p.length + cnt p
  | [] => rfl
  | c :: p => by
    rw [qt_cons, List.length_append, qt_len p, List.length_cons]
    unfold cnt q1
    rw [List.countP_cons]
    cases h : esc c with
    | none => simp; omega
    | some s => have := esc_two h; simp; omega
theorem qt_id : ∀ p : List UInt8, cnt p = 0 → qt p = p
  | [], h => rfl
  | c :: p, h => by
    unfold cnt at h
    rw [List.countP_cons] at h
    have h2 := qt_id p (by unfold cnt; omega)
    rw [qt_cons, h2]
    unfold q1
    cases h3 : esc c with
    | none => rfl
    | some s => rw [h3] at h; simp at h
theorem cnt_split : ∀ p : List UInt8, cnt p = (p.countP fun c => decide (([34] : List UInt8) = [c])) + (p.countP fun c => decide (([92] : List UInt8) = [c]))
  | [] => rfl
  | c :: p => by
    have := cnt_split p
    unfold cnt at this ⊢
    rw [List.countP_cons, List.countP_cons, List.countP_cons, this]
    unfold esc
    by_cases h1 : c = 34
    · subst h1; simp; omega
    · have h1' : ¬ (34 : UInt8) = c := fun e => h1 e.symm
      by_cases h2 : c = 92
      · subst h2; simp; omega
      · have h2' : ¬ (92 : UInt8) = c := fun e => h2 e.symm
        simp [h1, h2, h1', h2']
theorem rep_L1 (p : List UInt8) (hp : p.length ≤ 1000) : strings_byteStringReplacer_Replace_L1 (tabk 2, trk 2) p FU (p.length : Int) false 0 = some (((p.length + cnt p : Nat) : Int), decide (cnt p ≠ 0)) := by
  rw [cnt_split]
  have c1 : (p.countP fun c => decide (([34] : List UInt8) = [c])) ≤ p.length := List.countP_le_length
  have c2 : (p.countP fun c => decide (([92] : List UInt8) = [c])) ≤ p.length := List.countP_le_length
  have k1 : strings_Count p [34] = some ((p.countP fun c => decide (([34] : List UInt8) = [c]) : Nat) : Int) := by unfold strings_Count; rw [if_pos ⟨rfl, by omega⟩]
  have k2 : strings_Count p [92] = some ((p.countP fun c => decide (([92] : List UInt8) = [c]) : Nat) : Int) := by unfold strings_Count; rw [if_pos ⟨rfl, by omega⟩]
  generalize (p.countP fun c => decide (([34] : List UInt8) = [c])) = a at *
  generalize (p.countP fun c => decide (([92] : List UInt8) = [c])) = b at *
  have t34 : idxO (tabk 2) ((34 : UInt8).toNat : Int) = some (some [92, 34]) := tab_at 34
  have t92 : idxO (tabk 2) ((92 : UInt8).toNat : Int) = some (some [92, 92]) := tab_at 92
  have e0 : idx (trk 2) 0 = some [34] := rfl
  have e1 : idx (trk 2) 1 = some [92] := rfl
  have l2 : ((trk 2).length : Int) = 2 := rfl
  have i34 : idx ([34] : List UInt8) 0 = some 34 := rfl
  have i92 : idx ([92] : List UInt8) 0 = some 92 := rfl
  have g2 : chk (((Option.getD (some ([92, 34] : List UInt8)) []).length : Int) - 1) = some 1 := rfl
  have g3 : chk (((Option.getD (some ([92, 92] : List UInt8)) []).length : Int) - 1) = some 1 := rfl
  have hend : ∀ m x y, strings_byteStringReplacer_Replace_L1 (tabk 2, trk 2) p (m + 1) x y 2 = some (x, y) := fun m x y => by
    rw [strings_byteStringReplacer_Replace_L1]
    dsimp only
    rw [l2, if_neg (by decide)]
  have h1 : ∀ m (x : Nat) y, x ≤ 3000 → strings_byteStringReplacer_Replace_L1 (tabk 2, trk 2) p (m + 1 + 1) (x : Int) y 1 = some (((x + b : Nat) : Int), if b = 0 then y else true) := fun m x y hx => by
    rw [strings_byteStringReplacer_Replace_L1]
    dsimp only
    rw [l2, if_pos (by decide), e1, bsome, k2, bsome]
    by_cases hb : b = 0
    · subst hb
      rw [if_pos rfl, show chk ((1 : Int) + 1) = some 2 from rfl, bsome, hend]; rfl
    · rw [if_neg (by omega), i92, bsome, t92, bsome, g3, bsome, chk_ok (by omega) (by omega), bsome, chk_ok (by omega) (by omega), bsome, show chk ((1 : Int) + 1) = some 2 from rfl, bsome, hend, if_neg hb, show ((x : Int) + (b : Int) * 1) = ((x + b : Nat) : Int) by omega]
  obtain ⟨K, hK⟩ : ∃ K, FU = K + 1 + 1 + 1 := ⟨18446744073709551613, rfl⟩
  rw [hK, strings_byteStringReplacer_Replace_L1]
  dsimp only
  rw [l2, if_pos (by decide), e0, bsome, k1, bsome]
  by_cases ha : a = 0
  · subst ha
    rw [if_pos (show ((0 : Nat) : Int) = 0 from rfl), show chk ((0 : Int) + 1) = some 1 from rfl, bsome, h1 _ _ _ (by omega), Nat.zero_add]
    by_cases hb : b = 0
    · subst hb; rfl
    · rw [if_neg hb, decide_eq_true hb]
  · rw [if_neg (by omega), i34, bsome, t34, bsome, g2, bsome, chk_ok (by omega) (by omega), bsome, chk_ok (by omega) (by omega), bsome, show chk ((0 : Int) + 1) = some 1 from rfl, bsome, show ((p.length : Int) + (a : Int) * 1) = ((p.length + a : Nat) : Int) by omega, h1 _ _ _ (by omega), decide_eq_true (by omega), ite_self, Nat.add_assoc]
theorem rep_L2 (p : List UInt8) (hp : p.length ≤ 1000) : strings_byteStringReplacer_Replace_L2 (tabk 2, trk 2) p FU (p.length : Int) false 0 = some (((p.length + cnt p : Nat) : Int), decide (cnt p ≠ 0)) := by
  have hf : ∀ (l : List UInt8) (a : Nat), l.foldl (fun (s : Nat) c => if (esc c).isSome = true then s + 1 else s) a = a + cnt l := by
    intro l
    induction l with
    | nil => intro a; rfl
    | cons c l ih =>
      intro a
      rw [List.foldl_cons, ih]
      unfold cnt
      rw [List.countP_cons]
      split <;> omega
  have := foldI0 (L := fun m (s : Nat) i => strings_byteStringReplacer_Replace_L2 (tabk 2, trk 2) p m ((p.length + s : Nat) : Int) (decide (s ≠ 0)) i) p (fun (s : Nat) c => if (esc c).isSome = true then s + 1 else s) (fun s => (((p.length + s : Nat) : Int), decide (s ≠ 0))) (fun i s => s ≤ i) (by omega) ?_ ?_ 0 (by omega)
  · rw [hf, Nat.zero_add] at this
    exact this
  · intro m s hs
    rw [strings_byteStringReplacer_Replace_L2, if_neg (by omega)]
  · intro m s i x hx hs
    have hi := (List.getElem?_eq_some_iff.1 hx).1
    refine ⟨by split <;> omega, ?_⟩
    rw [strings_byteStringReplacer_Replace_L2, if_pos (by omega), idx_nat, hx, bsome, tab_at, bsome]
    by_cases h : (esc x).isSome = true
    · obtain ⟨s2, hs2⟩ := Option.isSome_iff_exists.1 h
      have := esc_two hs2
      rw [if_pos h, if_pos h, bsome, hs2, Option.getD_some, this, show chk (((2 : Nat) : Int) - 1) = some 1 from rfl, bsome, chk_ok (by omega) (by omega), bsome, chk_succ (by omega), bsome, decide_eq_true (show s + 1 ≠ 0 by omega)]
      rfl
    · rw [if_neg h, if_neg h, chk_succ (by omega), bsome]
theorem rep_L3 (p : List UInt8) (hp : p.length ≤ 1000) : ∀ (d i m : Nat) (A : List UInt8), p.length - i ≤ d → d < m → i ≤ p.length → A.length ≤ 2 * i →
    strings_byteStringReplacer_Replace_L3 (tabk 2, trk 2) p m (A ++ List.replicate (qt (p.drop i)).length 0) (A.length : Int) (i : Int) = some (A ++ qt (p.drop i)) := by
  intro d
  induction d with
  | zero =>
    intro i m A h1 h2 h3 hA
    obtain ⟨m, rfl⟩ : ∃ k, m = k + 1 := ⟨m - 1, by omega⟩
    rw [strings_byteStringReplacer_Replace_L3, if_neg (by omega), List.drop_eq_nil_of_le (by omega)]; rfl
  | succ d ih =>
    intro i m A h1 h2 h3 hA
    obtain ⟨m, rfl⟩ : ∃ k, m = k + 1 := ⟨m - 1, by omega⟩
    by_cases hi : i < p.length
    · rw [strings_byteStringReplacer_Replace_L3, if_pos (by omega), idx_nat, List.getElem?_eq_getElem hi, bsome, tab_at, bsome, List.drop_eq_getElem_cons hi, qt_cons]
      unfold q1
      cases h : esc p[i] with
      | some s =>
        have hs := esc_two h
        have ht := tab_at p[i]
        rw [Option.isSome_some, if_pos rfl, frm_ok (by simp), bsome, bsome, Option.getD_some, Option.getD_some]
        have hc : cpyO (A ++ List.replicate (s ++ qt (p.drop (i + 1))).length 0) (A.length : Int) s = some ((A ++ s) ++ List.replicate (qt (p.drop (i + 1))).length 0, 2) := by
          unfold cpyO
          rw [Int.toNat_natCast, List.take_left]
          have e1 : s.take ((A ++ List.replicate (s ++ qt (p.drop (i + 1))).length (0 : UInt8)).length - A.length) = s := List.take_of_length_le (by rw [List.length_append, List.length_replicate, List.length_append]; omega)
          rw [e1, hs, List.drop_append, List.drop_eq_nil_of_le (by omega), List.nil_append, List.drop_replicate, show (s ++ qt (p.drop (i + 1))).length - (A.length + 2 - A.length) = (qt (p.drop (i + 1))).length by rw [List.length_append]; omega]
          rfl
        rw [hc, bsome]
        dsimp only
        rw [chk_ok (by omega) (by omega), bsome, chk_succ (by omega), bsome]
        have := ih (i + 1) m (A ++ s) (by omega) (by omega) (by omega) (by simp; omega)
        rw [show ((A ++ s).length : Int) = (A.length : Int) + 2 by simp; omega] at this
        rw [this, List.append_assoc]
      | none =>
        rw [Option.isSome_none, if_neg (by decide), Option.getD_none]
        have e0 : A ++ List.replicate ([p[i]] ++ qt (p.drop (i + 1))).length (0 : UInt8) = A ++ 0 :: List.replicate (qt (p.drop (i + 1))).length 0 := by
          rw [List.length_append, List.length_singleton, Nat.add_comm, List.replicate_succ]
        rw [e0, idx_nat, List.getElem?_append_right (Nat.le_refl _), Nat.sub_self, List.getElem?_cons_zero, bsome, put_ok (by omega) (by simp; omega), bsome, chk_succ (by omega), bsome, chk_succ (by omega), bsome, Int.toNat_natCast, List.set_append_right (h := Nat.le_refl _), Nat.sub_self, List.set_cons_zero]
        have := ih (i + 1) m (A ++ [p[i]]) (by omega) (by omega) (by omega) (by simp; omega)
        rw [show ((A ++ [p[i]]).length : Int) = ((A.length + 1 : Nat) : Int) by simp, List.append_assoc] at this
        rw [show (p[i] :: List.replicate (qt (p.drop (i + 1))).length (0 : UInt8)) = [p[i]] ++ List.replicate (qt (p.drop (i + 1))).length 0 from rfl, this, List.append_assoc]
    · rw [strings_byteStringReplacer_Replace_L3, if_neg (by omega), List.drop_eq_nil_of_le (by omega)]; rfl
theorem replace_eq (p : List UInt8) (hp : p.length ≤ 1000) : strings_Replacer_Replace p = some (qt p) := by
  unfold strings_Replacer_Replace strings_byteStringReplacer_Replace
  have hc : cnt p ≤ p.length := List.countP_le_length
  dsimp only
  rw [show chk (((trk 2).length : Int) * 8) = some 16 from rfl, bsome, rep_L1 p hp, rep_L2 p hp, bsome]
  dsimp only
  rw [ite_self, bsome]
  dsimp only
  by_cases h : cnt p = 0
  · rw [decide_eq_false (by omega), if_neg (by decide), qt_id p h]
  · rw [decide_eq_true h, if_pos rfl, mkS_ok (by omega) (by omega) (by omega) (by omega), bsome, Int.toNat_natCast, ← qt_len]
    have := rep_L3 p hp p.length 0 FU [] (by omega) (FU_gt (by omega)) (by omega) (by simp)
    simp only [List.length_nil, Int.natCast_zero, List.drop_zero, List.nil_append] at this
    rw [this, bsome]
theorem rquote_eq (p : List UInt8) (hp : p.length ≤ 1000) : R_Quote p = some ([34] ++ qt p ++ [34]) := by
  unfold R_Quote
  rw [foldI0 (L := fun m s i => R_Quote_L1 p m s i) p (fun o c => o ++ q1 c) id (fun i s => s.length ≤ 2 * i + 1) (by omega) ?_ ?_ [34] (by simp), foldl_app, bsome]
  · rw [cat_ok (by have := qt_len p; have hc : cnt p ≤ p.length := List.countP_le_length; unfold qt at this; simp at this ⊢; omega), bsome]; rfl
  · intro m s hs
    rw [R_Quote_L1, if_neg (by omega)]; rfl
  · intro m s i x hx hs
    have hi := (List.getElem?_eq_some_iff.1 hx).1
    have hq : q1 x = if x = 34 ∨ x = 92 then [92, x] else [x] := by
      unfold q1 esc
      by_cases h1 : x = 34
      · subst h1; rfl
      · by_cases h2 : x = 92
        · subst h2; rfl
        · simp [h1, h2]
    have hc : (p.take (i + 1)).drop i = [x] := by
      rw [List.getElem?_eq_getElem hi] at hx
      cases hx
      rw [List.drop_take, show i + 1 - i = 1 by omega, List.drop_eq_getElem_cons hi]; rfl
    refine ⟨by rw [hq, List.length_append]; split <;> simp <;> omega, ?_⟩
    rw [R_Quote_L1, if_pos (by omega), idx_nat, hx, bsome, bsome, hq, chk_succ (by omega)]
    by_cases h : x = 34 ∨ x = 92
    · have e : (if x = 34 then some true else some (decide (x = 92))) = some true := by
        rcases h with rfl | rfl <;> rfl
      rw [e, bsome, if_pos rfl, if_pos h, cat_ok (by simp; omega), bsome, bsome, bsome, cut_of rfl rfl (by omega) (by omega), bsome, hc, cat_ok (by simp; omega), bsome, bsome, List.append_assoc]; rfl
    · have e : (if x = 34 then some true else some (decide (x = 92))) = some false := by
        rw [if_neg (fun e => h (.inl e)), decide_eq_false (fun e => h (.inr e))]
      rw [e, bsome, if_neg (by decide), if_neg h, bsome, bsome, cut_of rfl rfl (by omega) (by omega), bsome, hc, cat_ok (by simp; omega), bsome, bsome]
end Go.Ph.Ad
end
section
namespace Go.Ph.Ad
open Go.Ph.Pl Go.Ph.Pf
open Go.Ph.Chs (vld lower lowB)
theorem wa_facts (c : UInt8) : waB c = true → blB c = false ∧ c ≠ 40 ∧ c ≠ 34 ∧ sgB c = false := by
  refine allB (p := fun c => waB c = true → blB c = false ∧ c ≠ 40 ∧ c ≠ 34 ∧ sgB c = false) ?_ c
  decide +kernel
theorem sg_facts (c : UInt8) : sgB c = true → blB c = false ∧ c ≠ 40 ∧ c ≠ 34 ∧ waB c = false := by
  refine allB (p := fun c => sgB c = true → blB c = false ∧ c ≠ 40 ∧ c ≠ 34 ∧ waB c = false) ?_ c
  decide +kernel
theorem lex_nil : lex [] = .eof := rfl
theorem lex_sign {c : UInt8} {l : List UInt8} (h : sgB c = true) : lex (c :: l) = .tok (.inl c) (lex l) := by
  obtain ⟨h1, h2, h3, h4⟩ := sg_facts c h
  rw [lex_eq]
  unfold nxF
  rw [sk_cons, if_neg (by rw [h1]; decide), if_neg h2, bsome]
  dsimp only
  rw [if_neg h3, if_pos h]; rfl
theorem tw_all (p : UInt8 → Bool) : ∀ (w r : List UInt8), w.all p = true → (∀ c l, r = c :: l → p c = false) → (w ++ r).takeWhile p = w ∧ (w ++ r).dropWhile p = r
  | [], r, _, h => by
    cases r with
    | nil => exact ⟨rfl, rfl⟩
    | cons c l =>
      have := h c l rfl
      rw [List.nil_append, List.takeWhile_cons_of_neg (by rw [this]; decide), List.dropWhile_cons_of_neg (by rw [this]; decide)]
      exact ⟨rfl, rfl⟩
  | c :: w, r, h, hr => by
    rw [List.all_cons, Bool.and_eq_true] at h
    obtain ⟨i1, i2⟩ := tw_all p w r h.2 hr
    rw [List.cons_append, List.takeWhile_cons_of_pos h.1, List.dropWhile_cons_of_pos h.1, i1, i2]
    exact ⟨rfl, rfl⟩
theorem lex_word {w r : List UInt8} (hne : w ≠ []) (h : w.all waB = true) (hr : ∀ c l, r = c :: l → waB c = false) : lex (w ++ r) = .tok (.inr (w, false)) (lex r) := by
  obtain ⟨i1, i2⟩ := tw_all waB w r h hr
  cases w with
  | nil => exact absurd rfl hne
  | cons c w =>
    rw [List.all_cons, Bool.and_eq_true] at h
    obtain ⟨h1, h2, h3, h4⟩ := wa_facts c h.1
    rw [lex_eq]
    unfold nxF
    rw [List.cons_append] at i1 i2 ⊢
    rw [sk_cons, if_neg (by rw [h1]; decide), if_neg h2, bsome]
    dsimp only
    rw [if_neg h3, if_neg (by rw [h4]; decide), if_pos h.1, i1, i2]; rfl
theorem quF_qt : ∀ (p r : List UInt8), quF (qt p ++ 34 :: r) = some (p, r)
  | [], r => by
    show quF (34 :: r) = _
    cases r <;> rfl
  | c :: p, r => by
    have ih := quF_qt p r
    rw [qt_cons, List.append_assoc]
    have hne : ∃ y z, qt p ++ 34 :: r = y :: z := by
      cases h : qt p ++ 34 :: r with
      | nil => simp at h
      | cons y z => exact ⟨y, z, rfl⟩
    obtain ⟨y, z, hyz⟩ := hne
    unfold q1 esc
    by_cases h1 : c = 34
    · subst h1
      show quF (92 :: 34 :: (qt p ++ 34 :: r)) = _
      rw [quF, if_neg (by decide), if_pos rfl, ih]; rfl
    · by_cases h2 : c = 92
      · subst h2
        show quF (92 :: 92 :: (qt p ++ 34 :: r)) = _
        rw [quF, if_neg (by decide), if_pos rfl, ih]; rfl
      · rw [if_neg h1, if_neg h2]
        show quF (c :: (qt p ++ 34 :: r)) = _
        rw [hyz, quF, if_neg h1, if_neg h2, ← hyz, ih]; rfl
theorem lex_quote (p r : List UInt8) : lex (34 :: (qt p ++ 34 :: r)) = .tok (.inr (p, true)) (lex r) := by
  rw [lex_eq]
  unfold nxF
  rw [sk_cons, if_neg (by decide), if_neg (by decide), bsome]
  dsimp only
  rw [if_pos rfl, quF_qt]; rfl
theorem dt_all (p : UInt8 → Bool) (hp : ∀ c, p c = true → waB c = true) : ∀ (l : List UInt8) (e : Bool), dtF p e l = true → l.all waB = true ∧ (e = true → l ≠ [])
  | [], e, h => ⟨rfl, fun he => by rw [dtF, he] at h; cases h⟩
  | c :: l, e, h => by
    rw [dtF] at h
    by_cases hc : c = 46
    · rw [if_pos hc] at h
      cases e with
      | true => rw [if_pos rfl] at h; cases h
      | false =>
        rw [if_neg (by decide)] at h
        rw [List.all_cons, (dt_all p hp l true h).1, hc]
        exact ⟨rfl, fun he => by cases he⟩
    · rw [if_neg hc] at h
      by_cases hpc : p c = true
      · rw [if_pos hpc] at h
        rw [List.all_cons, hp c hpc, (dt_all p hp l false h).1]
        exact ⟨rfl, fun _ => by simp⟩
      · rw [if_neg hpc] at h; cases h
theorem at_wa (c : UInt8) (h : atB c = true) : waB c = true := by unfold waB; rw [h]; rfl
theorem do_wa (c : UInt8) : doB c = true → waB c = true := by
  refine allB (p := fun c => doB c = true → waB c = true) ?_ c
  decide +kernel
theorem dom_word {d : List UInt8} (h : domT d = true) : d ≠ [] ∧ d.all waB = true := by
  unfold domT at h
  rw [Bool.and_eq_true] at h
  have := dt_all doB do_wa d true h.2
  exact ⟨this.2 rfl, this.1⟩
def specT (w d : List UInt8) : List UInt8 := if dtF atB true w = true then w ++ 64 :: d else 34 :: (qt w ++ 34 :: 64 :: d)
theorem lex_spec {w d r : List UInt8} (hd : domT d = true) (hr : ∀ c l, r = c :: l → waB c = false) : lex (specT w d ++ r) = .tok (.inr (w, !dtF atB true w)) (.tok (.inl 64) (.tok (.inr (d, false)) (lex r))) := by
  obtain ⟨d1, d2⟩ := dom_word hd
  have hdd : lex (64 :: (d ++ r)) = .tok (.inl 64) (.tok (.inr (d, false)) (lex r)) := by rw [lex_sign (by decide), lex_word d1 d2 hr]
  unfold specT
  cases hw : dtF atB true w with
  | true =>
    obtain ⟨w1, w2⟩ := dt_all atB at_wa w true hw
    rw [if_pos rfl, List.append_assoc, lex_word (w2 rfl) w1 (by rintro c l h; cases h; rfl)]
    rw [List.cons_append, hdd]; rfl
  | false =>
    rw [if_neg (by decide)]
    have : 34 :: (qt w ++ 34 :: 64 :: d) ++ r = 34 :: (qt w ++ 34 :: (64 :: (d ++ r))) := by simp
    rw [this, lex_quote, hdd]; rfl
theorem spec_run (s : List UInt8) (hs : Sml s) (i : Nat) (h3 : i ≤ s.length) (w : List UInt8) (q : Bool) (d : List UInt8) (t : LT) (hl : lex (s.drop i) = .tok (.inl 64) (.tok (.inr (d, false)) t))
    (hwb : w.length ≤ 60) (hw : locT w = true) (hq : q = true ∨ dtF atB true w = true) (hd : domT d = true) : RnS s (address_reader_specific (s, (i : Int)) [(w, q)]) (some (([], w, d), t)) := by
  have hb : s.length ≤ 4294967280 := hs
  unfold address_reader_specific
  have hi : idx [(w, q)] 0 = some (w, q) := rfl
  have hbad : (if ((([(w, q)] : List (List UInt8 × Bool)).length : Int) = (1 : Int)) then (idx [(w, q)] 0).bind fun a5 => (address_local a5.1).bind fun b6 => (if b6 = true then (idx [(w, q)] 0).bind fun a8 => (if a8.2 = true then some false else (idx [(w, q)] 0).bind fun a10 => (address_dotted a10.1).bind fun b11 => some (!b11)) else some true) else some true) = some false := by
    rw [if_pos (show ((([(w, q)] : List (List UInt8 × Bool)).length : Int) = (1 : Int)) from rfl), hi, bsome, local_eq _ (by unfold Big; dsimp only; omega), bsome]
    dsimp only
    rw [hw, if_pos rfl, bsome]
    dsimp only
    cases q with
    | true => rfl
    | false =>
      have hq' : dtF atB true w = true := by rcases hq with h | h; cases h; exact h
      rw [if_neg (by decide), bsome, dotted_eq _ (by dsimp only; omega), bsome]
      dsimp only
      rw [hq']; rfl
  rw [hbad, bsome, if_neg (by decide), bsome]
  dsimp only
  have hn := need_run s hs i h3 64
  rw [hl] at hn
  obtain ⟨j, w1, w2, w3⟩ := hn
  rw [w3, bsome]
  dsimp only
  obtain ⟨k, u1, _, u2, u3⟩ := next_tok s hs j w1 w2.symm
  rw [u3, bsome]
  dsimp only
  rw [okW_eq, bsome]
  dsimp only [getW, isW]
  simp only [if_true, Bool.false_eq_true, if_false, domain_eq, bsome, hd, Bool.not_true, hi]
  exact ⟨k, u1, u2, rfl⟩
theorem item_one (s : List UInt8) (hs : Sml s) (i : Nat) (h3 : i ≤ s.length) (w : List UInt8) (q : Bool) (d : List UInt8) (t : LT) (hl : lex (s.drop i) = .tok (.inr (w, q)) (.tok (.inl 64) (.tok (.inr (d, false)) t)))
    (hwb : w.length ≤ 60) (hw : locT w = true) (hq : q = true ∨ dtF atB true w = true) (hd : domT d = true) : RnS s (address_reader_item (s, (i : Int))) (some (([], false, [([], w, d)]), t)) := by
  unfold address_reader_item
  dsimp only
  have h1 := words_run s hs i h3
  rw [hl] at h1
  obtain ⟨j, w1, w2, w3⟩ := h1
  rw [w3, bsome]
  dsimp only
  have h4 := is_run s hs j w1 58
  rw [← w2] at h4
  obtain ⟨k, u1, u2, u3⟩ := h4
  rw [u3, bsome]
  dsimp only
  rw [if_neg (by decide)]
  unfold address_reader_address
  dsimp only
  have h5 := is_run s hs k u1 60
  rw [← u2] at h5
  obtain ⟨m, v1, v2, v3⟩ := h5
  rw [v3, bsome]
  dsimp only
  rw [if_neg (by decide)]
  obtain ⟨n, x1, x2, x3⟩ := spec_run s hs m v1 w q d t v2.symm hwb hw hq hd
  rw [x3, bsome, bsome]
  exact ⟨n, x1, x2, rfl⟩
theorem one_ok (w d : List UInt8) (hw : locT w = true) (hd : domT d = true) : itemsF [([], false, [([], w, d)])] = (0, 0) := by
  have h1 : sumW [(([] : List UInt8), false, [(([] : List UInt8), w, d)])] = 1 := by rfl
  unfold itemsF
  rw [if_neg (by rw [h1]; simp), listF]
  have : itemF ([], false, [([], w, d)]) = 0 := by
    unfold itemF
    have hd0 : dispF [] = 0 := by rfl
    dsimp only
    rw [if_pos hd0, if_neg (by simp [badI]), memF]
    unfold addrF
    dsimp only
    rw [if_pos hd0, hw, hd]; rfl
  rw [if_pos this]; rfl
theorem parse_one (s : List UInt8) (hs : s.length ≤ 4000) (w : List UInt8) (q : Bool) (d : List UInt8) (hl : lex s = .tok (.inr (w, q)) (.tok (.inl 64) (.tok (.inr (d, false)) .eof)))
    (hwb : w.length ≤ 60) (hdb : d.length ≤ 60) (hw : locT w = true) (hq : q = true ∨ dtF atB true w = true) (hd : domT d = true) : address_Parse s = some ([([], false, [([], w, d)])], (0, 0)) := by
  have hsm : Sml s := by unfold Sml; omega
  unfold address_Parse
  rw [if_neg (by omega)]
  have hl0 : lex (s.drop 0) = .tok (.inr (w, q)) (.tok (.inl 64) (.tok (.inr (d, false)) .eof)) := hl
  have hp := peek_run s hsm 0 (by omega)
  rw [hl0] at hp
  rcases hp with ⟨h, _⟩ | ⟨_, hp⟩
  · cases h
  have hp' : address_reader_peek (s, 0) = some (.inl (elOf (.tok (.inr (w, q)) (.tok (.inl 64) (.tok (.inr (d, false)) .eof))), (s, (0 : Int)))) := hp
  rw [hp', bsome]
  dsimp only
  rw [if_neg (show ¬ elOf (.tok (.inr (w, q)) (.tok (.inl 64) (.tok (.inr (d, false)) .eof))) = none by simp [elOf])]
  obtain ⟨j, w1, w2, w3⟩ := item_one s hsm 0 (by omega) w q d .eof hl0 hwb hw hq hd
  have w3' : address_reader_item (s, 0) = some (.inl (([], false, [([], w, d)]), (s, (j : Int)))) := w3
  rw [w3', bsome]
  dsimp only
  rw [app_ok (by simp), bsome]
  have hi := is_run s hsm j w1 44
  rw [← w2] at hi
  obtain ⟨k, u1, u2, u3⟩ := hi
  rw [FU_pos, address_Parse_L1, u3, bsome]
  dsimp only
  rw [if_neg (by decide), bsome]
  have hp2 := peek_run s hsm k u1
  rw [← u2] at hp2
  rcases hp2 with ⟨h, _⟩ | ⟨_, hp2⟩
  · cases h
  dsimp only
  rw [hp2, bsome]
  dsimp only
  rw [if_pos (show elOf .eof = none from rfl), bsome]
  dsimp only
  have hbl : BigL [(([] : List UInt8), false, [(([] : List UInt8), w, d)])] := by
    refine ⟨by simp, fun x hx => ?_⟩
    rw [List.mem_singleton] at hx
    subst hx
    refine ⟨by simp [Big], by simp, fun a ha => ?_⟩
    rw [List.mem_singleton] at ha
    subst ha
    exact ⟨by simp [Big], by unfold Big; dsimp only; omega, by unfold Big; dsimp only; omega⟩
  rw [List.nil_append, check_eq _ hbl, bsome, one_ok w d hw hd]
  rfl
theorem low_do (c : UInt8) : doB (lowB c) = doB c := by
  refine allB (p := fun c => doB (lowB c) = doB c) ?_ c
  decide +kernel
theorem low_dot (c : UInt8) : (lowB c = 46) ↔ (c = 46) := by
  refine allB (p := fun c => (lowB c = 46) ↔ (c = 46)) ?_ c
  decide +kernel
theorem dt_low : ∀ (l : List UInt8) (e : Bool), dtF doB e (lower l) = dtF doB e l
  | [], e => rfl
  | c :: l, e => by
    show dtF doB e (lowB c :: lower l) = _
    rw [dtF, dtF, dt_low l true, dt_low l false, low_do]
    by_cases h : c = 46
    · rw [if_pos h, if_pos ((low_dot c).2 h)]
    · rw [if_neg h, if_neg (fun e => h ((low_dot c).1 e))]
theorem dom_low {d : List UInt8} (h : domT d = true) : domT (lower d) = true := by
  unfold domT at h ⊢
  rw [dt_low, Chs.lower_len]
  exact h
theorem loc_len {w : List UInt8} (h : locT w = true) : w.length ≤ 60 := by
  unfold locT at h
  rw [Bool.and_eq_true, decide_eq_true_eq] at h
  omega
theorem dom_len {d : List UInt8} (h : domT d = true) : d.length ≤ 60 := by
  unfold domT at h
  rw [Bool.and_eq_true, decide_eq_true_eq] at h
  omega
theorem qt_le (p : List UInt8) : (qt p).length ≤ 2 * p.length := by
  rw [qt_len]
  have : cnt p ≤ p.length := List.countP_le_length
  omega
theorem specT_len (w d : List UInt8) : (specT w d).length ≤ 2 * w.length + d.length + 3 := by
  unfold specT
  have := qt_le w
  split <;> simp <;> omega
theorem specification_eq (a : Adr) (hw : a.2.1.length ≤ 60) (hd : a.2.2.length ≤ 60) : address_specification a = some (specT a.2.1 a.2.2) := by
  unfold address_specification specT
  have h1 := qt_le a.2.1
  rw [dotted_eq _ (by omega), bsome]
  cases dtF atB true a.2.1 with
  | true =>
    rw [if_pos rfl, if_pos rfl, cat_ok (by simp; omega), bsome, cat_ok (by simp; omega), bsome]; simp
  | false =>
    rw [if_neg (by decide), if_neg (by decide)]
    unfold address_quoted
    have hr : strings_NewReplacer ([[92], [92, 92], [34], [92, 34]] : List (List UInt8)) = some () := by unfold strings_NewReplacer; rw [if_pos rfl]
    rw [hr, bsome, replace_eq _ (by omega), bsome, cat_ok (by simp; omega), bsome, cat_ok (by simp; omega), bsome, bsome, cat_ok (by simp; omega), bsome, cat_ok (by simp; omega), bsome]; simp
theorem rspec_eq (a : Adr) (hw : a.2.1.length ≤ 60) (hd : a.2.2.length ≤ 60) : R_SpecOf a = some (specT a.2.1 a.2.2) := by
  unfold R_SpecOf specT
  have h1 := qt_le a.2.1
  rw [rdotA_eq _ (by unfold Big; omega), bsome]
  cases dtF atB true a.2.1 with
  | true =>
    rw [if_pos rfl, if_pos rfl, cat_ok (by simp; omega), bsome, cat_ok (by simp; omega), bsome]; simp
  | false =>
    rw [if_neg (by decide), if_neg (by decide), rquote_eq _ (by omega), bsome, cat_ok (by simp; omega), bsome, cat_ok (by simp; omega), bsome]; simp
theorem sameI_L1 (l : List Itm) (h : l.length ≤ 140737488355328) (hm : ∀ x ∈ l, x.2.2.length ≤ 140737488355328) : ∀ (k i m : Nat), l.length - i ≤ k → k < m → i ≤ l.length → R_SameItems_L1 l l m (i : Int) = some (.inl ()) := by
  intro k
  induction k with
  | zero =>
    intro i m h1 h2 h3
    obtain ⟨m, rfl⟩ : ∃ k, m = k + 1 := ⟨m - 1, by omega⟩
    obtain rfl : i = l.length := by omega
    rw [R_SameItems_L1, if_neg (by omega)]
  | succ k ih =>
    intro i m h1 h2 h3
    obtain ⟨m, rfl⟩ : ∃ k, m = k + 1 := ⟨m - 1, by omega⟩
    by_cases hi : i < l.length
    · rw [R_SameItems_L1, if_pos (by omega), idx_nat, List.getElem?_eq_getElem hi]
      simp only [bsome, if_true, sameA_refl _ (hm _ (List.getElem_mem hi)), Bool.not_true, Bool.false_eq_true, if_false]
      rw [chk_succ (by omega), bsome]
      exact ih (i + 1) m (by omega) (by omega) (by omega)
    · obtain rfl : i = l.length := by omega
      rw [R_SameItems_L1, if_neg (by omega)]
theorem sameI_refl (l : List Itm) (h : l.length ≤ 140737488355328) (hm : ∀ x ∈ l, x.2.2.length ≤ 140737488355328) : R_SameItems l l = some true := by
  unfold R_SameItems
  rw [if_pos rfl, show (0 : Int) = ((0 : Nat) : Int) from rfl, sameI_L1 l h hm l.length 0 FU (by omega) (FU_gt (by omega)) (by omega)]
  rfl
theorem addrF_ok {a : Adr} (h : (addrF a).1 = 0) : dispF a.1 = 0 ∧ locT a.2.1 = true ∧ domT a.2.2 = true ∧ addrF a = (0, 0) := by
  unfold addrF at h ⊢
  by_cases h1 : dispF a.1 = 0
  · rw [if_pos h1] at h ⊢
    cases hw : locT a.2.1 with
    | false => rw [hw] at h; cases h
    | true =>
      rw [hw] at h
      cases hd : domT a.2.2 with
      | false => rw [hd] at h; cases h
      | true => exact ⟨h1, rfl, rfl, rfl⟩
  · rw [if_neg h1] at h
    exact absurd h h1
theorem normal_law (hex : L_addressExample = some true) (a : Adr) (ha : BigA a) : L_AddressNormalMatchesSpec a = some true := by
  unfold L_AddressNormalMatchesSpec
  rw [hex, bsome, if_pos rfl]
  have hl : basic_Lower a.2.2 = some (lower a.2.2) := by unfold basic_Lower; rw [if_pos (by have := ha.2.2; omega)]
  have hrl : R_Lower a.2.2 = some (lower a.2.2) := by unfold R_Lower; rw [if_pos (by have := ha.2.2; omega)]
  unfold address_Normal
  rw [validate_eq a ha, raddr_eq a ha]
  by_cases h : (addrF a).1 = 0
  · obtain ⟨h1, h2, h3, h4⟩ := addrF_ok h
    have n1 := loc_len h2
    have n2 := dom_len h3
    have n3 : (lower a.2.2).length ≤ 60 := by rw [Chs.lower_len]; exact n2
    have hlow := dom_low h3
    have hsp : address_specification (a.1, a.2.1, lower a.2.2) = some (specT a.2.1 (lower a.2.2)) := specification_eq (a.1, a.2.1, lower a.2.2) n1 n3
    have hrs : R_SpecOf ([], a.2.1, lower a.2.2) = some (specT a.2.1 (lower a.2.2)) := rspec_eq ([], a.2.1, lower a.2.2) n1 n3
    have hsl := specT_len a.2.1 (lower a.2.2)
    have hlx := lex_spec (w := a.2.1) (r := []) hlow (by rintro c l h; cases h)
    rw [List.append_nil, lex_nil] at hlx
    have hp := parse_one (specT a.2.1 (lower a.2.2)) (by omega) a.2.1 (!dtF atB true a.2.1) (lower a.2.2) hlx n1 n3 h2 (by cases dtF atB true a.2.1 <;> simp) hlow
    rw [h4]
    simp only [bsome, failed_eq, decide_true, Bool.not_true, Bool.false_eq_true, if_false, hl, hrl, hsp, none_eq, if_true, hp, hrs]
    rw [sameI_refl _ (by simp) (by intro x hx; rw [List.mem_singleton] at hx; subst hx; simp)]
    rfl
  · obtain ⟨u, v, huv⟩ : ∃ u v, addrF a = (u, v) := ⟨_, _, rfl⟩
    rw [huv] at h ⊢
    have hu : ¬ u = 0 := h
    simp only [bsome, failed_eq, decide_eq_false hu, Bool.not_false, if_true, if_neg hu, and_self, decide_true]
end Go.Ph.Ad
end
