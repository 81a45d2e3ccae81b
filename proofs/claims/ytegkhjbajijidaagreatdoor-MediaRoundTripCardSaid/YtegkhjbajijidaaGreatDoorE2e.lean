/-
  Mct4, Mct5, Mct6, Na, Nb, Nc, Nl, Nd, Ne, Nf, Ng, Nh, Ni, Nj, Nk: own texts of this repository (wip/tpl, wip/plans), merged and shaken by wip/tools/pack.py.
-/
import Derived.KernelRfl
import Derived.Test.YtegkhjbajijidaaGreatDoorE2d
set_option maxRecDepth 100000
set_option linter.unusedVariables false
set_option linter.unusedSimpArgs false
section
namespace Go.Proofs.YtegkhjbajijidaaGreatDoor
open Go Go.RowKit Go.Ph Go.Ph.Pl Go.Ph.Pf
theorem R_SameMedia_ct {p0 : (List UInt8 × List UInt8 × List (List UInt8 × List UInt8))} {p1 : (List UInt8 × List UInt8 × List (List UInt8 × List UInt8))} {vp0_2 : Value} {vp1_2 : Value} {r : Bool} (h : R_SameMedia p0 p1 = some r) : Ct Tryz.prog 16 [Value.agg #[S p0.1, S p0.2.1, vp0_2], Value.agg #[S p1.1, S p1.2.1, vp1_2]] (fun M => SlS M 2 xenc47 vp0_2 p0.2.2 ∧ SlS M 2 xenc47 vp1_2 p1.2.2) (fun v M => v = Value.bool r) := by
  refine Ct.of Tryz.func16 (enters Tryz.func16 (by kernel_rfl) rfl) rfl rfl rfl ?_
  intro w0 M0 H hp
  obtain ⟨hp0_2, hp1_2⟩ := hp
  unfold R_SameMedia at h
  refine SQ (RG (WR.box [_, _, _] H rfl rfl (Wn.none rfl) rfl ?_))
  intro bk2 w H
  refine WR.box [_, _, _] H rfl rfl (Wn.none rfl) rfl ?_
  intro bk3 w H
  refine AS rfl rfl (NL (TN (SQ (SQ ?_))))
  obtain ⟨o1, e2, h⟩ := bnd h
  refine WC.cutX (fun e w => ∃ (b3 : Bool) (M : Mem), e = [(2, ptr bk2 0), (3, ptr bk3 0), (26, Value.bool b3)] ∧ St w0 M0 M [.blk bk2 (.cells #[S p0.1, S p0.2.1, vp0_2] 24), .blk bk3 (.cells #[S p1.1, S p1.2.1, vp1_2] 24)] w ∧ SlS M 2 xenc47 vp0_2 p0.2.2 ∧ SlS M 2 xenc47 vp1_2 p1.2.2 ∧ some b3 = some o1) [] ?_ ?_ (trivial)
  ·
   refine RG (ST (Ex.fieldAddr Tryz.underlying24 rfl Tryz.sizeOf9 (by decide) rfl) rfl (ST (Ex.load1 H rfl (by repeat first | exact kMh | apply kMt) Tryz.isAgg9 (by rfl)) rfl ?_))
   refine ST (Ex.fieldAddr Tryz.underlying24 rfl Tryz.sizeOf9 (by decide) rfl) rfl (ST (Ex.load1 H rfl (by repeat first | exact kMh | apply kMt) Tryz.isAgg9 (by rfl)) rfl ?_)
   by_cases hk4 : p0.1 = p1.1
   ·
    rw [if_pos hk4] at e2
    by_cases hk5 : p0.2.1 = p1.2.1
    ·
     rw [if_pos hk5] at e2
     refine WR.stepE (v' := .bool false) (Ex.strNeqC rfl rfl) (congrArg Value.bool (by rw [decide_eq_true hk4]; rfl)) (Wn.none rfl) rfl rfl ?_
     refine MV rfl rfl (SG (Ex.fieldAddr Tryz.underlying24 rfl Tryz.sizeOf9 (by decide) rfl) rfl rfl rfl (SG (Ex.load1 H rfl (by repeat first | exact kMh | apply kMt) Tryz.isAgg9 (by rfl)) rfl rfl rfl ?_))
     refine SG (Ex.fieldAddr Tryz.underlying24 rfl Tryz.sizeOf9 (by decide) rfl) rfl rfl rfl (SG (Ex.load1 H rfl (by repeat first | exact kMh | apply kMt) Tryz.isAgg9 (by rfl)) rfl rfl rfl ?_)
     refine WR.stepE (v' := .bool false) (Ex.strNeqC rfl rfl) (congrArg Value.bool (by rw [decide_eq_true hk5]; rfl)) (Wn.some rfl rfl rfl) rfl rfl ?_
     refine PF rfl rfl rfl (MV rfl rfl (SG (Ex.fieldAddr Tryz.underlying24 rfl Tryz.sizeOf22 (by decide) rfl) rfl rfl rfl (SG (Ex.load1 H rfl (by repeat first | exact kMh | apply kMt) Tryz.isAgg22 (by rfl)) rfl rfl rfl ?_)))
     refine SG (Ex.lenSlS Tryz.underlying22 hp0_2 rfl) rfl rfl rfl (SG (Ex.fieldAddr Tryz.underlying24 rfl Tryz.sizeOf22 (by decide) rfl) rfl rfl rfl (SG (Ex.load1 H rfl (by repeat first | exact kMh | apply kMt) Tryz.isAgg22 (by rfl)) rfl rfl rfl ?_))
     refine SG (Ex.lenSlS Tryz.underlying22 hp1_2 rfl) rfl rfl rfl (SG (Ex.neqC rfl rfl) rfl rfl rfl (PF rfl rfl rfl (NL ?_)))
     exact WQ.meetN [(2, _), (3, _), (26, _)] ⟨rfl, rfl, rfl, trivial⟩ ⟨_, _, rfl, (H.pick (L' := [.blk bk2 (.cells #[S p0.1, S p0.2.1, vp0_2] 24), .blk bk3 (.cells #[S p1.1, S p1.2.1, vp1_2] 24)]) (by repeat first | exact kPn | refine kPc (by repeat first | exact .head | apply Rem.tail) ?_)), hp0_2, hp1_2, e2⟩
    ·
     rw [if_neg hk5] at e2
     refine WR.stepE (v' := .bool false) (Ex.strNeqC rfl rfl) (congrArg Value.bool (by rw [decide_eq_true hk4]; rfl)) (Wn.none rfl) rfl rfl ?_
     refine MV rfl rfl (SG (Ex.fieldAddr Tryz.underlying24 rfl Tryz.sizeOf9 (by decide) rfl) rfl rfl rfl (SG (Ex.load1 H rfl (by repeat first | exact kMh | apply kMt) Tryz.isAgg9 (by rfl)) rfl rfl rfl ?_))
     refine SG (Ex.fieldAddr Tryz.underlying24 rfl Tryz.sizeOf9 (by decide) rfl) rfl rfl rfl (SG (Ex.load1 H rfl (by repeat first | exact kMh | apply kMt) Tryz.isAgg9 (by rfl)) rfl rfl rfl ?_)
     refine WR.stepE (v' := .bool true) (Ex.strNeqC rfl rfl) (congrArg Value.bool (by rw [decide_eq_false hk5]; rfl)) (Wn.some rfl rfl rfl) rfl rfl ?_
     refine PF rfl rfl rfl (MV rfl rfl (WR.skipN 7 rfl rfl (PT rfl rfl rfl (NL ?_))))
     exact WQ.meetN [(2, _), (3, _), (26, _)] ⟨rfl, rfl, rfl, trivial⟩ ⟨_, _, rfl, (H.pick (L' := [.blk bk2 (.cells #[S p0.1, S p0.2.1, vp0_2] 24), .blk bk3 (.cells #[S p1.1, S p1.2.1, vp1_2] 24)]) (by repeat first | exact kPn | refine kPc (by repeat first | exact .head | apply Rem.tail) ?_)), hp0_2, hp1_2, e2⟩
   ·
    rw [if_neg hk4] at e2
    refine WR.stepE (v' := .bool true) (Ex.strNeqC rfl rfl) (congrArg Value.bool (by rw [decide_eq_false hk4]; rfl)) (Wn.none rfl) rfl rfl ?_
    refine MV rfl rfl (WR.skipN 5 rfl rfl (PT rfl rfl rfl (MV rfl rfl (WR.skipN 7 rfl rfl (PT rfl rfl rfl (NL ?_))))))
    exact WQ.meetN [(2, _), (3, _), (26, _)] ⟨rfl, rfl, rfl, trivial⟩ ⟨_, _, rfl, (H.pick (L' := [.blk bk2 (.cells #[S p0.1, S p0.2.1, vp0_2] 24), .blk bk3 (.cells #[S p1.1, S p1.2.1, vp1_2] 24)]) (by repeat first | exact kPn | refine kPc (by repeat first | exact .head | apply Rem.tail) ?_)), hp0_2, hp1_2, e2⟩
  ·
   rintro e w ⟨b3, M, rfl, H, hp0_2, hp1_2, q6⟩
   obtain rfl := Option.some.inj q6
   refine TN ?_
   refine WC.condB rfl (fun hk7 => ?_) (fun hk7 => ?_)
   ·
    subst hk7
    rw [if_pos rfl] at h
    refine SQ (RG (AS rfl rfl (NL (TN (RT ?_)))))
    obtain rfl := Option.some.inj h
    exact WQ.ret1 rfl rfl H.ext rfl
   ·
    subst hk7
    rw [if_neg Bool.false_ne_true] at h
    refine SK (TN (SQ (SQ (RG (AS rfl rfl (NL (TN ?_)))))))
    obtain ⟨o8, e9, h⟩ := bnd h
    refine WC.cutX (fun e w => ∃  (M : Mem), e = [] ∧ St w0 M0 M [] w ∧ some (.inl ()) = some o8) [] ?_ ?_ (trivial)
    ·
     refine BL (WC.loopP (fun m e w => ∃ (n10 : Int) (M : Mem), e = [(2, ptr bk2 0), (3, ptr bk3 0), (5, I n10)] ∧ St w0 M0 M [.blk bk2 (.cells #[S p0.1, S p0.2.1, vp0_2] 24), .blk bk3 (.cells #[S p1.1, S p1.2.1, vp1_2] 24)] w ∧ SlS M 2 xenc47 vp0_2 p0.2.2 ∧ SlS M 2 xenc47 vp1_2 p1.2.2 ∧ R_SameMedia_L1 p0 p1 m n10 = some o8) FU [(2, _), (3, _), (5, _)] ⟨rfl, rfl, rfl, trivial⟩ ⟨_, _, rfl, H, hp0_2, hp1_2, e9⟩ ?_)
     rintro m11 e w ⟨n10, M, rfl, H, hp0_2, hp1_2, e9⟩
     rcases m11 with _ | m11
     · rw [R_SameMedia_L1] at e9; cases e9
     rw [R_SameMedia_L1] at e9
     refine SQ (SQ (RG (MV rfl rfl (ST (Ex.fieldAddr Tryz.underlying24 rfl Tryz.sizeOf22 (by decide) rfl) rfl (ST (Ex.load1 H rfl (by repeat first | exact kMh | apply kMt) Tryz.isAgg22 (by rfl)) rfl ?_)))))
     refine ST (Ex.lenSlS Tryz.underlying22 hp0_2 rfl) rfl (ST (Ex.lss rfl rfl) rfl (NL (TN ?_)))
     refine WC.condB rfl (fun hk12 => ?_) (fun hk12 => ?_)
     ·
      replace hk12 : n10 < (p0.2.2.length : Int) := of_decide_eq_true hk12
      rw [if_pos hk12] at e9
      refine SK (TN (SQ (BL (SQ ?_))))
      obtain ⟨a13, hxa13, e9⟩ := bnd e9
      obtain ⟨bk37, o37, ha37, hc37⟩ := hp0_2.atC hxa13
      obtain ⟨a14, hxa14, e9⟩ := bnd e9
      obtain ⟨bk42, o42, ha42, hc42⟩ := hp1_2.atC hxa14
      refine WC.cutP (fun e w => ∃  (M : Mem), e = [(2, ptr bk2 0), (3, ptr bk3 0), (5, I n10), (44, Value.bool (!decide (a13.1 = a14.1 ∧ a13.2 = a14.2)))] ∧ St w0 M0 M [.blk bk2 (.cells #[S p0.1, S p0.2.1, vp0_2] 24), .blk bk3 (.cells #[S p1.1, S p1.2.1, vp1_2] 24)] w ∧ SlS M 2 xenc47 vp0_2 p0.2.2 ∧ SlS M 2 xenc47 vp1_2 p1.2.2) ?_ ?_
      ·
       refine WC.draw (m := 11) rfl rfl H ?_
       intro w H
       refine WA.take (i := 0) rfl (by kernel_rfl) (by kernel_rfl) (by kernel_rfl) (fun _ => Ex.fieldAddr Tryz.underlying24 rfl Tryz.sizeOf22 (by decide) rfl) (Wn.none rfl) rfl rfl (fun _ _ => rfl) (WA.take (i := 2) rfl (by kernel_rfl) (by kernel_rfl) (by kernel_rfl) (fun _ => Ex.move rfl) (Wn.none rfl) rfl rfl (fun _ _ => rfl) (WA.take (i := 5) rfl (by kernel_rfl) (by kernel_rfl) (by kernel_rfl) (fun _ => Ex.fieldAddr Tryz.underlying24 rfl Tryz.sizeOf22 (by decide) rfl) (Wn.none rfl) rfl rfl (fun _ _ => rfl) (WA.take (i := 7) rfl (by kernel_rfl) (by kernel_rfl) (by kernel_rfl) (fun _ => Ex.move rfl) (Wn.none rfl) rfl rfl (fun _ _ => rfl) ?_)))
       refine WA.two (i := 1) (j := 6) (by kernel_rfl) rfl rfl ?_ ?_
       ·
        refine ST (Ex.load1 H rfl (by repeat first | exact kMh | apply kMt) Tryz.isAgg22 (by rfl)) rfl ?_
        refine NA (WA.take (i := 3) rfl (by kernel_rfl) (by kernel_rfl) (by kernel_rfl) (fun _ => Ex.idxAt ha37 Tryz.underlying22 Tryz.sizeOf47 rfl rfl) (Wn.none rfl) rfl rfl (fun _ _ => rfl) (WA.takeM (i := 6) [4] rfl (by kernel_rfl) (by kernel_rfl) (by kernel_rfl) (Ex.load1 H rfl (by repeat first | exact kMh | apply kMt) Tryz.isAgg22 (by rfl)) (Wn.none rfl) rfl rfl (fun _ _ => rfl) ?_))
        refine WA.take (i := 8) rfl (by kernel_rfl) (by kernel_rfl) (by kernel_rfl) (fun _ => Ex.idxAt ha42 Tryz.underlying22 Tryz.sizeOf47 rfl rfl) (Wn.none rfl) rfl rfl (fun _ _ => rfl) (WA.takeM (i := 4) [9] rfl (by kernel_rfl) (by kernel_rfl) (by kernel_rfl) (Ex.loadAggM H rfl hc37 Tryz.isAgg47 Tryz.sizeOf47 (by rfl)) (Wn.none rfl) rfl rfl (fun _ _ => rfl) ?_)
        refine WA.seq (fuel := 0) [9, 10] rfl (by kernel_rfl) (ST (Ex.loadAggM H rfl hc42 Tryz.isAgg47 Tryz.sizeOf47 (by rfl)) rfl ?_)
        refine ST (Ex.neqAggC rfl rfl (by kernel_rfl) (xeq47 a13.1 a14.1 a13.2 a14.2)) rfl (NA (WA.done (by kernel_rfl) ?_))
        exact WQ.meetP [(2, _), (3, _), (5, _), (44, _)] ⟨rfl, rfl, rfl, rfl, trivial⟩ ⟨_, rfl, H, hp0_2, hp1_2⟩
       ·
        refine ST (Ex.load1 H rfl (by repeat first | exact kMh | apply kMt) Tryz.isAgg22 (by rfl)) rfl ?_
        refine NA (WA.take (i := 8) rfl (by kernel_rfl) (by kernel_rfl) (by kernel_rfl) (fun _ => Ex.idxAt ha42 Tryz.underlying22 Tryz.sizeOf47 rfl rfl) (Wn.none rfl) rfl rfl (fun _ _ => rfl) (WA.takeM (i := 1) [9] rfl (by kernel_rfl) (by kernel_rfl) (by kernel_rfl) (Ex.load1 H rfl (by repeat first | exact kMh | apply kMt) Tryz.isAgg22 (by rfl)) (Wn.none rfl) rfl rfl (fun _ _ => rfl) ?_))
        refine WA.take (i := 3) rfl (by kernel_rfl) (by kernel_rfl) (by kernel_rfl) (fun _ => Ex.idxAt ha37 Tryz.underlying22 Tryz.sizeOf47 rfl rfl) (Wn.none rfl) rfl rfl (fun _ _ => rfl) (WA.takeM (i := 4) [9] rfl (by kernel_rfl) (by kernel_rfl) (by kernel_rfl) (Ex.loadAggM H rfl hc37 Tryz.isAgg47 Tryz.sizeOf47 (by rfl)) (Wn.none rfl) rfl rfl (fun _ _ => rfl) ?_)
        refine WA.seq (fuel := 0) [9, 10] rfl (by kernel_rfl) (ST (Ex.loadAggM H rfl hc42 Tryz.isAgg47 Tryz.sizeOf47 (by rfl)) rfl ?_)
        refine ST (Ex.neqAggC rfl rfl (by kernel_rfl) (xeq47 a13.1 a14.1 a13.2 a14.2)) rfl (NA (WA.done (by kernel_rfl) ?_))
        exact WQ.meetP [(2, _), (3, _), (5, _), (44, _)] ⟨rfl, rfl, rfl, rfl, trivial⟩ ⟨_, rfl, H, hp0_2, hp1_2⟩
      ·
       rintro e w ⟨M, rfl, H, hp0_2, hp1_2⟩
       refine TN ?_
       refine WC.condB rfl (fun hk15 => ?_) (fun hk15 => ?_)
       ·
        replace hk15 : ¬ (a13.1 = a14.1 ∧ a13.2 = a14.2) := of_not_decide hk15
        rw [if_neg hk15] at e9
        refine SQ (RG (AS rfl rfl (NL (TN (RT ?_)))))
        obtain rfl := Option.some.inj e9
        try dsimp only at h
        obtain rfl := Option.some.inj h
        exact WQ.ret1 rfl rfl H.ext rfl
       ·
        replace hk15 : a13.1 = a14.1 ∧ a13.2 = a14.2 := of_not_decide' hk15
        rw [if_pos hk15] at e9
        refine SK (IB (TN ?_))
        obtain ⟨n16, hxn16, e9⟩ := bnd e9
        refine RG (MV rfl rfl (ST (Ex.addC rfl rfl hxn16) rfl (AS rfl rfl (NL ?_))))
        exact WQ.againP m11 [(2, _), (3, _), (5, _)] ⟨rfl, rfl, rfl, trivial⟩ ⟨_, _, rfl, H, hp0_2, hp1_2, e9⟩ (Nat.lt_succ_self _)
     ·
      replace hk12 : ¬ (n10 < (p0.2.2.length : Int)) := of_decide_eq_false hk12
      rw [if_neg hk12] at e9
      refine WC.exit (WQ.thenExit (WQ.thenExit (WQ.exitHere ?_)))
      exact WQ.meetN [] trivial ⟨_, rfl, (H.pick (L' := []) (by repeat first | exact kPn | refine kPc (by repeat first | exact .head | apply Rem.tail) ?_)), e9⟩
    ·
     rintro e w ⟨M, rfl, H, q17⟩
     obtain rfl := Option.some.inj q17
     try dsimp only at h
     refine TN (SQ (RG (AS rfl rfl (NL (TN (RT ?_))))))
     obtain rfl := Option.some.inj h
     exact WQ.ret1 rfl rfl H.ext rfl
end Go.Proofs.YtegkhjbajijidaaGreatDoor
end
section
namespace Go.Proofs.YtegkhjbajijidaaGreatDoor
open Go Go.RowKit Go.Ph Go.Ph.Pl Go.Ph.Pf
end Go.Proofs.YtegkhjbajijidaaGreatDoor
end
section
namespace Go.Proofs.YtegkhjbajijidaaGreatDoor
open Go Go.RowKit Go.Ph Go.Ph.Pl Go.Ph.Pf
theorem L_MediaRoundTrip_ct {p0 : (List UInt8 × List UInt8 × List (List UInt8 × List UInt8))} {vp0_2 : Value} {r : Bool} (h : L_MediaRoundTrip p0 = some r) : Ct Tryz.prog 5 [Value.agg #[S p0.1, S p0.2.1, vp0_2]] (fun M => GlF (fun w => ∃ tp p, w.var? Tryz.prog "strconv.ErrRange" = some #[.iface tp p]) M ∧ GlF (fun w => ∃ tp p, w.var? Tryz.prog "strconv.ErrSyntax" = some #[.iface tp p]) M ∧ GlF (fun w => ∃ m, w.cell? ⟨2, 0, none⟩ = some (.int .i64 m)) M ∧ GlF (fun w => Lib.TabIs Tryz.prog w "internal/strconv.uint64pow10" .u64 Lib.pow10Tab) M ∧ Tabs M ∧ SlS M 2 xenc47 vp0_2 p0.2.2) (fun v M => v = Value.bool r) := by
  refine Ct.of Tryz.func5 (enters Tryz.func5 (by kernel_rfl) rfl) rfl rfl rfl ?_
  intro w0 M0 H hp
  obtain ⟨hg_errR, hg_errS, hg_maxl, hg_pow10, hg_tabs, hp0_2⟩ := hp
  unfold L_MediaRoundTrip at h
  refine SQ (RG (WR.box [_, _, _] H rfl rfl (Wn.none rfl) rfl ?_))
  intro bk1 w H
  refine AS rfl rfl (NL (TN (SQ (SQ ?_))))
  obtain ⟨b1, hx2, h⟩ := bnd h
  refine RG (WR.call H (L_mediaExample_ct hx2) rfl ⟨hg_errR, hg_errS, hg_maxl, hg_pow10, hg_tabs⟩ (Wn.none rfl) rfl ?_)
  intro v7 M w H hle hR
  replace hg_errR := hg_errR.mono hle
  replace hg_errS := hg_errS.mono hle
  replace hg_maxl := hg_maxl.mono hle
  replace hg_pow10 := hg_pow10.mono hle
  replace hg_tabs := hg_tabs.mono hle
  replace hp0_2 := hp0_2.mono hle
  obtain rfl := hR
  refine ST (Ex.not rfl) rfl (NL (TN ?_))
  refine WC.condB rfl (fun hk3 => ?_) (fun hk3 => ?_)
  ·
   replace hk3 : b1 = false := by simpa using hk3
   subst hk3
   rw [if_neg Bool.false_ne_true] at h
   refine SQ (RG (AS rfl rfl (NL (TN (RT ?_)))))
   obtain rfl := Option.some.inj h
   exact WQ.ret1 rfl rfl H.ext rfl
  ·
   replace hk3 : b1 = true := by simpa using hk3
   subst hk3
   rw [if_pos rfl] at h
   refine SK (TN (SQ ?_))
   obtain ⟨⟨s4, ⟨n5, n6⟩⟩, hx7, h⟩ := bnd h
   try dsimp only at h
   refine RG (ST (Ex.loadAgg H rfl (by repeat first | exact kMh | apply kMt) Tryz.isAgg24 Tryz.sizeOf24 (by rfl)) rfl ?_)
   refine WR.call H (media_Print_ct hx7) rfl ⟨hg_pow10, hg_tabs, hp0_2⟩ (Wn.none rfl) rfl ?_
   intro v11 M w H hle hR
   replace hg_errR := hg_errR.mono hle
   replace hg_errS := hg_errS.mono hle
   replace hg_maxl := hg_maxl.mono hle
   replace hg_pow10 := hg_pow10.mono hle
   replace hg_tabs := hg_tabs.mono hle
   replace hp0_2 := hp0_2.mono hle
   try dsimp only at hR
   obtain rfl := hR
   refine MV rfl rfl (ST (Ex.extract rfl rfl) rfl (ST (Ex.extract rfl rfl) rfl (WR.alloc [_, _] H Tryz.zeroValue27 rfl (Wn.none rfl) rfl ?_)))
   intro bk4 w H
   refine AS rfl rfl (WR.store [_, _] H rfl rfl rfl (by repeat first | exact .head | apply Upd.tail) Tryz.sizeOf27 rfl (by rfl) (by rfl) (Wn.none rfl) ?_)
   intro w H
   refine NL (TN (SQ (SQ (RG (ST (Ex.fieldAddr Tryz.underlying27 rfl Tryz.sizeOf3 (by decide) rfl) rfl (ST (Ex.load1 H rfl (by repeat first | exact kMh | apply kMt) Tryz.isAgg3 (by rfl)) rfl ?_))))))
   refine ST (Ex.neqC rfl rfl) rfl (NL (TN ?_))
   refine WC.condB rfl (fun hk8 => ?_) (fun hk8 => ?_)
   ·
    replace hk8 : ¬ (n5 = (0 : Int)) := of_not_decide hk8
    rw [if_neg hk8] at h
    refine SQ (RG (MV rfl rfl (ST (Ex.strEql rfl rfl) rfl (AS rfl rfl (NL (TN (RT ?_)))))))
    obtain rfl := Option.some.inj h
    exact WQ.ret1 rfl rfl H.ext rfl
   ·
    replace hk8 : n5 = (0 : Int) := of_not_decide' hk8
    rw [if_pos hk8] at h
    refine SK (TN (SQ ?_))
    obtain ⟨⟨⟨s9, s10, l11⟩, ⟨n12, n13⟩⟩, hx14, h⟩ := bnd h
    try dsimp only at h
    refine RG (MV rfl rfl (WR.call H (media_Parse_ct hx14) rfl ⟨hg_errR, hg_errS, hg_maxl, hg_pow10, hg_tabs⟩ (Wn.none rfl) rfl ?_))
    intro v21 M w H hle hR
    replace hg_errR := hg_errR.mono hle
    replace hg_errS := hg_errS.mono hle
    replace hg_maxl := hg_maxl.mono hle
    replace hg_pow10 := hg_pow10.mono hle
    replace hg_tabs := hg_tabs.mono hle
    replace hp0_2 := hp0_2.mono hle
    try dsimp only at hR
    obtain ⟨x21_0_2, rfl, f21_0_2⟩ := hR
    refine MV rfl rfl (ST (Ex.extract rfl rfl) rfl (ST (Ex.extract rfl rfl) rfl (WR.alloc [_, _, _] H Tryz.zeroValue24 rfl (Wn.none rfl) rfl ?_)))
    intro bk5 w H
    refine WR.alloc [_, _] H Tryz.zeroValue27 rfl (Wn.none rfl) rfl ?_
    intro bk6 w H
    refine WR.store [_, _, _] H rfl rfl rfl (by repeat first | exact .head | apply Upd.tail) Tryz.sizeOf24 rfl (by rfl) (by simp only [List.all_cons, List.all_nil, (f21_0_2).one.2]; rfl) (Wn.none rfl) ?_
    intro w H
    refine WR.store [_, _] H rfl rfl rfl (by repeat first | exact .head | apply Upd.tail) Tryz.sizeOf27 rfl (by rfl) (by rfl) (Wn.none rfl) ?_
    intro w H
    refine NL (TN (SQ ?_))
    obtain ⟨o15, e16, h⟩ := bnd h
    refine WC.cutX (fun e w => ∃ (b17 : Bool) (M : Mem), e = [(2, Value.bool b17)] ∧ St w0 M0 M [] w ∧ GlF (fun w => ∃ tp p, w.var? Tryz.prog "strconv.ErrRange" = some #[.iface tp p]) M ∧ GlF (fun w => ∃ tp p, w.var? Tryz.prog "strconv.ErrSyntax" = some #[.iface tp p]) M ∧ GlF (fun w => ∃ m, w.cell? ⟨2, 0, none⟩ = some (.int .i64 m)) M ∧ GlF (fun w => Lib.TabIs Tryz.prog w "internal/strconv.uint64pow10" .u64 Lib.pow10Tab) M ∧ Tabs M ∧ some b17 = some o15) [] ?_ ?_ (trivial)
    ·
     refine RG (ST (Ex.fieldAddr Tryz.underlying27 rfl Tryz.sizeOf3 (by decide) rfl) rfl (ST (Ex.load1 H rfl (by repeat first | exact kMh | apply kMt) Tryz.isAgg3 (by rfl)) rfl ?_))
     by_cases hk18 : n12 = (0 : Int)
     ·
      rw [if_pos hk18] at e16
      obtain ⟨b19, hx20, e16⟩ := bnd e16
      refine WR.stepE (v' := .bool true) (Ex.eql rfl rfl) (congrArg Value.bool (decide_eq_true hk18)) (Wn.none rfl) rfl rfl (MV rfl rfl (SG (Ex.loadAgg H rfl (by repeat first | exact kMh | apply kMt) Tryz.isAgg24 Tryz.sizeOf24 (by rfl)) rfl rfl rfl ?_))
      refine SG (Ex.loadAgg H rfl (by repeat first | exact kMh | apply kMt) Tryz.isAgg24 Tryz.sizeOf24 (by rfl)) rfl rfl rfl ?_
      refine WR.call H (R_SameMedia_ct hx20) rfl ⟨f21_0_2, hp0_2⟩ (Wn.some rfl rfl rfl) rfl ?_
      intro v30 M w H hle hR
      replace hg_errR := hg_errR.mono hle
      replace hg_errS := hg_errS.mono hle
      replace hg_maxl := hg_maxl.mono hle
      replace hg_pow10 := hg_pow10.mono hle
      replace hg_tabs := hg_tabs.mono hle
      replace hp0_2 := hp0_2.mono hle
      replace f21_0_2 := f21_0_2.mono hle
      obtain rfl := hR
      refine PT rfl rfl rfl (AS rfl rfl (NL ?_))
      exact WQ.meetN [(2, _)] ⟨rfl, trivial⟩ ⟨_, _, rfl, (H.pick (L' := []) (by repeat first | exact kPn | refine kPc (by repeat first | exact .head | apply Rem.tail) ?_)), hg_errR, hg_errS, hg_maxl, hg_pow10, hg_tabs, e16⟩
     ·
      rw [if_neg hk18] at e16
      refine WR.stepE (v' := .bool false) (Ex.eql rfl rfl) (congrArg Value.bool (decide_eq_false hk18)) (Wn.none rfl) rfl rfl (MV rfl rfl (WR.skipN 3 rfl rfl (PF rfl rfl rfl (AS rfl rfl (NL ?_)))))
      exact WQ.meetN [(2, _)] ⟨rfl, trivial⟩ ⟨_, _, rfl, (H.pick (L' := []) (by repeat first | exact kPn | refine kPc (by repeat first | exact .head | apply Rem.tail) ?_)), hg_errR, hg_errS, hg_maxl, hg_pow10, hg_tabs, e16⟩
    ·
     rintro e w ⟨b17, M, rfl, H, hg_errR, hg_errS, hg_maxl, hg_pow10, hg_tabs, q21⟩
     obtain rfl := Option.some.inj q21
     refine TN (RT ?_)
     obtain rfl := Option.some.inj h
     exact WQ.ret1 rfl rfl H.ext rfl
end Go.Proofs.YtegkhjbajijidaaGreatDoor
end
section
namespace Go.Ph.Md
open Go.Ph.Pl Go.Ph.Pf
open Go.Ph.Chs (vld lower)
abbrev Big (l : List UInt8) : Prop := l.length ≤ 140737488355328
theorem foldI {α σ γ : Type} {L : Nat → σ → Int → Option γ} (l : List α) (F : σ → α → σ) (fin : σ → γ) (I : Nat → σ → Prop)
    (hend : ∀ m s, I l.length s → L (m + 1) s (l.length : Int) = some (fin s))
    (hstep : ∀ m s i a, l[i]? = some a → I i s → I (i + 1) (F s a) ∧ L (m + 1) s (i : Int) = L m (F s a) ((i + 1 : Nat) : Int)) :
    ∀ (d i : Nat) (s : σ) (m : Nat), l.length - i = d → i ≤ l.length → d < m → I i s → L m s (i : Int) = some (fin ((l.drop i).foldl F s)) := by
  intro d
  induction d with
  | zero =>
    intro i s m h1 h2 h3 hI
    obtain ⟨m, rfl⟩ : ∃ k, m = k + 1 := ⟨m - 1, by omega⟩
    obtain rfl : i = l.length := by omega
    rw [hend m s hI, List.drop_length]; rfl
  | succ d ih =>
    intro i s m h1 h2 h3 hI
    obtain ⟨m, rfl⟩ : ∃ k, m = k + 1 := ⟨m - 1, by omega⟩
    have hi : i < l.length := by omega
    obtain ⟨hI', hL⟩ := hstep m s i l[i] (List.getElem?_eq_getElem hi) hI
    rw [hL, ih (i + 1) _ m (by omega) (by omega) (by omega) hI', List.drop_eq_getElem_cons hi]; rfl
theorem foldI0 {α σ γ : Type} {L : Nat → σ → Int → Option γ} (l : List α) (F : σ → α → σ) (fin : σ → γ) (I : Nat → σ → Prop) (hl : l.length ≤ 9223372036854775807)
    (hend : ∀ m s, I l.length s → L (m + 1) s (l.length : Int) = some (fin s))
    (hstep : ∀ m s i a, l[i]? = some a → I i s → I (i + 1) (F s a) ∧ L (m + 1) s (i : Int) = L m (F s a) ((i + 1 : Nat) : Int)) (s : σ) (h0 : I 0 s) : L FU s 0 = some (fin (l.foldl F s)) := by
  have := foldI l F fin I hend hstep l.length 0 s FU (by omega) (by omega) (FU_gt hl) h0
  simpa using this
theorem foldl_app {α β : Type} (f : α → List β) : ∀ (l : List α) (o : List β), l.foldl (fun o a => o ++ f a) o = o ++ l.flatMap f
  | [], o => by simp
  | a :: l, o => by rw [List.foldl_cons, foldl_app f l]; simp
theorem allB {p : UInt8 → Prop} (h : ∀ n, n < 256 → p (UInt8.ofNat n)) (c : UInt8) : p c := by
  have := h c.toNat c.toNat_lt
  rwa [UInt8.ofNat_toNat] at this
theorem failed_eq (a b : Int) : basic_Failed (a, b) = some (!decide (a = 0)) := rfl
theorem fault_eq (a b : Int) : basic_Fault a b = some (a, b) := by unfold basic_Fault; rfl
theorem none_eq : basic_None = some (0, 0) := rfl
def tkB (c : UInt8) : Bool := decide (33 ≤ c.toNat) && (decide (c.toNat ≤ 126) && !([40, 41, 60, 62, 64, 44, 59, 58, 92, 34, 47, 91, 93, 63, 61, 42, 37, 39] : List UInt8).any (fun x => decide (x = c)))
theorem tokenByte_eq (c : UInt8) : media_tokenByte c = some (tkB c) := by
  refine allB (p := fun c => media_tokenByte c = some (tkB c)) ?_ c
  decide +kernel
theorem all_eq (l : List UInt8) (hl : Big l) (g : UInt8 → Option Bool) (p : UInt8 → Bool) (hg : ∀ c, g c = some (p c)) : basic_All l g = some (l.all p) := by
  unfold basic_All
  rw [scan0 (L := basic_All_L1 l g) (l := l) (p := fun c => !p c) (stop := .inl ()) (r := .inr false) (FU_gt (by omega)) (fun m => by rw [basic_All_L1, if_neg (by omega)]) (fun m i h => by
    rw [basic_All_L1, if_pos (by omega), idx_nat, List.getElem?_eq_getElem h, chk_succ (by have := hl; omega)]
    simp only [bsome, hg]
    cases p l[i] <;> simp)]
  simp only [bsome]
  rw [List.all_eq_not_any_not]
  cases l.any (fun c => !p c) <;> simp
def tkT (l : List UInt8) : Bool := l.all tkB && decide (1 ≤ l.length ∧ l.length ≤ 60)
theorem token_eq (l : List UInt8) (hl : Big l) : media_token l = some (tkT l) := by
  unfold media_token tkT
  by_cases h : l = []
  · subst h; rfl
  · have hpos : 1 ≤ l.length := by cases l <;> simp_all
    rw [if_neg h]
    by_cases h2 : l.length ≤ 60
    · rw [if_pos (by omega), all_eq l hl _ tkB tokenByte_eq]
      simp [hpos, h2]
    · rw [if_neg (by omega)]
      simp [h2]
theorem tkT_len {l : List UInt8} (h : tkT l = true) : 1 ≤ l.length ∧ l.length ≤ 60 := by
  unfold tkT at h
  rw [Bool.and_eq_true, decide_eq_true_eq] at h
  exact h.2
theorem tkT_all {l : List UInt8} (h : tkT l = true) : ∀ c ∈ l, tkB c = true := by
  unfold tkT at h
  rw [Bool.and_eq_true, List.all_eq_true] at h
  exact h.1
theorem same_eq {a b : List UInt8} (ha : Big a) (hb : Big b) : basic_Same a b = some (decide (lower a = lower b)) := by
  unfold basic_Same; unfold Big at ha hb; rw [if_pos ⟨by omega, by omega⟩]
abbrev Par : Type := List UInt8 × List UInt8
abbrev Med : Type := List UInt8 × List UInt8 × List Par
abbrev BigP (l : List Par) : Prop := ∀ x ∈ l, Big x.1 ∧ Big x.2
abbrev BigM (m : Med) : Prop := Big m.1 ∧ Big m.2.1 ∧ BigP m.2.2
def smP (x y : Par) : Bool := decide (lower y.1 = lower x.1)
def pf1 (pre : List Par) (x : Par) : Int := if tkT x.1 = true ∧ x.1.length ≤ 20 then (if pre.any (smP x) = true then 7 else if 500 < x.2.length then 1 else if vld x.2 = true then 0 else 5) else 10
def pfz (pre : List Par) : List Par → Int × Int
  | [] => (0, 0)
  | x :: r => if pf1 pre x = 0 then pfz (pre ++ [x]) r else (pf1 pre x, (pre.length : Int))
theorem pfz_zero : ∀ {l pre : List Par}, (pfz pre l).1 = 0 → pfz pre l = (0, 0)
  | [], pre, h => rfl
  | x :: r, pre, h => by
    rw [pfz] at h ⊢
    by_cases hx : pf1 pre x = 0
    · rw [if_pos hx] at h ⊢
      exact pfz_zero h
    · rw [if_neg hx] at h
      exact absurd h hx
theorem ffr {α : Type} {a : Int} (ha : a ≠ 0) (i : Int) (X : Int × Int) (u : α) : (if (if a = 0 then X else (a, i)).1 = 0 then (.inl u : α ⊕ (Int × Int)) else .inr (if a = 0 then X else (a, i))) = .inr (a, i) := by rw [if_neg ha, if_neg ha]
theorem indexF (l : List Par) (hl : l.length ≤ 1000) (f : Par → Option Bool) (p : Par → Bool) (hf : ∀ x ∈ l, f x = some (p x)) : slices_ContainsFunc_Param l f = some (l.any p) := by
  unfold slices_ContainsFunc_Param slices_IndexFunc_Param
  rcases scanP (fun m i => slices_IndexFunc_Param_L1 l f m i) l (fun i x => if p x = true then some (.inr (i : Int)) else none) (.inl ()) (fun m => by rw [slices_IndexFunc_Param_L1, if_neg (by omega)]) (fun m i h => by
    rw [slices_IndexFunc_Param_L1, if_pos (by omega), idx_nat, List.getElem?_eq_getElem h, bsome]
    have e : f (l[i].1, l[i].2) = some (p l[i]) := hf _ (List.getElem_mem h)
    rw [e, bsome, chk_succ (by omega), bsome]
    cases p l[i] <;> rfl) l.length 0 FU (by omega) (FU_gt (by omega)) (by omega) with ⟨j, hj, r, a1, a2, a3, a4⟩ | ⟨a1, a2⟩
  · rw [Int.natCast_zero] at a4
    have hp : p l[j] = true := by
      cases h : p l[j] with
      | true => rfl
      | false => rw [h, if_neg (by decide)] at a2; cases a2
    rw [hp, if_pos rfl] at a2
    cases a2
    rw [a4, bsome, bsome]
    rw [show l.any p = true from List.any_eq_true.2 ⟨_, List.getElem_mem hj, hp⟩, decide_eq_true (by omega)]
  · rw [Int.natCast_zero] at a2
    rw [a2, bsome, bsome]
    have : l.any p = false := by
      rw [List.any_eq_false]
      intro x hx hp
      obtain ⟨i, hi, rfl⟩ := List.getElem_of_mem hx
      have := a1 i hi (by omega)
      rw [hp, if_pos rfl] at this
      cases this
    rw [this]; rfl
theorem take_drop_cons {α : Type} {l : List α} {i : Nat} (h : i < l.length) : l.take (i + 1) = l.take i ++ [l[i]] := by
  rw [List.take_succ_eq_append_getElem h]
theorem valid_L1 (m0 : Med) (hl : m0.2.2.length ≤ 60) (hb : BigP m0.2.2) (n9 n10 : Int) : ∀ (d i m : Nat), m0.2.2.length - i ≤ d → d < m → i ≤ m0.2.2.length →
    media_Validate_L1 m0 m n9 n10 (i : Int) = some (if (pfz (m0.2.2.take i) (m0.2.2.drop i)).1 = 0 then .inl (n9, n10) else .inr (pfz (m0.2.2.take i) (m0.2.2.drop i))) := by
  obtain ⟨ty, sb, l⟩ := m0
  dsimp only at hl hb ⊢
  intro d
  induction d with
  | zero =>
    intro i m h1 h2 h3
    obtain ⟨m, rfl⟩ : ∃ k, m = k + 1 := ⟨m - 1, by omega⟩
    rw [media_Validate_L1, if_neg (by dsimp only; omega), List.drop_eq_nil_of_le (by omega)]; rfl
  | succ d ih =>
    intro i m h1 h2 h3
    obtain ⟨m, rfl⟩ : ∃ k, m = k + 1 := ⟨m - 1, by omega⟩
    by_cases hi : i < l.length
    · have hx := hb l[i] (List.getElem_mem hi)
      rw [media_Validate_L1]
      dsimp only
      rw [if_pos (by omega), idx_nat, List.getElem?_eq_getElem hi, bsome, List.drop_eq_getElem_cons hi, pfz, ← take_drop_cons hi]
      have hlen : (l.take i).length = i := by rw [List.length_take]; omega
      rw [hlen]
      unfold pf1
      rw [token_eq _ hx.1, bsome]
      by_cases c1 : tkT l[i].1 = true ∧ l[i].1.length ≤ 20
      · rw [if_pos c1, c1.1, if_pos rfl, bsome, decide_eq_false (by have := c1.2; omega), if_neg Bool.false_ne_true, cut_to rfl (by omega), bsome,
          indexF (l.take i) (by omega) _ (smP l[i]) (fun x hx' => by unfold media_Validate_1 smP; rw [same_eq (hb x (List.mem_of_mem_take hx')).1 hx.1]; rfl), bsome]
        by_cases c2 : (l.take i).any (smP l[i]) = true
        · rw [if_pos c2, if_pos c2, fault_eq, bsome, ffr (by decide)]
        · rw [if_neg c2, if_neg c2]
          by_cases c3 : 500 < l[i].2.length
          · rw [if_pos (by omega), if_pos c3, fault_eq, bsome, ffr (by decide)]
          · rw [if_neg (by omega), if_neg c3]
            unfold utf8_ValidString
            rw [if_pos (by omega), bsome]
            by_cases c4 : vld l[i].2 = true
            · rw [if_pos c4, if_pos c4, if_pos rfl, chk_succ (by omega), bsome]
              exact ih (i + 1) m (by omega) (by omega) (by omega)
            · rw [if_neg c4, if_neg c4, fault_eq, bsome, ffr (by decide)]
      · have e : (if tkT l[i].1 = true then some (decide ((20 : Int) < (l[i].1.length : Int))) else some true) = some true := by
          by_cases h : tkT l[i].1 = true
          · rw [if_pos h, decide_eq_true (by have := Nat.lt_of_not_le (fun h2 => c1 ⟨h, h2⟩); omega)]
          · rw [if_neg h]
        rw [if_neg c1, e, bsome, if_pos rfl, fault_eq, bsome, ffr (by decide)]
    · rw [media_Validate_L1, if_neg (by dsimp only; omega), List.drop_eq_nil_of_le (by omega)]; rfl
def valM (m : Med) : Int × Int := if tkT m.1 = true ∧ tkT m.2.1 = true then (if 60 < m.2.2.length then (2, -3) else pfz [] m.2.2) else (10, -2)
theorem tk2 (a b : Bool) : (if a = true then some (!b) else some true : Option Bool) = some (!(a && b)) := by cases a <;> simp
theorem validate_eq (m : Med) (hb : BigM m) : media_Validate m = some (valM m) := by
  unfold media_Validate valM
  rw [token_eq _ hb.1, bsome, token_eq _ hb.2.1, bsome, tk2, bsome]
  by_cases h : tkT m.1 = true ∧ tkT m.2.1 = true
  · rw [if_pos h, h.1, h.2, if_neg (by decide)]
    by_cases h6 : 60 < m.2.2.length
    · rw [if_pos (by omega), fault_eq, bsome, if_pos h6]
    · have := valid_L1 m (by omega) hb.2.2 0 0 m.2.2.length 0 FU (by omega) (by unfold FU; omega) (by omega)
      rw [Int.natCast_zero, List.drop_zero, List.take_zero] at this
      rw [if_neg (by omega), this, bsome, if_neg h6]
      by_cases hz : (pfz [] m.2.2).1 = 0
      · rw [if_pos hz]
        dsimp only
        rw [pfz_zero hz, none_eq, bsome]
      · rw [if_neg hz]
  · have : (tkT m.1 && tkT m.2.1) = false := by
      cases h1 : tkT m.1 <;> cases h2 : tkT m.2.1 <;> simp_all
    rw [this, if_pos (by decide), if_neg h, fault_eq, bsome]
theorem valM_zero {m : Med} (h : (valM m).1 = 0) : tkT m.1 = true ∧ tkT m.2.1 = true ∧ m.2.2.length ≤ 60 ∧ (pfz [] m.2.2).1 = 0 ∧ valM m = (0, 0) := by
  unfold valM at h ⊢
  by_cases h1 : tkT m.1 = true ∧ tkT m.2.1 = true
  · rw [if_pos h1] at h ⊢
    by_cases h2 : 60 < m.2.2.length
    · rw [if_pos h2] at h; exact absurd h (by decide)
    · rw [if_neg h2] at h ⊢
      exact ⟨h1.1, h1.2, by omega, h, pfz_zero h⟩
  · rw [if_neg h1] at h; exact absurd h (by decide)
theorem example_any {x : Option Bool} (ex : x = some true) {k : Option Bool} : (x.bind fun b => if b = true then k else some false) = k := by rw [ex, bsome, if_pos rfl]
end Go.Ph.Md
end
section
namespace Go.Ph.Md
open Go.Ph.Pl Go.Ph.Pf
open Go.Ph.Chs (vld lower)
def hexd : List UInt8 := [48, 49, 50, 51, 52, 53, 54, 55, 56, 57, 65, 66, 67, 68, 69, 70]
def hx (n : Nat) : UInt8 := hexd.getD n 0
theorem digit_hi (c : UInt8) : basic_Digit (UInt8.ofNat (c.toNat / 2 ^ 4)) = some (hx (c.toNat / 16)) := by
  refine allB (p := fun c => basic_Digit (UInt8.ofNat (c.toNat / 2 ^ 4)) = some (hx (c.toNat / 16))) ?_ c
  decide +kernel
theorem digit_lo (c : UInt8) : basic_Digit c = some (hx (c.toNat % 16)) := by
  refine allB (p := fun c => basic_Digit c = some (hx (c.toNat % 16))) ?_ c
  decide +kernel
theorem dgF_len : ∀ (m n : Nat), (dgF m n).length ≤ m
  | 0, n => Nat.le_refl _
  | m + 1, n => by
    rw [dgF]
    have := dgF_len m (n / 10)
    split
    · simp
    · rw [List.length_append, List.length_singleton]; omega
theorem itoa_len (n : Int) : (itoaP n).length ≤ 21 := by
  unfold itoaP
  have h1 := dgF_len 20 n.natAbs
  have h2 := dgF_len 20 n.toNat
  split
  · rw [List.length_cons]; omega
  · omega
theorem itoa_eq (n : Nat) (h : n ≤ 9223372036854775807) : strconv_Itoa (n : Int) = some (itoaP n) := by
  unfold strconv_Itoa; rw [if_pos ⟨by omega, by omega⟩]
def esc (c : UInt8) : Option (List UInt8) := if c = 34 then some [92, 34] else if c = 92 then some [92, 92] else none
def q1 (c : UInt8) : List UInt8 := (esc c).getD [c]
def qt (p : List UInt8) : List UInt8 := p.flatMap q1
def cnt (p : List UInt8) : Nat := p.countP fun c => (esc c).isSome
theorem tab_at (c : UInt8) : idxO (tabk 2) (c.toNat : Int) = some (esc c) := by
  refine allB (p := fun c => idxO (tabk 2) (c.toNat : Int) = some (esc c)) ?_ c
  decide +kernel
theorem esc_two {c : UInt8} {s : List UInt8} (h : esc c = some s) : s.length = 2 := by
  unfold esc at h
  split at h
  · cases h; rfl
  · split at h
    · cases h; rfl
    · cases h
theorem qt_cons (c : UInt8) (p : List UInt8) : qt (c :: p) = q1 c ++ qt p := rfl
theorem qt_len : ∀ p : List UInt8, (qt p).length = p.length + cnt p
  | [] => rfl
  | c :: p => by
    rw [qt_cons, List.length_append, qt_len p, List.length_cons]
    unfold cnt q1
    rw [List.countP_cons]
    cases h : esc c with
    | none => simp; omega
    | some s => have := esc_two h; simp; omega
theorem qt_id : ∀ p : List UInt8, cnt p = 0 → qt p = p
  | [], h => rfl
  | c :: p, h => by
    unfold cnt at h
    rw [List.countP_cons] at h
    have h2 := qt_id p (by unfold cnt; omega)
    rw [qt_cons, h2]
    unfold q1
    cases h3 : esc c with
    | none => rfl
    | some s => rw [h3] at h; simp at h
theorem cnt_split : ∀ p : List UInt8, cnt p = (p.countP fun c => decide (([34] : List UInt8) = [c])) + (p.countP fun c => decide (([92] : List UInt8) = [c]))
  | [] => rfl
  | c :: p => by
    have := cnt_split p
    unfold cnt at this ⊢
    rw [List.countP_cons, List.countP_cons, List.countP_cons, this]
    unfold esc
    by_cases h1 : c = 34
    · subst h1; simp; omega
    · have h1' : ¬ (34 : UInt8) = c := fun e => h1 e.symm
      by_cases h2 : c = 92
      · subst h2; simp; omega
      · have h2' : ¬ (92 : UInt8) = c := fun e => h2 e.symm
        simp [h1, h2, h1', h2']
theorem rep_L1 (p : List UInt8) (hp : p.length ≤ 1000) : strings_byteStringReplacer_Replace_L1 (tabk 2, trk 2) p FU (p.length : Int) false 0 = some (((p.length + cnt p : Nat) : Int), decide (cnt p ≠ 0)) := by
  rw [cnt_split]
  have c1 : (p.countP fun c => decide (([34] : List UInt8) = [c])) ≤ p.length := List.countP_le_length
  have c2 : (p.countP fun c => decide (([92] : List UInt8) = [c])) ≤ p.length := List.countP_le_length
  have k1 : strings_Count p [34] = some ((p.countP fun c => decide (([34] : List UInt8) = [c]) : Nat) : Int) := by unfold strings_Count; rw [if_pos ⟨rfl, by omega⟩]
  have k2 : strings_Count p [92] = some ((p.countP fun c => decide (([92] : List UInt8) = [c]) : Nat) : Int) := by unfold strings_Count; rw [if_pos ⟨rfl, by omega⟩]
  generalize (p.countP fun c => decide (([34] : List UInt8) = [c])) = a at *
  generalize (p.countP fun c => decide (([92] : List UInt8) = [c])) = b at *
  have t34 : idxO (tabk 2) ((34 : UInt8).toNat : Int) = some (some [92, 34]) := tab_at 34
  have t92 : idxO (tabk 2) ((92 : UInt8).toNat : Int) = some (some [92, 92]) := tab_at 92
  have e0 : idx (trk 2) 0 = some [34] := rfl
  have e1 : idx (trk 2) 1 = some [92] := rfl
  have l2 : ((trk 2).length : Int) = 2 := rfl
  have i34 : idx ([34] : List UInt8) 0 = some 34 := rfl
  have i92 : idx ([92] : List UInt8) 0 = some 92 := rfl
  have g2 : chk (((Option.getD (some ([92, 34] : List UInt8)) []).length : Int) - 1) = some 1 := rfl
  have g3 : chk (((Option.getD (some ([92, 92] : List UInt8)) []).length : Int) - 1) = some 1 := rfl
  have hend : ∀ m x y, strings_byteStringReplacer_Replace_L1 (tabk 2, trk 2) p (m + 1) x y 2 = some (x, y) := fun m x y => by
    rw [strings_byteStringReplacer_Replace_L1]
    dsimp only
    rw [l2, if_neg (by decide)]
  have h1 : ∀ m (x : Nat) y, x ≤ 3000 → strings_byteStringReplacer_Replace_L1 (tabk 2, trk 2) p (m + 1 + 1) (x : Int) y 1 = some (((x + b : Nat) : Int), if b = 0 then y else true) := fun m x y hx => by
    rw [strings_byteStringReplacer_Replace_L1]
    dsimp only
    rw [l2, if_pos (by decide), e1, bsome, k2, bsome]
    by_cases hb : b = 0
    · subst hb
      rw [if_pos rfl, show chk ((1 : Int) + 1) = some 2 from rfl, bsome, hend]; rfl
    · rw [if_neg (by omega), i92, bsome, t92, bsome, g3, bsome, chk_ok (by omega) (by omega), bsome, chk_ok (by omega) (by omega), bsome, show chk ((1 : Int) + 1) = some 2 from rfl, bsome, hend, if_neg hb, show ((x : Int) + (b : Int) * 1) = ((x + b : Nat) : Int) by omega]
  obtain ⟨K, hK⟩ : ∃ K, FU = K + 1 + 1 + 1 := ⟨18446744073709551613, rfl⟩
  rw [hK, strings_byteStringReplacer_Replace_L1]
  dsimp only
  rw [l2, if_pos (by decide), e0, bsome, k1, bsome]
  by_cases ha : a = 0
  · subst ha
    rw [if_pos (show ((0 : Nat) : Int) = 0 from rfl), show chk ((0 : Int) + 1) = some 1 from rfl, bsome, h1 _ _ _ (by omega), Nat.zero_add]
    by_cases hb : b = 0
    · subst hb; rfl
    · rw [if_neg hb, decide_eq_true hb]
  · rw [if_neg (by omega), i34, bsome, t34, bsome, g2, bsome, chk_ok (by omega) (by omega), bsome, chk_ok (by omega) (by omega), bsome, show chk ((0 : Int) + 1) = some 1 from rfl, bsome, show ((p.length : Int) + (a : Int) * 1) = ((p.length + a : Nat) : Int) by omega, h1 _ _ _ (by omega), decide_eq_true (by omega), ite_self, Nat.add_assoc]
theorem rep_L2 (p : List UInt8) (hp : p.length ≤ 1000) : strings_byteStringReplacer_Replace_L2 (tabk 2, trk 2) p FU (p.length : Int) false 0 = some (((p.length + cnt p : Nat) : Int), decide (cnt p ≠ 0)) := by
  have hf : ∀ (l : List UInt8) (a : Nat), l.foldl (fun (s : Nat) c => if (esc c).isSome = true then s + 1 else s) a = a + cnt l := by
    intro l
    induction l with
    | nil => intro a; rfl
    | cons c l ih =>
      intro a
      rw [List.foldl_cons, ih]
      unfold cnt
      rw [List.countP_cons]
      split <;> omega
  have := foldI0 (L := fun m (s : Nat) i => strings_byteStringReplacer_Replace_L2 (tabk 2, trk 2) p m ((p.length + s : Nat) : Int) (decide (s ≠ 0)) i) p (fun (s : Nat) c => if (esc c).isSome = true then s + 1 else s) (fun s => (((p.length + s : Nat) : Int), decide (s ≠ 0))) (fun i s => s ≤ i) (by omega) ?_ ?_ 0 (by omega)
  · rw [hf, Nat.zero_add] at this
    exact this
  · intro m s hs
    rw [strings_byteStringReplacer_Replace_L2, if_neg (by omega)]
  · intro m s i x hx hs
    have hi := (List.getElem?_eq_some_iff.1 hx).1
    refine ⟨by split <;> omega, ?_⟩
    rw [strings_byteStringReplacer_Replace_L2, if_pos (by omega), idx_nat, hx, bsome, tab_at, bsome]
    by_cases h : (esc x).isSome = true
    · obtain ⟨s2, hs2⟩ := Option.isSome_iff_exists.1 h
      have := esc_two hs2
      rw [if_pos h, if_pos h, bsome, hs2, Option.getD_some, this, show chk (((2 : Nat) : Int) - 1) = some 1 from rfl, bsome, chk_ok (by omega) (by omega), bsome, chk_succ (by omega), bsome, decide_eq_true (show s + 1 ≠ 0 by omega)]
      rfl
    · rw [if_neg h, if_neg h, chk_succ (by omega), bsome]
theorem rep_L3 (p : List UInt8) (hp : p.length ≤ 1000) : ∀ (d i m : Nat) (A : List UInt8), p.length - i ≤ d → d < m → i ≤ p.length → A.length ≤ 2 * i →
    strings_byteStringReplacer_Replace_L3 (tabk 2, trk 2) p m (A ++ List.replicate (qt (p.drop i)).length 0) (A.length : Int) (i : Int) = some (A ++ qt (p.drop i)) := by
  intro d
  induction d with
  | zero =>
    intro i m A h1 h2 h3 hA
    obtain ⟨m, rfl⟩ : ∃ k, m = k + 1 := ⟨m - 1, by omega⟩
    rw [strings_byteStringReplacer_Replace_L3, if_neg (by omega), List.drop_eq_nil_of_le (by omega)]; rfl
  | succ d ih =>
    intro i m A h1 h2 h3 hA
    obtain ⟨m, rfl⟩ : ∃ k, m = k + 1 := ⟨m - 1, by omega⟩
    by_cases hi : i < p.length
    · rw [strings_byteStringReplacer_Replace_L3, if_pos (by omega), idx_nat, List.getElem?_eq_getElem hi, bsome, tab_at, bsome, List.drop_eq_getElem_cons hi, qt_cons]
      unfold q1
      cases h : esc p[i] with
      | some s =>
        have hs := esc_two h
        have ht := tab_at p[i]
        rw [Option.isSome_some, if_pos rfl, frm_ok (by simp), bsome, bsome, Option.getD_some, Option.getD_some]
        have hc : cpyO (A ++ List.replicate (s ++ qt (p.drop (i + 1))).length 0) (A.length : Int) s = some ((A ++ s) ++ List.replicate (qt (p.drop (i + 1))).length 0, 2) := by
          unfold cpyO
          rw [Int.toNat_natCast, List.take_left]
          have e1 : s.take ((A ++ List.replicate (s ++ qt (p.drop (i + 1))).length (0 : UInt8)).length - A.length) = s := List.take_of_length_le (by rw [List.length_append, List.length_replicate, List.length_append]; omega)
          rw [e1, hs, List.drop_append, List.drop_eq_nil_of_le (by omega), List.nil_append, List.drop_replicate, show (s ++ qt (p.drop (i + 1))).length - (A.length + 2 - A.length) = (qt (p.drop (i + 1))).length by rw [List.length_append]; omega]
          rfl
        rw [hc, bsome]
        dsimp only
        rw [chk_ok (by omega) (by omega), bsome, chk_succ (by omega), bsome]
        have := ih (i + 1) m (A ++ s) (by omega) (by omega) (by omega) (by simp; omega)
        rw [show ((A ++ s).length : Int) = (A.length : Int) + 2 by simp; omega] at this
        rw [this, List.append_assoc]
      | none =>
        rw [Option.isSome_none, if_neg (by decide), Option.getD_none]
        have e0 : A ++ List.replicate ([p[i]] ++ qt (p.drop (i + 1))).length (0 : UInt8) = A ++ 0 :: List.replicate (qt (p.drop (i + 1))).length 0 := by
          rw [List.length_append, List.length_singleton, Nat.add_comm, List.replicate_succ]
        rw [e0, idx_nat, List.getElem?_append_right (Nat.le_refl _), Nat.sub_self, List.getElem?_cons_zero, bsome, put_ok (by omega) (by simp; omega), bsome, chk_succ (by omega), bsome, chk_succ (by omega), bsome, Int.toNat_natCast, List.set_append_right (h := Nat.le_refl _), Nat.sub_self, List.set_cons_zero]
        have := ih (i + 1) m (A ++ [p[i]]) (by omega) (by omega) (by omega) (by simp; omega)
        rw [show ((A ++ [p[i]]).length : Int) = ((A.length + 1 : Nat) : Int) by simp, List.append_assoc] at this
        rw [show (p[i] :: List.replicate (qt (p.drop (i + 1))).length (0 : UInt8)) = [p[i]] ++ List.replicate (qt (p.drop (i + 1))).length 0 from rfl, this, List.append_assoc]
    · rw [strings_byteStringReplacer_Replace_L3, if_neg (by omega), List.drop_eq_nil_of_le (by omega)]; rfl
theorem replace_eq (p : List UInt8) (hp : p.length ≤ 1000) : strings_Replacer_Replace p = some (qt p) := by
  unfold strings_Replacer_Replace strings_byteStringReplacer_Replace
  have hc : cnt p ≤ p.length := List.countP_le_length
  dsimp only
  rw [show chk (((trk 2).length : Int) * 8) = some 16 from rfl, bsome, rep_L1 p hp, rep_L2 p hp, bsome]
  dsimp only
  rw [ite_self, bsome]
  dsimp only
  by_cases h : cnt p = 0
  · rw [decide_eq_false (by omega), if_neg (by decide), qt_id p h]
  · rw [decide_eq_true h, if_pos rfl, mkS_ok (by omega) (by omega) (by omega) (by omega), bsome, Int.toNat_natCast, ← qt_len]
    have := rep_L3 p hp p.length 0 FU [] (by omega) (FU_gt (by omega)) (by omega) (by simp)
    simp only [List.length_nil, Int.natCast_zero, List.drop_zero, List.nil_append] at this
    rw [this, bsome]
end Go.Ph.Md
end
section
namespace Go.Ph.Md
open Go.Ph.Pl Go.Ph.Pf
open Go.Ph.Chs (vld lower)
def pct1 (c : UInt8) : List UInt8 := if tkB c = true then [c] else [37, hx (c.toNat / 16), hx (c.toNat % 16)]
theorem pct1_len (c : UInt8) : 1 ≤ (pct1 c).length ∧ (pct1 c).length ≤ 3 := by unfold pct1; split <;> simp
def pre8 : List UInt8 := [117, 116, 102, 56, 39, 39]
abbrev PS : Type := List (List UInt8) × List UInt8
def psS (st : PS) (c : UInt8) : PS := if st.2.length + (pct1 c).length ≤ 60 then (st.1, st.2 ++ pct1 c) else (st.1 ++ [st.2], pct1 c)
def psF (v : List UInt8) : PS := v.foldl psS ([], pre8)
def pieces (v : List UInt8) : List (List UInt8) := (psF v).1 ++ [(psF v).2]
def psI (i : Nat) (st : PS) : Prop := st.1.length ≤ i ∧ st.2.length ≤ 60 ∧ ∀ p ∈ st.1, p.length ≤ 60
theorem psI_step {i : Nat} {st : PS} (c : UInt8) (h : psI i st) : psI (i + 1) (psS st c) := by
  obtain ⟨h1, h2, h3⟩ := h
  have := pct1_len c
  unfold psS
  split
  · refine ⟨by dsimp only; omega, by dsimp only; rw [List.length_append]; omega, h3⟩
  · refine ⟨by dsimp only; rw [List.length_append, List.length_singleton]; omega, by dsimp only; omega, fun p hp => ?_⟩
    rcases List.mem_append.1 hp with hp | hp
    · exact h3 p hp
    · rw [List.mem_singleton.1 hp]; exact h2
theorem psI_fold : ∀ (v : List UInt8) (i : Nat) (st : PS), psI i st → psI (i + v.length) (v.foldl psS st)
  | [], i, st, h => h
  | c :: v, i, st, h => by
    have := psI_fold v (i + 1) _ (psI_step c h)
    rw [List.foldl_cons, List.length_cons, show i + (v.length + 1) = i + 1 + v.length by omega]
    exact this
theorem psI_of (v : List UInt8) : psI v.length (psF v) := by
  have := psI_fold v 0 ([], pre8) ⟨Nat.le_refl _, by decide, fun p hp => by cases hp⟩
  rwa [Nat.zero_add] at this
theorem last_idx {α : Type} (A : List α) (x : α) : idx (A ++ [x]) (A.length : Int) = some x := by
  rw [idx_nat, List.getElem?_append_right (Nat.le_refl _), Nat.sub_self]; rfl
theorem last_put {α : Type} (A : List α) (x y : α) : put (A ++ [x]) (A.length : Int) y = some (A ++ [y]) := by
  rw [put_ok (by omega) (by simp; omega), Int.toNat_natCast, List.set_append_right (h := Nat.le_refl _), Nat.sub_self]; rfl
theorem last_chk {α : Type} (A : List α) (x : α) (h : A.length ≤ 1000000) : chk (((A ++ [x]).length : Int) - 1) = some (A.length : Int) := by
  rw [List.length_append, List.length_singleton, chk_pred (by omega) (by omega)]; rfl
theorem cut_one {v : List UInt8} {i : Nat} {x : UInt8} (hx : v[i]? = some x) : cut v (i : Int) ((i + 1 : Nat) : Int) = some [x] := by
  have hi := (List.getElem?_eq_some_iff.1 hx).1
  rw [List.getElem?_eq_getElem hi] at hx
  cases hx
  rw [cut_of rfl rfl (by omega) (by omega), List.drop_take, show i + 1 - i = 1 by omega, List.drop_eq_getElem_cons hi]; rfl
theorem pieces_eq (v : List UInt8) (hv : v.length ≤ 500) : media_pieces v = some (pieces v) := by
  unfold media_pieces
  have := foldI0 (L := fun m (st : PS) i => media_pieces_L1 v m (st.1 ++ [st.2]) i) v psS (fun st => st.1 ++ [st.2]) psI (by omega) ?_ ?_ ([], pre8) ⟨Nat.le_refl _, by decide, fun p hp => by cases hp⟩
  · rw [show ([[117, 116, 102, 56, 39, 39]] : List (List UInt8)) = [] ++ [pre8] from rfl, this, bsome]; rfl
  · intro m st hs
    rw [media_pieces_L1, if_neg (by omega)]
  · intro m st i x hx hs
    have hi := (List.getElem?_eq_some_iff.1 hx).1
    refine ⟨psI_step x hs, ?_⟩
    obtain ⟨A, p⟩ := st
    obtain ⟨hA, hp, hB⟩ := hs
    dsimp only at hA hp hB ⊢
    have hl := pct1_len x
    rw [media_pieces_L1, if_pos (by omega), chk_succ (by omega), bsome, cut_one hx, bsome, idx_nat, hx, bsome, tokenByte_eq, bsome, bsome, digit_hi, bsome, bsome, digit_lo, bsome]
    have e : (if tkB x = true then some [x] else some [37, Md.hx (x.toNat / 16), Md.hx (x.toNat % 16)]) = some (pct1 x) := by unfold pct1; split <;> rfl
    rw [e, bsome, last_chk _ _ (by omega), bsome, last_idx, bsome, chk_ok (by omega) (by omega), bsome, bsome]
    unfold psS
    dsimp only
    by_cases h60 : p.length + (pct1 x).length ≤ 60
    · rw [if_pos (by omega), if_pos h60, cat_ok (by omega), bsome, bsome, last_put, bsome, bsome]
    · rw [if_neg (by omega), if_neg h60, app_ok (by simp; omega), bsome, bsome]
def exU (n : List UInt8) (i : Nat) (p : List UInt8) : List UInt8 := [59, 32] ++ n ++ [42] ++ itoaP i ++ [42, 61] ++ p
def exT (n : List UInt8) : Nat → List (List UInt8) → List UInt8
  | _, [] => []
  | i, p :: r => exU n i p ++ exT n (i + 1) r
theorem exU_len (n : List UInt8) (i : Nat) (p : List UInt8) : (exU n i p).length ≤ n.length + p.length + 30 := by
  unfold exU
  have := itoa_len i
  simp only [List.length_append, List.length_cons, List.length_nil]
  omega
theorem exT_len (n : List UInt8) : ∀ (A : List (List UInt8)) (i : Nat), (∀ p ∈ A, p.length ≤ 60) → (exT n i A).length ≤ A.length * (n.length + 90)
  | [], i, h => by simp [exT]
  | p :: A, i, h => by
    have h1 := exT_len n A (i + 1) (fun q hq => h q (by simp [hq]))
    have h2 := exU_len n i p
    have h3 := h p (by simp)
    rw [exT, List.length_append, List.length_cons, Nat.succ_mul]
    omega
theorem pieces_len (v : List UInt8) : (pieces v).length ≤ v.length + 1 ∧ ∀ p ∈ pieces v, p.length ≤ 60 := by
  obtain ⟨h1, h2, h3⟩ := psI_of v
  unfold pieces
  refine ⟨by rw [List.length_append, List.length_singleton]; omega, fun p hp => ?_⟩
  rcases List.mem_append.1 hp with hp | hp
  · exact h3 p hp
  · rw [List.mem_singleton.1 hp]; exact h2
theorem param_L1 (x : Par) (l : List (List UInt8)) (hx : x.1.length ≤ 60) (hl : l.length ≤ 1000) (h60 : ∀ p ∈ l, p.length ≤ 60) : ∀ (d i m : Nat) (s : List UInt8), l.length - i ≤ d → d < m → i ≤ l.length → s.length ≤ 1000 * i →
    media_param_L1 x l m s (i : Int) = some (s ++ exT x.1 i (l.drop i)) := by
  intro d
  induction d with
  | zero =>
    intro i m s h1 h2 h3 hs
    obtain ⟨m, rfl⟩ : ∃ k, m = k + 1 := ⟨m - 1, by omega⟩
    rw [media_param_L1, if_neg (by omega), List.drop_eq_nil_of_le (by omega), exT, List.append_nil]
  | succ d ih =>
    intro i m s h1 h2 h3 hs
    obtain ⟨m, rfl⟩ : ∃ k, m = k + 1 := ⟨m - 1, by omega⟩
    by_cases hi : i < l.length
    · have hp := h60 _ (List.getElem_mem hi)
      have hit := itoa_len i
      have hu := exU_len x.1 i l[i]
      rw [media_param_L1, if_pos (by omega), idx_nat, List.getElem?_eq_getElem hi, bsome, cat_ok (by simp; omega), bsome, cat_ok (by simp; omega), bsome, itoa_eq i (by omega), bsome, cat_ok (by simp; omega), bsome, cat_ok (by simp; omega), bsome, cat_ok (by simp; omega), bsome, chk_succ (by omega)]
      rw [show [59, 32] ++ x.1 ++ [42] ++ itoaP (i : Int) ++ [42, 61] ++ l[i] = exU x.1 i l[i] from rfl, cat_ok (by omega), bsome, bsome, ih (i + 1) m _ (by omega) (by omega) (by omega) (by rw [List.length_append]; omega), List.drop_eq_getElem_cons hi, exT, List.append_assoc]
    · rw [media_param_L1, if_neg (by omega), List.drop_eq_nil_of_le (by omega), exT, List.append_nil]
def prB (c : UInt8) : Bool := decide (32 ≤ c.toNat ∧ c.toNat ≤ 126)
theorem pr_eq (c : UInt8) : media_param_1 c = some (prB c) := by
  refine allB (p := fun c => media_param_1 c = some (prB c)) ?_ c
  decide +kernel
def simp60 (v : List UInt8) : Bool := decide (v.length ≤ 60) && v.all prB
def paramT (x : Par) : List UInt8 :=
  if tkT x.2 = true then [59, 32] ++ x.1 ++ [61] ++ x.2 else if simp60 x.2 = true then [59, 32] ++ x.1 ++ [61, 34] ++ qt x.2 ++ [34] else exT x.1 0 (pieces x.2)
theorem exTp_len (x : Par) (h1 : x.1.length ≤ 20) (h2 : x.2.length ≤ 500) : (exT x.1 0 (pieces x.2)).length ≤ 60000 := by
  obtain ⟨a, b⟩ := pieces_len x.2
  have := exT_len x.1 (pieces x.2) 0 b
  have h3 : (pieces x.2).length * (x.1.length + 90) ≤ 501 * 110 := Nat.mul_le_mul (by omega) (by omega)
  omega
theorem paramT_len (x : Par) (h1 : x.1.length ≤ 20) (h2 : x.2.length ≤ 500) : (paramT x).length ≤ 60000 := by
  unfold paramT
  have hq := qt_len x.2
  have hc : cnt x.2 ≤ x.2.length := List.countP_le_length
  split
  · simp; omega
  · split
    · simp; omega
    · exact exTp_len x h1 h2
theorem param_eq (x : Par) (h1 : x.1.length ≤ 20) (h2 : x.2.length ≤ 500) : media_param x = some (paramT x) := by
  unfold media_param paramT
  have hq := qt_len x.2
  have hc : cnt x.2 ≤ x.2.length := List.countP_le_length
  rw [token_eq _ (by unfold Big; omega), bsome]
  by_cases h : tkT x.2 = true
  · rw [if_pos h, if_pos h, cat_ok (by simp; omega), bsome, cat_ok (by simp; omega), bsome, cat_ok (by simp; omega), bsome]
  · rw [if_neg h, if_neg h, all_eq x.2 (by unfold Big; omega) _ prB pr_eq, bsome]
    have e : (if (x.2.length : Int) ≤ 60 then some (x.2.all prB) else some false) = some (simp60 x.2) := by
      unfold simp60
      by_cases h6 : x.2.length ≤ 60
      · rw [if_pos (by omega), decide_eq_true h6, Bool.true_and]
      · rw [if_neg (by omega), decide_eq_false h6, Bool.false_and]
    rw [e, bsome]
    by_cases hs : simp60 x.2 = true
    · rw [if_pos hs, if_pos hs, cat_ok (by simp; omega), bsome, cat_ok (by simp; omega), bsome]
      unfold strings_NewReplacer
      rw [if_pos rfl, bsome, replace_eq _ (by omega), bsome, cat_ok (by simp; omega), bsome, cat_ok (by simp; omega), bsome]
    · rw [if_neg hs, if_neg hs, pieces_eq _ h2, bsome]
      obtain ⟨a, b⟩ := pieces_len x.2
      have := param_L1 x (pieces x.2) (by omega) (by omega) b (pieces x.2).length 0 FU [] (by omega) (FU_gt (by omega)) (by omega) (by simp)
      rw [Int.natCast_zero, List.drop_zero, List.nil_append] at this
      rw [this, bsome]
def mediaT (m : Med) : List UInt8 := m.1 ++ [47] ++ m.2.1 ++ m.2.2.flatMap paramT
theorem flat_len {l : List Par} (h : ∀ x ∈ l, (paramT x).length ≤ 60000) : (l.flatMap paramT).length ≤ 60000 * l.length := by
  induction l with
  | nil => simp
  | cons x l ih =>
    have h1 := ih (fun y hy => h y (by simp [hy]))
    have h2 := h x (by simp)
    rw [List.flatMap_cons, List.length_append, List.length_cons, Nat.mul_succ]; omega
theorem pfz_all : ∀ (l pre : List Par), (pfz pre l).1 = 0 → ∀ x ∈ l, tkT x.1 = true ∧ x.1.length ≤ 20 ∧ x.2.length ≤ 500 ∧ vld x.2 = true
  | [], pre, h, x, hx => by cases hx
  | y :: l, pre, h, x, hx => by
    rw [pfz] at h
    by_cases hy : pf1 pre y = 0
    · rw [if_pos hy] at h
      rcases List.mem_cons.1 hx with rfl | hx
      · unfold pf1 at hy
        by_cases c1 : tkT x.1 = true ∧ x.1.length ≤ 20
        · rw [if_pos c1] at hy
          by_cases c2 : pre.any (smP x) = true
          · rw [if_pos c2] at hy; exact absurd hy (by decide)
          · rw [if_neg c2] at hy
            by_cases c3 : 500 < x.2.length
            · rw [if_pos c3] at hy; exact absurd hy (by decide)
            · rw [if_neg c3] at hy
              by_cases c4 : vld x.2 = true
              · exact ⟨c1.1, c1.2, by omega, c4⟩
              · rw [if_neg c4] at hy; exact absurd hy (by decide)
        · rw [if_neg c1] at hy; exact absurd hy (by decide)
      · exact pfz_all l _ h x hx
    · rw [if_neg hy] at h; exact absurd h hy
theorem valid_all {m : Med} (h : (valM m).1 = 0) : ∀ x ∈ m.2.2, tkT x.1 = true ∧ x.1.length ≤ 20 ∧ x.2.length ≤ 500 ∧ vld x.2 = true := pfz_all _ _ (valM_zero h).2.2.2.1
def printR (m : Med) : List UInt8 × (Int × Int) := if (valM m).1 = 0 then (if 4000 < (mediaT m).length then ([], (1, -4)) else (mediaT m, (0, 0))) else ([], valM m)
theorem textL (l : List Par) (hl : l.length ≤ 60) (hv : ∀ x ∈ l, x.1.length ≤ 20 ∧ x.2.length ≤ 500) {L : Nat → List UInt8 → Int → Option (List UInt8)} (hend : ∀ m s, L (m + 1) s (l.length : Int) = some s)
    (hstep : ∀ m s i x, l[i]? = some x → s.length ≤ 130 + 60000 * i → i < l.length → L (m + 1) s (i : Int) = L m (s ++ paramT x) ((i + 1 : Nat) : Int)) (s : List UInt8) (hs : s.length ≤ 130) : L FU s 0 = some (s ++ l.flatMap paramT) := by
  rw [foldI0 (L := L) l (fun o x => o ++ paramT x) id (fun i s => s.length ≤ 130 + 60000 * i) (by omega) ?_ ?_ s (by omega), foldl_app]
  · rfl
  · intro m s _
    exact hend m s
  · intro m s i x hx hI
    have h1 := hv x (List.mem_of_getElem? hx)
    have h2 := paramT_len x h1.1 h1.2
    exact ⟨by rw [List.length_append]; omega, hstep m s i x hx hI (List.getElem?_eq_some_iff.1 hx).1⟩
theorem mediaT_len {m : Med} (h : (valM m).1 = 0) : (mediaT m).length ≤ 4000000 := by
  obtain ⟨h1, h2, h3, _⟩ := valM_zero h
  have hv := valid_all h
  have a := tkT_len h1
  have b := tkT_len h2
  have c := flat_len (l := m.2.2) (fun x hx => paramT_len x (hv x hx).2.1 (hv x hx).2.2.1)
  unfold mediaT
  simp only [List.length_append, List.length_singleton]
  omega
theorem print_eq (m : Med) (hb : BigM m) : media_Print m = some (printR m) := by
  unfold media_Print printR
  rw [show (m.1, m.2.1, m.2.2) = m from rfl, validate_eq m hb, bsome]
  have hz := @valM_zero m
  have hv := @valid_all m
  have hT := @mediaT_len m
  obtain ⟨⟨a, b⟩, he⟩ : ∃ p, valM m = p := ⟨_, rfl⟩
  rw [he] at hz hv hT ⊢
  dsimp only at hz hv hT ⊢
  rw [failed_eq, bsome]
  by_cases ha : a = 0
  · obtain ⟨h1, h2, h3, _⟩ := hz ha
    have t1 := tkT_len h1
    have t2 := tkT_len h2
    rw [decide_eq_true ha, if_neg (by decide), if_pos ha, cat_ok (by simp; omega), bsome, cat_ok (by simp; omega), bsome, textL m.2.2 h3 (fun x hx => ⟨(hv ha x hx).2.1, (hv ha x hx).2.2.1⟩) (L := fun k s i => media_Print_L1 m k s i) ?_ ?_ _ (by simp; omega), bsome]
    · rw [show m.1 ++ [47] ++ m.2.1 ++ m.2.2.flatMap paramT = mediaT m from rfl]
      by_cases h4 : 4000 < (mediaT m).length
      · rw [if_pos (by omega), if_pos h4, fault_eq, bsome]
      · rw [if_neg (by omega), if_neg h4, none_eq, bsome]
    · intro k s
      rw [media_Print_L1, if_neg (by omega)]
    · intro k s i x hx hs hi
      have hxv := hv ha x (List.mem_of_getElem? hx)
      have := paramT_len x hxv.2.1 hxv.2.2.1
      rw [media_Print_L1, if_pos (by omega), idx_nat, hx, bsome, show (x.1, x.2) = x from rfl, param_eq x hxv.2.1 hxv.2.2.1, bsome, cat_ok (by omega), bsome, chk_succ (by omega), bsome]
  · rw [decide_eq_false ha, if_pos (by decide), if_neg ha]
end Go.Ph.Md
end
section
namespace Go.Ph.Md
open Go.Ph.Pl Go.Ph.Pf
theorem ex_law : L_mediaExample = some true := by decide +kernel
theorem bigM_of {z : List UInt8 × List UInt8 × List (List UInt8 × List UInt8)} (h : z.1.length ≤ 140737488351232 ∧ z.2.1.length ≤ 140737488351232 ∧ ∀ a ∈ z.2.2, a.1.length ≤ 140737488351232 ∧ a.2.length ≤ 140737488351232) : BigM z :=
  ⟨Nat.le_trans h.1 (by decide), Nat.le_trans h.2.1 (by decide), fun a ha => ⟨Nat.le_trans (h.2.2 a ha).1 (by decide), Nat.le_trans (h.2.2 a ha).2 (by decide)⟩⟩
end Go.Ph.Md
end
section
namespace Go.Ph.Md
open Go.Ph.Pl Go.Ph.Pf
open Go.Ph.Chs (vld lower)
theorem tw_take (p : UInt8 → Bool) : ∀ l : List UInt8, l.take (l.takeWhile p).length = l.takeWhile p
  | [] => rfl
  | c :: l => by
    cases h : p c with
    | true => rw [List.takeWhile_cons_of_pos h, List.length_cons, List.take_succ_cons, tw_take p l]
    | false => rw [List.takeWhile_cons_of_neg (by simp [h])]; rfl
theorem tw_drop (p : UInt8 → Bool) : ∀ l : List UInt8, l.drop (l.takeWhile p).length = l.dropWhile p
  | [] => rfl
  | c :: l => by
    cases h : p c with
    | true => rw [List.takeWhile_cons_of_pos h, List.dropWhile_cons_of_pos h, List.length_cons, List.drop_succ_cons, tw_drop p l]
    | false => rw [List.takeWhile_cons_of_neg (by simp [h]), List.dropWhile_cons_of_neg (by simp [h])]; rfl
theorem tw_len (p : UInt8 → Bool) (l : List UInt8) : (l.takeWhile p).length ≤ l.length := (List.takeWhile_sublist p).length_le
theorem dw_len (p : UInt8 → Bool) (l : List UInt8) : (l.dropWhile p).length ≤ l.length := (List.dropWhile_sublist p).length_le
theorem dw_head {p : UInt8 → Bool} : ∀ {l : List UInt8} {c : UInt8} {r : List UInt8}, l.dropWhile p = c :: r → p c = false
  | [], c, r, h => by cases h
  | d :: l, c, r, h => by
    cases hd : p d with
    | true => rw [List.dropWhile_cons_of_pos hd] at h; exact dw_head h
    | false => rw [List.dropWhile_cons_of_neg (by simp [hd])] at h; cases h; exact hd
theorem dw_id {p : UInt8 → Bool} {l : List UInt8} (h : ∀ c r, l = c :: r → p c = false) : l.dropWhile p = l := by
  cases l with
  | nil => rfl
  | cons c r => exact List.dropWhile_cons_of_neg (by simp [h c r rfl])
theorem scanW {L : Nat → Int → Option Int} (s : List UInt8) (p : UInt8 → Bool) (hend : ∀ m, L (m + 1) (s.length : Int) = some (s.length : Int))
    (hstep : ∀ m i (h : i < s.length), L (m + 1) (i : Int) = if p s[i] = true then L m ((i + 1 : Nat) : Int) else some (i : Int)) :
    ∀ (d i m : Nat), s.length - i ≤ d → d < m → i ≤ s.length → L m (i : Int) = some ((i + ((s.drop i).takeWhile p).length : Nat) : Int) := by
  intro d
  induction d with
  | zero =>
    intro i m h1 h2 h3
    obtain ⟨m, rfl⟩ : ∃ k, m = k + 1 := ⟨m - 1, by omega⟩
    obtain rfl : i = s.length := by omega
    rw [hend, List.drop_length]; rfl
  | succ d ih =>
    intro i m h1 h2 h3
    obtain ⟨m, rfl⟩ : ∃ k, m = k + 1 := ⟨m - 1, by omega⟩
    by_cases hi : i < s.length
    · rw [hstep m i hi, List.drop_eq_getElem_cons hi]
      cases h : p s[i] with
      | true => rw [if_pos rfl, ih (i + 1) m (by omega) (by omega) (by omega), List.takeWhile_cons_of_pos h, List.length_cons]; congr 2; omega
      | false => rw [if_neg (by decide), List.takeWhile_cons_of_neg (by simp [h])]; rfl
    · obtain rfl : i = s.length := by omega
      rw [hend, List.drop_length]; rfl
def blB (c : UInt8) : Bool := decide (c = 32) || decide (c = 9)
def tl (t : List UInt8) : List UInt8 := t.dropWhile blB
theorem tl_tl (t : List UInt8) : tl (tl t) = tl t := dw_id fun c r h => dw_head h
theorem tl_len (t : List UInt8) : (tl t).length ≤ t.length := dw_len _ _
theorem set_blank : strings_makeASCIISet [32, 9] = some ((List.range 256).map (fun n => decide (n = 32) || decide (n = 9)), true) := by decide +kernel
theorem contains_at (f : Nat → Bool) (c : UInt8) : strings_asciiSet_contains ((List.range 256).map f) c = some (f c.toNat) := by
  have hc := c.toNat_lt
  unfold strings_asciiSet_contains idxA
  rw [if_pos (by simp), idx_nat, List.getElem?_map, List.getElem?_range (by omega)]
  rfl
theorem blB_nat (c : UInt8) : (decide (c.toNat = 32) || decide (c.toNat = 9)) = blB c := by
  unfold blB
  rw [show decide (c.toNat = 32) = decide (c = 32) from decide_eq_decide.2 (u8_lit c 32).symm, show decide (c.toNat = 9) = decide (c = 9) from decide_eq_decide.2 (u8_lit c 9).symm]
theorem trimLA_eq : ∀ (k m : Nat) (l : List UInt8), l.length ≤ k → k < m → Big l → strings_trimLeftASCII_L1 ((List.range 256).map (fun n => decide (n = 32) || decide (n = 9))) m l = some (tl l)
  | k, m, l, h1, h2, h3 => by
    obtain ⟨m, rfl⟩ : ∃ k, m = k + 1 := ⟨m - 1, by omega⟩
    unfold tl
    cases l with
    | nil => rw [strings_trimLeftASCII_L1, if_neg (by simp)]; rfl
    | cons c r =>
      rw [strings_trimLeftASCII_L1, if_pos (by simp only [List.length_cons]; omega), show (0 : Int) = ((0 : Nat) : Int) from rfl, idx_nat]
      simp only [bsome, List.getElem?_cons_zero, contains_at, blB_nat]
      cases hc : blB c with
      | true =>
        rw [if_pos rfl, cut_from (i := 1) (a := 1) rfl (by simp)]
        simp only [bsome, List.drop_succ_cons, List.drop_zero]
        cases k with
        | zero => simp at h1
        | succ k => rw [trimLA_eq k m r (by simpa using h1) (by omega) (by simp only [Big, List.length_cons] at h3 ⊢; omega), List.dropWhile_cons_of_pos hc]; rfl
      | false => rw [if_neg (by simp), List.dropWhile_cons_of_neg (by simp [hc])]
theorem blanks_eq (t : List UInt8) (ht : Big t) : media_reader_blanks t = some (tl t) := by
  unfold media_reader_blanks strings_TrimLeft
  by_cases h : t = []
  · subst h; rfl
  · rw [if_neg h]
    simp only [bsome, show (decide (([32, 9] : List UInt8) = [])) = false from rfl, Bool.false_eq_true, if_false]
    rw [if_neg (by decide), bsome, if_neg (by decide), set_blank, bsome]
    dsimp only
    rw [chkA_ok List.length_replicate, bsome, chkA_ok (by rw [List.length_map, List.length_range]), bsome, if_pos rfl]
    unfold strings_trimLeftASCII
    rw [trimLA_eq t.length FU t (Nat.le_refl _) (FU_gt (by unfold Big at ht; omega)) ht, bsome, bsome]
    rfl
def pN (more : List UInt8) (c : UInt8) : Bool := tkB c || more.any (fun x => decide (x = c))
theorem read_1_eq (c : UInt8) : media_reader_read_1 c = some (pN [42] c) := by
  refine allB (p := fun c => media_reader_read_1 c = some (pN [42] c)) ?_ c
  decide +kernel
theorem value_1_eq (c : UInt8) : media_reader_value_1 c = some (pN [37, 39, 42] c) := by
  refine allB (p := fun c => media_reader_value_1 c = some (pN [37, 39, 42] c)) ?_ c
  decide +kernel
theorem take_eq (t : List UInt8) (ht : Big t) (f : UInt8 → Option Bool) (p : UInt8 → Bool) (hf : ∀ c, f c = some (p c)) : media_reader_take t f = some ((tl t).takeWhile p, (tl t).dropWhile p) := by
  unfold media_reader_take
  have hl := tl_len t
  have hw := tw_len p (tl t)
  unfold Big at ht
  rw [blanks_eq t ht, bsome]
  have := scanW (L := fun m i => media_reader_take_L1 f (tl t) m i) (tl t) p (fun m => by rw [media_reader_take_L1, if_neg (by omega), bsome, if_neg (by decide)]) (fun m i h => by
    rw [media_reader_take_L1, if_pos (by omega), idx_nat, List.getElem?_eq_getElem h, bsome, hf, bsome, bsome, chk_succ (by omega), bsome]) (tl t).length 0 FU (by omega) (FU_gt (by omega)) (by omega)
  rw [Int.natCast_zero, List.drop_zero, Nat.zero_add] at this
  rw [this, bsome, cut_to rfl hw, bsome, cut_from rfl hw, bsome, tw_take, tw_drop]
def sgn (c : UInt8) (t : List UInt8) : Option (List UInt8) := match tl t with | x :: r => if x = c then some r else none | [] => none
theorem sgn_len {c : UInt8} {t r : List UInt8} (h : sgn c t = some r) : r.length < t.length := by
  unfold sgn at h
  have := tl_len t
  cases ht : tl t with
  | nil => rw [ht] at h; cases h
  | cons x q =>
    rw [ht] at h this
    dsimp only at h
    split at h
    · cases h; rw [List.length_cons] at this; omega
    · cases h
theorem sign_eq (t : List UInt8) (ht : Big t) (c : UInt8) : media_reader_sign t c = some (match sgn c t with | some r => (true, r) | none => (false, tl t)) := by
  unfold media_reader_sign sgn
  rw [blanks_eq t ht, bsome]
  cases h : tl t with
  | nil => rfl
  | cons x r =>
    rw [if_neg (by simp), show (0 : Int) = ((0 : Nat) : Int) from rfl, idx_nat, List.getElem?_cons_zero, bsome, bsome]
    dsimp only
    by_cases hx : x = c
    · rw [decide_eq_true hx, if_neg (by decide), if_pos hx, cut_from (i := 1) (a := 1) rfl (by simp), bsome]; rfl
    · rw [decide_eq_false hx, if_pos (by decide), if_neg hx]
def qv : List UInt8 → Option (List UInt8 × List UInt8)
  | [] => none
  | c :: r => if c = 34 then some ([], r) else if c = 92 then (match r with | [] => none | d :: r2 => (qv r2).map fun p => (d :: p.1, p.2)) else (qv r).map fun p => (c :: p.1, p.2)
theorem qv_cons (c : UInt8) (r : List UInt8) : qv (c :: r) = if c = 34 then some ([], r) else if c = 92 then (match r with | [] => none | d :: r2 => (qv r2).map fun p => (d :: p.1, p.2)) else (qv r).map fun p => (c :: p.1, p.2) := by
  cases r with
  | nil => (conv => lhs; rw [qv]) <;> rfl
  | cons d r => rw [qv]
theorem qv_rest : ∀ (n : Nat) (t : List UInt8) (v r : List UInt8), t.length ≤ n → qv t = some (v, r) → r.length < t.length ∧ v.length ≤ t.length
  | n, [], v, r, hn, h => by cases h
  | 0, c :: t, v, r, hn, h => by simp at hn
  | n + 1, c :: t, v, r, hn, h => by
    rw [qv_cons] at h
    rw [List.length_cons] at hn ⊢
    by_cases h1 : c = 34
    · rw [if_pos h1] at h; cases h; exact ⟨by omega, by simp⟩
    · rw [if_neg h1] at h
      by_cases h2 : c = 92
      · rw [if_pos h2] at h
        cases t with
        | nil => cases h
        | cons d t =>
          obtain ⟨⟨v', r'⟩, h3, h4⟩ := Option.map_eq_some_iff.1 h
          dsimp only at h4
          cases h4
          have := qv_rest n t v' _ (by rw [List.length_cons] at hn; omega) h3
          rw [List.length_cons, List.length_cons]; omega
      · rw [if_neg h2] at h
        obtain ⟨⟨v', r'⟩, h3, h4⟩ := Option.map_eq_some_iff.1 h
        dsimp only at h4
        cases h4
        have := qv_rest n t v' _ (by omega) h3
        rw [List.length_cons]; omega
theorem value_L1 (s : List UInt8) (hs : s.length ≤ 1000000) : ∀ (d i m : Nat) (acc : List UInt8), s.length - i ≤ d → d < m → i ≤ s.length → acc.length ≤ i →
    ∃ o, media_reader_value_L1 m s acc (i : Int) = some o ∧ (match qv (s.drop i) with | some (v, r) => o = .inr (acc ++ v, true, r) | none => o = .inl s ∨ o = .inr ([], false, s)) := by
  intro d
  induction d using Nat.strongRecOn with
  | ind d ih =>
    intro i m acc h1 h2 h3 h4
    obtain ⟨m, rfl⟩ : ∃ k, m = k + 1 := ⟨m - 1, by omega⟩
    rw [media_reader_value_L1]
    by_cases hi : i < s.length
    · rw [if_pos (by omega), idx_nat, List.getElem?_eq_getElem hi, bsome, List.drop_eq_getElem_cons hi, qv_cons]
      by_cases c1 : s[i] = 34
      · rw [if_pos c1, if_pos c1, chk_succ (by omega), bsome, cut_from rfl (by omega), bsome]
        exact ⟨_, rfl, by simp⟩
      · rw [if_neg c1, if_neg c1]
        by_cases c2 : s[i] = 92
        · rw [if_pos c2, if_pos c2, chk_succ (by omega), bsome]
          by_cases he : i + 1 = s.length
          · rw [if_pos (by omega), List.drop_eq_nil_of_le (by omega)]
            exact ⟨_, rfl, .inr rfl⟩
          · have hi1 : i + 1 < s.length := by omega
            rw [if_neg (by omega), idx_nat, List.getElem?_eq_getElem hi1, bsome, app_ok (by simp; omega), bsome, chk_succ (by omega), bsome, List.drop_eq_getElem_cons hi1]
            dsimp only
            obtain ⟨o, ho, hq⟩ := ih (d - 2) (by omega) (i + 1 + 1) m (acc ++ [s[i + 1]]) (by omega) (by omega) (by omega) (by simp; omega)
            refine ⟨o, ho, ?_⟩
            cases hz : qv (s.drop (i + 1 + 1)) with
            | none => rw [hz] at hq; exact hq
            | some p => rw [hz] at hq; dsimp only [Option.map_some]; dsimp only at hq; rw [hq, List.append_assoc]; rfl
        · rw [if_neg c2, if_neg c2, app_ok (by simp; omega), bsome, chk_succ (by omega), bsome]
          obtain ⟨o, ho, hq⟩ := ih (d - 1) (by omega) (i + 1) m (acc ++ [s[i]]) (by omega) (by omega) (by omega) (by simp; omega)
          refine ⟨o, ho, ?_⟩
          cases hz : qv (s.drop (i + 1)) with
          | none => rw [hz] at hq; exact hq
          | some p => rw [hz] at hq; dsimp only [Option.map_some]; dsimp only at hq; rw [hq, List.append_assoc]; rfl
    · rw [if_neg (by omega), List.drop_eq_nil_of_le (by omega)]
      exact ⟨_, rfl, .inl rfl⟩
def vl (t : List UInt8) : Option (List UInt8 × List UInt8) := match sgn 34 t with | some r => qv r | none => some ((tl t).takeWhile (pN [37, 39, 42]), (tl t).dropWhile (pN [37, 39, 42]))
theorem vl_len {t v r : List UInt8} (h : vl t = some (v, r)) : r.length ≤ t.length ∧ v.length ≤ t.length := by
  unfold vl at h
  cases hs : sgn 34 t with
  | some q =>
    rw [hs] at h
    have h1 := sgn_len hs
    have h2 := qv_rest _ _ _ _ (Nat.le_refl _) h
    omega
  | none =>
    rw [hs] at h
    cases h
    have h1 := tl_len t
    have h2 := tw_len (pN [37, 39, 42]) (tl t)
    have h3 := dw_len (pN [37, 39, 42]) (tl t)
    omega
theorem value_eq (t : List UInt8) (ht : t.length ≤ 1000000) : (∃ v r, vl t = some (v, r) ∧ media_reader_value t = some (v, true, r)) ∨ (vl t = none ∧ ∃ r, media_reader_value t = some ([], false, r)) := by
  unfold media_reader_value vl
  rw [sign_eq t (by unfold Big; omega)]
  cases hs : sgn 34 t with
  | some q =>
    have h1 := sgn_len hs
    dsimp only
    rw [bsome]
    dsimp only
    rw [if_pos rfl]
    obtain ⟨o, ho, hq⟩ := value_L1 q (by omega) q.length 0 FU [] (by omega) (FU_gt (by omega)) (by omega) (by simp)
    rw [Int.natCast_zero] at ho
    rw [List.drop_zero] at hq
    rw [ho, bsome]
    cases hz : qv q with
    | some p =>
      obtain ⟨v, r⟩ := p
      rw [hz] at hq
      dsimp only at hq
      subst hq
      exact .inl ⟨v, r, rfl, rfl⟩
    | none =>
      rw [hz] at hq
      rcases hq with rfl | rfl
      · exact .inr ⟨rfl, _, rfl⟩
      · exact .inr ⟨rfl, _, rfl⟩
  | none =>
    dsimp only
    rw [bsome]
    dsimp only
    have := tl_len t
    rw [if_neg (by decide), take_eq (tl t) (by unfold Big; omega) _ _ value_1_eq, bsome, tl_tl]
    exact .inl ⟨_, _, rfl, rfl⟩
end Go.Ph.Md
end
section
namespace Go.Ph.Md
open Go.Ph.Pl Go.Ph.Pf
open Go.Ph.Chs (vld lower)
abbrev dg (c : UInt8) : Bool := decide (48 ≤ c.toNat ∧ c.toNat ≤ 57)
abbrev digs (s : List UInt8) : Bool := s.all dg
@[irreducible] def dgt (c : UInt8) : Nat := c.toNat - 48
theorem dgt_eq (c : UInt8) : dgt c = c.toNat - 48 := by unfold dgt; rfl
@[irreducible] def mad (n d : Nat) : Nat := n * 10 + d
theorem mad_eq (n d : Nat) : mad n d = n * 10 + d := by unfold mad; rfl
def dvA : Nat → List UInt8 → Nat
  | n, [] => n
  | n, c :: r => dvA (mad n (dgt c)) r
theorem dvA_nil (n : Nat) : dvA n [] = n := by rw [dvA]
theorem dvA_cons (n : Nat) (c : UInt8) (r : List UInt8) : dvA n (c :: r) = dvA (n * 10 + (c.toNat - 48)) r := by rw [dvA, mad_eq, dgt_eq]
abbrev dv (s : List UInt8) : Int := (dvA 0 s : Nat)
theorem dvA_lt : ∀ (s : List UInt8) (n : Nat), digs s = true → dvA n s < (n + 1) * 10 ^ s.length
  | [], n, h => by simp [dvA_nil]
  | c :: r, n, h => by
    simp only [digs, List.all_cons, Bool.and_eq_true, dg, decide_eq_true_eq] at h
    have := dvA_lt r (n * 10 + (c.toNat - 48)) h.2
    rw [dvA_cons, List.length_cons, Nat.pow_succ]
    refine Nat.lt_of_lt_of_le this ?_
    rw [Nat.mul_comm (10 ^ r.length) 10, ← Nat.mul_assoc]
    exact Nat.mul_le_mul_right _ (by omega)
theorem parse_dig : ∀ (s : List UInt8) (n k : Nat), digs s = true → n < 10 ^ k → k + s.length ≤ 9 → Lib.parseUint10 n s = .ok (dvA n s)
  | [], n, k, h, hn, hk => by rw [dvA_nil]; rfl
  | c :: r, n, k, h, hn, hk => by
    simp only [digs, List.all_cons, Bool.and_eq_true, dg, decide_eq_true_eq] at h
    simp only [List.length_cons] at hk
    have hp : (10 : Nat) ^ k ≤ 10 ^ 8 := Nat.pow_le_pow_right (by omega) (by omega)
    have h8 : (10 : Nat) ^ 8 = 100000000 := rfl
    rw [Lib.parseUint10, if_pos h.1, if_neg (by omega), if_neg (by omega), dvA_cons]
    exact parse_dig r _ (k + 1) h.2 (by rw [Nat.pow_succ]; omega) (by omega)
theorem dv_lt {s : List UInt8} (h : digs s = true) (h9 : s.length ≤ 9) : dv s < 1000000000 := by
  have hlt := dvA_lt s 0 h
  have hp : (10 : Nat) ^ s.length ≤ 10 ^ 9 := Nat.pow_le_pow_right (by omega) h9
  have h10 : (10 : Nat) ^ 9 = 1000000000 := rfl
  unfold dv
  omega
theorem atoi_dig {s : List UInt8} (h : digs s = true) (h0 : s ≠ []) (h9 : s.length ≤ 9) : atoiP s = (dv s, true) := by
  have hlt := dv_lt h h9
  unfold dv at hlt
  obtain ⟨c, r, rfl⟩ : ∃ c r, s = c :: r := by cases s with | nil => exact absurd rfl h0 | cons c r => exact ⟨c, r, rfl⟩
  have hc : 48 ≤ c.toNat ∧ c.toNat ≤ 57 := by
    simp only [digs, List.all_cons, Bool.and_eq_true, dg, decide_eq_true_eq] at h; exact h.1
  have h1 : Lib.parseMag (c :: r) = .ok (dvA 0 (c :: r)) := by
    unfold Lib.parseMag
    rw [if_neg (by simp), parse_dig (c :: r) 0 0 h (by simp) (by simpa using h9)]
  have h2 : Lib.atoiAll (c :: r) = .ok (dv (c :: r)) := by
    simp only [Lib.atoiAll]
    rw [if_neg (by omega), h1]
    simp only
    rw [if_neg (by omega), if_neg (by omega), if_neg (by omega)]
  unfold atoiP
  rw [h2]
theorem atoiAll_range {s : List UInt8} {v : Int} (h : Lib.atoiAll s = .ok v) : -9223372036854775808 ≤ v ∧ v ≤ 9223372036854775807 := by
  unfold Lib.atoiAll at h
  split at h
  · cases h
  · dsimp only at h
    split at h
    · cases h
    · cases h
    · split at h
      · cases h
      · split at h
        · cases h
        · rename_i h1 h2
          cases h
          split <;> omega
theorem atoi_range {s : List UInt8} (h : (atoiP s).2 = true) : -9223372036854775808 ≤ (atoiP s).1 ∧ (atoiP s).1 ≤ 9223372036854775807 := by
  unfold atoiP at h ⊢
  split at h
  · rename_i v hv
    exact atoiAll_range hv
  · cases h
  · cases h
def numP (s : List UInt8) : Option Int := if (atoiP s).2 = true ∧ itoaP (atoiP s).1 = s ∧ 0 ≤ (atoiP s).1 ∧ (atoiP s).1 ≤ 1099511627776 then some (atoiP s).1 else none
def numR (s : List UInt8) : Option Int := if (digs s = true ∧ 1 ≤ s.length ∧ s.length ≤ 9) ∧ itoaP (dv s) = s then some (dv s) else none
theorem bnumber_eq (s : List UInt8) (hs : s.length ≤ 1000000) : basic_Number s 1099511627776 = some (match numP s with | some n => (n, true) | none => (0, false)) := by
  unfold basic_Number strconv_Atoi numP
  rw [if_pos (by omega), bsome]
  have hr := @atoi_range s
  obtain ⟨⟨n, b⟩, he⟩ : ∃ p, atoiP s = p := ⟨_, rfl⟩
  rw [he] at hr ⊢
  dsimp only at hr ⊢
  cases b with
  | false => rw [if_neg (by decide), bsome, if_pos rfl, if_neg (fun h => by cases h.1)]
  | true =>
    have hr' := hr rfl
    unfold strconv_Itoa
    rw [if_pos rfl, if_pos hr', bsome]
    by_cases h1 : itoaP n = s
    · rw [if_pos h1]
      by_cases h2 : n < 0
      · rw [if_pos h2, bsome, if_pos rfl, if_neg (fun h => by omega)]
      · rw [if_neg h2, bsome]
        by_cases h3 : 1099511627776 < n
        · rw [decide_eq_true h3, if_pos rfl, if_neg (fun h => by omega)]
        · rw [decide_eq_false h3, if_neg (by decide), if_pos ⟨rfl, h1, by omega, by omega⟩]
    · rw [if_neg h1, bsome, if_pos rfl, if_neg (fun h => h1 h.2.1)]
theorem dgF_dig : ∀ (m n : Nat), digs (dgF m n) = true
  | 0, n => rfl
  | m + 1, n => by
    have h0 : ∀ p, p < 10 → dg (UInt8.ofNat (48 + p)) = true := by decide
    rw [dgF]
    split
    · rename_i h
      unfold digs
      rw [List.all_cons, h0 n h]; rfl
    · have := dgF_dig m (n / 10)
      unfold digs at this ⊢
      rw [List.all_append, this, List.all_cons, h0 (n % 10) (Nat.mod_lt _ (by omega))]; rfl
theorem dgF_ne (m n : Nat) : dgF (m + 1) n ≠ [] := by
  rw [dgF]; split <;> simp
theorem itoa_small {n : Nat} (h : n < 1000000000) : digs (itoaP n) = true ∧ itoaP n ≠ [] ∧ (itoaP n).length ≤ 9 := by
  unfold itoaP
  rw [if_neg (by omega), Int.toNat_natCast]
  refine ⟨dgF_dig _ _, dgF_ne 19 n, ?_⟩
  rw [dgF_eq 19 n (by omega), ← dgF_eq 8 n (by omega)]
  exact dgF_len 9 n
theorem numR_P {s : List UInt8} {n : Int} (h : numR s = some n) : numP s = some n ∧ 0 ≤ n ∧ n < 1000000000 := by
  unfold numR at h
  split at h
  · rename_i hc
    obtain ⟨⟨h1, h2, h3⟩, h4⟩ := hc
    cases h
    have hz := dv_lt h1 h3
    have ha := atoi_dig h1 (by intro e; subst e; simp at h2) h3
    refine ⟨?_, by unfold dv; omega, hz⟩
    unfold numP
    rw [ha, if_pos ⟨rfl, h4, by unfold dv; omega, by dsimp only; omega⟩]
  · cases h
theorem dvA_snoc : ∀ (x : List UInt8) (n : Nat) (c : UInt8), dvA n (x ++ [c]) = dvA n x * 10 + (c.toNat - 48)
  | [], n, c => by rw [List.nil_append, dvA_cons, dvA_nil, dvA_nil]
  | a :: x, n, c => by rw [List.cons_append, dvA_cons, dvA_cons, dvA_snoc x]
theorem dvA_dgF : ∀ (m n : Nat), n < 10 ^ m → dvA 0 (dgF m n) = n
  | 0, n, h => by
    have : n = 0 := by simpa using h
    subst this
    rw [dgF, dvA_nil]
  | m + 1, n, h => by
    have h0 : ∀ p, p < 10 → (UInt8.ofNat (48 + p)).toNat - 48 = p := by decide
    rw [dgF]
    split
    · rename_i h1
      rw [dvA_cons, dvA_nil, h0 n h1]; omega
    · rw [dvA_snoc, dvA_dgF m (n / 10) (by rw [Nat.div_lt_iff_lt_mul (by omega), ← Nat.pow_succ]; exact h), h0 _ (Nat.mod_lt _ (by omega))]; omega
theorem numP_of (n : Nat) (h : n < 1000000000) : numP (itoaP n) = some (n : Int) ∧ numR (itoaP n) = some (n : Int) := by
  have hs := itoa_small h
  have hl : 1 ≤ (itoaP n).length := List.length_pos_iff.2 hs.2.1
  have hd : dv (itoaP n) = n := by
    unfold dv itoaP
    rw [if_neg (by omega), Int.toNat_natCast, dvA_dgF 20 n (by omega)]
  have hR : numR (itoaP n) = some (n : Int) := by
    unfold numR
    rw [hd, if_pos ⟨⟨hs.1, hl, hs.2.2⟩, rfl⟩]
  exact ⟨(numR_P hR).1, hR⟩
end Go.Ph.Md
end
section
namespace Go.Ph.Md
open Go.Ph.Pl Go.Ph.Pf
open Go.Ph.Chs (vld lower)
def ns (c : UInt8) : Bool := !decide (c = 42)
theorem ns_star : ns 42 = false := rfl
theorem star_len : ∀ (l : List UInt8), (42 ∈ l ↔ (l.takeWhile ns).length < l.length)
  | [] => by simp
  | c :: l => by
    by_cases h : c = 42
    · subst h; simp [ns_star]
    · have hn : ns c = true := by unfold ns; rw [decide_eq_false h]; rfl
      rw [List.takeWhile_cons_of_pos hn, List.length_cons, List.length_cons, List.mem_cons]
      have := star_len l
      constructor
      · rintro (e | e)
        · exact absurd e.symm h
        · have := this.1 e; omega
      · intro e
        exact .inr (this.2 (by omega))
theorem index_star : ∀ (l : List UInt8), Lib.index l [42] = if 42 ∈ l then ((l.takeWhile ns).length : Int) else -1
  | [] => rfl
  | c :: l => by
    rw [Lib.index]
    by_cases h : c = 42
    · subst h
      rw [if_pos (by simp [List.isPrefixOf]), if_pos (by simp), List.takeWhile_cons_of_neg (by simp [ns_star])]; rfl
    · have hn : ns c = true := by unfold ns; rw [decide_eq_false h]; rfl
      have h' : ¬ (42 : UInt8) = c := fun e => h e.symm
      rw [if_neg (by simp [List.isPrefixOf, h']), index_star l, List.takeWhile_cons_of_pos hn]
      by_cases hm : 42 ∈ l
      · rw [if_pos hm, if_neg (by first | (simp; done) | (simp; omega)), if_pos (by simp [hm]), List.length_cons]; omega
      · rw [if_neg hm, if_pos (by decide), if_neg (by simp [hm, h'])]
def cutB (name : List UInt8) : List UInt8 := name.takeWhile ns
def cutR (name : List UInt8) : List UInt8 := (name.dropWhile ns).drop 1
theorem cut_eq (name : List UInt8) (hs : name.length ≤ 1000000) : strings_Cut name [42] = some (if 42 ∈ name then (cutB name, cutR name, true) else (name, [], false)) := by
  have hl := tw_len ns name
  unfold strings_Cut stringslite_Cut stringslite_Index cutB cutR
  rw [if_pos (by omega), bsome, index_star]
  by_cases h : 42 ∈ name
  · have h1 := (star_len name).1 h
    rw [if_pos h, if_pos h, if_pos (by omega), cut_to rfl hl, bsome, show (([42] : List UInt8).length : Int) = ((1 : Nat) : Int) from rfl, chk_addN 1 (by omega), bsome, cut_from rfl (by omega), bsome, bsome, tw_take, ← List.drop_drop, tw_drop]
  · rw [if_neg h, if_neg h, if_neg (by decide), bsome]
theorem snoc_cases {α : Type} (l : List α) : l = [] ∨ ∃ a c, l = a ++ [c] := by
  rcases List.eq_nil_or_concat l with h | ⟨a, c, h⟩
  · exact .inl h
  · exact .inr ⟨a, c, by rw [h]; simp⟩
def cutS (r : List UInt8) : List UInt8 × Bool := if r.getLast? = some 42 then (r.dropLast, true) else (r, false)
theorem cutS_len (r : List UInt8) : (cutS r).1.length ≤ r.length := by
  unfold cutS
  split
  · rw [List.length_dropLast]; omega
  · exact Nat.le_refl _
theorem suffix_eq (r : List UInt8) (hs : r.length ≤ 1000000) : strings_CutSuffix r [42] = some (cutS r) := by
  unfold strings_CutSuffix stringslite_CutSuffix stringslite_HasSuffix cutS
  rcases snoc_cases r with rfl | ⟨a, c, rfl⟩
  · rfl
  · have e1 : ((a ++ [c]).length : Int) - (([42] : List UInt8).length : Int) = (a.length : Int) := by simp
    rw [if_pos (by simp; omega), e1, chk_ok (by omega) (by simp at hs; omega), bsome, cut_from rfl (by simp), bsome, bsome, bsome, List.drop_left, List.getLast?_concat, List.dropLast_concat]
    by_cases h : c = 42
    · subst h
      rw [decide_eq_true rfl, if_pos rfl, bsome, cut_to rfl (by simp), bsome, List.take_left, if_pos rfl]
      rfl
    · rw [decide_eq_false (by simpa using h), if_neg (by decide), if_neg (by simpa using h)]
      rfl
def mkP (num : List UInt8 → Option Int) (name v : List UInt8) : Option Pce :=
  if 42 ∈ name then (if cutB name = [] then none else (num (cutS (cutR name)).1).map fun n => (cutB name, n, (cutS (cutR name)).2, v))
  else (if name = [] then none else some (name, -1, false, v))
def rdP (num : List UInt8 → Option Int) (t : List UInt8) : Option (Pce × List UInt8) :=
  (sgn 61 ((tl t).dropWhile (pN [42]))).bind fun t2 => (vl t2).bind fun q => (mkP num ((tl t).takeWhile (pN [42])) q.1).map fun p => (p, q.2)
theorem cutR_len (name : List UInt8) : (cutR name).length ≤ name.length := by
  unfold cutR
  have := dw_len ns name
  rw [List.length_drop]; omega
theorem mkP_some {num : List UInt8 → Option Int} {name v : List UInt8} {p : Pce} (h : mkP num name v = some p) : p.1.length ≤ name.length ∧ p.2.2.2 = v ∧ p.1 ≠ [] ∧ (p.2.1 = -1 ∨ ∃ s, num s = some p.2.1) := by
  unfold mkP at h
  split at h
  · split at h
    · cases h
    · rename_i hb
      obtain ⟨n, h1, h2⟩ := Option.map_eq_some_iff.1 h
      cases h2
      exact ⟨tw_len _ _, rfl, hb, .inr ⟨_, h1⟩⟩
  · split at h
    · cases h
    · rename_i hb
      cases h
      exact ⟨Nat.le_refl _, rfl, hb, .inl rfl⟩
theorem rdP_some {num : List UInt8 → Option Int} {t r : List UInt8} {p : Pce} (h : rdP num t = some (p, r)) : r.length < t.length ∧ p.1.length ≤ t.length ∧ p.2.2.2.length ≤ t.length ∧ p.1 ≠ [] ∧ (p.2.1 = -1 ∨ ∃ s, num s = some p.2.1) := by
  unfold rdP at h
  obtain ⟨t2, h1, h⟩ := bnd h
  obtain ⟨⟨v, r'⟩, h2, h⟩ := bnd h
  obtain ⟨p', h3, h4⟩ := Option.map_eq_some_iff.1 h
  dsimp only at h4
  cases h4
  have a1 := sgn_len h1
  have a2 := dw_len (pN [42]) (tl t)
  have a3 := tl_len t
  have a4 := vl_len h2
  have a5 := tw_len (pN [42]) (tl t)
  obtain ⟨b1, b2, b3, b4⟩ := mkP_some h3
  dsimp only at b2
  exact ⟨by omega, by omega, by rw [b2]; omega, b3, b4⟩
theorem read_eq (t : List UInt8) (ht : t.length ≤ 1000000) : ∃ p b r, media_reader_read t = some (p, b, r) ∧ rdP numP t = if b = true then some (p, r) else none := by
  have a1 := tl_len t
  have a2 := dw_len (pN [42]) (tl t)
  have a5 := tw_len (pN [42]) (tl t)
  unfold media_reader_read
  rw [take_eq t (by unfold Big; omega) _ _ read_1_eq, bsome]
  dsimp only
  rw [sign_eq _ (by unfold Big; omega), bsome]
  cases hs : sgn 61 ((tl t).dropWhile (pN [42])) with
  | none => exact ⟨_, _, _, rfl, by unfold rdP; rw [hs]; rfl⟩
  | some t2 =>
    have a6 := sgn_len hs
    have hR : rdP numP t = (vl t2).bind fun q => (mkP numP ((tl t).takeWhile (pN [42])) q.1).map fun p => (p, q.2) := by unfold rdP; rw [hs, bsome]
    rw [hR]
    dsimp only
    rw [if_pos rfl]
    have hlen : ((tl t).takeWhile (pN [42])).length ≤ 1000000 := by omega
    clear hR
    generalize (tl t).takeWhile (pN [42]) = name at *
    have hcr := cutR_len name
    have hcs := cutS_len (cutR name)
    unfold mkP
    rcases value_eq t2 (by omega) with ⟨v, r, hv, hm⟩ | ⟨hv, r, hm⟩
    · rw [hm, hv, bsome, cut_eq name hlen]
      by_cases h42 : 42 ∈ name
      · rw [if_pos h42, bsome]
        dsimp only
        rw [if_pos rfl, suffix_eq _ (by omega), bsome, bnumber_eq _ (by omega), bsome]
        cases hn : numP (cutS (cutR name)).1 with
        | none =>
          dsimp only
          refine ⟨_, _, _, rfl, ?_⟩
          rw [bsome, if_pos h42]
          split <;> rfl
        | some n =>
          dsimp only
          refine ⟨_, _, _, rfl, ?_⟩
          rw [bsome, if_pos h42]
          dsimp only
          by_cases hb : cutB name = []
          · rw [if_pos hb, decide_eq_true hb]; rfl
          · rw [if_neg hb, decide_eq_false hb]; rfl
      · rw [if_neg h42, bsome]
        dsimp only
        refine ⟨_, _, _, rfl, ?_⟩
        rw [bsome, if_neg h42]
        dsimp only
        by_cases hb : name = []
        · rw [if_pos hb, decide_eq_true hb]; rfl
        · rw [if_neg hb, decide_eq_false hb]; rfl
    · rw [hm, hv, bsome, cut_eq name hlen]
      by_cases h42 : 42 ∈ name
      · rw [if_pos h42, bsome]
        dsimp only
        rw [if_pos rfl, suffix_eq _ (by omega), bsome, bnumber_eq _ (by omega), bsome]
        exact ⟨_, _, _, rfl, rfl⟩
      · rw [if_neg h42, bsome]
        exact ⟨_, _, _, rfl, rfl⟩
def pcs (num : List UInt8 → Option Int) : Nat → List UInt8 → Option (List Pce × List UInt8)
  | 0, _ => none
  | m + 1, t => match sgn 59 t with | some r => (rdP num r).bind fun p => (pcs num m p.2).map fun q => (p.1 :: q.1, q.2) | none => some ([], tl t)
theorem parse_L1 (s1 s7 : List UInt8) (a b : List UInt8) (c : List Par) : ∀ (d m : Nat) (t : List UInt8) (l : List Pce), t.length ≤ d → d < m → l.length + t.length ≤ 100000 →
    media_parse_L1 s1 s7 m a b c t l = some (match pcs numP m t with | some (q, r) => .inl (a, b, c, r, l ++ q) | none => .inr ((s1, s7, []), false)) := by
  intro d
  induction d with
  | zero =>
    intro m t l hd hm hl
    obtain ⟨m, rfl⟩ : ∃ k, m = k + 1 := ⟨m - 1, by omega⟩
    have : t = [] := List.eq_nil_of_length_eq_zero (by omega)
    subst this
    rw [media_parse_L1, sign_eq _ (by unfold Big; simp), bsome, pcs, show sgn 59 [] = none from rfl]
    dsimp only
    rw [if_neg (by decide), List.append_nil]
  | succ d ih =>
    intro m t l hd hm hl
    obtain ⟨m, rfl⟩ : ∃ k, m = k + 1 := ⟨m - 1, by omega⟩
    rw [media_parse_L1, sign_eq _ (by unfold Big; omega), bsome, pcs]
    cases hs : sgn 59 t with
    | none =>
      dsimp only
      rw [if_neg (by decide), List.append_nil]
    | some r =>
      have h1 := sgn_len hs
      dsimp only
      rw [if_pos rfl]
      obtain ⟨p, bb, r2, he, hr⟩ := read_eq r (by omega)
      rw [he, bsome, hr]
      dsimp only
      cases bb with
      | false => rfl
      | true =>
        rw [if_pos rfl] at hr
        have h2 := (rdP_some hr).1
        rw [if_pos rfl, if_pos rfl, app_ok (by simp; omega), bsome, ih m r2 _ (by omega) (by omega) (by simp; omega), bsome]
        dsimp only
        cases hq : pcs numP m r2 with
        | none => rfl
        | some q => obtain ⟨q, x⟩ := q; simp
end Go.Ph.Md
end
section
namespace Go.Ph.Md
open Go.Ph.Pl Go.Ph.Pf
open Go.Ph.Chs (vld lower utf8)
open Go.Ph.Utf (rune dr)
def hexv (c : UInt8) : Option Nat := if 48 ≤ c.toNat ∧ c.toNat ≤ 57 then some (c.toNat - 48) else if 65 ≤ c.toNat ∧ c.toNat ≤ 70 then some (c.toNat - 55) else if 97 ≤ c.toNat ∧ c.toNat ≤ 102 then some (c.toNat - 87) else none
theorem hexv_lt {c : UInt8} {x : Nat} (h : hexv c = some x) : x < 16 := by
  unfold hexv at h
  split at h
  · cases h; omega
  · split at h
    · cases h; omega
    · split at h
      · cases h; omega
      · cases h
theorem hex_eq (c : UInt8) : basic_Hex c = some ((match hexv c with | some x => UInt8.ofNat x | none => 0), (hexv c).isSome) := by
  refine allB (p := fun c => basic_Hex c = some ((match hexv c with | some x => UInt8.ofNat x | none => 0), (hexv c).isSome)) ?_ c
  decide +kernel
theorem two16 : ∀ x, x < 16 → ∀ y, y < 16 → (UInt8.ofNat ((UInt8.ofNat x).toNat * 2 ^ 4)) ||| UInt8.ofNat y = UInt8.ofNat (16 * x + y) := by decide +kernel
def hex2 (a b : UInt8) : Option UInt8 := match hexv a, hexv b with | some x, some y => some (UInt8.ofNat (16 * x + y)) | _, _ => none
theorem pair_short {s : List UInt8} (h : s.length < 2) : basic_Pair s = some (0, false) := by
  unfold basic_Pair; rw [if_pos (by omega)]
theorem pair_eq (a b : UInt8) (t : List UInt8) : ∃ c, basic_Pair (a :: b :: t) = some (c, (hex2 a b).isSome) ∧ ∀ z, hex2 a b = some z → c = z := by
  unfold basic_Pair
  rw [if_neg (by simp; omega), show (0 : Int) = ((0 : Nat) : Int) from rfl, idx_nat, show (1 : Int) = ((1 : Nat) : Int) from rfl, idx_nat]
  simp only [List.getElem?_cons_zero, List.getElem?_cons_succ, bsome, hex_eq]
  unfold hex2
  cases ha : hexv a with
  | none => exact ⟨_, by rfl, fun z hz => by cases hz⟩
  | some x =>
    cases hb : hexv b with
    | none => exact ⟨_, by rfl, fun z hz => by cases hz⟩
    | some y => exact ⟨_, by rfl, fun z hz => by cases hz; exact two16 x (hexv_lt ha) y (hexv_lt hb)⟩
def hexd2 : List UInt8 → Option (UInt8 × List UInt8)
  | a :: b :: t => (hex2 a b).map fun z => (z, t)
  | _ => none
theorem hexd2_len {t : List UInt8} {p : UInt8 × List UInt8} (h : hexd2 t = some p) : p.2 = t.drop 2 ∧ 2 ≤ t.length := by
  rcases t with _ | ⟨a, _ | ⟨b, t⟩⟩
  · cases h
  · cases h
  · obtain ⟨z, _, rfl⟩ := Option.map_eq_some_iff.1 h
    exact ⟨rfl, by simp⟩
theorem pair_hexd2 (t : List UInt8) : ∃ c b, basic_Pair t = some (c, b) ∧ match hexd2 t with | some p => b = true ∧ c = p.1 | none => b = false := by
  rcases t with _ | ⟨a, _ | ⟨b, t⟩⟩
  · exact ⟨_, _, pair_short (by simp), rfl⟩
  · exact ⟨_, _, pair_short (by simp), rfl⟩
  · obtain ⟨c, h1, h2⟩ := pair_eq a b t
    refine ⟨_, _, h1, ?_⟩
    have e : hexd2 (a :: b :: t) = (hex2 a b).map fun z => (z, t) := rfl
    rw [e]
    cases h : hex2 a b with
    | none => rfl
    | some z => exact ⟨rfl, h2 z h⟩
def unpF : Nat → List UInt8 → List UInt8
  | 0, _ => []
  | n + 1, [] => []
  | n + 1, c :: t => if c = 37 then (match hexd2 t with | some p => p.1 :: unpF n p.2 | none => c :: unpF n t) else c :: unpF n t
theorem unpF_more : ∀ (n m : Nat) (l : List UInt8), l.length < n → l.length < m → unpF n l = unpF m l
  | n + 1, m + 1, [], _, _ => rfl
  | n + 1, m + 1, c :: t, h1, h2 => by
    simp only [List.length_cons] at h1 h2
    rw [unpF, unpF]
    have h0 := unpF_more n m t (by omega) (by omega)
    rw [h0]
    cases hp : hexd2 t with
    | none => rfl
    | some p =>
      obtain ⟨h3, h4⟩ := hexd2_len hp
      dsimp only
      rw [unpF_more n m p.2 (by rw [h3, List.length_drop]; omega) (by rw [h3, List.length_drop]; omega)]
def unp (l : List UInt8) : List UInt8 := unpF (l.length + 1) l
theorem unp_nil : unp [] = [] := rfl
theorem unp_cons (c : UInt8) (t : List UInt8) : unp (c :: t) = if c = 37 then (match hexd2 t with | some p => p.1 :: unp p.2 | none => c :: unp t) else c :: unp t := by
  unfold unp
  rw [List.length_cons, unpF]
  cases hp : hexd2 t with
  | none => rfl
  | some p =>
    obtain ⟨h3, h4⟩ := hexd2_len hp
    dsimp only
    rw [unpF_more (t.length + 1) (p.2.length + 1) p.2 (by rw [h3, List.length_drop]; omega) (by omega)]
theorem unp_len : ∀ (n : Nat) (l : List UInt8), l.length ≤ n → (unp l).length ≤ l.length
  | n, [], _ => Nat.le_refl _
  | 0, c :: t, h => by simp at h
  | n + 1, c :: t, h => by
    simp only [List.length_cons] at h ⊢
    rw [unp_cons]
    have h1 := unp_len n t (by omega)
    split
    · cases hp : hexd2 t with
      | none => dsimp only; rw [List.length_cons]; omega
      | some p =>
        obtain ⟨h3, h4⟩ := hexd2_len hp
        have h5 := unp_len n p.2 (by rw [h3, List.length_drop]; omega)
        rw [h3, List.length_drop] at h5
        dsimp only
        rw [List.length_cons, h3]; omega
    · rw [List.length_cons]; omega
theorem text_L1 (s : List UInt8) (hs : s.length ≤ 1000000) : ∀ (d i m : Nat) (acc : List UInt8), s.length - i ≤ d → d < m → i ≤ s.length → acc.length ≤ i →
    media_piece_text_L1 s m acc (i : Int) = some (acc ++ unp (s.drop i)) := by
  intro d
  induction d using Nat.strongRecOn with
  | ind d ih =>
    intro i m acc h1 h2 h3 h4
    obtain ⟨m, rfl⟩ : ∃ k, m = k + 1 := ⟨m - 1, by omega⟩
    rw [media_piece_text_L1]
    by_cases hi : i < s.length
    · rw [if_pos (by omega), idx_nat, List.getElem?_eq_getElem hi, bsome, List.drop_eq_getElem_cons hi, unp_cons]
      have hplain : ∀ (o : Option ((List UInt8 × Int) ⊕ (List UInt8 × Int))), o = some (.inl (acc, (i : Int))) → (o.bind fun o55 => (match o55 with | .inl (l33, n35) => (idx s n35).bind fun c50 => (app 1 l33 ([c50] : List UInt8)).bind fun l51 => (chk (n35 + 1)).bind fun n52 => media_piece_text_L1 s m l51 n52 | .inr (l37, n39) => (chk (n39 + 1)).bind fun n54 => media_piece_text_L1 s m l37 n54)) = some (acc ++ (s[i] :: unp (s.drop (i + 1)))) := by
        rintro o rfl
        rw [bsome]
        dsimp only
        rw [idx_nat, List.getElem?_eq_getElem hi, bsome, app_ok (by simp; omega), bsome, chk_succ (by omega), bsome, ih (d - 1) (by omega) (i + 1) m _ (by omega) (by omega) (by omega) (by simp; omega), List.append_assoc]; rfl
      by_cases h37 : s[i] = 37
      · rw [if_pos h37, if_pos h37, chk_succ (by omega), bsome, cut_from rfl (by omega), bsome]
        obtain ⟨c, b, hp, hq⟩ := pair_hexd2 (s.drop (i + 1))
        rw [hp, bsome]
        dsimp only
        cases hz : hexd2 (s.drop (i + 1)) with
        | none =>
          rw [hz] at hq
          dsimp only at hq
          subst hq
          exact hplain _ (by rw [if_neg (by decide)])
        | some p =>
          rw [hz] at hq
          obtain ⟨rfl, rfl⟩ := hq
          obtain ⟨e1, e2⟩ := hexd2_len hz
          rw [List.length_drop] at e2
          rw [if_pos rfl, app_ok (by simp; omega), bsome, show ((i : Int) + 2) = ((i + 2 : Nat) : Int) by omega, chk_ok (by omega) (by omega), bsome, bsome]
          dsimp only
          rw [chk_succ (by omega), bsome, ih (d - 3) (by omega) (i + 2 + 1) m _ (by omega) (by omega) (by omega) (by simp; omega), e1, List.drop_drop, List.append_assoc, show i + 1 + 2 = i + 2 + 1 by omega]; rfl
      · rw [if_neg h37, if_neg h37]
        exact hplain _ rfl
    · rw [if_neg (by omega), List.drop_eq_nil_of_le (by omega), unp_nil, List.append_nil]
def bare (p : Pce) : List UInt8 := if p.2.1 = 0 ∧ 6 ≤ p.2.2.2.length ∧ lower (p.2.2.2.take 6) = pre8 then p.2.2.2.drop 6 else p.2.2.2
def txt (p : Pce) : List UInt8 := if p.2.2.1 = true then unp (bare p) else p.2.2.2
theorem bare_len (p : Pce) : (bare p).length ≤ p.2.2.2.length := by
  unfold bare
  split
  · rw [List.length_drop]; omega
  · exact Nat.le_refl _
theorem txt_len (p : Pce) : (txt p).length ≤ p.2.2.2.length := by
  unfold txt
  have := bare_len p
  have := unp_len _ (bare p) (Nat.le_refl _)
  split <;> omega
theorem lower_pre : lower pre8 = pre8 := by decide
theorem text_eq (p : Pce) (hp : p.2.2.2.length ≤ 1000000) : media_piece_text p = some (txt p) := by
  obtain ⟨nm, n, st, v⟩ := p
  unfold media_piece_text txt bare
  dsimp only at hp ⊢
  cases st with
  | false => rw [if_neg (by decide), if_neg (by decide)]
  | true =>
    rw [if_pos rfl, if_pos rfl]
    have e : (if n = (0 : Int) then (if (6 : Int) ≤ (v.length : Int) then (cut v 0 6).bind fun s7 => (basic_Same s7 [117, 116, 102, 56, 39, 39]).bind fun b8 => some b8 else some false) else some false) = some (decide (n = 0 ∧ 6 ≤ v.length ∧ lower (v.take 6) = pre8)) := by
      by_cases h0 : n = 0
      · rw [if_pos h0]
        by_cases h6 : 6 ≤ v.length
        · rw [if_pos (by omega), cut_to (j := 6) (b := 6) rfl h6, bsome, same_eq (by unfold Big; rw [List.length_take]; omega) (by unfold Big; simp), bsome, show lower [117, 116, 102, 56, 39, 39] = pre8 from lower_pre]
          congr 1
          simp [h0, h6]
        · rw [if_neg (by omega), decide_eq_false (fun h => h6 h.2.1)]
      · rw [if_neg h0, decide_eq_false (fun h => h0 h.1)]
    rw [e, bsome]
    by_cases hc : n = 0 ∧ 6 ≤ v.length ∧ lower (v.take 6) = pre8
    · rw [decide_eq_true hc, if_pos rfl, if_pos hc, cut_from (i := 6) (a := 6) rfl hc.2.1, bsome, bsome]
      have := text_L1 (v.drop 6) (by rw [List.length_drop]; omega) (v.drop 6).length 0 FU [] (by omega) (FU_gt (by rw [List.length_drop]; omega)) (by omega) (by simp)
      rw [Int.natCast_zero, List.drop_zero, List.nil_append] at this
      rw [this, bsome]
    · rw [decide_eq_false hc, if_neg (by decide), if_neg hc, bsome]
      have := text_L1 v hp v.length 0 FU [] (by omega) (FU_gt (by omega)) (by omega) (by simp)
      rw [Int.natCast_zero, List.drop_zero, List.nil_append] at this
      rw [this, bsome]
def fixF : Nat → Bool → List UInt8 → List UInt8
  | 0, _, _ => []
  | n + 1, b, t => if t = [] then [] else if 0 ≤ (rune t).1 then t.take (rune t).2 ++ fixF n false (t.drop (rune t).2) else (if b = true then [] else [239, 191, 189]) ++ fixF n true (t.drop 1)
theorem fixF_more : ∀ (n m : Nat) (b : Bool) (l : List UInt8), l.length < n → l.length < m → fixF n b l = fixF m b l
  | n + 1, m + 1, b, l, h1, h2 => by
    rw [fixF, fixF]
    by_cases hl : l = []
    · rw [if_pos hl, if_pos hl]
    · obtain ⟨r1, _, r2⟩ := Utf.rune_size l
      have hp := List.length_pos_iff.2 hl
      rw [if_neg hl, if_neg hl, fixF_more n m false (l.drop (rune l).2) (by rw [List.length_drop]; omega) (by rw [List.length_drop]; omega), fixF_more n m true (l.drop 1) (by rw [List.length_drop]; omega) (by rw [List.length_drop]; omega)]
def fix (b : Bool) (t : List UInt8) : List UInt8 := fixF (t.length + 1) b t
theorem fix_nil (b : Bool) : fix b [] = [] := rfl
theorem fix_ok {t : List UInt8} (b : Bool) (hl : t ≠ []) (h : 0 ≤ (rune t).1) : fix b t = t.take (rune t).2 ++ fix false (t.drop (rune t).2) := by
  obtain ⟨r1, _, r2⟩ := Utf.rune_size t
  have hp := List.length_pos_iff.2 hl
  unfold fix
  rw [fixF, if_neg hl, if_pos h, fixF_more t.length ((t.drop (rune t).2).length + 1) false _ (by rw [List.length_drop]; omega) (by omega)]
theorem fix_bad {t : List UInt8} (b : Bool) (hl : t ≠ []) (h : (rune t).1 < 0) : fix b t = (if b = true then [] else [239, 191, 189]) ++ fix true (t.drop 1) := by
  have hp := List.length_pos_iff.2 hl
  unfold fix
  rw [fixF, if_neg hl, if_neg (by omega), fixF_more t.length ((t.drop 1).length + 1) true _ (by rw [List.length_drop]; omega) (by omega)]
theorem fix_vld : ∀ (n : Nat) (t : List UInt8) (b : Bool), t.length ≤ n → vld t = true → fix b t = t
  | n, [], b, _, _ => rfl
  | 0, c :: t, b, h, _ => by simp at h
  | n + 1, c :: t, b, h, hv => by
    have hl : (c :: t) ≠ [] := by simp
    obtain ⟨r1, _, r2⟩ := Utf.rune_size (c :: t)
    rw [Chs.vld_cons hl, Bool.and_eq_true, decide_eq_true_eq] at hv
    rw [fix_ok b hl hv.1, fix_vld n _ false (by rw [List.length_drop]; simp only [List.length_cons] at h ⊢; omega) hv.2, List.take_append_drop]
theorem tv_L1 (s : List UInt8) : ∀ (d i m : Nat), s.length - i ≤ d → d < m → i ≤ s.length →
    ∃ o, tvL1 s m i = some o ∧ match o with | none => fix false (s.drop i) = s.drop i | some j => i ≤ j ∧ j < s.length ∧ fix false (s.drop i) = (s.drop i).take (j - i) ++ fix false (s.drop j) := by
  intro d
  induction d using Nat.strongRecOn with
  | ind d ih =>
    intro i m h1 h2 h3
    obtain ⟨m, rfl⟩ : ∃ k, m = k + 1 := ⟨m - 1, by omega⟩
    rw [tvL1]
    by_cases hi : i < s.length
    · have hl : s.drop i ≠ [] := by rw [Ne, List.drop_eq_nil_iff]; omega
      obtain ⟨r1, r3, r2⟩ := Utf.rune_size (s.drop i)
      have r2' := r2 hl
      rw [List.length_drop] at r2'
      rw [if_pos hi]
      have hgo : ¬ (((dr (s.drop i)).1 : Int) = 65533 ∧ ((dr (s.drop i)).2 : Int) = 1) → ∃ o, tvL1 s m (i + (dr (s.drop i)).2) = some o ∧ match o with | none => fix false (s.drop i) = s.drop i | some j => i ≤ j ∧ j < s.length ∧ fix false (s.drop i) = (s.drop i).take (j - i) ++ fix false (s.drop j) := by
        intro hok
        obtain ⟨k1, _, k2⟩ := Utf.first_ok _ hok
        rw [k2]
        obtain ⟨o, ho, hm⟩ := ih (d - (rune (s.drop i)).2) (by omega) (i + (rune (s.drop i)).2) m (by omega) (by omega) (by omega)
        refine ⟨o, ho, ?_⟩
        cases o with
        | none =>
          dsimp only at hm ⊢
          rw [fix_ok false hl k1, List.drop_drop, hm, ← List.drop_drop, List.take_append_drop]
        | some j =>
          dsimp only at hm ⊢
          obtain ⟨m1, m2, m3⟩ := hm
          refine ⟨by omega, m2, ?_⟩
          rw [fix_ok false hl k1, List.drop_drop, m3, ← List.append_assoc]
          congr 1
          rw [← List.drop_drop, show j - i = (rune (s.drop i)).2 + (j - (i + (rune (s.drop i)).2)) by omega, List.take_add]
      by_cases c1 : ((dr (s.drop i)).1 : Int) = (65533 : Int)
      · rw [if_pos c1]
        by_cases c2 : ((dr (s.drop i)).2 : Int) = (1 : Int)
        · rw [if_pos c2]
          exact ⟨_, rfl, Nat.le_refl _, hi, by rw [Nat.sub_self]; rfl⟩
        · rw [if_neg c2]
          exact hgo (fun h => c2 h.2)
      · rw [if_neg c1]
        exact hgo (fun h => c1 h.1)
    · rw [if_neg hi]
      refine ⟨_, rfl, ?_⟩
      dsimp only
      rw [List.drop_eq_nil_of_le (by omega), fix_nil]
theorem rune_big {t : List UInt8} (hl : t ≠ []) (h : 128 ≤ Utf.nat t 0) (h0 : 0 ≤ (rune t).1) : (rune t).2 ≠ 1 := by
  intro h1
  have hu := Chs.utf8_rune t hl h0
  have hp := List.length_pos_iff.2 hl
  rw [h1, Chs.take_utf8_1 hp] at hu
  have hm : utf8 (rune t).1 = Chs.utf8M (rune t).1 := by
    obtain ⟨a, b⟩ := Chs.rune_valid t h0
    unfold Chs.utf8
    rw [Chs.fixN_id h0 a b]
  rw [hm] at hu
  unfold Chs.utf8M at hu
  split at hu
  · rename_i hlt
    have e := (List.cons.inj hu).1
    have h2 := Chs.ub_nat h0 (by omega)
    have h3 := Chs.ub_nat (a := (Utf.nat t 0 : Int)) (by omega) (by have := Utf.nat_lt t 0; omega)
    rw [e, h3] at h2
    omega
  · split at hu
    · simp at hu
    · split at hu <;> simp at hu
theorem write_eq (l s : List UInt8) (h : l.length + s.length ≤ 100000000) : strings_Builder_WriteString l s = some ((s.length : Int), true, l ++ s) := by
  unfold strings_Builder_WriteString
  rw [app_ok (by omega), bsome]
theorem writeB_eq (l : List UInt8) (c : UInt8) (h : l.length ≤ 10000000) : strings_Builder_WriteByte l c = some (true, l ++ [c]) := by
  unfold strings_Builder_WriteByte
  rw [app_ok (by simp; omega), bsome]
theorem tv_L2 (s : List UInt8) (hs : s.length ≤ 1000000) : ∀ (d i m : Nat) (b : Bool) (acc : List UInt8), s.length - i ≤ d → d < m → i ≤ s.length → acc.length ≤ 1000000 + 4 * i →
    strings_ToValidUTF8_L2 [239, 191, 189] s m acc b (i : Int) = some (acc ++ fix b (s.drop i)) := by
  intro d
  induction d using Nat.strongRecOn with
  | ind d ih =>
    intro i m b acc h1 h2 h3 h4
    obtain ⟨m, rfl⟩ : ∃ k, m = k + 1 := ⟨m - 1, by omega⟩
    rw [strings_ToValidUTF8_L2]
    by_cases hi : i < s.length
    · have hl : s.drop i ≠ [] := by rw [Ne, List.drop_eq_nil_iff]; omega
      obtain ⟨r1, r3, r2⟩ := Utf.rune_size (s.drop i)
      have r2' := r2 hl
      rw [List.length_drop] at r2'
      have hdi := List.drop_eq_getElem_cons hi
      have hnat : Utf.nat (s.drop i) 0 = s[i].toNat := by rw [hdi]; exact Chs.nat_head _ _
      rw [if_pos (by omega), idx_nat, List.getElem?_eq_getElem hi, bsome]
      by_cases h128 : s[i].toNat < 128
      · have hr := Utf.rune_ascii (l := s.drop i) (by omega)
        rw [if_pos h128, chk_succ (by omega), bsome, writeB_eq _ _ (by omega), bsome]
        dsimp only
        rw [ih (d - 1) (by omega) (i + 1) m false _ (by omega) (by omega) (by omega) (by simp; omega), fix_ok b hl (by rw [hr]; dsimp only; omega), hr]
        dsimp only
        rw [List.drop_drop, List.append_assoc]
        congr 2
        rw [hdi]; rfl
      · rw [if_neg h128, cut_from rfl (by omega), bsome]
        unfold utf8_DecodeRuneInString
        rw [if_pos hl, bsome]
        dsimp only
        by_cases h1s : ((dr (s.drop i)).2 : Int) = 1
        · have hbad : (rune (s.drop i)).1 < 0 := by
            by_cases h0 : 0 ≤ (rune (s.drop i)).1
            · exfalso
              have := rune_big hl (by omega) h0
              have hd := Utf.rune_dr (s.drop i)
              rw [if_neg (by omega)] at hd
              rw [hd] at h1s
              dsimp only at h1s
              omega
            · omega
          rw [if_pos h1s, chk_succ (by omega), bsome, fix_bad b hl hbad, List.drop_drop]
          have e : ((if b = true then some (acc, true) else (strings_Builder_WriteString acc [239, 191, 189]).bind fun (n76, b77, l78) => some (l78, true)) : Option (List UInt8 × Bool)) = some (acc ++ (if b = true then [] else [239, 191, 189]), true) := by
            cases b with
            | true => rw [if_pos rfl, if_pos rfl, List.append_nil]
            | false => rw [if_neg (by decide), write_eq _ _ (by simp; omega), bsome]; rfl
          rw [e, bsome]
          dsimp only
          rw [ih (d - 1) (by omega) (i + 1) m true _ (by omega) (by omega) (by omega) (by cases b <;> simp <;> omega), List.append_assoc]
        · obtain ⟨k1, _, k2⟩ := Utf.first_ok (s.drop i) (fun h => h1s h.2)
          rw [if_neg h1s, k2, ← Int.natCast_add, chk_ok (by omega) (by omega), bsome, cut_of rfl rfl (by omega) (by omega), bsome, List.drop_take, Nat.add_sub_cancel_left, write_eq _ _ (by rw [List.length_take]; omega), bsome]
          dsimp only
          rw [bsome, ih (d - (rune (s.drop i)).2) (by omega) (i + (rune (s.drop i)).2) m false _ (by omega) (by omega) (by omega) (by rw [List.length_append, List.length_take]; omega), fix_ok b hl k1, List.drop_drop, List.append_assoc]
    · rw [if_neg (by omega), List.drop_eq_nil_of_le (by omega), fix_nil, List.append_nil]
theorem toValid_eq (s : List UInt8) (hs : s.length ≤ 1000000) : strings_ToValidUTF8 s [239, 191, 189] = some (fix false s) := by
  unfold strings_ToValidUTF8
  rw [if_pos ⟨hs, by simp, by simp⟩]
  obtain ⟨o, ho, hm⟩ := tv_L1 s s.length 0 FU (by omega) (FU_gt (by omega)) (by omega)
  rw [ho, bsome]
  cases o with
  | none =>
    dsimp only at hm ⊢
    rw [List.drop_zero] at hm
    rw [hm]
  | some j =>
    dsimp only at hm ⊢
    obtain ⟨m1, m2, m3⟩ := hm
    rw [List.drop_zero, Nat.sub_zero] at m3
    have := tv_L2 (s.drop j) (by rw [List.length_drop]; omega) (s.drop j).length 0 FU false (s.take j) (by omega) (FU_gt (by rw [List.length_drop]; omega)) (by omega) (by rw [List.length_take]; omega)
    rw [Int.natCast_zero, List.drop_zero] at this
    unfold strings_Builder_String
    rw [this, bsome, bsome, m3]
end Go.Ph.Md
end
section
namespace Go.Ph.Md
open Go.Ph.Pl Go.Ph.Pf
open Go.Ph.Chs (vld lower)
def tot (l : List Pce) : Nat := (l.map fun p => p.2.2.2.length).sum
theorem tot_cons (p : Pce) (l : List Pce) : tot (p :: l) = p.2.2.2.length + tot l := by unfold tot; rw [List.map_cons, List.sum_cons]
theorem tot_filter (f : Pce → Bool) : ∀ l : List Pce, tot (l.filter f) ≤ tot l
  | [] => Nat.le_refl _
  | p :: l => by
    have := tot_filter f l
    rw [tot_cons, List.filter_cons]
    split
    · rw [tot_cons]; omega
    · omega
theorem tot_perm {a b : List Pce} (h : a.Perm b) : tot a = tot b := by
  induction h with
  | nil => rfl
  | cons x _ ih => rw [tot_cons, tot_cons, ih]
  | swap x y l => rw [tot_cons, tot_cons, tot_cons, tot_cons]; omega
  | trans _ _ h1 h2 => rw [h1, h2]
theorem tot_txt : ∀ l : List Pce, (l.flatMap txt).length ≤ tot l
  | [] => Nat.le_refl _
  | p :: l => by
    have := tot_txt l
    have := txt_len p
    rw [List.flatMap_cons, List.length_append, tot_cons]; omega
theorem tot_mem {l : List Pce} {p : Pce} (h : p ∈ l) : p.2.2.2.length ≤ tot l := by
  induction l with
  | nil => cases h
  | cons q l ih =>
    rw [tot_cons]
    rcases List.mem_cons.1 h with rfl | h
    · omega
    · have := ih h; omega
structure Fit (l : List Pce) : Prop where
  len : l.length ≤ 4000
  tot : tot l ≤ 4000
  ok : ∀ p ∈ l, pcOk p ∧ p.1.length ≤ 4000
def smQ (p x : Pce) : Bool := decide (lower x.1 = lower p.1)
def grp (l : List Pce) (p : Pce) : List Pce := l.filter (smQ p)
theorem params_1_eq {x p : Pce} (hx : x.1.length ≤ 4000) (hp : p.1.length ≤ 4000) : media_params_1 x p = some (smQ p x) := by
  unfold media_params_1
  rw [same_eq (by unfold Big; omega) (by unfold Big; omega), bsome]; rfl
theorem indexQ (l : List Pce) (hl : l.length ≤ 4000) (f : Pce → Option Bool) (p : Pce → Bool) (hf : ∀ x ∈ l, f x = some (p x)) : slices_ContainsFunc_piece l f = some (l.any p) := by
  unfold slices_ContainsFunc_piece slices_IndexFunc_piece
  rcases scanP (fun m i => slices_IndexFunc_piece_L1 l f m i) l (fun i x => if p x = true then some (.inr (i : Int)) else none) (.inl ()) (fun m => by rw [slices_IndexFunc_piece_L1, if_neg (by omega)]) (fun m i h => by
    rw [slices_IndexFunc_piece_L1, if_pos (by omega), idx_nat, List.getElem?_eq_getElem h, bsome]
    have e : f (l[i].1, l[i].2.1, l[i].2.2.1, l[i].2.2.2) = some (p l[i]) := hf _ (List.getElem_mem h)
    rw [e, bsome, chk_succ (by omega), bsome]
    cases p l[i] <;> rfl) l.length 0 FU (by omega) (FU_gt (by omega)) (by omega) with ⟨j, hj, r, a1, a2, a3, a4⟩ | ⟨a1, a2⟩
  · rw [Int.natCast_zero] at a4
    have hp : p l[j] = true := by
      cases h : p l[j] with
      | true => rfl
      | false => rw [h, if_neg (by decide)] at a2; cases a2
    rw [hp, if_pos rfl] at a2
    cases a2
    rw [a4, bsome, bsome]
    rw [show l.any p = true from List.any_eq_true.2 ⟨_, List.getElem_mem hj, hp⟩, decide_eq_true (by omega)]
  · rw [Int.natCast_zero] at a2
    rw [a2, bsome, bsome]
    have : l.any p = false := by
      rw [List.any_eq_false]
      intro x hx hp
      obtain ⟨i, hi, rfl⟩ := List.getElem_of_mem hx
      have := a1 i hi (by omega)
      rw [hp, if_pos rfl] at this
      cases this
    rw [this]; rfl
theorem foldl_filt {α : Type} (p : α → Bool) : ∀ (l : List α) (o : List α), l.foldl (fun o x => if p x = true then o ++ [x] else o) o = o ++ l.filter p
  | [], o => by simp
  | x :: l, o => by
    rw [List.foldl_cons, foldl_filt p l]
    by_cases h : p x = true
    · rw [if_pos h, List.filter_cons_of_pos h]; simp
    · rw [if_neg h, List.filter_cons_of_neg h]
theorem group_eq (l : List Pce) (hl : Fit l) (p : Pce) (hp : p.1.length ≤ 4000) : media_params_L2 l p FU [] 0 = some (grp l p) := by
  have hlen := hl.len
  rw [foldI0 (L := fun m s i => media_params_L2 l p m s i) l (fun o x => if smQ p x = true then o ++ [x] else o) id (fun i s => s.length ≤ i) (by omega) ?_ ?_ [] (by simp), foldl_filt]
  · rfl
  · intro m s hs
    rw [media_params_L2, if_neg (by omega)]; rfl
  · intro m s i x hx hs
    have hi := (List.getElem?_eq_some_iff.1 hx).1
    have hxo := (hl.ok x (List.mem_of_getElem? hx)).2
    refine ⟨by split <;> (try rw [List.length_append, List.length_singleton]) <;> omega, ?_⟩
    rw [media_params_L2, if_pos (by omega), idx_nat, hx, bsome, show media_params_1 (x.1, x.2.1, x.2.2.1, x.2.2.2) (p.1, p.2.1, p.2.2.1, p.2.2.2) = some (smQ p x) from params_1_eq hxo hp, bsome]
    by_cases h : smQ p x = true
    · rw [if_pos h, if_pos h, app_ok (by simp; omega), bsome, chk_succ (by omega), bsome]
    · rw [if_neg h, if_neg h, chk_succ (by omega), bsome]
def upF (lo : Int) : Nat → List Int
  | 0 => []
  | k + 1 => lo :: upF (lo + 1) k
theorem up_mem : ∀ (k : Nat) (lo n : Int), n ∈ upF lo k ↔ lo ≤ n ∧ n < lo + k
  | 0, lo, n => by simp [upF]
  | k + 1, lo, n => by
    rw [upF, List.mem_cons, up_mem k (lo + 1) n]; omega
theorem up_nodup : ∀ (k : Nat) (lo : Int), (upF lo k).Nodup
  | 0, lo => List.nodup_nil
  | k + 1, lo => by
    rw [upF, List.nodup_cons]
    exact ⟨fun h => by rw [up_mem] at h; omega, up_nodup k (lo + 1)⟩
abbrev nums (l : List Pce) : List Int := l.map fun p => p.2.1
def okG (g : List Pce) : Prop := nums (sortP g) = upF 0 g.length
instance (g : List Pce) : Decidable (okG g) := by unfold okG; infer_instance
theorem sort_ex {g : List Pce} (h : ∀ p ∈ g, pcOk p) (hl : g.length ≤ 1000000) (hne : g ≠ []) : slices_SortFunc_piece g = some (sortP g) := by
  cases hs : slices_SortFunc_piece g with
  | none =>
    unfold slices_SortFunc_piece at hs
    rw [if_pos ⟨h, hl, hne⟩] at hs
    split at hs <;> cases hs
  | some r => rw [(sort_some hs).2.2.2]
def jnV (g : List Pce) : Option (List UInt8) :=
  match g with
  | [] => none
  | p :: r => if p.2.1 < 0 then (if r = [] then some p.2.2.2 else none) else if okG (p :: r) then some (fix false ((sortP (p :: r)).flatMap txt)) else none
theorem joined_L1 (l : List Pce) (hl : l.length ≤ 4000) (ht : tot l ≤ 4000) (s13 s14 s15 : List UInt8) : ∀ (d i m : Nat) (acc : List UInt8), l.length - i ≤ d → d < m → i ≤ l.length → acc.length + tot (l.drop i) ≤ 4000 →
    ∃ o, media_joined_L1 l m s13 s14 s15 acc (i : Int) = some o ∧ (nums (l.drop i) = upF (i : Int) (l.length - i) → o = .inl (s13, s14, s15, acc ++ (l.drop i).flatMap txt)) ∧ (¬ nums (l.drop i) = upF (i : Int) (l.length - i) → ∃ x, o = .inr (x, false)) := by
  intro d
  induction d with
  | zero =>
    intro i m acc h1 h2 h3 h4
    obtain ⟨m, rfl⟩ : ∃ k, m = k + 1 := ⟨m - 1, by omega⟩
    rw [media_joined_L1, if_neg (by omega), List.drop_eq_nil_of_le (by omega), show l.length - i = 0 by omega]
    exact ⟨_, rfl, fun _ => by rw [List.flatMap_nil, List.append_nil], fun h => absurd rfl h⟩
  | succ d ih =>
    intro i m acc h1 h2 h3 h4
    obtain ⟨m, rfl⟩ : ∃ k, m = k + 1 := ⟨m - 1, by omega⟩
    by_cases hi : i < l.length
    · have hd := List.drop_eq_getElem_cons hi
      rw [hd, tot_cons] at h4
      have hx := txt_len l[i]
      rw [media_joined_L1, if_pos (by omega), idx_nat, List.getElem?_eq_getElem hi, bsome, hd, show l.length - i = (l.length - (i + 1)) + 1 by omega, upF]
      by_cases hn : l[i].2.1 = (i : Int)
      · rw [if_pos hn, show ((l[i].1, l[i].2.1, l[i].2.2.1, l[i].2.2.2) : Pce) = l[i] from rfl, text_eq _ (by omega), bsome, cat_ok (by omega), bsome, chk_succ (by omega), bsome]
        obtain ⟨o, ho, hq⟩ := ih (i + 1) m (acc ++ txt l[i]) (by omega) (by omega) (by omega) (by rw [List.length_append]; omega)
        have he : nums (l[i] :: l.drop (i + 1)) = l[i].2.1 :: nums (l.drop (i + 1)) := rfl
        rw [he, hn, List.flatMap_cons, ← List.append_assoc]
        exact ⟨o, ho, fun e => hq.1 (List.cons.inj e).2, fun e => hq.2 (fun e' => e (by rw [e']; rfl))⟩
      · rw [if_neg hn]
        exact ⟨_, rfl, fun e => absurd (List.cons.inj (show l[i].2.1 :: nums (l.drop (i + 1)) = _ from e)).1 hn, fun _ => ⟨_, rfl⟩⟩
    · rw [media_joined_L1, if_neg (by omega), List.drop_eq_nil_of_le (by omega), show l.length - i = 0 by omega]
      exact ⟨_, rfl, fun _ => by rw [List.flatMap_nil, List.append_nil], fun h => absurd rfl h⟩
theorem joined_eq (g : List Pce) (hne : g ≠ []) (hg : Fit g) : ∃ x v b, media_joined g = some ((x, v), b) ∧ jnV g = if b = true then some v else none := by
  obtain ⟨p, r, rfl⟩ : ∃ p r, g = p :: r := by cases g with | nil => exact absurd rfl hne | cons p r => exact ⟨p, r, rfl⟩
  have hok : ∀ q ∈ p :: r, pcOk q := fun q hq => (hg.ok q hq).1
  have hp := sortP_perm hok
  have hl := hg.len
  have ht := hg.tot
  unfold media_joined jnV
  rw [show idx (p :: r) 0 = some p from rfl, bsome, bsome, bsome]
  dsimp only
  by_cases h0 : p.2.1 < 0
  · rw [if_pos h0, if_pos h0]
    refine ⟨_, _, _, rfl, ?_⟩
    by_cases hr : r = []
    · subst hr; rfl
    · rw [if_neg hr, decide_eq_false (by have := List.length_pos_iff.2 hr; simp; omega), if_neg (by decide)]
  · rw [if_neg h0, if_neg h0, sort_ex hok (by omega) (by simp), bsome]
    obtain ⟨o, ho, hq⟩ := joined_L1 (sortP (p :: r)) (by rw [hp.length_eq]; exact hl) (by rw [tot_perm hp]; exact ht) [] [] p.1 (sortP (p :: r)).length 0 FU [] (by omega) (FU_gt (by rw [hp.length_eq]; omega)) (by omega) (by rw [List.drop_zero, tot_perm hp, List.length_nil]; omega)
    rw [Int.natCast_zero, List.drop_zero, Nat.sub_zero, List.nil_append, hp.length_eq] at hq
    rw [Int.natCast_zero] at ho
    rw [ho, bsome]
    have hx := tot_txt (sortP (p :: r))
    rw [tot_perm hp] at hx
    by_cases hk : okG (p :: r)
    · rw [if_pos hk]
      have hq := hq.1 hk
      subst hq
      dsimp only
      rw [toValid_eq _ (by omega), bsome]
      exact ⟨_, _, _, rfl, by rw [if_pos rfl]⟩
    · rw [if_neg hk]
      obtain ⟨⟨x, y⟩, rfl⟩ := hq.2 hk
      exact ⟨_, _, _, rfl, by rw [if_neg (by decide)]⟩
def parI (l : List Pce) (pre : List Pce) : List Pce → Option (List Par)
  | [] => some []
  | p :: r => if pre.any (smQ p) = true then parI l (pre ++ [p]) r else (jnV (grp l p)).bind fun v => (parI l (pre ++ [p]) r).map fun q => (p.1, v) :: q
theorem grp_fit {l : List Pce} (h : Fit l) (p : Pce) : Fit (grp l p) := by
  refine ⟨Nat.le_trans (List.length_filter_le _ _) h.len, Nat.le_trans (tot_filter _ _) h.tot, fun q hq => h.ok q (List.mem_filter.1 hq).1⟩
theorem grp_mem {l : List Pce} {p : Pce} (h : p ∈ l) : p ∈ grp l p := List.mem_filter.2 ⟨h, by unfold smQ; exact decide_eq_true rfl⟩
theorem params_L1 (l : List Pce) (hl : Fit l) : ∀ (d i m : Nat) (out : List Par), l.length - i ≤ d → d < m → i ≤ l.length → out.length ≤ i →
    media_params_L1 l m out (i : Int) = some (match parI l (l.take i) (l.drop i) with | some q => .inl (out ++ q) | none => .inr ([], false)) := by
  have hlen := hl.len
  intro d
  induction d with
  | zero =>
    intro i m out h1 h2 h3 h4
    obtain ⟨m, rfl⟩ : ∃ k, m = k + 1 := ⟨m - 1, by omega⟩
    rw [media_params_L1, if_neg (by omega), List.drop_eq_nil_of_le (by omega), parI]
    dsimp only
    rw [List.append_nil]
  | succ d ih =>
    intro i m out h1 h2 h3 h4
    obtain ⟨m, rfl⟩ : ∃ k, m = k + 1 := ⟨m - 1, by omega⟩
    by_cases hi : i < l.length
    · have hmem := List.getElem_mem hi
      have hpo := (hl.ok _ hmem).2
      rw [media_params_L1, if_pos (by omega), idx_nat, List.getElem?_eq_getElem hi, bsome, cut_to rfl (by omega), bsome, List.drop_eq_getElem_cons hi, parI, ← take_drop_cons hi,
        indexQ (l.take i) (by rw [List.length_take]; omega) _ (smQ l[i]) (fun x hx => params_1_eq (hl.ok x (List.mem_of_mem_take hx)).2 hpo), bsome]
      by_cases ha : (l.take i).any (smQ l[i]) = true
      · rw [if_pos ha, if_pos ha, chk_succ (by omega), bsome, ih (i + 1) m out (by omega) (by omega) (by omega) (by omega)]
      · rw [if_neg ha, if_neg ha, group_eq l hl _ hpo, bsome]
        obtain ⟨x, v, b, hj, hv⟩ := joined_eq (grp l l[i]) (List.ne_nil_of_mem (grp_mem hmem)) (grp_fit hl _)
        rw [hj, bsome, hv]
        dsimp only
        cases b with
        | false => rfl
        | true =>
          rw [if_pos rfl, if_pos rfl, app_ok (by simp; omega), bsome, chk_succ (by omega), bsome, ih (i + 1) m _ (by omega) (by omega) (by omega) (by simp; omega), bsome]
          cases parI l (l.take (i + 1)) (l.drop (i + 1)) with
          | none => rfl
          | some q => simp
    · rw [media_params_L1, if_neg (by omega), List.drop_eq_nil_of_le (by omega), parI]
      dsimp only
      rw [List.append_nil]
theorem params_eq (l : List Pce) (hl : Fit l) : media_params l = some (match parI l [] l with | some q => (q, true) | none => ([], false)) := by
  have hlen := hl.len
  unfold media_params
  have := params_L1 l hl l.length 0 FU [] (by omega) (FU_gt (by omega)) (by omega) (by simp)
  rw [Int.natCast_zero, List.drop_zero, List.take_zero] at this
  rw [this, bsome]
  cases parI l [] l with
  | none => rfl
  | some q => rfl
end Go.Ph.Md
end
section
namespace Go.Ph.Md
open Go.Ph.Pl Go.Ph.Pf
open Go.Ph.Chs (vld lower)
theorem tw_dw (p : UInt8 → Bool) (l : List UInt8) : (l.takeWhile p).length + (l.dropWhile p).length = l.length := by
  have := tw_len p l
  rw [← tw_drop, List.length_drop]; omega
theorem qv_sum : ∀ (n : Nat) (t : List UInt8) (v r : List UInt8), t.length ≤ n → qv t = some (v, r) → v.length + r.length < t.length
  | n, [], v, r, hn, h => by cases h
  | 0, c :: t, v, r, hn, h => by simp at hn
  | n + 1, c :: t, v, r, hn, h => by
    rw [qv_cons] at h
    rw [List.length_cons] at hn ⊢
    by_cases h1 : c = 34
    · rw [if_pos h1] at h; cases h; simp
    · rw [if_neg h1] at h
      by_cases h2 : c = 92
      · rw [if_pos h2] at h
        cases t with
        | nil => cases h
        | cons d t =>
          obtain ⟨⟨v', r'⟩, h3, h4⟩ := Option.map_eq_some_iff.1 h
          dsimp only at h4
          cases h4
          have := qv_sum n t v' _ (by rw [List.length_cons] at hn; omega) h3
          rw [List.length_cons, List.length_cons]; omega
      · rw [if_neg h2] at h
        obtain ⟨⟨v', r'⟩, h3, h4⟩ := Option.map_eq_some_iff.1 h
        dsimp only at h4
        cases h4
        have := qv_sum n t v' _ (by omega) h3
        rw [List.length_cons]; omega
theorem vl_sum {t v r : List UInt8} (h : vl t = some (v, r)) : v.length + r.length ≤ t.length := by
  unfold vl at h
  cases hs : sgn 34 t with
  | some q =>
    rw [hs] at h
    have h1 := sgn_len hs
    have h2 := qv_sum _ _ _ _ (Nat.le_refl _) h
    omega
  | none =>
    rw [hs] at h
    cases h
    have h1 := tl_len t
    have h2 := tw_dw (pN [37, 39, 42]) (tl t)
    omega
theorem rdP_sum {num : List UInt8 → Option Int} {t r : List UInt8} {p : Pce} (h : rdP num t = some (p, r)) : p.2.2.2.length + r.length < t.length := by
  unfold rdP at h
  obtain ⟨t2, h1, h⟩ := bnd h
  obtain ⟨⟨v, r'⟩, h2, h⟩ := bnd h
  obtain ⟨p', h3, h4⟩ := Option.map_eq_some_iff.1 h
  dsimp only at h4
  cases h4
  have a1 := sgn_len h1
  have a2 := dw_len (pN [42]) (tl t)
  have a3 := tl_len t
  have a4 := vl_sum h2
  obtain ⟨b1, b2, b3, b4⟩ := mkP_some h3
  dsimp only at b2
  rw [b2]; omega
def numOk (num : List UInt8 → Option Int) : Prop := ∀ s n, num s = some n → 0 ≤ n ∧ n ≤ 1099511627776
theorem numP_ok : numOk numP := fun s n h => by
  unfold numP at h
  split at h
  · rename_i hc
    cases h
    exact ⟨hc.2.2.1, hc.2.2.2⟩
  · cases h
theorem pcs_fit {num : List UInt8 → Option Int} (hn : numOk num) : ∀ (m : Nat) (t : List UInt8) (q : List Pce) (r : List UInt8), pcs num m t = some (q, r) → tl r = r ∧ q.length + r.length ≤ t.length ∧ tot q + r.length ≤ t.length ∧ ∀ p ∈ q, pcOk p ∧ p.1.length ≤ t.length
  | 0, t, q, r, h => by cases h
  | m + 1, t, q, r, h => by
    rw [pcs] at h
    cases hs : sgn 59 t with
    | none =>
      rw [hs] at h
      cases h
      have := tl_len t
      exact ⟨tl_tl t, by simpa using this, by unfold tot; simpa using this, fun p hp => by cases hp⟩
    | some t2 =>
      rw [hs] at h
      dsimp only at h
      have h1 := sgn_len hs
      obtain ⟨⟨p, t3⟩, h2, h⟩ := bnd h
      obtain ⟨⟨q', r'⟩, h3, h4⟩ := Option.map_eq_some_iff.1 h
      dsimp only at h3 h4
      cases h4
      have h5 := rdP_sum h2
      obtain ⟨k1, k2, k3, k4, k5⟩ := rdP_some h2
      obtain ⟨i1, i2, i3, i4⟩ := pcs_fit hn m t3 q' _ h3
      refine ⟨i1, by rw [List.length_cons]; omega, by rw [tot_cons]; omega, fun x hx => ?_⟩
      rcases List.mem_cons.1 hx with rfl | hx
      · refine ⟨?_, by omega⟩
        unfold pcOk
        rcases k5 with k5 | ⟨s, k5⟩
        · omega
        · have := hn s _ k5; omega
      · have := i4 x hx
        exact ⟨this.1, by omega⟩
theorem fit_of {num : List UInt8 → Option Int} (hn : numOk num) {m : Nat} {t : List UInt8} {q : List Pce} {r : List UInt8} (h : pcs num m t = some (q, r)) (ht : t.length ≤ 4000) : Fit q := by
  obtain ⟨a, b, c, d⟩ := pcs_fit hn m t q r h
  exact ⟨by omega, by omega, fun p hp => ⟨(d p hp).1, by have := (d p hp).2; omega⟩⟩
def readM (num : List UInt8 → Option Int) (t : List UInt8) : Option Med :=
  (sgn 47 ((tl t).dropWhile tkB)).bind fun t2 => if (tl t).takeWhile tkB = [] ∨ (tl t2).takeWhile tkB = [] then none else
    (pcs num FU ((tl t2).dropWhile tkB)).bind fun q => if q.2 = [] then (parI q.1 [] q.1).map fun ps => ((tl t).takeWhile tkB, (tl t2).takeWhile tkB, ps) else none
theorem parse_eq (t : List UInt8) (ht : t.length ≤ 4000) : ∃ m b, media_parse t = some (m, b) ∧ readM numP t = if b = true then some m else none := by
  unfold media_parse readM
  have a1 := tl_len t
  have a2 := dw_len tkB (tl t)
  rw [take_eq t (by unfold Big; omega) _ _ tokenByte_eq, bsome]
  dsimp only
  rw [sign_eq _ (by unfold Big; omega)]
  cases hs : sgn 47 ((tl t).dropWhile tkB) with
  | none =>
    dsimp only
    have a3 := tl_len ((tl t).dropWhile tkB)
    rw [bsome]
    dsimp only
    rw [take_eq _ (by unfold Big; omega) _ _ tokenByte_eq, bsome]
    dsimp only
    have e : ∀ c : Bool, (if (tl t).takeWhile tkB = [] then some true else (if false = true then some c else some true)) = some true := fun c => by split <;> rfl
    rw [e, bsome, if_pos rfl]
    exact ⟨_, _, rfl, rfl⟩
  | some t2 =>
    have a3 := sgn_len hs
    have a4 := tl_len t2
    have a5 := dw_len tkB (tl t2)
    dsimp only
    rw [bsome]
    dsimp only
    rw [take_eq t2 (by unfold Big; omega) _ _ tokenByte_eq, bsome, bsome]
    dsimp only
    by_cases he : (tl t).takeWhile tkB = [] ∨ (tl t2).takeWhile tkB = []
    · have e : (if (tl t).takeWhile tkB = [] then some true else (if true = true then some (decide ((tl t2).takeWhile tkB = [])) else some true)) = some true := by
        rcases he with h | h
        · rw [if_pos h]
        · rw [decide_eq_true h]; split <;> rfl
      rw [e, bsome, if_pos rfl, if_pos he]
      exact ⟨_, _, rfl, rfl⟩
    · have e : (if (tl t).takeWhile tkB = [] then some true else (if true = true then some (decide ((tl t2).takeWhile tkB = [])) else some true)) = some false := by
        rw [if_neg (fun h => he (.inl h)), if_pos rfl, decide_eq_false (fun h => he (.inr h))]
      rw [e, bsome, if_neg Bool.false_ne_true, if_neg he, parse_L1 _ _ [] [] [] 4000 FU _ [] (by omega) (FU_gt (by omega)) (by simp; omega)]
      cases hp : pcs numP FU ((tl t2).dropWhile tkB) with
      | none => exact ⟨_, _, rfl, rfl⟩
      | some q =>
        obtain ⟨q, r⟩ := q
        have hf := fit_of numP_ok hp (by omega)
        obtain ⟨hr, hrl, _⟩ := pcs_fit numP_ok _ _ _ _ hp
        dsimp only
        rw [bsome, bsome]
        dsimp only
        rw [blanks_eq r (by unfold Big; omega), bsome, List.nil_append, params_eq q hf, hr, bsome]
        cases hj : parI q [] q with
        | none =>
          refine ⟨_, _, rfl, ?_⟩
          split <;> rfl
        | some ps =>
          refine ⟨_, _, rfl, ?_⟩
          dsimp only
          by_cases h0 : r = []
          · rw [if_pos h0, decide_eq_true h0]; rfl
          · rw [if_neg h0, decide_eq_false h0]; rfl
theorem fix_len : ∀ (n : Nat) (t : List UInt8) (b : Bool), t.length ≤ n → (fix b t).length ≤ 4 * t.length
  | n, [], b, _ => Nat.le_refl _
  | 0, c :: t, b, h => by simp at h
  | n + 1, c :: t, b, h => by
    have hl : (c :: t) ≠ [] := by simp
    obtain ⟨r1, _, r2⟩ := Utf.rune_size (c :: t)
    have r2' := r2 hl
    by_cases h0 : 0 ≤ (Utf.rune (c :: t)).1
    · have := fix_len n ((c :: t).drop (Utf.rune (c :: t)).2) false (by rw [List.length_drop]; omega)
      rw [List.length_drop] at this
      rw [fix_ok b hl h0, List.length_append, List.length_take]; omega
    · have := fix_len n ((c :: t).drop 1) true (by rw [List.length_drop]; omega)
      rw [List.length_drop] at this
      rw [fix_bad b hl (by omega), List.length_append]
      have hh : (if b = true then [] else [239, 191, 189] : List UInt8).length ≤ 3 := by split <;> simp
      rw [List.length_cons] at *
      omega
theorem jnV_len {g : List Pce} (hg : Fit g) {v : List UInt8} (h : jnV g = some v) : v.length ≤ 16000 := by
  cases g with
  | nil => cases h
  | cons p r =>
    unfold jnV at h
    dsimp only at h
    split at h
    · split at h
      · cases h
        have := tot_mem (l := p :: r) List.mem_cons_self
        have := hg.tot
        omega
      · cases h
    · split at h
      · cases h
        have hok : ∀ q ∈ p :: r, pcOk q := fun q hq => (hg.ok q hq).1
        have h1 := tot_txt (sortP (p :: r))
        rw [tot_perm (sortP_perm hok)] at h1
        have h2 := hg.tot
        have h3 := fix_len _ ((sortP (p :: r)).flatMap txt) false (Nat.le_refl _)
        omega
      · cases h
theorem parI_big {l : List Pce} (hl : Fit l) : ∀ (r pre : List Pce) (q : List Par), (∀ p ∈ r, p ∈ l) → parI l pre r = some q → q.length ≤ r.length ∧ BigP q
  | [], pre, q, _, h => by cases h; exact ⟨Nat.le_refl _, fun x hx => by cases hx⟩
  | p :: r, pre, q, hm, h => by
    have hm' : ∀ x ∈ r, x ∈ l := fun x hx => hm x (List.mem_cons_of_mem _ hx)
    rw [parI] at h
    split at h
    · have := parI_big hl r _ q hm' h
      exact ⟨by rw [List.length_cons]; omega, this.2⟩
    · obtain ⟨v, h1, h⟩ := bnd h
      obtain ⟨q', h2, h3⟩ := Option.map_eq_some_iff.1 h
      cases h3
      have := parI_big hl r _ q' hm' h2
      refine ⟨by rw [List.length_cons, List.length_cons]; omega, fun x hx => ?_⟩
      rcases List.mem_cons.1 hx with rfl | hx
      · have h4 := jnV_len (grp_fit hl p) h1
        have h5 := (hl.ok p (hm p List.mem_cons_self)).2
        exact ⟨by unfold Big; dsimp only; omega, by unfold Big; dsimp only; omega⟩
      · exact this.2 x hx
theorem readM_big {t : List UInt8} (ht : t.length ≤ 4000) {m : Med} (h : readM numP t = some m) : BigM m ∧ m.2.2.length ≤ 4000 := by
  unfold readM at h
  obtain ⟨t2, h1, h⟩ := bnd h
  split at h
  · cases h
  · obtain ⟨q, h2, h⟩ := bnd h
    split at h
    · obtain ⟨ps, h3, h4⟩ := Option.map_eq_some_iff.1 h
      cases h4
      have a1 := tl_len t
      have a2 := dw_len tkB (tl t)
      have a3 := sgn_len h1
      have a4 := tl_len t2
      have a5 := dw_len tkB (tl t2)
      have a6 := tw_len tkB (tl t)
      have a7 := tw_len tkB (tl t2)
      have hf := fit_of numP_ok (q := q.1) (r := q.2) h2 (by omega)
      have hP := parI_big hf q.1 [] ps (fun p hp => hp) h3
      have := hf.len
      exact ⟨⟨by unfold Big; dsimp only; omega, by unfold Big; dsimp only; omega, hP.2⟩, by dsimp only; omega⟩
    · cases h
theorem same_media (a b : Med) (hl : a.2.2.length ≤ 1000000) : R_SameMedia a b = some (decide (a = b)) := by
  obtain ⟨a1, a2, a3⟩ := a
  obtain ⟨b1, b2, b3⟩ := b
  unfold R_SameMedia
  dsimp only at hl ⊢
  by_cases h1 : a1 = b1
  · rw [if_pos h1]
    by_cases h2 : a2 = b2
    · rw [if_pos h2, bsome]
      by_cases h3 : a3.length = b3.length
      · rw [decide_eq_true (by omega), if_neg (show ¬ (!true) = true by decide)]
        rcases scanP (fun m i => R_SameMedia_L1 (a1, a2, a3) (b1, b2, b3) m i) a3 (fun i x => if b3[i]? = some x then none else some (.inr false)) (.inl ()) (fun m => by rw [R_SameMedia_L1, if_neg (by dsimp only; omega)]) (fun m i h => by
          rw [R_SameMedia_L1]
          dsimp only
          rw [if_pos (by omega), idx_nat, List.getElem?_eq_getElem h, bsome, idx_nat, List.getElem?_eq_getElem (by omega : i < b3.length), bsome, chk_succ (by omega), bsome]
          by_cases he : a3[i] = b3[i]'(by omega)
          · rw [if_pos ⟨by rw [he], by rw [he]⟩, if_pos (by rw [he])]
          · rw [if_neg (fun h => he (Prod.ext h.1 h.2)), if_neg (fun h => he (Option.some.inj h).symm)]) a3.length 0 FU (by omega) (FU_gt (by omega)) (by omega) with ⟨j, hj, r, q1, q2, q3, q4⟩ | ⟨q1, q2⟩
        · rw [Int.natCast_zero] at q4
          have hne : b3[j]? ≠ some a3[j] := fun e => by rw [if_pos e] at q2; cases q2
          rw [if_neg hne] at q2
          cases q2
          rw [q4, bsome]
          dsimp only
          rw [decide_eq_false (fun e => hne (by
            have : a3 = b3 := (Prod.mk.inj (Prod.mk.inj e).2).2
            subst this
            exact List.getElem?_eq_getElem hj))]
        · rw [Int.natCast_zero] at q2
          have : a3 = b3 := by
            apply List.ext_getElem?
            intro i
            by_cases hi : i < a3.length
            · have := q1 i hi (by omega)
              by_cases he : b3[i]? = some a3[i]
              · rw [he, List.getElem?_eq_getElem hi]
              · rw [if_neg he] at this; cases this
            · rw [List.getElem?_eq_none (by omega), List.getElem?_eq_none (by omega)]
          rw [q2, bsome]
          dsimp only
          rw [decide_eq_true (by rw [h1, h2, this])]
      · rw [decide_eq_false (by omega), if_pos (show (!false) = true by decide), decide_eq_false (fun e => h3 (by rw [(Prod.mk.inj (Prod.mk.inj e).2).2]))]
    · rw [if_neg h2, bsome, if_pos rfl, decide_eq_false (fun e => h2 (Prod.mk.inj (Prod.mk.inj e).2).1)]
  · rw [if_neg h1, bsome, if_pos rfl, decide_eq_false (fun e => h1 (Prod.mk.inj e).1)]
def prsR (t : List UInt8) : Med × (Int × Int) :=
  if 4000 < t.length then (([], [], []), (1, -1)) else match readM numP t with
    | none => (([], [], []), (11, -5))
    | some m => if (valM m).1 = 0 then (m, (0, 0)) else (([], [], []), ((valM m).1, -6))
theorem Parse_eq (t : List UInt8) : media_Parse t = some (prsR t) := by
  unfold media_Parse prsR
  by_cases h : 4000 < t.length
  · rw [if_pos (by omega), if_pos h, fault_eq, bsome]
  · rw [if_neg (by omega), if_neg h]
    obtain ⟨m, b, hp, hr⟩ := parse_eq t (by omega)
    rw [hp, bsome, hr]
    dsimp only
    cases b with
    | false => rw [if_neg Bool.false_ne_true, fault_eq, bsome]; rfl
    | true =>
      rw [if_pos rfl] at hr
      have hb := (readM_big (by omega) hr).1
      rw [if_pos rfl, show (m.1, m.2.1, m.2.2) = m from rfl, validate_eq m hb, bsome]
      rw [failed_eq, bsome]
      obtain ⟨⟨x, y⟩, hv⟩ : ∃ p, valM m = p := ⟨_, rfl⟩
      rw [hv]
      dsimp only
      rw [if_pos rfl]
      dsimp only
      by_cases hx : x = 0
      · rw [decide_eq_true hx, if_neg (show ¬ (!true) = true by decide), none_eq, bsome, hv, if_pos hx]
      · rw [decide_eq_false hx, if_pos (show (!false) = true by decide), fault_eq, bsome, hv, if_neg hx]
end Go.Ph.Md
end
section
namespace Go.Ph.Md
open Go.Ph.Pl Go.Ph.Pf
open Go.Ph.Chs (vld lower)
theorem tw_app {p : UInt8 → Bool} : ∀ {a r : List UInt8}, a.all p = true → (∀ c s, r = c :: s → p c = false) → (a ++ r).takeWhile p = a ∧ (a ++ r).dropWhile p = r
  | [], r, _, hr => by
    rw [List.nil_append]
    cases r with
    | nil => exact ⟨rfl, rfl⟩
    | cons c s =>
      rw [List.takeWhile_cons, List.dropWhile_cons, hr c s rfl]
      exact ⟨rfl, rfl⟩
  | x :: a, r, ha, hr => by
    rw [List.all_cons, Bool.and_eq_true] at ha
    obtain ⟨h1, h2⟩ := tw_app ha.2 hr
    rw [List.cons_append, List.takeWhile_cons, List.dropWhile_cons, ha.1, h1, h2]
    exact ⟨rfl, rfl⟩
theorem tl_head {l : List UInt8} (h : ∀ c r, l = c :: r → blB c = false) : tl l = l := dw_id h
theorem tl_32 (l : List UInt8) : tl (32 :: l) = tl l := by
  unfold tl
  rw [List.dropWhile_cons, show blB 32 = true from rfl]; rfl
theorem sgn_hit {c : UInt8} (h : blB c = false) (r : List UInt8) : sgn c (c :: r) = some r := by
  unfold sgn
  rw [tl_head (fun x s e => by cases e; exact h)]
  dsimp only
  rw [if_pos rfl]
theorem sgn_miss {c : UInt8} {l : List UInt8} (h : ∀ x r, l = x :: r → blB x = false ∧ x ≠ c) : sgn c l = none := by
  unfold sgn
  rw [tl_head fun x r e => (h x r e).1]
  cases l with
  | nil => rfl
  | cons x r =>
    dsimp only
    rw [if_neg (h x r rfl).2]
theorem tk_bl (c : UInt8) : tkB c = true → blB c = false := allB (p := fun c => tkB c = true → blB c = false) (by decide +kernel) c
theorem p42_bl (c : UInt8) : pN [42] c = true → blB c = false := allB (p := fun c => pN [42] c = true → blB c = false) (by decide +kernel) c
theorem pv_bl (c : UInt8) : pN [37, 39, 42] c = true → blB c = false ∧ c ≠ 34 := allB (p := fun c => pN [37, 39, 42] c = true → blB c = false ∧ c ≠ 34) (by decide +kernel) c
theorem tk_p (more : List UInt8) (c : UInt8) (h : tkB c = true) : pN more c = true := by unfold pN; rw [h, Bool.true_or]
theorem tk_ns (c : UInt8) : tkB c = true → ns c = true := allB (p := fun c => tkB c = true → ns c = true) (by decide +kernel) c
theorem dg_tk (c : UInt8) : dg c = true → tkB c = true := allB (p := fun c => dg c = true → tkB c = true) (by decide +kernel) c
theorem all_mono {p q : UInt8 → Bool} (h : ∀ c, p c = true → q c = true) {l : List UInt8} (hl : l.all p = true) : l.all q = true := List.all_eq_true.2 fun c hc => h c (List.all_eq_true.1 hl c hc)
theorem app_head {p q : UInt8 → Bool} (hpq : ∀ c, p c = true → q c = false) {a r : List UInt8} (ha : a.all p = true) (hr : ∀ c s, r = c :: s → q c = false) : ∀ c s, a ++ r = c :: s → q c = false := by
  intro c s e
  cases a with
  | nil => exact hr c s e
  | cons x a =>
    cases e
    rw [List.all_cons, Bool.and_eq_true] at ha
    exact hpq _ ha.1
def semi (R : List UInt8) : Prop := ∀ c s, R = c :: s → c = 59
theorem semi_nil : semi [] := fun c s e => by cases e
theorem vl_tok {v R : List UInt8} (hv : v.all (pN [37, 39, 42]) = true) (hR : semi R) : vl (v ++ R) = some (v, R) := by
  have hb : ∀ c s, v ++ R = c :: s → blB c = false ∧ c ≠ 34 := fun c s e => by
    cases v with
    | nil => cases hR c s e; exact ⟨rfl, by decide⟩
    | cons x v =>
      cases e
      rw [List.all_cons, Bool.and_eq_true] at hv
      exact pv_bl _ hv.1
  obtain ⟨h1, h2⟩ := tw_app hv (r := R) (fun c s e => by cases hR c s e; rfl)
  unfold vl
  rw [sgn_miss hb]
  dsimp only
  rw [tl_head fun c s e => (hb c s e).1, h1, h2]
theorem qv_qt (r : List UInt8) : ∀ v : List UInt8, qv (qt v ++ 34 :: r) = some (v, r)
  | [] => by
    show qv (34 :: r) = _
    rw [qv_cons, if_pos rfl]
  | c :: v => by
    have ih := qv_qt r v
    rw [qt_cons]
    unfold q1 esc
    by_cases h1 : c = 34
    · subst h1
      rw [if_pos rfl]
      show qv (92 :: 34 :: (qt v ++ 34 :: r)) = _
      rw [qv_cons, if_neg (by decide), if_pos rfl]
      dsimp only
      rw [ih]; rfl
    · rw [if_neg h1]
      by_cases h2 : c = 92
      · subst h2
        rw [if_pos rfl]
        show qv (92 :: 92 :: (qt v ++ 34 :: r)) = _
        rw [qv_cons, if_neg (by decide), if_pos rfl]
        dsimp only
        rw [ih]; rfl
      · rw [if_neg h2]
        show qv (c :: (qt v ++ 34 :: r)) = _
        rw [qv_cons, if_neg h1, if_neg h2, ih]; rfl
theorem vl_quo (v R : List UInt8) : vl ([34] ++ qt v ++ [34] ++ R) = some (v, R) := by
  have e : [34] ++ qt v ++ [34] ++ R = 34 :: (qt v ++ 34 :: R) := by simp
  unfold vl
  rw [e, sgn_hit rfl]
  exact qv_qt R v
theorem star_no {n : List UInt8} (h : n.all tkB = true) : ¬ 42 ∈ n := fun hm => by
  have := List.all_eq_true.1 h 42 hm
  revert this; decide
theorem mkP_plain {num : List UInt8 → Option Int} {n : List UInt8} (h : n.all tkB = true) (hn : n ≠ []) (v : List UInt8) : mkP num n v = some (n, -1, false, v) := by
  unfold mkP
  rw [if_neg (star_no h), if_neg hn]
theorem mkP_num {num : List UInt8 → Option Int} {n s : List UInt8} {i : Int} (h : n.all tkB = true) (hn : n ≠ []) (v : List UInt8) (hs : num (cutS s).1 = some i) : mkP num (n ++ 42 :: s) v = some (n, i, (cutS s).2, v) := by
  obtain ⟨h1, h2⟩ := tw_app (all_mono tk_ns h) (r := 42 :: s) (fun c r e => by cases e; rfl)
  have e1 : cutB (n ++ 42 :: s) = n := h1
  have e2 : cutR (n ++ 42 :: s) = s := by unfold cutR; rw [h2]; rfl
  unfold mkP
  rw [if_pos (by simp), e1, e2, if_neg hn, hs]; rfl
theorem cutS_star (s : List UInt8) : cutS (s ++ [42]) = (s, true) := by
  unfold cutS
  rw [List.getLast?_concat, if_pos rfl, List.dropLast_concat]
theorem mkP_ext {n : List UInt8} (h : n.all tkB = true) (hn : n ≠ []) (v : List UInt8) {i : Nat} (hi : i < 1000000000) : mkP numP (n ++ 42 :: (itoaP i ++ [42])) v = some (n, (i : Int), true, v) := by
  have e := mkP_num (num := numP) (s := itoaP i ++ [42]) (i := (i : Int)) h hn v (by rw [cutS_star]; exact (numP_of i hi).1)
  rw [e, cutS_star]
theorem pcs_one {num : List UInt8 → Option Int} {nm v w R : List UInt8} {p : Pce} (m : Nat) (hn : nm.all (pN [42]) = true) (hv : vl (v ++ R) = some (w, R)) (hm : mkP num nm w = some p) :
    pcs num (m + 1) ([59, 32] ++ nm ++ [61] ++ v ++ R) = (pcs num m R).map fun q => (p :: q.1, q.2) := by
  have e : [59, 32] ++ nm ++ [61] ++ v ++ R = 59 :: 32 :: (nm ++ 61 :: (v ++ R)) := by simp
  obtain ⟨h1, h2⟩ := tw_app hn (r := 61 :: (v ++ R)) (fun c s e => by cases e; rfl)
  have h3 : tl (32 :: (nm ++ 61 :: (v ++ R))) = nm ++ 61 :: (v ++ R) := by
    rw [tl_32]
    exact tl_head (app_head p42_bl hn (fun c s e => by cases e; rfl))
  have h4 : rdP num (32 :: (nm ++ 61 :: (v ++ R))) = some (p, R) := by
    unfold rdP
    rw [h3, h1, h2, sgn_hit rfl, bsome, hv, bsome, hm]; rfl
  rw [e, pcs, sgn_hit rfl]
  dsimp only
  rw [h4, bsome]
def nb (n : List UInt8) : Nat → List (List UInt8) → List Pce
  | _, [] => []
  | i, p :: r => (n, (i : Int), true, p) :: nb n (i + 1) r
theorem nb_len (n : List UInt8) : ∀ (l : List (List UInt8)) (i : Nat), (nb n i l).length = l.length
  | [], _ => rfl
  | p :: r, i => by rw [nb, List.length_cons, nb_len n r, List.length_cons]
theorem nb_nums (n : List UInt8) : ∀ (l : List (List UInt8)) (i : Nat), nums (nb n i l) = upF (i : Int) l.length
  | [], _ => rfl
  | p :: r, i => by
    rw [nb, List.length_cons, upF]
    show (i : Int) :: nums (nb n (i + 1) r) = _
    rw [nb_nums n r]; rfl
theorem nb_mem {n : List UInt8} : ∀ {l : List (List UInt8)} {i : Nat} {p : Pce}, p ∈ nb n i l → p.1 = n ∧ 0 ≤ p.2.1 ∧ p.2.1 < i + l.length
  | [], _, p, h => by cases h
  | x :: r, i, p, h => by
    rw [nb] at h
    rw [List.length_cons]
    rcases List.mem_cons.1 h with rfl | h
    · exact ⟨rfl, by dsimp only; omega, by dsimp only; omega⟩
    · obtain ⟨a, b, c⟩ := nb_mem h
      exact ⟨a, b, by omega⟩
theorem pcs_ext {n : List UInt8} (h : n.all tkB = true) (hn : n ≠ []) {R : List UInt8} (hR : semi R) (m : Nat) : ∀ (l : List (List UInt8)) (i : Nat), (∀ p ∈ l, p.all (pN [37, 39, 42]) = true) → i + l.length ≤ 1000000000 →
    pcs numP (l.length + m) (exT n i l ++ R) = (pcs numP m R).map fun q => (nb n i l ++ q.1, q.2)
  | [], i, _, _ => by
    rw [exT, List.nil_append, nb, List.length_nil, Nat.zero_add]
    cases pcs numP m R <;> rfl
  | p :: r, i, hl, hi => by
    rw [List.length_cons] at hi ⊢
    have hs : semi (exT n (i + 1) r ++ R) := by
      cases r with
      | nil => exact hR
      | cons y r => rw [exT]; unfold exU; exact fun c s e => by cases e; rfl
    have hi9 : i < 1000000000 := by omega
    have hd := itoa_small hi9
    have e : exT n i (p :: r) ++ R = [59, 32] ++ (n ++ 42 :: (itoaP i ++ [42])) ++ [61] ++ p ++ (exT n (i + 1) r ++ R) := by rw [exT]; unfold exU; simp
    rw [e, show r.length + 1 + m = (r.length + m) + 1 by omega, pcs_one (p := (n, (i : Int), true, p)) (r.length + m) (by
      rw [List.all_append, all_mono (tk_p [42]) h, List.all_cons, List.all_append, all_mono (fun c hc => tk_p [42] c (dg_tk c hc)) hd.1]; rfl) (vl_tok (hl p List.mem_cons_self) hs) (mkP_ext h hn p hi9),
      pcs_ext h hn hR m r (i + 1) (fun q hq => hl q (List.mem_cons_of_mem _ hq)) (by omega), nb]
    cases pcs numP m R <;> rfl
theorem hx_tk : ∀ n, n < 16 → tkB (hx n) = true := by decide
theorem pct1_pv (c : UInt8) : (pct1 c).all (pN [37, 39, 42]) = true := by
  unfold pct1
  have := c.toNat_lt
  split
  · rename_i h
    rw [List.all_cons, tk_p _ c h]; rfl
  · simp only [List.all_cons, List.all_nil, tk_p _ _ (hx_tk _ (show c.toNat / 16 < 16 by omega)), tk_p _ _ (hx_tk _ (show c.toNat % 16 < 16 by omega))]
    decide
theorem flat_pv (a : List UInt8) : (a.flatMap pct1).all (pN [37, 39, 42]) = true := by
  rw [List.all_eq_true]
  intro c hc
  obtain ⟨x, _, hx⟩ := List.mem_flatMap.1 hc
  exact List.all_eq_true.1 (pct1_pv x) c hx
theorem psF_inv : ∀ (v : List UInt8) (st : PS), ∃ (a : List UInt8) (ar : List (List UInt8)), a ++ ar.flatten = v ∧ (v.foldl psS st).1 ++ [(v.foldl psS st).2] = st.1 ++ (st.2 ++ a.flatMap pct1) :: ar.map (fun x => x.flatMap pct1)
  | [], st => ⟨[], [], rfl, by simp⟩
  | c :: v, st => by
    obtain ⟨a, ar, h1, h2⟩ := psF_inv v (psS st c)
    rw [List.foldl_cons, h2]
    unfold psS
    split
    · exact ⟨c :: a, ar, by rw [← h1]; rfl, by simp⟩
    · exact ⟨[], (c :: a) :: ar, by rw [← h1]; simp, by simp⟩
theorem pieces_inv (v : List UInt8) : ∃ (a : List UInt8) (ar : List (List UInt8)), a ++ ar.flatten = v ∧ pieces v = (pre8 ++ a.flatMap pct1) :: ar.map (fun x => x.flatMap pct1) := by
  obtain ⟨a, ar, h1, h2⟩ := psF_inv v ([], pre8)
  exact ⟨a, ar, h1, by unfold pieces psF; rw [h2]; rfl⟩
theorem pieces_pv (v : List UInt8) : ∀ p ∈ pieces v, p.all (pN [37, 39, 42]) = true := by
  obtain ⟨a, ar, h1, h2⟩ := pieces_inv v
  rw [h2]
  intro p hp
  rcases List.mem_cons.1 hp with rfl | hp
  · rw [List.all_append, flat_pv]; decide
  · obtain ⟨x, _, rfl⟩ := List.mem_map.1 hp
    exact flat_pv x
theorem hex2_hx : ∀ n, n < 256 → hex2 (hx (n / 16)) (hx (n % 16)) = some (UInt8.ofNat n) := by decide +kernel
theorem unp_pct (c : UInt8) (t : List UInt8) : unp (pct1 c ++ t) = c :: unp t := by
  unfold pct1
  split
  · rename_i h
    show unp (c :: t) = _
    rw [unp_cons, if_neg (fun e => by subst e; revert h; decide)]
  · show unp (37 :: hx (c.toNat / 16) :: hx (c.toNat % 16) :: t) = _
    rw [unp_cons, if_pos rfl, show hexd2 (hx (c.toNat / 16) :: hx (c.toNat % 16) :: t) = (hex2 (hx (c.toNat / 16)) (hx (c.toNat % 16))).map (fun z => (z, t)) from rfl, hex2_hx _ c.toNat_lt, UInt8.ofNat_toNat]
    rfl
theorem unp_flat : ∀ a : List UInt8, unp (a.flatMap pct1) = a
  | [] => unp_nil
  | c :: a => by rw [List.flatMap_cons, unp_pct, unp_flat a]
theorem txt_later (n : List UInt8) : ∀ (ar : List (List UInt8)) (i : Nat), 1 ≤ i → (nb n i (ar.map fun x => x.flatMap pct1)).flatMap txt = ar.flatten
  | [], _, _ => rfl
  | a :: ar, i, hi => by
    rw [List.map_cons, nb, List.flatMap_cons, txt_later n ar (i + 1) (by omega), List.flatten_cons]
    have : txt (n, (i : Int), true, a.flatMap pct1) = a := by
      unfold txt bare
      dsimp only
      rw [if_pos rfl, if_neg (by omega), unp_flat]
    rw [this]
theorem txt_all (n v : List UInt8) : (nb n 0 (pieces v)).flatMap txt = v := by
  obtain ⟨a, ar, h1, h2⟩ := pieces_inv v
  rw [h2, nb, List.flatMap_cons, txt_later n ar 1 (Nat.le_refl _)]
  have : txt (n, ((0 : Nat) : Int), true, pre8 ++ a.flatMap pct1) = a := by
    unfold txt bare
    dsimp only
    have e6 : (pre8 ++ a.flatMap pct1).take 6 = pre8 := rfl
    rw [if_pos rfl, if_pos ⟨rfl, by rw [List.length_append]; show 6 ≤ 6 + _; omega, by rw [e6, lower_pre]⟩, show (pre8 ++ a.flatMap pct1).drop 6 = a.flatMap pct1 from rfl, unp_flat]
  rw [this, h1]
def pcsOf (x : Par) : List Pce := if tkT x.2 = true ∨ simp60 x.2 = true then [(x.1, -1, false, x.2)] else nb x.1 0 (pieces x.2)
theorem pcsOf_len {x : Par} (h : x.2.length ≤ 500) : (pcsOf x).length ≤ 501 := by
  unfold pcsOf
  split
  · simp
  · rw [nb_len]; have := (pieces_len x.2).1; omega
theorem pcsOf_mem {x : Par} (h : x.2.length ≤ 500) {p : Pce} (hp : p ∈ pcsOf x) : p.1 = x.1 ∧ pcOk p := by
  unfold pcsOf at hp
  unfold pcOk
  split at hp
  · rcases List.mem_cons.1 hp with rfl | hp
    · exact ⟨rfl, by dsimp only; omega⟩
    · cases hp
  · obtain ⟨a, b, c⟩ := nb_mem hp
    have := (pieces_len x.2).1
    exact ⟨a, by omega, by omega⟩
theorem pcsOf_cons (x : Par) : ∃ p r, pcsOf x = p :: r := by
  unfold pcsOf
  split
  · exact ⟨_, _, rfl⟩
  · obtain ⟨a, ar, _, h2⟩ := pieces_inv x.2
    rw [h2, nb]
    exact ⟨_, _, rfl⟩
structure PV (x : Par) : Prop where
  tok : tkT x.1 = true
  len : x.2.length ≤ 500
  val : vld x.2 = true
theorem PV.ne {x : Par} (h : PV x) : x.1 ≠ [] := fun e => by
  have := (tkT_len h.tok).1
  rw [e] at this
  simp at this
theorem PV.all {x : Par} (h : PV x) : x.1.all tkB = true := List.all_eq_true.2 (tkT_all h.tok)
theorem pcs_par {x : Par} (hx : PV x) {R : List UInt8} (hR : semi R) (m : Nat) : pcs numP ((pcsOf x).length + m) (paramT x ++ R) = (pcs numP m R).map fun q => (pcsOf x ++ q.1, q.2) := by
  have hn := all_mono (tk_p [42]) hx.all
  unfold pcsOf paramT
  by_cases h1 : tkT x.2 = true
  · rw [if_pos (.inl h1), if_pos h1, show ([59, 32] ++ x.1 ++ [61] ++ x.2 ++ R : List UInt8) = [59, 32] ++ x.1 ++ [61] ++ x.2 ++ R from rfl, List.length_singleton, Nat.add_comm 1 m,
      pcs_one m hn (vl_tok (all_mono (tk_p _) (List.all_eq_true.2 (tkT_all h1))) hR) (mkP_plain hx.all hx.ne x.2)]
    rfl
  · rw [if_neg h1]
    by_cases h2 : simp60 x.2 = true
    · rw [if_pos (.inr h2), if_pos h2, List.length_singleton, Nat.add_comm 1 m, show ([59, 32] ++ x.1 ++ [61, 34] ++ qt x.2 ++ [34] ++ R : List UInt8) = [59, 32] ++ x.1 ++ [61] ++ ([34] ++ qt x.2 ++ [34]) ++ R by simp,
        pcs_one m hn (vl_quo x.2 R) (mkP_plain hx.all hx.ne x.2)]
      rfl
    · rw [if_neg (by simp [h1, h2]), if_neg h2, nb_len]
      have := (pieces_len x.2).1
      have := hx.len
      exact pcs_ext hx.all hx.ne hR m (pieces x.2) 0 (pieces_pv x.2) (by omega)
theorem paramT_semi (x : Par) (R : List UInt8) : semi (paramT x ++ R) := by
  unfold paramT
  split
  · exact fun c s e => by cases e; rfl
  · split
    · exact fun c s e => by cases e; rfl
    · obtain ⟨a, ar, _, h2⟩ := pieces_inv x.2
      rw [h2, exT]
      unfold exU
      exact fun c s e => by cases e; rfl
theorem flat_semi : ∀ (l : List Par), semi (l.flatMap paramT)
  | [] => semi_nil
  | x :: l => by rw [List.flatMap_cons]; exact paramT_semi x _
theorem pcs_all (m : Nat) : ∀ (l : List Par), (∀ x ∈ l, PV x) → pcs numP ((l.flatMap pcsOf).length + m) (l.flatMap paramT) = (pcs numP m []).map fun q => (l.flatMap pcsOf ++ q.1, q.2)
  | [], _ => by
    rw [List.flatMap_nil, List.flatMap_nil, List.length_nil, Nat.zero_add]
    cases pcs numP m [] <;> rfl
  | x :: l, h => by
    rw [List.flatMap_cons, List.flatMap_cons, List.length_append, Nat.add_assoc, pcs_par (h x List.mem_cons_self) (flat_semi l), pcs_all m l fun y hy => h y (List.mem_cons_of_mem _ hy)]
    cases pcs numP m [] with
    | none => rfl
    | some q => simp
theorem pcs_len : ∀ (l : List Par), (∀ x ∈ l, PV x) → (l.flatMap pcsOf).length ≤ 501 * l.length
  | [], _ => by simp
  | x :: l, h => by
    have h1 := pcsOf_len (h x List.mem_cons_self).len
    have h2 := pcs_len l fun y hy => h y (List.mem_cons_of_mem _ hy)
    rw [List.flatMap_cons, List.length_append, List.length_cons]
    omega
theorem pcs_text {l : List Par} (h : ∀ x ∈ l, PV x) (hl : l.length ≤ 60) : pcs numP FU (l.flatMap paramT) = some (l.flatMap pcsOf, []) := by
  have h1 := pcs_len l h
  have h2 : (l.flatMap pcsOf).length + 1 ≤ FU := Nat.le_of_lt (FU_gt (by omega))
  obtain ⟨d, hd⟩ : ∃ d, FU = (l.flatMap pcsOf).length + (d + 1) := ⟨FU - (l.flatMap pcsOf).length - 1, by omega⟩
  rw [hd, pcs_all (d + 1) l h, pcs]
  show some (l.flatMap pcsOf ++ [], ([] : List UInt8)) = _
  rw [List.append_nil]
theorem up_le : ∀ (k : Nat) (lo : Int), (upF lo k).Pairwise (· ≤ ·)
  | 0, lo => List.Pairwise.nil
  | k + 1, lo => by
    rw [upF]
    exact List.pairwise_cons.2 ⟨fun n hn => by rw [up_mem] at hn; omega, up_le k (lo + 1)⟩
theorem sort_id {g : List Pce} (h : ∀ p ∈ g, pcOk p) {lo : Int} (hg : nums g = upF lo g.length) : sortP g = g := by
  have hp := sortP_perm h
  refine uniqP hp (sortP_sorted h) ?_ ?_
  · have := up_le g.length lo
    rw [← hg, List.pairwise_map] at this
    exact this
  · have : (nums g).Nodup := by rw [hg]; exact up_nodup _ _
    exact ((hp.map _).nodup_iff).2 this
theorem jnV_of {g : List Pce} {p : Pce} {r : List Pce} (he : g = p :: r) (h0 : 0 ≤ p.2.1) (ho : okG g) : jnV g = some (fix false ((sortP g).flatMap txt)) := by
  subst he
  unfold jnV
  dsimp only
  rw [if_neg (by omega), if_pos ho]
theorem jnV_pcs {x : Par} (hx : PV x) : jnV (pcsOf x) = some x.2 := by
  have hok : ∀ p ∈ pcsOf x, pcOk p := fun p hp => (pcsOf_mem hx.len hp).2
  obtain ⟨p, r, hc⟩ := pcsOf_cons x
  revert hok hc
  unfold pcsOf
  split
  · intro _ _; rfl
  · intro hok hc
    have hn : nums (nb x.1 0 (pieces x.2)) = upF 0 (nb x.1 0 (pieces x.2)).length := by rw [nb_nums, nb_len]; rfl
    have hs := sort_id hok hn
    have hp : p ∈ nb x.1 0 (pieces x.2) := by rw [hc]; exact List.mem_cons_self
    rw [jnV_of hc (nb_mem hp).2.1 (by unfold okG; rw [hs, hn]), hs, txt_all, fix_vld _ _ _ (Nat.le_refl _) hx.val]
theorem parI_skip (q : List Pce) : ∀ (r pre R : List Pce), (∀ p ∈ r, pre.any (smQ p) = true) → parI q pre (r ++ R) = parI q (pre ++ r) R
  | [], pre, R, _ => by rw [List.nil_append, List.append_nil]
  | p :: r, pre, R, h => by
    rw [List.cons_append, parI, if_pos (h p List.mem_cons_self), parI_skip q r (pre ++ [p]) R fun x hx => by rw [List.any_append, h x (List.mem_cons_of_mem _ hx), Bool.true_or], List.append_assoc, List.singleton_append]
theorem parI_all : ∀ (l2 l1 : List Par), (l1 ++ l2).Pairwise (fun a b => lower a.1 ≠ lower b.1) → (∀ x ∈ l1 ++ l2, PV x) → parI ((l1 ++ l2).flatMap pcsOf) (l1.flatMap pcsOf) (l2.flatMap pcsOf) = some l2
  | [], l1, _, _ => by rw [List.flatMap_nil, parI]
  | x :: r, l1, hd, hv => by
    have hx : PV x := hv x (by simp)
    obtain ⟨p, s, hc⟩ := pcsOf_cons x
    have hm : ∀ {y : Par}, y ∈ l1 ++ x :: r → ∀ {q : Pce}, q ∈ pcsOf y → q.1 = y.1 := fun hy _ hq => (pcsOf_mem (hv _ hy).len hq).1
    have hp : p.1 = x.1 := hm (by simp) (by rw [hc]; exact List.mem_cons_self)
    obtain ⟨d1, d2, d3⟩ := List.pairwise_append.1 hd
    obtain ⟨d4, d5⟩ := List.pairwise_cons.1 d2
    have hany : (l1.flatMap pcsOf).any (smQ p) = false := by
      rw [List.any_eq_false]
      intro q hq
      obtain ⟨y, hy, hq⟩ := List.mem_flatMap.1 hq
      unfold smQ
      rw [hm (List.mem_append_left _ hy) hq, hp]
      simpa using d3 y hy x List.mem_cons_self
    have hgrp : grp ((l1 ++ x :: r).flatMap pcsOf) p = pcsOf x := by
      unfold grp
      rw [List.flatMap_append, List.flatMap_cons, List.filter_append, List.filter_append]
      have e1 : (l1.flatMap pcsOf).filter (smQ p) = [] := by
        rw [List.filter_eq_nil_iff]
        intro q hq
        exact fun e => (List.any_eq_false.1 hany q hq) e
      have e2 : (pcsOf x).filter (smQ p) = pcsOf x := by
        rw [List.filter_eq_self]
        intro q hq
        unfold smQ
        rw [hm (by simp) hq, hp]; simp
      have e3 : (r.flatMap pcsOf).filter (smQ p) = [] := by
        rw [List.filter_eq_nil_iff]
        intro q hq
        obtain ⟨y, hy, hq⟩ := List.mem_flatMap.1 hq
        unfold smQ
        rw [hm (by simp [hy]) hq, hp]
        have := d4 y hy
        simpa using fun e => this e.symm
      rw [e1, e2, e3, List.nil_append, List.append_nil]
    have ih := parI_all r (l1 ++ [x]) (by rw [List.append_assoc]; exact hd) (by rw [List.append_assoc]; exact hv)
    have e0 : (l1 ++ [x]).flatMap pcsOf = l1.flatMap pcsOf ++ pcsOf x := by rw [List.flatMap_append, List.flatMap_singleton]
    rw [List.append_assoc, List.singleton_append, e0] at ih
    rw [List.flatMap_cons (xs := r), hc, List.cons_append, parI, hany, if_neg Bool.false_ne_true, hgrp, jnV_pcs hx, bsome, parI_skip _ s _ _ (fun q hq => by
      rw [List.any_append, List.any_cons]
      have : smQ q p = true := by
        have h1 : q.1 = x.1 := hm (y := x) (by simp) (by rw [hc]; exact List.mem_cons_of_mem _ hq)
        unfold smQ
        rw [h1, hp]; simp
      rw [this, Bool.true_or, Bool.or_true]), List.append_assoc, List.singleton_append, ← hc, ih, hp]
    rfl
theorem pfz_pw : ∀ (l pre : List Par), (pfz pre l).1 = 0 → l.Pairwise (fun a b => lower a.1 ≠ lower b.1) ∧ ∀ x ∈ l, ∀ y ∈ pre, lower y.1 ≠ lower x.1
  | [], pre, _ => ⟨List.Pairwise.nil, fun x hx => by cases hx⟩
  | x :: r, pre, h => by
    rw [pfz] at h
    by_cases h0 : pf1 pre x = 0
    · rw [if_pos h0] at h
      obtain ⟨h1, h2⟩ := pfz_pw r _ h
      refine ⟨List.pairwise_cons.2 ⟨fun y hy => h2 y hy x (by simp), h1⟩, fun y hy z hz => ?_⟩
      rcases List.mem_cons.1 hy with rfl | hy
      · unfold pf1 at h0
        split at h0
        · split at h0
          · cases h0
          · rename_i hn
            intro e
            exact hn (List.any_eq_true.2 ⟨z, hz, by unfold smP; exact decide_eq_true e⟩)
        · cases h0
      · exact h2 y hy z (List.mem_append_left _ hz)
    · rw [if_neg h0] at h
      exact absurd h h0
theorem valid_pv {m : Med} (h : (valM m).1 = 0) : ∀ x ∈ m.2.2, PV x := fun x hx => by
  obtain ⟨a, _, b, c⟩ := valid_all h x hx
  exact ⟨a, b, c⟩
theorem tok_ne {t : List UInt8} (h : tkT t = true) : t ≠ [] := fun e => by
  have := (tkT_len h).1
  rw [e] at this
  simp at this
theorem readM_of {ty sb R : List UInt8} {q : List Pce} {ps : List Par} (h1 : tkT ty = true) (h2 : tkT sb = true) (hR : semi R) (hp : pcs numP FU R = some (q, [])) (hi : parI q [] q = some ps) : readM numP (ty ++ [47] ++ sb ++ R) = some (ty, sb, ps) := by
  have a1 : ty.all tkB = true := List.all_eq_true.2 (tkT_all h1)
  have a2 : sb.all tkB = true := List.all_eq_true.2 (tkT_all h2)
  have e : ty ++ [47] ++ sb ++ R = ty ++ 47 :: (sb ++ R) := by simp
  have hR' : ∀ (f : UInt8 → Bool), f 59 = false → ∀ c s, R = c :: s → f c = false := fun f hf c s e => by rw [hR c s e]; exact hf
  have t1 : tl (ty ++ 47 :: (sb ++ R)) = ty ++ 47 :: (sb ++ R) := tl_head (app_head tk_bl a1 (fun c s e => by cases e; rfl))
  have t2 : tl (sb ++ R) = sb ++ R := tl_head (app_head tk_bl a2 (hR' blB rfl))
  obtain ⟨b1, b2⟩ := tw_app a1 (r := 47 :: (sb ++ R)) (fun c s e => by cases e; rfl)
  obtain ⟨b3, b4⟩ := tw_app a2 (r := R) (hR' tkB rfl)
  unfold readM
  rw [e, t1, b1, b2, sgn_hit rfl, bsome, t2, b3, b4, if_neg (by simp [tok_ne h1, tok_ne h2]), hp, bsome]
  dsimp only
  rw [if_pos rfl, hi]; rfl
theorem read_print {m : Med} (h : (valM m).1 = 0) : readM numP (mediaT m) = some m := by
  obtain ⟨h1, h2, h3, h4, _⟩ := valM_zero h
  have hv := valid_pv h
  have hi := parI_all m.2.2 [] (pfz_pw _ _ h4).1 hv
  unfold mediaT
  rw [readM_of h1 h2 (flat_semi m.2.2) (pcs_text hv h3) hi]
end Go.Ph.Md
end
section
namespace Go.Ph.Md
open Go.Ph.Pl Go.Ph.Pf
open Go.Ph.Chs (vld lower)
theorem round_law (ex : L_mediaExample = some true) (m : Med) (hb : BigM m) : L_MediaRoundTrip m = some true := by
  unfold L_MediaRoundTrip
  rw [example_any ex, show (m.1, m.2.1, m.2.2) = m from rfl, print_eq m hb, bsome]
  unfold printR
  by_cases h0 : (valM m).1 = 0
  · rw [if_pos h0]
    by_cases h4 : 4000 < (mediaT m).length
    · rw [if_pos h4]
      dsimp only
      rw [if_neg (by decide)]; rfl
    · rw [if_neg h4]
      dsimp only
      have hP : prsR (mediaT m) = (m, (0, 0)) := by
        unfold prsR
        rw [if_neg h4, read_print h0]
        dsimp only
        rw [if_pos h0]
      rw [if_pos rfl, Parse_eq, bsome, hP]
      dsimp only
      have h3 := (valM_zero h0).2.2.1
      rw [if_pos rfl, same_media m m (by omega), bsome, decide_eq_true rfl, bsome]
  · rw [if_neg h0]
    dsimp only
    rw [if_neg h0]; rfl
def two (a b : List UInt8) : Med := ([116], [115], [([110], a ++ b)])
def p0 (a : List UInt8) : Pce := ([110], 0, false, a)
def p1 (b : List UInt8) : Pce := ([110], 1, false, b)
end Go.Ph.Md
end
