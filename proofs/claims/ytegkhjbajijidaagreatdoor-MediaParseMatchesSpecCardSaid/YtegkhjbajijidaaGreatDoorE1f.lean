/-
  Mct5, Mct6, Na, Nb, Nc, Nl, Nd, Ne, Nf: own texts of this repository (wip/tpl, wip/plans), merged and shaken by wip/tools/pack.py.
-/
import Derived.KernelRfl
import Derived.Test.YtegkhjbajijidaaGreatDoorE1e
set_option maxRecDepth 100000
set_option linter.unusedVariables false
set_option linter.unusedSimpArgs false
section
namespace Go.Proofs.YtegkhjbajijidaaGreatDoor
open Go Go.RowKit Go.Ph Go.Ph.Pl Go.Ph.Pf
set_option maxHeartbeats 4000000 in
theorem R_MediaRead_ct {p0 : List UInt8} {r : ((List UInt8 × List UInt8 × List (List UInt8 × List UInt8)) × Bool)} (h : R_MediaRead p0 = some r) : Ct Tryz.prog 17 [S p0] (fun M => True) (fun v M => ∃ x0_2, v = Value.tuple #[Value.agg #[S r.1.1, S r.1.2.1, x0_2], Value.bool r.2] ∧ SlS M 2 xenc47 x0_2 r.1.2.2) := by
  refine Ct.of Tryz.func17 (enters Tryz.func17 (by kernel_rfl) rfl) rfl rfl rfl ?_
  intro w0 M0 H hp
  unfold R_MediaRead at h
  refine SQ (RG (WR.alloc [_, _, _] H Tryz.zeroValue24 rfl (Wn.none rfl) rfl ?_))
  intro bk2 w H
  refine AS rfl rfl (NL (TN (SQ ?_)))
  obtain ⟨n1, hx2, h⟩ := bnd h
  refine RG (MV rfl rfl (WR.call H (R_skip_ct hx2) rfl trivial (Wn.none rfl) rfl ?_))
  intro v23 M w H hle hR
  obtain rfl := hR
  refine AS rfl rfl (NL (TN (SQ ?_)))
  obtain ⟨n3, hx4, h⟩ := bnd h
  refine RG (MV rfl rfl (MV rfl rfl (WR.call H (R_run_ct hx4) rfl trivial (Wn.none rfl) rfl ?_)))
  intro v26 M w H hle hR
  obtain rfl := hR
  refine AS rfl rfl (NL (TN (SQ ?_)))
  obtain ⟨s5, hxs5, h⟩ := bnd h
  refine RG (MV rfl rfl (MV rfl rfl (MV rfl rfl (ST (Ex.sliceC Tryz.underlying9 rfl rfl rfl hxs5) rfl (ST (Ex.build [S s5, S [], Value.slice none 0 0] Tryz.underlying24 Tryz.zeroValue24 (xplaces24 Tryz.underlying24) rfl rfl) rfl (WR.alloc [_, _, _] H Tryz.zeroValue24 rfl (Wn.none rfl) rfl ?_))))))
  intro bk6 w H
  refine WR.store [_, _, _] H rfl rfl rfl (by repeat first | exact .head | apply Upd.tail) Tryz.sizeOf24 rfl (by rfl) (by rfl) (Wn.none rfl) ?_
  intro w H
  refine NL (TN (SQ ?_))
  obtain ⟨n6, hx7, h⟩ := bnd h
  refine RG (MV rfl rfl (MV rfl rfl (WR.call H (R_skip_ct hx7) rfl trivial (Wn.none rfl) rfl ?_)))
  intro v34 M w H hle hR
  obtain rfl := hR
  refine AS rfl rfl (NL (TN (SQ (SQ ?_))))
  obtain ⟨o8, e9, h⟩ := bnd h
  refine WC.cutX (fun e w => ∃ (b10 : Bool) (M : Mem), e = [(0, S p0), (2, ptr bk2 0), (4, I n6), (6, ptr bk6 0), (49, Value.bool b10)] ∧ St w0 M0 M [.blk bk2 (.cells #[S [], S [], Value.slice none 0 0] 24), .blk bk6 (.cells #[S s5, S [], Value.slice none 0 0] 24)] w ∧ some b10 = some o8) [] ?_ ?_ (trivial)
  ·
   refine RG (ST (Ex.fieldAddr Tryz.underlying24 rfl Tryz.sizeOf9 (by decide) rfl) rfl (ST (Ex.load1 H rfl (by repeat first | exact kMh | apply kMt) Tryz.isAgg9 (by rfl)) rfl ?_))
   by_cases hk11 : s5 = []
   ·
    rw [if_pos hk11] at e9
    refine WR.stepE (v' := .bool true) (Ex.strEql rfl rfl) (congrArg Value.bool (decide_eq_true hk11)) (Wn.none rfl) rfl rfl (MV rfl rfl (WR.skipN 4 rfl rfl (PT rfl rfl rfl (MV rfl rfl (WR.skipN 4 rfl rfl (PT rfl rfl rfl (NL ?_)))))))
    exact WQ.meetN [(0, _), (2, _), (4, _), (6, _), (49, _)] ⟨rfl, rfl, rfl, rfl, rfl, trivial⟩ ⟨_, _, rfl, (H.pick (L' := [.blk bk2 (.cells #[S [], S [], Value.slice none 0 0] 24), .blk bk6 (.cells #[S s5, S [], Value.slice none 0 0] 24)]) (by repeat first | exact kPn | refine kPc (by repeat first | exact .head | apply Rem.tail) ?_)), e9⟩
   ·
    rw [if_neg hk11] at e9
    by_cases hk12 : n6 = (p0.length : Int)
    ·
     rw [if_pos hk12] at e9
     refine WR.stepE (v' := .bool false) (Ex.strEql rfl rfl) (congrArg Value.bool (decide_eq_false hk11)) (Wn.none rfl) rfl rfl (MV rfl rfl (SG (Ex.move rfl) rfl rfl rfl (SG (Ex.move rfl) rfl rfl rfl (SG (Ex.lenStr Tryz.underlying9 rfl) rfl rfl rfl (WR.stepE (v' := .bool true) (Ex.eql rfl rfl) (congrArg Value.bool (decide_eq_true hk12)) (Wn.some rfl rfl rfl) rfl rfl (PF rfl rfl rfl (MV rfl rfl (WR.skipN 4 rfl rfl (PT rfl rfl rfl (NL ?_))))))))))
     exact WQ.meetN [(0, _), (2, _), (4, _), (6, _), (49, _)] ⟨rfl, rfl, rfl, rfl, rfl, trivial⟩ ⟨_, _, rfl, (H.pick (L' := [.blk bk2 (.cells #[S [], S [], Value.slice none 0 0] 24), .blk bk6 (.cells #[S s5, S [], Value.slice none 0 0] 24)]) (by repeat first | exact kPn | refine kPc (by repeat first | exact .head | apply Rem.tail) ?_)), e9⟩
    ·
     rw [if_neg hk12] at e9
     obtain ⟨c13, hxc13, e9⟩ := bnd e9
     refine WR.stepE (v' := .bool false) (Ex.strEql rfl rfl) (congrArg Value.bool (decide_eq_false hk11)) (Wn.none rfl) rfl rfl (MV rfl rfl (SG (Ex.move rfl) rfl rfl rfl (SG (Ex.move rfl) rfl rfl rfl (SG (Ex.lenStr Tryz.underlying9 rfl) rfl rfl rfl (WR.stepE (v' := .bool false) (Ex.eql rfl rfl) (congrArg Value.bool (decide_eq_false hk12)) (Wn.some rfl rfl rfl) rfl rfl (PF rfl rfl rfl (MV rfl rfl (SG (Ex.move rfl) rfl rfl rfl (SG (Ex.move rfl) rfl rfl rfl (SG (Ex.idxStrC Tryz.underlying9 rfl rfl hxc13) rfl rfl rfl (SG (Ex.neqB (c := c13) (d := 47) rfl rfl) rfl rfl rfl (PF rfl rfl rfl (NL ?_)))))))))))))
     exact WQ.meetN [(0, _), (2, _), (4, _), (6, _), (49, _)] ⟨rfl, rfl, rfl, rfl, rfl, trivial⟩ ⟨_, _, rfl, (H.pick (L' := [.blk bk2 (.cells #[S [], S [], Value.slice none 0 0] 24), .blk bk6 (.cells #[S s5, S [], Value.slice none 0 0] 24)]) (by repeat first | exact kPn | refine kPc (by repeat first | exact .head | apply Rem.tail) ?_)), e9⟩
  ·
   rintro e w ⟨b10, M, rfl, H, q14⟩
   obtain rfl := oI q14
   refine TN ?_
   refine WC.condB rfl (fun hk15 => ?_) (fun hk15 => ?_)
   ·
    subst hk15
    rw [if_pos rfl] at h
    refine SQ (RG (ST (Ex.build [S [], S [], Value.slice none 0 0] Tryz.underlying24 Tryz.zeroValue24 (xplaces24 Tryz.underlying24) rfl rfl) rfl (WR.store [_, _, _] H rfl rfl rfl (by repeat first | exact .head | apply Upd.tail) Tryz.sizeOf24 rfl (by rfl) (by rfl) (Wn.none rfl) ?_)))
    intro w H
    refine AS rfl rfl (NL (TN (RT ?_)))
    obtain rfl := oI h
    exact WQ.ret2 rfl ⟨_, rfl, H.loadAgg (by repeat first | exact kMh | apply kMt) Tryz.isAgg24 Tryz.sizeOf24 (by rfl)⟩ rfl H.ext (⟨_, rfl, (SlS.nil _ _ (fun _ => rfl))⟩)
   ·
    subst hk15
    rw [if_neg Bool.false_ne_true] at h
    refine SK (TN (SQ ?_))
    obtain ⟨n16, hxn16, h⟩ := bnd h
    obtain ⟨n17, hx18, h⟩ := bnd h
    refine RG (MV rfl rfl (MV rfl rfl (ST (Ex.addC rfl rfl hxn16) rfl (WR.call H (R_skip_ct hx18) rfl trivial (Wn.none rfl) rfl ?_))))
    intro v54 M w H hle hR
    obtain rfl := hR
    refine AS rfl rfl (NL (TN (SQ ?_)))
    obtain ⟨n19, hx20, h⟩ := bnd h
    refine RG (MV rfl rfl (MV rfl rfl (WR.call H (R_run_ct hx20) rfl trivial (Wn.none rfl) rfl ?_)))
    intro v57 M w H hle hR
    obtain rfl := hR
    refine AS rfl rfl (NL (TN (SQ ?_)))
    obtain ⟨s21, hxs21, h⟩ := bnd h
    refine RG (MV rfl rfl (MV rfl rfl (MV rfl rfl (ST (Ex.sliceC Tryz.underlying9 rfl rfl rfl hxs21) rfl (ST (Ex.fieldAddr Tryz.underlying24 rfl Tryz.sizeOf9 (by decide) rfl) rfl (WR.store1 [_, _, _] H rfl rfl (by repeat first | exact .head | apply Upd.tail) (by rfl) Tryz.sizeOf9 (by first | decide | (simp; done) | (simp; omega)) (by rfl) (by rfl) (Wn.none rfl) ?_))))))
    intro w H
    refine NL (TN (SQ (SQ (RG (ST (Ex.fieldAddr Tryz.underlying24 rfl Tryz.sizeOf9 (by decide) rfl) rfl (ST (Ex.load1 H rfl (by repeat first | exact kMh | apply kMt) Tryz.isAgg9 (by rfl)) rfl ?_))))))
    refine ST (Ex.strEql rfl rfl) rfl (NL (TN ?_))
    refine WC.condB rfl (fun hk22 => ?_) (fun hk22 => ?_)
    ·
     replace hk22 : s21 = [] := of_decide_eq_true hk22
     rw [if_pos hk22] at h
     refine SQ (RG (ST (Ex.build [S [], S [], Value.slice none 0 0] Tryz.underlying24 Tryz.zeroValue24 (xplaces24 Tryz.underlying24) rfl rfl) rfl (WR.store [_, _, _] H rfl rfl rfl (by repeat first | exact .head | apply Upd.tail) Tryz.sizeOf24 rfl (by rfl) (by rfl) (Wn.none rfl) ?_)))
     intro w H
     refine AS rfl rfl (NL (TN (RT ?_)))
     obtain rfl := oI h
     exact WQ.ret2 rfl ⟨_, rfl, H.loadAgg (by repeat first | exact kMh | apply kMt) Tryz.isAgg24 Tryz.sizeOf24 (by rfl)⟩ rfl H.ext (⟨_, rfl, (SlS.nil _ _ (fun _ => rfl))⟩)
    ·
     replace hk22 : ¬ (s21 = []) := of_decide_eq_false hk22
     rw [if_neg hk22] at h
     refine SK (TN (SQ (RG (AS rfl rfl (NL (TN (SQ ?_)))))))
     obtain ⟨n23, hx24, h⟩ := bnd h
     refine RG (MV rfl rfl (MV rfl rfl (WR.call H (R_skip_ct hx24) rfl trivial (Wn.none rfl) rfl ?_)))
     intro v69 M w H hle hR
     obtain rfl := hR
     refine AS rfl rfl (NL (TN (SQ ?_)))
     obtain ⟨o25, e26, h⟩ := bnd h
     refine WC.cutX (fun e w => ∃ (s27 : List UInt8) (s28 : List UInt8) (l29 : List (List UInt8 × List UInt8)) (v30 : Value) (l33 : List (List UInt8 × List UInt8 × Int × Bool)) (v34 : Value) (M : Mem), e = [(2, ptr bk2 0), (6, ptr bk6 0), (7, v34)] ∧ St w0 M0 M [.blk bk2 (.cells #[S s27, S s28, v30] 24), .blk bk6 (.cells #[S s5, S s21, Value.slice none 0 0] 24), RowS 58 4 xenc58 v34 l33] w ∧ SlS M 2 xenc47 v30 l29 ∧ some (.inl (s27, s28, l29, l33)) = some o25) [] ?_ ?_ (trivial)
     ·
      refine BL ?_
      replace H := H.newRowS 58 4 xenc58
      refine WC.loopP (fun m e w => ∃ (s35 : List UInt8) (s36 : List UInt8) (l37 : List (List UInt8 × List UInt8)) (v38 : Value) (n40 : Int) (l42 : List (List UInt8 × List UInt8 × Int × Bool)) (v43 : Value) (M : Mem), e = [(0, S p0), (2, ptr bk2 0), (4, I n40), (6, ptr bk6 0), (7, v43)] ∧ St w0 M0 M [.blk bk2 (.cells #[S s35, S s36, v38] 24), .blk bk6 (.cells #[S s5, S s21, Value.slice none 0 0] 24), RowS 58 4 xenc58 v43 l42] w ∧ SlS M 2 xenc47 v38 l37 ∧ R_MediaRead_L1 p0 m s35 s36 l37 n40 l42 = some o25) FU [(0, _), (2, _), (4, _), (6, _), (7, _)] ⟨rfl, rfl, rfl, rfl, rfl, trivial⟩ ⟨_, _, _, _, _, _, _, _, rfl, (H.pick (L' := [.blk bk2 (.cells #[S [], S [], Value.slice none 0 0] 24), .blk bk6 (.cells #[S s5, S s21, Value.slice none 0 0] 24), RowS 58 4 xenc58 (Value.slice none 0 0) []]) (by repeat first | exact kPn | refine kPc (by repeat first | exact .head | apply Rem.tail) ?_)), (SlS.nil _ _ (fun _ => rfl)), e26⟩ ?_
      rintro m44 e w ⟨s35, s36, l37, v38, n40, l42, v43, M, rfl, H, hs39, e26⟩
      rcases m44 with _ | m44
      · rw [R_MediaRead_L1] at e26; cases e26
      rw [R_MediaRead_L1] at e26
      refine SQ (SQ (RG (MV rfl rfl (MV rfl rfl (ST (Ex.lenStr Tryz.underlying9 rfl) rfl (ST (Ex.lss rfl rfl) rfl (NL (TN ?_))))))))
      refine WC.condB rfl (fun hk46 => ?_) (fun hk46 => ?_)
      ·
       replace hk46 : n40 < (p0.length : Int) := of_decide_eq_true hk46
       rw [if_pos hk46] at e26
       refine SK (TN (BL (SQ (SQ ?_))))
       obtain ⟨c47, hxc47, e26⟩ := bnd e26
       refine RG (MV rfl rfl (MV rfl rfl (ST (Ex.idxStrC Tryz.underlying9 rfl rfl hxc47) rfl (ST (Ex.neqB (c := c47) (d := 59) rfl rfl) rfl (NL (TN ?_))))))
       refine WC.condB rfl (fun hk48 => ?_) (fun hk48 => ?_)
       ·
        replace hk48 : ¬ (c47 = 59) := of_not_decide hk48
        rw [if_neg hk48] at e26
        refine SQ (RG (ST (Ex.build [S [], S [], Value.slice none 0 0] Tryz.underlying24 Tryz.zeroValue24 (xplaces24 Tryz.underlying24) rfl rfl) rfl (WR.store [_, _, _] H rfl rfl rfl (by repeat first | exact .head | apply Upd.tail) Tryz.sizeOf24 rfl (by rfl) (by rfl) (Wn.none rfl) ?_)))
        intro w H
        refine AS rfl rfl (NL (TN (RT ?_)))
        obtain rfl := oI e26
        try dsimp only at h
        obtain rfl := oI h
        exact WQ.ret2 rfl ⟨_, rfl, H.loadAgg (by repeat first | exact kMh | apply kMt) Tryz.isAgg24 Tryz.sizeOf24 (by rfl)⟩ rfl H.ext (⟨_, rfl, (SlS.nil _ _ (fun _ => rfl))⟩)
       ·
        replace hk48 : c47 = 59 := of_not_decide' hk48
        rw [if_pos hk48] at e26
        refine SK (TN (SQ ?_))
        obtain ⟨n49, hxn49, e26⟩ := bnd e26
        obtain ⟨n50, hx51, e26⟩ := bnd e26
        refine RG (MV rfl rfl (MV rfl rfl (ST (Ex.addC rfl rfl hxn49) rfl (WR.call H (R_skip_ct hx51) rfl trivial (Wn.none rfl) rfl ?_))))
        intro v82 M w H hle hR
        replace hs39 := hs39.mono hle
        obtain rfl := hR
        refine AS rfl rfl (NL (TN (SQ ?_)))
        obtain ⟨n52, hx53, e26⟩ := bnd e26
        refine RG (MV rfl rfl (MV rfl rfl (WR.call H (R_run_ct hx53) rfl trivial (Wn.none rfl) rfl ?_)))
        intro v85 M w H hle hR
        replace hs39 := hs39.mono hle
        obtain rfl := hR
        refine AS rfl rfl (NL (TN (SQ ?_)))
        obtain ⟨s54, hxs54, e26⟩ := bnd e26
        refine RG (MV rfl rfl (MV rfl rfl (MV rfl rfl (ST (Ex.sliceC Tryz.underlying9 rfl rfl rfl hxs54) rfl (AS rfl rfl (NL (TN (SQ ?_))))))))
        obtain ⟨n55, hx56, e26⟩ := bnd e26
        refine RG (MV rfl rfl (MV rfl rfl (WR.call H (R_skip_ct hx56) rfl trivial (Wn.none rfl) rfl ?_)))
        intro v92 M w H hle hR
        replace hs39 := hs39.mono hle
        obtain rfl := hR
        refine AS rfl rfl (NL (TN (SQ (SQ ?_))))
        obtain ⟨o57, e58, e26⟩ := bnd e26
        refine WC.cutX (fun e w => ∃ (b59 : Bool) (M : Mem), e = [(0, S p0), (2, ptr bk2 0), (4, I n55), (6, ptr bk6 0), (7, v43), (8, S s54), (102, Value.bool b59)] ∧ St w0 M0 M [.blk bk2 (.cells #[S s35, S s36, v38] 24), .blk bk6 (.cells #[S s5, S s21, Value.slice none 0 0] 24), RowS 58 4 xenc58 v43 l42] w ∧ SlS M 2 xenc47 v38 l37 ∧ some b59 = some o57) [] ?_ ?_ (trivial)
        ·
         refine RG (MV rfl rfl (MV rfl rfl (ST (Ex.lenStr Tryz.underlying9 rfl) rfl ?_)))
         by_cases hk60 : n55 = (p0.length : Int)
         ·
          rw [if_pos hk60] at e58
          refine WR.stepE (v' := .bool true) (Ex.eql rfl rfl) (congrArg Value.bool (decide_eq_true hk60)) (Wn.none rfl) rfl rfl (MV rfl rfl (WR.skipN 4 rfl rfl (PT rfl rfl rfl (NL ?_))))
          exact WQ.meetN [(0, _), (2, _), (4, _), (6, _), (7, _), (8, _), (102, _)] ⟨rfl, rfl, rfl, rfl, rfl, rfl, rfl, trivial⟩ ⟨_, _, rfl, H, hs39, e58⟩
         ·
          rw [if_neg hk60] at e58
          obtain ⟨c61, hxc61, e58⟩ := bnd e58
          refine WR.stepE (v' := .bool false) (Ex.eql rfl rfl) (congrArg Value.bool (decide_eq_false hk60)) (Wn.none rfl) rfl rfl (MV rfl rfl (SG (Ex.move rfl) rfl rfl rfl (SG (Ex.move rfl) rfl rfl rfl (SG (Ex.idxStrC Tryz.underlying9 rfl rfl hxc61) rfl rfl rfl (SG (Ex.neqB (c := c61) (d := 61) rfl rfl) rfl rfl rfl (PF rfl rfl rfl (NL ?_)))))))
          exact WQ.meetN [(0, _), (2, _), (4, _), (6, _), (7, _), (8, _), (102, _)] ⟨rfl, rfl, rfl, rfl, rfl, rfl, rfl, trivial⟩ ⟨_, _, rfl, H, hs39, e58⟩
        ·
         rintro e w ⟨b59, M, rfl, H, hs39, q62⟩
         obtain rfl := oI q62
         refine TN ?_
         refine WC.condB rfl (fun hk63 => ?_) (fun hk63 => ?_)
         ·
          subst hk63
          rw [if_pos rfl] at e26
          refine SQ (RG (ST (Ex.build [S [], S [], Value.slice none 0 0] Tryz.underlying24 Tryz.zeroValue24 (xplaces24 Tryz.underlying24) rfl rfl) rfl (WR.store [_, _, _] H rfl rfl rfl (by repeat first | exact .head | apply Upd.tail) Tryz.sizeOf24 rfl (by rfl) (by rfl) (Wn.none rfl) ?_)))
          intro w H
          refine AS rfl rfl (NL (TN (RT ?_)))
          obtain rfl := oI e26
          try dsimp only at h
          obtain rfl := oI h
          exact WQ.ret2 rfl ⟨_, rfl, H.loadAgg (by repeat first | exact kMh | apply kMt) Tryz.isAgg24 Tryz.sizeOf24 (by rfl)⟩ rfl H.ext (⟨_, rfl, (SlS.nil _ _ (fun _ => rfl))⟩)
         ·
          subst hk63
          rw [if_neg Bool.false_ne_true] at e26
          refine SK (TN (SQ ?_))
          obtain ⟨n64, hxn64, e26⟩ := bnd e26
          obtain ⟨n65, hx66, e26⟩ := bnd e26
          refine RG (MV rfl rfl (MV rfl rfl (ST (Ex.addC rfl rfl hxn64) rfl (WR.call H (R_skip_ct hx66) rfl trivial (Wn.none rfl) rfl ?_))))
          intro v107 M w H hle hR
          replace hs39 := hs39.mono hle
          obtain rfl := hR
          refine AS rfl rfl (NL (TN (SQ (RG (AS rfl rfl (NL (TN (SQ (SQ ?_)))))))))
          obtain ⟨o67, e68, e26⟩ := bnd e26
          refine WC.cutX (fun e w => ∃ (b69 : Bool) (M : Mem), e = [(0, S p0), (2, ptr bk2 0), (4, I n65), (6, ptr bk6 0), (7, v43), (8, S s54), (9, S []), (117, Value.bool b69)] ∧ St w0 M0 M [.blk bk2 (.cells #[S s35, S s36, v38] 24), .blk bk6 (.cells #[S s5, S s21, Value.slice none 0 0] 24), RowS 58 4 xenc58 v43 l42] w ∧ SlS M 2 xenc47 v38 l37 ∧ some b69 = some o67) [] ?_ ?_ (trivial)
          ·
           refine RG (MV rfl rfl (MV rfl rfl (ST (Ex.lenStr Tryz.underlying9 rfl) rfl ?_)))
           by_cases hk70 : n65 < (p0.length : Int)
           ·
            rw [if_pos hk70] at e68
            obtain ⟨c71, hxc71, e68⟩ := bnd e68
            refine WR.stepE (v' := .bool true) (Ex.lss rfl rfl) (congrArg Value.bool (decide_eq_true hk70)) (Wn.none rfl) rfl rfl (MV rfl rfl (SG (Ex.move rfl) rfl rfl rfl (SG (Ex.move rfl) rfl rfl rfl (SG (Ex.idxStrC Tryz.underlying9 rfl rfl hxc71) rfl rfl rfl (SG (Ex.eqlB (c := c71) (d := 34) rfl rfl) rfl rfl rfl (PT rfl rfl rfl (NL ?_)))))))
            exact WQ.meetN [(0, _), (2, _), (4, _), (6, _), (7, _), (8, _), (9, _), (117, _)] ⟨rfl, rfl, rfl, rfl, rfl, rfl, rfl, rfl, trivial⟩ ⟨_, _, rfl, H, hs39, e68⟩
           ·
            rw [if_neg hk70] at e68
            refine WR.stepE (v' := .bool false) (Ex.lss rfl rfl) (congrArg Value.bool (decide_eq_false hk70)) (Wn.none rfl) rfl rfl (MV rfl rfl (WR.skipN 4 rfl rfl (PF rfl rfl rfl (NL ?_))))
            exact WQ.meetN [(0, _), (2, _), (4, _), (6, _), (7, _), (8, _), (9, _), (117, _)] ⟨rfl, rfl, rfl, rfl, rfl, rfl, rfl, rfl, trivial⟩ ⟨_, _, rfl, H, hs39, e68⟩
          ·
           rintro e w ⟨b69, M, rfl, H, hs39, q72⟩
           obtain rfl := oI q72
           refine TN ?_
           obtain ⟨o73, e74, e26⟩ := bnd e26
           refine WC.cutX (fun e w => ∃ (s75 : List UInt8) (s76 : List UInt8) (l77 : List (List UInt8 × List UInt8)) (v78 : Value) (n80 : Int) (s81 : List UInt8) (M : Mem), e = [(0, S p0), (2, ptr bk2 0), (4, I n80), (6, ptr bk6 0), (7, v43), (8, S s54), (9, S s81)] ∧ St w0 M0 M [.blk bk2 (.cells #[S s75, S s76, v78] 24), .blk bk6 (.cells #[S s5, S s21, Value.slice none 0 0] 24), RowS 58 4 xenc58 v43 l42] w ∧ SlS M 2 xenc47 v78 l77 ∧ some (.inl (s75, s76, l77, n80, s81)) = some o73) [] ?_ ?_ (trivial)
           ·
            refine WC.condB rfl (fun hk82 => ?_) (fun hk82 => ?_)
            ·
             subst hk82
             rw [if_pos rfl] at e74
             refine SQ ?_
             obtain ⟨n83, hxn83, e74⟩ := bnd e74
             refine RG (MV rfl rfl (ST (Ex.addC rfl rfl hxn83) rfl (AS rfl rfl (NL (TN (SQ ?_))))))
             obtain ⟨o84, e85, e74⟩ := bnd e74
             refine WC.cutX (fun e w => ∃ (n86 : Int) (s87 : List UInt8) (M : Mem), e = [(0, S p0), (2, ptr bk2 0), (4, I n86), (6, ptr bk6 0), (7, v43), (8, S s54), (9, S s87)] ∧ St w0 M0 M [.blk bk2 (.cells #[S s35, S s36, v38] 24), .blk bk6 (.cells #[S s5, S s21, Value.slice none 0 0] 24), RowS 58 4 xenc58 v43 l42] w ∧ SlS M 2 xenc47 v38 l37 ∧ some (n86, s87) = some o84) [] ?_ ?_ (trivial)
             ·
              refine BL (WC.loopP (fun m e w => ∃ (n88 : Int) (s89 : List UInt8) (M : Mem), e = [(0, S p0), (2, ptr bk2 0), (4, I n88), (6, ptr bk6 0), (7, v43), (8, S s54), (9, S s89)] ∧ St w0 M0 M [.blk bk2 (.cells #[S s35, S s36, v38] 24), .blk bk6 (.cells #[S s5, S s21, Value.slice none 0 0] 24), RowS 58 4 xenc58 v43 l42] w ∧ SlS M 2 xenc47 v38 l37 ∧ R_MediaRead_L2 p0 m n88 s89 = some o84) FU [(0, _), (2, _), (4, _), (6, _), (7, _), (8, _), (9, _)] ⟨rfl, rfl, rfl, rfl, rfl, rfl, rfl, trivial⟩ ⟨_, _, _, rfl, H, hs39, e85⟩ ?_)
              rintro m90 e w ⟨n88, s89, M, rfl, H, hs39, e85⟩
              rcases m90 with _ | m90
              · rw [R_MediaRead_L2] at e85; cases e85
              rw [R_MediaRead_L2] at e85
              refine SQ (SQ ?_)
              obtain ⟨o91, e92, e85⟩ := bnd e85
              refine WC.cutX (fun e w => ∃ (b93 : Bool) (M : Mem), e = [(0, S p0), (2, ptr bk2 0), (4, I n88), (6, ptr bk6 0), (7, v43), (8, S s54), (9, S s89), (129, Value.bool b93)] ∧ St w0 M0 M [.blk bk2 (.cells #[S s35, S s36, v38] 24), .blk bk6 (.cells #[S s5, S s21, Value.slice none 0 0] 24), RowS 58 4 xenc58 v43 l42] w ∧ SlS M 2 xenc47 v38 l37 ∧ some b93 = some o91) [] ?_ ?_ (trivial)
              ·
               refine RG (MV rfl rfl (MV rfl rfl (ST (Ex.lenStr Tryz.underlying9 rfl) rfl ?_)))
               by_cases hk94 : n88 < (p0.length : Int)
               ·
                rw [if_pos hk94] at e92
                obtain ⟨c95, hxc95, e92⟩ := bnd e92
                refine WR.stepE (v' := .bool true) (Ex.lss rfl rfl) (congrArg Value.bool (decide_eq_true hk94)) (Wn.none rfl) rfl rfl (MV rfl rfl (SG (Ex.move rfl) rfl rfl rfl (SG (Ex.move rfl) rfl rfl rfl (SG (Ex.idxStrC Tryz.underlying9 rfl rfl hxc95) rfl rfl rfl (SG (Ex.neqB (c := c95) (d := 34) rfl rfl) rfl rfl rfl (PT rfl rfl rfl (NL ?_)))))))
                exact WQ.meetN [(0, _), (2, _), (4, _), (6, _), (7, _), (8, _), (9, _), (129, _)] ⟨rfl, rfl, rfl, rfl, rfl, rfl, rfl, rfl, trivial⟩ ⟨_, _, rfl, H, hs39, e92⟩
               ·
                rw [if_neg hk94] at e92
                refine WR.stepE (v' := .bool false) (Ex.lss rfl rfl) (congrArg Value.bool (decide_eq_false hk94)) (Wn.none rfl) rfl rfl (MV rfl rfl (WR.skipN 4 rfl rfl (PF rfl rfl rfl (NL ?_))))
                exact WQ.meetN [(0, _), (2, _), (4, _), (6, _), (7, _), (8, _), (9, _), (129, _)] ⟨rfl, rfl, rfl, rfl, rfl, rfl, rfl, rfl, trivial⟩ ⟨_, _, rfl, H, hs39, e92⟩
              ·
               rintro e w ⟨b93, M, rfl, H, hs39, q96⟩
               obtain rfl := oI q96
               refine TN ?_
               refine WC.condB rfl (fun hk97 => ?_) (fun hk97 => ?_)
               ·
                subst hk97
                rw [if_pos rfl] at e85
                refine SK (TN (BL (SQ (SQ ?_))))
                obtain ⟨o98, e99, e85⟩ := bnd e85
                refine WC.cutX (fun e w => ∃ (b100 : Bool) (M : Mem), e = [(0, S p0), (2, ptr bk2 0), (4, I n88), (6, ptr bk6 0), (7, v43), (8, S s54), (9, S s89), (140, Value.bool b100)] ∧ St w0 M0 M [.blk bk2 (.cells #[S s35, S s36, v38] 24), .blk bk6 (.cells #[S s5, S s21, Value.slice none 0 0] 24), RowS 58 4 xenc58 v43 l42] w ∧ SlS M 2 xenc47 v38 l37 ∧ some b100 = some o98) [] ?_ ?_ (trivial)
                ·
                 obtain ⟨c101, hxc101, e99⟩ := bnd e99
                 refine RG (MV rfl rfl (MV rfl rfl (ST (Ex.idxStrC Tryz.underlying9 rfl rfl hxc101) rfl ?_)))
                 by_cases hk102 : c101 = 92
                 ·
                  rw [if_pos hk102] at e99
                  obtain ⟨n103, hxn103, e99⟩ := bnd e99
                  refine WR.stepE (v' := .bool true) (Ex.eqlB (c := c101) (d := 92) rfl rfl) (congrArg Value.bool (decide_eq_true hk102)) (Wn.none rfl) rfl rfl (MV rfl rfl (SG (Ex.move rfl) rfl rfl rfl (SG (Ex.addC rfl rfl hxn103) rfl rfl rfl (SG (Ex.move rfl) rfl rfl rfl (SG (Ex.lenStr Tryz.underlying9 rfl) rfl rfl rfl (SG (Ex.lss rfl rfl) rfl rfl rfl (PT rfl rfl rfl (NL ?_))))))))
                  exact WQ.meetN [(0, _), (2, _), (4, _), (6, _), (7, _), (8, _), (9, _), (140, _)] ⟨rfl, rfl, rfl, rfl, rfl, rfl, rfl, rfl, trivial⟩ ⟨_, _, rfl, H, hs39, e99⟩
                 ·
                  rw [if_neg hk102] at e99
                  refine WR.stepE (v' := .bool false) (Ex.eqlB (c := c101) (d := 92) rfl rfl) (congrArg Value.bool (decide_eq_false hk102)) (Wn.none rfl) rfl rfl (MV rfl rfl (WR.skipN 5 rfl rfl (PF rfl rfl rfl (NL ?_))))
                  exact WQ.meetN [(0, _), (2, _), (4, _), (6, _), (7, _), (8, _), (9, _), (140, _)] ⟨rfl, rfl, rfl, rfl, rfl, rfl, rfl, rfl, trivial⟩ ⟨_, _, rfl, H, hs39, e99⟩
                ·
                 rintro e w ⟨b100, M, rfl, H, hs39, q104⟩
                 obtain rfl := oI q104
                 refine TN ?_
                 obtain ⟨o105, e106, e85⟩ := bnd e85
                 refine WC.cutX (fun e w => ∃ (n107 : Int) (M : Mem), e = [(0, S p0), (2, ptr bk2 0), (4, I n107), (6, ptr bk6 0), (7, v43), (8, S s54), (9, S s89)] ∧ St w0 M0 M [.blk bk2 (.cells #[S s35, S s36, v38] 24), .blk bk6 (.cells #[S s5, S s21, Value.slice none 0 0] 24), RowS 58 4 xenc58 v43 l42] w ∧ SlS M 2 xenc47 v38 l37 ∧ some n107 = some o105) [] ?_ ?_ (trivial)
                 ·
                  refine WC.condB rfl (fun hk108 => ?_) (fun hk108 => ?_)
                  ·
                   subst hk108
                   rw [if_pos rfl] at e106
                   obtain ⟨n109, hxn109, e106⟩ := bnd e106
                   refine RG (MV rfl rfl (ST (Ex.addC rfl rfl hxn109) rfl (AS rfl rfl (NL ?_))))
                   exact WQ.meetN [(0, _), (2, _), (4, _), (6, _), (7, _), (8, _), (9, _)] ⟨rfl, rfl, rfl, rfl, rfl, rfl, rfl, trivial⟩ ⟨_, _, rfl, H, hs39, e106⟩
                  ·
                   subst hk108
                   rw [if_neg Bool.false_ne_true] at e106
                   refine SK ?_
                   exact WQ.meetN [(0, _), (2, _), (4, _), (6, _), (7, _), (8, _), (9, _)] ⟨rfl, rfl, rfl, rfl, rfl, rfl, rfl, trivial⟩ ⟨_, _, rfl, H, hs39, e106⟩
                 ·
                  rintro e w ⟨n107, M, rfl, H, hs39, q110⟩
                  obtain rfl := oI q110
                  refine TN (SQ ?_)
                  obtain ⟨n111, hxn111, e85⟩ := bnd e85
                  obtain ⟨s112, hxs112, e85⟩ := bnd e85
                  obtain ⟨s113, hxs113, e85⟩ := bnd e85
                  refine RG (MV rfl rfl (MV rfl rfl (MV rfl rfl (MV rfl rfl (ST (Ex.addC rfl rfl hxn111) rfl (ST (Ex.sliceC Tryz.underlying9 rfl rfl rfl hxs112) rfl (ST (Ex.strAddC rfl rfl hxs113) rfl (AS rfl rfl (NL (TN ?_))))))))))
                  obtain ⟨n114, hxn114, e85⟩ := bnd e85
                  refine RG (MV rfl rfl (ST (Ex.addC rfl rfl hxn114) rfl (AS rfl rfl (NL (IB ?_)))))
                  exact WQ.againP m90 [(0, _), (2, _), (4, _), (6, _), (7, _), (8, _), (9, _)] ⟨rfl, rfl, rfl, rfl, rfl, rfl, rfl, trivial⟩ ⟨_, _, _, rfl, H, hs39, e85⟩ (Nat.lt_succ_self _)
               ·
                subst hk97
                rw [if_neg Bool.false_ne_true] at e85
                refine WC.exit (WQ.thenExit (WQ.thenExit (WQ.exitHere ?_)))
                exact WQ.meetN [(0, _), (2, _), (4, _), (6, _), (7, _), (8, _), (9, _)] ⟨rfl, rfl, rfl, rfl, rfl, rfl, rfl, trivial⟩ ⟨_, _, _, rfl, H, hs39, e85⟩
             ·
              rintro e w ⟨n86, s87, M, rfl, H, hs39, q115⟩
              obtain rfl := oI q115
              try dsimp only at e74
              refine TN (SQ (SQ (RG (MV rfl rfl (MV rfl rfl (ST (Ex.lenStr Tryz.underlying9 rfl) rfl (ST (Ex.eql rfl rfl) rfl (NL (TN ?_)))))))))
              refine WC.condB rfl (fun hk116 => ?_) (fun hk116 => ?_)
              ·
               replace hk116 : n86 = (p0.length : Int) := of_decide_eq_true hk116
               rw [if_pos hk116] at e74
               refine SQ (RG (ST (Ex.build [S [], S [], Value.slice none 0 0] Tryz.underlying24 Tryz.zeroValue24 (xplaces24 Tryz.underlying24) rfl rfl) rfl (WR.store [_, _, _] H rfl rfl rfl (by repeat first | exact .head | apply Upd.tail) Tryz.sizeOf24 rfl (by rfl) (by rfl) (Wn.none rfl) ?_)))
               intro w H
               refine AS rfl rfl (NL (TN (RT ?_)))
               obtain rfl := oI e74
               try dsimp only at e26
               obtain rfl := oI e26
               try dsimp only at h
               obtain rfl := oI h
               exact WQ.ret2 rfl ⟨_, rfl, H.loadAgg (by repeat first | exact kMh | apply kMt) Tryz.isAgg24 Tryz.sizeOf24 (by rfl)⟩ rfl H.ext (⟨_, rfl, (SlS.nil _ _ (fun _ => rfl))⟩)
              ·
               replace hk116 : ¬ (n86 = (p0.length : Int)) := of_decide_eq_false hk116
               rw [if_neg hk116] at e74
               refine SK (TN ?_)
               obtain ⟨n117, hxn117, e74⟩ := bnd e74
               refine RG (MV rfl rfl (ST (Ex.addC rfl rfl hxn117) rfl (AS rfl rfl (NL ?_))))
               exact WQ.meetN [(0, _), (2, _), (4, _), (6, _), (7, _), (8, _), (9, _)] ⟨rfl, rfl, rfl, rfl, rfl, rfl, rfl, trivial⟩ ⟨_, _, _, _, _, _, _, rfl, H, hs39, e74⟩
            ·
             subst hk82
             rw [if_neg Bool.false_ne_true] at e74
             refine SQ ?_
             obtain ⟨n118, hx119, e74⟩ := bnd e74
             refine RG (MV rfl rfl (MV rfl rfl (WR.call H (R_run_ct hx119) rfl trivial (Wn.none rfl) rfl ?_)))
             intro v161 M w H hle hR
             replace hs39 := hs39.mono hle
             obtain rfl := hR
             refine AS rfl rfl (NL (TN (SQ ?_)))
             obtain ⟨s120, hxs120, e74⟩ := bnd e74
             refine RG (MV rfl rfl (MV rfl rfl (MV rfl rfl (ST (Ex.sliceC Tryz.underlying9 rfl rfl rfl hxs120) rfl (AS rfl rfl (NL (TN (RG (MV rfl rfl (AS rfl rfl (NL ?_)))))))))))
             exact WQ.meetN [(0, _), (2, _), (4, _), (6, _), (7, _), (8, _), (9, _)] ⟨rfl, rfl, rfl, rfl, rfl, rfl, rfl, trivial⟩ ⟨_, _, _, _, _, _, _, rfl, H, hs39, e74⟩
           ·
            rintro e w ⟨s75, s76, l77, v78, n80, s81, M, rfl, H, hs79, q121⟩
            obtain rfl := oI q121
            try dsimp only at e26
            refine TN (SQ ?_)
            obtain ⟨⟨⟨s122, s123, n124, b125⟩, b126⟩, hx127, e26⟩ := bnd e26
            try dsimp only at e26
            refine RG (MV rfl rfl (MV rfl rfl (WR.call H (R_pieceOf_ct hx127) rfl trivial (Wn.none rfl) rfl ?_)))
            intro v170 M w H hle hR
            replace hs79 := hs79.mono hle
            try dsimp only at hR
            obtain rfl := hR
            refine MV rfl rfl (ST (Ex.extract rfl rfl) rfl (ST (Ex.extract rfl rfl) rfl (WR.alloc [_, _, _, _] H Tryz.zeroValue58 rfl (Wn.none rfl) rfl ?_)))
            intro bk10 w H
            refine WR.store [_, _, _, _] H rfl rfl rfl (by repeat first | exact .head | apply Upd.tail) Tryz.sizeOf58 rfl (by rfl) (by rfl) (Wn.none rfl) ?_
            intro w H
            refine AS rfl rfl (NL (TN (SQ (SQ (RG (MV rfl rfl (ST (Ex.not rfl) rfl (NL (TN ?_)))))))))
            refine WC.condB rfl (fun hk128 => ?_) (fun hk128 => ?_)
            ·
             replace hk128 : b126 = false := by simpa using hk128
             subst hk128
             rw [if_neg Bool.false_ne_true] at e26
             refine SQ (RG (ST (Ex.build [S [], S [], Value.slice none 0 0] Tryz.underlying24 Tryz.zeroValue24 (xplaces24 Tryz.underlying24) rfl rfl) rfl (WR.store [_, _, _] H rfl rfl rfl (by repeat first | exact .head | apply Upd.tail) Tryz.sizeOf24 rfl (by rfl) (by rfl) (Wn.none rfl) ?_)))
             intro w H
             refine AS rfl rfl (NL (TN (RT ?_)))
             obtain rfl := oI e26
             try dsimp only at h
             obtain rfl := oI h
             exact WQ.ret2 rfl ⟨_, rfl, H.loadAgg (by repeat first | exact kMh | apply kMt) Tryz.isAgg24 Tryz.sizeOf24 (by rfl)⟩ rfl H.ext (⟨_, rfl, (SlS.nil _ _ (fun _ => rfl))⟩)
            ·
             replace hk128 : b126 = true := by simpa using hk128
             subst hk128
             rw [if_pos rfl] at e26
             refine SK (TN (SQ ?_))
             obtain ⟨l129, hxl129, e26⟩ := bnd e26
             refine RG (MV rfl rfl (ST (Ex.loadAgg H rfl (by repeat first | exact kMh | apply kMt) Tryz.isAgg58 Tryz.sizeOf58 (by rfl)) rfl ?_))
             refine WR.litS (enc := xenc58) xty56 ([(s122, s123, n124, b125)] : List (List UInt8 × List UInt8 × Int × Bool)) H (fun _ => rfl) rfl (by kernel_rfl) rfl rfl rfl (Wn.none rfl) rfl ?_
             intro v178 M w H hle hs178
             replace hs79 := hs79.mono hle
             refine WR.appSC (l := l42) xty56 rfl xone58 H rfl (fun _ => by repeat first | exact .head | apply Upd.tail) rfl (hs178) hxl129 (Wn.none rfl) rfl ?_
             intro v179 w H
             refine AS rfl rfl (NL (TN ?_))
             obtain ⟨n130, hx131, e26⟩ := bnd e26
             refine RG (MV rfl rfl (MV rfl rfl (WR.call H (R_skip_ct hx131) rfl trivial (Wn.none rfl) rfl ?_)))
             intro v182 M w H hle hR
             replace hs178 := hs178.mono hle
             replace hs79 := hs79.mono hle
             obtain rfl := hR
             refine AS rfl rfl (NL (IB ?_))
             exact WQ.againP m44 [(0, _), (2, _), (4, _), (6, _), (7, _)] ⟨rfl, rfl, rfl, rfl, rfl, trivial⟩ ⟨_, _, _, _, _, _, _, _, rfl, (H.pick (L' := [.blk bk2 (.cells #[S s75, S s76, v78] 24), .blk bk6 (.cells #[S s5, S s21, Value.slice none 0 0] 24), RowS 58 4 xenc58 v179 l129]) (by repeat first | exact kPn | refine kPc (by repeat first | exact .head | apply Rem.tail) ?_)), hs79, e26⟩ (Nat.lt_succ_self _)
      ·
       replace hk46 : ¬ (n40 < (p0.length : Int)) := of_decide_eq_false hk46
       rw [if_neg hk46] at e26
       refine WC.exit (WQ.thenExit (WQ.thenExit (WQ.exitHere ?_)))
       exact WQ.meetN [(2, _), (6, _), (7, _)] ⟨rfl, rfl, rfl, trivial⟩ ⟨_, _, _, _, _, _, _, rfl, H, hs39, e26⟩
     ·
      rintro e w ⟨s27, s28, l29, v30, l33, v34, M, rfl, H, hs31, q134⟩
      obtain rfl := oI q134
      try dsimp only at h
      refine TN (SQ (SQ (RG (AS rfl rfl (NL (TN ?_))))))
      obtain ⟨o135, e136, h⟩ := bnd h
      refine WC.cutX (fun e w => ∃ (s137 : List UInt8) (s138 : List UInt8) (l139 : List (List UInt8 × List UInt8)) (v140 : Value) (s142 : List UInt8) (s143 : List UInt8) (l145 : List (List UInt8 × List UInt8)) (v146 : Value) (M : Mem), e = [(2, ptr bk2 0), (6, ptr bk6 0)] ∧ St w0 M0 M [.blk bk2 (.cells #[S s137, S s138, v140] 24), .blk bk6 (.cells #[S s142, S s143, v146] 24), RowS 47 2 xenc47 v146 l145] w ∧ SlS M 2 xenc47 v140 l139 ∧ some (.inl (s137, s138, l139, s142, s143, l145)) = some o135) [] ?_ ?_ (trivial)
      ·
       refine BL ?_
       replace H := H.newRowS 47 2 xenc47
       refine WC.loopP (fun m e w => ∃ (s147 : List UInt8) (s148 : List UInt8) (l149 : List (List UInt8 × List UInt8)) (v150 : Value) (s152 : List UInt8) (s153 : List UInt8) (l155 : List (List UInt8 × List UInt8)) (v156 : Value) (n157 : Int) (M : Mem), e = [(2, ptr bk2 0), (6, ptr bk6 0), (7, v34), (12, I n157)] ∧ St w0 M0 M [.blk bk2 (.cells #[S s147, S s148, v150] 24), .blk bk6 (.cells #[S s152, S s153, v156] 24), RowS 47 2 xenc47 v156 l155, RowS 58 4 xenc58 v34 l33] w ∧ SlS M 2 xenc47 v150 l149 ∧ R_MediaRead_L3 l33 m s147 s148 l149 s152 s153 l155 n157 = some o135) FU [(2, _), (6, _), (7, _), (12, _)] ⟨rfl, rfl, rfl, rfl, trivial⟩ ⟨_, _, _, _, _, _, _, _, _, _, rfl, (H.pick (L' := [.blk bk2 (.cells #[S s27, S s28, v30] 24), .blk bk6 (.cells #[S s5, S s21, (Value.slice none 0 0)] 24), RowS 47 2 xenc47 (Value.slice none 0 0) [], RowS 58 4 xenc58 v34 l33]) (by repeat first | exact kPn | refine kPc (by repeat first | exact .head | apply Rem.tail) ?_)), hs31, e136⟩ ?_
       rintro m158 e w ⟨s147, s148, l149, v150, s152, s153, l155, v156, n157, M, rfl, H, hs151, e136⟩
       rcases m158 with _ | m158
       · rw [R_MediaRead_L3] at e136; cases e136
       rw [R_MediaRead_L3] at e136
       refine SQ (SQ (RG (MV rfl rfl (MV rfl rfl (ST (Ex.lenRowS (l := l33) Tryz.underlying56 H (by repeat first | exact kMh | apply kMt) rfl) rfl ?_)))))
       refine ST (Ex.lss rfl rfl) rfl (NL (TN ?_))
       refine WC.condB rfl (fun hk160 => ?_) (fun hk160 => ?_)
       ·
        replace hk160 : n157 < (l33.length : Int) := of_decide_eq_true hk160
        rw [if_pos hk160] at e136
        refine SK (TN (SQ (BL (SQ (RG (AS rfl rfl (NL (TN (SQ (SQ (RG (AS rfl rfl (NL (TN ?_))))))))))))))
        obtain ⟨o161, e162, e136⟩ := bnd e136
        refine WC.cutX (fun e w => ∃ (b163 : Bool) (M : Mem), e = [(2, ptr bk2 0), (6, ptr bk6 0), (7, v34), (12, I n157), (13, Value.bool b163)] ∧ St w0 M0 M [.blk bk2 (.cells #[S s147, S s148, v150] 24), .blk bk6 (.cells #[S s152, S s153, v156] 24), RowS 47 2 xenc47 v156 l155, RowS 58 4 xenc58 v34 l33] w ∧ SlS M 2 xenc47 v150 l149 ∧ some b163 = some o161) [] ?_ ?_ (trivial)
        ·
         refine BL (WC.loopP (fun m e w => ∃ (b164 : Bool) (n165 : Int) (M : Mem), e = [(2, ptr bk2 0), (6, ptr bk6 0), (7, v34), (12, I n157), (13, Value.bool b164), (14, I n165)] ∧ St w0 M0 M [.blk bk2 (.cells #[S s147, S s148, v150] 24), .blk bk6 (.cells #[S s152, S s153, v156] 24), RowS 47 2 xenc47 v156 l155, RowS 58 4 xenc58 v34 l33] w ∧ SlS M 2 xenc47 v150 l149 ∧ R_MediaRead_L4 l33 n157 m b164 n165 = some o161) FU [(2, _), (6, _), (7, _), (12, _), (13, _), (14, _)] ⟨rfl, rfl, rfl, rfl, rfl, rfl, trivial⟩ ⟨_, _, _, rfl, H, hs151, e162⟩ ?_)
         rintro m166 e w ⟨b164, n165, M, rfl, H, hs151, e162⟩
         rcases m166 with _ | m166
         · rw [R_MediaRead_L4] at e162; cases e162
         rw [R_MediaRead_L4] at e162
         refine SQ (SQ (RG (MV rfl rfl (MV rfl rfl (ST (Ex.lss rfl rfl) rfl (NL (TN ?_)))))))
         refine WC.condB rfl (fun hk167 => ?_) (fun hk167 => ?_)
         ·
          replace hk167 : n165 < n157 := of_decide_eq_true hk167
          rw [if_pos hk167] at e162
          refine SK (TN (SQ (BL ?_)))
          obtain ⟨o168, e169, e162⟩ := bnd e162
          refine WC.cutX (fun e w => ∃ (b170 : Bool) (M : Mem), e = [(2, ptr bk2 0), (6, ptr bk6 0), (7, v34), (12, I n157), (13, Value.bool b170), (14, I n165)] ∧ St w0 M0 M [.blk bk2 (.cells #[S s147, S s148, v150] 24), .blk bk6 (.cells #[S s152, S s153, v156] 24), RowS 47 2 xenc47 v156 l155, RowS 58 4 xenc58 v34 l33] w ∧ SlS M 2 xenc47 v150 l149 ∧ some b170 = some o168) [] ?_ ?_ (trivial)
          ·
           refine WC.draw (m := 15) rfl rfl H ?_
           intro w H
           refine WA.seq (fuel := 13) [0, 1] rfl (by kernel_rfl) (MV rfl rfl (MV rfl rfl (NA ?_)))
           rcases b164 with _ | _
           ·
            rw [if_neg Bool.false_ne_true] at e169
            obtain ⟨a171, hxa171, e169⟩ := bnd e169
            obtain ⟨a172, hxa172, e169⟩ := bnd e169
            obtain ⟨b173, hx174, e169⟩ := bnd e169
            refine WA.take (i := 2) rfl (by kernel_rfl) (by kernel_rfl) (by kernel_rfl) (fun _ => Ex.move rfl) (Wn.some rfl rfl rfl) rfl rfl (fun _ _ => rfl) (WA.take (i := 3) rfl (by kernel_rfl) (by kernel_rfl) (by kernel_rfl) (fun _ => Ex.move rfl) (Wn.some rfl rfl rfl) rfl rfl (fun _ _ => rfl) (WA.take (i := 7) rfl (by kernel_rfl) (by kernel_rfl) (by kernel_rfl) (fun _ => Ex.move rfl) (Wn.some rfl rfl rfl) rfl rfl (fun _ _ => rfl) (WA.take (i := 8) rfl (by kernel_rfl) (by kernel_rfl) (by kernel_rfl) (fun _ => Ex.move rfl) (Wn.some rfl rfl rfl) rfl rfl (fun _ _ => rfl) ?_)))
            refine WA.two (i := 4) (j := 9) (by kernel_rfl) rfl rfl ?_ ?_
            ·
             refine WR.idxRowSC (l := l33) H Tryz.underlying56 Tryz.sizeOf58 (by repeat first | exact kMh | apply kMt) rfl rfl hxa171 (Wn.some rfl rfl rfl) rfl ?_
             intro g198 hg198
             refine NA (WA.take (i := 5) rfl (by kernel_rfl) (by kernel_rfl) (by kernel_rfl) (fun _ => Ex.fieldAddr Tryz.underlying58 rfl Tryz.sizeOf9 (by decide) rfl) (Wn.some rfl rfl rfl) rfl rfl (fun _ _ => rfl) ?_)
             refine WA.two (i := 6) (j := 9) (by kernel_rfl) rfl rfl ?_ ?_
             ·
              refine SG (Ex.loadRowF (j := 0) H rfl hg198 (by repeat first | exact kMh | apply kMt) (fun _ => rfl) hxa171 rfl Tryz.isAgg9) rfl rfl rfl ?_
              refine NA (WA.seq (fuel := 0) [9, 10, 11, 12, 13, 14] rfl (by kernel_rfl) (WR.idxRowSC (l := l33) H Tryz.underlying56 Tryz.sizeOf58 (by repeat first | exact kMh | apply kMt) rfl rfl hxa172 (Wn.some rfl rfl rfl) rfl ?_))
              intro g203 hg203
              refine SG (Ex.fieldAddr Tryz.underlying58 rfl Tryz.sizeOf9 (by decide) rfl) rfl rfl rfl (SG (Ex.loadRowF (j := 0) H rfl hg203 (by repeat first | exact kMh | apply kMt) (fun _ => rfl) hxa172 rfl Tryz.isAgg9) rfl rfl rfl ?_)
              refine WR.call H (R_Alike_ct hx174) rfl trivial (Wn.some rfl rfl rfl) rfl ?_
              intro v206 M w H hle hR
              replace hs151 := hs151.mono hle
              obtain rfl := hR
              refine PF rfl rfl rfl (AS rfl rfl (NA (WA.done (by kernel_rfl) ?_)))
              exact WQ.meetN [(2, _), (6, _), (7, _), (12, _), (13, _), (14, _)] ⟨rfl, rfl, rfl, rfl, rfl, rfl, trivial⟩ ⟨_, _, rfl, H, hs151, e169⟩
             ·
              refine WR.idxRowSC (l := l33) H Tryz.underlying56 Tryz.sizeOf58 (by repeat first | exact kMh | apply kMt) rfl rfl hxa172 (Wn.some rfl rfl rfl) rfl ?_
              intro g203 hg203
              refine NA (WA.take (i := 10) rfl (by kernel_rfl) (by kernel_rfl) (by kernel_rfl) (fun _ => Ex.fieldAddr Tryz.underlying58 rfl Tryz.sizeOf9 (by decide) rfl) (Wn.some rfl rfl rfl) rfl rfl (fun _ _ => rfl) (WA.takeM (i := 6) [11] rfl (by kernel_rfl) (by kernel_rfl) (by kernel_rfl) (Ex.loadRowF (j := 0) H rfl hg198 (by repeat first | exact kMh | apply kMt) (fun _ => rfl) hxa171 rfl Tryz.isAgg9) (Wn.some rfl rfl rfl) rfl rfl (fun _ _ => rfl) ?_))
              refine WA.seq (fuel := 0) [11, 12, 13, 14] rfl (by kernel_rfl) (SG (Ex.loadRowF (j := 0) H rfl hg203 (by repeat first | exact kMh | apply kMt) (fun _ => rfl) hxa172 rfl Tryz.isAgg9) rfl rfl rfl ?_)
              refine WR.call H (R_Alike_ct hx174) rfl trivial (Wn.some rfl rfl rfl) rfl ?_
              intro v206 M w H hle hR
              replace hs151 := hs151.mono hle
              obtain rfl := hR
              refine PF rfl rfl rfl (AS rfl rfl (NA (WA.done (by kernel_rfl) ?_)))
              exact WQ.meetN [(2, _), (6, _), (7, _), (12, _), (13, _), (14, _)] ⟨rfl, rfl, rfl, rfl, rfl, rfl, trivial⟩ ⟨_, _, rfl, H, hs151, e169⟩
            ·
             refine WR.idxRowSC (l := l33) H Tryz.underlying56 Tryz.sizeOf58 (by repeat first | exact kMh | apply kMt) rfl rfl hxa172 (Wn.some rfl rfl rfl) rfl ?_
             intro g203 hg203
             refine NA (WA.take (i := 10) rfl (by kernel_rfl) (by kernel_rfl) (by kernel_rfl) (fun _ => Ex.fieldAddr Tryz.underlying58 rfl Tryz.sizeOf9 (by decide) rfl) (Wn.some rfl rfl rfl) rfl rfl (fun _ _ => rfl) ?_)
             refine WA.two (i := 4) (j := 11) (by kernel_rfl) rfl rfl ?_ ?_
             ·
              refine WR.idxRowSC (l := l33) H Tryz.underlying56 Tryz.sizeOf58 (by repeat first | exact kMh | apply kMt) rfl rfl hxa171 (Wn.some rfl rfl rfl) rfl ?_
              intro g198 hg198
              refine NA (WA.take (i := 5) rfl (by kernel_rfl) (by kernel_rfl) (by kernel_rfl) (fun _ => Ex.fieldAddr Tryz.underlying58 rfl Tryz.sizeOf9 (by decide) rfl) (Wn.some rfl rfl rfl) rfl rfl (fun _ _ => rfl) (WA.takeM (i := 6) [11] rfl (by kernel_rfl) (by kernel_rfl) (by kernel_rfl) (Ex.loadRowF (j := 0) H rfl hg198 (by repeat first | exact kMh | apply kMt) (fun _ => rfl) hxa171 rfl Tryz.isAgg9) (Wn.some rfl rfl rfl) rfl rfl (fun _ _ => rfl) ?_))
              refine WA.seq (fuel := 0) [11, 12, 13, 14] rfl (by kernel_rfl) (SG (Ex.loadRowF (j := 0) H rfl hg203 (by repeat first | exact kMh | apply kMt) (fun _ => rfl) hxa172 rfl Tryz.isAgg9) rfl rfl rfl ?_)
              refine WR.call H (R_Alike_ct hx174) rfl trivial (Wn.some rfl rfl rfl) rfl ?_
              intro v206 M w H hle hR
              replace hs151 := hs151.mono hle
              obtain rfl := hR
              refine PF rfl rfl rfl (AS rfl rfl (NA (WA.done (by kernel_rfl) ?_)))
              exact WQ.meetN [(2, _), (6, _), (7, _), (12, _), (13, _), (14, _)] ⟨rfl, rfl, rfl, rfl, rfl, rfl, trivial⟩ ⟨_, _, rfl, H, hs151, e169⟩
             ·
              refine SG (Ex.loadRowF (j := 0) H rfl hg203 (by repeat first | exact kMh | apply kMt) (fun _ => rfl) hxa172 rfl Tryz.isAgg9) rfl rfl rfl ?_
              refine NA (WA.seq (fuel := 0) [4, 5, 6, 12, 13, 14] rfl (by kernel_rfl) (WR.idxRowSC (l := l33) H Tryz.underlying56 Tryz.sizeOf58 (by repeat first | exact kMh | apply kMt) rfl rfl hxa171 (Wn.some rfl rfl rfl) rfl ?_))
              intro g198 hg198
              refine SG (Ex.fieldAddr Tryz.underlying58 rfl Tryz.sizeOf9 (by decide) rfl) rfl rfl rfl (SG (Ex.loadRowF (j := 0) H rfl hg198 (by repeat first | exact kMh | apply kMt) (fun _ => rfl) hxa171 rfl Tryz.isAgg9) rfl rfl rfl ?_)
              refine WR.call H (R_Alike_ct hx174) rfl trivial (Wn.some rfl rfl rfl) rfl ?_
              intro v206 M w H hle hR
              replace hs151 := hs151.mono hle
              obtain rfl := hR
              refine PF rfl rfl rfl (AS rfl rfl (NA (WA.done (by kernel_rfl) ?_)))
              exact WQ.meetN [(2, _), (6, _), (7, _), (12, _), (13, _), (14, _)] ⟨rfl, rfl, rfl, rfl, rfl, rfl, trivial⟩ ⟨_, _, rfl, H, hs151, e169⟩
           ·
            rw [if_pos rfl] at e169
            refine WA.takes (fuel := 7) [2, 3, 4, 5, 6, 7] rfl (by kernel_rfl) (by kernel_rfl) rfl (WA.seq (fuel := 0) [8, 9, 10, 11, 12, 13, 14] rfl (by kernel_rfl) (WR.skipN 5 rfl rfl (PT rfl rfl rfl (AS rfl rfl (NA (WA.done (by kernel_rfl) ?_))))))
            exact WQ.meetN [(2, _), (6, _), (7, _), (12, _), (13, _), (14, _)] ⟨rfl, rfl, rfl, rfl, rfl, rfl, trivial⟩ ⟨_, _, rfl, H, hs151, e169⟩
          ·
           rintro e w ⟨b170, M, rfl, H, hs151, q175⟩
           obtain rfl := oI q175
           refine IB (TN ?_)
           obtain ⟨n176, hxn176, e162⟩ := bnd e162
           refine RG (MV rfl rfl (ST (Ex.addC rfl rfl hxn176) rfl (AS rfl rfl (NL ?_))))
           exact WQ.againP m166 [(2, _), (6, _), (7, _), (12, _), (13, _), (14, _)] ⟨rfl, rfl, rfl, rfl, rfl, rfl, trivial⟩ ⟨_, _, _, rfl, H, hs151, e162⟩ (Nat.lt_succ_self _)
         ·
          replace hk167 : ¬ (n165 < n157) := of_decide_eq_false hk167
          rw [if_neg hk167] at e162
          refine WC.exit (WQ.thenExit (WQ.thenExit (WQ.exitHere ?_)))
          exact WQ.meetN [(2, _), (6, _), (7, _), (12, _), (13, _)] ⟨rfl, rfl, rfl, rfl, rfl, trivial⟩ ⟨_, _, rfl, H, hs151, e162⟩
        ·
         rintro e w ⟨b163, M, rfl, H, hs151, q177⟩
         obtain rfl := oI q177
         refine TN (SQ (RG (AS rfl rfl (NL (TN (SQ (SQ (RG (AS rfl rfl (NL (TN ?_)))))))))))
         obtain ⟨o178, e179, e136⟩ := bnd e136
         refine WC.cutX (fun e w => ∃ (n180 : Int) (M : Mem), e = [(2, ptr bk2 0), (6, ptr bk6 0), (7, v34), (12, I n157), (13, Value.bool b163), (15, I n180)] ∧ St w0 M0 M [.blk bk2 (.cells #[S s147, S s148, v150] 24), .blk bk6 (.cells #[S s152, S s153, v156] 24), RowS 47 2 xenc47 v156 l155, RowS 58 4 xenc58 v34 l33] w ∧ SlS M 2 xenc47 v150 l149 ∧ some n180 = some o178) [] ?_ ?_ (trivial)
         ·
          refine BL (WC.loopP (fun m e w => ∃ (n181 : Int) (n182 : Int) (M : Mem), e = [(2, ptr bk2 0), (6, ptr bk6 0), (7, v34), (12, I n157), (13, Value.bool b163), (15, I n181), (16, I n182)] ∧ St w0 M0 M [.blk bk2 (.cells #[S s147, S s148, v150] 24), .blk bk6 (.cells #[S s152, S s153, v156] 24), RowS 47 2 xenc47 v156 l155, RowS 58 4 xenc58 v34 l33] w ∧ SlS M 2 xenc47 v150 l149 ∧ R_MediaRead_L5 l33 n157 m n181 n182 = some o178) FU [(2, _), (6, _), (7, _), (12, _), (13, _), (15, _), (16, _)] ⟨rfl, rfl, rfl, rfl, rfl, rfl, rfl, trivial⟩ ⟨_, _, _, rfl, H, hs151, e179⟩ ?_)
          rintro m183 e w ⟨n181, n182, M, rfl, H, hs151, e179⟩
          rcases m183 with _ | m183
          · rw [R_MediaRead_L5] at e179; cases e179
          rw [R_MediaRead_L5] at e179
          refine SQ (SQ (RG (MV rfl rfl (MV rfl rfl (ST (Ex.lenRowS (l := l33) Tryz.underlying56 H (by repeat first | exact kMh | apply kMt) rfl) rfl ?_)))))
          refine ST (Ex.lss rfl rfl) rfl (NL (TN ?_))
          refine WC.condB rfl (fun hk184 => ?_) (fun hk184 => ?_)
          ·
           replace hk184 : n182 < (l33.length : Int) := of_decide_eq_true hk184
           rw [if_pos hk184] at e179
           refine SK (TN (SQ (BL (SQ ?_))))
           obtain ⟨a185, hxa185, e179⟩ := bnd e179
           obtain ⟨a186, hxa186, e179⟩ := bnd e179
           obtain ⟨b187, hx188, e179⟩ := bnd e179
           refine WC.cutP (fun e w => ∃  (M : Mem), e = [(2, ptr bk2 0), (6, ptr bk6 0), (7, v34), (12, I n157), (13, Value.bool b163), (15, I n181), (16, I n182), (224, Value.bool b187)] ∧ St w0 M0 M [.blk bk2 (.cells #[S s147, S s148, v150] 24), .blk bk6 (.cells #[S s152, S s153, v156] 24), RowS 47 2 xenc47 v156 l155, RowS 58 4 xenc58 v34 l33] w ∧ SlS M 2 xenc47 v150 l149) ?_ ?_
           ·
            refine WC.draw (m := 11) rfl rfl H ?_
            intro w H
            refine WA.take (i := 0) rfl (by kernel_rfl) (by kernel_rfl) (by kernel_rfl) (fun _ => Ex.move rfl) (Wn.none rfl) rfl rfl (fun _ _ => rfl) (WA.take (i := 1) rfl (by kernel_rfl) (by kernel_rfl) (by kernel_rfl) (fun _ => Ex.move rfl) (Wn.none rfl) rfl rfl (fun _ _ => rfl) (WA.take (i := 5) rfl (by kernel_rfl) (by kernel_rfl) (by kernel_rfl) (fun _ => Ex.move rfl) (Wn.none rfl) rfl rfl (fun _ _ => rfl) (WA.take (i := 6) rfl (by kernel_rfl) (by kernel_rfl) (by kernel_rfl) (fun _ => Ex.move rfl) (Wn.none rfl) rfl rfl (fun _ _ => rfl) ?_)))
            refine WA.two (i := 2) (j := 7) (by kernel_rfl) rfl rfl ?_ ?_
            ·
             refine WR.idxRowSC (l := l33) H Tryz.underlying56 Tryz.sizeOf58 (by repeat first | exact kMh | apply kMt) rfl rfl hxa185 (Wn.none rfl) rfl ?_
             intro g216 hg216
             refine NA (WA.take (i := 3) rfl (by kernel_rfl) (by kernel_rfl) (by kernel_rfl) (fun _ => Ex.fieldAddr Tryz.underlying58 rfl Tryz.sizeOf9 (by decide) rfl) (Wn.none rfl) rfl rfl (fun _ _ => rfl) ?_)
             refine WA.two (i := 4) (j := 7) (by kernel_rfl) rfl rfl ?_ ?_
             ·
              refine ST (Ex.loadRowF (j := 0) H rfl hg216 (by repeat first | exact kMh | apply kMt) (fun _ => rfl) hxa185 rfl Tryz.isAgg9) rfl ?_
              refine NA (WA.seq (fuel := 0) [7, 8, 9, 10] rfl (by kernel_rfl) (WR.idxRowSC (l := l33) H Tryz.underlying56 Tryz.sizeOf58 (by repeat first | exact kMh | apply kMt) rfl rfl hxa186 (Wn.none rfl) rfl ?_))
              intro g221 hg221
              refine ST (Ex.fieldAddr Tryz.underlying58 rfl Tryz.sizeOf9 (by decide) rfl) rfl (ST (Ex.loadRowF (j := 0) H rfl hg221 (by repeat first | exact kMh | apply kMt) (fun _ => rfl) hxa186 rfl Tryz.isAgg9) rfl ?_)
              refine WR.call H (R_Alike_ct hx188) rfl trivial (Wn.none rfl) rfl ?_
              intro v224 M w H hle hR
              replace hs151 := hs151.mono hle
              obtain rfl := hR
              refine NA (WA.done (by kernel_rfl) ?_)
              exact WQ.meetP [(2, _), (6, _), (7, _), (12, _), (13, _), (15, _), (16, _), (224, _)] ⟨rfl, rfl, rfl, rfl, rfl, rfl, rfl, rfl, trivial⟩ ⟨_, rfl, H, hs151⟩
             ·
              refine WR.idxRowSC (l := l33) H Tryz.underlying56 Tryz.sizeOf58 (by repeat first | exact kMh | apply kMt) rfl rfl hxa186 (Wn.none rfl) rfl ?_
              intro g221 hg221
              refine NA (WA.take (i := 8) rfl (by kernel_rfl) (by kernel_rfl) (by kernel_rfl) (fun _ => Ex.fieldAddr Tryz.underlying58 rfl Tryz.sizeOf9 (by decide) rfl) (Wn.none rfl) rfl rfl (fun _ _ => rfl) (WA.takeM (i := 4) [9] rfl (by kernel_rfl) (by kernel_rfl) (by kernel_rfl) (Ex.loadRowF (j := 0) H rfl hg216 (by repeat first | exact kMh | apply kMt) (fun _ => rfl) hxa185 rfl Tryz.isAgg9) (Wn.none rfl) rfl rfl (fun _ _ => rfl) ?_))
              refine WA.seq (fuel := 0) [9, 10] rfl (by kernel_rfl) (ST (Ex.loadRowF (j := 0) H rfl hg221 (by repeat first | exact kMh | apply kMt) (fun _ => rfl) hxa186 rfl Tryz.isAgg9) rfl ?_)
              refine WR.call H (R_Alike_ct hx188) rfl trivial (Wn.none rfl) rfl ?_
              intro v224 M w H hle hR
              replace hs151 := hs151.mono hle
              obtain rfl := hR
              refine NA (WA.done (by kernel_rfl) ?_)
              exact WQ.meetP [(2, _), (6, _), (7, _), (12, _), (13, _), (15, _), (16, _), (224, _)] ⟨rfl, rfl, rfl, rfl, rfl, rfl, rfl, rfl, trivial⟩ ⟨_, rfl, H, hs151⟩
            ·
             refine WR.idxRowSC (l := l33) H Tryz.underlying56 Tryz.sizeOf58 (by repeat first | exact kMh | apply kMt) rfl rfl hxa186 (Wn.none rfl) rfl ?_
             intro g221 hg221
             refine NA (WA.take (i := 8) rfl (by kernel_rfl) (by kernel_rfl) (by kernel_rfl) (fun _ => Ex.fieldAddr Tryz.underlying58 rfl Tryz.sizeOf9 (by decide) rfl) (Wn.none rfl) rfl rfl (fun _ _ => rfl) ?_)
             refine WA.two (i := 2) (j := 9) (by kernel_rfl) rfl rfl ?_ ?_
             ·
              refine WR.idxRowSC (l := l33) H Tryz.underlying56 Tryz.sizeOf58 (by repeat first | exact kMh | apply kMt) rfl rfl hxa185 (Wn.none rfl) rfl ?_
              intro g216 hg216
              refine NA (WA.take (i := 3) rfl (by kernel_rfl) (by kernel_rfl) (by kernel_rfl) (fun _ => Ex.fieldAddr Tryz.underlying58 rfl Tryz.sizeOf9 (by decide) rfl) (Wn.none rfl) rfl rfl (fun _ _ => rfl) (WA.takeM (i := 4) [9] rfl (by kernel_rfl) (by kernel_rfl) (by kernel_rfl) (Ex.loadRowF (j := 0) H rfl hg216 (by repeat first | exact kMh | apply kMt) (fun _ => rfl) hxa185 rfl Tryz.isAgg9) (Wn.none rfl) rfl rfl (fun _ _ => rfl) ?_))
              refine WA.seq (fuel := 0) [9, 10] rfl (by kernel_rfl) (ST (Ex.loadRowF (j := 0) H rfl hg221 (by repeat first | exact kMh | apply kMt) (fun _ => rfl) hxa186 rfl Tryz.isAgg9) rfl ?_)
              refine WR.call H (R_Alike_ct hx188) rfl trivial (Wn.none rfl) rfl ?_
              intro v224 M w H hle hR
              replace hs151 := hs151.mono hle
              obtain rfl := hR
              refine NA (WA.done (by kernel_rfl) ?_)
              exact WQ.meetP [(2, _), (6, _), (7, _), (12, _), (13, _), (15, _), (16, _), (224, _)] ⟨rfl, rfl, rfl, rfl, rfl, rfl, rfl, rfl, trivial⟩ ⟨_, rfl, H, hs151⟩
             ·
              refine ST (Ex.loadRowF (j := 0) H rfl hg221 (by repeat first | exact kMh | apply kMt) (fun _ => rfl) hxa186 rfl Tryz.isAgg9) rfl ?_
              refine NA (WA.seq (fuel := 0) [2, 3, 4, 10] rfl (by kernel_rfl) (WR.idxRowSC (l := l33) H Tryz.underlying56 Tryz.sizeOf58 (by repeat first | exact kMh | apply kMt) rfl rfl hxa185 (Wn.none rfl) rfl ?_))
              intro g216 hg216
              refine ST (Ex.fieldAddr Tryz.underlying58 rfl Tryz.sizeOf9 (by decide) rfl) rfl (ST (Ex.loadRowF (j := 0) H rfl hg216 (by repeat first | exact kMh | apply kMt) (fun _ => rfl) hxa185 rfl Tryz.isAgg9) rfl ?_)
              refine WR.call H (R_Alike_ct hx188) rfl trivial (Wn.none rfl) rfl ?_
              intro v224 M w H hle hR
              replace hs151 := hs151.mono hle
              obtain rfl := hR
              refine NA (WA.done (by kernel_rfl) ?_)
              exact WQ.meetP [(2, _), (6, _), (7, _), (12, _), (13, _), (15, _), (16, _), (224, _)] ⟨rfl, rfl, rfl, rfl, rfl, rfl, rfl, rfl, trivial⟩ ⟨_, rfl, H, hs151⟩
           ·
            rintro e w ⟨M, rfl, H, hs151⟩
            refine TN ?_
            refine WC.condB rfl (fun hk189 => ?_) (fun hk189 => ?_)
            ·
             subst hk189
             rw [if_pos rfl] at e179
             obtain ⟨n190, hxn190, e179⟩ := bnd e179
             refine RG (MV rfl rfl (ST (Ex.addC rfl rfl hxn190) rfl (AS rfl rfl (NL (IB (TN ?_))))))
             obtain ⟨n191, hxn191, e179⟩ := bnd e179
             refine RG (MV rfl rfl (ST (Ex.addC rfl rfl hxn191) rfl (AS rfl rfl (NL ?_))))
             exact WQ.againP m183 [(2, _), (6, _), (7, _), (12, _), (13, _), (15, _), (16, _)] ⟨rfl, rfl, rfl, rfl, rfl, rfl, rfl, trivial⟩ ⟨_, _, _, rfl, H, hs151, e179⟩ (Nat.lt_succ_self _)
            ·
             subst hk189
             rw [if_neg Bool.false_ne_true] at e179
             refine SK (IB (TN ?_))
             obtain ⟨n192, hxn192, e179⟩ := bnd e179
             refine RG (MV rfl rfl (ST (Ex.addC rfl rfl hxn192) rfl (AS rfl rfl (NL ?_))))
             exact WQ.againP m183 [(2, _), (6, _), (7, _), (12, _), (13, _), (15, _), (16, _)] ⟨rfl, rfl, rfl, rfl, rfl, rfl, rfl, trivial⟩ ⟨_, _, _, rfl, H, hs151, e179⟩ (Nat.lt_succ_self _)
          ·
           replace hk184 : ¬ (n182 < (l33.length : Int)) := of_decide_eq_false hk184
           rw [if_neg hk184] at e179
           refine WC.exit (WQ.thenExit (WQ.thenExit (WQ.exitHere ?_)))
           exact WQ.meetN [(2, _), (6, _), (7, _), (12, _), (13, _), (15, _)] ⟨rfl, rfl, rfl, rfl, rfl, rfl, trivial⟩ ⟨_, _, rfl, H, hs151, e179⟩
         ·
          rintro e w ⟨n180, M, rfl, H, hs151, q193⟩
          obtain rfl := oI q193
          refine TN (SQ (SQ (RG (MV rfl rfl (NL (TN ?_))))))
          refine WC.condB rfl (fun hk194 => ?_) (fun hk194 => ?_)
          ·
           subst hk194
           rw [if_pos rfl] at e136
           refine WC.exit (WQ.thenExit (WQ.exitHere (TN ?_)))
           obtain ⟨n195, hxn195, e136⟩ := bnd e136
           refine RG (MV rfl rfl (ST (Ex.addC rfl rfl hxn195) rfl (AS rfl rfl (NL ?_))))
           exact WQ.againP m158 [(2, _), (6, _), (7, _), (12, _)] ⟨rfl, rfl, rfl, rfl, trivial⟩ ⟨_, _, _, _, _, _, _, _, _, _, rfl, H, hs151, e136⟩ (Nat.lt_succ_self _)
          ·
           subst hk194
           rw [if_neg Bool.false_ne_true] at e136
           refine SK (TN (SQ (SQ ?_)))
           obtain ⟨a196, hxa196, e136⟩ := bnd e136
           refine RG (MV rfl rfl (MV rfl rfl (WR.idxRowSC (l := l33) H Tryz.underlying56 Tryz.sizeOf58 (by repeat first | exact kMh | apply kMt) rfl rfl hxa196 (Wn.none rfl) rfl ?_)))
           intro g230 hg230
           refine ST (Ex.fieldAddr Tryz.underlying58 rfl Tryz.sizeOf3 (by decide) rfl) rfl (ST (Ex.loadRowF (j := 2) H rfl hg230 (by repeat first | exact kMh | apply kMt) (fun _ => rfl) hxa196 rfl Tryz.isAgg3) rfl ?_)
           refine ST (Ex.lss rfl rfl) rfl (NL (TN ?_))
           refine WC.condB rfl (fun hk197 => ?_) (fun hk197 => ?_)
           ·
            replace hk197 : a196.2.2.1 < (0 : Int) := of_decide_eq_true hk197
            rw [if_pos hk197] at e136
            refine SQ (SQ (RG (MV rfl rfl (ST (Ex.neqC rfl rfl) rfl (NL (TN ?_))))))
            refine WC.condB rfl (fun hk198 => ?_) (fun hk198 => ?_)
            ·
             replace hk198 : ¬ (n180 = (1 : Int)) := of_not_decide hk198
             rw [if_neg hk198] at e136
             refine SQ (RG (ST (Ex.build [S [], S [], Value.slice none 0 0] Tryz.underlying24 Tryz.zeroValue24 (xplaces24 Tryz.underlying24) rfl rfl) rfl (WR.store [_, _, _] H rfl rfl rfl (by repeat first | exact .head | apply Upd.tail) Tryz.sizeOf24 rfl (by rfl) (by rfl) (Wn.none rfl) ?_)))
             intro w H
             refine AS rfl rfl (NL (TN (RT ?_)))
             obtain rfl := oI e136
             try dsimp only at h
             obtain rfl := oI h
             exact WQ.ret2 rfl ⟨_, rfl, H.loadAgg (by repeat first | exact kMh | apply kMt) Tryz.isAgg24 Tryz.sizeOf24 (by rfl)⟩ rfl H.ext (⟨_, rfl, (SlS.nil _ _ (fun _ => rfl))⟩)
            ·
             replace hk198 : n180 = (1 : Int) := of_not_decide' hk198
             rw [if_pos hk198] at e136
             refine SK (TN (SQ ?_))
             obtain ⟨a199, hxa199, e136⟩ := bnd e136
             obtain ⟨a200, hxa200, e136⟩ := bnd e136
             obtain ⟨l201, hxl201, e136⟩ := bnd e136
             refine WC.cutP (fun e w => ∃ (v202 : Value) (M : Mem), e = [(2, ptr bk2 0), (6, ptr bk6 0), (7, v34), (12, I n157)] ∧ St w0 M0 M [.blk bk2 (.cells #[S s147, S s148, v150] 24), .blk bk6 (.cells #[S s152, S s153, v202] 24), RowS 47 2 xenc47 v202 l201, RowS 58 4 xenc58 v34 l33] w ∧ SlS M 2 xenc47 v150 l149) ?_ ?_
             ·
              refine WC.draw (m := 17) rfl rfl H ?_
              intro w H
              refine WA.take (i := 0) rfl (by kernel_rfl) (by kernel_rfl) (by kernel_rfl) (fun _ => Ex.fieldAddr Tryz.underlying24 rfl Tryz.sizeOf22 (by decide) rfl) (Wn.none rfl) rfl rfl (fun _ _ => rfl) (WA.take (i := 2) rfl (by kernel_rfl) (by kernel_rfl) (by kernel_rfl) (fun _ => Ex.move rfl) (Wn.none rfl) rfl rfl (fun _ _ => rfl) (WA.take (i := 3) rfl (by kernel_rfl) (by kernel_rfl) (by kernel_rfl) (fun _ => Ex.move rfl) (Wn.none rfl) rfl rfl (fun _ _ => rfl) (WA.take (i := 7) rfl (by kernel_rfl) (by kernel_rfl) (by kernel_rfl) (fun _ => Ex.move rfl) (Wn.none rfl) rfl rfl (fun _ _ => rfl) (WA.take (i := 8) rfl (by kernel_rfl) (by kernel_rfl) (by kernel_rfl) (fun _ => Ex.move rfl) (Wn.none rfl) rfl rfl (fun _ _ => rfl) ?_))))
              refine WA.three (i := 1) (j := 4) (k := 9) (by kernel_rfl) rfl rfl rfl ?_ ?_ ?_
              ·
               refine ST (Ex.load1 H rfl (by repeat first | exact kMh | apply kMt) Tryz.isAgg22 (by rfl)) rfl ?_
               refine NA ?_
               refine WA.two (i := 4) (j := 9) (by kernel_rfl) rfl rfl ?_ ?_
               ·
                refine WR.idxRowSC (l := l33) H Tryz.underlying56 Tryz.sizeOf58 (by repeat first | exact kMh | apply kMt) rfl rfl hxa199 (Wn.none rfl) rfl ?_
                intro g241 hg241
                refine NA (WA.take (i := 5) rfl (by kernel_rfl) (by kernel_rfl) (by kernel_rfl) (fun _ => Ex.fieldAddr Tryz.underlying58 rfl Tryz.sizeOf9 (by decide) rfl) (Wn.none rfl) rfl rfl (fun _ _ => rfl) ?_)
                refine WA.two (i := 6) (j := 9) (by kernel_rfl) rfl rfl ?_ ?_
                ·
                 refine ST (Ex.loadRowF (j := 0) H rfl hg241 (by repeat first | exact kMh | apply kMt) (fun _ => rfl) hxa199 rfl Tryz.isAgg9) rfl ?_
                 refine NA (WA.seq (fuel := 0) [9, 10, 11, 12, 13, 14, 15, 16] rfl (by kernel_rfl) (WR.idxRowSC (l := l33) H Tryz.underlying56 Tryz.sizeOf58 (by repeat first | exact kMh | apply kMt) rfl rfl hxa200 (Wn.none rfl) rfl ?_))
                 intro g246 hg246
                 refine ST (Ex.fieldAddr Tryz.underlying58 rfl Tryz.sizeOf9 (by decide) rfl) rfl (ST (Ex.loadRowF (j := 1) H rfl hg246 (by repeat first | exact kMh | apply kMt) (fun _ => rfl) hxa200 rfl Tryz.isAgg9) rfl ?_)
                 refine ST (Ex.build [S a199.1, S a200.2.1] Tryz.underlying47 Tryz.zeroValue47 (xplaces47 Tryz.underlying47) rfl rfl) rfl (WR.litS (enc := xenc47) xty22 ([(a199.1, a200.2.1)] : List (List UInt8 × List UInt8)) H (fun _ => rfl) rfl (by kernel_rfl) rfl rfl rfl (Wn.none rfl) rfl ?_)
                 intro v250 M w H hle hs250
                 replace hs151 := hs151.mono hle
                 refine WR.appSC (l := l155) xty22 rfl xone47 H rfl (fun _ => by repeat first | exact .head | apply Upd.tail) rfl (hs250) hxl201 (Wn.none rfl) rfl ?_
                 intro v251 w H
                 refine ST (Ex.fieldAddr Tryz.underlying24 rfl Tryz.sizeOf22 (by decide) rfl) rfl (WR.putV [_, _, _] H rfl rfl (H.rowOneS (by repeat first | exact kMh | apply kMt)) (by repeat first | exact .head | apply Upd.tail) (by rfl) Tryz.sizeOf22 (by first | decide | (simp; done) | (simp; omega)) (Wn.none rfl) ?_)
                 intro w H
                 refine NA (WA.done (by kernel_rfl) ?_)
                 exact WQ.meetP [(2, _), (6, _), (7, _), (12, _)] ⟨rfl, rfl, rfl, rfl, trivial⟩ ⟨_, _, rfl, H, hs151⟩
                ·
                 refine WR.idxRowSC (l := l33) H Tryz.underlying56 Tryz.sizeOf58 (by repeat first | exact kMh | apply kMt) rfl rfl hxa200 (Wn.none rfl) rfl ?_
                 intro g246 hg246
                 refine NA (WA.take (i := 10) rfl (by kernel_rfl) (by kernel_rfl) (by kernel_rfl) (fun _ => Ex.fieldAddr Tryz.underlying58 rfl Tryz.sizeOf9 (by decide) rfl) (Wn.none rfl) rfl rfl (fun _ _ => rfl) (WA.takeM (i := 6) [11] rfl (by kernel_rfl) (by kernel_rfl) (by kernel_rfl) (Ex.loadRowF (j := 0) H rfl hg241 (by repeat first | exact kMh | apply kMt) (fun _ => rfl) hxa199 rfl Tryz.isAgg9) (Wn.none rfl) rfl rfl (fun _ _ => rfl) ?_))
                 refine WA.seq (fuel := 0) [11, 12, 13, 14, 15, 16] rfl (by kernel_rfl) (ST (Ex.loadRowF (j := 1) H rfl hg246 (by repeat first | exact kMh | apply kMt) (fun _ => rfl) hxa200 rfl Tryz.isAgg9) rfl ?_)
                 refine ST (Ex.build [S a199.1, S a200.2.1] Tryz.underlying47 Tryz.zeroValue47 (xplaces47 Tryz.underlying47) rfl rfl) rfl (WR.litS (enc := xenc47) xty22 ([(a199.1, a200.2.1)] : List (List UInt8 × List UInt8)) H (fun _ => rfl) rfl (by kernel_rfl) rfl rfl rfl (Wn.none rfl) rfl ?_)
                 intro v250 M w H hle hs250
                 replace hs151 := hs151.mono hle
                 refine WR.appSC (l := l155) xty22 rfl xone47 H rfl (fun _ => by repeat first | exact .head | apply Upd.tail) rfl (hs250) hxl201 (Wn.none rfl) rfl ?_
                 intro v251 w H
                 refine ST (Ex.fieldAddr Tryz.underlying24 rfl Tryz.sizeOf22 (by decide) rfl) rfl (WR.putV [_, _, _] H rfl rfl (H.rowOneS (by repeat first | exact kMh | apply kMt)) (by repeat first | exact .head | apply Upd.tail) (by rfl) Tryz.sizeOf22 (by first | decide | (simp; done) | (simp; omega)) (Wn.none rfl) ?_)
                 intro w H
                 refine NA (WA.done (by kernel_rfl) ?_)
                 exact WQ.meetP [(2, _), (6, _), (7, _), (12, _)] ⟨rfl, rfl, rfl, rfl, trivial⟩ ⟨_, _, rfl, H, hs151⟩
               ·
                refine WR.idxRowSC (l := l33) H Tryz.underlying56 Tryz.sizeOf58 (by repeat first | exact kMh | apply kMt) rfl rfl hxa200 (Wn.none rfl) rfl ?_
                intro g246 hg246
                refine NA (WA.take (i := 10) rfl (by kernel_rfl) (by kernel_rfl) (by kernel_rfl) (fun _ => Ex.fieldAddr Tryz.underlying58 rfl Tryz.sizeOf9 (by decide) rfl) (Wn.none rfl) rfl rfl (fun _ _ => rfl) ?_)
                refine WA.two (i := 4) (j := 11) (by kernel_rfl) rfl rfl ?_ ?_
                ·
                 refine WR.idxRowSC (l := l33) H Tryz.underlying56 Tryz.sizeOf58 (by repeat first | exact kMh | apply kMt) rfl rfl hxa199 (Wn.none rfl) rfl ?_
                 intro g241 hg241
                 refine NA (WA.take (i := 5) rfl (by kernel_rfl) (by kernel_rfl) (by kernel_rfl) (fun _ => Ex.fieldAddr Tryz.underlying58 rfl Tryz.sizeOf9 (by decide) rfl) (Wn.none rfl) rfl rfl (fun _ _ => rfl) (WA.takeM (i := 6) [11] rfl (by kernel_rfl) (by kernel_rfl) (by kernel_rfl) (Ex.loadRowF (j := 0) H rfl hg241 (by repeat first | exact kMh | apply kMt) (fun _ => rfl) hxa199 rfl Tryz.isAgg9) (Wn.none rfl) rfl rfl (fun _ _ => rfl) ?_))
                 refine WA.seq (fuel := 0) [11, 12, 13, 14, 15, 16] rfl (by kernel_rfl) (ST (Ex.loadRowF (j := 1) H rfl hg246 (by repeat first | exact kMh | apply kMt) (fun _ => rfl) hxa200 rfl Tryz.isAgg9) rfl ?_)
                 refine ST (Ex.build [S a199.1, S a200.2.1] Tryz.underlying47 Tryz.zeroValue47 (xplaces47 Tryz.underlying47) rfl rfl) rfl (WR.litS (enc := xenc47) xty22 ([(a199.1, a200.2.1)] : List (List UInt8 × List UInt8)) H (fun _ => rfl) rfl (by kernel_rfl) rfl rfl rfl (Wn.none rfl) rfl ?_)
                 intro v250 M w H hle hs250
                 replace hs151 := hs151.mono hle
                 refine WR.appSC (l := l155) xty22 rfl xone47 H rfl (fun _ => by repeat first | exact .head | apply Upd.tail) rfl (hs250) hxl201 (Wn.none rfl) rfl ?_
                 intro v251 w H
                 refine ST (Ex.fieldAddr Tryz.underlying24 rfl Tryz.sizeOf22 (by decide) rfl) rfl (WR.putV [_, _, _] H rfl rfl (H.rowOneS (by repeat first | exact kMh | apply kMt)) (by repeat first | exact .head | apply Upd.tail) (by rfl) Tryz.sizeOf22 (by first | decide | (simp; done) | (simp; omega)) (Wn.none rfl) ?_)
                 intro w H
                 refine NA (WA.done (by kernel_rfl) ?_)
                 exact WQ.meetP [(2, _), (6, _), (7, _), (12, _)] ⟨rfl, rfl, rfl, rfl, trivial⟩ ⟨_, _, rfl, H, hs151⟩
                ·
                 refine ST (Ex.loadRowF (j := 1) H rfl hg246 (by repeat first | exact kMh | apply kMt) (fun _ => rfl) hxa200 rfl Tryz.isAgg9) rfl ?_
                 refine NA (WA.seq (fuel := 0) [4, 5, 6, 12, 13, 14, 15, 16] rfl (by kernel_rfl) (WR.idxRowSC (l := l33) H Tryz.underlying56 Tryz.sizeOf58 (by repeat first | exact kMh | apply kMt) rfl rfl hxa199 (Wn.none rfl) rfl ?_))
                 intro g241 hg241
                 refine ST (Ex.fieldAddr Tryz.underlying58 rfl Tryz.sizeOf9 (by decide) rfl) rfl (ST (Ex.loadRowF (j := 0) H rfl hg241 (by repeat first | exact kMh | apply kMt) (fun _ => rfl) hxa199 rfl Tryz.isAgg9) rfl ?_)
                 refine ST (Ex.build [S a199.1, S a200.2.1] Tryz.underlying47 Tryz.zeroValue47 (xplaces47 Tryz.underlying47) rfl rfl) rfl (WR.litS (enc := xenc47) xty22 ([(a199.1, a200.2.1)] : List (List UInt8 × List UInt8)) H (fun _ => rfl) rfl (by kernel_rfl) rfl rfl rfl (Wn.none rfl) rfl ?_)
                 intro v250 M w H hle hs250
                 replace hs151 := hs151.mono hle
                 refine WR.appSC (l := l155) xty22 rfl xone47 H rfl (fun _ => by repeat first | exact .head | apply Upd.tail) rfl (hs250) hxl201 (Wn.none rfl) rfl ?_
                 intro v251 w H
                 refine ST (Ex.fieldAddr Tryz.underlying24 rfl Tryz.sizeOf22 (by decide) rfl) rfl (WR.putV [_, _, _] H rfl rfl (H.rowOneS (by repeat first | exact kMh | apply kMt)) (by repeat first | exact .head | apply Upd.tail) (by rfl) Tryz.sizeOf22 (by first | decide | (simp; done) | (simp; omega)) (Wn.none rfl) ?_)
                 intro w H
                 refine NA (WA.done (by kernel_rfl) ?_)
                 exact WQ.meetP [(2, _), (6, _), (7, _), (12, _)] ⟨rfl, rfl, rfl, rfl, trivial⟩ ⟨_, _, rfl, H, hs151⟩
              ·
               refine WR.idxRowSC (l := l33) H Tryz.underlying56 Tryz.sizeOf58 (by repeat first | exact kMh | apply kMt) rfl rfl hxa199 (Wn.none rfl) rfl ?_
               intro g241 hg241
               refine NA (WA.take (i := 5) rfl (by kernel_rfl) (by kernel_rfl) (by kernel_rfl) (fun _ => Ex.fieldAddr Tryz.underlying58 rfl Tryz.sizeOf9 (by decide) rfl) (Wn.none rfl) rfl rfl (fun _ _ => rfl) ?_)
               refine WA.three (i := 1) (j := 6) (k := 9) (by kernel_rfl) rfl rfl rfl ?_ ?_ ?_
               ·
                refine ST (Ex.load1 H rfl (by repeat first | exact kMh | apply kMt) Tryz.isAgg22 (by rfl)) rfl ?_
                refine NA ?_
                refine WA.two (i := 6) (j := 9) (by kernel_rfl) rfl rfl ?_ ?_
                ·
                 refine ST (Ex.loadRowF (j := 0) H rfl hg241 (by repeat first | exact kMh | apply kMt) (fun _ => rfl) hxa199 rfl Tryz.isAgg9) rfl ?_
                 refine NA (WA.seq (fuel := 0) [9, 10, 11, 12, 13, 14, 15, 16] rfl (by kernel_rfl) (WR.idxRowSC (l := l33) H Tryz.underlying56 Tryz.sizeOf58 (by repeat first | exact kMh | apply kMt) rfl rfl hxa200 (Wn.none rfl) rfl ?_))
                 intro g246 hg246
                 refine ST (Ex.fieldAddr Tryz.underlying58 rfl Tryz.sizeOf9 (by decide) rfl) rfl (ST (Ex.loadRowF (j := 1) H rfl hg246 (by repeat first | exact kMh | apply kMt) (fun _ => rfl) hxa200 rfl Tryz.isAgg9) rfl ?_)
                 refine ST (Ex.build [S a199.1, S a200.2.1] Tryz.underlying47 Tryz.zeroValue47 (xplaces47 Tryz.underlying47) rfl rfl) rfl (WR.litS (enc := xenc47) xty22 ([(a199.1, a200.2.1)] : List (List UInt8 × List UInt8)) H (fun _ => rfl) rfl (by kernel_rfl) rfl rfl rfl (Wn.none rfl) rfl ?_)
                 intro v250 M w H hle hs250
                 replace hs151 := hs151.mono hle
                 refine WR.appSC (l := l155) xty22 rfl xone47 H rfl (fun _ => by repeat first | exact .head | apply Upd.tail) rfl (hs250) hxl201 (Wn.none rfl) rfl ?_
                 intro v251 w H
                 refine ST (Ex.fieldAddr Tryz.underlying24 rfl Tryz.sizeOf22 (by decide) rfl) rfl (WR.putV [_, _, _] H rfl rfl (H.rowOneS (by repeat first | exact kMh | apply kMt)) (by repeat first | exact .head | apply Upd.tail) (by rfl) Tryz.sizeOf22 (by first | decide | (simp; done) | (simp; omega)) (Wn.none rfl) ?_)
                 intro w H
                 refine NA (WA.done (by kernel_rfl) ?_)
                 exact WQ.meetP [(2, _), (6, _), (7, _), (12, _)] ⟨rfl, rfl, rfl, rfl, trivial⟩ ⟨_, _, rfl, H, hs151⟩
                ·
                 refine WR.idxRowSC (l := l33) H Tryz.underlying56 Tryz.sizeOf58 (by repeat first | exact kMh | apply kMt) rfl rfl hxa200 (Wn.none rfl) rfl ?_
                 intro g246 hg246
                 refine NA (WA.take (i := 10) rfl (by kernel_rfl) (by kernel_rfl) (by kernel_rfl) (fun _ => Ex.fieldAddr Tryz.underlying58 rfl Tryz.sizeOf9 (by decide) rfl) (Wn.none rfl) rfl rfl (fun _ _ => rfl) (WA.takeM (i := 6) [11] rfl (by kernel_rfl) (by kernel_rfl) (by kernel_rfl) (Ex.loadRowF (j := 0) H rfl hg241 (by repeat first | exact kMh | apply kMt) (fun _ => rfl) hxa199 rfl Tryz.isAgg9) (Wn.none rfl) rfl rfl (fun _ _ => rfl) ?_))
                 refine WA.seq (fuel := 0) [11, 12, 13, 14, 15, 16] rfl (by kernel_rfl) (ST (Ex.loadRowF (j := 1) H rfl hg246 (by repeat first | exact kMh | apply kMt) (fun _ => rfl) hxa200 rfl Tryz.isAgg9) rfl ?_)
                 refine ST (Ex.build [S a199.1, S a200.2.1] Tryz.underlying47 Tryz.zeroValue47 (xplaces47 Tryz.underlying47) rfl rfl) rfl (WR.litS (enc := xenc47) xty22 ([(a199.1, a200.2.1)] : List (List UInt8 × List UInt8)) H (fun _ => rfl) rfl (by kernel_rfl) rfl rfl rfl (Wn.none rfl) rfl ?_)
                 intro v250 M w H hle hs250
                 replace hs151 := hs151.mono hle
                 refine WR.appSC (l := l155) xty22 rfl xone47 H rfl (fun _ => by repeat first | exact .head | apply Upd.tail) rfl (hs250) hxl201 (Wn.none rfl) rfl ?_
                 intro v251 w H
                 refine ST (Ex.fieldAddr Tryz.underlying24 rfl Tryz.sizeOf22 (by decide) rfl) rfl (WR.putV [_, _, _] H rfl rfl (H.rowOneS (by repeat first | exact kMh | apply kMt)) (by repeat first | exact .head | apply Upd.tail) (by rfl) Tryz.sizeOf22 (by first | decide | (simp; done) | (simp; omega)) (Wn.none rfl) ?_)
                 intro w H
                 refine NA (WA.done (by kernel_rfl) ?_)
                 exact WQ.meetP [(2, _), (6, _), (7, _), (12, _)] ⟨rfl, rfl, rfl, rfl, trivial⟩ ⟨_, _, rfl, H, hs151⟩
               ·
                refine ST (Ex.loadRowF (j := 0) H rfl hg241 (by repeat first | exact kMh | apply kMt) (fun _ => rfl) hxa199 rfl Tryz.isAgg9) rfl ?_
                refine NA ?_
                refine WA.two (i := 1) (j := 9) (by kernel_rfl) rfl rfl ?_ ?_
                ·
                 refine ST (Ex.load1 H rfl (by repeat first | exact kMh | apply kMt) Tryz.isAgg22 (by rfl)) rfl ?_
                 refine NA (WA.seq (fuel := 0) [9, 10, 11, 12, 13, 14, 15, 16] rfl (by kernel_rfl) (WR.idxRowSC (l := l33) H Tryz.underlying56 Tryz.sizeOf58 (by repeat first | exact kMh | apply kMt) rfl rfl hxa200 (Wn.none rfl) rfl ?_))
                 intro g246 hg246
                 refine ST (Ex.fieldAddr Tryz.underlying58 rfl Tryz.sizeOf9 (by decide) rfl) rfl (ST (Ex.loadRowF (j := 1) H rfl hg246 (by repeat first | exact kMh | apply kMt) (fun _ => rfl) hxa200 rfl Tryz.isAgg9) rfl ?_)
                 refine ST (Ex.build [S a199.1, S a200.2.1] Tryz.underlying47 Tryz.zeroValue47 (xplaces47 Tryz.underlying47) rfl rfl) rfl (WR.litS (enc := xenc47) xty22 ([(a199.1, a200.2.1)] : List (List UInt8 × List UInt8)) H (fun _ => rfl) rfl (by kernel_rfl) rfl rfl rfl (Wn.none rfl) rfl ?_)
                 intro v250 M w H hle hs250
                 replace hs151 := hs151.mono hle
                 refine WR.appSC (l := l155) xty22 rfl xone47 H rfl (fun _ => by repeat first | exact .head | apply Upd.tail) rfl (hs250) hxl201 (Wn.none rfl) rfl ?_
                 intro v251 w H
                 refine ST (Ex.fieldAddr Tryz.underlying24 rfl Tryz.sizeOf22 (by decide) rfl) rfl (WR.putV [_, _, _] H rfl rfl (H.rowOneS (by repeat first | exact kMh | apply kMt)) (by repeat first | exact .head | apply Upd.tail) (by rfl) Tryz.sizeOf22 (by first | decide | (simp; done) | (simp; omega)) (Wn.none rfl) ?_)
                 intro w H
                 refine NA (WA.done (by kernel_rfl) ?_)
                 exact WQ.meetP [(2, _), (6, _), (7, _), (12, _)] ⟨rfl, rfl, rfl, rfl, trivial⟩ ⟨_, _, rfl, H, hs151⟩
                ·
                 refine WR.idxRowSC (l := l33) H Tryz.underlying56 Tryz.sizeOf58 (by repeat first | exact kMh | apply kMt) rfl rfl hxa200 (Wn.none rfl) rfl ?_
                 intro g246 hg246
                 refine NA (WA.take (i := 10) rfl (by kernel_rfl) (by kernel_rfl) (by kernel_rfl) (fun _ => Ex.fieldAddr Tryz.underlying58 rfl Tryz.sizeOf9 (by decide) rfl) (Wn.none rfl) rfl rfl (fun _ _ => rfl) (WA.takeM (i := 11) [1] rfl (by kernel_rfl) (by kernel_rfl) (by kernel_rfl) (Ex.loadRowF (j := 1) H rfl hg246 (by repeat first | exact kMh | apply kMt) (fun _ => rfl) hxa200 rfl Tryz.isAgg9) (Wn.none rfl) rfl rfl (fun _ _ => rfl) ?_))
                 refine WA.take (i := 12) rfl (by kernel_rfl) (by kernel_rfl) (by kernel_rfl) (fun _ => Ex.build [S a199.1, S a200.2.1] Tryz.underlying47 Tryz.zeroValue47 (xplaces47 Tryz.underlying47) rfl rfl) (Wn.none rfl) rfl rfl (fun _ _ => rfl) ?_
                 refine WA.two (i := 1) (j := 13) (by kernel_rfl) rfl rfl ?_ ?_
                 ·
                  refine ST (Ex.load1 H rfl (by repeat first | exact kMh | apply kMt) Tryz.isAgg22 (by rfl)) rfl ?_
                  refine NA (WA.seq (fuel := 0) [13, 14, 15, 16] rfl (by kernel_rfl) (WR.litS (enc := xenc47) xty22 ([(a199.1, a200.2.1)] : List (List UInt8 × List UInt8)) H (fun _ => rfl) rfl (by kernel_rfl) rfl rfl rfl (Wn.none rfl) rfl ?_))
                  intro v250 M w H hle hs250
                  replace hs151 := hs151.mono hle
                  refine WR.appSC (l := l155) xty22 rfl xone47 H rfl (fun _ => by repeat first | exact .head | apply Upd.tail) rfl (hs250) hxl201 (Wn.none rfl) rfl ?_
                  intro v251 w H
                  refine ST (Ex.fieldAddr Tryz.underlying24 rfl Tryz.sizeOf22 (by decide) rfl) rfl (WR.putV [_, _, _] H rfl rfl (H.rowOneS (by repeat first | exact kMh | apply kMt)) (by repeat first | exact .head | apply Upd.tail) (by rfl) Tryz.sizeOf22 (by first | decide | (simp; done) | (simp; omega)) (Wn.none rfl) ?_)
                  intro w H
                  refine NA (WA.done (by kernel_rfl) ?_)
                  exact WQ.meetP [(2, _), (6, _), (7, _), (12, _)] ⟨rfl, rfl, rfl, rfl, trivial⟩ ⟨_, _, rfl, H, hs151⟩
                 ·
                  refine WR.litS (enc := xenc47) xty22 ([(a199.1, a200.2.1)] : List (List UInt8 × List UInt8)) H (fun _ => rfl) rfl (by kernel_rfl) rfl rfl rfl (Wn.none rfl) rfl ?_
                  intro v250 M w H hle hs250
                  replace hs151 := hs151.mono hle
                  refine NA (WA.seq (fuel := 0) [1, 14, 15, 16] rfl (by kernel_rfl) (ST (Ex.load1 H rfl (by repeat first | exact kMh | apply kMt) Tryz.isAgg22 (by rfl)) rfl ?_))
                  refine WR.appSC (l := l155) xty22 rfl xone47 H rfl (fun _ => by repeat first | exact .head | apply Upd.tail) rfl (hs250) hxl201 (Wn.none rfl) rfl ?_
                  intro v251 w H
                  refine ST (Ex.fieldAddr Tryz.underlying24 rfl Tryz.sizeOf22 (by decide) rfl) rfl (WR.putV [_, _, _] H rfl rfl (H.rowOneS (by repeat first | exact kMh | apply kMt)) (by repeat first | exact .head | apply Upd.tail) (by rfl) Tryz.sizeOf22 (by first | decide | (simp; done) | (simp; omega)) (Wn.none rfl) ?_)
                  intro w H
                  refine NA (WA.done (by kernel_rfl) ?_)
                  exact WQ.meetP [(2, _), (6, _), (7, _), (12, _)] ⟨rfl, rfl, rfl, rfl, trivial⟩ ⟨_, _, rfl, H, hs151⟩
               ·
                refine WR.idxRowSC (l := l33) H Tryz.underlying56 Tryz.sizeOf58 (by repeat first | exact kMh | apply kMt) rfl rfl hxa200 (Wn.none rfl) rfl ?_
                intro g246 hg246
                refine NA (WA.take (i := 10) rfl (by kernel_rfl) (by kernel_rfl) (by kernel_rfl) (fun _ => Ex.fieldAddr Tryz.underlying58 rfl Tryz.sizeOf9 (by decide) rfl) (Wn.none rfl) rfl rfl (fun _ _ => rfl) (WA.takeM (i := 6) [1, 11] rfl (by kernel_rfl) (by kernel_rfl) (by kernel_rfl) (Ex.loadRowF (j := 0) H rfl hg241 (by repeat first | exact kMh | apply kMt) (fun _ => rfl) hxa199 rfl Tryz.isAgg9) (Wn.none rfl) rfl rfl (fun _ _ => rfl) ?_))
                refine WA.takeM (i := 11) [1] rfl (by kernel_rfl) (by kernel_rfl) (by kernel_rfl) (Ex.loadRowF (j := 1) H rfl hg246 (by repeat first | exact kMh | apply kMt) (fun _ => rfl) hxa200 rfl Tryz.isAgg9) (Wn.none rfl) rfl rfl (fun _ _ => rfl) ?_
                refine WA.take (i := 12) rfl (by kernel_rfl) (by kernel_rfl) (by kernel_rfl) (fun _ => Ex.build [S a199.1, S a200.2.1] Tryz.underlying47 Tryz.zeroValue47 (xplaces47 Tryz.underlying47) rfl rfl) (Wn.none rfl) rfl rfl (fun _ _ => rfl) ?_
                refine WA.two (i := 1) (j := 13) (by kernel_rfl) rfl rfl ?_ ?_
                ·
                 refine ST (Ex.load1 H rfl (by repeat first | exact kMh | apply kMt) Tryz.isAgg22 (by rfl)) rfl ?_
                 refine NA (WA.seq (fuel := 0) [13, 14, 15, 16] rfl (by kernel_rfl) (WR.litS (enc := xenc47) xty22 ([(a199.1, a200.2.1)] : List (List UInt8 × List UInt8)) H (fun _ => rfl) rfl (by kernel_rfl) rfl rfl rfl (Wn.none rfl) rfl ?_))
                 intro v250 M w H hle hs250
                 replace hs151 := hs151.mono hle
                 refine WR.appSC (l := l155) xty22 rfl xone47 H rfl (fun _ => by repeat first | exact .head | apply Upd.tail) rfl (hs250) hxl201 (Wn.none rfl) rfl ?_
                 intro v251 w H
                 refine ST (Ex.fieldAddr Tryz.underlying24 rfl Tryz.sizeOf22 (by decide) rfl) rfl (WR.putV [_, _, _] H rfl rfl (H.rowOneS (by repeat first | exact kMh | apply kMt)) (by repeat first | exact .head | apply Upd.tail) (by rfl) Tryz.sizeOf22 (by first | decide | (simp; done) | (simp; omega)) (Wn.none rfl) ?_)
                 intro w H
                 refine NA (WA.done (by kernel_rfl) ?_)
                 exact WQ.meetP [(2, _), (6, _), (7, _), (12, _)] ⟨rfl, rfl, rfl, rfl, trivial⟩ ⟨_, _, rfl, H, hs151⟩
                ·
                 refine WR.litS (enc := xenc47) xty22 ([(a199.1, a200.2.1)] : List (List UInt8 × List UInt8)) H (fun _ => rfl) rfl (by kernel_rfl) rfl rfl rfl (Wn.none rfl) rfl ?_
                 intro v250 M w H hle hs250
                 replace hs151 := hs151.mono hle
                 refine NA (WA.seq (fuel := 0) [1, 14, 15, 16] rfl (by kernel_rfl) (ST (Ex.load1 H rfl (by repeat first | exact kMh | apply kMt) Tryz.isAgg22 (by rfl)) rfl ?_))
                 refine WR.appSC (l := l155) xty22 rfl xone47 H rfl (fun _ => by repeat first | exact .head | apply Upd.tail) rfl (hs250) hxl201 (Wn.none rfl) rfl ?_
                 intro v251 w H
                 refine ST (Ex.fieldAddr Tryz.underlying24 rfl Tryz.sizeOf22 (by decide) rfl) rfl (WR.putV [_, _, _] H rfl rfl (H.rowOneS (by repeat first | exact kMh | apply kMt)) (by repeat first | exact .head | apply Upd.tail) (by rfl) Tryz.sizeOf22 (by first | decide | (simp; done) | (simp; omega)) (Wn.none rfl) ?_)
                 intro w H
                 refine NA (WA.done (by kernel_rfl) ?_)
                 exact WQ.meetP [(2, _), (6, _), (7, _), (12, _)] ⟨rfl, rfl, rfl, rfl, trivial⟩ ⟨_, _, rfl, H, hs151⟩
              ·
               refine WR.idxRowSC (l := l33) H Tryz.underlying56 Tryz.sizeOf58 (by repeat first | exact kMh | apply kMt) rfl rfl hxa200 (Wn.none rfl) rfl ?_
               intro g246 hg246
               refine NA (WA.take (i := 10) rfl (by kernel_rfl) (by kernel_rfl) (by kernel_rfl) (fun _ => Ex.fieldAddr Tryz.underlying58 rfl Tryz.sizeOf9 (by decide) rfl) (Wn.none rfl) rfl rfl (fun _ _ => rfl) ?_)
               refine WA.three (i := 1) (j := 4) (k := 11) (by kernel_rfl) rfl rfl rfl ?_ ?_ ?_
               ·
                refine ST (Ex.load1 H rfl (by repeat first | exact kMh | apply kMt) Tryz.isAgg22 (by rfl)) rfl ?_
                refine NA ?_
                refine WA.two (i := 4) (j := 11) (by kernel_rfl) rfl rfl ?_ ?_
                ·
                 refine WR.idxRowSC (l := l33) H Tryz.underlying56 Tryz.sizeOf58 (by repeat first | exact kMh | apply kMt) rfl rfl hxa199 (Wn.none rfl) rfl ?_
                 intro g241 hg241
                 refine NA (WA.take (i := 5) rfl (by kernel_rfl) (by kernel_rfl) (by kernel_rfl) (fun _ => Ex.fieldAddr Tryz.underlying58 rfl Tryz.sizeOf9 (by decide) rfl) (Wn.none rfl) rfl rfl (fun _ _ => rfl) (WA.takeM (i := 6) [11] rfl (by kernel_rfl) (by kernel_rfl) (by kernel_rfl) (Ex.loadRowF (j := 0) H rfl hg241 (by repeat first | exact kMh | apply kMt) (fun _ => rfl) hxa199 rfl Tryz.isAgg9) (Wn.none rfl) rfl rfl (fun _ _ => rfl) ?_))
                 refine WA.seq (fuel := 0) [11, 12, 13, 14, 15, 16] rfl (by kernel_rfl) (ST (Ex.loadRowF (j := 1) H rfl hg246 (by repeat first | exact kMh | apply kMt) (fun _ => rfl) hxa200 rfl Tryz.isAgg9) rfl ?_)
                 refine ST (Ex.build [S a199.1, S a200.2.1] Tryz.underlying47 Tryz.zeroValue47 (xplaces47 Tryz.underlying47) rfl rfl) rfl (WR.litS (enc := xenc47) xty22 ([(a199.1, a200.2.1)] : List (List UInt8 × List UInt8)) H (fun _ => rfl) rfl (by kernel_rfl) rfl rfl rfl (Wn.none rfl) rfl ?_)
                 intro v250 M w H hle hs250
                 replace hs151 := hs151.mono hle
                 refine WR.appSC (l := l155) xty22 rfl xone47 H rfl (fun _ => by repeat first | exact .head | apply Upd.tail) rfl (hs250) hxl201 (Wn.none rfl) rfl ?_
                 intro v251 w H
                 refine ST (Ex.fieldAddr Tryz.underlying24 rfl Tryz.sizeOf22 (by decide) rfl) rfl (WR.putV [_, _, _] H rfl rfl (H.rowOneS (by repeat first | exact kMh | apply kMt)) (by repeat first | exact .head | apply Upd.tail) (by rfl) Tryz.sizeOf22 (by first | decide | (simp; done) | (simp; omega)) (Wn.none rfl) ?_)
                 intro w H
                 refine NA (WA.done (by kernel_rfl) ?_)
                 exact WQ.meetP [(2, _), (6, _), (7, _), (12, _)] ⟨rfl, rfl, rfl, rfl, trivial⟩ ⟨_, _, rfl, H, hs151⟩
                ·
                 refine ST (Ex.loadRowF (j := 1) H rfl hg246 (by repeat first | exact kMh | apply kMt) (fun _ => rfl) hxa200 rfl Tryz.isAgg9) rfl ?_
                 refine NA (WA.seq (fuel := 0) [4, 5, 6, 12, 13, 14, 15, 16] rfl (by kernel_rfl) (WR.idxRowSC (l := l33) H Tryz.underlying56 Tryz.sizeOf58 (by repeat first | exact kMh | apply kMt) rfl rfl hxa199 (Wn.none rfl) rfl ?_))
                 intro g241 hg241
                 refine ST (Ex.fieldAddr Tryz.underlying58 rfl Tryz.sizeOf9 (by decide) rfl) rfl (ST (Ex.loadRowF (j := 0) H rfl hg241 (by repeat first | exact kMh | apply kMt) (fun _ => rfl) hxa199 rfl Tryz.isAgg9) rfl ?_)
                 refine ST (Ex.build [S a199.1, S a200.2.1] Tryz.underlying47 Tryz.zeroValue47 (xplaces47 Tryz.underlying47) rfl rfl) rfl (WR.litS (enc := xenc47) xty22 ([(a199.1, a200.2.1)] : List (List UInt8 × List UInt8)) H (fun _ => rfl) rfl (by kernel_rfl) rfl rfl rfl (Wn.none rfl) rfl ?_)
                 intro v250 M w H hle hs250
                 replace hs151 := hs151.mono hle
                 refine WR.appSC (l := l155) xty22 rfl xone47 H rfl (fun _ => by repeat first | exact .head | apply Upd.tail) rfl (hs250) hxl201 (Wn.none rfl) rfl ?_
                 intro v251 w H
                 refine ST (Ex.fieldAddr Tryz.underlying24 rfl Tryz.sizeOf22 (by decide) rfl) rfl (WR.putV [_, _, _] H rfl rfl (H.rowOneS (by repeat first | exact kMh | apply kMt)) (by repeat first | exact .head | apply Upd.tail) (by rfl) Tryz.sizeOf22 (by first | decide | (simp; done) | (simp; omega)) (Wn.none rfl) ?_)
                 intro w H
                 refine NA (WA.done (by kernel_rfl) ?_)
                 exact WQ.meetP [(2, _), (6, _), (7, _), (12, _)] ⟨rfl, rfl, rfl, rfl, trivial⟩ ⟨_, _, rfl, H, hs151⟩
               ·
                refine WR.idxRowSC (l := l33) H Tryz.underlying56 Tryz.sizeOf58 (by repeat first | exact kMh | apply kMt) rfl rfl hxa199 (Wn.none rfl) rfl ?_
                intro g241 hg241
                refine NA (WA.take (i := 5) rfl (by kernel_rfl) (by kernel_rfl) (by kernel_rfl) (fun _ => Ex.fieldAddr Tryz.underlying58 rfl Tryz.sizeOf9 (by decide) rfl) (Wn.none rfl) rfl rfl (fun _ _ => rfl) (WA.takeM (i := 6) [1, 11] rfl (by kernel_rfl) (by kernel_rfl) (by kernel_rfl) (Ex.loadRowF (j := 0) H rfl hg241 (by repeat first | exact kMh | apply kMt) (fun _ => rfl) hxa199 rfl Tryz.isAgg9) (Wn.none rfl) rfl rfl (fun _ _ => rfl) ?_))
                refine WA.takeM (i := 11) [1] rfl (by kernel_rfl) (by kernel_rfl) (by kernel_rfl) (Ex.loadRowF (j := 1) H rfl hg246 (by repeat first | exact kMh | apply kMt) (fun _ => rfl) hxa200 rfl Tryz.isAgg9) (Wn.none rfl) rfl rfl (fun _ _ => rfl) ?_
                refine WA.take (i := 12) rfl (by kernel_rfl) (by kernel_rfl) (by kernel_rfl) (fun _ => Ex.build [S a199.1, S a200.2.1] Tryz.underlying47 Tryz.zeroValue47 (xplaces47 Tryz.underlying47) rfl rfl) (Wn.none rfl) rfl rfl (fun _ _ => rfl) ?_
                refine WA.two (i := 1) (j := 13) (by kernel_rfl) rfl rfl ?_ ?_
                ·
                 refine ST (Ex.load1 H rfl (by repeat first | exact kMh | apply kMt) Tryz.isAgg22 (by rfl)) rfl ?_
                 refine NA (WA.seq (fuel := 0) [13, 14, 15, 16] rfl (by kernel_rfl) (WR.litS (enc := xenc47) xty22 ([(a199.1, a200.2.1)] : List (List UInt8 × List UInt8)) H (fun _ => rfl) rfl (by kernel_rfl) rfl rfl rfl (Wn.none rfl) rfl ?_))
                 intro v250 M w H hle hs250
                 replace hs151 := hs151.mono hle
                 refine WR.appSC (l := l155) xty22 rfl xone47 H rfl (fun _ => by repeat first | exact .head | apply Upd.tail) rfl (hs250) hxl201 (Wn.none rfl) rfl ?_
                 intro v251 w H
                 refine ST (Ex.fieldAddr Tryz.underlying24 rfl Tryz.sizeOf22 (by decide) rfl) rfl (WR.putV [_, _, _] H rfl rfl (H.rowOneS (by repeat first | exact kMh | apply kMt)) (by repeat first | exact .head | apply Upd.tail) (by rfl) Tryz.sizeOf22 (by first | decide | (simp; done) | (simp; omega)) (Wn.none rfl) ?_)
                 intro w H
                 refine NA (WA.done (by kernel_rfl) ?_)
                 exact WQ.meetP [(2, _), (6, _), (7, _), (12, _)] ⟨rfl, rfl, rfl, rfl, trivial⟩ ⟨_, _, rfl, H, hs151⟩
                ·
                 refine WR.litS (enc := xenc47) xty22 ([(a199.1, a200.2.1)] : List (List UInt8 × List UInt8)) H (fun _ => rfl) rfl (by kernel_rfl) rfl rfl rfl (Wn.none rfl) rfl ?_
                 intro v250 M w H hle hs250
                 replace hs151 := hs151.mono hle
                 refine NA (WA.seq (fuel := 0) [1, 14, 15, 16] rfl (by kernel_rfl) (ST (Ex.load1 H rfl (by repeat first | exact kMh | apply kMt) Tryz.isAgg22 (by rfl)) rfl ?_))
                 refine WR.appSC (l := l155) xty22 rfl xone47 H rfl (fun _ => by repeat first | exact .head | apply Upd.tail) rfl (hs250) hxl201 (Wn.none rfl) rfl ?_
                 intro v251 w H
                 refine ST (Ex.fieldAddr Tryz.underlying24 rfl Tryz.sizeOf22 (by decide) rfl) rfl (WR.putV [_, _, _] H rfl rfl (H.rowOneS (by repeat first | exact kMh | apply kMt)) (by repeat first | exact .head | apply Upd.tail) (by rfl) Tryz.sizeOf22 (by first | decide | (simp; done) | (simp; omega)) (Wn.none rfl) ?_)
                 intro w H
                 refine NA (WA.done (by kernel_rfl) ?_)
                 exact WQ.meetP [(2, _), (6, _), (7, _), (12, _)] ⟨rfl, rfl, rfl, rfl, trivial⟩ ⟨_, _, rfl, H, hs151⟩
               ·
                refine ST (Ex.loadRowF (j := 1) H rfl hg246 (by repeat first | exact kMh | apply kMt) (fun _ => rfl) hxa200 rfl Tryz.isAgg9) rfl ?_
                refine NA ?_
                refine WA.two (i := 1) (j := 4) (by kernel_rfl) rfl rfl ?_ ?_
                ·
                 refine ST (Ex.load1 H rfl (by repeat first | exact kMh | apply kMt) Tryz.isAgg22 (by rfl)) rfl ?_
                 refine NA (WA.seq (fuel := 0) [4, 5, 6, 12, 13, 14, 15, 16] rfl (by kernel_rfl) (WR.idxRowSC (l := l33) H Tryz.underlying56 Tryz.sizeOf58 (by repeat first | exact kMh | apply kMt) rfl rfl hxa199 (Wn.none rfl) rfl ?_))
                 intro g241 hg241
                 refine ST (Ex.fieldAddr Tryz.underlying58 rfl Tryz.sizeOf9 (by decide) rfl) rfl (ST (Ex.loadRowF (j := 0) H rfl hg241 (by repeat first | exact kMh | apply kMt) (fun _ => rfl) hxa199 rfl Tryz.isAgg9) rfl ?_)
                 refine ST (Ex.build [S a199.1, S a200.2.1] Tryz.underlying47 Tryz.zeroValue47 (xplaces47 Tryz.underlying47) rfl rfl) rfl (WR.litS (enc := xenc47) xty22 ([(a199.1, a200.2.1)] : List (List UInt8 × List UInt8)) H (fun _ => rfl) rfl (by kernel_rfl) rfl rfl rfl (Wn.none rfl) rfl ?_)
                 intro v250 M w H hle hs250
                 replace hs151 := hs151.mono hle
                 refine WR.appSC (l := l155) xty22 rfl xone47 H rfl (fun _ => by repeat first | exact .head | apply Upd.tail) rfl (hs250) hxl201 (Wn.none rfl) rfl ?_
                 intro v251 w H
                 refine ST (Ex.fieldAddr Tryz.underlying24 rfl Tryz.sizeOf22 (by decide) rfl) rfl (WR.putV [_, _, _] H rfl rfl (H.rowOneS (by repeat first | exact kMh | apply kMt)) (by repeat first | exact .head | apply Upd.tail) (by rfl) Tryz.sizeOf22 (by first | decide | (simp; done) | (simp; omega)) (Wn.none rfl) ?_)
                 intro w H
                 refine NA (WA.done (by kernel_rfl) ?_)
                 exact WQ.meetP [(2, _), (6, _), (7, _), (12, _)] ⟨rfl, rfl, rfl, rfl, trivial⟩ ⟨_, _, rfl, H, hs151⟩
                ·
                 refine WR.idxRowSC (l := l33) H Tryz.underlying56 Tryz.sizeOf58 (by repeat first | exact kMh | apply kMt) rfl rfl hxa199 (Wn.none rfl) rfl ?_
                 intro g241 hg241
                 refine NA (WA.take (i := 5) rfl (by kernel_rfl) (by kernel_rfl) (by kernel_rfl) (fun _ => Ex.fieldAddr Tryz.underlying58 rfl Tryz.sizeOf9 (by decide) rfl) (Wn.none rfl) rfl rfl (fun _ _ => rfl) (WA.takeM (i := 6) [1] rfl (by kernel_rfl) (by kernel_rfl) (by kernel_rfl) (Ex.loadRowF (j := 0) H rfl hg241 (by repeat first | exact kMh | apply kMt) (fun _ => rfl) hxa199 rfl Tryz.isAgg9) (Wn.none rfl) rfl rfl (fun _ _ => rfl) ?_))
                 refine WA.take (i := 12) rfl (by kernel_rfl) (by kernel_rfl) (by kernel_rfl) (fun _ => Ex.build [S a199.1, S a200.2.1] Tryz.underlying47 Tryz.zeroValue47 (xplaces47 Tryz.underlying47) rfl rfl) (Wn.none rfl) rfl rfl (fun _ _ => rfl) ?_
                 refine WA.two (i := 1) (j := 13) (by kernel_rfl) rfl rfl ?_ ?_
                 ·
                  refine ST (Ex.load1 H rfl (by repeat first | exact kMh | apply kMt) Tryz.isAgg22 (by rfl)) rfl ?_
                  refine NA (WA.seq (fuel := 0) [13, 14, 15, 16] rfl (by kernel_rfl) (WR.litS (enc := xenc47) xty22 ([(a199.1, a200.2.1)] : List (List UInt8 × List UInt8)) H (fun _ => rfl) rfl (by kernel_rfl) rfl rfl rfl (Wn.none rfl) rfl ?_))
                  intro v250 M w H hle hs250
                  replace hs151 := hs151.mono hle
                  refine WR.appSC (l := l155) xty22 rfl xone47 H rfl (fun _ => by repeat first | exact .head | apply Upd.tail) rfl (hs250) hxl201 (Wn.none rfl) rfl ?_
                  intro v251 w H
                  refine ST (Ex.fieldAddr Tryz.underlying24 rfl Tryz.sizeOf22 (by decide) rfl) rfl (WR.putV [_, _, _] H rfl rfl (H.rowOneS (by repeat first | exact kMh | apply kMt)) (by repeat first | exact .head | apply Upd.tail) (by rfl) Tryz.sizeOf22 (by first | decide | (simp; done) | (simp; omega)) (Wn.none rfl) ?_)
                  intro w H
                  refine NA (WA.done (by kernel_rfl) ?_)
                  exact WQ.meetP [(2, _), (6, _), (7, _), (12, _)] ⟨rfl, rfl, rfl, rfl, trivial⟩ ⟨_, _, rfl, H, hs151⟩
                 ·
                  refine WR.litS (enc := xenc47) xty22 ([(a199.1, a200.2.1)] : List (List UInt8 × List UInt8)) H (fun _ => rfl) rfl (by kernel_rfl) rfl rfl rfl (Wn.none rfl) rfl ?_
                  intro v250 M w H hle hs250
                  replace hs151 := hs151.mono hle
                  refine NA (WA.seq (fuel := 0) [1, 14, 15, 16] rfl (by kernel_rfl) (ST (Ex.load1 H rfl (by repeat first | exact kMh | apply kMt) Tryz.isAgg22 (by rfl)) rfl ?_))
                  refine WR.appSC (l := l155) xty22 rfl xone47 H rfl (fun _ => by repeat first | exact .head | apply Upd.tail) rfl (hs250) hxl201 (Wn.none rfl) rfl ?_
                  intro v251 w H
                  refine ST (Ex.fieldAddr Tryz.underlying24 rfl Tryz.sizeOf22 (by decide) rfl) rfl (WR.putV [_, _, _] H rfl rfl (H.rowOneS (by repeat first | exact kMh | apply kMt)) (by repeat first | exact .head | apply Upd.tail) (by rfl) Tryz.sizeOf22 (by first | decide | (simp; done) | (simp; omega)) (Wn.none rfl) ?_)
                  intro w H
                  refine NA (WA.done (by kernel_rfl) ?_)
                  exact WQ.meetP [(2, _), (6, _), (7, _), (12, _)] ⟨rfl, rfl, rfl, rfl, trivial⟩ ⟨_, _, rfl, H, hs151⟩
             ·
              rintro e w ⟨v202, M, rfl, H, hs151⟩
              refine TN (WC.exit (WQ.thenExit (WQ.exitHere (TN ?_))))
              obtain ⟨n203, hxn203, e136⟩ := bnd e136
              refine RG (MV rfl rfl (ST (Ex.addC rfl rfl hxn203) rfl (AS rfl rfl (NL ?_))))
              exact WQ.againP m158 [(2, _), (6, _), (7, _), (12, _)] ⟨rfl, rfl, rfl, rfl, trivial⟩ ⟨_, _, _, _, _, _, _, _, _, _, rfl, H, hs151, e136⟩ (Nat.lt_succ_self _)
           ·
            replace hk197 : ¬ (a196.2.2.1 < (0 : Int)) := of_decide_eq_false hk197
            rw [if_neg hk197] at e136
            refine SK (TN (SQ (RG (AS rfl rfl (NL (TN (SQ (SQ (RG (AS rfl rfl (NL (TN ?_))))))))))))
            obtain ⟨o204, e205, e136⟩ := bnd e136
            refine WC.cutX (fun e w => ∃ (s206 : List UInt8) (s207 : List UInt8) (l208 : List (List UInt8 × List UInt8)) (v209 : Value) (s211 : List UInt8) (M : Mem), e = [(2, ptr bk2 0), (6, ptr bk6 0), (7, v34), (12, I n157), (17, S s211)] ∧ St w0 M0 M [.blk bk2 (.cells #[S s206, S s207, v209] 24), .blk bk6 (.cells #[S s152, S s153, v156] 24), RowS 47 2 xenc47 v156 l155, RowS 58 4 xenc58 v34 l33] w ∧ SlS M 2 xenc47 v209 l208 ∧ some (.inl (s206, s207, l208, s211)) = some o204) [] ?_ ?_ (trivial)
            ·
             refine BL (WC.loopP (fun m e w => ∃ (s212 : List UInt8) (s213 : List UInt8) (l214 : List (List UInt8 × List UInt8)) (v215 : Value) (s217 : List UInt8) (n218 : Int) (M : Mem), e = [(2, ptr bk2 0), (6, ptr bk6 0), (7, v34), (12, I n157), (15, I n180), (17, S s217), (18, I n218)] ∧ St w0 M0 M [.blk bk2 (.cells #[S s212, S s213, v215] 24), .blk bk6 (.cells #[S s152, S s153, v156] 24), RowS 47 2 xenc47 v156 l155, RowS 58 4 xenc58 v34 l33] w ∧ SlS M 2 xenc47 v215 l214 ∧ R_MediaRead_L6 l33 n157 n180 m s212 s213 l214 s217 n218 = some o204) FU [(2, _), (6, _), (7, _), (12, _), (15, _), (17, _), (18, _)] ⟨rfl, rfl, rfl, rfl, rfl, rfl, rfl, trivial⟩ ⟨_, _, _, _, _, _, _, rfl, H, hs151, e205⟩ ?_)
             rintro m219 e w ⟨s212, s213, l214, v215, s217, n218, M, rfl, H, hs216, e205⟩
             rcases m219 with _ | m219
             · rw [R_MediaRead_L6] at e205; cases e205
             rw [R_MediaRead_L6] at e205
             refine SQ (SQ (RG (MV rfl rfl (MV rfl rfl (ST (Ex.lss rfl rfl) rfl (NL (TN ?_)))))))
             refine WC.condB rfl (fun hk220 => ?_) (fun hk220 => ?_)
             ·
              replace hk220 : n218 < n180 := of_decide_eq_true hk220
              rw [if_pos hk220] at e205
              refine SK (TN (SQ (BL (SQ (RG (AS rfl rfl (NL (TN (SQ (SQ (RG (AS rfl rfl (NL (TN ?_))))))))))))))
              obtain ⟨o221, e222, e205⟩ := bnd e205
              refine WC.cutX (fun e w => ∃ (n223 : Int) (M : Mem), e = [(2, ptr bk2 0), (6, ptr bk6 0), (7, v34), (12, I n157), (15, I n180), (17, S s217), (18, I n218), (19, I n223)] ∧ St w0 M0 M [.blk bk2 (.cells #[S s212, S s213, v215] 24), .blk bk6 (.cells #[S s152, S s153, v156] 24), RowS 47 2 xenc47 v156 l155, RowS 58 4 xenc58 v34 l33] w ∧ SlS M 2 xenc47 v215 l214 ∧ some n223 = some o221) [] ?_ ?_ (trivial)
              ·
               refine BL (WC.loopP (fun m e w => ∃ (n224 : Int) (n225 : Int) (M : Mem), e = [(2, ptr bk2 0), (6, ptr bk6 0), (7, v34), (12, I n157), (15, I n180), (17, S s217), (18, I n218), (19, I n224), (20, I n225)] ∧ St w0 M0 M [.blk bk2 (.cells #[S s212, S s213, v215] 24), .blk bk6 (.cells #[S s152, S s153, v156] 24), RowS 47 2 xenc47 v156 l155, RowS 58 4 xenc58 v34 l33] w ∧ SlS M 2 xenc47 v215 l214 ∧ R_MediaRead_L7 l33 n157 n218 m n224 n225 = some o221) FU [(2, _), (6, _), (7, _), (12, _), (15, _), (17, _), (18, _), (19, _), (20, _)] ⟨rfl, rfl, rfl, rfl, rfl, rfl, rfl, rfl, rfl, trivial⟩ ⟨_, _, _, rfl, H, hs216, e222⟩ ?_)
               rintro m226 e w ⟨n224, n225, M, rfl, H, hs216, e222⟩
               rcases m226 with _ | m226
               · rw [R_MediaRead_L7] at e222; cases e222
               rw [R_MediaRead_L7] at e222
               refine SQ (SQ (RG (MV rfl rfl (MV rfl rfl (ST (Ex.lenRowS (l := l33) Tryz.underlying56 H (by repeat first | exact kMh | apply kMt) rfl) rfl ?_)))))
               refine ST (Ex.lss rfl rfl) rfl (NL (TN ?_))
               refine WC.condB rfl (fun hk227 => ?_) (fun hk227 => ?_)
               ·
                replace hk227 : n225 < (l33.length : Int) := of_decide_eq_true hk227
                rw [if_pos hk227] at e222
                refine SK (TN (SQ (BL (SQ ?_))))
                obtain ⟨o228, e229, e222⟩ := bnd e222
                refine WC.cutX (fun e w => ∃ (b230 : Bool) (M : Mem), e = [(2, ptr bk2 0), (6, ptr bk6 0), (7, v34), (12, I n157), (15, I n180), (17, S s217), (18, I n218), (19, I n224), (20, I n225), (283, Value.bool b230)] ∧ St w0 M0 M [.blk bk2 (.cells #[S s212, S s213, v215] 24), .blk bk6 (.cells #[S s152, S s153, v156] 24), RowS 47 2 xenc47 v156 l155, RowS 58 4 xenc58 v34 l33] w ∧ SlS M 2 xenc47 v215 l214 ∧ some b230 = some o228) [] ?_ ?_ (trivial)
                ·
                 obtain ⟨a231, hxa231, e229⟩ := bnd e229
                 obtain ⟨a232, hxa232, e229⟩ := bnd e229
                 obtain ⟨b233, hx234, e229⟩ := bnd e229
                 refine WC.draw (m := 20) rfl rfl H ?_
                 intro w H
                 refine WA.take (i := 0) rfl (by kernel_rfl) (by kernel_rfl) (by kernel_rfl) (fun _ => Ex.move rfl) (Wn.none rfl) rfl rfl (fun _ _ => rfl) (WA.take (i := 1) rfl (by kernel_rfl) (by kernel_rfl) (by kernel_rfl) (fun _ => Ex.move rfl) (Wn.none rfl) rfl rfl (fun _ _ => rfl) (WA.take (i := 5) rfl (by kernel_rfl) (by kernel_rfl) (by kernel_rfl) (fun _ => Ex.move rfl) (Wn.none rfl) rfl rfl (fun _ _ => rfl) (WA.take (i := 6) rfl (by kernel_rfl) (by kernel_rfl) (by kernel_rfl) (fun _ => Ex.move rfl) (Wn.none rfl) rfl rfl (fun _ _ => rfl) ?_)))
                 rcases b233 with _ | _
                 ·
                  rw [if_neg Bool.false_ne_true] at e229
                  refine WA.two (i := 2) (j := 7) (by kernel_rfl) rfl rfl ?_ ?_
                  ·
                   refine WR.idxRowSC (l := l33) H Tryz.underlying56 Tryz.sizeOf58 (by repeat first | exact kMh | apply kMt) rfl rfl hxa231 (Wn.none rfl) rfl ?_
                   intro g266 hg266
                   refine NA (WA.take (i := 3) rfl (by kernel_rfl) (by kernel_rfl) (by kernel_rfl) (fun _ => Ex.fieldAddr Tryz.underlying58 rfl Tryz.sizeOf9 (by decide) rfl) (Wn.none rfl) rfl rfl (fun _ _ => rfl) ?_)
                   refine WA.two (i := 4) (j := 7) (by kernel_rfl) rfl rfl ?_ ?_
                   ·
                    refine ST (Ex.loadRowF (j := 0) H rfl hg266 (by repeat first | exact kMh | apply kMt) (fun _ => rfl) hxa231 rfl Tryz.isAgg9) rfl ?_
                    refine NA (WA.seq (fuel := 8) [7, 8, 9, 10, 11] rfl (by kernel_rfl) (WR.idxRowSC (l := l33) H Tryz.underlying56 Tryz.sizeOf58 (by repeat first | exact kMh | apply kMt) rfl rfl hxa232 (Wn.none rfl) rfl ?_))
                    intro g271 hg271
                    refine ST (Ex.fieldAddr Tryz.underlying58 rfl Tryz.sizeOf9 (by decide) rfl) rfl (ST (Ex.loadRowF (j := 0) H rfl hg271 (by repeat first | exact kMh | apply kMt) (fun _ => rfl) hxa232 rfl Tryz.isAgg9) rfl ?_)
                    refine WR.call H (R_Alike_ct hx234) rfl trivial (Wn.none rfl) rfl ?_
                    intro v274 M w H hle hR
                    replace hs216 := hs216.mono hle
                    obtain rfl := hR
                    refine MV rfl rfl (NA (WA.takes (fuel := 3) [12, 13, 14, 15, 16] rfl (by kernel_rfl) (by kernel_rfl) rfl (WA.seq (fuel := 0) [17, 18, 19] rfl (by kernel_rfl) (GF rfl rfl rfl (GF rfl rfl rfl (PF rfl rfl rfl (NA (WA.done (by kernel_rfl) ?_))))))))
                    exact WQ.meetN [(2, _), (6, _), (7, _), (12, _), (15, _), (17, _), (18, _), (19, _), (20, _), (283, _)] ⟨rfl, rfl, rfl, rfl, rfl, rfl, rfl, rfl, rfl, rfl, trivial⟩ ⟨_, _, rfl, H, hs216, e229⟩
                   ·
                    refine WR.idxRowSC (l := l33) H Tryz.underlying56 Tryz.sizeOf58 (by repeat first | exact kMh | apply kMt) rfl rfl hxa232 (Wn.none rfl) rfl ?_
                    intro g271 hg271
                    refine NA (WA.take (i := 8) rfl (by kernel_rfl) (by kernel_rfl) (by kernel_rfl) (fun _ => Ex.fieldAddr Tryz.underlying58 rfl Tryz.sizeOf9 (by decide) rfl) (Wn.none rfl) rfl rfl (fun _ _ => rfl) (WA.takeM (i := 4) [9] rfl (by kernel_rfl) (by kernel_rfl) (by kernel_rfl) (Ex.loadRowF (j := 0) H rfl hg266 (by repeat first | exact kMh | apply kMt) (fun _ => rfl) hxa231 rfl Tryz.isAgg9) (Wn.none rfl) rfl rfl (fun _ _ => rfl) ?_))
                    refine WA.seq (fuel := 8) [9, 10, 11] rfl (by kernel_rfl) (ST (Ex.loadRowF (j := 0) H rfl hg271 (by repeat first | exact kMh | apply kMt) (fun _ => rfl) hxa232 rfl Tryz.isAgg9) rfl ?_)
                    refine WR.call H (R_Alike_ct hx234) rfl trivial (Wn.none rfl) rfl ?_
                    intro v274 M w H hle hR
                    replace hs216 := hs216.mono hle
                    obtain rfl := hR
                    refine MV rfl rfl (NA (WA.takes (fuel := 3) [12, 13, 14, 15, 16] rfl (by kernel_rfl) (by kernel_rfl) rfl (WA.seq (fuel := 0) [17, 18, 19] rfl (by kernel_rfl) (GF rfl rfl rfl (GF rfl rfl rfl (PF rfl rfl rfl (NA (WA.done (by kernel_rfl) ?_))))))))
                    exact WQ.meetN [(2, _), (6, _), (7, _), (12, _), (15, _), (17, _), (18, _), (19, _), (20, _), (283, _)] ⟨rfl, rfl, rfl, rfl, rfl, rfl, rfl, rfl, rfl, rfl, trivial⟩ ⟨_, _, rfl, H, hs216, e229⟩
                  ·
                   refine WR.idxRowSC (l := l33) H Tryz.underlying56 Tryz.sizeOf58 (by repeat first | exact kMh | apply kMt) rfl rfl hxa232 (Wn.none rfl) rfl ?_
                   intro g271 hg271
                   refine NA (WA.take (i := 8) rfl (by kernel_rfl) (by kernel_rfl) (by kernel_rfl) (fun _ => Ex.fieldAddr Tryz.underlying58 rfl Tryz.sizeOf9 (by decide) rfl) (Wn.none rfl) rfl rfl (fun _ _ => rfl) ?_)
                   refine WA.two (i := 2) (j := 9) (by kernel_rfl) rfl rfl ?_ ?_
                   ·
                    refine WR.idxRowSC (l := l33) H Tryz.underlying56 Tryz.sizeOf58 (by repeat first | exact kMh | apply kMt) rfl rfl hxa231 (Wn.none rfl) rfl ?_
                    intro g266 hg266
                    refine NA (WA.take (i := 3) rfl (by kernel_rfl) (by kernel_rfl) (by kernel_rfl) (fun _ => Ex.fieldAddr Tryz.underlying58 rfl Tryz.sizeOf9 (by decide) rfl) (Wn.none rfl) rfl rfl (fun _ _ => rfl) (WA.takeM (i := 4) [9] rfl (by kernel_rfl) (by kernel_rfl) (by kernel_rfl) (Ex.loadRowF (j := 0) H rfl hg266 (by repeat first | exact kMh | apply kMt) (fun _ => rfl) hxa231 rfl Tryz.isAgg9) (Wn.none rfl) rfl rfl (fun _ _ => rfl) ?_))
                    refine WA.seq (fuel := 8) [9, 10, 11] rfl (by kernel_rfl) (ST (Ex.loadRowF (j := 0) H rfl hg271 (by repeat first | exact kMh | apply kMt) (fun _ => rfl) hxa232 rfl Tryz.isAgg9) rfl ?_)
                    refine WR.call H (R_Alike_ct hx234) rfl trivial (Wn.none rfl) rfl ?_
                    intro v274 M w H hle hR
                    replace hs216 := hs216.mono hle
                    obtain rfl := hR
                    refine MV rfl rfl (NA (WA.takes (fuel := 3) [12, 13, 14, 15, 16] rfl (by kernel_rfl) (by kernel_rfl) rfl (WA.seq (fuel := 0) [17, 18, 19] rfl (by kernel_rfl) (GF rfl rfl rfl (GF rfl rfl rfl (PF rfl rfl rfl (NA (WA.done (by kernel_rfl) ?_))))))))
                    exact WQ.meetN [(2, _), (6, _), (7, _), (12, _), (15, _), (17, _), (18, _), (19, _), (20, _), (283, _)] ⟨rfl, rfl, rfl, rfl, rfl, rfl, rfl, rfl, rfl, rfl, trivial⟩ ⟨_, _, rfl, H, hs216, e229⟩
                   ·
                    refine ST (Ex.loadRowF (j := 0) H rfl hg271 (by repeat first | exact kMh | apply kMt) (fun _ => rfl) hxa232 rfl Tryz.isAgg9) rfl ?_
                    refine NA (WA.seq (fuel := 8) [2, 3, 4, 10, 11] rfl (by kernel_rfl) (WR.idxRowSC (l := l33) H Tryz.underlying56 Tryz.sizeOf58 (by repeat first | exact kMh | apply kMt) rfl rfl hxa231 (Wn.none rfl) rfl ?_))
                    intro g266 hg266
                    refine ST (Ex.fieldAddr Tryz.underlying58 rfl Tryz.sizeOf9 (by decide) rfl) rfl (ST (Ex.loadRowF (j := 0) H rfl hg266 (by repeat first | exact kMh | apply kMt) (fun _ => rfl) hxa231 rfl Tryz.isAgg9) rfl ?_)
                    refine WR.call H (R_Alike_ct hx234) rfl trivial (Wn.none rfl) rfl ?_
                    intro v274 M w H hle hR
                    replace hs216 := hs216.mono hle
                    obtain rfl := hR
                    refine MV rfl rfl (NA (WA.takes (fuel := 3) [12, 13, 14, 15, 16] rfl (by kernel_rfl) (by kernel_rfl) rfl (WA.seq (fuel := 0) [17, 18, 19] rfl (by kernel_rfl) (GF rfl rfl rfl (GF rfl rfl rfl (PF rfl rfl rfl (NA (WA.done (by kernel_rfl) ?_))))))))
                    exact WQ.meetN [(2, _), (6, _), (7, _), (12, _), (15, _), (17, _), (18, _), (19, _), (20, _), (283, _)] ⟨rfl, rfl, rfl, rfl, rfl, rfl, rfl, rfl, rfl, rfl, trivial⟩ ⟨_, _, rfl, H, hs216, e229⟩
                 ·
                  rw [if_pos rfl] at e229
                  obtain ⟨a235, hxa235, e229⟩ := bnd e229
                  refine WA.two (i := 2) (j := 7) (by kernel_rfl) rfl rfl ?_ ?_
                  ·
                   refine WR.idxRowSC (l := l33) H Tryz.underlying56 Tryz.sizeOf58 (by repeat first | exact kMh | apply kMt) rfl rfl hxa231 (Wn.none rfl) rfl ?_
                   intro g266 hg266
                   refine NA (WA.take (i := 3) rfl (by kernel_rfl) (by kernel_rfl) (by kernel_rfl) (fun _ => Ex.fieldAddr Tryz.underlying58 rfl Tryz.sizeOf9 (by decide) rfl) (Wn.none rfl) rfl rfl (fun _ _ => rfl) ?_)
                   refine WA.two (i := 4) (j := 7) (by kernel_rfl) rfl rfl ?_ ?_
                   ·
                    refine ST (Ex.loadRowF (j := 0) H rfl hg266 (by repeat first | exact kMh | apply kMt) (fun _ => rfl) hxa231 rfl Tryz.isAgg9) rfl ?_
                    refine NA (WA.seq (fuel := 8) [7, 8, 9, 10, 11] rfl (by kernel_rfl) (WR.idxRowSC (l := l33) H Tryz.underlying56 Tryz.sizeOf58 (by repeat first | exact kMh | apply kMt) rfl rfl hxa232 (Wn.none rfl) rfl ?_))
                    intro g271 hg271
                    refine ST (Ex.fieldAddr Tryz.underlying58 rfl Tryz.sizeOf9 (by decide) rfl) rfl (ST (Ex.loadRowF (j := 0) H rfl hg271 (by repeat first | exact kMh | apply kMt) (fun _ => rfl) hxa232 rfl Tryz.isAgg9) rfl ?_)
                    refine WR.call H (R_Alike_ct hx234) rfl trivial (Wn.none rfl) rfl ?_
                    intro v274 M w H hle hR
                    replace hs216 := hs216.mono hle
                    obtain rfl := hR
                    refine MV rfl rfl (NA (WA.take (i := 12) rfl (by kernel_rfl) (by kernel_rfl) (by kernel_rfl) (fun _ => Ex.move rfl) (Wn.some rfl rfl rfl) rfl rfl (fun _ _ => rfl) (WA.take (i := 13) rfl (by kernel_rfl) (by kernel_rfl) (by kernel_rfl) (fun _ => Ex.move rfl) (Wn.some rfl rfl rfl) rfl rfl (fun _ _ => rfl) (WA.take (i := 17) rfl (by kernel_rfl) (by kernel_rfl) (by kernel_rfl) (fun _ => Ex.move rfl) (Wn.some rfl rfl rfl) rfl rfl (fun _ _ => rfl) (WA.seq (fuel := 0) [14, 15, 16, 18, 19] rfl (by kernel_rfl) (WR.idxRowSC (l := l33) H Tryz.underlying56 Tryz.sizeOf58 (by repeat first | exact kMh | apply kMt) rfl rfl hxa235 (Wn.some rfl rfl rfl) rfl ?_))))))
                    intro g278 hg278
                    refine SG (Ex.fieldAddr Tryz.underlying58 rfl Tryz.sizeOf3 (by decide) rfl) rfl rfl rfl (SG (Ex.loadRowF (j := 2) H rfl hg278 (by repeat first | exact kMh | apply kMt) (fun _ => rfl) hxa235 rfl Tryz.isAgg3) rfl rfl rfl ?_)
                    refine SG (Ex.eql rfl rfl) rfl rfl rfl (PT rfl rfl rfl (NA (WA.done (by kernel_rfl) ?_)))
                    exact WQ.meetN [(2, _), (6, _), (7, _), (12, _), (15, _), (17, _), (18, _), (19, _), (20, _), (283, _)] ⟨rfl, rfl, rfl, rfl, rfl, rfl, rfl, rfl, rfl, rfl, trivial⟩ ⟨_, _, rfl, H, hs216, e229⟩
                   ·
                    refine WR.idxRowSC (l := l33) H Tryz.underlying56 Tryz.sizeOf58 (by repeat first | exact kMh | apply kMt) rfl rfl hxa232 (Wn.none rfl) rfl ?_
                    intro g271 hg271
                    refine NA (WA.take (i := 8) rfl (by kernel_rfl) (by kernel_rfl) (by kernel_rfl) (fun _ => Ex.fieldAddr Tryz.underlying58 rfl Tryz.sizeOf9 (by decide) rfl) (Wn.none rfl) rfl rfl (fun _ _ => rfl) (WA.takeM (i := 4) [9] rfl (by kernel_rfl) (by kernel_rfl) (by kernel_rfl) (Ex.loadRowF (j := 0) H rfl hg266 (by repeat first | exact kMh | apply kMt) (fun _ => rfl) hxa231 rfl Tryz.isAgg9) (Wn.none rfl) rfl rfl (fun _ _ => rfl) ?_))
                    refine WA.seq (fuel := 8) [9, 10, 11] rfl (by kernel_rfl) (ST (Ex.loadRowF (j := 0) H rfl hg271 (by repeat first | exact kMh | apply kMt) (fun _ => rfl) hxa232 rfl Tryz.isAgg9) rfl ?_)
                    refine WR.call H (R_Alike_ct hx234) rfl trivial (Wn.none rfl) rfl ?_
                    intro v274 M w H hle hR
                    replace hs216 := hs216.mono hle
                    obtain rfl := hR
                    refine MV rfl rfl (NA (WA.take (i := 12) rfl (by kernel_rfl) (by kernel_rfl) (by kernel_rfl) (fun _ => Ex.move rfl) (Wn.some rfl rfl rfl) rfl rfl (fun _ _ => rfl) (WA.take (i := 13) rfl (by kernel_rfl) (by kernel_rfl) (by kernel_rfl) (fun _ => Ex.move rfl) (Wn.some rfl rfl rfl) rfl rfl (fun _ _ => rfl) (WA.take (i := 17) rfl (by kernel_rfl) (by kernel_rfl) (by kernel_rfl) (fun _ => Ex.move rfl) (Wn.some rfl rfl rfl) rfl rfl (fun _ _ => rfl) (WA.seq (fuel := 0) [14, 15, 16, 18, 19] rfl (by kernel_rfl) (WR.idxRowSC (l := l33) H Tryz.underlying56 Tryz.sizeOf58 (by repeat first | exact kMh | apply kMt) rfl rfl hxa235 (Wn.some rfl rfl rfl) rfl ?_))))))
                    intro g278 hg278
                    refine SG (Ex.fieldAddr Tryz.underlying58 rfl Tryz.sizeOf3 (by decide) rfl) rfl rfl rfl (SG (Ex.loadRowF (j := 2) H rfl hg278 (by repeat first | exact kMh | apply kMt) (fun _ => rfl) hxa235 rfl Tryz.isAgg3) rfl rfl rfl ?_)
                    refine SG (Ex.eql rfl rfl) rfl rfl rfl (PT rfl rfl rfl (NA (WA.done (by kernel_rfl) ?_)))
                    exact WQ.meetN [(2, _), (6, _), (7, _), (12, _), (15, _), (17, _), (18, _), (19, _), (20, _), (283, _)] ⟨rfl, rfl, rfl, rfl, rfl, rfl, rfl, rfl, rfl, rfl, trivial⟩ ⟨_, _, rfl, H, hs216, e229⟩
                  ·
                   refine WR.idxRowSC (l := l33) H Tryz.underlying56 Tryz.sizeOf58 (by repeat first | exact kMh | apply kMt) rfl rfl hxa232 (Wn.none rfl) rfl ?_
                   intro g271 hg271
                   refine NA (WA.take (i := 8) rfl (by kernel_rfl) (by kernel_rfl) (by kernel_rfl) (fun _ => Ex.fieldAddr Tryz.underlying58 rfl Tryz.sizeOf9 (by decide) rfl) (Wn.none rfl) rfl rfl (fun _ _ => rfl) ?_)
                   refine WA.two (i := 2) (j := 9) (by kernel_rfl) rfl rfl ?_ ?_
                   ·
                    refine WR.idxRowSC (l := l33) H Tryz.underlying56 Tryz.sizeOf58 (by repeat first | exact kMh | apply kMt) rfl rfl hxa231 (Wn.none rfl) rfl ?_
                    intro g266 hg266
                    refine NA (WA.take (i := 3) rfl (by kernel_rfl) (by kernel_rfl) (by kernel_rfl) (fun _ => Ex.fieldAddr Tryz.underlying58 rfl Tryz.sizeOf9 (by decide) rfl) (Wn.none rfl) rfl rfl (fun _ _ => rfl) (WA.takeM (i := 4) [9] rfl (by kernel_rfl) (by kernel_rfl) (by kernel_rfl) (Ex.loadRowF (j := 0) H rfl hg266 (by repeat first | exact kMh | apply kMt) (fun _ => rfl) hxa231 rfl Tryz.isAgg9) (Wn.none rfl) rfl rfl (fun _ _ => rfl) ?_))
                    refine WA.seq (fuel := 8) [9, 10, 11] rfl (by kernel_rfl) (ST (Ex.loadRowF (j := 0) H rfl hg271 (by repeat first | exact kMh | apply kMt) (fun _ => rfl) hxa232 rfl Tryz.isAgg9) rfl ?_)
                    refine WR.call H (R_Alike_ct hx234) rfl trivial (Wn.none rfl) rfl ?_
                    intro v274 M w H hle hR
                    replace hs216 := hs216.mono hle
                    obtain rfl := hR
                    refine MV rfl rfl (NA (WA.take (i := 12) rfl (by kernel_rfl) (by kernel_rfl) (by kernel_rfl) (fun _ => Ex.move rfl) (Wn.some rfl rfl rfl) rfl rfl (fun _ _ => rfl) (WA.take (i := 13) rfl (by kernel_rfl) (by kernel_rfl) (by kernel_rfl) (fun _ => Ex.move rfl) (Wn.some rfl rfl rfl) rfl rfl (fun _ _ => rfl) (WA.take (i := 17) rfl (by kernel_rfl) (by kernel_rfl) (by kernel_rfl) (fun _ => Ex.move rfl) (Wn.some rfl rfl rfl) rfl rfl (fun _ _ => rfl) (WA.seq (fuel := 0) [14, 15, 16, 18, 19] rfl (by kernel_rfl) (WR.idxRowSC (l := l33) H Tryz.underlying56 Tryz.sizeOf58 (by repeat first | exact kMh | apply kMt) rfl rfl hxa235 (Wn.some rfl rfl rfl) rfl ?_))))))
                    intro g278 hg278
                    refine SG (Ex.fieldAddr Tryz.underlying58 rfl Tryz.sizeOf3 (by decide) rfl) rfl rfl rfl (SG (Ex.loadRowF (j := 2) H rfl hg278 (by repeat first | exact kMh | apply kMt) (fun _ => rfl) hxa235 rfl Tryz.isAgg3) rfl rfl rfl ?_)
                    refine SG (Ex.eql rfl rfl) rfl rfl rfl (PT rfl rfl rfl (NA (WA.done (by kernel_rfl) ?_)))
                    exact WQ.meetN [(2, _), (6, _), (7, _), (12, _), (15, _), (17, _), (18, _), (19, _), (20, _), (283, _)] ⟨rfl, rfl, rfl, rfl, rfl, rfl, rfl, rfl, rfl, rfl, trivial⟩ ⟨_, _, rfl, H, hs216, e229⟩
                   ·
                    refine ST (Ex.loadRowF (j := 0) H rfl hg271 (by repeat first | exact kMh | apply kMt) (fun _ => rfl) hxa232 rfl Tryz.isAgg9) rfl ?_
                    refine NA (WA.seq (fuel := 8) [2, 3, 4, 10, 11] rfl (by kernel_rfl) (WR.idxRowSC (l := l33) H Tryz.underlying56 Tryz.sizeOf58 (by repeat first | exact kMh | apply kMt) rfl rfl hxa231 (Wn.none rfl) rfl ?_))
                    intro g266 hg266
                    refine ST (Ex.fieldAddr Tryz.underlying58 rfl Tryz.sizeOf9 (by decide) rfl) rfl (ST (Ex.loadRowF (j := 0) H rfl hg266 (by repeat first | exact kMh | apply kMt) (fun _ => rfl) hxa231 rfl Tryz.isAgg9) rfl ?_)
                    refine WR.call H (R_Alike_ct hx234) rfl trivial (Wn.none rfl) rfl ?_
                    intro v274 M w H hle hR
                    replace hs216 := hs216.mono hle
                    obtain rfl := hR
                    refine MV rfl rfl (NA (WA.take (i := 12) rfl (by kernel_rfl) (by kernel_rfl) (by kernel_rfl) (fun _ => Ex.move rfl) (Wn.some rfl rfl rfl) rfl rfl (fun _ _ => rfl) (WA.take (i := 13) rfl (by kernel_rfl) (by kernel_rfl) (by kernel_rfl) (fun _ => Ex.move rfl) (Wn.some rfl rfl rfl) rfl rfl (fun _ _ => rfl) (WA.take (i := 17) rfl (by kernel_rfl) (by kernel_rfl) (by kernel_rfl) (fun _ => Ex.move rfl) (Wn.some rfl rfl rfl) rfl rfl (fun _ _ => rfl) (WA.seq (fuel := 0) [14, 15, 16, 18, 19] rfl (by kernel_rfl) (WR.idxRowSC (l := l33) H Tryz.underlying56 Tryz.sizeOf58 (by repeat first | exact kMh | apply kMt) rfl rfl hxa235 (Wn.some rfl rfl rfl) rfl ?_))))))
                    intro g278 hg278
                    refine SG (Ex.fieldAddr Tryz.underlying58 rfl Tryz.sizeOf3 (by decide) rfl) rfl rfl rfl (SG (Ex.loadRowF (j := 2) H rfl hg278 (by repeat first | exact kMh | apply kMt) (fun _ => rfl) hxa235 rfl Tryz.isAgg3) rfl rfl rfl ?_)
                    refine SG (Ex.eql rfl rfl) rfl rfl rfl (PT rfl rfl rfl (NA (WA.done (by kernel_rfl) ?_)))
                    exact WQ.meetN [(2, _), (6, _), (7, _), (12, _), (15, _), (17, _), (18, _), (19, _), (20, _), (283, _)] ⟨rfl, rfl, rfl, rfl, rfl, rfl, rfl, rfl, rfl, rfl, trivial⟩ ⟨_, _, rfl, H, hs216, e229⟩
                ·
                 rintro e w ⟨b230, M, rfl, H, hs216, q236⟩
                 obtain rfl := oI q236
                 refine TN ?_
                 refine WC.condB rfl (fun hk237 => ?_) (fun hk237 => ?_)
                 ·
                  subst hk237
                  rw [if_pos rfl] at e222
                  refine RG (MV rfl rfl (AS rfl rfl (NL (IB (TN ?_)))))
                  obtain ⟨n238, hxn238, e222⟩ := bnd e222
                  refine RG (MV rfl rfl (ST (Ex.addC rfl rfl hxn238) rfl (AS rfl rfl (NL ?_))))
                  exact WQ.againP m226 [(2, _), (6, _), (7, _), (12, _), (15, _), (17, _), (18, _), (19, _), (20, _)] ⟨rfl, rfl, rfl, rfl, rfl, rfl, rfl, rfl, rfl, trivial⟩ ⟨_, _, _, rfl, H, hs216, e222⟩ (Nat.lt_succ_self _)
                 ·
                  subst hk237
                  rw [if_neg Bool.false_ne_true] at e222
                  refine SK (IB (TN ?_))
                  obtain ⟨n239, hxn239, e222⟩ := bnd e222
                  refine RG (MV rfl rfl (ST (Ex.addC rfl rfl hxn239) rfl (AS rfl rfl (NL ?_))))
                  exact WQ.againP m226 [(2, _), (6, _), (7, _), (12, _), (15, _), (17, _), (18, _), (19, _), (20, _)] ⟨rfl, rfl, rfl, rfl, rfl, rfl, rfl, rfl, rfl, trivial⟩ ⟨_, _, _, rfl, H, hs216, e222⟩ (Nat.lt_succ_self _)
               ·
                replace hk227 : ¬ (n225 < (l33.length : Int)) := of_decide_eq_false hk227
                rw [if_neg hk227] at e222
                refine WC.exit (WQ.thenExit (WQ.thenExit (WQ.exitHere ?_)))
                exact WQ.meetN [(2, _), (6, _), (7, _), (12, _), (15, _), (17, _), (18, _), (19, _)] ⟨rfl, rfl, rfl, rfl, rfl, rfl, rfl, rfl, trivial⟩ ⟨_, _, rfl, H, hs216, e222⟩
              ·
               rintro e w ⟨n223, M, rfl, H, hs216, q240⟩
               obtain rfl := oI q240
               refine TN (SQ (SQ (RG (MV rfl rfl (ST (Ex.lss rfl rfl) rfl (NL (TN ?_)))))))
               refine WC.condB rfl (fun hk241 => ?_) (fun hk241 => ?_)
               ·
                replace hk241 : n223 < (0 : Int) := of_decide_eq_true hk241
                rw [if_pos hk241] at e205
                refine SQ (RG (ST (Ex.build [S [], S [], Value.slice none 0 0] Tryz.underlying24 Tryz.zeroValue24 (xplaces24 Tryz.underlying24) rfl rfl) rfl (WR.store [_, _, _] H rfl rfl rfl (by repeat first | exact .head | apply Upd.tail) Tryz.sizeOf24 rfl (by rfl) (by rfl) (Wn.none rfl) ?_)))
                intro w H
                refine AS rfl rfl (NL (TN (RT ?_)))
                obtain rfl := oI e205
                try dsimp only at e136
                obtain rfl := oI e136
                try dsimp only at h
                obtain rfl := oI h
                exact WQ.ret2 rfl ⟨_, rfl, H.loadAgg (by repeat first | exact kMh | apply kMt) Tryz.isAgg24 Tryz.sizeOf24 (by rfl)⟩ rfl H.ext (⟨_, rfl, (SlS.nil _ _ (fun _ => rfl))⟩)
               ·
                replace hk241 : ¬ (n223 < (0 : Int)) := of_decide_eq_false hk241
                rw [if_neg hk241] at e205
                refine SK (TN (SQ ?_))
                obtain ⟨a242, hxa242, e205⟩ := bnd e205
                refine RG (MV rfl rfl (MV rfl rfl (WR.idxRowSC (l := l33) H Tryz.underlying56 Tryz.sizeOf58 (by repeat first | exact kMh | apply kMt) rfl rfl hxa242 (Wn.none rfl) rfl ?_)))
                intro g290 hg290
                refine ST (Ex.fieldAddr Tryz.underlying58 rfl Tryz.sizeOf9 (by decide) rfl) rfl (ST (Ex.loadRowF (j := 1) H rfl hg290 (by repeat first | exact kMh | apply kMt) (fun _ => rfl) hxa242 rfl Tryz.isAgg9) rfl ?_)
                refine AS rfl rfl (NL (TN (SQ (SQ ?_))))
                obtain ⟨a243, hxa243, e205⟩ := bnd e205
                refine RG (MV rfl rfl (MV rfl rfl (WR.idxRowSC (l := l33) H Tryz.underlying56 Tryz.sizeOf58 (by repeat first | exact kMh | apply kMt) rfl rfl hxa243 (Wn.none rfl) rfl ?_)))
                intro g295 hg295
                refine ST (Ex.fieldAddr Tryz.underlying58 rfl Tryz.sizeOf4 (by decide) rfl) rfl (ST (Ex.loadRowF (j := 3) H rfl hg295 (by repeat first | exact kMh | apply kMt) (fun _ => rfl) hxa243 rfl Tryz.isAgg4) rfl ?_)
                refine NL (TN ?_)
                obtain ⟨o244, e245, e205⟩ := bnd e205
                refine WC.cutX (fun e w => ∃ (s246 : List UInt8) (M : Mem), e = [(2, ptr bk2 0), (6, ptr bk6 0), (7, v34), (12, I n157), (15, I n180), (17, S s217), (18, I n218), (21, S s246)] ∧ St w0 M0 M [.blk bk2 (.cells #[S s212, S s213, v215] 24), .blk bk6 (.cells #[S s152, S s153, v156] 24), RowS 47 2 xenc47 v156 l155, RowS 58 4 xenc58 v34 l33] w ∧ SlS M 2 xenc47 v215 l214 ∧ some s246 = some o244) [] ?_ ?_ (trivial)
                ·
                 refine WC.condB rfl (fun hk247 => ?_) (fun hk247 => ?_)
                 ·
                  rw [if_pos hk247] at e245
                  refine SQ (SQ ?_)
                  obtain ⟨o248, e249, e245⟩ := bnd e245
                  refine WC.cutX (fun e w => ∃ (b250 : Bool) (M : Mem), e = [(2, ptr bk2 0), (6, ptr bk6 0), (7, v34), (12, I n157), (15, I n180), (17, S s217), (18, I n218), (21, S a242.2.1), (310, Value.bool b250)] ∧ St w0 M0 M [.blk bk2 (.cells #[S s212, S s213, v215] 24), .blk bk6 (.cells #[S s152, S s153, v156] 24), RowS 47 2 xenc47 v156 l155, RowS 58 4 xenc58 v34 l33] w ∧ SlS M 2 xenc47 v215 l214 ∧ some b250 = some o248) [] ?_ ?_ (trivial)
                  ·
                   by_cases hk251 : n218 = (0 : Int)
                   ·
                    rw [if_pos hk251] at e249
                    refine RG (MV rfl rfl (WR.stepE (v' := .bool true) (Ex.eql rfl rfl) (congrArg Value.bool (decide_eq_true hk251)) (Wn.none rfl) rfl rfl ?_))
                    by_cases hk252 : (6 : Int) ≤ (a242.2.1.length : Int)
                    ·
                     rw [if_pos hk252] at e249
                     obtain ⟨s253, hxs253, e249⟩ := bnd e249
                     obtain ⟨s254, hx255, e249⟩ := bnd e249
                     refine MV rfl rfl (SG (Ex.move rfl) rfl rfl rfl (SG (Ex.lenStr Tryz.underlying9 rfl) rfl rfl rfl (WR.stepE (v' := .bool true) (Ex.geq rfl rfl) (congrArg Value.bool (decide_eq_true hk252)) (Wn.some rfl rfl rfl) rfl rfl (PT rfl rfl rfl (MV rfl rfl (SG (Ex.move rfl) rfl rfl rfl (SG (Ex.sliceH Tryz.underlying9 rfl rfl hxs253) rfl rfl rfl (WR.call H (R_Lower_ct hx255) rfl trivial (Wn.some rfl rfl rfl) rfl ?_))))))))
                     intro v308 M w H hle hR
                     replace hs216 := hs216.mono hle
                     obtain rfl := hR
                     refine SG (Ex.strEql rfl rfl) rfl rfl rfl (PT rfl rfl rfl (NL ?_))
                     exact WQ.meetN [(2, _), (6, _), (7, _), (12, _), (15, _), (17, _), (18, _), (21, _), (310, _)] ⟨rfl, rfl, rfl, rfl, rfl, rfl, rfl, rfl, rfl, trivial⟩ ⟨_, _, rfl, H, hs216, e249⟩
                    ·
                     rw [if_neg hk252] at e249
                     refine MV rfl rfl (SG (Ex.move rfl) rfl rfl rfl (SG (Ex.lenStr Tryz.underlying9 rfl) rfl rfl rfl (WR.stepE (v' := .bool false) (Ex.geq rfl rfl) (congrArg Value.bool (decide_eq_false hk252)) (Wn.some rfl rfl rfl) rfl rfl (PT rfl rfl rfl (MV rfl rfl (WR.skipN 4 rfl rfl (PF rfl rfl rfl (NL ?_))))))))
                     exact WQ.meetN [(2, _), (6, _), (7, _), (12, _), (15, _), (17, _), (18, _), (21, _), (310, _)] ⟨rfl, rfl, rfl, rfl, rfl, rfl, rfl, rfl, rfl, trivial⟩ ⟨_, _, rfl, H, hs216, e249⟩
                   ·
                    rw [if_neg hk251] at e249
                    refine RG (MV rfl rfl (WR.stepE (v' := .bool false) (Ex.eql rfl rfl) (congrArg Value.bool (decide_eq_false hk251)) (Wn.none rfl) rfl rfl (MV rfl rfl (WR.skipN 3 rfl rfl (PF rfl rfl rfl (MV rfl rfl (WR.skipN 4 rfl rfl (PF rfl rfl rfl (NL ?_)))))))))
                    exact WQ.meetN [(2, _), (6, _), (7, _), (12, _), (15, _), (17, _), (18, _), (21, _), (310, _)] ⟨rfl, rfl, rfl, rfl, rfl, rfl, rfl, rfl, rfl, trivial⟩ ⟨_, _, rfl, H, hs216, e249⟩
                  ·
                   rintro e w ⟨b250, M, rfl, H, hs216, q256⟩
                   obtain rfl := oI q256
                   refine TN ?_
                   obtain ⟨o257, e258, e245⟩ := bnd e245
                   refine WC.cutX (fun e w => ∃ (s259 : List UInt8) (M : Mem), e = [(2, ptr bk2 0), (6, ptr bk6 0), (7, v34), (12, I n157), (15, I n180), (17, S s217), (18, I n218), (21, S s259)] ∧ St w0 M0 M [.blk bk2 (.cells #[S s212, S s213, v215] 24), .blk bk6 (.cells #[S s152, S s153, v156] 24), RowS 47 2 xenc47 v156 l155, RowS 58 4 xenc58 v34 l33] w ∧ SlS M 2 xenc47 v215 l214 ∧ some s259 = some o257) [] ?_ ?_ (trivial)
                   ·
                    refine WC.condB rfl (fun hk260 => ?_) (fun hk260 => ?_)
                    ·
                     subst hk260
                     rw [if_pos rfl] at e258
                     obtain ⟨s261, hxs261, e258⟩ := bnd e258
                     refine RG (MV rfl rfl (ST (Ex.sliceL Tryz.underlying9 rfl rfl hxs261) rfl (AS rfl rfl (NL ?_))))
                     exact WQ.meetN [(2, _), (6, _), (7, _), (12, _), (15, _), (17, _), (18, _), (21, _)] ⟨rfl, rfl, rfl, rfl, rfl, rfl, rfl, rfl, trivial⟩ ⟨_, _, rfl, H, hs216, e258⟩
                    ·
                     subst hk260
                     rw [if_neg Bool.false_ne_true] at e258
                     refine SK ?_
                     exact WQ.meetN [(2, _), (6, _), (7, _), (12, _), (15, _), (17, _), (18, _), (21, _)] ⟨rfl, rfl, rfl, rfl, rfl, rfl, rfl, rfl, trivial⟩ ⟨_, _, rfl, H, hs216, e258⟩
                   ·
                    rintro e w ⟨s259, M, rfl, H, hs216, q262⟩
                    obtain rfl := oI q262
                    refine TN ?_
                    obtain ⟨s263, hx264, e245⟩ := bnd e245
                    refine RG (MV rfl rfl (WR.call H (R_unpercent_ct hx264) rfl trivial (Wn.none rfl) rfl ?_))
                    intro v314 M w H hle hR
                    replace hs216 := hs216.mono hle
                    obtain rfl := hR
                    refine AS rfl rfl (NL ?_)
                    exact WQ.meetN [(2, _), (6, _), (7, _), (12, _), (15, _), (17, _), (18, _), (21, _)] ⟨rfl, rfl, rfl, rfl, rfl, rfl, rfl, rfl, trivial⟩ ⟨_, _, rfl, H, hs216, e245⟩
                 ·
                  rw [if_neg (by rw [hk247]; exact Bool.false_ne_true)] at e245
                  refine SK ?_
                  exact WQ.meetN [(2, _), (6, _), (7, _), (12, _), (15, _), (17, _), (18, _), (21, _)] ⟨rfl, rfl, rfl, rfl, rfl, rfl, rfl, rfl, trivial⟩ ⟨_, _, rfl, H, hs216, e245⟩
                ·
                 rintro e w ⟨s246, M, rfl, H, hs216, q265⟩
                 obtain rfl := oI q265
                 refine TN ?_
                 obtain ⟨s266, hxs266, e205⟩ := bnd e205
                 refine RG (MV rfl rfl (MV rfl rfl (ST (Ex.strAddC rfl rfl hxs266) rfl (AS rfl rfl (NL (IB (TN ?_)))))))
                 obtain ⟨n267, hxn267, e205⟩ := bnd e205
                 refine RG (MV rfl rfl (ST (Ex.addC rfl rfl hxn267) rfl (AS rfl rfl (NL ?_))))
                 exact WQ.againP m219 [(2, _), (6, _), (7, _), (12, _), (15, _), (17, _), (18, _)] ⟨rfl, rfl, rfl, rfl, rfl, rfl, rfl, trivial⟩ ⟨_, _, _, _, _, _, _, rfl, H, hs216, e205⟩ (Nat.lt_succ_self _)
             ·
              replace hk220 : ¬ (n218 < n180) := of_decide_eq_false hk220
              rw [if_neg hk220] at e205
              refine WC.exit (WQ.thenExit (WQ.thenExit (WQ.exitHere ?_)))
              exact WQ.meetN [(2, _), (6, _), (7, _), (12, _), (17, _)] ⟨rfl, rfl, rfl, rfl, rfl, trivial⟩ ⟨_, _, _, _, _, _, rfl, H, hs216, e205⟩
            ·
             rintro e w ⟨s206, s207, l208, v209, s211, M, rfl, H, hs210, q268⟩
             obtain rfl := oI q268
             try dsimp only at e136
             refine TN ?_
             obtain ⟨a269, hxa269, e136⟩ := bnd e136
             obtain ⟨s270, hx271, e136⟩ := bnd e136
             obtain ⟨l272, hxl272, e136⟩ := bnd e136
             refine WC.cutP (fun e w => ∃ (v273 : Value) (M : Mem), e = [(2, ptr bk2 0), (6, ptr bk6 0), (7, v34), (12, I n157)] ∧ St w0 M0 M [.blk bk2 (.cells #[S s206, S s207, v209] 24), .blk bk6 (.cells #[S s152, S s153, v273] 24), RowS 47 2 xenc47 v273 l272, RowS 58 4 xenc58 v34 l33] w ∧ SlS M 2 xenc47 v209 l208) ?_ ?_
             ·
              refine WC.draw (m := 14) rfl rfl H ?_
              intro w H
              refine WA.take (i := 0) rfl (by kernel_rfl) (by kernel_rfl) (by kernel_rfl) (fun _ => Ex.fieldAddr Tryz.underlying24 rfl Tryz.sizeOf22 (by decide) rfl) (Wn.none rfl) rfl rfl (fun _ _ => rfl) (WA.take (i := 2) rfl (by kernel_rfl) (by kernel_rfl) (by kernel_rfl) (fun _ => Ex.move rfl) (Wn.none rfl) rfl rfl (fun _ _ => rfl) (WA.take (i := 3) rfl (by kernel_rfl) (by kernel_rfl) (by kernel_rfl) (fun _ => Ex.move rfl) (Wn.none rfl) rfl rfl (fun _ _ => rfl) (WA.take (i := 7) rfl (by kernel_rfl) (by kernel_rfl) (by kernel_rfl) (fun _ => Ex.move rfl) (Wn.none rfl) rfl rfl (fun _ _ => rfl) ?_)))
              refine WA.three (i := 1) (j := 4) (k := 8) (by kernel_rfl) rfl rfl rfl ?_ ?_ ?_
              ·
               refine ST (Ex.load1 H rfl (by repeat first | exact kMh | apply kMt) Tryz.isAgg22 (by rfl)) rfl ?_
               refine NA ?_
               refine WA.two (i := 4) (j := 8) (by kernel_rfl) rfl rfl ?_ ?_
               ·
                refine WR.idxRowSC (l := l33) H Tryz.underlying56 Tryz.sizeOf58 (by repeat first | exact kMh | apply kMt) rfl rfl hxa269 (Wn.none rfl) rfl ?_
                intro g322 hg322
                refine NA (WA.take (i := 5) rfl (by kernel_rfl) (by kernel_rfl) (by kernel_rfl) (fun _ => Ex.fieldAddr Tryz.underlying58 rfl Tryz.sizeOf9 (by decide) rfl) (Wn.none rfl) rfl rfl (fun _ _ => rfl) ?_)
                refine WA.two (i := 6) (j := 8) (by kernel_rfl) rfl rfl ?_ ?_
                ·
                 refine ST (Ex.loadRowF (j := 0) H rfl hg322 (by repeat first | exact kMh | apply kMt) (fun _ => rfl) hxa269 rfl Tryz.isAgg9) rfl ?_
                 refine NA (WA.seq (fuel := 0) [8, 9, 10, 11, 12, 13] rfl (by kernel_rfl) (WR.call H (R_repaired_ct hx271) rfl trivial (Wn.none rfl) rfl ?_))
                 intro v326 M w H hle hR
                 replace hs210 := hs210.mono hle
                 obtain rfl := hR
                 refine ST (Ex.build [S a269.1, S s270] Tryz.underlying47 Tryz.zeroValue47 (xplaces47 Tryz.underlying47) rfl rfl) rfl (WR.litS (enc := xenc47) xty22 ([(a269.1, s270)] : List (List UInt8 × List UInt8)) H (fun _ => rfl) rfl (by kernel_rfl) rfl rfl rfl (Wn.none rfl) rfl ?_)
                 intro v328 M w H hle hs328
                 replace hs210 := hs210.mono hle
                 refine WR.appSC (l := l155) xty22 rfl xone47 H rfl (fun _ => by repeat first | exact .head | apply Upd.tail) rfl (hs328) hxl272 (Wn.none rfl) rfl ?_
                 intro v329 w H
                 refine ST (Ex.fieldAddr Tryz.underlying24 rfl Tryz.sizeOf22 (by decide) rfl) rfl (WR.putV [_, _, _] H rfl rfl (H.rowOneS (by repeat first | exact kMh | apply kMt)) (by repeat first | exact .head | apply Upd.tail) (by rfl) Tryz.sizeOf22 (by first | decide | (simp; done) | (simp; omega)) (Wn.none rfl) ?_)
                 intro w H
                 refine NA (WA.done (by kernel_rfl) ?_)
                 exact WQ.meetP [(2, _), (6, _), (7, _), (12, _)] ⟨rfl, rfl, rfl, rfl, trivial⟩ ⟨_, _, rfl, H, hs210⟩
                ·
                 refine WR.call H (R_repaired_ct hx271) rfl trivial (Wn.none rfl) rfl ?_
                 intro v326 M w H hle hR
                 replace hs210 := hs210.mono hle
                 obtain rfl := hR
                 refine NA (WA.seq (fuel := 0) [6, 9, 10, 11, 12, 13] rfl (by kernel_rfl) (ST (Ex.loadRowF (j := 0) H rfl hg322 (by repeat first | exact kMh | apply kMt) (fun _ => rfl) hxa269 rfl Tryz.isAgg9) rfl ?_))
                 refine ST (Ex.build [S a269.1, S s270] Tryz.underlying47 Tryz.zeroValue47 (xplaces47 Tryz.underlying47) rfl rfl) rfl (WR.litS (enc := xenc47) xty22 ([(a269.1, s270)] : List (List UInt8 × List UInt8)) H (fun _ => rfl) rfl (by kernel_rfl) rfl rfl rfl (Wn.none rfl) rfl ?_)
                 intro v328 M w H hle hs328
                 replace hs210 := hs210.mono hle
                 refine WR.appSC (l := l155) xty22 rfl xone47 H rfl (fun _ => by repeat first | exact .head | apply Upd.tail) rfl (hs328) hxl272 (Wn.none rfl) rfl ?_
                 intro v329 w H
                 refine ST (Ex.fieldAddr Tryz.underlying24 rfl Tryz.sizeOf22 (by decide) rfl) rfl (WR.putV [_, _, _] H rfl rfl (H.rowOneS (by repeat first | exact kMh | apply kMt)) (by repeat first | exact .head | apply Upd.tail) (by rfl) Tryz.sizeOf22 (by first | decide | (simp; done) | (simp; omega)) (Wn.none rfl) ?_)
                 intro w H
                 refine NA (WA.done (by kernel_rfl) ?_)
                 exact WQ.meetP [(2, _), (6, _), (7, _), (12, _)] ⟨rfl, rfl, rfl, rfl, trivial⟩ ⟨_, _, rfl, H, hs210⟩
               ·
                refine WR.call H (R_repaired_ct hx271) rfl trivial (Wn.none rfl) rfl ?_
                intro v326 M w H hle hR
                replace hs210 := hs210.mono hle
                obtain rfl := hR
                refine NA (WA.seq (fuel := 0) [4, 5, 6, 9, 10, 11, 12, 13] rfl (by kernel_rfl) (WR.idxRowSC (l := l33) H Tryz.underlying56 Tryz.sizeOf58 (by repeat first | exact kMh | apply kMt) rfl rfl hxa269 (Wn.none rfl) rfl ?_))
                intro g322 hg322
                refine ST (Ex.fieldAddr Tryz.underlying58 rfl Tryz.sizeOf9 (by decide) rfl) rfl (ST (Ex.loadRowF (j := 0) H rfl hg322 (by repeat first | exact kMh | apply kMt) (fun _ => rfl) hxa269 rfl Tryz.isAgg9) rfl ?_)
                refine ST (Ex.build [S a269.1, S s270] Tryz.underlying47 Tryz.zeroValue47 (xplaces47 Tryz.underlying47) rfl rfl) rfl (WR.litS (enc := xenc47) xty22 ([(a269.1, s270)] : List (List UInt8 × List UInt8)) H (fun _ => rfl) rfl (by kernel_rfl) rfl rfl rfl (Wn.none rfl) rfl ?_)
                intro v328 M w H hle hs328
                replace hs210 := hs210.mono hle
                refine WR.appSC (l := l155) xty22 rfl xone47 H rfl (fun _ => by repeat first | exact .head | apply Upd.tail) rfl (hs328) hxl272 (Wn.none rfl) rfl ?_
                intro v329 w H
                refine ST (Ex.fieldAddr Tryz.underlying24 rfl Tryz.sizeOf22 (by decide) rfl) rfl (WR.putV [_, _, _] H rfl rfl (H.rowOneS (by repeat first | exact kMh | apply kMt)) (by repeat first | exact .head | apply Upd.tail) (by rfl) Tryz.sizeOf22 (by first | decide | (simp; done) | (simp; omega)) (Wn.none rfl) ?_)
                intro w H
                refine NA (WA.done (by kernel_rfl) ?_)
                exact WQ.meetP [(2, _), (6, _), (7, _), (12, _)] ⟨rfl, rfl, rfl, rfl, trivial⟩ ⟨_, _, rfl, H, hs210⟩
              ·
               refine WR.idxRowSC (l := l33) H Tryz.underlying56 Tryz.sizeOf58 (by repeat first | exact kMh | apply kMt) rfl rfl hxa269 (Wn.none rfl) rfl ?_
               intro g322 hg322
               refine NA (WA.take (i := 5) rfl (by kernel_rfl) (by kernel_rfl) (by kernel_rfl) (fun _ => Ex.fieldAddr Tryz.underlying58 rfl Tryz.sizeOf9 (by decide) rfl) (Wn.none rfl) rfl rfl (fun _ _ => rfl) ?_)
               refine WA.three (i := 1) (j := 6) (k := 8) (by kernel_rfl) rfl rfl rfl ?_ ?_ ?_
               ·
                refine ST (Ex.load1 H rfl (by repeat first | exact kMh | apply kMt) Tryz.isAgg22 (by rfl)) rfl ?_
                refine NA ?_
                refine WA.two (i := 6) (j := 8) (by kernel_rfl) rfl rfl ?_ ?_
                ·
                 refine ST (Ex.loadRowF (j := 0) H rfl hg322 (by repeat first | exact kMh | apply kMt) (fun _ => rfl) hxa269 rfl Tryz.isAgg9) rfl ?_
                 refine NA (WA.seq (fuel := 0) [8, 9, 10, 11, 12, 13] rfl (by kernel_rfl) (WR.call H (R_repaired_ct hx271) rfl trivial (Wn.none rfl) rfl ?_))
                 intro v326 M w H hle hR
                 replace hs210 := hs210.mono hle
                 obtain rfl := hR
                 refine ST (Ex.build [S a269.1, S s270] Tryz.underlying47 Tryz.zeroValue47 (xplaces47 Tryz.underlying47) rfl rfl) rfl (WR.litS (enc := xenc47) xty22 ([(a269.1, s270)] : List (List UInt8 × List UInt8)) H (fun _ => rfl) rfl (by kernel_rfl) rfl rfl rfl (Wn.none rfl) rfl ?_)
                 intro v328 M w H hle hs328
                 replace hs210 := hs210.mono hle
                 refine WR.appSC (l := l155) xty22 rfl xone47 H rfl (fun _ => by repeat first | exact .head | apply Upd.tail) rfl (hs328) hxl272 (Wn.none rfl) rfl ?_
                 intro v329 w H
                 refine ST (Ex.fieldAddr Tryz.underlying24 rfl Tryz.sizeOf22 (by decide) rfl) rfl (WR.putV [_, _, _] H rfl rfl (H.rowOneS (by repeat first | exact kMh | apply kMt)) (by repeat first | exact .head | apply Upd.tail) (by rfl) Tryz.sizeOf22 (by first | decide | (simp; done) | (simp; omega)) (Wn.none rfl) ?_)
                 intro w H
                 refine NA (WA.done (by kernel_rfl) ?_)
                 exact WQ.meetP [(2, _), (6, _), (7, _), (12, _)] ⟨rfl, rfl, rfl, rfl, trivial⟩ ⟨_, _, rfl, H, hs210⟩
                ·
                 refine WR.call H (R_repaired_ct hx271) rfl trivial (Wn.none rfl) rfl ?_
                 intro v326 M w H hle hR
                 replace hs210 := hs210.mono hle
                 obtain rfl := hR
                 refine NA (WA.seq (fuel := 0) [6, 9, 10, 11, 12, 13] rfl (by kernel_rfl) (ST (Ex.loadRowF (j := 0) H rfl hg322 (by repeat first | exact kMh | apply kMt) (fun _ => rfl) hxa269 rfl Tryz.isAgg9) rfl ?_))
                 refine ST (Ex.build [S a269.1, S s270] Tryz.underlying47 Tryz.zeroValue47 (xplaces47 Tryz.underlying47) rfl rfl) rfl (WR.litS (enc := xenc47) xty22 ([(a269.1, s270)] : List (List UInt8 × List UInt8)) H (fun _ => rfl) rfl (by kernel_rfl) rfl rfl rfl (Wn.none rfl) rfl ?_)
                 intro v328 M w H hle hs328
                 replace hs210 := hs210.mono hle
                 refine WR.appSC (l := l155) xty22 rfl xone47 H rfl (fun _ => by repeat first | exact .head | apply Upd.tail) rfl (hs328) hxl272 (Wn.none rfl) rfl ?_
                 intro v329 w H
                 refine ST (Ex.fieldAddr Tryz.underlying24 rfl Tryz.sizeOf22 (by decide) rfl) rfl (WR.putV [_, _, _] H rfl rfl (H.rowOneS (by repeat first | exact kMh | apply kMt)) (by repeat first | exact .head | apply Upd.tail) (by rfl) Tryz.sizeOf22 (by first | decide | (simp; done) | (simp; omega)) (Wn.none rfl) ?_)
                 intro w H
                 refine NA (WA.done (by kernel_rfl) ?_)
                 exact WQ.meetP [(2, _), (6, _), (7, _), (12, _)] ⟨rfl, rfl, rfl, rfl, trivial⟩ ⟨_, _, rfl, H, hs210⟩
               ·
                refine ST (Ex.loadRowF (j := 0) H rfl hg322 (by repeat first | exact kMh | apply kMt) (fun _ => rfl) hxa269 rfl Tryz.isAgg9) rfl ?_
                refine NA ?_
                refine WA.two (i := 1) (j := 8) (by kernel_rfl) rfl rfl ?_ ?_
                ·
                 refine ST (Ex.load1 H rfl (by repeat first | exact kMh | apply kMt) Tryz.isAgg22 (by rfl)) rfl ?_
                 refine NA (WA.seq (fuel := 0) [8, 9, 10, 11, 12, 13] rfl (by kernel_rfl) (WR.call H (R_repaired_ct hx271) rfl trivial (Wn.none rfl) rfl ?_))
                 intro v326 M w H hle hR
                 replace hs210 := hs210.mono hle
                 obtain rfl := hR
                 refine ST (Ex.build [S a269.1, S s270] Tryz.underlying47 Tryz.zeroValue47 (xplaces47 Tryz.underlying47) rfl rfl) rfl (WR.litS (enc := xenc47) xty22 ([(a269.1, s270)] : List (List UInt8 × List UInt8)) H (fun _ => rfl) rfl (by kernel_rfl) rfl rfl rfl (Wn.none rfl) rfl ?_)
                 intro v328 M w H hle hs328
                 replace hs210 := hs210.mono hle
                 refine WR.appSC (l := l155) xty22 rfl xone47 H rfl (fun _ => by repeat first | exact .head | apply Upd.tail) rfl (hs328) hxl272 (Wn.none rfl) rfl ?_
                 intro v329 w H
                 refine ST (Ex.fieldAddr Tryz.underlying24 rfl Tryz.sizeOf22 (by decide) rfl) rfl (WR.putV [_, _, _] H rfl rfl (H.rowOneS (by repeat first | exact kMh | apply kMt)) (by repeat first | exact .head | apply Upd.tail) (by rfl) Tryz.sizeOf22 (by first | decide | (simp; done) | (simp; omega)) (Wn.none rfl) ?_)
                 intro w H
                 refine NA (WA.done (by kernel_rfl) ?_)
                 exact WQ.meetP [(2, _), (6, _), (7, _), (12, _)] ⟨rfl, rfl, rfl, rfl, trivial⟩ ⟨_, _, rfl, H, hs210⟩
                ·
                 refine WR.call H (R_repaired_ct hx271) rfl trivial (Wn.none rfl) rfl ?_
                 intro v326 M w H hle hR
                 replace hs210 := hs210.mono hle
                 obtain rfl := hR
                 refine NA (WA.take (i := 9) rfl (by kernel_rfl) (by kernel_rfl) (by kernel_rfl) (fun _ => Ex.build [S a269.1, S s270] Tryz.underlying47 Tryz.zeroValue47 (xplaces47 Tryz.underlying47) rfl rfl) (Wn.none rfl) rfl rfl (fun _ _ => rfl) ?_)
                 refine WA.two (i := 1) (j := 10) (by kernel_rfl) rfl rfl ?_ ?_
                 ·
                  refine ST (Ex.load1 H rfl (by repeat first | exact kMh | apply kMt) Tryz.isAgg22 (by rfl)) rfl ?_
                  refine NA (WA.seq (fuel := 0) [10, 11, 12, 13] rfl (by kernel_rfl) (WR.litS (enc := xenc47) xty22 ([(a269.1, s270)] : List (List UInt8 × List UInt8)) H (fun _ => rfl) rfl (by kernel_rfl) rfl rfl rfl (Wn.none rfl) rfl ?_))
                  intro v328 M w H hle hs328
                  replace hs210 := hs210.mono hle
                  refine WR.appSC (l := l155) xty22 rfl xone47 H rfl (fun _ => by repeat first | exact .head | apply Upd.tail) rfl (hs328) hxl272 (Wn.none rfl) rfl ?_
                  intro v329 w H
                  refine ST (Ex.fieldAddr Tryz.underlying24 rfl Tryz.sizeOf22 (by decide) rfl) rfl (WR.putV [_, _, _] H rfl rfl (H.rowOneS (by repeat first | exact kMh | apply kMt)) (by repeat first | exact .head | apply Upd.tail) (by rfl) Tryz.sizeOf22 (by first | decide | (simp; done) | (simp; omega)) (Wn.none rfl) ?_)
                  intro w H
                  refine NA (WA.done (by kernel_rfl) ?_)
                  exact WQ.meetP [(2, _), (6, _), (7, _), (12, _)] ⟨rfl, rfl, rfl, rfl, trivial⟩ ⟨_, _, rfl, H, hs210⟩
                 ·
                  refine WR.litS (enc := xenc47) xty22 ([(a269.1, s270)] : List (List UInt8 × List UInt8)) H (fun _ => rfl) rfl (by kernel_rfl) rfl rfl rfl (Wn.none rfl) rfl ?_
                  intro v328 M w H hle hs328
                  replace hs210 := hs210.mono hle
                  refine NA (WA.seq (fuel := 0) [1, 11, 12, 13] rfl (by kernel_rfl) (ST (Ex.load1 H rfl (by repeat first | exact kMh | apply kMt) Tryz.isAgg22 (by rfl)) rfl ?_))
                  refine WR.appSC (l := l155) xty22 rfl xone47 H rfl (fun _ => by repeat first | exact .head | apply Upd.tail) rfl (hs328) hxl272 (Wn.none rfl) rfl ?_
                  intro v329 w H
                  refine ST (Ex.fieldAddr Tryz.underlying24 rfl Tryz.sizeOf22 (by decide) rfl) rfl (WR.putV [_, _, _] H rfl rfl (H.rowOneS (by repeat first | exact kMh | apply kMt)) (by repeat first | exact .head | apply Upd.tail) (by rfl) Tryz.sizeOf22 (by first | decide | (simp; done) | (simp; omega)) (Wn.none rfl) ?_)
                  intro w H
                  refine NA (WA.done (by kernel_rfl) ?_)
                  exact WQ.meetP [(2, _), (6, _), (7, _), (12, _)] ⟨rfl, rfl, rfl, rfl, trivial⟩ ⟨_, _, rfl, H, hs210⟩
               ·
                refine WR.call H (R_repaired_ct hx271) rfl trivial (Wn.none rfl) rfl ?_
                intro v326 M w H hle hR
                replace hs210 := hs210.mono hle
                obtain rfl := hR
                refine NA (WA.takeM (i := 6) [1] rfl (by kernel_rfl) (by kernel_rfl) (by kernel_rfl) (Ex.loadRowF (j := 0) H rfl hg322 (by repeat first | exact kMh | apply kMt) (fun _ => rfl) hxa269 rfl Tryz.isAgg9) (Wn.none rfl) rfl rfl (fun _ _ => rfl) ?_)
                refine WA.take (i := 9) rfl (by kernel_rfl) (by kernel_rfl) (by kernel_rfl) (fun _ => Ex.build [S a269.1, S s270] Tryz.underlying47 Tryz.zeroValue47 (xplaces47 Tryz.underlying47) rfl rfl) (Wn.none rfl) rfl rfl (fun _ _ => rfl) ?_
                refine WA.two (i := 1) (j := 10) (by kernel_rfl) rfl rfl ?_ ?_
                ·
                 refine ST (Ex.load1 H rfl (by repeat first | exact kMh | apply kMt) Tryz.isAgg22 (by rfl)) rfl ?_
                 refine NA (WA.seq (fuel := 0) [10, 11, 12, 13] rfl (by kernel_rfl) (WR.litS (enc := xenc47) xty22 ([(a269.1, s270)] : List (List UInt8 × List UInt8)) H (fun _ => rfl) rfl (by kernel_rfl) rfl rfl rfl (Wn.none rfl) rfl ?_))
                 intro v328 M w H hle hs328
                 replace hs210 := hs210.mono hle
                 refine WR.appSC (l := l155) xty22 rfl xone47 H rfl (fun _ => by repeat first | exact .head | apply Upd.tail) rfl (hs328) hxl272 (Wn.none rfl) rfl ?_
                 intro v329 w H
                 refine ST (Ex.fieldAddr Tryz.underlying24 rfl Tryz.sizeOf22 (by decide) rfl) rfl (WR.putV [_, _, _] H rfl rfl (H.rowOneS (by repeat first | exact kMh | apply kMt)) (by repeat first | exact .head | apply Upd.tail) (by rfl) Tryz.sizeOf22 (by first | decide | (simp; done) | (simp; omega)) (Wn.none rfl) ?_)
                 intro w H
                 refine NA (WA.done (by kernel_rfl) ?_)
                 exact WQ.meetP [(2, _), (6, _), (7, _), (12, _)] ⟨rfl, rfl, rfl, rfl, trivial⟩ ⟨_, _, rfl, H, hs210⟩
                ·
                 refine WR.litS (enc := xenc47) xty22 ([(a269.1, s270)] : List (List UInt8 × List UInt8)) H (fun _ => rfl) rfl (by kernel_rfl) rfl rfl rfl (Wn.none rfl) rfl ?_
                 intro v328 M w H hle hs328
                 replace hs210 := hs210.mono hle
                 refine NA (WA.seq (fuel := 0) [1, 11, 12, 13] rfl (by kernel_rfl) (ST (Ex.load1 H rfl (by repeat first | exact kMh | apply kMt) Tryz.isAgg22 (by rfl)) rfl ?_))
                 refine WR.appSC (l := l155) xty22 rfl xone47 H rfl (fun _ => by repeat first | exact .head | apply Upd.tail) rfl (hs328) hxl272 (Wn.none rfl) rfl ?_
                 intro v329 w H
                 refine ST (Ex.fieldAddr Tryz.underlying24 rfl Tryz.sizeOf22 (by decide) rfl) rfl (WR.putV [_, _, _] H rfl rfl (H.rowOneS (by repeat first | exact kMh | apply kMt)) (by repeat first | exact .head | apply Upd.tail) (by rfl) Tryz.sizeOf22 (by first | decide | (simp; done) | (simp; omega)) (Wn.none rfl) ?_)
                 intro w H
                 refine NA (WA.done (by kernel_rfl) ?_)
                 exact WQ.meetP [(2, _), (6, _), (7, _), (12, _)] ⟨rfl, rfl, rfl, rfl, trivial⟩ ⟨_, _, rfl, H, hs210⟩
              ·
               refine WR.call H (R_repaired_ct hx271) rfl trivial (Wn.none rfl) rfl ?_
               intro v326 M w H hle hR
               replace hs210 := hs210.mono hle
               obtain rfl := hR
               refine NA ?_
               refine WA.two (i := 1) (j := 4) (by kernel_rfl) rfl rfl ?_ ?_
               ·
                refine ST (Ex.load1 H rfl (by repeat first | exact kMh | apply kMt) Tryz.isAgg22 (by rfl)) rfl ?_
                refine NA (WA.seq (fuel := 0) [4, 5, 6, 9, 10, 11, 12, 13] rfl (by kernel_rfl) (WR.idxRowSC (l := l33) H Tryz.underlying56 Tryz.sizeOf58 (by repeat first | exact kMh | apply kMt) rfl rfl hxa269 (Wn.none rfl) rfl ?_))
                intro g322 hg322
                refine ST (Ex.fieldAddr Tryz.underlying58 rfl Tryz.sizeOf9 (by decide) rfl) rfl (ST (Ex.loadRowF (j := 0) H rfl hg322 (by repeat first | exact kMh | apply kMt) (fun _ => rfl) hxa269 rfl Tryz.isAgg9) rfl ?_)
                refine ST (Ex.build [S a269.1, S s270] Tryz.underlying47 Tryz.zeroValue47 (xplaces47 Tryz.underlying47) rfl rfl) rfl (WR.litS (enc := xenc47) xty22 ([(a269.1, s270)] : List (List UInt8 × List UInt8)) H (fun _ => rfl) rfl (by kernel_rfl) rfl rfl rfl (Wn.none rfl) rfl ?_)
                intro v328 M w H hle hs328
                replace hs210 := hs210.mono hle
                refine WR.appSC (l := l155) xty22 rfl xone47 H rfl (fun _ => by repeat first | exact .head | apply Upd.tail) rfl (hs328) hxl272 (Wn.none rfl) rfl ?_
                intro v329 w H
                refine ST (Ex.fieldAddr Tryz.underlying24 rfl Tryz.sizeOf22 (by decide) rfl) rfl (WR.putV [_, _, _] H rfl rfl (H.rowOneS (by repeat first | exact kMh | apply kMt)) (by repeat first | exact .head | apply Upd.tail) (by rfl) Tryz.sizeOf22 (by first | decide | (simp; done) | (simp; omega)) (Wn.none rfl) ?_)
                intro w H
                refine NA (WA.done (by kernel_rfl) ?_)
                exact WQ.meetP [(2, _), (6, _), (7, _), (12, _)] ⟨rfl, rfl, rfl, rfl, trivial⟩ ⟨_, _, rfl, H, hs210⟩
               ·
                refine WR.idxRowSC (l := l33) H Tryz.underlying56 Tryz.sizeOf58 (by repeat first | exact kMh | apply kMt) rfl rfl hxa269 (Wn.none rfl) rfl ?_
                intro g322 hg322
                refine NA (WA.take (i := 5) rfl (by kernel_rfl) (by kernel_rfl) (by kernel_rfl) (fun _ => Ex.fieldAddr Tryz.underlying58 rfl Tryz.sizeOf9 (by decide) rfl) (Wn.none rfl) rfl rfl (fun _ _ => rfl) (WA.takeM (i := 6) [1] rfl (by kernel_rfl) (by kernel_rfl) (by kernel_rfl) (Ex.loadRowF (j := 0) H rfl hg322 (by repeat first | exact kMh | apply kMt) (fun _ => rfl) hxa269 rfl Tryz.isAgg9) (Wn.none rfl) rfl rfl (fun _ _ => rfl) ?_))
                refine WA.take (i := 9) rfl (by kernel_rfl) (by kernel_rfl) (by kernel_rfl) (fun _ => Ex.build [S a269.1, S s270] Tryz.underlying47 Tryz.zeroValue47 (xplaces47 Tryz.underlying47) rfl rfl) (Wn.none rfl) rfl rfl (fun _ _ => rfl) ?_
                refine WA.two (i := 1) (j := 10) (by kernel_rfl) rfl rfl ?_ ?_
                ·
                 refine ST (Ex.load1 H rfl (by repeat first | exact kMh | apply kMt) Tryz.isAgg22 (by rfl)) rfl ?_
                 refine NA (WA.seq (fuel := 0) [10, 11, 12, 13] rfl (by kernel_rfl) (WR.litS (enc := xenc47) xty22 ([(a269.1, s270)] : List (List UInt8 × List UInt8)) H (fun _ => rfl) rfl (by kernel_rfl) rfl rfl rfl (Wn.none rfl) rfl ?_))
                 intro v328 M w H hle hs328
                 replace hs210 := hs210.mono hle
                 refine WR.appSC (l := l155) xty22 rfl xone47 H rfl (fun _ => by repeat first | exact .head | apply Upd.tail) rfl (hs328) hxl272 (Wn.none rfl) rfl ?_
                 intro v329 w H
                 refine ST (Ex.fieldAddr Tryz.underlying24 rfl Tryz.sizeOf22 (by decide) rfl) rfl (WR.putV [_, _, _] H rfl rfl (H.rowOneS (by repeat first | exact kMh | apply kMt)) (by repeat first | exact .head | apply Upd.tail) (by rfl) Tryz.sizeOf22 (by first | decide | (simp; done) | (simp; omega)) (Wn.none rfl) ?_)
                 intro w H
                 refine NA (WA.done (by kernel_rfl) ?_)
                 exact WQ.meetP [(2, _), (6, _), (7, _), (12, _)] ⟨rfl, rfl, rfl, rfl, trivial⟩ ⟨_, _, rfl, H, hs210⟩
                ·
                 refine WR.litS (enc := xenc47) xty22 ([(a269.1, s270)] : List (List UInt8 × List UInt8)) H (fun _ => rfl) rfl (by kernel_rfl) rfl rfl rfl (Wn.none rfl) rfl ?_
                 intro v328 M w H hle hs328
                 replace hs210 := hs210.mono hle
                 refine NA (WA.seq (fuel := 0) [1, 11, 12, 13] rfl (by kernel_rfl) (ST (Ex.load1 H rfl (by repeat first | exact kMh | apply kMt) Tryz.isAgg22 (by rfl)) rfl ?_))
                 refine WR.appSC (l := l155) xty22 rfl xone47 H rfl (fun _ => by repeat first | exact .head | apply Upd.tail) rfl (hs328) hxl272 (Wn.none rfl) rfl ?_
                 intro v329 w H
                 refine ST (Ex.fieldAddr Tryz.underlying24 rfl Tryz.sizeOf22 (by decide) rfl) rfl (WR.putV [_, _, _] H rfl rfl (H.rowOneS (by repeat first | exact kMh | apply kMt)) (by repeat first | exact .head | apply Upd.tail) (by rfl) Tryz.sizeOf22 (by first | decide | (simp; done) | (simp; omega)) (Wn.none rfl) ?_)
                 intro w H
                 refine NA (WA.done (by kernel_rfl) ?_)
                 exact WQ.meetP [(2, _), (6, _), (7, _), (12, _)] ⟨rfl, rfl, rfl, rfl, trivial⟩ ⟨_, _, rfl, H, hs210⟩
             ·
              rintro e w ⟨v273, M, rfl, H, hs210⟩
              refine IB (TN ?_)
              obtain ⟨n274, hxn274, e136⟩ := bnd e136
              refine RG (MV rfl rfl (ST (Ex.addC rfl rfl hxn274) rfl (AS rfl rfl (NL ?_))))
              exact WQ.againP m158 [(2, _), (6, _), (7, _), (12, _)] ⟨rfl, rfl, rfl, rfl, trivial⟩ ⟨_, _, _, _, _, _, _, _, _, _, rfl, H, hs210, e136⟩ (Nat.lt_succ_self _)
       ·
        replace hk160 : ¬ (n157 < (l33.length : Int)) := of_decide_eq_false hk160
        rw [if_neg hk160] at e136
        refine WC.exit (WQ.thenExit (WQ.thenExit (WQ.exitHere ?_)))
        exact WQ.meetN [(2, _), (6, _)] ⟨rfl, rfl, trivial⟩ ⟨_, _, _, _, _, _, _, _, _, rfl, (H.pick (L' := [.blk bk2 (.cells #[S s147, S s148, v150] 24), .blk bk6 (.cells #[S s152, S s153, v156] 24), RowS 47 2 xenc47 v156 l155]) (by repeat first | exact kPn | refine kPc (by repeat first | exact .head | apply Rem.tail) ?_)), hs151, e136⟩
      ·
       rintro e w ⟨s137, s138, l139, v140, s142, s143, l145, v146, M, rfl, H, hs141, q277⟩
       obtain rfl := oI q277
       try dsimp only at h
       refine TN (SQ (RG (ST (Ex.loadAgg H rfl (by repeat first | exact kMh | apply kMt) Tryz.isAgg24 Tryz.sizeOf24 (by rfl)) rfl ?_)))
       refine WR.store [_, _, _] H rfl rfl rfl (by repeat first | exact .head | apply Upd.tail) Tryz.sizeOf24 rfl (by rfl) (by simp only [List.all_cons, List.all_nil, (H.rowOneS (by repeat first | exact kMh | apply kMt)).2]; rfl) (Wn.none rfl) ?_
       intro w H
       refine AS rfl rfl (NL (TN (RT ?_)))
       obtain ⟨M, hle, hs278, H⟩ := H.freezeRowS (v := v146) (enc := xenc47) (t := 47) (by repeat first | exact .head | apply Rem.tail) (fun _ => rfl)
       obtain rfl := oI h
       exact WQ.ret2 rfl ⟨_, rfl, H.loadAgg (by repeat first | exact kMh | apply kMt) Tryz.isAgg24 Tryz.sizeOf24 (by rfl)⟩ rfl H.ext (⟨_, rfl, hs278⟩)
end Go.Proofs.YtegkhjbajijidaaGreatDoor
end
section
namespace Go.Proofs.YtegkhjbajijidaaGreatDoor
open Go Go.RowKit Go.Ph Go.Ph.Pl Go.Ph.Pf
set_option maxHeartbeats 4000000 in
theorem L_MediaParseMatchesSpec_ct {p0 : List UInt8} {r : Bool} (h : L_MediaParseMatchesSpec p0 = some r) : Ct Tryz.prog 4 [S p0] (fun M => GlF (fun w => ∃ tp p, w.var? Tryz.prog "strconv.ErrRange" = some #[.iface tp p]) M ∧ GlF (fun w => ∃ tp p, w.var? Tryz.prog "strconv.ErrSyntax" = some #[.iface tp p]) M ∧ GlF (fun w => ∃ m, w.cell? ⟨2, 0, none⟩ = some (.int .i64 m)) M ∧ GlF (fun w => Lib.TabIs Tryz.prog w "internal/strconv.uint64pow10" .u64 Lib.pow10Tab) M ∧ Tabs M) (fun v M => v = Value.bool r) := by
  refine Ct.of Tryz.func4 (enters Tryz.func4 (by kernel_rfl) rfl) rfl rfl rfl ?_
  intro w0 M0 H hp
  obtain ⟨hg_errR, hg_errS, hg_maxl, hg_pow10, hg_tabs⟩ := hp
  unfold L_MediaParseMatchesSpec at h
  refine SQ (RG (AS rfl rfl (NL (TN (SQ (SQ ?_))))))
  obtain ⟨b1, hx2, h⟩ := bnd h
  refine RG (WR.call H (L_mediaExample_ct hx2) rfl ⟨hg_errR, hg_errS, hg_maxl, hg_pow10, hg_tabs⟩ (Wn.none rfl) rfl ?_)
  intro v8 M w H hle hR
  replace hg_errR := hg_errR.mono hle
  replace hg_errS := hg_errS.mono hle
  replace hg_maxl := hg_maxl.mono hle
  replace hg_pow10 := hg_pow10.mono hle
  replace hg_tabs := hg_tabs.mono hle
  obtain rfl := hR
  refine ST (Ex.not rfl) rfl (NL (TN ?_))
  refine WC.condB rfl (fun hk3 => ?_) (fun hk3 => ?_)
  ·
   replace hk3 : b1 = false := by simpa using hk3
   subst hk3
   rw [if_neg Bool.false_ne_true] at h
   refine SQ (RG (AS rfl rfl (NL (TN (RT ?_)))))
   obtain rfl := oI h
   exact WQ.ret1 rfl rfl H.ext rfl
  ·
   replace hk3 : b1 = true := by simpa using hk3
   subst hk3
   rw [if_pos rfl] at h
   refine SK (TN (SQ ?_))
   obtain ⟨⟨⟨s4, s5, l6⟩, ⟨n7, n8⟩⟩, hx9, h⟩ := bnd h
   try dsimp only at h
   refine RG (MV rfl rfl (WR.call H (media_Parse_ct hx9) rfl ⟨hg_errR, hg_errS, hg_maxl, hg_pow10, hg_tabs⟩ (Wn.none rfl) rfl ?_))
   intro v12 M w H hle hR
   replace hg_errR := hg_errR.mono hle
   replace hg_errS := hg_errS.mono hle
   replace hg_maxl := hg_maxl.mono hle
   replace hg_pow10 := hg_pow10.mono hle
   replace hg_tabs := hg_tabs.mono hle
   try dsimp only at hR
   obtain ⟨x12_0_2, rfl, f12_0_2⟩ := hR
   refine MV rfl rfl (ST (Ex.extract rfl rfl) rfl (ST (Ex.extract rfl rfl) rfl (WR.alloc [_, _, _] H Tryz.zeroValue24 rfl (Wn.none rfl) rfl ?_)))
   intro bk3 w H
   refine WR.alloc [_, _] H Tryz.zeroValue27 rfl (Wn.none rfl) rfl ?_
   intro bk4 w H
   refine WR.store [_, _, _] H rfl rfl rfl (by repeat first | exact .head | apply Upd.tail) Tryz.sizeOf24 rfl (by rfl) (by simp only [List.all_cons, List.all_nil, (f12_0_2).one.2]; rfl) (Wn.none rfl) ?_
   intro w H
   refine WR.store [_, _] H rfl rfl rfl (by repeat first | exact .head | apply Upd.tail) Tryz.sizeOf27 rfl (by rfl) (by rfl) (Wn.none rfl) ?_
   intro w H
   refine NL (TN (SQ (SQ (RG (MV rfl rfl (ST (Ex.lenStr Tryz.underlying9 rfl) rfl (ST (Ex.gtr rfl rfl) rfl (NL (TN ?_)))))))))
   refine WC.condB rfl (fun hk10 => ?_) (fun hk10 => ?_)
   ·
    replace hk10 : (4000 : Int) < (p0.length : Int) := of_decide_eq_true hk10
    rw [if_pos hk10] at h
    refine SQ ?_
    obtain ⟨o11, e12, h⟩ := bnd h
    refine WC.cutX (fun e w => ∃ (b13 : Bool) (M : Mem), e = [(2, Value.bool b13)] ∧ St w0 M0 M [] w ∧ GlF (fun w => ∃ tp p, w.var? Tryz.prog "strconv.ErrRange" = some #[.iface tp p]) M ∧ GlF (fun w => ∃ tp p, w.var? Tryz.prog "strconv.ErrSyntax" = some #[.iface tp p]) M ∧ GlF (fun w => ∃ m, w.cell? ⟨2, 0, none⟩ = some (.int .i64 m)) M ∧ GlF (fun w => Lib.TabIs Tryz.prog w "internal/strconv.uint64pow10" .u64 Lib.pow10Tab) M ∧ Tabs M ∧ some b13 = some o11) [] ?_ ?_ (trivial)
    ·
     obtain ⟨⟨n14, n15⟩, hx16, e12⟩ := bnd e12
     try dsimp only at e12
     refine WC.draw (m := 9) rfl rfl H ?_
     intro w H
     by_cases hk17 : n7 = n14 ∧ n8 = n15
     ·
      rw [if_pos hk17] at e12
      obtain ⟨b18, hx19, e12⟩ := bnd e12
      refine WA.two (i := 0) (j := 1) (by kernel_rfl) rfl rfl ?_ ?_
      ·
       refine ST (Ex.loadAgg H rfl (by repeat first | exact kMh | apply kMt) Tryz.isAgg27 Tryz.sizeOf27 (by rfl)) rfl ?_
       refine NA (WA.seq (fuel := 5) [1, 2, 3] rfl (by kernel_rfl) (WR.call H (R_At_ct hx16) rfl trivial (Wn.none rfl) rfl ?_))
       intro v19 M w H hle hR
       replace hg_errR := hg_errR.mono hle
       replace hg_errS := hg_errS.mono hle
       replace hg_maxl := hg_maxl.mono hle
       replace hg_pow10 := hg_pow10.mono hle
       replace hg_tabs := hg_tabs.mono hle
       replace f12_0_2 := f12_0_2.mono hle
       try dsimp only at hR
       obtain rfl := hR
       refine WR.stepE (v' := .bool true) (Ex.eqlAgg rfl rfl (by kernel_rfl) (xeq27 n7 n14 n8 n15)) (congrArg Value.bool (decide_eq_true hk17)) (Wn.none rfl) rfl rfl (MV rfl rfl (NA (WA.take (i := 5) rfl (by kernel_rfl) (by kernel_rfl) (by kernel_rfl) (fun _ => Ex.build [S [], S [], Value.slice none 0 0] Tryz.underlying24 Tryz.zeroValue24 (xplaces24 Tryz.underlying24) rfl rfl) (Wn.some rfl rfl rfl) rfl rfl (fun _ _ => rfl) (WA.seq (fuel := 0) [4, 6, 7, 8] rfl (by kernel_rfl) (SG (Ex.loadAgg H rfl (by repeat first | exact kMh | apply kMt) Tryz.isAgg24 Tryz.sizeOf24 (by rfl)) rfl rfl rfl ?_)))))
       refine WR.call H (R_SameMedia_ct hx19) rfl ⟨f12_0_2, (SlS.nil _ _ (fun _ => rfl))⟩ (Wn.some rfl rfl rfl) rfl ?_
       intro v24 M w H hle hR
       replace hg_errR := hg_errR.mono hle
       replace hg_errS := hg_errS.mono hle
       replace hg_maxl := hg_maxl.mono hle
       replace hg_pow10 := hg_pow10.mono hle
       replace hg_tabs := hg_tabs.mono hle
       replace f12_0_2 := f12_0_2.mono hle
       obtain rfl := hR
       refine PT rfl rfl rfl (AS rfl rfl (NA (WA.done (by kernel_rfl) ?_)))
       exact WQ.meetN [(2, _)] ⟨rfl, trivial⟩ ⟨_, _, rfl, (H.pick (L' := []) (by repeat first | exact kPn | refine kPc (by repeat first | exact .head | apply Rem.tail) ?_)), hg_errR, hg_errS, hg_maxl, hg_pow10, hg_tabs, e12⟩
      ·
       refine WR.call H (R_At_ct hx16) rfl trivial (Wn.none rfl) rfl ?_
       intro v19 M w H hle hR
       replace hg_errR := hg_errR.mono hle
       replace hg_errS := hg_errS.mono hle
       replace hg_maxl := hg_maxl.mono hle
       replace hg_pow10 := hg_pow10.mono hle
       replace hg_tabs := hg_tabs.mono hle
       replace f12_0_2 := f12_0_2.mono hle
       try dsimp only at hR
       obtain rfl := hR
       refine NA (WA.seq (fuel := 5) [0, 2, 3] rfl (by kernel_rfl) (ST (Ex.loadAgg H rfl (by repeat first | exact kMh | apply kMt) Tryz.isAgg27 Tryz.sizeOf27 (by rfl)) rfl ?_))
       refine WR.stepE (v' := .bool true) (Ex.eqlAgg rfl rfl (by kernel_rfl) (xeq27 n7 n14 n8 n15)) (congrArg Value.bool (decide_eq_true hk17)) (Wn.none rfl) rfl rfl (MV rfl rfl (NA (WA.take (i := 5) rfl (by kernel_rfl) (by kernel_rfl) (by kernel_rfl) (fun _ => Ex.build [S [], S [], Value.slice none 0 0] Tryz.underlying24 Tryz.zeroValue24 (xplaces24 Tryz.underlying24) rfl rfl) (Wn.some rfl rfl rfl) rfl rfl (fun _ _ => rfl) (WA.seq (fuel := 0) [4, 6, 7, 8] rfl (by kernel_rfl) (SG (Ex.loadAgg H rfl (by repeat first | exact kMh | apply kMt) Tryz.isAgg24 Tryz.sizeOf24 (by rfl)) rfl rfl rfl ?_)))))
       refine WR.call H (R_SameMedia_ct hx19) rfl ⟨f12_0_2, (SlS.nil _ _ (fun _ => rfl))⟩ (Wn.some rfl rfl rfl) rfl ?_
       intro v24 M w H hle hR
       replace hg_errR := hg_errR.mono hle
       replace hg_errS := hg_errS.mono hle
       replace hg_maxl := hg_maxl.mono hle
       replace hg_pow10 := hg_pow10.mono hle
       replace hg_tabs := hg_tabs.mono hle
       replace f12_0_2 := f12_0_2.mono hle
       obtain rfl := hR
       refine PT rfl rfl rfl (AS rfl rfl (NA (WA.done (by kernel_rfl) ?_)))
       exact WQ.meetN [(2, _)] ⟨rfl, trivial⟩ ⟨_, _, rfl, (H.pick (L' := []) (by repeat first | exact kPn | refine kPc (by repeat first | exact .head | apply Rem.tail) ?_)), hg_errR, hg_errS, hg_maxl, hg_pow10, hg_tabs, e12⟩
     ·
      rw [if_neg hk17] at e12
      refine WA.two (i := 0) (j := 1) (by kernel_rfl) rfl rfl ?_ ?_
      ·
       refine ST (Ex.loadAgg H rfl (by repeat first | exact kMh | apply kMt) Tryz.isAgg27 Tryz.sizeOf27 (by rfl)) rfl ?_
       refine NA (WA.seq (fuel := 5) [1, 2, 3] rfl (by kernel_rfl) (WR.call H (R_At_ct hx16) rfl trivial (Wn.none rfl) rfl ?_))
       intro v19 M w H hle hR
       replace hg_errR := hg_errR.mono hle
       replace hg_errS := hg_errS.mono hle
       replace hg_maxl := hg_maxl.mono hle
       replace hg_pow10 := hg_pow10.mono hle
       replace hg_tabs := hg_tabs.mono hle
       replace f12_0_2 := f12_0_2.mono hle
       try dsimp only at hR
       obtain rfl := hR
       refine WR.stepE (v' := .bool false) (Ex.eqlAgg rfl rfl (by kernel_rfl) (xeq27 n7 n14 n8 n15)) (congrArg Value.bool (decide_eq_false hk17)) (Wn.none rfl) rfl rfl (MV rfl rfl (NA (WA.takeN (i := 4) rfl (by kernel_rfl) (by kernel_rfl) (by kernel_rfl) (wanted_g (b := false) rfl rfl rfl) rfl rfl (fun _ _ => rfl) (WA.seq (fuel := 0) [5, 6, 7, 8] rfl (by kernel_rfl) (GF rfl rfl rfl (GF rfl rfl rfl (PF rfl rfl rfl (AS rfl rfl (NA (WA.done (by kernel_rfl) ?_))))))))))
       exact WQ.meetN [(2, _)] ⟨rfl, trivial⟩ ⟨_, _, rfl, (H.pick (L' := []) (by repeat first | exact kPn | refine kPc (by repeat first | exact .head | apply Rem.tail) ?_)), hg_errR, hg_errS, hg_maxl, hg_pow10, hg_tabs, e12⟩
      ·
       refine WR.call H (R_At_ct hx16) rfl trivial (Wn.none rfl) rfl ?_
       intro v19 M w H hle hR
       replace hg_errR := hg_errR.mono hle
       replace hg_errS := hg_errS.mono hle
       replace hg_maxl := hg_maxl.mono hle
       replace hg_pow10 := hg_pow10.mono hle
       replace hg_tabs := hg_tabs.mono hle
       replace f12_0_2 := f12_0_2.mono hle
       try dsimp only at hR
       obtain rfl := hR
       refine NA (WA.seq (fuel := 5) [0, 2, 3] rfl (by kernel_rfl) (ST (Ex.loadAgg H rfl (by repeat first | exact kMh | apply kMt) Tryz.isAgg27 Tryz.sizeOf27 (by rfl)) rfl ?_))
       refine WR.stepE (v' := .bool false) (Ex.eqlAgg rfl rfl (by kernel_rfl) (xeq27 n7 n14 n8 n15)) (congrArg Value.bool (decide_eq_false hk17)) (Wn.none rfl) rfl rfl (MV rfl rfl (NA (WA.takeN (i := 4) rfl (by kernel_rfl) (by kernel_rfl) (by kernel_rfl) (wanted_g (b := false) rfl rfl rfl) rfl rfl (fun _ _ => rfl) (WA.seq (fuel := 0) [5, 6, 7, 8] rfl (by kernel_rfl) (GF rfl rfl rfl (GF rfl rfl rfl (PF rfl rfl rfl (AS rfl rfl (NA (WA.done (by kernel_rfl) ?_))))))))))
       exact WQ.meetN [(2, _)] ⟨rfl, trivial⟩ ⟨_, _, rfl, (H.pick (L' := []) (by repeat first | exact kPn | refine kPc (by repeat first | exact .head | apply Rem.tail) ?_)), hg_errR, hg_errS, hg_maxl, hg_pow10, hg_tabs, e12⟩
    ·
     rintro e w ⟨b13, M, rfl, H, hg_errR, hg_errS, hg_maxl, hg_pow10, hg_tabs, q20⟩
     obtain rfl := oI q20
     refine TN (RT ?_)
     obtain rfl := oI h
     exact WQ.ret1 rfl rfl H.ext rfl
   ·
    replace hk10 : ¬ ((4000 : Int) < (p0.length : Int)) := of_decide_eq_false hk10
    rw [if_neg hk10] at h
    refine SK (TN (SQ ?_))
    obtain ⟨⟨⟨s21, s22, l23⟩, b24⟩, hx25, h⟩ := bnd h
    try dsimp only at h
    refine RG (MV rfl rfl (WR.call H (R_MediaRead_ct hx25) rfl trivial (Wn.none rfl) rfl ?_))
    intro v28 M w H hle hR
    replace hg_errR := hg_errR.mono hle
    replace hg_errS := hg_errS.mono hle
    replace hg_maxl := hg_maxl.mono hle
    replace hg_pow10 := hg_pow10.mono hle
    replace hg_tabs := hg_tabs.mono hle
    replace f12_0_2 := f12_0_2.mono hle
    try dsimp only at hR
    obtain ⟨x28_0_2, rfl, f28_0_2⟩ := hR
    refine MV rfl rfl (ST (Ex.extract rfl rfl) rfl (ST (Ex.extract rfl rfl) rfl (WR.alloc [_, _, _] H Tryz.zeroValue24 rfl (Wn.none rfl) rfl ?_)))
    intro bk5 w H
    refine WR.store [_, _, _] H rfl rfl rfl (by repeat first | exact .head | apply Upd.tail) Tryz.sizeOf24 rfl (by rfl) (by simp only [List.all_cons, List.all_nil, (f28_0_2).one.2]; rfl) (Wn.none rfl) ?_
    intro w H
    refine AS rfl rfl (NL (TN (SQ (SQ (RG (MV rfl rfl (ST (Ex.not rfl) rfl (NL (TN ?_)))))))))
    refine WC.condB rfl (fun hk26 => ?_) (fun hk26 => ?_)
    ·
     replace hk26 : b24 = false := by simpa using hk26
     subst hk26
     rw [if_neg Bool.false_ne_true] at h
     refine SQ ?_
     obtain ⟨o27, e28, h⟩ := bnd h
     refine WC.cutX (fun e w => ∃ (b29 : Bool) (M : Mem), e = [(2, Value.bool b29)] ∧ St w0 M0 M [] w ∧ GlF (fun w => ∃ tp p, w.var? Tryz.prog "strconv.ErrRange" = some #[.iface tp p]) M ∧ GlF (fun w => ∃ tp p, w.var? Tryz.prog "strconv.ErrSyntax" = some #[.iface tp p]) M ∧ GlF (fun w => ∃ m, w.cell? ⟨2, 0, none⟩ = some (.int .i64 m)) M ∧ GlF (fun w => Lib.TabIs Tryz.prog w "internal/strconv.uint64pow10" .u64 Lib.pow10Tab) M ∧ Tabs M ∧ some b29 = some o27) [] ?_ ?_ (trivial)
     ·
      obtain ⟨⟨n30, n31⟩, hx32, e28⟩ := bnd e28
      try dsimp only at e28
      refine WC.draw (m := 9) rfl rfl H ?_
      intro w H
      by_cases hk33 : n7 = n30 ∧ n8 = n31
      ·
       rw [if_pos hk33] at e28
       obtain ⟨b34, hx35, e28⟩ := bnd e28
       refine WA.two (i := 0) (j := 1) (by kernel_rfl) rfl rfl ?_ ?_
       ·
        refine ST (Ex.loadAgg H rfl (by repeat first | exact kMh | apply kMt) Tryz.isAgg27 Tryz.sizeOf27 (by rfl)) rfl ?_
        refine NA (WA.seq (fuel := 5) [1, 2, 3] rfl (by kernel_rfl) (WR.call H (R_At_ct hx32) rfl trivial (Wn.none rfl) rfl ?_))
        intro v34 M w H hle hR
        replace hg_errR := hg_errR.mono hle
        replace hg_errS := hg_errS.mono hle
        replace hg_maxl := hg_maxl.mono hle
        replace hg_pow10 := hg_pow10.mono hle
        replace hg_tabs := hg_tabs.mono hle
        replace f12_0_2 := f12_0_2.mono hle
        replace f28_0_2 := f28_0_2.mono hle
        try dsimp only at hR
        obtain rfl := hR
        refine WR.stepE (v' := .bool true) (Ex.eqlAgg rfl rfl (by kernel_rfl) (xeq27 n7 n30 n8 n31)) (congrArg Value.bool (decide_eq_true hk33)) (Wn.none rfl) rfl rfl (MV rfl rfl (NA (WA.take (i := 5) rfl (by kernel_rfl) (by kernel_rfl) (by kernel_rfl) (fun _ => Ex.build [S [], S [], Value.slice none 0 0] Tryz.underlying24 Tryz.zeroValue24 (xplaces24 Tryz.underlying24) rfl rfl) (Wn.some rfl rfl rfl) rfl rfl (fun _ _ => rfl) (WA.seq (fuel := 0) [4, 6, 7, 8] rfl (by kernel_rfl) (SG (Ex.loadAgg H rfl (by repeat first | exact kMh | apply kMt) Tryz.isAgg24 Tryz.sizeOf24 (by rfl)) rfl rfl rfl ?_)))))
        refine WR.call H (R_SameMedia_ct hx35) rfl ⟨f12_0_2, (SlS.nil _ _ (fun _ => rfl))⟩ (Wn.some rfl rfl rfl) rfl ?_
        intro v39 M w H hle hR
        replace hg_errR := hg_errR.mono hle
        replace hg_errS := hg_errS.mono hle
        replace hg_maxl := hg_maxl.mono hle
        replace hg_pow10 := hg_pow10.mono hle
        replace hg_tabs := hg_tabs.mono hle
        replace f12_0_2 := f12_0_2.mono hle
        replace f28_0_2 := f28_0_2.mono hle
        obtain rfl := hR
        refine PT rfl rfl rfl (AS rfl rfl (NA (WA.done (by kernel_rfl) ?_)))
        exact WQ.meetN [(2, _)] ⟨rfl, trivial⟩ ⟨_, _, rfl, (H.pick (L' := []) (by repeat first | exact kPn | refine kPc (by repeat first | exact .head | apply Rem.tail) ?_)), hg_errR, hg_errS, hg_maxl, hg_pow10, hg_tabs, e28⟩
       ·
        refine WR.call H (R_At_ct hx32) rfl trivial (Wn.none rfl) rfl ?_
        intro v34 M w H hle hR
        replace hg_errR := hg_errR.mono hle
        replace hg_errS := hg_errS.mono hle
        replace hg_maxl := hg_maxl.mono hle
        replace hg_pow10 := hg_pow10.mono hle
        replace hg_tabs := hg_tabs.mono hle
        replace f12_0_2 := f12_0_2.mono hle
        replace f28_0_2 := f28_0_2.mono hle
        try dsimp only at hR
        obtain rfl := hR
        refine NA (WA.seq (fuel := 5) [0, 2, 3] rfl (by kernel_rfl) (ST (Ex.loadAgg H rfl (by repeat first | exact kMh | apply kMt) Tryz.isAgg27 Tryz.sizeOf27 (by rfl)) rfl ?_))
        refine WR.stepE (v' := .bool true) (Ex.eqlAgg rfl rfl (by kernel_rfl) (xeq27 n7 n30 n8 n31)) (congrArg Value.bool (decide_eq_true hk33)) (Wn.none rfl) rfl rfl (MV rfl rfl (NA (WA.take (i := 5) rfl (by kernel_rfl) (by kernel_rfl) (by kernel_rfl) (fun _ => Ex.build [S [], S [], Value.slice none 0 0] Tryz.underlying24 Tryz.zeroValue24 (xplaces24 Tryz.underlying24) rfl rfl) (Wn.some rfl rfl rfl) rfl rfl (fun _ _ => rfl) (WA.seq (fuel := 0) [4, 6, 7, 8] rfl (by kernel_rfl) (SG (Ex.loadAgg H rfl (by repeat first | exact kMh | apply kMt) Tryz.isAgg24 Tryz.sizeOf24 (by rfl)) rfl rfl rfl ?_)))))
        refine WR.call H (R_SameMedia_ct hx35) rfl ⟨f12_0_2, (SlS.nil _ _ (fun _ => rfl))⟩ (Wn.some rfl rfl rfl) rfl ?_
        intro v39 M w H hle hR
        replace hg_errR := hg_errR.mono hle
        replace hg_errS := hg_errS.mono hle
        replace hg_maxl := hg_maxl.mono hle
        replace hg_pow10 := hg_pow10.mono hle
        replace hg_tabs := hg_tabs.mono hle
        replace f12_0_2 := f12_0_2.mono hle
        replace f28_0_2 := f28_0_2.mono hle
        obtain rfl := hR
        refine PT rfl rfl rfl (AS rfl rfl (NA (WA.done (by kernel_rfl) ?_)))
        exact WQ.meetN [(2, _)] ⟨rfl, trivial⟩ ⟨_, _, rfl, (H.pick (L' := []) (by repeat first | exact kPn | refine kPc (by repeat first | exact .head | apply Rem.tail) ?_)), hg_errR, hg_errS, hg_maxl, hg_pow10, hg_tabs, e28⟩
      ·
       rw [if_neg hk33] at e28
       refine WA.two (i := 0) (j := 1) (by kernel_rfl) rfl rfl ?_ ?_
       ·
        refine ST (Ex.loadAgg H rfl (by repeat first | exact kMh | apply kMt) Tryz.isAgg27 Tryz.sizeOf27 (by rfl)) rfl ?_
        refine NA (WA.seq (fuel := 5) [1, 2, 3] rfl (by kernel_rfl) (WR.call H (R_At_ct hx32) rfl trivial (Wn.none rfl) rfl ?_))
        intro v34 M w H hle hR
        replace hg_errR := hg_errR.mono hle
        replace hg_errS := hg_errS.mono hle
        replace hg_maxl := hg_maxl.mono hle
        replace hg_pow10 := hg_pow10.mono hle
        replace hg_tabs := hg_tabs.mono hle
        replace f12_0_2 := f12_0_2.mono hle
        replace f28_0_2 := f28_0_2.mono hle
        try dsimp only at hR
        obtain rfl := hR
        refine WR.stepE (v' := .bool false) (Ex.eqlAgg rfl rfl (by kernel_rfl) (xeq27 n7 n30 n8 n31)) (congrArg Value.bool (decide_eq_false hk33)) (Wn.none rfl) rfl rfl (MV rfl rfl (NA (WA.takeN (i := 4) rfl (by kernel_rfl) (by kernel_rfl) (by kernel_rfl) (wanted_g (b := false) rfl rfl rfl) rfl rfl (fun _ _ => rfl) (WA.seq (fuel := 0) [5, 6, 7, 8] rfl (by kernel_rfl) (GF rfl rfl rfl (GF rfl rfl rfl (PF rfl rfl rfl (AS rfl rfl (NA (WA.done (by kernel_rfl) ?_))))))))))
        exact WQ.meetN [(2, _)] ⟨rfl, trivial⟩ ⟨_, _, rfl, (H.pick (L' := []) (by repeat first | exact kPn | refine kPc (by repeat first | exact .head | apply Rem.tail) ?_)), hg_errR, hg_errS, hg_maxl, hg_pow10, hg_tabs, e28⟩
       ·
        refine WR.call H (R_At_ct hx32) rfl trivial (Wn.none rfl) rfl ?_
        intro v34 M w H hle hR
        replace hg_errR := hg_errR.mono hle
        replace hg_errS := hg_errS.mono hle
        replace hg_maxl := hg_maxl.mono hle
        replace hg_pow10 := hg_pow10.mono hle
        replace hg_tabs := hg_tabs.mono hle
        replace f12_0_2 := f12_0_2.mono hle
        replace f28_0_2 := f28_0_2.mono hle
        try dsimp only at hR
        obtain rfl := hR
        refine NA (WA.seq (fuel := 5) [0, 2, 3] rfl (by kernel_rfl) (ST (Ex.loadAgg H rfl (by repeat first | exact kMh | apply kMt) Tryz.isAgg27 Tryz.sizeOf27 (by rfl)) rfl ?_))
        refine WR.stepE (v' := .bool false) (Ex.eqlAgg rfl rfl (by kernel_rfl) (xeq27 n7 n30 n8 n31)) (congrArg Value.bool (decide_eq_false hk33)) (Wn.none rfl) rfl rfl (MV rfl rfl (NA (WA.takeN (i := 4) rfl (by kernel_rfl) (by kernel_rfl) (by kernel_rfl) (wanted_g (b := false) rfl rfl rfl) rfl rfl (fun _ _ => rfl) (WA.seq (fuel := 0) [5, 6, 7, 8] rfl (by kernel_rfl) (GF rfl rfl rfl (GF rfl rfl rfl (PF rfl rfl rfl (AS rfl rfl (NA (WA.done (by kernel_rfl) ?_))))))))))
        exact WQ.meetN [(2, _)] ⟨rfl, trivial⟩ ⟨_, _, rfl, (H.pick (L' := []) (by repeat first | exact kPn | refine kPc (by repeat first | exact .head | apply Rem.tail) ?_)), hg_errR, hg_errS, hg_maxl, hg_pow10, hg_tabs, e28⟩
     ·
      rintro e w ⟨b29, M, rfl, H, hg_errR, hg_errS, hg_maxl, hg_pow10, hg_tabs, q36⟩
      obtain rfl := oI q36
      refine TN (RT ?_)
      obtain rfl := oI h
      exact WQ.ret1 rfl rfl H.ext rfl
    ·
     replace hk26 : b24 = true := by simpa using hk26
     subst hk26
     rw [if_pos rfl] at h
     refine SK (TN (SQ (SQ ?_)))
     obtain ⟨⟨n37, n38⟩, hx39, h⟩ := bnd h
     try dsimp only at h
     refine RG (ST (Ex.loadAgg H rfl (by repeat first | exact kMh | apply kMt) Tryz.isAgg24 Tryz.sizeOf24 (by rfl)) rfl ?_)
     refine WR.call H (R_MediaFault_ct hx39) rfl (f28_0_2) (Wn.none rfl) rfl ?_
     intro v42 M w H hle hR
     replace hg_errR := hg_errR.mono hle
     replace hg_errS := hg_errS.mono hle
     replace hg_maxl := hg_maxl.mono hle
     replace hg_pow10 := hg_pow10.mono hle
     replace hg_tabs := hg_tabs.mono hle
     replace f12_0_2 := f12_0_2.mono hle
     replace f28_0_2 := f28_0_2.mono hle
     try dsimp only at hR
     obtain rfl := hR
     refine WR.alloc [_, _] H Tryz.zeroValue27 rfl (Wn.none rfl) rfl ?_
     intro bk7 w H
     refine WR.store [_, _] H rfl rfl rfl (by repeat first | exact .head | apply Upd.tail) Tryz.sizeOf27 rfl (by rfl) (by rfl) (Wn.none rfl) ?_
     intro w H
     refine NL (TN (SQ (RG (ST (Ex.fieldAddr Tryz.underlying27 rfl Tryz.sizeOf3 (by decide) rfl) rfl (ST (Ex.load1 H rfl (by repeat first | exact kMh | apply kMt) Tryz.isAgg3 (by rfl)) rfl ?_)))))
     refine ST (Ex.neqC rfl rfl) rfl (NL (TN ?_))
     refine WC.condB rfl (fun hk40 => ?_) (fun hk40 => ?_)
     ·
      replace hk40 : ¬ (n37 = (0 : Int)) := of_not_decide hk40
      rw [if_neg hk40] at h
      refine SQ ?_
      obtain ⟨o41, e42, h⟩ := bnd h
      refine WC.cutX (fun e w => ∃ (b43 : Bool) (M : Mem), e = [(2, Value.bool b43)] ∧ St w0 M0 M [] w ∧ GlF (fun w => ∃ tp p, w.var? Tryz.prog "strconv.ErrRange" = some #[.iface tp p]) M ∧ GlF (fun w => ∃ tp p, w.var? Tryz.prog "strconv.ErrSyntax" = some #[.iface tp p]) M ∧ GlF (fun w => ∃ m, w.cell? ⟨2, 0, none⟩ = some (.int .i64 m)) M ∧ GlF (fun w => Lib.TabIs Tryz.prog w "internal/strconv.uint64pow10" .u64 Lib.pow10Tab) M ∧ Tabs M ∧ some b43 = some o41) [] ?_ ?_ (trivial)
      ·
       obtain ⟨⟨n44, n45⟩, hx46, e42⟩ := bnd e42
       try dsimp only at e42
       refine WC.draw (m := 11) rfl rfl H ?_
       intro w H
       refine WA.take (i := 1) rfl (by kernel_rfl) (by kernel_rfl) (by kernel_rfl) (fun _ => Ex.fieldAddr Tryz.underlying27 rfl Tryz.sizeOf3 (by decide) rfl) (Wn.none rfl) rfl rfl (fun _ _ => rfl) (WA.takeM (i := 2) [0] rfl (by kernel_rfl) (by kernel_rfl) (by kernel_rfl) (Ex.load1 H rfl (by repeat first | exact kMh | apply kMt) Tryz.isAgg3 (by rfl)) (Wn.none rfl) rfl rfl (fun _ _ => rfl) ?_)
       by_cases hk47 : n7 = n44 ∧ n8 = n45
       ·
        rw [if_pos hk47] at e42
        obtain ⟨b48, hx49, e42⟩ := bnd e42
        refine WA.two (i := 0) (j := 3) (by kernel_rfl) rfl rfl ?_ ?_
        ·
         refine ST (Ex.loadAgg H rfl (by repeat first | exact kMh | apply kMt) Tryz.isAgg27 Tryz.sizeOf27 (by rfl)) rfl ?_
         refine NA (WA.seq (fuel := 5) [3, 4, 5] rfl (by kernel_rfl) (WR.call H (R_At_ct hx46) rfl trivial (Wn.none rfl) rfl ?_))
         intro v49 M w H hle hR
         replace hg_errR := hg_errR.mono hle
         replace hg_errS := hg_errS.mono hle
         replace hg_maxl := hg_maxl.mono hle
         replace hg_pow10 := hg_pow10.mono hle
         replace hg_tabs := hg_tabs.mono hle
         replace f12_0_2 := f12_0_2.mono hle
         replace f28_0_2 := f28_0_2.mono hle
         try dsimp only at hR
         obtain rfl := hR
         refine WR.stepE (v' := .bool true) (Ex.eqlAgg rfl rfl (by kernel_rfl) (xeq27 n7 n44 n8 n45)) (congrArg Value.bool (decide_eq_true hk47)) (Wn.none rfl) rfl rfl (MV rfl rfl (NA (WA.take (i := 7) rfl (by kernel_rfl) (by kernel_rfl) (by kernel_rfl) (fun _ => Ex.build [S [], S [], Value.slice none 0 0] Tryz.underlying24 Tryz.zeroValue24 (xplaces24 Tryz.underlying24) rfl rfl) (Wn.some rfl rfl rfl) rfl rfl (fun _ _ => rfl) (WA.seq (fuel := 0) [6, 8, 9, 10] rfl (by kernel_rfl) (SG (Ex.loadAgg H rfl (by repeat first | exact kMh | apply kMt) Tryz.isAgg24 Tryz.sizeOf24 (by rfl)) rfl rfl rfl ?_)))))
         refine WR.call H (R_SameMedia_ct hx49) rfl ⟨f12_0_2, (SlS.nil _ _ (fun _ => rfl))⟩ (Wn.some rfl rfl rfl) rfl ?_
         intro v54 M w H hle hR
         replace hg_errR := hg_errR.mono hle
         replace hg_errS := hg_errS.mono hle
         replace hg_maxl := hg_maxl.mono hle
         replace hg_pow10 := hg_pow10.mono hle
         replace hg_tabs := hg_tabs.mono hle
         replace f12_0_2 := f12_0_2.mono hle
         replace f28_0_2 := f28_0_2.mono hle
         obtain rfl := hR
         refine PT rfl rfl rfl (AS rfl rfl (NA (WA.done (by kernel_rfl) ?_)))
         exact WQ.meetN [(2, _)] ⟨rfl, trivial⟩ ⟨_, _, rfl, (H.pick (L' := []) (by repeat first | exact kPn | refine kPc (by repeat first | exact .head | apply Rem.tail) ?_)), hg_errR, hg_errS, hg_maxl, hg_pow10, hg_tabs, e42⟩
        ·
         refine WR.call H (R_At_ct hx46) rfl trivial (Wn.none rfl) rfl ?_
         intro v49 M w H hle hR
         replace hg_errR := hg_errR.mono hle
         replace hg_errS := hg_errS.mono hle
         replace hg_maxl := hg_maxl.mono hle
         replace hg_pow10 := hg_pow10.mono hle
         replace hg_tabs := hg_tabs.mono hle
         replace f12_0_2 := f12_0_2.mono hle
         replace f28_0_2 := f28_0_2.mono hle
         try dsimp only at hR
         obtain rfl := hR
         refine NA (WA.seq (fuel := 5) [0, 4, 5] rfl (by kernel_rfl) (ST (Ex.loadAgg H rfl (by repeat first | exact kMh | apply kMt) Tryz.isAgg27 Tryz.sizeOf27 (by rfl)) rfl ?_))
         refine WR.stepE (v' := .bool true) (Ex.eqlAgg rfl rfl (by kernel_rfl) (xeq27 n7 n44 n8 n45)) (congrArg Value.bool (decide_eq_true hk47)) (Wn.none rfl) rfl rfl (MV rfl rfl (NA (WA.take (i := 7) rfl (by kernel_rfl) (by kernel_rfl) (by kernel_rfl) (fun _ => Ex.build [S [], S [], Value.slice none 0 0] Tryz.underlying24 Tryz.zeroValue24 (xplaces24 Tryz.underlying24) rfl rfl) (Wn.some rfl rfl rfl) rfl rfl (fun _ _ => rfl) (WA.seq (fuel := 0) [6, 8, 9, 10] rfl (by kernel_rfl) (SG (Ex.loadAgg H rfl (by repeat first | exact kMh | apply kMt) Tryz.isAgg24 Tryz.sizeOf24 (by rfl)) rfl rfl rfl ?_)))))
         refine WR.call H (R_SameMedia_ct hx49) rfl ⟨f12_0_2, (SlS.nil _ _ (fun _ => rfl))⟩ (Wn.some rfl rfl rfl) rfl ?_
         intro v54 M w H hle hR
         replace hg_errR := hg_errR.mono hle
         replace hg_errS := hg_errS.mono hle
         replace hg_maxl := hg_maxl.mono hle
         replace hg_pow10 := hg_pow10.mono hle
         replace hg_tabs := hg_tabs.mono hle
         replace f12_0_2 := f12_0_2.mono hle
         replace f28_0_2 := f28_0_2.mono hle
         obtain rfl := hR
         refine PT rfl rfl rfl (AS rfl rfl (NA (WA.done (by kernel_rfl) ?_)))
         exact WQ.meetN [(2, _)] ⟨rfl, trivial⟩ ⟨_, _, rfl, (H.pick (L' := []) (by repeat first | exact kPn | refine kPc (by repeat first | exact .head | apply Rem.tail) ?_)), hg_errR, hg_errS, hg_maxl, hg_pow10, hg_tabs, e42⟩
       ·
        rw [if_neg hk47] at e42
        refine WA.two (i := 0) (j := 3) (by kernel_rfl) rfl rfl ?_ ?_
        ·
         refine ST (Ex.loadAgg H rfl (by repeat first | exact kMh | apply kMt) Tryz.isAgg27 Tryz.sizeOf27 (by rfl)) rfl ?_
         refine NA (WA.seq (fuel := 5) [3, 4, 5] rfl (by kernel_rfl) (WR.call H (R_At_ct hx46) rfl trivial (Wn.none rfl) rfl ?_))
         intro v49 M w H hle hR
         replace hg_errR := hg_errR.mono hle
         replace hg_errS := hg_errS.mono hle
         replace hg_maxl := hg_maxl.mono hle
         replace hg_pow10 := hg_pow10.mono hle
         replace hg_tabs := hg_tabs.mono hle
         replace f12_0_2 := f12_0_2.mono hle
         replace f28_0_2 := f28_0_2.mono hle
         try dsimp only at hR
         obtain rfl := hR
         refine WR.stepE (v' := .bool false) (Ex.eqlAgg rfl rfl (by kernel_rfl) (xeq27 n7 n44 n8 n45)) (congrArg Value.bool (decide_eq_false hk47)) (Wn.none rfl) rfl rfl (MV rfl rfl (NA (WA.takeN (i := 6) rfl (by kernel_rfl) (by kernel_rfl) (by kernel_rfl) (wanted_g (b := false) rfl rfl rfl) rfl rfl (fun _ _ => rfl) (WA.seq (fuel := 0) [7, 8, 9, 10] rfl (by kernel_rfl) (GF rfl rfl rfl (GF rfl rfl rfl (PF rfl rfl rfl (AS rfl rfl (NA (WA.done (by kernel_rfl) ?_))))))))))
         exact WQ.meetN [(2, _)] ⟨rfl, trivial⟩ ⟨_, _, rfl, (H.pick (L' := []) (by repeat first | exact kPn | refine kPc (by repeat first | exact .head | apply Rem.tail) ?_)), hg_errR, hg_errS, hg_maxl, hg_pow10, hg_tabs, e42⟩
        ·
         refine WR.call H (R_At_ct hx46) rfl trivial (Wn.none rfl) rfl ?_
         intro v49 M w H hle hR
         replace hg_errR := hg_errR.mono hle
         replace hg_errS := hg_errS.mono hle
         replace hg_maxl := hg_maxl.mono hle
         replace hg_pow10 := hg_pow10.mono hle
         replace hg_tabs := hg_tabs.mono hle
         replace f12_0_2 := f12_0_2.mono hle
         replace f28_0_2 := f28_0_2.mono hle
         try dsimp only at hR
         obtain rfl := hR
         refine NA (WA.seq (fuel := 5) [0, 4, 5] rfl (by kernel_rfl) (ST (Ex.loadAgg H rfl (by repeat first | exact kMh | apply kMt) Tryz.isAgg27 Tryz.sizeOf27 (by rfl)) rfl ?_))
         refine WR.stepE (v' := .bool false) (Ex.eqlAgg rfl rfl (by kernel_rfl) (xeq27 n7 n44 n8 n45)) (congrArg Value.bool (decide_eq_false hk47)) (Wn.none rfl) rfl rfl (MV rfl rfl (NA (WA.takeN (i := 6) rfl (by kernel_rfl) (by kernel_rfl) (by kernel_rfl) (wanted_g (b := false) rfl rfl rfl) rfl rfl (fun _ _ => rfl) (WA.seq (fuel := 0) [7, 8, 9, 10] rfl (by kernel_rfl) (GF rfl rfl rfl (GF rfl rfl rfl (PF rfl rfl rfl (AS rfl rfl (NA (WA.done (by kernel_rfl) ?_))))))))))
         exact WQ.meetN [(2, _)] ⟨rfl, trivial⟩ ⟨_, _, rfl, (H.pick (L' := []) (by repeat first | exact kPn | refine kPc (by repeat first | exact .head | apply Rem.tail) ?_)), hg_errR, hg_errS, hg_maxl, hg_pow10, hg_tabs, e42⟩
      ·
       rintro e w ⟨b43, M, rfl, H, hg_errR, hg_errS, hg_maxl, hg_pow10, hg_tabs, q50⟩
       obtain rfl := oI q50
       refine TN (RT ?_)
       obtain rfl := oI h
       exact WQ.ret1 rfl rfl H.ext rfl
     ·
      replace hk40 : n37 = (0 : Int) := of_not_decide' hk40
      rw [if_pos hk40] at h
      refine SK (TN (SQ ?_))
      obtain ⟨o51, e52, h⟩ := bnd h
      refine WC.cutX (fun e w => ∃ (b53 : Bool) (M : Mem), e = [(2, Value.bool b53)] ∧ St w0 M0 M [] w ∧ GlF (fun w => ∃ tp p, w.var? Tryz.prog "strconv.ErrRange" = some #[.iface tp p]) M ∧ GlF (fun w => ∃ tp p, w.var? Tryz.prog "strconv.ErrSyntax" = some #[.iface tp p]) M ∧ GlF (fun w => ∃ m, w.cell? ⟨2, 0, none⟩ = some (.int .i64 m)) M ∧ GlF (fun w => Lib.TabIs Tryz.prog w "internal/strconv.uint64pow10" .u64 Lib.pow10Tab) M ∧ Tabs M ∧ some b53 = some o51) [] ?_ ?_ (trivial)
      ·
       refine RG (ST (Ex.fieldAddr Tryz.underlying27 rfl Tryz.sizeOf3 (by decide) rfl) rfl (ST (Ex.load1 H rfl (by repeat first | exact kMh | apply kMt) Tryz.isAgg3 (by rfl)) rfl ?_))
       by_cases hk54 : n7 = (0 : Int)
       ·
        rw [if_pos hk54] at e52
        obtain ⟨b55, hx56, e52⟩ := bnd e52
        refine WR.stepE (v' := .bool true) (Ex.eql rfl rfl) (congrArg Value.bool (decide_eq_true hk54)) (Wn.none rfl) rfl rfl (MV rfl rfl (SG (Ex.loadAgg H rfl (by repeat first | exact kMh | apply kMt) Tryz.isAgg24 Tryz.sizeOf24 (by rfl)) rfl rfl rfl ?_))
        refine SG (Ex.loadAgg H rfl (by repeat first | exact kMh | apply kMt) Tryz.isAgg24 Tryz.sizeOf24 (by rfl)) rfl rfl rfl ?_
        refine WR.call H (R_SameMedia_ct hx56) rfl ⟨f12_0_2, f28_0_2⟩ (Wn.some rfl rfl rfl) rfl ?_
        intro v62 M w H hle hR
        replace hg_errR := hg_errR.mono hle
        replace hg_errS := hg_errS.mono hle
        replace hg_maxl := hg_maxl.mono hle
        replace hg_pow10 := hg_pow10.mono hle
        replace hg_tabs := hg_tabs.mono hle
        replace f12_0_2 := f12_0_2.mono hle
        replace f28_0_2 := f28_0_2.mono hle
        obtain rfl := hR
        refine PT rfl rfl rfl (AS rfl rfl (NL ?_))
        exact WQ.meetN [(2, _)] ⟨rfl, trivial⟩ ⟨_, _, rfl, (H.pick (L' := []) (by repeat first | exact kPn | refine kPc (by repeat first | exact .head | apply Rem.tail) ?_)), hg_errR, hg_errS, hg_maxl, hg_pow10, hg_tabs, e52⟩
       ·
        rw [if_neg hk54] at e52
        refine WR.stepE (v' := .bool false) (Ex.eql rfl rfl) (congrArg Value.bool (decide_eq_false hk54)) (Wn.none rfl) rfl rfl (MV rfl rfl (WR.skipN 3 rfl rfl (PF rfl rfl rfl (AS rfl rfl (NL ?_)))))
        exact WQ.meetN [(2, _)] ⟨rfl, trivial⟩ ⟨_, _, rfl, (H.pick (L' := []) (by repeat first | exact kPn | refine kPc (by repeat first | exact .head | apply Rem.tail) ?_)), hg_errR, hg_errS, hg_maxl, hg_pow10, hg_tabs, e52⟩
      ·
       rintro e w ⟨b53, M, rfl, H, hg_errR, hg_errS, hg_maxl, hg_pow10, hg_tabs, q57⟩
       obtain rfl := oI q57
       refine TN (RT ?_)
       obtain rfl := oI h
       exact WQ.ret1 rfl rfl H.ext rfl
end Go.Proofs.YtegkhjbajijidaaGreatDoor
end
section
namespace Go.Ph.Md
open Go.Ph.Pl Go.Ph.Pf
open Go.Ph.Chs (vld lower)
abbrev Big (l : List UInt8) : Prop := l.length ≤ 140737488355328
theorem foldI {α σ γ : Type} {L : Nat → σ → Int → Option γ} (l : List α) (F : σ → α → σ) (fin : σ → γ) (I : Nat → σ → Prop)
    (hend : ∀ m s, I l.length s → L (m + 1) s (l.length : Int) = some (fin s))
    (hstep : ∀ m s i a, l[i]? = some a → I i s → I (i + 1) (F s a) ∧ L (m + 1) s (i : Int) = L m (F s a) ((i + 1 : Nat) : Int)) :
    ∀ (d i : Nat) (s : σ) (m : Nat), l.length - i = d → i ≤ l.length → d < m → I i s → L m s (i : Int) = some (fin ((l.drop i).foldl F s)) := by
  intro d
  induction d with
  | zero =>
    intro i s m h1 h2 h3 hI
    obtain ⟨m, rfl⟩ : ∃ k, m = k + 1 := ⟨m - 1, by omega⟩
    obtain rfl : i = l.length := by omega
    rw [hend m s hI, List.drop_length]; rfl
  | succ d ih =>
    intro i s m h1 h2 h3 hI
    obtain ⟨m, rfl⟩ : ∃ k, m = k + 1 := ⟨m - 1, by omega⟩
    have hi : i < l.length := by omega
    obtain ⟨hI', hL⟩ := hstep m s i l[i] (List.getElem?_eq_getElem hi) hI
    rw [hL, ih (i + 1) _ m (by omega) (by omega) (by omega) hI', List.drop_eq_getElem_cons hi]; rfl
theorem foldI0 {α σ γ : Type} {L : Nat → σ → Int → Option γ} (l : List α) (F : σ → α → σ) (fin : σ → γ) (I : Nat → σ → Prop) (hl : l.length ≤ 9223372036854775807)
    (hend : ∀ m s, I l.length s → L (m + 1) s (l.length : Int) = some (fin s))
    (hstep : ∀ m s i a, l[i]? = some a → I i s → I (i + 1) (F s a) ∧ L (m + 1) s (i : Int) = L m (F s a) ((i + 1 : Nat) : Int)) (s : σ) (h0 : I 0 s) : L FU s 0 = some (fin (l.foldl F s)) := by
  have := foldI l F fin I hend hstep l.length 0 s FU (by omega) (by omega) (FU_gt hl) h0
  simpa using this
theorem allB {p : UInt8 → Prop} (h : ∀ n, n < 256 → p (UInt8.ofNat n)) (c : UInt8) : p c := by
  have := h c.toNat c.toNat_lt
  rwa [UInt8.ofNat_toNat] at this
theorem failed_eq (a b : Int) : basic_Failed (a, b) = some (!decide (a = 0)) := rfl
theorem fault_eq (a b : Int) : basic_Fault a b = some (a, b) := by unfold basic_Fault; rfl
theorem none_eq : basic_None = some (0, 0) := rfl
theorem at_eq (a b : Int) : R_At a b = some (a, b) := rfl
theorem rin_eq (a b c : Int) : R_In a b c = some (decide (b ≤ a ∧ a ≤ c)) := by
  unfold R_In
  by_cases h : b ≤ a <;> simp [h]
def tkB (c : UInt8) : Bool := decide (33 ≤ c.toNat) && (decide (c.toNat ≤ 126) && !([40, 41, 60, 62, 64, 44, 59, 58, 92, 34, 47, 91, 93, 63, 61, 42, 37, 39] : List UInt8).any (fun x => decide (x = c)))
theorem tokenByte_eq (c : UInt8) : media_tokenByte c = some (tkB c) := by
  refine allB (p := fun c => media_tokenByte c = some (tkB c)) ?_ c
  decide +kernel
theorem rtokenByte_eq (c : UInt8) : R_TokenByte c = some (tkB c) := by
  refine allB (p := fun c => R_TokenByte c = some (tkB c)) ?_ c
  decide +kernel
theorem all_eq (l : List UInt8) (hl : Big l) (g : UInt8 → Option Bool) (p : UInt8 → Bool) (hg : ∀ c, g c = some (p c)) : basic_All l g = some (l.all p) := by
  unfold basic_All
  rw [scan0 (L := basic_All_L1 l g) (l := l) (p := fun c => !p c) (stop := .inl ()) (r := .inr false) (FU_gt (by omega)) (fun m => by rw [basic_All_L1, if_neg (by omega)]) (fun m i h => by
    rw [basic_All_L1, if_pos (by omega), idx_nat, List.getElem?_eq_getElem h, chk_succ (by have := hl; omega)]
    simp only [bsome, hg]
    cases p l[i] <;> simp)]
  simp only [bsome]
  rw [List.all_eq_not_any_not]
  cases l.any (fun c => !p c) <;> simp
def tkT (l : List UInt8) : Bool := l.all tkB && decide (1 ≤ l.length ∧ l.length ≤ 60)
theorem token_eq (l : List UInt8) (hl : Big l) : media_token l = some (tkT l) := by
  unfold media_token tkT
  by_cases h : l = []
  · subst h; rfl
  · have hpos : 1 ≤ l.length := by cases l <;> simp_all
    rw [if_neg h]
    by_cases h2 : l.length ≤ 60
    · rw [if_pos (by omega), all_eq l hl _ tkB tokenByte_eq]
      simp [hpos, h2]
    · rw [if_neg (by omega)]
      simp [h2]
theorem rtoken_eq (l : List UInt8) (hl : Big l) : R_TokenText l = some (tkT l) := by
  unfold R_TokenText
  rw [scan0 (L := R_TokenText_L1 l) (l := l) (p := fun c => !tkB c) (stop := .inl ()) (r := .inr false) (FU_gt (by omega)) (fun m => by rw [R_TokenText_L1, if_neg (by omega)]) (fun m i h => by
    rw [R_TokenText_L1, if_pos (by omega), idx_nat, List.getElem?_eq_getElem h, chk_succ (by have := hl; omega)]
    simp only [bsome, rtokenByte_eq]
    cases tkB l[i] <;> simp), bsome]
  unfold tkT
  rw [List.all_eq_not_any_not]
  cases l.any (fun c => !tkB c)
  · rw [if_neg (by decide)]
    dsimp only
    rw [rin_eq, bsome]
    congr 1
    rw [Bool.not_false, Bool.true_and]
    exact decide_eq_decide.2 (by omega)
  · rfl
theorem same_eq {a b : List UInt8} (ha : Big a) (hb : Big b) : basic_Same a b = some (decide (lower a = lower b)) := by
  unfold basic_Same; unfold Big at ha hb; rw [if_pos ⟨by omega, by omega⟩]
theorem alike_eq {a b : List UInt8} (ha : Big a) (hb : Big b) : R_Alike a b = some (decide (lower a = lower b)) := by
  unfold R_Alike; unfold Big at ha hb; rw [if_pos ⟨by omega, by omega⟩]
abbrev Par : Type := List UInt8 × List UInt8
abbrev Med : Type := List UInt8 × List UInt8 × List Par
abbrev BigP (l : List Par) : Prop := ∀ x ∈ l, Big x.1 ∧ Big x.2
abbrev BigM (m : Med) : Prop := Big m.1 ∧ Big m.2.1 ∧ BigP m.2.2
def smP (x y : Par) : Bool := decide (lower y.1 = lower x.1)
def pf1 (pre : List Par) (x : Par) : Int := if tkT x.1 = true ∧ x.1.length ≤ 20 then (if pre.any (smP x) = true then 7 else if 500 < x.2.length then 1 else if vld x.2 = true then 0 else 5) else 10
def pfz (pre : List Par) : List Par → Int × Int
  | [] => (0, 0)
  | x :: r => if pf1 pre x = 0 then pfz (pre ++ [x]) r else (pf1 pre x, (pre.length : Int))
theorem pfz_zero : ∀ {l pre : List Par}, (pfz pre l).1 = 0 → pfz pre l = (0, 0)
  | [], pre, h => rfl
  | x :: r, pre, h => by
    rw [pfz] at h ⊢
    by_cases hx : pf1 pre x = 0
    · rw [if_pos hx] at h ⊢
      exact pfz_zero h
    · rw [if_neg hx] at h
      exact absurd h hx
theorem ffr {α : Type} {a : Int} (ha : a ≠ 0) (i : Int) (X : Int × Int) (u : α) : (if (if a = 0 then X else (a, i)).1 = 0 then (.inl u : α ⊕ (Int × Int)) else .inr (if a = 0 then X else (a, i))) = .inr (a, i) := by rw [if_neg ha, if_neg ha]
theorem indexF (l : List Par) (hl : l.length ≤ 1000) (f : Par → Option Bool) (p : Par → Bool) (hf : ∀ x ∈ l, f x = some (p x)) : slices_ContainsFunc_Param l f = some (l.any p) := by
  unfold slices_ContainsFunc_Param slices_IndexFunc_Param
  rcases scanP (fun m i => slices_IndexFunc_Param_L1 l f m i) l (fun i x => if p x = true then some (.inr (i : Int)) else none) (.inl ()) (fun m => by rw [slices_IndexFunc_Param_L1, if_neg (by omega)]) (fun m i h => by
    rw [slices_IndexFunc_Param_L1, if_pos (by omega), idx_nat, List.getElem?_eq_getElem h, bsome]
    have e : f (l[i].1, l[i].2) = some (p l[i]) := hf _ (List.getElem_mem h)
    rw [e, bsome, chk_succ (by omega), bsome]
    cases p l[i] <;> rfl) l.length 0 FU (by omega) (FU_gt (by omega)) (by omega) with ⟨j, hj, r, a1, a2, a3, a4⟩ | ⟨a1, a2⟩
  · rw [Int.natCast_zero] at a4
    have hp : p l[j] = true := by
      cases h : p l[j] with
      | true => rfl
      | false => rw [h, if_neg (by decide)] at a2; cases a2
    rw [hp, if_pos rfl] at a2
    cases a2
    rw [a4, bsome, bsome]
    rw [show l.any p = true from List.any_eq_true.2 ⟨_, List.getElem_mem hj, hp⟩, decide_eq_true (by omega)]
  · rw [Int.natCast_zero] at a2
    rw [a2, bsome, bsome]
    have : l.any p = false := by
      rw [List.any_eq_false]
      intro x hx hp
      obtain ⟨i, hi, rfl⟩ := List.getElem_of_mem hx
      have := a1 i hi (by omega)
      rw [hp, if_pos rfl] at this
      cases this
    rw [this]; rfl
theorem take_drop_cons {α : Type} {l : List α} {i : Nat} (h : i < l.length) : l.take (i + 1) = l.take i ++ [l[i]] := by
  rw [List.take_succ_eq_append_getElem h]
theorem valid_L1 (m0 : Med) (hl : m0.2.2.length ≤ 60) (hb : BigP m0.2.2) (n9 n10 : Int) : ∀ (d i m : Nat), m0.2.2.length - i ≤ d → d < m → i ≤ m0.2.2.length →
    media_Validate_L1 m0 m n9 n10 (i : Int) = some (if (pfz (m0.2.2.take i) (m0.2.2.drop i)).1 = 0 then .inl (n9, n10) else .inr (pfz (m0.2.2.take i) (m0.2.2.drop i))) := by
  obtain ⟨ty, sb, l⟩ := m0
  dsimp only at hl hb ⊢
  intro d
  induction d with
  | zero =>
    intro i m h1 h2 h3
    obtain ⟨m, rfl⟩ : ∃ k, m = k + 1 := ⟨m - 1, by omega⟩
    rw [media_Validate_L1, if_neg (by dsimp only; omega), List.drop_eq_nil_of_le (by omega)]; rfl
  | succ d ih =>
    intro i m h1 h2 h3
    obtain ⟨m, rfl⟩ : ∃ k, m = k + 1 := ⟨m - 1, by omega⟩
    by_cases hi : i < l.length
    · have hx := hb l[i] (List.getElem_mem hi)
      rw [media_Validate_L1]
      dsimp only
      rw [if_pos (by omega), idx_nat, List.getElem?_eq_getElem hi, bsome, List.drop_eq_getElem_cons hi, pfz, ← take_drop_cons hi]
      have hlen : (l.take i).length = i := by rw [List.length_take]; omega
      rw [hlen]
      unfold pf1
      rw [token_eq _ hx.1, bsome]
      by_cases c1 : tkT l[i].1 = true ∧ l[i].1.length ≤ 20
      · rw [if_pos c1, c1.1, if_pos rfl, bsome, decide_eq_false (by have := c1.2; omega), if_neg Bool.false_ne_true, cut_to rfl (by omega), bsome,
          indexF (l.take i) (by omega) _ (smP l[i]) (fun x hx' => by unfold media_Validate_1 smP; rw [same_eq (hb x (List.mem_of_mem_take hx')).1 hx.1]; rfl), bsome]
        by_cases c2 : (l.take i).any (smP l[i]) = true
        · rw [if_pos c2, if_pos c2, fault_eq, bsome, ffr (by decide)]
        · rw [if_neg c2, if_neg c2]
          by_cases c3 : 500 < l[i].2.length
          · rw [if_pos (by omega), if_pos c3, fault_eq, bsome, ffr (by decide)]
          · rw [if_neg (by omega), if_neg c3]
            unfold utf8_ValidString
            rw [if_pos (by omega), bsome]
            by_cases c4 : vld l[i].2 = true
            · rw [if_pos c4, if_pos c4, if_pos rfl, chk_succ (by omega), bsome]
              exact ih (i + 1) m (by omega) (by omega) (by omega)
            · rw [if_neg c4, if_neg c4, fault_eq, bsome, ffr (by decide)]
      · have e : (if tkT l[i].1 = true then some (decide ((20 : Int) < (l[i].1.length : Int))) else some true) = some true := by
          by_cases h : tkT l[i].1 = true
          · rw [if_pos h, decide_eq_true (by have := Nat.lt_of_not_le (fun h2 => c1 ⟨h, h2⟩); omega)]
          · rw [if_neg h]
        rw [if_neg c1, e, bsome, if_pos rfl, fault_eq, bsome, ffr (by decide)]
    · rw [media_Validate_L1, if_neg (by dsimp only; omega), List.drop_eq_nil_of_le (by omega)]; rfl
def valM (m : Med) : Int × Int := if tkT m.1 = true ∧ tkT m.2.1 = true then (if 60 < m.2.2.length then (2, -3) else pfz [] m.2.2) else (10, -2)
theorem tk2 (a b : Bool) : (if a = true then some (!b) else some true : Option Bool) = some (!(a && b)) := by cases a <;> simp
theorem validate_eq (m : Med) (hb : BigM m) : media_Validate m = some (valM m) := by
  unfold media_Validate valM
  rw [token_eq _ hb.1, bsome, token_eq _ hb.2.1, bsome, tk2, bsome]
  by_cases h : tkT m.1 = true ∧ tkT m.2.1 = true
  · rw [if_pos h, h.1, h.2, if_neg (by decide)]
    by_cases h6 : 60 < m.2.2.length
    · rw [if_pos (by omega), fault_eq, bsome, if_pos h6]
    · have := valid_L1 m (by omega) hb.2.2 0 0 m.2.2.length 0 FU (by omega) (by unfold FU; omega) (by omega)
      rw [Int.natCast_zero, List.drop_zero, List.take_zero] at this
      rw [if_neg (by omega), this, bsome, if_neg h6]
      by_cases hz : (pfz [] m.2.2).1 = 0
      · rw [if_pos hz]
        dsimp only
        rw [pfz_zero hz, none_eq, bsome]
      · rw [if_neg hz]
  · have : (tkT m.1 && tkT m.2.1) = false := by
      cases h1 : tkT m.1 <;> cases h2 : tkT m.2.1 <;> simp_all
    rw [this, if_pos (by decide), if_neg h, fault_eq, bsome]
theorem rdup (l : List Par) (hl : l.length ≤ 60) (hb : BigP l) (ty sb : List UInt8) (i : Nat) (hi : i < l.length) (n9 n10 : Int) :
    R_MediaFault_L2 (ty, sb, l) (i : Int) l[i] FU n9 n10 0 = some (if (l.take i).any (smP l[i]) = true then .inr (7, (i : Int)) else .inl (n9, n10)) := by
  have hx := hb l[i] (List.getElem_mem hi)
  have hlen : (l.take i).length = i := by rw [List.length_take]; omega
  refine scan0 (L := fun m k => R_MediaFault_L2 (ty, sb, l) (i : Int) l[i] m n9 n10 k) (l := l.take i) (FU_gt (by omega)) (fun m => by rw [R_MediaFault_L2, if_neg (by omega)]) (fun m k hk => ?_)
  have hk' : k < i := by omega
  rw [R_MediaFault_L2, if_pos (by omega)]
  dsimp only
  rw [idx_nat, List.getElem?_eq_getElem (by omega : k < l.length), bsome, alike_eq (hb _ (List.getElem_mem _)).1 hx.1, bsome, at_eq, bsome, chk_succ (by omega), bsome, List.getElem_take]
  rfl
theorem rvalid_L1 (m0 : Med) (hl : m0.2.2.length ≤ 60) (hb : BigP m0.2.2) (n9 n10 : Int) : ∀ (d i m : Nat), m0.2.2.length - i ≤ d → d < m → i ≤ m0.2.2.length →
    R_MediaFault_L1 m0 m n9 n10 (i : Int) = some (if (pfz (m0.2.2.take i) (m0.2.2.drop i)).1 = 0 then .inl (n9, n10) else .inr (pfz (m0.2.2.take i) (m0.2.2.drop i))) := by
  obtain ⟨ty, sb, l⟩ := m0
  dsimp only at hl hb ⊢
  intro d
  induction d with
  | zero =>
    intro i m h1 h2 h3
    obtain ⟨m, rfl⟩ : ∃ k, m = k + 1 := ⟨m - 1, by omega⟩
    rw [R_MediaFault_L1, if_neg (by dsimp only; omega), List.drop_eq_nil_of_le (by omega)]; rfl
  | succ d ih =>
    intro i m h1 h2 h3
    obtain ⟨m, rfl⟩ : ∃ k, m = k + 1 := ⟨m - 1, by omega⟩
    by_cases hi : i < l.length
    · have hx := hb l[i] (List.getElem_mem hi)
      rw [R_MediaFault_L1]
      dsimp only
      rw [if_pos (by omega), idx_nat, List.getElem?_eq_getElem hi, bsome, List.drop_eq_getElem_cons hi, pfz, ← take_drop_cons hi]
      have hlen : (l.take i).length = i := by rw [List.length_take]; omega
      rw [hlen]
      unfold pf1
      rw [rtoken_eq _ hx.1, bsome]
      by_cases c1 : tkT l[i].1 = true ∧ l[i].1.length ≤ 20
      · rw [if_pos c1, c1.1, if_pos rfl, bsome, decide_eq_false (by have := c1.2; omega), if_neg Bool.false_ne_true, rdup l hl hb ty sb i hi n9 n10, bsome]
        by_cases c2 : (l.take i).any (smP l[i]) = true
        · rw [if_pos c2, if_pos c2, ffr (by decide)]
        · rw [if_neg c2, if_neg c2]
          dsimp only
          by_cases c3 : 500 < l[i].2.length
          · rw [if_pos (by omega), if_pos c3, at_eq, bsome, ffr (by decide)]
          · rw [if_neg (by omega), if_neg c3]
            unfold R_Valid
            rw [if_pos (by omega), bsome]
            by_cases c4 : vld l[i].2 = true
            · rw [if_pos c4, if_pos c4, if_pos rfl, chk_succ (by omega), bsome]
              exact ih (i + 1) m (by omega) (by omega) (by omega)
            · rw [if_neg c4, if_neg c4, at_eq, bsome, ffr (by decide)]
      · have e : (if tkT l[i].1 = true then some (decide ((20 : Int) < (l[i].1.length : Int))) else some true) = some true := by
          by_cases h : tkT l[i].1 = true
          · rw [if_pos h, decide_eq_true (by have := Nat.lt_of_not_le (fun h2 => c1 ⟨h, h2⟩); omega)]
          · rw [if_neg h]
        rw [if_neg c1, e, bsome, if_pos rfl, at_eq, bsome, ffr (by decide)]
    · rw [R_MediaFault_L1, if_neg (by dsimp only; omega), List.drop_eq_nil_of_le (by omega)]; rfl
theorem rfault_eq (m : Med) (hb : BigM m) : R_MediaFault m = some (valM m) := by
  unfold R_MediaFault valM
  rw [rtoken_eq _ hb.1, bsome, rtoken_eq _ hb.2.1, bsome, tk2, bsome]
  by_cases h : tkT m.1 = true ∧ tkT m.2.1 = true
  · rw [if_pos h, h.1, h.2, if_neg (by decide)]
    by_cases h6 : 60 < m.2.2.length
    · rw [if_pos (by omega), at_eq, bsome, if_pos h6]
    · have := rvalid_L1 m (by omega) hb.2.2 0 0 m.2.2.length 0 FU (by omega) (by unfold FU; omega) (by omega)
      rw [Int.natCast_zero, List.drop_zero, List.take_zero] at this
      rw [if_neg (by omega), this, bsome, if_neg h6]
      by_cases hz : (pfz [] m.2.2).1 = 0
      · rw [if_pos hz]
        dsimp only
        rw [pfz_zero hz]
      · rw [if_neg hz]
  · have : (tkT m.1 && tkT m.2.1) = false := by
      cases h1 : tkT m.1 <;> cases h2 : tkT m.2.1 <;> simp_all
    rw [this, if_pos (by decide), if_neg h, at_eq, bsome]
theorem example_any {x : Option Bool} (ex : x = some true) {k : Option Bool} : (x.bind fun b => if b = true then k else some false) = k := by rw [ex, bsome, if_pos rfl]
end Go.Ph.Md
end
section
namespace Go.Ph.Md
open Go.Ph.Pl Go.Ph.Pf
open Go.Ph.Chs (vld lower)
def hexd : List UInt8 := [48, 49, 50, 51, 52, 53, 54, 55, 56, 57, 65, 66, 67, 68, 69, 70]
def hx (n : Nat) : UInt8 := hexd.getD n 0
theorem dgF_len : ∀ (m n : Nat), (dgF m n).length ≤ m
  | 0, n => Nat.le_refl _
  | m + 1, n => by
    rw [dgF]
    have := dgF_len m (n / 10)
    split
    · simp
    · rw [List.length_append, List.length_singleton]; omega
theorem dec10 : ∀ p : Nat, p < 10 → (([48, 49, 50, 51, 52, 53, 54, 55, 56, 57] : List UInt8).take (p + 1)).drop p = [UInt8.ofNat (48 + p)] := by decide
theorem decC (p : Nat) (h : p < 10) : cut ([48, 49, 50, 51, 52, 53, 54, 55, 56, 57] : List UInt8) (p : Int) (IntKind.u64.wrap ((p : Int) + 1)) = some [UInt8.ofNat (48 + p)] := by
  rw [u64_in (by omega), show ((p : Int) + 1) = ((p + 1 : Nat) : Int) by omega, cut_of rfl rfl (by omega) (by simp; omega), dec10 p h]
theorem decR (k : Nat) : ∀ (n m : Nat), k ≤ 100 → n < 10 ^ (k + 1) → n < 1000000000000 → k < m → R_decimal_R m (n : Int) = some (dgF (k + 1) n) := by
  induction k with
  | zero =>
    intro n m hk h h9 hm
    obtain ⟨m, rfl⟩ : ∃ j, m = j + 1 := ⟨m - 1, by omega⟩
    have hn : n < 10 := by simpa using h
    rw [R_decimal_R, R_decimal_B, dgF, if_pos (by omega), if_pos hn, decC n hn, bsome]
  | succ k ih =>
    intro n m hk h h9 hm
    obtain ⟨m, rfl⟩ : ∃ j, m = j + 1 := ⟨m - 1, by omega⟩
    rw [R_decimal_R, R_decimal_B, dgF]
    by_cases hn : n < 10
    · rw [if_pos (by omega), if_pos hn, decC n hn, bsome]
    · have e1 : Int.tdiv (n : Int) 10 = ((n / 10 : Nat) : Int) := by rw [Int.tdiv_eq_ediv_of_nonneg (by omega)]; omega
      have e2 : Int.tmod (n : Int) 10 = ((n % 10 : Nat) : Int) := by rw [Int.tmod_eq_emod_of_nonneg (by omega)]; omega
      have hd := dgF_len (k + 1) (n / 10)
      rw [if_neg (by omega), if_neg hn, e1, u64_in (by omega), ih (n / 10) m (by omega) (by rw [Nat.div_lt_iff_lt_mul (by omega), ← Nat.pow_succ]; exact h) (by omega) (by omega), bsome, e2, decC _ (Nat.mod_lt _ (by omega)), bsome, cat_ok (by rw [List.length_singleton]; omega), bsome]
theorem number_eq (n : Nat) (h : n < 1000000000000) : R_Number (n : Int) = some (itoaP n) := by
  unfold R_Number R_decimal
  rw [if_neg (by omega), u64_in (by omega), decR 19 n FU (by omega) (by omega) h (by rw [FU_eq]; omega), bsome]
  unfold itoaP
  rw [if_neg (by omega), Int.toNat_natCast]
def esc (c : UInt8) : Option (List UInt8) := if c = 34 then some [92, 34] else if c = 92 then some [92, 92] else none
def q1 (c : UInt8) : List UInt8 := (esc c).getD [c]
def qt (p : List UInt8) : List UInt8 := p.flatMap q1
end Go.Ph.Md
end
section
namespace Go.Ph.Md
open Go.Ph.Pl Go.Ph.Pf
open Go.Ph.Chs (vld lower)
def pct1 (c : UInt8) : List UInt8 := if tkB c = true then [c] else [37, hx (c.toNat / 16), hx (c.toNat % 16)]
def pre8 : List UInt8 := [117, 116, 102, 56, 39, 39]
abbrev PS : Type := List (List UInt8) × List UInt8
def psS (st : PS) (c : UInt8) : PS := if st.2.length + (pct1 c).length ≤ 60 then (st.1, st.2 ++ pct1 c) else (st.1 ++ [st.2], pct1 c)
def psF (v : List UInt8) : PS := v.foldl psS ([], pre8)
def pieces (v : List UInt8) : List (List UInt8) := (psF v).1 ++ [(psF v).2]
theorem last_idx {α : Type} (A : List α) (x : α) : idx (A ++ [x]) (A.length : Int) = some x := by
  rw [idx_nat, List.getElem?_append_right (Nat.le_refl _), Nat.sub_self]; rfl
theorem cut_one {v : List UInt8} {i : Nat} {x : UInt8} (hx : v[i]? = some x) : cut v (i : Int) ((i + 1 : Nat) : Int) = some [x] := by
  have hi := (List.getElem?_eq_some_iff.1 hx).1
  rw [List.getElem?_eq_getElem hi] at hx
  cases hx
  rw [cut_of rfl rfl (by omega) (by omega), List.drop_take, show i + 1 - i = 1 by omega, List.drop_eq_getElem_cons hi]; rfl
def exU (n : List UInt8) (i : Nat) (p : List UInt8) : List UInt8 := [59, 32] ++ n ++ [42] ++ itoaP i ++ [42, 61] ++ p
def exT (n : List UInt8) : Nat → List (List UInt8) → List UInt8
  | _, [] => []
  | i, p :: r => exU n i p ++ exT n (i + 1) r
def prB (c : UInt8) : Bool := decide (32 ≤ c.toNat ∧ c.toNat ≤ 126)
def simp60 (v : List UInt8) : Bool := decide (v.length ≤ 60) && v.all prB
def paramT (x : Par) : List UInt8 :=
  if tkT x.2 = true then [59, 32] ++ x.1 ++ [61] ++ x.2 else if simp60 x.2 = true then [59, 32] ++ x.1 ++ [61, 34] ++ qt x.2 ++ [34] else exT x.1 0 (pieces x.2)
theorem flat_len {l : List Par} (h : ∀ x ∈ l, (paramT x).length ≤ 60000) : (l.flatMap paramT).length ≤ 60000 * l.length := by
  induction l with
  | nil => simp
  | cons x l ih =>
    have h1 := ih (fun y hy => h y (by simp [hy]))
    have h2 := h x (by simp)
    rw [List.flatMap_cons, List.length_append, List.length_cons, Nat.mul_succ]; omega
end Go.Ph.Md
end
section
namespace Go.Ph.Md
open Go.Ph.Pl Go.Ph.Pf
theorem ex_law : L_mediaExample = some true := by decide +kernel
end Go.Ph.Md
end
section
namespace Go.Ph.Md
open Go.Ph.Pl Go.Ph.Pf
open Go.Ph.Chs (vld lower)
theorem tw_take (p : UInt8 → Bool) : ∀ l : List UInt8, l.take (l.takeWhile p).length = l.takeWhile p
  | [] => rfl
  | c :: l => by
    cases h : p c with
    | true => rw [List.takeWhile_cons_of_pos h, List.length_cons, List.take_succ_cons, tw_take p l]
    | false => rw [List.takeWhile_cons_of_neg (by simp [h])]; rfl
theorem tw_drop (p : UInt8 → Bool) : ∀ l : List UInt8, l.drop (l.takeWhile p).length = l.dropWhile p
  | [] => rfl
  | c :: l => by
    cases h : p c with
    | true => rw [List.takeWhile_cons_of_pos h, List.dropWhile_cons_of_pos h, List.length_cons, List.drop_succ_cons, tw_drop p l]
    | false => rw [List.takeWhile_cons_of_neg (by simp [h]), List.dropWhile_cons_of_neg (by simp [h])]; rfl
theorem tw_len (p : UInt8 → Bool) (l : List UInt8) : (l.takeWhile p).length ≤ l.length := (List.takeWhile_sublist p).length_le
theorem dw_len (p : UInt8 → Bool) (l : List UInt8) : (l.dropWhile p).length ≤ l.length := (List.dropWhile_sublist p).length_le
theorem dw_head {p : UInt8 → Bool} : ∀ {l : List UInt8} {c : UInt8} {r : List UInt8}, l.dropWhile p = c :: r → p c = false
  | [], c, r, h => by cases h
  | d :: l, c, r, h => by
    cases hd : p d with
    | true => rw [List.dropWhile_cons_of_pos hd] at h; exact dw_head h
    | false => rw [List.dropWhile_cons_of_neg (by simp [hd])] at h; cases h; exact hd
theorem dw_id {p : UInt8 → Bool} {l : List UInt8} (h : ∀ c r, l = c :: r → p c = false) : l.dropWhile p = l := by
  cases l with
  | nil => rfl
  | cons c r => exact List.dropWhile_cons_of_neg (by simp [h c r rfl])
theorem scanW {L : Nat → Int → Option Int} (s : List UInt8) (p : UInt8 → Bool) (hend : ∀ m, L (m + 1) (s.length : Int) = some (s.length : Int))
    (hstep : ∀ m i (h : i < s.length), L (m + 1) (i : Int) = if p s[i] = true then L m ((i + 1 : Nat) : Int) else some (i : Int)) :
    ∀ (d i m : Nat), s.length - i ≤ d → d < m → i ≤ s.length → L m (i : Int) = some ((i + ((s.drop i).takeWhile p).length : Nat) : Int) := by
  intro d
  induction d with
  | zero =>
    intro i m h1 h2 h3
    obtain ⟨m, rfl⟩ : ∃ k, m = k + 1 := ⟨m - 1, by omega⟩
    obtain rfl : i = s.length := by omega
    rw [hend, List.drop_length]; rfl
  | succ d ih =>
    intro i m h1 h2 h3
    obtain ⟨m, rfl⟩ : ∃ k, m = k + 1 := ⟨m - 1, by omega⟩
    by_cases hi : i < s.length
    · rw [hstep m i hi, List.drop_eq_getElem_cons hi]
      cases h : p s[i] with
      | true => rw [if_pos rfl, ih (i + 1) m (by omega) (by omega) (by omega), List.takeWhile_cons_of_pos h, List.length_cons]; congr 2; omega
      | false => rw [if_neg (by decide), List.takeWhile_cons_of_neg (by simp [h])]; rfl
    · obtain rfl : i = s.length := by omega
      rw [hend, List.drop_length]; rfl
def blB (c : UInt8) : Bool := decide (c = 32) || decide (c = 9)
def tl (t : List UInt8) : List UInt8 := t.dropWhile blB
theorem tl_tl (t : List UInt8) : tl (tl t) = tl t := dw_id fun c r h => dw_head h
theorem tl_len (t : List UInt8) : (tl t).length ≤ t.length := dw_len _ _
theorem set_blank : strings_makeASCIISet [32, 9] = some ((List.range 256).map (fun n => decide (n = 32) || decide (n = 9)), true) := by decide +kernel
theorem contains_at (f : Nat → Bool) (c : UInt8) : strings_asciiSet_contains ((List.range 256).map f) c = some (f c.toNat) := by
  have hc := c.toNat_lt
  unfold strings_asciiSet_contains idxA
  rw [if_pos (by simp), idx_nat, List.getElem?_map, List.getElem?_range (by omega)]
  rfl
theorem blB_nat (c : UInt8) : (decide (c.toNat = 32) || decide (c.toNat = 9)) = blB c := by
  unfold blB
  rw [show decide (c.toNat = 32) = decide (c = 32) from decide_eq_decide.2 (u8_lit c 32).symm, show decide (c.toNat = 9) = decide (c = 9) from decide_eq_decide.2 (u8_lit c 9).symm]
theorem trimLA_eq : ∀ (k m : Nat) (l : List UInt8), l.length ≤ k → k < m → Big l → strings_trimLeftASCII_L1 ((List.range 256).map (fun n => decide (n = 32) || decide (n = 9))) m l = some (tl l)
  | k, m, l, h1, h2, h3 => by
    obtain ⟨m, rfl⟩ : ∃ k, m = k + 1 := ⟨m - 1, by omega⟩
    unfold tl
    cases l with
    | nil => rw [strings_trimLeftASCII_L1, if_neg (by simp)]; rfl
    | cons c r =>
      rw [strings_trimLeftASCII_L1, if_pos (by simp only [List.length_cons]; omega), show (0 : Int) = ((0 : Nat) : Int) from rfl, idx_nat]
      simp only [bsome, List.getElem?_cons_zero, contains_at, blB_nat]
      cases hc : blB c with
      | true =>
        rw [if_pos rfl, cut_from (i := 1) (a := 1) rfl (by simp)]
        simp only [bsome, List.drop_succ_cons, List.drop_zero]
        cases k with
        | zero => simp at h1
        | succ k => rw [trimLA_eq k m r (by simpa using h1) (by omega) (by simp only [Big, List.length_cons] at h3 ⊢; omega), List.dropWhile_cons_of_pos hc]; rfl
      | false => rw [if_neg (by simp), List.dropWhile_cons_of_neg (by simp [hc])]
theorem blanks_eq (t : List UInt8) (ht : Big t) : media_reader_blanks t = some (tl t) := by
  unfold media_reader_blanks strings_TrimLeft
  by_cases h : t = []
  · subst h; rfl
  · rw [if_neg h]
    simp only [bsome, show (decide (([32, 9] : List UInt8) = [])) = false from rfl, Bool.false_eq_true, if_false]
    rw [if_neg (by decide), bsome, if_neg (by decide), set_blank, bsome]
    dsimp only
    rw [chkA_ok List.length_replicate, bsome, chkA_ok (by rw [List.length_map, List.length_range]), bsome, if_pos rfl]
    unfold strings_trimLeftASCII
    rw [trimLA_eq t.length FU t (Nat.le_refl _) (FU_gt (by unfold Big at ht; omega)) ht, bsome, bsome]
    rfl
def pN (more : List UInt8) (c : UInt8) : Bool := tkB c || more.any (fun x => decide (x = c))
theorem pN_nil : pN [] = tkB := by
  funext c
  unfold pN
  rw [List.any_nil, Bool.or_false]
theorem read_1_eq (c : UInt8) : media_reader_read_1 c = some (pN [42] c) := by
  refine allB (p := fun c => media_reader_read_1 c = some (pN [42] c)) ?_ c
  decide +kernel
theorem value_1_eq (c : UInt8) : media_reader_value_1 c = some (pN [37, 39, 42] c) := by
  refine allB (p := fun c => media_reader_value_1 c = some (pN [37, 39, 42] c)) ?_ c
  decide +kernel
theorem oneOf_eq (c : UInt8) (l : List UInt8) (hl : Big l) : R_OneOf c l = some (l.any (fun x => decide (x = c))) := by
  unfold R_OneOf
  rw [scan0 (L := R_OneOf_L1 c l) (l := l) (p := fun x => decide (x = c)) (stop := .inl ()) (r := .inr true) (FU_gt (by unfold Big at hl; omega)) (fun m => by rw [R_OneOf_L1, if_neg (by omega)]) (fun m i h => by
    rw [R_OneOf_L1, if_pos (by omega), idx_nat, List.getElem?_eq_getElem h, bsome, chk_succ (by unfold Big at hl; omega), bsome]
    by_cases hc : l[i] = c
    · rw [if_pos hc, if_pos (by simpa using hc)]
    · rw [if_neg hc, if_neg (by simpa using hc)]), bsome]
  cases l.any (fun x => decide (x = c)) <;> rfl
theorem take_eq (t : List UInt8) (ht : Big t) (f : UInt8 → Option Bool) (p : UInt8 → Bool) (hf : ∀ c, f c = some (p c)) : media_reader_take t f = some ((tl t).takeWhile p, (tl t).dropWhile p) := by
  unfold media_reader_take
  have hl := tl_len t
  have hw := tw_len p (tl t)
  unfold Big at ht
  rw [blanks_eq t ht, bsome]
  have := scanW (L := fun m i => media_reader_take_L1 f (tl t) m i) (tl t) p (fun m => by rw [media_reader_take_L1, if_neg (by omega), bsome, if_neg (by decide)]) (fun m i h => by
    rw [media_reader_take_L1, if_pos (by omega), idx_nat, List.getElem?_eq_getElem h, bsome, hf, bsome, bsome, chk_succ (by omega), bsome]) (tl t).length 0 FU (by omega) (FU_gt (by omega)) (by omega)
  rw [Int.natCast_zero, List.drop_zero, Nat.zero_add] at this
  rw [this, bsome, cut_to rfl hw, bsome, cut_from rfl hw, bsome, tw_take, tw_drop]
def sgn (c : UInt8) (t : List UInt8) : Option (List UInt8) := match tl t with | x :: r => if x = c then some r else none | [] => none
theorem sgn_len {c : UInt8} {t r : List UInt8} (h : sgn c t = some r) : r.length < t.length := by
  unfold sgn at h
  have := tl_len t
  cases ht : tl t with
  | nil => rw [ht] at h; cases h
  | cons x q =>
    rw [ht] at h this
    dsimp only at h
    split at h
    · cases h; rw [List.length_cons] at this; omega
    · cases h
theorem sign_eq (t : List UInt8) (ht : Big t) (c : UInt8) : media_reader_sign t c = some (match sgn c t with | some r => (true, r) | none => (false, tl t)) := by
  unfold media_reader_sign sgn
  rw [blanks_eq t ht, bsome]
  cases h : tl t with
  | nil => rfl
  | cons x r =>
    rw [if_neg (by simp), show (0 : Int) = ((0 : Nat) : Int) from rfl, idx_nat, List.getElem?_cons_zero, bsome, bsome]
    dsimp only
    by_cases hx : x = c
    · rw [decide_eq_true hx, if_neg (by decide), if_pos hx, cut_from (i := 1) (a := 1) rfl (by simp), bsome]; rfl
    · rw [decide_eq_false hx, if_pos (by decide), if_neg hx]
def qv : List UInt8 → Option (List UInt8 × List UInt8)
  | [] => none
  | c :: r => if c = 34 then some ([], r) else if c = 92 then (match r with | [] => none | d :: r2 => (qv r2).map fun p => (d :: p.1, p.2)) else (qv r).map fun p => (c :: p.1, p.2)
theorem qv_cons (c : UInt8) (r : List UInt8) : qv (c :: r) = if c = 34 then some ([], r) else if c = 92 then (match r with | [] => none | d :: r2 => (qv r2).map fun p => (d :: p.1, p.2)) else (qv r).map fun p => (c :: p.1, p.2) := by
  cases r with
  | nil => (conv => lhs; rw [qv]) <;> rfl
  | cons d r => rw [qv]
theorem qv_rest : ∀ (n : Nat) (t : List UInt8) (v r : List UInt8), t.length ≤ n → qv t = some (v, r) → r.length < t.length ∧ v.length ≤ t.length
  | n, [], v, r, hn, h => by cases h
  | 0, c :: t, v, r, hn, h => by simp at hn
  | n + 1, c :: t, v, r, hn, h => by
    rw [qv_cons] at h
    rw [List.length_cons] at hn ⊢
    by_cases h1 : c = 34
    · rw [if_pos h1] at h; cases h; exact ⟨by omega, by simp⟩
    · rw [if_neg h1] at h
      by_cases h2 : c = 92
      · rw [if_pos h2] at h
        cases t with
        | nil => cases h
        | cons d t =>
          obtain ⟨⟨v', r'⟩, h3, h4⟩ := Option.map_eq_some_iff.1 h
          dsimp only at h4
          cases h4
          have := qv_rest n t v' _ (by rw [List.length_cons] at hn; omega) h3
          rw [List.length_cons, List.length_cons]; omega
      · rw [if_neg h2] at h
        obtain ⟨⟨v', r'⟩, h3, h4⟩ := Option.map_eq_some_iff.1 h
        dsimp only at h4
        cases h4
        have := qv_rest n t v' _ (by omega) h3
        rw [List.length_cons]; omega
theorem value_L1 (s : List UInt8) (hs : s.length ≤ 1000000) : ∀ (d i m : Nat) (acc : List UInt8), s.length - i ≤ d → d < m → i ≤ s.length → acc.length ≤ i →
    ∃ o, media_reader_value_L1 m s acc (i : Int) = some o ∧ (match qv (s.drop i) with | some (v, r) => o = .inr (acc ++ v, true, r) | none => o = .inl s ∨ o = .inr ([], false, s)) := by
  intro d
  induction d using Nat.strongRecOn with
  | ind d ih =>
    intro i m acc h1 h2 h3 h4
    obtain ⟨m, rfl⟩ : ∃ k, m = k + 1 := ⟨m - 1, by omega⟩
    rw [media_reader_value_L1]
    by_cases hi : i < s.length
    · rw [if_pos (by omega), idx_nat, List.getElem?_eq_getElem hi, bsome, List.drop_eq_getElem_cons hi, qv_cons]
      by_cases c1 : s[i] = 34
      · rw [if_pos c1, if_pos c1, chk_succ (by omega), bsome, cut_from rfl (by omega), bsome]
        exact ⟨_, rfl, by simp⟩
      · rw [if_neg c1, if_neg c1]
        by_cases c2 : s[i] = 92
        · rw [if_pos c2, if_pos c2, chk_succ (by omega), bsome]
          by_cases he : i + 1 = s.length
          · rw [if_pos (by omega), List.drop_eq_nil_of_le (by omega)]
            exact ⟨_, rfl, .inr rfl⟩
          · have hi1 : i + 1 < s.length := by omega
            rw [if_neg (by omega), idx_nat, List.getElem?_eq_getElem hi1, bsome, app_ok (by simp; omega), bsome, chk_succ (by omega), bsome, List.drop_eq_getElem_cons hi1]
            dsimp only
            obtain ⟨o, ho, hq⟩ := ih (d - 2) (by omega) (i + 1 + 1) m (acc ++ [s[i + 1]]) (by omega) (by omega) (by omega) (by simp; omega)
            refine ⟨o, ho, ?_⟩
            cases hz : qv (s.drop (i + 1 + 1)) with
            | none => rw [hz] at hq; exact hq
            | some p => rw [hz] at hq; dsimp only [Option.map_some]; dsimp only at hq; rw [hq, List.append_assoc]; rfl
        · rw [if_neg c2, if_neg c2, app_ok (by simp; omega), bsome, chk_succ (by omega), bsome]
          obtain ⟨o, ho, hq⟩ := ih (d - 1) (by omega) (i + 1) m (acc ++ [s[i]]) (by omega) (by omega) (by omega) (by simp; omega)
          refine ⟨o, ho, ?_⟩
          cases hz : qv (s.drop (i + 1)) with
          | none => rw [hz] at hq; exact hq
          | some p => rw [hz] at hq; dsimp only [Option.map_some]; dsimp only at hq; rw [hq, List.append_assoc]; rfl
    · rw [if_neg (by omega), List.drop_eq_nil_of_le (by omega)]
      exact ⟨_, rfl, .inl rfl⟩
def vl (t : List UInt8) : Option (List UInt8 × List UInt8) := match sgn 34 t with | some r => qv r | none => some ((tl t).takeWhile (pN [37, 39, 42]), (tl t).dropWhile (pN [37, 39, 42]))
theorem vl_len {t v r : List UInt8} (h : vl t = some (v, r)) : r.length ≤ t.length ∧ v.length ≤ t.length := by
  unfold vl at h
  cases hs : sgn 34 t with
  | some q =>
    rw [hs] at h
    have h1 := sgn_len hs
    have h2 := qv_rest _ _ _ _ (Nat.le_refl _) h
    omega
  | none =>
    rw [hs] at h
    cases h
    have h1 := tl_len t
    have h2 := tw_len (pN [37, 39, 42]) (tl t)
    have h3 := dw_len (pN [37, 39, 42]) (tl t)
    omega
theorem value_eq (t : List UInt8) (ht : t.length ≤ 1000000) : (∃ v r, vl t = some (v, r) ∧ media_reader_value t = some (v, true, r)) ∨ (vl t = none ∧ ∃ r, media_reader_value t = some ([], false, r)) := by
  unfold media_reader_value vl
  rw [sign_eq t (by unfold Big; omega)]
  cases hs : sgn 34 t with
  | some q =>
    have h1 := sgn_len hs
    dsimp only
    rw [bsome]
    dsimp only
    rw [if_pos rfl]
    obtain ⟨o, ho, hq⟩ := value_L1 q (by omega) q.length 0 FU [] (by omega) (FU_gt (by omega)) (by omega) (by simp)
    rw [Int.natCast_zero] at ho
    rw [List.drop_zero] at hq
    rw [ho, bsome]
    cases hz : qv q with
    | some p =>
      obtain ⟨v, r⟩ := p
      rw [hz] at hq
      dsimp only at hq
      subst hq
      exact .inl ⟨v, r, rfl, rfl⟩
    | none =>
      rw [hz] at hq
      rcases hq with rfl | rfl
      · exact .inr ⟨rfl, _, rfl⟩
      · exact .inr ⟨rfl, _, rfl⟩
  | none =>
    dsimp only
    rw [bsome]
    dsimp only
    have := tl_len t
    rw [if_neg (by decide), take_eq (tl t) (by unfold Big; omega) _ _ value_1_eq, bsome, tl_tl]
    exact .inl ⟨_, _, rfl, rfl⟩
theorem rblank_eq (c : UInt8) : R_Blank c = some (blB c) := by
  refine allB (p := fun c => R_Blank c = some (blB c)) ?_ c
  decide +kernel
def skN (s : List UInt8) (i : Nat) : Nat := i + ((s.drop i).takeWhile blB).length
theorem skN_drop (s : List UInt8) (i : Nat) : s.drop (skN s i) = tl (s.drop i) := by
  unfold skN tl
  rw [← List.drop_drop, tw_drop]
theorem skN_le (s : List UInt8) (i : Nat) (h : i ≤ s.length) : i ≤ skN s i ∧ skN s i ≤ s.length := by
  unfold skN
  have := tw_len blB (s.drop i)
  rw [List.length_drop] at this
  omega
theorem skip_eq (s : List UInt8) (hs : Big s) (i : Nat) (h : i ≤ s.length) : R_skip s (i : Int) = some ((skN s i : Nat) : Int) := by
  unfold R_skip Big at *
  rw [scanW (L := fun m i => R_skip_L1 s m i) s blB (fun m => by rw [R_skip_L1, if_neg (by omega), bsome, if_neg (by decide)]) (fun m i h => by
    rw [R_skip_L1, if_pos (by omega), idx_nat, List.getElem?_eq_getElem h, bsome, rblank_eq, bsome, bsome, chk_succ (by omega), bsome]) s.length i FU (by omega) (FU_gt (by omega)) h, bsome]
  rfl
def ruN (s : List UInt8) (i : Nat) (more : List UInt8) : Nat := i + ((s.drop i).takeWhile (pN more)).length
theorem ruN_drop (s : List UInt8) (i : Nat) (more : List UInt8) : s.drop (ruN s i more) = (s.drop i).dropWhile (pN more) := by
  unfold ruN
  rw [← List.drop_drop, tw_drop]
theorem ruN_le (s : List UInt8) (i : Nat) (more : List UInt8) (h : i ≤ s.length) : i ≤ ruN s i more ∧ ruN s i more ≤ s.length := by
  unfold ruN
  have := tw_len (pN more) (s.drop i)
  rw [List.length_drop] at this
  omega
theorem ruN_cut (s : List UInt8) (i : Nat) (more : List UInt8) (h : i ≤ s.length) : cut s (i : Int) ((ruN s i more : Nat) : Int) = some ((s.drop i).takeWhile (pN more)) := by
  obtain ⟨h1, h2⟩ := ruN_le s i more h
  rw [cut_of rfl rfl h1 h2, List.drop_take]
  unfold ruN
  rw [Nat.add_sub_cancel_left, tw_take]
theorem run_eq (s : List UInt8) (hs : Big s) (i : Nat) (h : i ≤ s.length) (more : List UInt8) (hm : Big more) : R_run s (i : Int) more = some ((ruN s i more : Nat) : Int) := by
  unfold R_run
  unfold Big at hs
  rw [scanW (L := fun m i => R_run_L1 s more m i) s (pN more) (fun m => by rw [R_run_L1, if_neg (by omega), bsome, if_neg (by decide)]) (fun m i h => by
    rw [R_run_L1, if_pos (by omega), idx_nat, List.getElem?_eq_getElem h, bsome, rtokenByte_eq, bsome, bsome, oneOf_eq _ _ hm, bsome, chk_succ (by omega), bsome]
    unfold pN
    cases tkB s[i]
    · rw [if_neg (by decide), bsome, Bool.false_or]
    · rw [if_pos rfl, bsome, Bool.true_or]) s.length i FU (by omega) (FU_gt (by omega)) h, bsome]
  rfl
theorem rvalue_L2 (s : List UInt8) (hs : s.length ≤ 1000000) : ∀ (d i m : Nat) (acc : List UInt8), s.length - i ≤ d → d < m → i ≤ s.length → acc.length ≤ i →
    match qv (s.drop i) with
    | some (v, r) => ∃ j, i ≤ j ∧ j < s.length ∧ r = s.drop (j + 1) ∧ R_MediaRead_L2 s m (i : Int) acc = some ((j : Int), acc ++ v)
    | none => ∃ w, R_MediaRead_L2 s m (i : Int) acc = some ((s.length : Int), w) := by
  intro d
  induction d using Nat.strongRecOn with
  | ind d ih =>
    intro i m acc h1 h2 h3 h4
    obtain ⟨m, rfl⟩ : ∃ k, m = k + 1 := ⟨m - 1, by omega⟩
    by_cases hi : i < s.length
    · rw [List.drop_eq_getElem_cons hi, qv_cons]
      by_cases c1 : s[i] = 34
      · have e : R_MediaRead_L2 s (m + 1) (i : Int) acc = some ((i : Int), acc) := by
          rw [R_MediaRead_L2, if_pos (by omega), idx_nat, List.getElem?_eq_getElem hi, bsome, bsome, decide_eq_true c1, if_neg (by decide)]
        rw [if_pos c1, e]
        exact ⟨i, Nat.le_refl _, hi, rfl, by rw [List.append_nil]⟩
      · rw [if_neg c1]
        by_cases c2 : s[i] = 92
        · rw [if_pos c2]
          by_cases he : i + 1 = s.length
          · have e : R_MediaRead_L2 s (m + 1) (i : Int) acc = R_MediaRead_L2 s m ((s.length : Nat) : Int) (acc ++ [s[i]]) := by
              rw [R_MediaRead_L2, if_pos (by omega), idx_nat, List.getElem?_eq_getElem hi, bsome, bsome, decide_eq_false c1, if_pos (by decide), bsome, if_pos c2, chk_succ (by omega), bsome, bsome, decide_eq_false (by omega), if_neg (by decide), bsome, chk_succ (by omega), bsome, cut_one (List.getElem?_eq_getElem hi), bsome, cat_ok (by simp; omega), bsome, bsome, he]
            rw [List.drop_eq_nil_of_le (by omega : s.length ≤ i + 1)]
            dsimp only
            obtain ⟨m, rfl⟩ : ∃ k, m = k + 1 := ⟨m - 1, by omega⟩
            rw [e, R_MediaRead_L2, if_neg (by omega), bsome, if_neg (by decide)]
            exact ⟨_, rfl⟩
          · have hi1 : i + 1 < s.length := by omega
            have e : R_MediaRead_L2 s (m + 1) (i : Int) acc = R_MediaRead_L2 s m ((i + 1 + 1 : Nat) : Int) (acc ++ [s[i + 1]]) := by
              rw [R_MediaRead_L2, if_pos (by omega), idx_nat, List.getElem?_eq_getElem hi, bsome, bsome, decide_eq_false c1, if_pos (by decide), bsome, if_pos c2, chk_succ (by omega), bsome, bsome, decide_eq_true (by omega), if_pos rfl, bsome, bsome, chk_succ (by omega), bsome, cut_one (List.getElem?_eq_getElem hi1), bsome, cat_ok (by simp; omega), bsome, bsome]
            rw [List.drop_eq_getElem_cons hi1, e]
            dsimp only
            have hq := ih (d - 2) (by omega) (i + 1 + 1) m (acc ++ [s[i + 1]]) (by omega) (by omega) (by omega) (by simp; omega)
            cases hz : qv (s.drop (i + 1 + 1)) with
            | none => rw [hz] at hq; exact hq
            | some p =>
              rw [hz] at hq
              dsimp only [Option.map_some]
              dsimp only at hq
              obtain ⟨j, a, b, c, e2⟩ := hq
              exact ⟨j, by omega, b, c, by rw [e2, List.append_assoc]; rfl⟩
        · have e : R_MediaRead_L2 s (m + 1) (i : Int) acc = R_MediaRead_L2 s m ((i + 1 : Nat) : Int) (acc ++ [s[i]]) := by
            rw [R_MediaRead_L2, if_pos (by omega), idx_nat, List.getElem?_eq_getElem hi, bsome, bsome, decide_eq_false c1, if_pos (by decide), bsome, if_neg c2, bsome, if_neg (by decide), bsome, chk_succ (by omega), bsome, cut_one (List.getElem?_eq_getElem hi), bsome, cat_ok (by simp; omega), bsome, bsome]
          rw [if_neg c2, e]
          have hq := ih (d - 1) (by omega) (i + 1) m (acc ++ [s[i]]) (by omega) (by omega) (by omega) (by simp; omega)
          cases hz : qv (s.drop (i + 1)) with
          | none => rw [hz] at hq; exact hq
          | some p =>
            rw [hz] at hq
            dsimp only [Option.map_some]
            dsimp only at hq
            obtain ⟨j, a, b, c, e2⟩ := hq
            exact ⟨j, by omega, b, c, by rw [e2, List.append_assoc]; rfl⟩
    · obtain rfl : i = s.length := by omega
      rw [List.drop_length, R_MediaRead_L2, if_neg (by omega), bsome, if_neg (by decide)]
      exact ⟨_, rfl⟩
end Go.Ph.Md
end
section
namespace Go.Ph.Md
open Go.Ph.Pl Go.Ph.Pf
open Go.Ph.Chs (vld lower)
abbrev dg (c : UInt8) : Bool := decide (48 ≤ c.toNat ∧ c.toNat ≤ 57)
abbrev digs (s : List UInt8) : Bool := s.all dg
@[irreducible] def dgt (c : UInt8) : Nat := c.toNat - 48
theorem dgt_eq (c : UInt8) : dgt c = c.toNat - 48 := by unfold dgt; rfl
@[irreducible] def mad (n d : Nat) : Nat := n * 10 + d
theorem mad_eq (n d : Nat) : mad n d = n * 10 + d := by unfold mad; rfl
def dvA : Nat → List UInt8 → Nat
  | n, [] => n
  | n, c :: r => dvA (mad n (dgt c)) r
theorem dvA_nil (n : Nat) : dvA n [] = n := by rw [dvA]
theorem dvA_cons (n : Nat) (c : UInt8) (r : List UInt8) : dvA n (c :: r) = dvA (n * 10 + (c.toNat - 48)) r := by rw [dvA, mad_eq, dgt_eq]
abbrev dv (s : List UInt8) : Int := (dvA 0 s : Nat)
theorem dvA_lt : ∀ (s : List UInt8) (n : Nat), digs s = true → dvA n s < (n + 1) * 10 ^ s.length
  | [], n, h => by simp [dvA_nil]
  | c :: r, n, h => by
    simp only [digs, List.all_cons, Bool.and_eq_true, dg, decide_eq_true_eq] at h
    have := dvA_lt r (n * 10 + (c.toNat - 48)) h.2
    rw [dvA_cons, List.length_cons, Nat.pow_succ]
    refine Nat.lt_of_lt_of_le this ?_
    rw [Nat.mul_comm (10 ^ r.length) 10, ← Nat.mul_assoc]
    exact Nat.mul_le_mul_right _ (by omega)
theorem parse_dig : ∀ (s : List UInt8) (n k : Nat), digs s = true → n < 10 ^ k → k + s.length ≤ 9 → Lib.parseUint10 n s = .ok (dvA n s)
  | [], n, k, h, hn, hk => by rw [dvA_nil]; rfl
  | c :: r, n, k, h, hn, hk => by
    simp only [digs, List.all_cons, Bool.and_eq_true, dg, decide_eq_true_eq] at h
    simp only [List.length_cons] at hk
    have hp : (10 : Nat) ^ k ≤ 10 ^ 8 := Nat.pow_le_pow_right (by omega) (by omega)
    have h8 : (10 : Nat) ^ 8 = 100000000 := rfl
    rw [Lib.parseUint10, if_pos h.1, if_neg (by omega), if_neg (by omega), dvA_cons]
    exact parse_dig r _ (k + 1) h.2 (by rw [Nat.pow_succ]; omega) (by omega)
theorem dv_lt {s : List UInt8} (h : digs s = true) (h9 : s.length ≤ 9) : dv s < 1000000000 := by
  have hlt := dvA_lt s 0 h
  have hp : (10 : Nat) ^ s.length ≤ 10 ^ 9 := Nat.pow_le_pow_right (by omega) h9
  have h10 : (10 : Nat) ^ 9 = 1000000000 := rfl
  unfold dv
  omega
theorem atoi_dig {s : List UInt8} (h : digs s = true) (h0 : s ≠ []) (h9 : s.length ≤ 9) : atoiP s = (dv s, true) := by
  have hlt := dv_lt h h9
  unfold dv at hlt
  obtain ⟨c, r, rfl⟩ : ∃ c r, s = c :: r := by cases s with | nil => exact absurd rfl h0 | cons c r => exact ⟨c, r, rfl⟩
  have hc : 48 ≤ c.toNat ∧ c.toNat ≤ 57 := by
    simp only [digs, List.all_cons, Bool.and_eq_true, dg, decide_eq_true_eq] at h; exact h.1
  have h1 : Lib.parseMag (c :: r) = .ok (dvA 0 (c :: r)) := by
    unfold Lib.parseMag
    rw [if_neg (by simp), parse_dig (c :: r) 0 0 h (by simp) (by simpa using h9)]
  have h2 : Lib.atoiAll (c :: r) = .ok (dv (c :: r)) := by
    simp only [Lib.atoiAll]
    rw [if_neg (by omega), h1]
    simp only
    rw [if_neg (by omega), if_neg (by omega), if_neg (by omega)]
  unfold atoiP
  rw [h2]
theorem digitsOf_L1 (s : List UInt8) : ∀ (k i m : Nat) (n : Nat), s.length - i ≤ k → k < m → i ≤ s.length → n < 10 ^ i → i ≤ 9 →
    R_digitsOf_L1 s m (n : Int) (i : Int) = some (if digs (s.drop i) = true ∧ s.length ≤ 9 then .inl (dvA n (s.drop i) : Nat) else .inr (-1))
  | k, i, m, n, hk, hm, hi, hn, h9 => by
    obtain ⟨m, rfl⟩ : ∃ k, m = k + 1 := ⟨m - 1, by omega⟩
    by_cases hlt : i < s.length
    · obtain ⟨k, rfl⟩ : ∃ j, k = j + 1 := ⟨k - 1, by omega⟩
      have hp : (10 : Nat) ^ i ≤ 10 ^ 9 := Nat.pow_le_pow_right (by omega) h9
      have h10 : (10 : Nat) ^ 9 = 1000000000 := rfl
      rw [R_digitsOf_L1, if_pos (by omega), idx_nat, List.getElem?_eq_getElem hlt, bsome, rin_eq, bsome, List.drop_eq_getElem_cons hlt]
      have hall : digs (s[i] :: s.drop (i + 1)) = (dg s[i] && digs (s.drop (i + 1))) := rfl
      by_cases hd : 48 ≤ s[i].toNat ∧ s[i].toNat ≤ 57
      · rw [if_pos (by simp; omega), bsome]
        by_cases h2 : 9 ≤ i
        · rw [if_pos (by simp; omega), if_neg (by omega)]
        · have hs48 : (s[i] - 48).toNat = s[i].toNat - 48 := by
            rw [UInt8.toNat_sub_of_le _ _ (UInt8.le_iff_toNat_le.2 (by simpa using hd.1))]; rfl
          rw [if_neg (by simp; omega), chk_ok (by omega) (by omega), bsome, bsome, hs48, chk_ok (by omega) (by omega), bsome, chk_succ (by omega), bsome]
          have e : (10 : Int) * (n : Int) + ((s[i].toNat - 48 : Nat) : Int) = ((n * 10 + (s[i].toNat - 48) : Nat) : Int) := by omega
          rw [e, digitsOf_L1 s k (i + 1) m _ (by omega) (by omega) (by omega) (by rw [Nat.pow_succ]; omega) (by omega), hall, dvA_cons]
          have : dg s[i] = true := decide_eq_true hd
          rw [this, Bool.true_and]
      · rw [if_neg (by simp; omega), bsome, if_pos rfl, hall]
        have : dg s[i] = false := decide_eq_false hd
        rw [this, Bool.false_and, if_neg (by simp)]
    · obtain rfl : i = s.length := by omega
      rw [R_digitsOf_L1, if_neg (by omega), List.drop_length]
      rw [if_pos ⟨rfl, h9⟩, dvA_nil]
theorem digitsOf_eq (s : List UInt8) (hs : s.length ≤ 4000000) : R_digitsOf s 1 9 = some (if digs s = true ∧ 1 ≤ s.length ∧ s.length ≤ 9 then dv s else -1) := by
  unfold R_digitsOf
  have h := digitsOf_L1 s s.length 0 FU 0 (by omega) (FU_gt (by omega)) (by omega) (by simp) (by omega)
  rw [show (0 : Int) = ((0 : Nat) : Int) from rfl, h, bsome, List.drop_zero]
  by_cases hc : digs s = true ∧ s.length ≤ 9
  · rw [if_pos hc]
    dsimp only
    rw [rin_eq, bsome]
    by_cases hl : 1 ≤ s.length ∧ s.length ≤ 9
    · rw [decide_eq_true (by omega), if_pos rfl, if_pos ⟨hc.1, hl⟩]
    · rw [decide_eq_false (by omega), if_neg (by decide), if_neg (fun h => hl h.2)]
  · rw [if_neg hc]
    dsimp only
    rw [if_neg (fun h => hc ⟨h.1, h.2.2⟩)]
theorem atoiAll_range {s : List UInt8} {v : Int} (h : Lib.atoiAll s = .ok v) : -9223372036854775808 ≤ v ∧ v ≤ 9223372036854775807 := by
  unfold Lib.atoiAll at h
  split at h
  · cases h
  · dsimp only at h
    split at h
    · cases h
    · cases h
    · split at h
      · cases h
      · split at h
        · cases h
        · rename_i h1 h2
          cases h
          split <;> omega
theorem atoi_range {s : List UInt8} (h : (atoiP s).2 = true) : -9223372036854775808 ≤ (atoiP s).1 ∧ (atoiP s).1 ≤ 9223372036854775807 := by
  unfold atoiP at h ⊢
  split at h
  · rename_i v hv
    exact atoiAll_range hv
  · cases h
  · cases h
def numP (s : List UInt8) : Option Int := if (atoiP s).2 = true ∧ itoaP (atoiP s).1 = s ∧ 0 ≤ (atoiP s).1 ∧ (atoiP s).1 ≤ 1099511627776 then some (atoiP s).1 else none
def numR (s : List UInt8) : Option Int := if (digs s = true ∧ 1 ≤ s.length ∧ s.length ≤ 9) ∧ itoaP (dv s) = s then some (dv s) else none
theorem bnumber_eq (s : List UInt8) (hs : s.length ≤ 1000000) : basic_Number s 1099511627776 = some (match numP s with | some n => (n, true) | none => (0, false)) := by
  unfold basic_Number strconv_Atoi numP
  rw [if_pos (by omega), bsome]
  have hr := @atoi_range s
  obtain ⟨⟨n, b⟩, he⟩ : ∃ p, atoiP s = p := ⟨_, rfl⟩
  rw [he] at hr ⊢
  dsimp only at hr ⊢
  cases b with
  | false => rw [if_neg (by decide), bsome, if_pos rfl, if_neg (fun h => by cases h.1)]
  | true =>
    have hr' := hr rfl
    unfold strconv_Itoa
    rw [if_pos rfl, if_pos hr', bsome]
    by_cases h1 : itoaP n = s
    · rw [if_pos h1]
      by_cases h2 : n < 0
      · rw [if_pos h2, bsome, if_pos rfl, if_neg (fun h => by omega)]
      · rw [if_neg h2, bsome]
        by_cases h3 : 1099511627776 < n
        · rw [decide_eq_true h3, if_pos rfl, if_neg (fun h => by omega)]
        · rw [decide_eq_false h3, if_neg (by decide), if_pos ⟨rfl, h1, by omega, by omega⟩]
    · rw [if_neg h1, bsome, if_pos rfl, if_neg (fun h => h1 h.2.1)]
theorem dgF_dig : ∀ (m n : Nat), digs (dgF m n) = true
  | 0, n => rfl
  | m + 1, n => by
    have h0 : ∀ p, p < 10 → dg (UInt8.ofNat (48 + p)) = true := by decide
    rw [dgF]
    split
    · rename_i h
      unfold digs
      rw [List.all_cons, h0 n h]; rfl
    · have := dgF_dig m (n / 10)
      unfold digs at this ⊢
      rw [List.all_append, this, List.all_cons, h0 (n % 10) (Nat.mod_lt _ (by omega))]; rfl
theorem dgF_ne (m n : Nat) : dgF (m + 1) n ≠ [] := by
  rw [dgF]; split <;> simp
theorem itoa_small {n : Nat} (h : n < 1000000000) : digs (itoaP n) = true ∧ itoaP n ≠ [] ∧ (itoaP n).length ≤ 9 := by
  unfold itoaP
  rw [if_neg (by omega), Int.toNat_natCast]
  refine ⟨dgF_dig _ _, dgF_ne 19 n, ?_⟩
  rw [dgF_eq 19 n (by omega), ← dgF_eq 8 n (by omega)]
  exact dgF_len 9 n
theorem numR_P {s : List UInt8} {n : Int} (h : numR s = some n) : numP s = some n ∧ 0 ≤ n ∧ n < 1000000000 := by
  unfold numR at h
  split at h
  · rename_i hc
    obtain ⟨⟨h1, h2, h3⟩, h4⟩ := hc
    cases h
    have hz := dv_lt h1 h3
    have ha := atoi_dig h1 (by intro e; subst e; simp at h2) h3
    refine ⟨?_, by unfold dv; omega, hz⟩
    unfold numP
    rw [ha, if_pos ⟨rfl, h4, by unfold dv; omega, by dsimp only; omega⟩]
  · cases h
theorem numP_R {s : List UInt8} {n : Int} (h : numP s = some n) (hn : n < 1000000000) : numR s = some n := by
  unfold numP at h
  split at h
  · rename_i hc
    obtain ⟨h1, h2, h3, h4⟩ := hc
    cases h
    obtain ⟨k, hk⟩ := Int.eq_ofNat_of_zero_le h3
    have hs := itoa_small (n := k) (by omega)
    rw [← hk, h2] at hs
    have ha := atoi_dig hs.1 hs.2.1 hs.2.2
    have hl : 1 ≤ s.length := List.length_pos_iff.2 hs.2.1
    rw [ha] at h2 ⊢
    unfold numR
    rw [if_pos ⟨⟨hs.1, hl, hs.2.2⟩, h2⟩]
  · cases h
end Go.Ph.Md
end
section
namespace Go.Ph.Md
open Go.Ph.Pl Go.Ph.Pf
open Go.Ph.Chs (vld lower)
def ns (c : UInt8) : Bool := !decide (c = 42)
theorem ns_star : ns 42 = false := rfl
theorem star_len : ∀ (l : List UInt8), (42 ∈ l ↔ (l.takeWhile ns).length < l.length)
  | [] => by simp
  | c :: l => by
    by_cases h : c = 42
    · subst h; simp [ns_star]
    · have hn : ns c = true := by unfold ns; rw [decide_eq_false h]; rfl
      rw [List.takeWhile_cons_of_pos hn, List.length_cons, List.length_cons, List.mem_cons]
      have := star_len l
      constructor
      · rintro (e | e)
        · exact absurd e.symm h
        · have := this.1 e; omega
      · intro e
        exact .inr (this.2 (by omega))
theorem index_star : ∀ (l : List UInt8), Lib.index l [42] = if 42 ∈ l then ((l.takeWhile ns).length : Int) else -1
  | [] => rfl
  | c :: l => by
    rw [Lib.index]
    by_cases h : c = 42
    · subst h
      rw [if_pos (by simp [List.isPrefixOf]), if_pos (by simp), List.takeWhile_cons_of_neg (by simp [ns_star])]; rfl
    · have hn : ns c = true := by unfold ns; rw [decide_eq_false h]; rfl
      have h' : ¬ (42 : UInt8) = c := fun e => h e.symm
      rw [if_neg (by simp [List.isPrefixOf, h']), index_star l, List.takeWhile_cons_of_pos hn]
      by_cases hm : 42 ∈ l
      · rw [if_pos hm, if_neg (by first | (simp; done) | (simp; omega)), if_pos (by simp [hm]), List.length_cons]; omega
      · rw [if_neg hm, if_pos (by decide), if_neg (by simp [hm, h'])]
def cutB (name : List UInt8) : List UInt8 := name.takeWhile ns
def cutR (name : List UInt8) : List UInt8 := (name.dropWhile ns).drop 1
theorem cut_eq (name : List UInt8) (hs : name.length ≤ 1000000) : strings_Cut name [42] = some (if 42 ∈ name then (cutB name, cutR name, true) else (name, [], false)) := by
  have hl := tw_len ns name
  unfold strings_Cut stringslite_Cut stringslite_Index cutB cutR
  rw [if_pos (by omega), bsome, index_star]
  by_cases h : 42 ∈ name
  · have h1 := (star_len name).1 h
    rw [if_pos h, if_pos h, if_pos (by omega), cut_to rfl hl, bsome, show (([42] : List UInt8).length : Int) = ((1 : Nat) : Int) from rfl, chk_addN 1 (by omega), bsome, cut_from rfl (by omega), bsome, bsome, tw_take, ← List.drop_drop, tw_drop]
  · rw [if_neg h, if_neg h, if_neg (by decide), bsome]
theorem find_L1 (s : List UInt8) (hs : s.length ≤ 1000000) : ∀ (d i m : Nat), s.length - i ≤ d → d < m → i ≤ s.length →
    R_Find_L1 s [42] m (i : Int) = some (if 42 ∈ s.drop i then .inr ((i + ((s.drop i).takeWhile ns).length : Nat) : Int) else .inl ()) := by
  intro d
  induction d with
  | zero =>
    intro i m h1 h2 h3
    obtain ⟨m, rfl⟩ : ∃ k, m = k + 1 := ⟨m - 1, by omega⟩
    obtain rfl : i = s.length := by omega
    rw [R_Find_L1, show (([42] : List UInt8).length : Int) = ((1 : Nat) : Int) from rfl, chk_addN 1 (by omega), bsome, if_neg (by omega), List.drop_length, if_neg (by simp)]
  | succ d ih =>
    intro i m h1 h2 h3
    obtain ⟨m, rfl⟩ : ∃ k, m = k + 1 := ⟨m - 1, by omega⟩
    rw [R_Find_L1, show (([42] : List UInt8).length : Int) = ((1 : Nat) : Int) from rfl, chk_addN 1 (by omega), bsome]
    by_cases hi : i < s.length
    · rw [if_pos (by omega), bsome, cut_one (List.getElem?_eq_getElem hi), bsome, List.drop_eq_getElem_cons hi]
      by_cases h : s[i] = 42
      · rw [if_pos (by rw [h]), if_pos (by simp [h]), List.takeWhile_cons_of_neg (by simp [ns, h])]; rfl
      · have hn : ns s[i] = true := by unfold ns; rw [decide_eq_false h]; rfl
        have h' : ¬ (42 : UInt8) = s[i] := fun e => h e.symm
        rw [if_neg (by simp [h]), chk_succ (by omega), bsome, ih (i + 1) m (by omega) (by omega) (by omega), List.takeWhile_cons_of_pos hn, List.length_cons]
        by_cases hm : 42 ∈ s.drop (i + 1)
        · rw [if_pos hm, if_pos (List.mem_cons_of_mem _ hm)]; congr 3; omega
        · rw [if_neg hm, if_neg (fun e => (List.mem_cons.1 e).elim h' hm)]
    · rw [if_neg (by omega), List.drop_eq_nil_of_le (by omega), if_neg (by simp)]
theorem find_eq (s : List UInt8) (hs : s.length ≤ 1000000) : R_Find s [42] 0 = some (if 42 ∈ s then ((s.takeWhile ns).length : Int) else -1) := by
  unfold R_Find
  have := find_L1 s hs s.length 0 FU (by omega) (FU_gt (by omega)) (by omega)
  rw [Int.natCast_zero, List.drop_zero, Nat.zero_add] at this
  rw [this, bsome]
  by_cases h : 42 ∈ s
  · rw [if_pos h, if_pos h]
  · rw [if_neg h, if_neg h]
theorem snoc_cases {α : Type} (l : List α) : l = [] ∨ ∃ a c, l = a ++ [c] := by
  rcases List.eq_nil_or_concat l with h | ⟨a, c, h⟩
  · exact .inl h
  · exact .inr ⟨a, c, by rw [h]; simp⟩
def cutS (r : List UInt8) : List UInt8 × Bool := if r.getLast? = some 42 then (r.dropLast, true) else (r, false)
theorem cutS_len (r : List UInt8) : (cutS r).1.length ≤ r.length := by
  unfold cutS
  split
  · rw [List.length_dropLast]; omega
  · exact Nat.le_refl _
theorem suffix_eq (r : List UInt8) (hs : r.length ≤ 1000000) : strings_CutSuffix r [42] = some (cutS r) := by
  unfold strings_CutSuffix stringslite_CutSuffix stringslite_HasSuffix cutS
  rcases snoc_cases r with rfl | ⟨a, c, rfl⟩
  · rfl
  · have e1 : ((a ++ [c]).length : Int) - (([42] : List UInt8).length : Int) = (a.length : Int) := by simp
    rw [if_pos (by simp; omega), e1, chk_ok (by omega) (by simp at hs; omega), bsome, cut_from rfl (by simp), bsome, bsome, bsome, List.drop_left, List.getLast?_concat, List.dropLast_concat]
    by_cases h : c = 42
    · subst h
      rw [decide_eq_true rfl, if_pos rfl, bsome, cut_to rfl (by simp), bsome, List.take_left, if_pos rfl]
      rfl
    · rw [decide_eq_false (by simpa using h), if_neg (by decide), if_neg (by simpa using h)]
      rfl
def mkP (num : List UInt8 → Option Int) (name v : List UInt8) : Option Pce :=
  if 42 ∈ name then (if cutB name = [] then none else (num (cutS (cutR name)).1).map fun n => (cutB name, n, (cutS (cutR name)).2, v))
  else (if name = [] then none else some (name, -1, false, v))
def rdP (num : List UInt8 → Option Int) (t : List UInt8) : Option (Pce × List UInt8) :=
  (sgn 61 ((tl t).dropWhile (pN [42]))).bind fun t2 => (vl t2).bind fun q => (mkP num ((tl t).takeWhile (pN [42])) q.1).map fun p => (p, q.2)
theorem cutR_len (name : List UInt8) : (cutR name).length ≤ name.length := by
  unfold cutR
  have := dw_len ns name
  rw [List.length_drop]; omega
theorem mkP_some {num : List UInt8 → Option Int} {name v : List UInt8} {p : Pce} (h : mkP num name v = some p) : p.1.length ≤ name.length ∧ p.2.2.2 = v ∧ p.1 ≠ [] ∧ (p.2.1 = -1 ∨ ∃ s, num s = some p.2.1) := by
  unfold mkP at h
  split at h
  · split at h
    · cases h
    · rename_i hb
      obtain ⟨n, h1, h2⟩ := Option.map_eq_some_iff.1 h
      cases h2
      exact ⟨tw_len _ _, rfl, hb, .inr ⟨_, h1⟩⟩
  · split at h
    · cases h
    · rename_i hb
      cases h
      exact ⟨Nat.le_refl _, rfl, hb, .inl rfl⟩
theorem rdP_some {num : List UInt8 → Option Int} {t r : List UInt8} {p : Pce} (h : rdP num t = some (p, r)) : r.length < t.length ∧ p.1.length ≤ t.length ∧ p.2.2.2.length ≤ t.length ∧ p.1 ≠ [] ∧ (p.2.1 = -1 ∨ ∃ s, num s = some p.2.1) := by
  unfold rdP at h
  obtain ⟨t2, h1, h⟩ := bnd h
  obtain ⟨⟨v, r'⟩, h2, h⟩ := bnd h
  obtain ⟨p', h3, h4⟩ := Option.map_eq_some_iff.1 h
  dsimp only at h4
  cases h4
  have a1 := sgn_len h1
  have a2 := dw_len (pN [42]) (tl t)
  have a3 := tl_len t
  have a4 := vl_len h2
  have a5 := tw_len (pN [42]) (tl t)
  obtain ⟨b1, b2, b3, b4⟩ := mkP_some h3
  dsimp only at b2
  exact ⟨by omega, by omega, by rw [b2]; omega, b3, b4⟩
theorem read_eq (t : List UInt8) (ht : t.length ≤ 1000000) : ∃ p b r, media_reader_read t = some (p, b, r) ∧ rdP numP t = if b = true then some (p, r) else none := by
  have a1 := tl_len t
  have a2 := dw_len (pN [42]) (tl t)
  have a5 := tw_len (pN [42]) (tl t)
  unfold media_reader_read
  rw [take_eq t (by unfold Big; omega) _ _ read_1_eq, bsome]
  dsimp only
  rw [sign_eq _ (by unfold Big; omega), bsome]
  cases hs : sgn 61 ((tl t).dropWhile (pN [42])) with
  | none => exact ⟨_, _, _, rfl, by unfold rdP; rw [hs]; rfl⟩
  | some t2 =>
    have a6 := sgn_len hs
    have hR : rdP numP t = (vl t2).bind fun q => (mkP numP ((tl t).takeWhile (pN [42])) q.1).map fun p => (p, q.2) := by unfold rdP; rw [hs, bsome]
    rw [hR]
    dsimp only
    rw [if_pos rfl]
    have hlen : ((tl t).takeWhile (pN [42])).length ≤ 1000000 := by omega
    clear hR
    generalize (tl t).takeWhile (pN [42]) = name at *
    have hcr := cutR_len name
    have hcs := cutS_len (cutR name)
    unfold mkP
    rcases value_eq t2 (by omega) with ⟨v, r, hv, hm⟩ | ⟨hv, r, hm⟩
    · rw [hm, hv, bsome, cut_eq name hlen]
      by_cases h42 : 42 ∈ name
      · rw [if_pos h42, bsome]
        dsimp only
        rw [if_pos rfl, suffix_eq _ (by omega), bsome, bnumber_eq _ (by omega), bsome]
        cases hn : numP (cutS (cutR name)).1 with
        | none =>
          dsimp only
          refine ⟨_, _, _, rfl, ?_⟩
          rw [bsome, if_pos h42]
          split <;> rfl
        | some n =>
          dsimp only
          refine ⟨_, _, _, rfl, ?_⟩
          rw [bsome, if_pos h42]
          dsimp only
          by_cases hb : cutB name = []
          · rw [if_pos hb, decide_eq_true hb]; rfl
          · rw [if_neg hb, decide_eq_false hb]; rfl
      · rw [if_neg h42, bsome]
        dsimp only
        refine ⟨_, _, _, rfl, ?_⟩
        rw [bsome, if_neg h42]
        dsimp only
        by_cases hb : name = []
        · rw [if_pos hb, decide_eq_true hb]; rfl
        · rw [if_neg hb, decide_eq_false hb]; rfl
    · rw [hm, hv, bsome, cut_eq name hlen]
      by_cases h42 : 42 ∈ name
      · rw [if_pos h42, bsome]
        dsimp only
        rw [if_pos rfl, suffix_eq _ (by omega), bsome, bnumber_eq _ (by omega), bsome]
        exact ⟨_, _, _, rfl, rfl⟩
      · rw [if_neg h42, bsome]
        exact ⟨_, _, _, rfl, rfl⟩
def sw (p : Pce) : List UInt8 × List UInt8 × Int × Bool := (p.1, p.2.2.2, p.2.1, p.2.2.1)
theorem pieceOf_eq (name v : List UInt8) (hn : name.length ≤ 1000000) : ∃ p b, R_pieceOf name v = some (sw p, b) ∧ mkP numR name v = if b = true then some p else none := by
  unfold R_pieceOf
  have hcr := cutR_len name
  have hcs := cutS_len (cutR name)
  have hl := tw_len ns name
  rw [find_eq name hn, bsome]
  by_cases h42 : 42 ∈ name
  · have h1 := (star_len name).1 h42
    have e1 : name.drop ((name.takeWhile ns).length + 1) = cutR name := by unfold cutR; rw [← List.drop_drop, tw_drop]
    have hM : mkP numR name v = if cutB name = [] then none else (numR (cutS (cutR name)).1).map fun n => (cutB name, n, (cutS (cutR name)).2, v) := by unfold mkP; rw [if_pos h42]
    rw [hM]
    rw [if_pos h42, if_neg (by omega), chk_succ (by omega), bsome, cut_from rfl (by omega), bsome, cut_to rfl hl, bsome, e1, tw_take, show name.takeWhile ns = cutB name from rfl]
    have e2 : ((if (0 : Int) < ((cutR name).length : Int) then (chk (((cutR name).length : Int) - 1)).bind fun n11 => (idx (cutR name) n11).bind fun c12 => some (decide (c12 = 42)) else some false)).bind (fun b9 => (if b9 = true then (chk (((cutR name).length : Int) - 1)).bind fun n22 => (cut (cutR name) 0 n22).bind fun s23 => some (s23, cutB name, v, (-1 : Int), true) else some (cutR name, cutB name, v, (-1 : Int), false))) = some ((cutS (cutR name)).1, cutB name, v, (-1 : Int), (cutS (cutR name)).2) := by
      clear hM
      generalize cutR name = r at *
      unfold cutS
      rcases snoc_cases r with rfl | ⟨a, c, rfl⟩
      · rfl
      · rw [if_pos (by first | (simp; done) | (simp; omega)), List.length_append, List.length_singleton, show (((a.length + 1 : Nat) : Int) - 1) = (a.length : Int) by omega, chk_ok (by omega) (by rw [List.length_append, List.length_singleton] at hcr; omega), bsome, last_idx, bsome, bsome, List.getLast?_concat, List.dropLast_concat]
        by_cases h : c = 42
        · subst h
          rw [decide_eq_true rfl, if_pos rfl, bsome, cut_to rfl (by simp), bsome, List.take_left, if_pos rfl]
        · rw [decide_eq_false h, if_neg (by decide), if_neg (by simpa using h)]
    rw [← Option.bind_assoc, e2, bsome]
    dsimp only
    rw [digitsOf_eq _ (by omega), bsome]
    by_cases hd : digs (cutS (cutR name)).1 = true ∧ 1 ≤ (cutS (cutR name)).1.length ∧ (cutS (cutR name)).1.length ≤ 9
    · have hz := dv_lt hd.1 hd.2.2
      rw [if_pos hd]
      by_cases hb : cutB name = []
      · rw [if_pos hb, if_pos hb]; exact ⟨(_, _, _, _), false, rfl, rfl⟩
      · rw [if_neg hb, if_neg hb, if_pos (by unfold dv; omega), number_eq _ (by unfold dv at hz; omega), bsome, bsome]
        by_cases he : itoaP (dv (cutS (cutR name)).1) = (cutS (cutR name)).1
        · have hR : numR (cutS (cutR name)).1 = some (dv (cutS (cutR name)).1) := by unfold numR; rw [if_pos ⟨hd, he⟩]
          rw [hR]; exact ⟨(_, _, _, _), true, by rw [decide_eq_true he]; rfl, rfl⟩
        · have hR : numR (cutS (cutR name)).1 = none := by unfold numR; rw [if_neg (fun h => he h.2)]
          rw [hR]; exact ⟨(_, _, _, _), false, by rw [decide_eq_false he]; rfl, rfl⟩
    · have hR : numR (cutS (cutR name)).1 = none := by unfold numR; rw [if_neg (fun h => hd h.1)]
      rw [if_neg hd, hR]
      by_cases hb : cutB name = []
      · rw [if_pos hb, if_pos hb]; exact ⟨(_, _, _, _), false, rfl, rfl⟩
      · rw [if_neg hb, if_neg hb, if_neg (by decide)]; exact ⟨(_, _, _, _), false, rfl, rfl⟩
  · have hM : mkP numR name v = if name = [] then none else some (name, -1, false, v) := by unfold mkP; rw [if_neg h42]
    rw [hM, if_neg h42, if_pos (by decide)]
    by_cases hb : name = []
    · rw [if_pos hb, decide_eq_true hb]; exact ⟨(_, _, _, _), false, rfl, rfl⟩
    · rw [if_neg hb, decide_eq_false hb]; exact ⟨(_, _, _, _), true, rfl, rfl⟩
def pcs (num : List UInt8 → Option Int) : Nat → List UInt8 → Option (List Pce × List UInt8)
  | 0, _ => none
  | m + 1, t => match sgn 59 t with | some r => (rdP num r).bind fun p => (pcs num m p.2).map fun q => (p.1 :: q.1, q.2) | none => some ([], tl t)
theorem sgn_tl (c : UInt8) (t : List UInt8) : sgn c (tl t) = sgn c t := by unfold sgn; rw [tl_tl]
theorem pcs_tl (num : List UInt8 → Option Int) (m : Nat) (t : List UInt8) : pcs num m (tl t) = pcs num m t := by
  cases m with
  | zero => rfl
  | succ m => rw [pcs, pcs, sgn_tl, tl_tl]
theorem parse_L1 (s1 s7 : List UInt8) (a b : List UInt8) (c : List Par) : ∀ (d m : Nat) (t : List UInt8) (l : List Pce), t.length ≤ d → d < m → l.length + t.length ≤ 100000 →
    media_parse_L1 s1 s7 m a b c t l = some (match pcs numP m t with | some (q, r) => .inl (a, b, c, r, l ++ q) | none => .inr ((s1, s7, []), false)) := by
  intro d
  induction d with
  | zero =>
    intro m t l hd hm hl
    obtain ⟨m, rfl⟩ : ∃ k, m = k + 1 := ⟨m - 1, by omega⟩
    have : t = [] := List.eq_nil_of_length_eq_zero (by omega)
    subst this
    rw [media_parse_L1, sign_eq _ (by unfold Big; simp), bsome, pcs, show sgn 59 [] = none from rfl]
    dsimp only
    rw [if_neg (by decide), List.append_nil]
  | succ d ih =>
    intro m t l hd hm hl
    obtain ⟨m, rfl⟩ : ∃ k, m = k + 1 := ⟨m - 1, by omega⟩
    rw [media_parse_L1, sign_eq _ (by unfold Big; omega), bsome, pcs]
    cases hs : sgn 59 t with
    | none =>
      dsimp only
      rw [if_neg (by decide), List.append_nil]
    | some r =>
      have h1 := sgn_len hs
      dsimp only
      rw [if_pos rfl]
      obtain ⟨p, bb, r2, he, hr⟩ := read_eq r (by omega)
      rw [he, bsome, hr]
      dsimp only
      cases bb with
      | false => rfl
      | true =>
        rw [if_pos rfl] at hr
        have h2 := (rdP_some hr).1
        rw [if_pos rfl, if_pos rfl, app_ok (by simp; omega), bsome, ih m r2 _ (by omega) (by omega) (by simp; omega), bsome]
        dsimp only
        cases hq : pcs numP m r2 with
        | none => rfl
        | some q => obtain ⟨q, x⟩ := q; simp
theorem rparse_L1 (s : List UInt8) (hs : s.length ≤ 4000) (a b : List UInt8) (c : List Par) : ∀ (d i m : Nat) (l : List Pce), s.length - i ≤ d → d < m → i ≤ s.length → tl (s.drop i) = s.drop i → l.length ≤ i →
    R_MediaRead_L1 s m a b c (i : Int) (l.map sw) = some (match pcs numR m (s.drop i) with | some (q, []) => .inl (a, b, c, (l ++ q).map sw) | _ => .inr (([], [], []), false)) := by
  intro d
  induction d using Nat.strongRecOn with
  | ind d ih =>
    intro i m l h1 h2 h3 htl hl
    obtain ⟨m, rfl⟩ : ∃ k, m = k + 1 := ⟨m - 1, by omega⟩
    rw [R_MediaRead_L1, pcs]
    by_cases hi : i < s.length
    · have hB : Big s := by unfold Big; omega
      have hdi := List.drop_eq_getElem_cons hi
      rw [if_pos (by omega), idx_nat, List.getElem?_eq_getElem hi, bsome]
      have hsg : sgn 59 (s.drop i) = if s[i] = 59 then some (s.drop (i + 1)) else none := by
        unfold sgn
        rw [htl, hdi]
      rw [hsg, htl]
      by_cases h59 : s[i] = 59
      · rw [if_pos h59, if_pos h59]
        dsimp only
        -- the name
        obtain ⟨k1, k2⟩ := skN_le s (i + 1) (by omega)
        have kd := skN_drop s (i + 1)
        generalize hn50 : skN s (i + 1) = n50 at *
        obtain ⟨r1, r2⟩ := ruN_le s n50 [42] (by omega)
        have rd := ruN_drop s n50 [42]
        have rc := ruN_cut s n50 [42] (by omega)
        have hrun := run_eq s hB n50 (by omega) [42] (by unfold Big; simp)
        generalize ruN s n50 [42] = n52 at *
        obtain ⟨k3, k4⟩ := skN_le s n52 (by omega)
        have kd2 := skN_drop s n52
        have hsk2 := skip_eq s hB n52 (by omega)
        generalize skN s n52 = n55 at *
        have hsk1 := skip_eq s hB (i + 1) (by omega)
        rw [hn50] at hsk1
        rw [chk_succ (by omega), bsome, hsk1, bsome, hrun, bsome, rc, bsome, hsk2, bsome]
        have hname : (tl (s.drop (i + 1))).takeWhile (pN [42]) = (s.drop n50).takeWhile (pN [42]) := by rw [kd]
        have hafter : sgn 61 ((tl (s.drop (i + 1))).dropWhile (pN [42])) = if h : n55 < s.length then (if s[n55] = 61 then some (s.drop (n55 + 1)) else none) else none := by
          rw [← kd, ← rd]
          unfold sgn
          rw [← kd2]
          by_cases h : n55 < s.length
          · rw [dif_pos h, List.drop_eq_getElem_cons h]
          · rw [dif_neg h, List.drop_eq_nil_of_le (by omega)]
        have hnl : ((s.drop n50).takeWhile (pN [42])).length ≤ 1000000 := by
          have := tw_len (pN [42]) (s.drop n50)
          rw [List.length_drop] at this; omega
        unfold rdP
        rw [hafter, hname]
        generalize (s.drop n50).takeWhile (pN [42]) = name at *
        by_cases hlt : n55 < s.length
        · rw [dif_pos hlt, if_neg (by omega), idx_nat, List.getElem?_eq_getElem hlt, bsome, bsome]
          by_cases h61 : s[n55] = 61
          · rw [if_pos h61, decide_eq_true h61, if_neg (by decide), bsome, chk_succ (by omega), bsome]
            obtain ⟨k5, k6⟩ := skN_le s (n55 + 1) (by omega)
            have kd3 := skN_drop s (n55 + 1)
            have hsk3 := skip_eq s hB (n55 + 1) (by omega)
            generalize skN s (n55 + 1) = n65 at *
            rw [hsk3, bsome]
            -- the value
            have hX : ∃ o, (((if (n65 : Int) < (s.length : Int) then (idx s (n65 : Int)).bind fun c71 => some (decide (c71 = 34)) else some false)).bind fun b69 => ((if b69 = true then (chk ((n65 : Int) + 1)).bind fun n83 => (R_MediaRead_L2 s FU n83 []).bind fun (n86, s87) => (if n86 = (s.length : Int) then some (.inr (([], [], []), false)) else (chk (n86 + 1)).bind fun n117 => some (.inl (a, b, c, n117, s87))) else (R_run s (n65 : Int) [37, 39, 42]).bind fun n118 => (cut s (n65 : Int) n118).bind fun s120 => some (.inl (a, b, c, n118, s120))) : Option ((List UInt8 × List UInt8 × List (List UInt8 × List UInt8) × Int × List UInt8) ⊕ ((List UInt8 × List UInt8 × List (List UInt8 × List UInt8)) × Bool)))) = some o ∧ (match vl (s.drop (n55 + 1)) with | some (v, r) => ∃ j, n65 ≤ j ∧ j ≤ s.length ∧ r = s.drop j ∧ o = .inl (a, b, c, (j : Int), v) | none => o = .inr (([], [], []), false)) := by
              have hsg34 : sgn 34 (s.drop (n55 + 1)) = if h : n65 < s.length then (if s[n65] = 34 then some (s.drop (n65 + 1)) else none) else none := by
                unfold sgn
                rw [← kd3]
                by_cases h : n65 < s.length
                · rw [dif_pos h, List.drop_eq_getElem_cons h]
                · rw [dif_neg h, List.drop_eq_nil_of_le (by omega)]
              have hvl : vl (s.drop (n55 + 1)) = match sgn 34 (s.drop (n55 + 1)) with | some r => qv r | none => some ((tl (s.drop (n55 + 1))).takeWhile (pN [37, 39, 42]), (tl (s.drop (n55 + 1))).dropWhile (pN [37, 39, 42])) := rfl
              have hno : sgn 34 (s.drop (n55 + 1)) = none → ∃ o, (R_run s (n65 : Int) [37, 39, 42]).bind (fun n118 => (cut s (n65 : Int) n118).bind fun s120 => some (.inl (a, b, c, n118, s120) : (List UInt8 × List UInt8 × List (List UInt8 × List UInt8) × Int × List UInt8) ⊕ ((List UInt8 × List UInt8 × List (List UInt8 × List UInt8)) × Bool))) = some o ∧ (match vl (s.drop (n55 + 1)) with | some (v, r) => ∃ j, n65 ≤ j ∧ j ≤ s.length ∧ r = s.drop j ∧ o = .inl (a, b, c, (j : Int), v) | none => o = .inr (([], [], []), false)) := by
                intro hn
                obtain ⟨q1, q2⟩ := ruN_le s n65 [37, 39, 42] (by omega)
                rw [run_eq s hB n65 (by omega) _ (by unfold Big; simp), bsome, ruN_cut s n65 _ (by omega), bsome, kd3, hvl, hn]
                exact ⟨_, rfl, ruN s n65 [37, 39, 42], q1, q2, by rw [ruN_drop, kd3], rfl⟩
              by_cases h65 : n65 < s.length
              · rw [dif_pos h65] at hsg34
                rw [if_pos (by omega), idx_nat, List.getElem?_eq_getElem h65, bsome, bsome]
                by_cases h34 : s[n65] = 34
                · rw [if_pos h34] at hsg34
                  rw [decide_eq_true h34, if_pos rfl, chk_succ (by omega), bsome, hvl, hsg34]
                  dsimp only
                  have hq := rvalue_L2 s (by omega) s.length (n65 + 1) FU [] (by omega) (FU_gt (by omega)) (by omega) (by simp)
                  cases hz : qv (s.drop (n65 + 1)) with
                  | none =>
                    rw [hz] at hq
                    obtain ⟨w, hw⟩ := hq
                    rw [hw, bsome]
                    dsimp only
                    rw [if_pos rfl]
                    exact ⟨_, rfl, rfl⟩
                  | some p =>
                    obtain ⟨v, r⟩ := p
                    rw [hz] at hq
                    obtain ⟨j, j1, j2, j3, j4⟩ := hq
                    rw [j4, bsome]
                    dsimp only
                    rw [if_neg (by omega), chk_succ (by omega), bsome]
                    exact ⟨_, rfl, j + 1, by omega, by omega, j3, rfl⟩
                · rw [if_neg h34] at hsg34
                  rw [decide_eq_false h34, if_neg (by decide)]
                  exact hno hsg34
              · rw [dif_neg h65] at hsg34
                rw [if_neg (by omega), bsome, if_neg (by decide)]
                exact hno hsg34
            obtain ⟨o, hX, hv'⟩ := hX
            rw [← Option.bind_assoc, hX, bsome]
            cases hv : vl (s.drop (n55 + 1)) with
            | none =>
              rw [hv] at hv'
              dsimp only at hv'
              subst hv'
              rfl
            | some q =>
              obtain ⟨v, r⟩ := q
              rw [hv] at hv'
              dsimp only at hv'
              obtain ⟨j, j1, j2, rfl, rfl⟩ := hv'
              dsimp only
              obtain ⟨p, bb, hp, hmk⟩ := pieceOf_eq name v hnl
              rw [hp, bsome, bsome, hmk]
              dsimp only
              cases bb with
              | false => rfl
              | true =>
                obtain ⟨k7, k8⟩ := skN_le s j (by omega)
                have kd4 := skN_drop s j
                have hsk4 := skip_eq s hB j (by omega)
                generalize skN s j = n130 at *
                rw [if_pos rfl, if_pos rfl, app_ok (by simp; omega), bsome, hsk4, bsome, Option.map_some, bsome]
                dsimp only
                have := ih (s.length - n130) (by omega) n130 m (l ++ [p]) (by omega) (by omega) k8 (by rw [kd4, tl_tl]) (by simp; omega)
                rw [show (l.map sw ++ [((sw p).1, (sw p).2.1, (sw p).2.2.1, (sw p).2.2.2)]) = (l ++ [p]).map sw by simp, this, kd4, pcs_tl]
                cases hq : pcs numR m (s.drop j) with
                | none => rfl
                | some q =>
                  obtain ⟨q, x⟩ := q
                  cases x with
                  | nil => simp
                  | cons y x => rfl
          · rw [if_neg h61, decide_eq_false h61, if_pos (by decide)]; rfl
        · rw [dif_neg hlt, if_pos (by omega), bsome, if_pos rfl]; rfl
      · rw [if_neg h59, if_neg h59, hdi]
    · obtain rfl : i = s.length := by omega
      rw [if_neg (by omega), List.drop_length, show sgn 59 [] = none from rfl]
      dsimp only
      rw [show tl [] = [] from rfl]
      dsimp only
      rw [List.append_nil]
end Go.Ph.Md
end
