/-
  Fold: contracts of the program's functions over their plain forms, written by wip/tools/ext.py.
-/
import Derived.Test.YtolmifddbjdepaaDoorFct1
import Derived.KernelRfl
set_option linter.unusedVariables false
set_option linter.unusedSimpArgs false
namespace Go.Proofs.YtolmifddbjdepaaDoor
open Go Go.RowKit Go.Ph Go.Ph.Pl Go.Ph.Pf Go.Ph.Chs
theorem R_FieldCode_ct {p0 : List UInt8} {p1 : List UInt8} {r : Int} (h : R_FieldCode p0 p1 = some r) : Ct Tryd.prog 49 [S p0, S p1] (fun M => True) (fun v M => v = I r) := by
  refine Ct.of Tryd.func49 (enters Tryd.func49 (by kernel_rfl) rfl) rfl rfl rfl ?_
  intro w0 M0 H hp
  unfold R_FieldCode at h
  refine WC.seq ?_
  refine WC.region ?_
  refine WR.step (Ex.assign rfl) (Wn.none rfl) rfl rfl ?_
  refine WR.nil ?_
  refine WQ.then ?_
  refine WC.seq ?_
  refine WC.seq ?_
  obtain ⟨b1, hx2, h⟩ := bnd h
  refine WC.region ?_
  refine WR.step (Ex.move rfl) (Wn.none rfl) rfl rfl ?_
  refine WR.call H (R_FieldName_ct hx2) rfl trivial (Wn.none rfl) rfl ?_
  intro v7 M w H hle hR
  obtain rfl := hR
  refine WR.step (Ex.not rfl) (Wn.none rfl) rfl rfl ?_
  refine WR.nil ?_
  refine WQ.then ?_
  refine WC.condB rfl (fun hk3 => ?_) (fun hk3 => ?_)
  ·
    replace hk3 : b1 = false := by simpa using hk3
    subst hk3
    rw [if_neg Bool.false_ne_true] at h
    refine WC.seq ?_
    refine WC.region ?_
    refine WR.step (Ex.assign rfl) (Wn.none rfl) rfl rfl ?_
    refine WR.nil ?_
    refine WQ.then ?_
    refine WC.ret ?_
    (repeat (first | refine WQ.thenRet ?_ | refine WQ.inBlockRet ?_ | refine WQ.cutRet ?_ | refine WQ.scRet ?_))
    obtain rfl := Option.some.inj h
    exact WQ.ret1 rfl rfl H.ext rfl
  ·
    replace hk3 : b1 = true := by simpa using hk3
    subst hk3
    rw [if_pos rfl] at h
    refine WC.skip ?_
    refine WQ.then ?_
    refine WC.seq ?_
    refine WC.seq ?_
    refine WC.region ?_
    refine WR.step (Ex.move rfl) (Wn.none rfl) rfl rfl ?_
    refine WR.step (Ex.lenStr Tryd.underlying9 rfl) (Wn.none rfl) rfl rfl ?_
    refine WR.step (Ex.gtr rfl rfl) (Wn.none rfl) rfl rfl ?_
    refine WR.nil ?_
    refine WQ.then ?_
    refine WC.condB rfl (fun hk4 => ?_) (fun hk4 => ?_)
    ·
      replace hk4 : (4000 : Int) < (p1.length : Int) := of_decide_eq_true hk4
      rw [if_pos hk4] at h
      refine WC.seq ?_
      refine WC.region ?_
      refine WR.step (Ex.assign rfl) (Wn.none rfl) rfl rfl ?_
      refine WR.nil ?_
      refine WQ.then ?_
      refine WC.ret ?_
      (repeat (first | refine WQ.thenRet ?_ | refine WQ.inBlockRet ?_ | refine WQ.cutRet ?_ | refine WQ.scRet ?_))
      obtain rfl := Option.some.inj h
      exact WQ.ret1 rfl rfl H.ext rfl
    ·
      replace hk4 : ¬ ((4000 : Int) < (p1.length : Int)) := of_decide_eq_false hk4
      rw [if_neg hk4] at h
      refine WC.skip ?_
      refine WQ.then ?_
      refine WC.seq ?_
      refine WC.seq ?_
      refine WC.region ?_
      refine WR.step (Ex.assign rfl) (Wn.none rfl) rfl rfl ?_
      refine WR.nil ?_
      refine WQ.then ?_
      obtain ⟨o5, e6, h⟩ := bnd h
      refine WC.cutX (fun e w => ∃  (M : Mem), e = [(1, S p1)] ∧ St w0 M0 M [] w ∧ some (.inl ()) = some o5) [] ?_ ?_ (trivial)
      ·
        refine WC.block ?_
        refine WC.loopP (fun m e w => ∃ (n7 : Int) (M : Mem), e = [(1, S p1), (5, I n7)] ∧ St w0 M0 M [] w ∧ R_FieldCode_L1 p1 m n7 = some o5) FU [(1, _), (5, _)] ⟨rfl, rfl, trivial⟩ ⟨_, _, rfl, H, e6⟩ ?_
        rintro m8 e w ⟨n7, M, rfl, H, e6⟩
        rcases m8 with _ | m8
        · rw [R_FieldCode_L1] at e6; cases e6
        rw [R_FieldCode_L1] at e6
        refine WC.seq ?_
        refine WC.seq ?_
        refine WC.region ?_
        refine WR.step (Ex.move rfl) (Wn.none rfl) rfl rfl ?_
        refine WR.step (Ex.move rfl) (Wn.none rfl) rfl rfl ?_
        refine WR.step (Ex.lenStr Tryd.underlying9 rfl) (Wn.none rfl) rfl rfl ?_
        refine WR.step (Ex.lss rfl rfl) (Wn.none rfl) rfl rfl ?_
        refine WR.nil ?_
        refine WQ.then ?_
        refine WC.condB rfl (fun hk9 => ?_) (fun hk9 => ?_)
        ·
          replace hk9 : n7 < (p1.length : Int) := of_decide_eq_true hk9
          rw [if_pos hk9] at e6
          refine WC.skip ?_
          refine WQ.then ?_
          refine WC.seq ?_
          refine WC.block ?_
          refine WC.seq ?_
          obtain ⟨c10, hxc10, e6⟩ := bnd e6
          obtain ⟨b11, hx12, e6⟩ := bnd e6
          refine WC.region ?_
          refine WR.step (Ex.move rfl) (Wn.none rfl) rfl rfl ?_
          refine WR.step (Ex.move rfl) (Wn.none rfl) rfl rfl ?_
          refine WR.step (Ex.idxStrC Tryd.underlying9 rfl rfl hxc10) (Wn.none rfl) rfl rfl ?_
          refine WR.call H (R_OneOf_ct hx12) rfl trivial (Wn.none rfl) rfl ?_
          intro v21 M w H hle hR
          obtain rfl := hR
          refine WR.nil ?_
          refine WQ.then ?_
          refine WC.condB rfl (fun hk13 => ?_) (fun hk13 => ?_)
          ·
            subst hk13
            rw [if_pos rfl] at e6
            refine WC.seq ?_
            refine WC.region ?_
            refine WR.step (Ex.assign rfl) (Wn.none rfl) rfl rfl ?_
            refine WR.nil ?_
            refine WQ.then ?_
            refine WC.ret ?_
            (repeat (first | refine WQ.thenRet ?_ | refine WQ.inBlockRet ?_ | refine WQ.cutRet ?_ | refine WQ.scRet ?_))
            obtain rfl := Option.some.inj e6
            try dsimp only at h
            obtain rfl := Option.some.inj h
            exact WQ.ret1 rfl rfl H.ext rfl
          ·
            subst hk13
            rw [if_neg Bool.false_ne_true] at e6
            refine WC.skip ?_
            refine WQ.inBlock ?_
            refine WQ.then ?_
            obtain ⟨n14, hxn14, e6⟩ := bnd e6
            refine WC.region ?_
            refine WR.step (Ex.move rfl) (Wn.none rfl) rfl rfl ?_
            refine WR.step (Ex.addC rfl rfl hxn14) (Wn.none rfl) rfl rfl ?_
            refine WR.step (Ex.assign rfl) (Wn.none rfl) rfl rfl ?_
            refine WR.nil ?_
            exact WQ.againP m8 [(1, _), (5, _)] ⟨rfl, rfl, trivial⟩ ⟨_, _, rfl, H, e6⟩ (Nat.lt_succ_self _)
        ·
          replace hk9 : ¬ (n7 < (p1.length : Int)) := of_decide_eq_false hk9
          rw [if_neg hk9] at e6
          refine WC.exit ?_
          refine WQ.thenExit ?_
          refine WQ.thenExit ?_
          refine WQ.exitHere ?_
          exact WQ.meetN [(1, _)] ⟨rfl, trivial⟩ ⟨_, rfl, H, e6⟩
      ·
        rintro e w ⟨M, rfl, H, q15⟩
        obtain rfl := Option.some.inj q15
        try dsimp only at h
        refine WQ.then ?_
        refine WC.seq ?_
        refine WC.seq ?_
        obtain ⟨s16, hx17, h⟩ := bnd h
        refine WC.region ?_
        refine WR.step (Ex.move rfl) (Wn.none rfl) rfl rfl ?_
        refine WR.call H (R_Trim_ct hx17) rfl trivial (Wn.none rfl) rfl ?_
        intro v23 M w H hle hR
        obtain rfl := hR
        refine WR.step (Ex.move rfl) (Wn.none rfl) rfl rfl ?_
        refine WR.step (Ex.strNeqC rfl rfl) (Wn.none rfl) rfl rfl ?_
        refine WR.nil ?_
        refine WQ.then ?_
        refine WC.condB rfl (fun hk18 => ?_) (fun hk18 => ?_)
        ·
          replace hk18 : ¬ (s16 = p1) := of_not_decide hk18
          rw [if_neg hk18] at h
          refine WC.seq ?_
          refine WC.region ?_
          refine WR.step (Ex.assign rfl) (Wn.none rfl) rfl rfl ?_
          refine WR.nil ?_
          refine WQ.then ?_
          refine WC.ret ?_
          (repeat (first | refine WQ.thenRet ?_ | refine WQ.inBlockRet ?_ | refine WQ.cutRet ?_ | refine WQ.scRet ?_))
          obtain rfl := Option.some.inj h
          exact WQ.ret1 rfl rfl H.ext rfl
        ·
          replace hk18 : s16 = p1 := of_not_decide' hk18
          rw [if_pos hk18] at h
          refine WC.skip ?_
          refine WQ.then ?_
          refine WC.seq ?_
          refine WC.region ?_
          refine WR.step (Ex.assign rfl) (Wn.none rfl) rfl rfl ?_
          refine WR.nil ?_
          refine WQ.then ?_
          refine WC.ret ?_
          (repeat (first | refine WQ.thenRet ?_ | refine WQ.inBlockRet ?_ | refine WQ.cutRet ?_ | refine WQ.scRet ?_))
          obtain rfl := Option.some.inj h
          exact WQ.ret1 rfl rfl H.ext rfl
theorem R_At_ct {p0 : Int} {p1 : Int} {r : (Int × Int)} (h : R_At p0 p1 = some r) : Ct Tryd.prog 14 [I p0, I p1] (fun M => True) (fun v M => v = Value.agg #[I r.1, I r.2]) := by
  refine Ct.of Tryd.func14 (enters Tryd.func14 (by kernel_rfl) rfl) rfl rfl rfl ?_
  intro w0 M0 H hp
  unfold R_At at h
  refine WC.seq ?_
  refine WC.region ?_
  refine WR.alloc [_, _] H Tryd.zeroValue25 rfl (Wn.none rfl) rfl ?_
  intro b4 w H
  refine WR.nil ?_
  refine WQ.then ?_
  refine WC.seq ?_
  refine WC.region ?_
  refine WR.step (Ex.move rfl) (Wn.none rfl) rfl rfl ?_
  refine WR.step (Ex.move rfl) (Wn.none rfl) rfl rfl ?_
  refine WR.step (Ex.build [_, _] Tryd.underlying25 Tryd.zeroValue25 (xplaces25 Tryd.underlying25) rfl rfl) (Wn.none rfl) rfl rfl ?_
  refine WR.store [_, _] H rfl rfl rfl (by repeat (first | exact Upd.head | apply Upd.tail)) Tryd.sizeOf25 rfl (by rfl) (by rfl) (Wn.none rfl) ?_
  intro w H
  refine WR.nil ?_
  refine WQ.then ?_
  refine WC.ret ?_
  (repeat (first | refine WQ.thenRet ?_ | refine WQ.inBlockRet ?_ | refine WQ.cutRet ?_ | refine WQ.scRet ?_))
  obtain rfl := Option.some.inj h
  exact WQ.ret1 rfl ⟨_, rfl, H.loadAgg (by repeat (first | exact List.Mem.head _ | apply List.Mem.tail)) Tryd.isAgg25 Tryd.sizeOf25 (by rfl)⟩ H.ext rfl
theorem R_Folded_ct {p0 : List UInt8} {p1 : List UInt8} {r : List (List UInt8)} (h : R_Folded p0 p1 = some r) : Ct Tryd.prog 27 [S p0, S p1] (fun M => True) (fun v M => Sl M encS v r) := by
  refine Ct.of Tryd.func27 (enters Tryd.func27 (by kernel_rfl) rfl) rfl rfl rfl ?_
  intro w0 M0 H hp
  unfold R_Folded at h
  refine WC.seq ?_
  refine WC.region ?_
  refine WR.step (Ex.assign rfl) (Wn.none rfl) rfl rfl ?_
  refine WR.nil ?_
  refine WQ.then ?_
  refine WC.seq ?_
  obtain ⟨s1, hxs1, h⟩ := bnd h
  obtain ⟨s2, hxs2, h⟩ := bnd h
  refine WC.region ?_
  refine WR.step (Ex.move rfl) (Wn.none rfl) rfl rfl ?_
  refine WR.step (Ex.strAddC rfl rfl hxs1) (Wn.none rfl) rfl rfl ?_
  refine WR.step (Ex.move rfl) (Wn.none rfl) rfl rfl ?_
  refine WR.step (Ex.strAddC rfl rfl hxs2) (Wn.none rfl) rfl rfl ?_
  refine WR.step (Ex.assign rfl) (Wn.none rfl) rfl rfl ?_
  refine WR.nil ?_
  refine WQ.then ?_
  refine WC.seq ?_
  refine WC.region ?_
  refine WR.step (Ex.assign rfl) (Wn.none rfl) rfl rfl ?_
  refine WR.nil ?_
  refine WQ.then ?_
  refine WC.seq ?_
  refine WC.seq ?_
  obtain ⟨n3, hxn3, h⟩ := bnd h
  refine WC.region ?_
  refine WR.step (Ex.move rfl) (Wn.none rfl) rfl rfl ?_
  refine WR.step (Ex.lenStr Tryd.underlying9 rfl) (Wn.none rfl) rfl rfl ?_
  refine WR.step (Ex.addC rfl rfl hxn3) (Wn.none rfl) rfl rfl ?_
  refine WR.step (Ex.assign rfl) (Wn.none rfl) rfl rfl ?_
  refine WR.nil ?_
  refine WQ.then ?_
  obtain ⟨o4, e5, h⟩ := bnd h
  refine WC.cutX (fun e w => ∃ (l7 : List Int) (v8 : Value) (M : Mem), e = [(5, S s2), (6, v8)] ∧ St w0 M0 M [RowI 3 encI v8 l7] w ∧ some l7 = some o4) [] ?_ ?_ (trivial)
  ·
    refine WC.block ?_
    replace H := H.newRow 3 encI
    refine WC.loopP (fun m e w => ∃ (l10 : List Int) (v11 : Value) (n12 : Int) (M : Mem), e = [(5, S s2), (6, v11), (7, I n12)] ∧ St w0 M0 M [RowI 3 encI v11 l10] w ∧ R_Folded_L1 s2 m l10 n12 = some o4) FU [(5, _), (6, _), (7, _)] ⟨rfl, rfl, rfl, trivial⟩ ⟨_, _, _, _, rfl, H, e5⟩ ?_
    rintro m13 e w ⟨l10, v11, n12, M, rfl, H, e5⟩
    rcases m13 with _ | m13
    · rw [R_Folded_L1] at e5; cases e5
    rw [R_Folded_L1] at e5
    refine WC.seq ?_
    refine WC.seq ?_
    refine WC.region ?_
    refine WR.step (Ex.move rfl) (Wn.none rfl) rfl rfl ?_
    refine WR.step (Ex.move rfl) (Wn.none rfl) rfl rfl ?_
    refine WR.step (Ex.lenStr Tryd.underlying9 rfl) (Wn.none rfl) rfl rfl ?_
    refine WR.step (Ex.lss rfl rfl) (Wn.none rfl) rfl rfl ?_
    refine WR.nil ?_
    refine WQ.then ?_
    refine WC.condB rfl (fun hk15 => ?_) (fun hk15 => ?_)
    ·
      replace hk15 : n12 < (s2.length : Int) := of_decide_eq_true hk15
      rw [if_pos hk15] at e5
      refine WC.skip ?_
      refine WQ.then ?_
      refine WC.seq ?_
      refine WC.block ?_
      refine WC.seq ?_
      obtain ⟨o16, e17, e5⟩ := bnd e5
      refine WC.cutX (fun e w => ∃ (b18 : Bool) (M : Mem), e = [(5, S s2), (6, v11), (7, I n12), (37, Value.bool b18)] ∧ St w0 M0 M [RowI 3 encI v11 l10] w ∧ some b18 = some o16) [] ?_ ?_ (trivial)
      ·
        obtain ⟨c19, hxc19, e17⟩ := bnd e17
        obtain ⟨b20, hx21, e17⟩ := bnd e17
        rcases b20 with _ | _
        ·
          rw [if_neg Bool.false_ne_true] at e17
          refine WC.region ?_
          refine WR.step (Ex.move rfl) (Wn.none rfl) rfl rfl ?_
          refine WR.step (Ex.move rfl) (Wn.none rfl) rfl rfl ?_
          refine WR.step (Ex.idxStrC Tryd.underlying9 rfl rfl hxc19) (Wn.none rfl) rfl rfl ?_
          refine WR.call H (R_Blank_ct hx21) rfl trivial (Wn.none rfl) rfl ?_
          intro v29 M w H hle hR
          obtain rfl := hR
          refine WR.step (Ex.move rfl) (Wn.none rfl) rfl rfl ?_
          refine WR.skipG (b := false) rfl rfl rfl rfl rfl ?_
          refine WR.skipG (b := false) rfl rfl rfl rfl rfl ?_
          refine WR.skipG (b := false) rfl rfl rfl rfl rfl ?_
          refine WR.skipG (b := false) rfl rfl rfl rfl rfl ?_
          refine WR.skipG (b := false) rfl rfl rfl rfl rfl ?_
          refine WR.skipG (b := false) rfl rfl rfl rfl rfl ?_
          refine WR.step (Ex.pickF rfl rfl) (Wn.none rfl) rfl rfl ?_
          refine WR.nil ?_
          exact WQ.meetN [(5, _), (6, _), (7, _), (37, _)] ⟨rfl, rfl, rfl, rfl, trivial⟩ ⟨_, _, rfl, H, e17⟩
        ·
          rw [if_pos rfl] at e17
          obtain ⟨n22, hxn22, e17⟩ := bnd e17
          obtain ⟨c23, hxc23, e17⟩ := bnd e17
          obtain ⟨b24, hx25, e17⟩ := bnd e17
          refine WC.region ?_
          refine WR.step (Ex.move rfl) (Wn.none rfl) rfl rfl ?_
          refine WR.step (Ex.move rfl) (Wn.none rfl) rfl rfl ?_
          refine WR.step (Ex.idxStrC Tryd.underlying9 rfl rfl hxc19) (Wn.none rfl) rfl rfl ?_
          refine WR.call H (R_Blank_ct hx21) rfl trivial (Wn.none rfl) rfl ?_
          intro v29 M w H hle hR
          obtain rfl := hR
          refine WR.step (Ex.move rfl) (Wn.none rfl) rfl rfl ?_
          refine WR.step (Ex.move rfl) (Wn.some rfl rfl rfl) rfl rfl ?_
          refine WR.step (Ex.move rfl) (Wn.some rfl rfl rfl) rfl rfl ?_
          refine WR.step (Ex.subC rfl rfl hxn22) (Wn.some rfl rfl rfl) rfl rfl ?_
          refine WR.step (Ex.idxStrC Tryd.underlying9 rfl rfl hxc23) (Wn.some rfl rfl rfl) rfl rfl ?_
          refine WR.call H (R_Blank_ct hx25) rfl trivial (Wn.some rfl rfl rfl) rfl ?_
          intro v35 M w H hle hR
          obtain rfl := hR
          refine WR.step (Ex.not rfl) (Wn.some rfl rfl rfl) rfl rfl ?_
          refine WR.step (Ex.pickT rfl rfl) (Wn.none rfl) rfl rfl ?_
          refine WR.nil ?_
          exact WQ.meetN [(5, _), (6, _), (7, _), (37, _)] ⟨rfl, rfl, rfl, rfl, trivial⟩ ⟨_, _, rfl, H, e17⟩
      ·
        rintro e w ⟨b18, M, rfl, H, q26⟩
        obtain rfl := Option.some.inj q26
        refine WQ.then ?_
        refine WC.condB rfl (fun hk27 => ?_) (fun hk27 => ?_)
        ·
          subst hk27
          rw [if_pos rfl] at e5
          obtain ⟨l28, hxl28, e5⟩ := bnd e5
          refine WC.region ?_
          refine WR.step (Ex.move rfl) (Wn.none rfl) rfl rfl ?_
          refine WR.step (Ex.move rfl) (Wn.none rfl) rfl rfl ?_
          refine WR.lit (enc := encI) xty59 ([n12] : List Int) H rfl (by rfl) (fun _ => rfl) rfl rfl (Wn.none rfl) rfl ?_
          intro v40 M w H hle hs40
          refine WR.appC (l := l10) xty59 rfl (fun _ => rfl) H rfl (fun _ => by repeat (first | exact Upd.head | apply Upd.tail)) rfl (hs40) hxl28 (Wn.none rfl) rfl ?_
          intro v41 w H
          refine WR.step (Ex.assign rfl) (Wn.none rfl) rfl rfl ?_
          refine WR.nil ?_
          refine WQ.inBlock ?_
          refine WQ.then ?_
          obtain ⟨n29, hxn29, e5⟩ := bnd e5
          refine WC.region ?_
          refine WR.step (Ex.move rfl) (Wn.none rfl) rfl rfl ?_
          refine WR.step (Ex.addC rfl rfl hxn29) (Wn.none rfl) rfl rfl ?_
          refine WR.step (Ex.assign rfl) (Wn.none rfl) rfl rfl ?_
          refine WR.nil ?_
          exact WQ.againP m13 [(5, _), (6, _), (7, _)] ⟨rfl, rfl, rfl, trivial⟩ ⟨_, _, _, _, rfl, H, e5⟩ (Nat.lt_succ_self _)
        ·
          subst hk27
          rw [if_neg Bool.false_ne_true] at e5
          refine WC.skip ?_
          refine WQ.inBlock ?_
          refine WQ.then ?_
          obtain ⟨n30, hxn30, e5⟩ := bnd e5
          refine WC.region ?_
          refine WR.step (Ex.move rfl) (Wn.none rfl) rfl rfl ?_
          refine WR.step (Ex.addC rfl rfl hxn30) (Wn.none rfl) rfl rfl ?_
          refine WR.step (Ex.assign rfl) (Wn.none rfl) rfl rfl ?_
          refine WR.nil ?_
          exact WQ.againP m13 [(5, _), (6, _), (7, _)] ⟨rfl, rfl, rfl, trivial⟩ ⟨_, _, _, _, rfl, H, e5⟩ (Nat.lt_succ_self _)
    ·
      replace hk15 : ¬ (n12 < (s2.length : Int)) := of_decide_eq_false hk15
      rw [if_neg hk15] at e5
      refine WC.exit ?_
      refine WQ.thenExit ?_
      refine WQ.thenExit ?_
      refine WQ.exitHere ?_
      exact WQ.meetN [(5, _), (6, _)] ⟨rfl, rfl, trivial⟩ ⟨_, _, _, rfl, H, e5⟩
  ·
    rintro e w ⟨l7, v8, M, rfl, H, q31⟩
    obtain rfl := Option.some.inj q31
    refine WQ.then ?_
    refine WC.seq ?_
    refine WC.region ?_
    refine WR.step (Ex.assign rfl) (Wn.none rfl) rfl rfl ?_
    refine WR.nil ?_
    refine WQ.then ?_
    refine WC.seq ?_
    refine WC.region ?_
    refine WR.step (Ex.assign rfl) (Wn.none rfl) rfl rfl ?_
    refine WR.nil ?_
    refine WQ.then ?_
    refine WC.seq ?_
    obtain ⟨o32, e33, h⟩ := bnd h
    refine WC.cutX (fun e w => ∃ (l35 : List (List UInt8)) (v36 : Value) (n37 : Int) (M : Mem), e = [(5, S s2), (8, v36), (9, I n37)] ∧ St w0 M0 M [RowI 9 encS v36 l35] w ∧ some (l35, n37) = some o32) [] ?_ ?_ (trivial)
    ·
      refine WC.block ?_
      replace H := H.newRow 9 encS
      refine WC.loopP (fun m e w => ∃ (l39 : List (List UInt8)) (v40 : Value) (n41 : Int) (M : Mem), e = [(5, S s2), (6, v8), (8, v40), (9, I n41)] ∧ St w0 M0 M [RowI 3 encI v8 l7, RowI 9 encS v40 l39] w ∧ R_Folded_L2 s2 l7 m l39 n41 = some o32) FU [(5, _), (6, _), (8, _), (9, _)] ⟨rfl, rfl, rfl, rfl, trivial⟩ ⟨_, _, _, _, rfl, (H.pick (L' := [RowI 3 encI v8 l7, RowI 9 encS (Value.slice none 0 0) []]) (by repeat (first | exact Pick.nil | refine Pick.cons (by repeat (first | exact Rem.head | apply Rem.tail)) ?_))), e33⟩ ?_
      rintro m42 e w ⟨l39, v40, n41, M, rfl, H, e33⟩
      rcases m42 with _ | m42
      · rw [R_Folded_L2] at e33; cases e33
      rw [R_Folded_L2] at e33
      refine WC.seq ?_
      refine WC.seq ?_
      obtain ⟨n44, hxn44, e33⟩ := bnd e33
      refine WC.region ?_
      refine WR.step (Ex.move rfl) (Wn.none rfl) rfl rfl ?_
      refine WR.step (Ex.lenStr Tryd.underlying9 rfl) (Wn.none rfl) rfl rfl ?_
      refine WR.step (Ex.move rfl) (Wn.none rfl) rfl rfl ?_
      refine WR.step (Ex.subC rfl rfl hxn44) (Wn.none rfl) rfl rfl ?_
      refine WR.step (Ex.gtr rfl rfl) (Wn.none rfl) rfl rfl ?_
      refine WR.nil ?_
      refine WQ.then ?_
      refine WC.condB rfl (fun hk45 => ?_) (fun hk45 => ?_)
      ·
        replace hk45 : (78 : Int) < n44 := of_decide_eq_true hk45
        rw [if_pos hk45] at e33
        refine WC.skip ?_
        refine WQ.then ?_
        refine WC.block ?_
        refine WC.seq ?_
        refine WC.region ?_
        refine WR.step (Ex.assign rfl) (Wn.none rfl) rfl rfl ?_
        refine WR.nil ?_
        refine WQ.then ?_
        refine WC.seq ?_
        refine WC.seq ?_
        refine WC.region ?_
        refine WR.step (Ex.assign rfl) (Wn.none rfl) rfl rfl ?_
        refine WR.nil ?_
        refine WQ.then ?_
        obtain ⟨o46, e47, e33⟩ := bnd e33
        refine WC.cutX (fun e w => ∃ (n48 : Int) (M : Mem), e = [(5, S s2), (6, v8), (8, v40), (9, I n41), (10, I n48)] ∧ St w0 M0 M [RowI 3 encI v8 l7, RowI 9 encS v40 l39] w ∧ some n48 = some o46) [] ?_ ?_ (trivial)
        ·
          refine WC.block ?_
          refine WC.loopP (fun m e w => ∃ (n49 : Int) (n50 : Int) (M : Mem), e = [(5, S s2), (6, v8), (8, v40), (9, I n41), (10, I n49), (11, I n50)] ∧ St w0 M0 M [RowI 3 encI v8 l7, RowI 9 encS v40 l39] w ∧ R_Folded_L3 l7 n41 m n49 n50 = some o46) FU [(5, _), (6, _), (8, _), (9, _), (10, _), (11, _)] ⟨rfl, rfl, rfl, rfl, rfl, rfl, trivial⟩ ⟨_, _, _, rfl, H, e47⟩ ?_
          rintro m51 e w ⟨n49, n50, M, rfl, H, e47⟩
          rcases m51 with _ | m51
          · rw [R_Folded_L3] at e47; cases e47
          rw [R_Folded_L3] at e47
          refine WC.seq ?_
          refine WC.seq ?_
          refine WC.region ?_
          refine WR.step (Ex.move rfl) (Wn.none rfl) rfl rfl ?_
          refine WR.step (Ex.move rfl) (Wn.none rfl) rfl rfl ?_
          refine WR.step (Ex.lenRow (l := l7) Tryd.underlying59 H (by repeat (first | exact List.Mem.head _ | apply List.Mem.tail)) rfl) (Wn.none rfl) rfl rfl ?_
          refine WR.step (Ex.lss rfl rfl) (Wn.none rfl) rfl rfl ?_
          refine WR.nil ?_
          refine WQ.then ?_
          refine WC.condB rfl (fun hk52 => ?_) (fun hk52 => ?_)
          ·
            replace hk52 : n50 < (l7.length : Int) := of_decide_eq_true hk52
            rw [if_pos hk52] at e47
            refine WC.skip ?_
            refine WQ.then ?_
            refine WC.seq ?_
            refine WC.block ?_
            refine WC.seq ?_
            obtain ⟨a53, hxa53, e47⟩ := bnd e47
            refine WC.region ?_
            refine WR.step (Ex.move rfl) (Wn.none rfl) rfl rfl ?_
            refine WR.step (Ex.move rfl) (Wn.none rfl) rfl rfl ?_
            refine WR.idxRowC (l := l7) H Tryd.underlying59 Tryd.sizeOf3 (by repeat (first | exact List.Mem.head _ | apply List.Mem.tail)) rfl rfl hxa53 (Wn.none rfl) rfl ?_
            intro g55 hg55
            refine WR.step (Ex.loadRowC H rfl hg55 (by repeat (first | exact List.Mem.head _ | apply List.Mem.tail)) hxa53 Tryd.isAgg3) (Wn.none rfl) rfl rfl ?_
            refine WR.step (Ex.assign rfl) (Wn.none rfl) rfl rfl ?_
            refine WR.nil ?_
            refine WQ.then ?_
            refine WC.seq ?_
            obtain ⟨o54, e55, e47⟩ := bnd e47
            refine WC.cutX (fun e w => ∃ (b56 : Bool) (M : Mem), e = [(5, S s2), (6, v8), (8, v40), (9, I n41), (10, I n49), (11, I n50), (12, I a53), (69, Value.bool b56)] ∧ St w0 M0 M [RowI 3 encI v8 l7, RowI 9 encS v40 l39] w ∧ some b56 = some o54) [] ?_ ?_ (trivial)
            ·
              by_cases hk57 : n41 < a53
              ·
                rw [if_pos hk57] at e55
                obtain ⟨n58, hxn58, e55⟩ := bnd e55
                by_cases hk59 : n58 ≤ (78 : Int)
                ·
                  rw [if_pos hk59] at e55
                  refine WC.region ?_
                  refine WR.step (Ex.move rfl) (Wn.none rfl) rfl rfl ?_
                  refine WR.step (Ex.move rfl) (Wn.none rfl) rfl rfl ?_
                  refine WR.stepE (v' := .bool true) (Ex.gtr rfl rfl) (congrArg Value.bool (decide_eq_true hk57)) (Wn.none rfl) rfl rfl ?_
                  refine WR.step (Ex.move rfl) (Wn.none rfl) rfl rfl ?_
                  refine WR.step (Ex.move rfl) (Wn.some rfl rfl rfl) rfl rfl ?_
                  refine WR.step (Ex.move rfl) (Wn.some rfl rfl rfl) rfl rfl ?_
                  refine WR.step (Ex.subC rfl rfl hxn58) (Wn.some rfl rfl rfl) rfl rfl ?_
                  refine WR.stepE (v' := .bool true) (Ex.leq rfl rfl) (congrArg Value.bool (decide_eq_true hk59)) (Wn.some rfl rfl rfl) rfl rfl ?_
                  refine WR.step (Ex.move rfl) (Wn.some rfl rfl rfl) rfl rfl ?_
                  refine WR.skipG (b := true) rfl rfl rfl rfl rfl ?_
                  refine WR.skipG (b := true) rfl rfl rfl rfl rfl ?_
                  refine WR.step (Ex.pickT rfl rfl) (Wn.some rfl rfl rfl) rfl rfl ?_
                  refine WR.step (Ex.pickT rfl rfl) (Wn.none rfl) rfl rfl ?_
                  refine WR.nil ?_
                  exact WQ.meetN [(5, _), (6, _), (8, _), (9, _), (10, _), (11, _), (12, _), (69, _)] ⟨rfl, rfl, rfl, rfl, rfl, rfl, rfl, rfl, trivial⟩ ⟨_, _, rfl, H, e55⟩
                ·
                  rw [if_neg hk59] at e55
                  refine WC.region ?_
                  refine WR.step (Ex.move rfl) (Wn.none rfl) rfl rfl ?_
                  refine WR.step (Ex.move rfl) (Wn.none rfl) rfl rfl ?_
                  refine WR.stepE (v' := .bool true) (Ex.gtr rfl rfl) (congrArg Value.bool (decide_eq_true hk57)) (Wn.none rfl) rfl rfl ?_
                  refine WR.step (Ex.move rfl) (Wn.none rfl) rfl rfl ?_
                  refine WR.step (Ex.move rfl) (Wn.some rfl rfl rfl) rfl rfl ?_
                  refine WR.step (Ex.move rfl) (Wn.some rfl rfl rfl) rfl rfl ?_
                  refine WR.step (Ex.subC rfl rfl hxn58) (Wn.some rfl rfl rfl) rfl rfl ?_
                  refine WR.stepE (v' := .bool false) (Ex.leq rfl rfl) (congrArg Value.bool (decide_eq_false hk59)) (Wn.some rfl rfl rfl) rfl rfl ?_
                  refine WR.step (Ex.move rfl) (Wn.some rfl rfl rfl) rfl rfl ?_
                  refine WR.step (Ex.move rfl) (Wn.some rfl rfl rfl) rfl rfl ?_
                  refine WR.step (Ex.lss rfl rfl) (Wn.some rfl rfl rfl) rfl rfl ?_
                  refine WR.step (Ex.pickF rfl rfl) (Wn.some rfl rfl rfl) rfl rfl ?_
                  refine WR.step (Ex.pickT rfl rfl) (Wn.none rfl) rfl rfl ?_
                  refine WR.nil ?_
                  exact WQ.meetN [(5, _), (6, _), (8, _), (9, _), (10, _), (11, _), (12, _), (69, _)] ⟨rfl, rfl, rfl, rfl, rfl, rfl, rfl, rfl, trivial⟩ ⟨_, _, rfl, H, e55⟩
              ·
                rw [if_neg hk57] at e55
                refine WC.region ?_
                refine WR.step (Ex.move rfl) (Wn.none rfl) rfl rfl ?_
                refine WR.step (Ex.move rfl) (Wn.none rfl) rfl rfl ?_
                refine WR.stepE (v' := .bool false) (Ex.gtr rfl rfl) (congrArg Value.bool (decide_eq_false hk57)) (Wn.none rfl) rfl rfl ?_
                refine WR.step (Ex.move rfl) (Wn.none rfl) rfl rfl ?_
                refine WR.skipG (b := false) rfl rfl rfl rfl rfl ?_
                refine WR.skipG (b := false) rfl rfl rfl rfl rfl ?_
                refine WR.skipG (b := false) rfl rfl rfl rfl rfl ?_
                refine WR.skipG (b := false) rfl rfl rfl rfl rfl ?_
                refine WR.skipG (b := false) rfl rfl rfl rfl rfl ?_
                refine WR.skipU rfl rfl rfl rfl rfl ?_
                refine WR.skipU rfl rfl rfl rfl rfl ?_
                refine WR.skipG (b := false) rfl rfl rfl rfl rfl ?_
                refine WR.step (Ex.pickF rfl rfl) (Wn.none rfl) rfl rfl ?_
                refine WR.nil ?_
                exact WQ.meetN [(5, _), (6, _), (8, _), (9, _), (10, _), (11, _), (12, _), (69, _)] ⟨rfl, rfl, rfl, rfl, rfl, rfl, rfl, rfl, trivial⟩ ⟨_, _, rfl, H, e55⟩
            ·
              rintro e w ⟨b56, M, rfl, H, q60⟩
              obtain rfl := Option.some.inj q60
              refine WQ.then ?_
              refine WC.condB rfl (fun hk61 => ?_) (fun hk61 => ?_)
              ·
                subst hk61
                rw [if_pos rfl] at e47
                refine WC.region ?_
                refine WR.step (Ex.move rfl) (Wn.none rfl) rfl rfl ?_
                refine WR.step (Ex.assign rfl) (Wn.none rfl) rfl rfl ?_
                refine WR.nil ?_
                refine WQ.inBlock ?_
                refine WQ.then ?_
                obtain ⟨n62, hxn62, e47⟩ := bnd e47
                refine WC.region ?_
                refine WR.step (Ex.move rfl) (Wn.none rfl) rfl rfl ?_
                refine WR.step (Ex.addC rfl rfl hxn62) (Wn.none rfl) rfl rfl ?_
                refine WR.step (Ex.assign rfl) (Wn.none rfl) rfl rfl ?_
                refine WR.nil ?_
                exact WQ.againP m51 [(5, _), (6, _), (8, _), (9, _), (10, _), (11, _)] ⟨rfl, rfl, rfl, rfl, rfl, rfl, trivial⟩ ⟨_, _, _, rfl, H, e47⟩ (Nat.lt_succ_self _)
              ·
                subst hk61
                rw [if_neg Bool.false_ne_true] at e47
                refine WC.skip ?_
                refine WQ.inBlock ?_
                refine WQ.then ?_
                obtain ⟨n63, hxn63, e47⟩ := bnd e47
                refine WC.region ?_
                refine WR.step (Ex.move rfl) (Wn.none rfl) rfl rfl ?_
                refine WR.step (Ex.addC rfl rfl hxn63) (Wn.none rfl) rfl rfl ?_
                refine WR.step (Ex.assign rfl) (Wn.none rfl) rfl rfl ?_
                refine WR.nil ?_
                exact WQ.againP m51 [(5, _), (6, _), (8, _), (9, _), (10, _), (11, _)] ⟨rfl, rfl, rfl, rfl, rfl, rfl, trivial⟩ ⟨_, _, _, rfl, H, e47⟩ (Nat.lt_succ_self _)
          ·
            replace hk52 : ¬ (n50 < (l7.length : Int)) := of_decide_eq_false hk52
            rw [if_neg hk52] at e47
            refine WC.exit ?_
            refine WQ.thenExit ?_
            refine WQ.thenExit ?_
            refine WQ.exitHere ?_
            exact WQ.meetN [(5, _), (6, _), (8, _), (9, _), (10, _)] ⟨rfl, rfl, rfl, rfl, rfl, trivial⟩ ⟨_, _, rfl, H, e47⟩
        ·
          rintro e w ⟨n48, M, rfl, H, q64⟩
          obtain rfl := Option.some.inj q64
          refine WQ.then ?_
          refine WC.seq ?_
          refine WC.seq ?_
          refine WC.region ?_
          refine WR.step (Ex.move rfl) (Wn.none rfl) rfl rfl ?_
          refine WR.step (Ex.lss rfl rfl) (Wn.none rfl) rfl rfl ?_
          refine WR.nil ?_
          refine WQ.then ?_
          refine WC.condB rfl (fun hk65 => ?_) (fun hk65 => ?_)
          ·
            replace hk65 : n48 < (0 : Int) := of_decide_eq_true hk65
            rw [if_pos hk65] at e33
            refine WC.exit ?_
            refine WQ.thenExit ?_
            refine WQ.exitOut rfl ?_
            refine WQ.thenExit ?_
            refine WQ.exitHere ?_
            exact WQ.meetN [(5, _), (8, _), (9, _)] ⟨rfl, rfl, rfl, trivial⟩ ⟨_, _, _, _, rfl, (H.pick (L' := [RowI 9 encS v40 l39]) (by repeat (first | exact Pick.nil | refine Pick.cons (by repeat (first | exact Rem.head | apply Rem.tail)) ?_))), e33⟩
          ·
            replace hk65 : ¬ (n48 < (0 : Int)) := of_decide_eq_false hk65
            rw [if_neg hk65] at e33
            refine WC.skip ?_
            refine WQ.then ?_
            refine WC.seq ?_
            obtain ⟨s66, hxs66, e33⟩ := bnd e33
            obtain ⟨l67, hxl67, e33⟩ := bnd e33
            refine WC.region ?_
            refine WR.step (Ex.move rfl) (Wn.none rfl) rfl rfl ?_
            refine WR.step (Ex.move rfl) (Wn.none rfl) rfl rfl ?_
            refine WR.step (Ex.move rfl) (Wn.none rfl) rfl rfl ?_
            refine WR.step (Ex.move rfl) (Wn.none rfl) rfl rfl ?_
            refine WR.step (Ex.sliceC Tryd.underlying9 rfl rfl rfl hxs66) (Wn.none rfl) rfl rfl ?_
            refine WR.lit (enc := encS) xty35 ([s66] : List (List UInt8)) H rfl (by rfl) (fun _ => rfl) rfl rfl (Wn.none rfl) rfl ?_
            intro v78 M w H hle hs78
            refine WR.appC (l := l39) xty35 rfl (fun _ => rfl) H rfl (fun _ => by repeat (first | exact Upd.head | apply Upd.tail)) rfl (hs78) hxl67 (Wn.none rfl) rfl ?_
            intro v79 w H
            refine WR.step (Ex.assign rfl) (Wn.none rfl) rfl rfl ?_
            refine WR.nil ?_
            refine WQ.then ?_
            refine WC.region ?_
            refine WR.step (Ex.move rfl) (Wn.none rfl) rfl rfl ?_
            refine WR.step (Ex.assign rfl) (Wn.none rfl) rfl rfl ?_
            refine WR.nil ?_
            refine WQ.inBlock ?_
            exact WQ.againP m42 [(5, _), (6, _), (8, _), (9, _)] ⟨rfl, rfl, rfl, rfl, trivial⟩ ⟨_, _, _, _, rfl, H, e33⟩ (Nat.lt_succ_self _)
      ·
        replace hk45 : ¬ ((78 : Int) < n44) := of_decide_eq_false hk45
        rw [if_neg hk45] at e33
        refine WC.exit ?_
        refine WQ.thenExit ?_
        refine WQ.thenExit ?_
        refine WQ.exitHere ?_
        exact WQ.meetN [(5, _), (8, _), (9, _)] ⟨rfl, rfl, rfl, trivial⟩ ⟨_, _, _, _, rfl, (H.pick (L' := [RowI 9 encS v40 l39]) (by repeat (first | exact Pick.nil | refine Pick.cons (by repeat (first | exact Rem.head | apply Rem.tail)) ?_))), e33⟩
    ·
      rintro e w ⟨l35, v36, n37, M, rfl, H, q68⟩
      obtain rfl := Option.some.inj q68
      try dsimp only at h
      refine WQ.then ?_
      refine WC.seq ?_
      obtain ⟨s69, hxs69, h⟩ := bnd h
      obtain ⟨l70, hxl70, h⟩ := bnd h
      refine WC.region ?_
      refine WR.step (Ex.move rfl) (Wn.none rfl) rfl rfl ?_
      refine WR.step (Ex.move rfl) (Wn.none rfl) rfl rfl ?_
      refine WR.step (Ex.move rfl) (Wn.none rfl) rfl rfl ?_
      refine WR.step (Ex.sliceL Tryd.underlying9 rfl rfl hxs69) (Wn.none rfl) rfl rfl ?_
      refine WR.lit (enc := encS) xty35 ([s69] : List (List UInt8)) H rfl (by rfl) (fun _ => rfl) rfl rfl (Wn.none rfl) rfl ?_
      intro v85 M w H hle hs85
      refine WR.appC (l := l35) xty35 rfl (fun _ => rfl) H rfl (fun _ => by repeat (first | exact Upd.head | apply Upd.tail)) rfl (hs85) hxl70 (Wn.none rfl) rfl ?_
      intro v86 w H
      refine WR.step (Ex.assign rfl) (Wn.none rfl) rfl rfl ?_
      refine WR.nil ?_
      refine WQ.then ?_
      refine WC.ret ?_
      (repeat (first | refine WQ.thenRet ?_ | refine WQ.inBlockRet ?_ | refine WQ.cutRet ?_ | refine WQ.scRet ?_))
      obtain ⟨M, hle, hs71, H⟩ := H.freezeRow (v := v86) (enc := encS) (t := 9) (by repeat (first | exact Rem.head | apply Rem.tail))
      replace hs85 := hs85.mono hle
      obtain rfl := Option.some.inj h
      exact WQ.ret1 rfl rfl H.ext hs71
theorem R_FoldFault_ct {p0 : List UInt8} {p1 : List UInt8} {r : (Int × Int)} (h : R_FoldFault p0 p1 = some r) : Ct Tryd.prog 25 [S p0, S p1] (fun M => True) (fun v M => v = Value.agg #[I r.1, I r.2]) := by
  refine Ct.of Tryd.func25 (enters Tryd.func25 (by kernel_rfl) rfl) rfl rfl rfl ?_
  intro w0 M0 H hp
  unfold R_FoldFault at h
  refine WC.seq ?_
  refine WC.region ?_
  refine WR.alloc [_, _] H Tryd.zeroValue25 rfl (Wn.none rfl) rfl ?_
  intro b4 w H
  refine WR.nil ?_
  refine WQ.then ?_
  refine WC.seq ?_
  refine WC.seq ?_
  obtain ⟨n1, hx2, h⟩ := bnd h
  refine WC.region ?_
  refine WR.step (Ex.move rfl) (Wn.none rfl) rfl rfl ?_
  refine WR.step (Ex.move rfl) (Wn.none rfl) rfl rfl ?_
  refine WR.call H (R_FieldCode_ct hx2) rfl trivial (Wn.none rfl) rfl ?_
  intro v9 M w H hle hR
  obtain rfl := hR
  refine WR.step (Ex.neqC rfl rfl) (Wn.none rfl) rfl rfl ?_
  refine WR.nil ?_
  refine WQ.then ?_
  refine WC.condB rfl (fun hk3 => ?_) (fun hk3 => ?_)
  ·
    replace hk3 : ¬ (n1 = (0 : Int)) := of_not_decide hk3
    rw [if_neg hk3] at h
    refine WC.seq ?_
    obtain ⟨n4, hx5, h⟩ := bnd h
    obtain ⟨⟨n6, n7⟩, hx8, h⟩ := bnd h
    try dsimp only at h
    refine WC.region ?_
    refine WR.step (Ex.move rfl) (Wn.none rfl) rfl rfl ?_
    refine WR.step (Ex.move rfl) (Wn.none rfl) rfl rfl ?_
    refine WR.call H (R_FieldCode_ct hx5) rfl trivial (Wn.none rfl) rfl ?_
    intro v13 M w H hle hR
    obtain rfl := hR
    refine WR.call H (R_At_ct hx8) rfl trivial (Wn.none rfl) rfl ?_
    intro v14 M w H hle hR
    try dsimp only at hR
    obtain rfl := hR
    refine WR.store [_, _] H rfl rfl rfl (by repeat (first | exact Upd.head | apply Upd.tail)) Tryd.sizeOf25 rfl (by rfl) (by rfl) (Wn.none rfl) ?_
    intro w H
    refine WR.nil ?_
    refine WQ.then ?_
    refine WC.ret ?_
    (repeat (first | refine WQ.thenRet ?_ | refine WQ.inBlockRet ?_ | refine WQ.cutRet ?_ | refine WQ.scRet ?_))
    obtain rfl := Option.some.inj h
    exact WQ.ret1 rfl ⟨_, rfl, H.loadAgg (by repeat (first | exact List.Mem.head _ | apply List.Mem.tail)) Tryd.isAgg25 Tryd.sizeOf25 (by rfl)⟩ H.ext rfl
  ·
    replace hk3 : n1 = (0 : Int) := of_not_decide' hk3
    rw [if_pos hk3] at h
    refine WC.skip ?_
    refine WQ.then ?_
    refine WC.seq ?_
    obtain ⟨l9, hx10, h⟩ := bnd h
    refine WC.region ?_
    refine WR.step (Ex.move rfl) (Wn.none rfl) rfl rfl ?_
    refine WR.step (Ex.move rfl) (Wn.none rfl) rfl rfl ?_
    refine WR.call H (R_Folded_ct hx10) rfl trivial (Wn.none rfl) rfl ?_
    intro v17 M w H hle hR
    have f17_0 := hR
    refine WR.step (Ex.assign rfl) (Wn.none rfl) rfl rfl ?_
    refine WR.nil ?_
    refine WQ.then ?_
    refine WC.seq ?_
    refine WC.seq ?_
    refine WC.region ?_
    refine WR.step (Ex.assign rfl) (Wn.none rfl) rfl rfl ?_
    refine WR.nil ?_
    refine WQ.then ?_
    obtain ⟨o11, e12, h⟩ := bnd h
    refine WC.cutX (fun e w => ∃ (n13 : Int) (n14 : Int) (M : Mem), e = [(4, ptr b4 0)] ∧ St w0 M0 M [.blk b4 (.cells #[I n13, I n14] 25)] w ∧ some (.inl (n13, n14)) = some o11) [] ?_ ?_ (trivial)
    ·
      refine WC.block ?_
      refine WC.loopP (fun m e w => ∃ (n15 : Int) (n16 : Int) (n17 : Int) (M : Mem), e = [(4, ptr b4 0), (5, v17), (6, I n17)] ∧ St w0 M0 M [.blk b4 (.cells #[I n15, I n16] 25)] w ∧ Sl M encS v17 l9 ∧ R_FoldFault_L1 l9 m n15 n16 n17 = some o11) FU [(4, _), (5, _), (6, _)] ⟨rfl, rfl, rfl, trivial⟩ ⟨_, _, _, _, rfl, H, f17_0, e12⟩ ?_
      rintro m18 e w ⟨n15, n16, n17, M, rfl, H, f17_0, e12⟩
      rcases m18 with _ | m18
      · rw [R_FoldFault_L1] at e12; cases e12
      rw [R_FoldFault_L1] at e12
      refine WC.seq ?_
      refine WC.seq ?_
      refine WC.region ?_
      refine WR.step (Ex.move rfl) (Wn.none rfl) rfl rfl ?_
      refine WR.step (Ex.move rfl) (Wn.none rfl) rfl rfl ?_
      refine WR.step (Ex.lenSl Tryd.underlying35 f17_0 rfl) (Wn.none rfl) rfl rfl ?_
      refine WR.step (Ex.lss rfl rfl) (Wn.none rfl) rfl rfl ?_
      refine WR.nil ?_
      refine WQ.then ?_
      refine WC.condB rfl (fun hk19 => ?_) (fun hk19 => ?_)
      ·
        replace hk19 : n17 < (l9.length : Int) := of_decide_eq_true hk19
        rw [if_pos hk19] at e12
        refine WC.skip ?_
        refine WQ.then ?_
        refine WC.seq ?_
        refine WC.block ?_
        refine WC.seq ?_
        obtain ⟨a20, hxa20, e12⟩ := bnd e12
        refine WC.region ?_
        refine WR.step (Ex.move rfl) (Wn.none rfl) rfl rfl ?_
        refine WR.step (Ex.move rfl) (Wn.none rfl) rfl rfl ?_
        refine WR.idxC Tryd.underlying35 Tryd.sizeOf9 (f17_0) rfl rfl hxa20 (Wn.none rfl) rfl ?_
        intro p26 hc26
        refine WR.step (Ex.loadM H rfl hc26 Tryd.isAgg9) (Wn.none rfl) rfl rfl ?_
        refine WR.step (Ex.lenStr Tryd.underlying9 rfl) (Wn.none rfl) rfl rfl ?_
        refine WR.step (Ex.gtr rfl rfl) (Wn.none rfl) rfl rfl ?_
        refine WR.nil ?_
        refine WQ.then ?_
        refine WC.condB rfl (fun hk21 => ?_) (fun hk21 => ?_)
        ·
          replace hk21 : (998 : Int) < (a20.length : Int) := of_decide_eq_true hk21
          rw [if_pos hk21] at e12
          refine WC.seq ?_
          obtain ⟨⟨n22, n23⟩, hx24, e12⟩ := bnd e12
          try dsimp only at e12
          refine WC.region ?_
          refine WR.step (Ex.move rfl) (Wn.none rfl) rfl rfl ?_
          refine WR.call H (R_At_ct hx24) rfl trivial (Wn.none rfl) rfl ?_
          intro v31 M w H hle hR
          replace f17_0 := f17_0.mono hle
          replace hc26 := hc26.mono hle
          try dsimp only at hR
          obtain rfl := hR
          refine WR.store [_, _] H rfl rfl rfl (by repeat (first | exact Upd.head | apply Upd.tail)) Tryd.sizeOf25 rfl (by rfl) (by rfl) (Wn.none rfl) ?_
          intro w H
          refine WR.nil ?_
          refine WQ.then ?_
          refine WC.ret ?_
          (repeat (first | refine WQ.thenRet ?_ | refine WQ.inBlockRet ?_ | refine WQ.cutRet ?_ | refine WQ.scRet ?_))
          obtain rfl := Option.some.inj e12
          try dsimp only at h
          obtain rfl := Option.some.inj h
          exact WQ.ret1 rfl ⟨_, rfl, H.loadAgg (by repeat (first | exact List.Mem.head _ | apply List.Mem.tail)) Tryd.isAgg25 Tryd.sizeOf25 (by rfl)⟩ H.ext rfl
        ·
          replace hk21 : ¬ ((998 : Int) < (a20.length : Int)) := of_decide_eq_false hk21
          rw [if_neg hk21] at e12
          refine WC.skip ?_
          refine WQ.inBlock ?_
          refine WQ.then ?_
          obtain ⟨n25, hxn25, e12⟩ := bnd e12
          refine WC.region ?_
          refine WR.step (Ex.move rfl) (Wn.none rfl) rfl rfl ?_
          refine WR.step (Ex.addC rfl rfl hxn25) (Wn.none rfl) rfl rfl ?_
          refine WR.step (Ex.assign rfl) (Wn.none rfl) rfl rfl ?_
          refine WR.nil ?_
          exact WQ.againP m18 [(4, _), (5, _), (6, _)] ⟨rfl, rfl, rfl, trivial⟩ ⟨_, _, _, _, rfl, H, f17_0, e12⟩ (Nat.lt_succ_self _)
      ·
        replace hk19 : ¬ (n17 < (l9.length : Int)) := of_decide_eq_false hk19
        rw [if_neg hk19] at e12
        refine WC.exit ?_
        refine WQ.thenExit ?_
        refine WQ.thenExit ?_
        refine WQ.exitHere ?_
        exact WQ.meetN [(4, _)] ⟨rfl, trivial⟩ ⟨_, _, _, rfl, H, e12⟩
    ·
      rintro e w ⟨n13, n14, M, rfl, H, q26⟩
      obtain rfl := Option.some.inj q26
      try dsimp only at h
      refine WQ.then ?_
      refine WC.seq ?_
      refine WC.region ?_
      refine WR.step (Ex.build [_, _] Tryd.underlying25 Tryd.zeroValue25 (xplaces25 Tryd.underlying25) rfl rfl) (Wn.none rfl) rfl rfl ?_
      refine WR.store [_, _] H rfl rfl rfl (by repeat (first | exact Upd.head | apply Upd.tail)) Tryd.sizeOf25 rfl (by rfl) (by rfl) (Wn.none rfl) ?_
      intro w H
      refine WR.nil ?_
      refine WQ.then ?_
      refine WC.ret ?_
      (repeat (first | refine WQ.thenRet ?_ | refine WQ.inBlockRet ?_ | refine WQ.cutRet ?_ | refine WQ.scRet ?_))
      obtain rfl := Option.some.inj h
      exact WQ.ret1 rfl ⟨_, rfl, H.loadAgg (by repeat (first | exact List.Mem.head _ | apply List.Mem.tail)) Tryd.isAgg25 Tryd.sizeOf25 (by rfl)⟩ H.ext rfl
theorem L_FoldMatchesSpec_ct {p0 : List UInt8} {p1 : List UInt8} {r : Bool} (h : L_FoldMatchesSpec p0 p1 = some r) : Ct Tryd.prog 8 [S p0, S p1] (fun M => True) (fun v M => v = Value.bool r) := by
  refine Ct.of Tryd.func8 (enters Tryd.func8 (by kernel_rfl) rfl) rfl rfl rfl ?_
  intro w0 M0 H hp
  unfold L_FoldMatchesSpec at h
  refine WC.seq ?_
  refine WC.region ?_
  refine WR.step (Ex.assign rfl) (Wn.none rfl) rfl rfl ?_
  refine WR.nil ?_
  refine WQ.then ?_
  refine WC.seq ?_
  refine WC.seq ?_
  obtain ⟨b1, hx2, h⟩ := bnd h
  refine WC.region ?_
  refine WR.call H (L_foldExample_ct hx2) rfl trivial (Wn.none rfl) rfl ?_
  intro v8 M w H hle hR
  obtain rfl := hR
  refine WR.step (Ex.not rfl) (Wn.none rfl) rfl rfl ?_
  refine WR.nil ?_
  refine WQ.then ?_
  refine WC.condB rfl (fun hk3 => ?_) (fun hk3 => ?_)
  ·
    replace hk3 : b1 = false := by simpa using hk3
    subst hk3
    rw [if_neg Bool.false_ne_true] at h
    refine WC.seq ?_
    refine WC.region ?_
    refine WR.step (Ex.assign rfl) (Wn.none rfl) rfl rfl ?_
    refine WR.nil ?_
    refine WQ.then ?_
    refine WC.ret ?_
    (repeat (first | refine WQ.thenRet ?_ | refine WQ.inBlockRet ?_ | refine WQ.cutRet ?_ | refine WQ.scRet ?_))
    obtain rfl := Option.some.inj h
    exact WQ.ret1 rfl rfl H.ext rfl
  ·
    replace hk3 : b1 = true := by simpa using hk3
    subst hk3
    rw [if_pos rfl] at h
    refine WC.skip ?_
    refine WQ.then ?_
    refine WC.seq ?_
    obtain ⟨⟨l4, ⟨n5, n6⟩⟩, hx7, h⟩ := bnd h
    try dsimp only at h
    refine WC.region ?_
    refine WR.step (Ex.move rfl) (Wn.none rfl) rfl rfl ?_
    refine WR.step (Ex.move rfl) (Wn.none rfl) rfl rfl ?_
    refine WR.call H (fold_Fold_ct hx7) rfl trivial (Wn.none rfl) rfl ?_
    intro v13 M w H hle hR
    try dsimp only at hR
    obtain ⟨x13_0, rfl, f13_0⟩ := hR
    refine WR.step (Ex.move rfl) (Wn.none rfl) rfl rfl ?_
    refine WR.step (Ex.extract rfl rfl) (Wn.none rfl) rfl rfl ?_
    refine WR.step (Ex.extract rfl rfl) (Wn.none rfl) rfl rfl ?_
    refine WR.alloc [_, _] H Tryd.zeroValue25 rfl (Wn.none rfl) rfl ?_
    intro b6 w H
    refine WR.step (Ex.assign rfl) (Wn.none rfl) rfl rfl ?_
    refine WR.store [_, _] H rfl rfl rfl (by repeat (first | exact Upd.head | apply Upd.tail)) Tryd.sizeOf25 rfl (by rfl) (by rfl) (Wn.none rfl) ?_
    intro w H
    refine WR.nil ?_
    refine WQ.then ?_
    refine WC.seq ?_
    obtain ⟨⟨n8, n9⟩, hx10, h⟩ := bnd h
    try dsimp only at h
    refine WC.region ?_
    refine WR.step (Ex.move rfl) (Wn.none rfl) rfl rfl ?_
    refine WR.step (Ex.move rfl) (Wn.none rfl) rfl rfl ?_
    refine WR.call H (R_FoldFault_ct hx10) rfl trivial (Wn.none rfl) rfl ?_
    intro v18 M w H hle hR
    replace f13_0 := f13_0.mono hle
    try dsimp only at hR
    obtain rfl := hR
    refine WR.alloc [_, _] H Tryd.zeroValue25 rfl (Wn.none rfl) rfl ?_
    intro b7 w H
    refine WR.store [_, _] H rfl rfl rfl (by repeat (first | exact Upd.head | apply Upd.tail)) Tryd.sizeOf25 rfl (by rfl) (by rfl) (Wn.none rfl) ?_
    intro w H
    refine WR.nil ?_
    refine WQ.then ?_
    refine WC.seq ?_
    refine WC.seq ?_
    refine WC.region ?_
    refine WR.step (Ex.fieldAddr Tryd.underlying25 rfl Tryd.sizeOf3 (by decide) rfl) (Wn.none rfl) rfl rfl ?_
    refine WR.step (Ex.load1 H rfl (by repeat (first | exact List.Mem.head _ | apply List.Mem.tail)) Tryd.isAgg3 (by rfl)) (Wn.none rfl) rfl rfl ?_
    refine WR.step (Ex.neqC rfl rfl) (Wn.none rfl) rfl rfl ?_
    refine WR.nil ?_
    refine WQ.then ?_
    refine WC.condB rfl (fun hk11 => ?_) (fun hk11 => ?_)
    ·
      replace hk11 : ¬ (n8 = (0 : Int)) := of_not_decide hk11
      rw [if_neg hk11] at h
      refine WC.seq ?_
      obtain ⟨o12, e13, h⟩ := bnd h
      refine WC.cutX (fun e w => ∃ (b14 : Bool) (M : Mem), e = [(4, Value.bool b14)] ∧ St w0 M0 M [] w ∧ some b14 = some o12) [] ?_ ?_ (trivial)
      ·
        by_cases hk15 : n5 = n8 ∧ n6 = n9
        ·
          rw [if_pos hk15] at e13
          refine WC.region ?_
          refine WR.step (Ex.loadAgg H rfl (by repeat (first | exact List.Mem.head _ | apply List.Mem.tail)) Tryd.isAgg25 Tryd.sizeOf25 (by rfl)) (Wn.none rfl) rfl rfl ?_
          refine WR.step (Ex.loadAgg H rfl (by repeat (first | exact List.Mem.head _ | apply List.Mem.tail)) Tryd.isAgg25 Tryd.sizeOf25 (by rfl)) (Wn.none rfl) rfl rfl ?_
          refine WR.stepE (v' := .bool true) (Ex.eqlAgg rfl rfl (by kernel_rfl) (xeq25 n5 n8 n6 n9)) (congrArg Value.bool (decide_eq_true hk15)) (Wn.none rfl) rfl rfl ?_
          refine WR.step (Ex.move rfl) (Wn.none rfl) rfl rfl ?_
          refine WR.step (Ex.move rfl) (Wn.some rfl rfl rfl) rfl rfl ?_
          refine WR.step (Ex.lenSl Tryd.underlying35 f13_0 rfl) (Wn.some rfl rfl rfl) rfl rfl ?_
          refine WR.step (Ex.eql rfl rfl) (Wn.some rfl rfl rfl) rfl rfl ?_
          refine WR.step (Ex.pickT rfl rfl) (Wn.none rfl) rfl rfl ?_
          refine WR.step (Ex.assign rfl) (Wn.none rfl) rfl rfl ?_
          refine WR.nil ?_
          exact WQ.meetN [(4, _)] ⟨rfl, trivial⟩ ⟨_, _, rfl, (H.pick (L' := []) (by repeat (first | exact Pick.nil | refine Pick.cons (by repeat (first | exact Rem.head | apply Rem.tail)) ?_))), e13⟩
        ·
          rw [if_neg hk15] at e13
          refine WC.region ?_
          refine WR.step (Ex.loadAgg H rfl (by repeat (first | exact List.Mem.head _ | apply List.Mem.tail)) Tryd.isAgg25 Tryd.sizeOf25 (by rfl)) (Wn.none rfl) rfl rfl ?_
          refine WR.step (Ex.loadAgg H rfl (by repeat (first | exact List.Mem.head _ | apply List.Mem.tail)) Tryd.isAgg25 Tryd.sizeOf25 (by rfl)) (Wn.none rfl) rfl rfl ?_
          refine WR.stepE (v' := .bool false) (Ex.eqlAgg rfl rfl (by kernel_rfl) (xeq25 n5 n8 n6 n9)) (congrArg Value.bool (decide_eq_false hk15)) (Wn.none rfl) rfl rfl ?_
          refine WR.step (Ex.move rfl) (Wn.none rfl) rfl rfl ?_
          refine WR.skipG (b := false) rfl rfl rfl rfl rfl ?_
          refine WR.skipG (b := false) rfl rfl rfl rfl rfl ?_
          refine WR.skipG (b := false) rfl rfl rfl rfl rfl ?_
          refine WR.step (Ex.pickF rfl rfl) (Wn.none rfl) rfl rfl ?_
          refine WR.step (Ex.assign rfl) (Wn.none rfl) rfl rfl ?_
          refine WR.nil ?_
          exact WQ.meetN [(4, _)] ⟨rfl, trivial⟩ ⟨_, _, rfl, (H.pick (L' := []) (by repeat (first | exact Pick.nil | refine Pick.cons (by repeat (first | exact Rem.head | apply Rem.tail)) ?_))), e13⟩
      ·
        rintro e w ⟨b14, M, rfl, H, q16⟩
        obtain rfl := Option.some.inj q16
        refine WQ.then ?_
        refine WC.ret ?_
        (repeat (first | refine WQ.thenRet ?_ | refine WQ.inBlockRet ?_ | refine WQ.cutRet ?_ | refine WQ.scRet ?_))
        obtain rfl := Option.some.inj h
        exact WQ.ret1 rfl rfl H.ext rfl
    ·
      replace hk11 : n8 = (0 : Int) := of_not_decide' hk11
      rw [if_pos hk11] at h
      refine WC.skip ?_
      refine WQ.then ?_
      refine WC.seq ?_
      obtain ⟨o17, e18, h⟩ := bnd h
      refine WC.cutX (fun e w => ∃ (b19 : Bool) (M : Mem), e = [(4, Value.bool b19)] ∧ St w0 M0 M [] w ∧ some b19 = some o17) [] ?_ ?_ (trivial)
      ·
        by_cases hk20 : n5 = (0 : Int)
        ·
          rw [if_pos hk20] at e18
          obtain ⟨l21, hx22, e18⟩ := bnd e18
          obtain ⟨b23, hx24, e18⟩ := bnd e18
          refine WC.region ?_
          refine WR.step (Ex.fieldAddr Tryd.underlying25 rfl Tryd.sizeOf3 (by decide) rfl) (Wn.none rfl) rfl rfl ?_
          refine WR.step (Ex.load1 H rfl (by repeat (first | exact List.Mem.head _ | apply List.Mem.tail)) Tryd.isAgg3 (by rfl)) (Wn.none rfl) rfl rfl ?_
          refine WR.stepE (v' := .bool true) (Ex.eql rfl rfl) (congrArg Value.bool (decide_eq_true hk20)) (Wn.none rfl) rfl rfl ?_
          refine WR.step (Ex.move rfl) (Wn.none rfl) rfl rfl ?_
          refine WR.step (Ex.move rfl) (Wn.some rfl rfl rfl) rfl rfl ?_
          refine WR.step (Ex.move rfl) (Wn.some rfl rfl rfl) rfl rfl ?_
          refine WR.step (Ex.move rfl) (Wn.some rfl rfl rfl) rfl rfl ?_
          refine WR.call H (R_Folded_ct hx22) rfl trivial (Wn.some rfl rfl rfl) rfl ?_
          intro v37 M w H hle hR
          replace f13_0 := f13_0.mono hle
          have f37_0 := hR
          refine WR.call H (R_Strings_ct hx24) rfl ⟨f13_0, f37_0⟩ (Wn.some rfl rfl rfl) rfl ?_
          intro v38 M w H hle hR
          replace f13_0 := f13_0.mono hle
          replace f37_0 := f37_0.mono hle
          obtain rfl := hR
          refine WR.step (Ex.pickT rfl rfl) (Wn.none rfl) rfl rfl ?_
          refine WR.step (Ex.assign rfl) (Wn.none rfl) rfl rfl ?_
          refine WR.nil ?_
          exact WQ.meetN [(4, _)] ⟨rfl, trivial⟩ ⟨_, _, rfl, (H.pick (L' := []) (by repeat (first | exact Pick.nil | refine Pick.cons (by repeat (first | exact Rem.head | apply Rem.tail)) ?_))), e18⟩
        ·
          rw [if_neg hk20] at e18
          refine WC.region ?_
          refine WR.step (Ex.fieldAddr Tryd.underlying25 rfl Tryd.sizeOf3 (by decide) rfl) (Wn.none rfl) rfl rfl ?_
          refine WR.step (Ex.load1 H rfl (by repeat (first | exact List.Mem.head _ | apply List.Mem.tail)) Tryd.isAgg3 (by rfl)) (Wn.none rfl) rfl rfl ?_
          refine WR.stepE (v' := .bool false) (Ex.eql rfl rfl) (congrArg Value.bool (decide_eq_false hk20)) (Wn.none rfl) rfl rfl ?_
          refine WR.step (Ex.move rfl) (Wn.none rfl) rfl rfl ?_
          refine WR.skipG (b := false) rfl rfl rfl rfl rfl ?_
          refine WR.skipG (b := false) rfl rfl rfl rfl rfl ?_
          refine WR.skipG (b := false) rfl rfl rfl rfl rfl ?_
          refine WR.skipG (b := false) rfl rfl rfl rfl rfl ?_
          refine WR.skipG (b := false) rfl rfl rfl rfl rfl ?_
          refine WR.step (Ex.pickF rfl rfl) (Wn.none rfl) rfl rfl ?_
          refine WR.step (Ex.assign rfl) (Wn.none rfl) rfl rfl ?_
          refine WR.nil ?_
          exact WQ.meetN [(4, _)] ⟨rfl, trivial⟩ ⟨_, _, rfl, (H.pick (L' := []) (by repeat (first | exact Pick.nil | refine Pick.cons (by repeat (first | exact Rem.head | apply Rem.tail)) ?_))), e18⟩
      ·
        rintro e w ⟨b19, M, rfl, H, q25⟩
        obtain rfl := Option.some.inj q25
        refine WQ.then ?_
        refine WC.ret ?_
        (repeat (first | refine WQ.thenRet ?_ | refine WQ.inBlockRet ?_ | refine WQ.cutRet ?_ | refine WQ.scRet ?_))
        obtain rfl := Option.some.inj h
        exact WQ.ret1 rfl rfl H.ext rfl
theorem L_FoldRoundTrip_ct {p0 : List UInt8} {p1 : List UInt8} {r : Bool} (h : L_FoldRoundTrip p0 p1 = some r) : Ct Tryd.prog 9 [S p0, S p1] (fun M => True) (fun v M => v = Value.bool r) := by
  refine Ct.of Tryd.func9 (enters Tryd.func9 (by kernel_rfl) rfl) rfl rfl rfl ?_
  intro w0 M0 H hp
  unfold L_FoldRoundTrip at h
  refine WC.seq ?_
  refine WC.region ?_
  refine WR.step (Ex.assign rfl) (Wn.none rfl) rfl rfl ?_
  refine WR.nil ?_
  refine WQ.then ?_
  refine WC.seq ?_
  refine WC.seq ?_
  obtain ⟨b1, hx2, h⟩ := bnd h
  refine WC.region ?_
  refine WR.call H (L_foldExample_ct hx2) rfl trivial (Wn.none rfl) rfl ?_
  intro v10 M w H hle hR
  obtain rfl := hR
  refine WR.step (Ex.not rfl) (Wn.none rfl) rfl rfl ?_
  refine WR.nil ?_
  refine WQ.then ?_
  refine WC.condB rfl (fun hk3 => ?_) (fun hk3 => ?_)
  ·
    replace hk3 : b1 = false := by simpa using hk3
    subst hk3
    rw [if_neg Bool.false_ne_true] at h
    refine WC.seq ?_
    refine WC.region ?_
    refine WR.step (Ex.assign rfl) (Wn.none rfl) rfl rfl ?_
    refine WR.nil ?_
    refine WQ.then ?_
    refine WC.ret ?_
    (repeat (first | refine WQ.thenRet ?_ | refine WQ.inBlockRet ?_ | refine WQ.cutRet ?_ | refine WQ.scRet ?_))
    obtain rfl := Option.some.inj h
    exact WQ.ret1 rfl rfl H.ext rfl
  ·
    replace hk3 : b1 = true := by simpa using hk3
    subst hk3
    rw [if_pos rfl] at h
    refine WC.skip ?_
    refine WQ.then ?_
    refine WC.seq ?_
    obtain ⟨⟨l4, ⟨n5, n6⟩⟩, hx7, h⟩ := bnd h
    try dsimp only at h
    refine WC.region ?_
    refine WR.step (Ex.move rfl) (Wn.none rfl) rfl rfl ?_
    refine WR.step (Ex.move rfl) (Wn.none rfl) rfl rfl ?_
    refine WR.call H (fold_Fold_ct hx7) rfl trivial (Wn.none rfl) rfl ?_
    intro v15 M w H hle hR
    try dsimp only at hR
    obtain ⟨x15_0, rfl, f15_0⟩ := hR
    refine WR.step (Ex.move rfl) (Wn.none rfl) rfl rfl ?_
    refine WR.step (Ex.extract rfl rfl) (Wn.none rfl) rfl rfl ?_
    refine WR.step (Ex.extract rfl rfl) (Wn.none rfl) rfl rfl ?_
    refine WR.alloc [_, _] H Tryd.zeroValue25 rfl (Wn.none rfl) rfl ?_
    intro b6 w H
    refine WR.step (Ex.assign rfl) (Wn.none rfl) rfl rfl ?_
    refine WR.store [_, _] H rfl rfl rfl (by repeat (first | exact Upd.head | apply Upd.tail)) Tryd.sizeOf25 rfl (by rfl) (by rfl) (Wn.none rfl) ?_
    intro w H
    refine WR.nil ?_
    refine WQ.then ?_
    refine WC.seq ?_
    refine WC.seq ?_
    obtain ⟨o8, e9, h⟩ := bnd h
    refine WC.cutX (fun e w => ∃ (b10 : Bool) (M : Mem), e = [(0, S p0), (1, S p1), (5, x15_0), (6, ptr b6 0), (25, Value.bool b10)] ∧ St w0 M0 M [.blk b6 (.cells #[I n5, I n6] 25)] w ∧ Sl M encS x15_0 l4 ∧ some b10 = some o8) [] ?_ ?_ (trivial)
    ·
      by_cases hk11 : n5 = (0 : Int)
      ·
        rw [if_pos hk11] at e9
        refine WC.region ?_
        refine WR.step (Ex.fieldAddr Tryd.underlying25 rfl Tryd.sizeOf3 (by decide) rfl) (Wn.none rfl) rfl rfl ?_
        refine WR.step (Ex.load1 H rfl (by repeat (first | exact List.Mem.head _ | apply List.Mem.tail)) Tryd.isAgg3 (by rfl)) (Wn.none rfl) rfl rfl ?_
        refine WR.stepE (v' := .bool false) (Ex.neqC rfl rfl) (congrArg Value.bool (by rw [decide_eq_true hk11]; rfl)) (Wn.none rfl) rfl rfl ?_
        refine WR.step (Ex.move rfl) (Wn.none rfl) rfl rfl ?_
        refine WR.step (Ex.move rfl) (Wn.some rfl rfl rfl) rfl rfl ?_
        refine WR.step (Ex.lenSl Tryd.underlying35 f15_0 rfl) (Wn.some rfl rfl rfl) rfl rfl ?_
        refine WR.step (Ex.gtr rfl rfl) (Wn.some rfl rfl rfl) rfl rfl ?_
        refine WR.step (Ex.pickF rfl rfl) (Wn.none rfl) rfl rfl ?_
        refine WR.nil ?_
        exact WQ.meetN [(0, _), (1, _), (5, _), (6, _), (25, _)] ⟨rfl, rfl, rfl, rfl, rfl, trivial⟩ ⟨_, _, rfl, H, f15_0, e9⟩
      ·
        rw [if_neg hk11] at e9
        refine WC.region ?_
        refine WR.step (Ex.fieldAddr Tryd.underlying25 rfl Tryd.sizeOf3 (by decide) rfl) (Wn.none rfl) rfl rfl ?_
        refine WR.step (Ex.load1 H rfl (by repeat (first | exact List.Mem.head _ | apply List.Mem.tail)) Tryd.isAgg3 (by rfl)) (Wn.none rfl) rfl rfl ?_
        refine WR.stepE (v' := .bool true) (Ex.neqC rfl rfl) (congrArg Value.bool (by rw [decide_eq_false hk11]; rfl)) (Wn.none rfl) rfl rfl ?_
        refine WR.step (Ex.move rfl) (Wn.none rfl) rfl rfl ?_
        refine WR.skipG (b := true) rfl rfl rfl rfl rfl ?_
        refine WR.skipG (b := true) rfl rfl rfl rfl rfl ?_
        refine WR.skipG (b := true) rfl rfl rfl rfl rfl ?_
        refine WR.step (Ex.pickT rfl rfl) (Wn.none rfl) rfl rfl ?_
        refine WR.nil ?_
        exact WQ.meetN [(0, _), (1, _), (5, _), (6, _), (25, _)] ⟨rfl, rfl, rfl, rfl, rfl, trivial⟩ ⟨_, _, rfl, H, f15_0, e9⟩
    ·
      rintro e w ⟨b10, M, rfl, H, f15_0, q12⟩
      obtain rfl := Option.some.inj q12
      refine WQ.then ?_
      refine WC.condB rfl (fun hk13 => ?_) (fun hk13 => ?_)
      ·
        subst hk13
        rw [if_pos rfl] at h
        refine WC.seq ?_
        obtain ⟨o14, e15, h⟩ := bnd h
        refine WC.cutX (fun e w => ∃ (b16 : Bool) (M : Mem), e = [(4, Value.bool b16)] ∧ St w0 M0 M [] w ∧ some b16 = some o14) [] ?_ ?_ (trivial)
        ·
          by_cases hk17 : n5 = (0 : Int)
          ·
            rw [if_pos hk17] at e15
            refine WC.region ?_
            refine WR.step (Ex.fieldAddr Tryd.underlying25 rfl Tryd.sizeOf3 (by decide) rfl) (Wn.none rfl) rfl rfl ?_
            refine WR.step (Ex.load1 H rfl (by repeat (first | exact List.Mem.head _ | apply List.Mem.tail)) Tryd.isAgg3 (by rfl)) (Wn.none rfl) rfl rfl ?_
            refine WR.stepE (v' := .bool true) (Ex.eql rfl rfl) (congrArg Value.bool (decide_eq_true hk17)) (Wn.none rfl) rfl rfl ?_
            refine WR.step (Ex.move rfl) (Wn.none rfl) rfl rfl ?_
            refine WR.skipG (b := true) rfl rfl rfl rfl rfl ?_
            refine WR.skipG (b := true) rfl rfl rfl rfl rfl ?_
            refine WR.skipG (b := true) rfl rfl rfl rfl rfl ?_
            refine WR.step (Ex.pickT rfl rfl) (Wn.none rfl) rfl rfl ?_
            refine WR.step (Ex.assign rfl) (Wn.none rfl) rfl rfl ?_
            refine WR.nil ?_
            exact WQ.meetN [(4, _)] ⟨rfl, trivial⟩ ⟨_, _, rfl, (H.pick (L' := []) (by repeat (first | exact Pick.nil | refine Pick.cons (by repeat (first | exact Rem.head | apply Rem.tail)) ?_))), e15⟩
          ·
            rw [if_neg hk17] at e15
            refine WC.region ?_
            refine WR.step (Ex.fieldAddr Tryd.underlying25 rfl Tryd.sizeOf3 (by decide) rfl) (Wn.none rfl) rfl rfl ?_
            refine WR.step (Ex.load1 H rfl (by repeat (first | exact List.Mem.head _ | apply List.Mem.tail)) Tryd.isAgg3 (by rfl)) (Wn.none rfl) rfl rfl ?_
            refine WR.stepE (v' := .bool false) (Ex.eql rfl rfl) (congrArg Value.bool (decide_eq_false hk17)) (Wn.none rfl) rfl rfl ?_
            refine WR.step (Ex.move rfl) (Wn.none rfl) rfl rfl ?_
            refine WR.step (Ex.move rfl) (Wn.some rfl rfl rfl) rfl rfl ?_
            refine WR.step (Ex.lenSl Tryd.underlying35 f15_0 rfl) (Wn.some rfl rfl rfl) rfl rfl ?_
            refine WR.step (Ex.eql rfl rfl) (Wn.some rfl rfl rfl) rfl rfl ?_
            refine WR.step (Ex.pickF rfl rfl) (Wn.none rfl) rfl rfl ?_
            refine WR.step (Ex.assign rfl) (Wn.none rfl) rfl rfl ?_
            refine WR.nil ?_
            exact WQ.meetN [(4, _)] ⟨rfl, trivial⟩ ⟨_, _, rfl, (H.pick (L' := []) (by repeat (first | exact Pick.nil | refine Pick.cons (by repeat (first | exact Rem.head | apply Rem.tail)) ?_))), e15⟩
        ·
          rintro e w ⟨b16, M, rfl, H, q18⟩
          obtain rfl := Option.some.inj q18
          refine WQ.then ?_
          refine WC.ret ?_
          (repeat (first | refine WQ.thenRet ?_ | refine WQ.inBlockRet ?_ | refine WQ.cutRet ?_ | refine WQ.scRet ?_))
          obtain rfl := Option.some.inj h
          exact WQ.ret1 rfl rfl H.ext rfl
      ·
        subst hk13
        rw [if_neg Bool.false_ne_true] at h
        refine WC.skip ?_
        refine WQ.then ?_
        refine WC.seq ?_
        obtain ⟨⟨s19, s20, ⟨n21, n22⟩⟩, hx23, h⟩ := bnd h
        try dsimp only at h
        refine WC.region ?_
        refine WR.step (Ex.move rfl) (Wn.none rfl) rfl rfl ?_
        refine WR.call H (fold_Unfold_ct hx23) rfl (f15_0) (Wn.none rfl) rfl ?_
        intro v36 M w H hle hR
        replace f15_0 := f15_0.mono hle
        try dsimp only at hR
        obtain rfl := hR
        refine WR.step (Ex.move rfl) (Wn.none rfl) rfl rfl ?_
        refine WR.step (Ex.extract rfl rfl) (Wn.none rfl) rfl rfl ?_
        refine WR.step (Ex.extract rfl rfl) (Wn.none rfl) rfl rfl ?_
        refine WR.step (Ex.extract rfl rfl) (Wn.none rfl) rfl rfl ?_
        refine WR.alloc [_, _] H Tryd.zeroValue25 rfl (Wn.none rfl) rfl ?_
        intro b9 w H
        refine WR.step (Ex.assign rfl) (Wn.none rfl) rfl rfl ?_
        refine WR.step (Ex.assign rfl) (Wn.none rfl) rfl rfl ?_
        refine WR.store [_, _] H rfl rfl rfl (by repeat (first | exact Upd.head | apply Upd.tail)) Tryd.sizeOf25 rfl (by rfl) (by rfl) (Wn.none rfl) ?_
        intro w H
        refine WR.nil ?_
        refine WQ.then ?_
        refine WC.seq ?_
        obtain ⟨o24, e25, h⟩ := bnd h
        refine WC.cutX (fun e w => ∃ (b26 : Bool) (M : Mem), e = [(4, Value.bool b26)] ∧ St w0 M0 M [] w ∧ some b26 = some o24) [] ?_ ?_ (trivial)
        ·
          by_cases hk27 : n21 = (0 : Int)
          ·
            rw [if_pos hk27] at e25
            by_cases hk28 : s19 = p0
            ·
              rw [if_pos hk28] at e25
              refine WC.region ?_
              refine WR.step (Ex.fieldAddr Tryd.underlying25 rfl Tryd.sizeOf3 (by decide) rfl) (Wn.none rfl) rfl rfl ?_
              refine WR.step (Ex.load1 H rfl (by repeat (first | exact List.Mem.head _ | apply List.Mem.tail)) Tryd.isAgg3 (by rfl)) (Wn.none rfl) rfl rfl ?_
              refine WR.stepE (v' := .bool true) (Ex.eql rfl rfl) (congrArg Value.bool (decide_eq_true hk27)) (Wn.none rfl) rfl rfl ?_
              refine WR.step (Ex.move rfl) (Wn.none rfl) rfl rfl ?_
              refine WR.step (Ex.move rfl) (Wn.some rfl rfl rfl) rfl rfl ?_
              refine WR.step (Ex.move rfl) (Wn.some rfl rfl rfl) rfl rfl ?_
              refine WR.stepE (v' := .bool true) (Ex.strEql rfl rfl) (congrArg Value.bool (decide_eq_true hk28)) (Wn.some rfl rfl rfl) rfl rfl ?_
              refine WR.step (Ex.pickT rfl rfl) (Wn.none rfl) rfl rfl ?_
              refine WR.step (Ex.move rfl) (Wn.none rfl) rfl rfl ?_
              refine WR.step (Ex.move rfl) (Wn.some rfl rfl rfl) rfl rfl ?_
              refine WR.step (Ex.move rfl) (Wn.some rfl rfl rfl) rfl rfl ?_
              refine WR.step (Ex.strEql rfl rfl) (Wn.some rfl rfl rfl) rfl rfl ?_
              refine WR.step (Ex.pickT rfl rfl) (Wn.none rfl) rfl rfl ?_
              refine WR.step (Ex.assign rfl) (Wn.none rfl) rfl rfl ?_
              refine WR.nil ?_
              exact WQ.meetN [(4, _)] ⟨rfl, trivial⟩ ⟨_, _, rfl, (H.pick (L' := []) (by repeat (first | exact Pick.nil | refine Pick.cons (by repeat (first | exact Rem.head | apply Rem.tail)) ?_))), e25⟩
            ·
              rw [if_neg hk28] at e25
              refine WC.region ?_
              refine WR.step (Ex.fieldAddr Tryd.underlying25 rfl Tryd.sizeOf3 (by decide) rfl) (Wn.none rfl) rfl rfl ?_
              refine WR.step (Ex.load1 H rfl (by repeat (first | exact List.Mem.head _ | apply List.Mem.tail)) Tryd.isAgg3 (by rfl)) (Wn.none rfl) rfl rfl ?_
              refine WR.stepE (v' := .bool true) (Ex.eql rfl rfl) (congrArg Value.bool (decide_eq_true hk27)) (Wn.none rfl) rfl rfl ?_
              refine WR.step (Ex.move rfl) (Wn.none rfl) rfl rfl ?_
              refine WR.step (Ex.move rfl) (Wn.some rfl rfl rfl) rfl rfl ?_
              refine WR.step (Ex.move rfl) (Wn.some rfl rfl rfl) rfl rfl ?_
              refine WR.stepE (v' := .bool false) (Ex.strEql rfl rfl) (congrArg Value.bool (decide_eq_false hk28)) (Wn.some rfl rfl rfl) rfl rfl ?_
              refine WR.step (Ex.pickT rfl rfl) (Wn.none rfl) rfl rfl ?_
              refine WR.step (Ex.move rfl) (Wn.none rfl) rfl rfl ?_
              refine WR.skipG (b := false) rfl rfl rfl rfl rfl ?_
              refine WR.skipG (b := false) rfl rfl rfl rfl rfl ?_
              refine WR.skipG (b := false) rfl rfl rfl rfl rfl ?_
              refine WR.step (Ex.pickF rfl rfl) (Wn.none rfl) rfl rfl ?_
              refine WR.step (Ex.assign rfl) (Wn.none rfl) rfl rfl ?_
              refine WR.nil ?_
              exact WQ.meetN [(4, _)] ⟨rfl, trivial⟩ ⟨_, _, rfl, (H.pick (L' := []) (by repeat (first | exact Pick.nil | refine Pick.cons (by repeat (first | exact Rem.head | apply Rem.tail)) ?_))), e25⟩
          ·
            rw [if_neg hk27] at e25
            refine WC.region ?_
            refine WR.step (Ex.fieldAddr Tryd.underlying25 rfl Tryd.sizeOf3 (by decide) rfl) (Wn.none rfl) rfl rfl ?_
            refine WR.step (Ex.load1 H rfl (by repeat (first | exact List.Mem.head _ | apply List.Mem.tail)) Tryd.isAgg3 (by rfl)) (Wn.none rfl) rfl rfl ?_
            refine WR.stepE (v' := .bool false) (Ex.eql rfl rfl) (congrArg Value.bool (decide_eq_false hk27)) (Wn.none rfl) rfl rfl ?_
            refine WR.step (Ex.move rfl) (Wn.none rfl) rfl rfl ?_
            refine WR.skipG (b := false) rfl rfl rfl rfl rfl ?_
            refine WR.skipG (b := false) rfl rfl rfl rfl rfl ?_
            refine WR.skipG (b := false) rfl rfl rfl rfl rfl ?_
            refine WR.step (Ex.pickF rfl rfl) (Wn.none rfl) rfl rfl ?_
            refine WR.step (Ex.move rfl) (Wn.none rfl) rfl rfl ?_
            refine WR.skipG (b := false) rfl rfl rfl rfl rfl ?_
            refine WR.skipG (b := false) rfl rfl rfl rfl rfl ?_
            refine WR.skipG (b := false) rfl rfl rfl rfl rfl ?_
            refine WR.step (Ex.pickF rfl rfl) (Wn.none rfl) rfl rfl ?_
            refine WR.step (Ex.assign rfl) (Wn.none rfl) rfl rfl ?_
            refine WR.nil ?_
            exact WQ.meetN [(4, _)] ⟨rfl, trivial⟩ ⟨_, _, rfl, (H.pick (L' := []) (by repeat (first | exact Pick.nil | refine Pick.cons (by repeat (first | exact Rem.head | apply Rem.tail)) ?_))), e25⟩
        ·
          rintro e w ⟨b26, M, rfl, H, q29⟩
          obtain rfl := Option.some.inj q29
          refine WQ.then ?_
          refine WC.ret ?_
          (repeat (first | refine WQ.thenRet ?_ | refine WQ.inBlockRet ?_ | refine WQ.cutRet ?_ | refine WQ.scRet ?_))
          obtain rfl := Option.some.inj h
          exact WQ.ret1 rfl rfl H.ext rfl
theorem L_FoldShortLines_ct {p0 : List UInt8} {p1 : List UInt8} {r : Bool} (h : L_FoldShortLines p0 p1 = some r) : Ct Tryd.prog 10 [S p0, S p1] (fun M => True) (fun v M => v = Value.bool r) := by
  refine Ct.of Tryd.func10 (enters Tryd.func10 (by kernel_rfl) rfl) rfl rfl rfl ?_
  intro w0 M0 H hp
  unfold L_FoldShortLines at h
  refine WC.seq ?_
  refine WC.region ?_
  refine WR.step (Ex.assign rfl) (Wn.none rfl) rfl rfl ?_
  refine WR.nil ?_
  refine WQ.then ?_
  refine WC.seq ?_
  refine WC.seq ?_
  obtain ⟨b1, hx2, h⟩ := bnd h
  refine WC.region ?_
  refine WR.call H (L_foldExample_ct hx2) rfl trivial (Wn.none rfl) rfl ?_
  intro v10 M w H hle hR
  obtain rfl := hR
  refine WR.step (Ex.not rfl) (Wn.none rfl) rfl rfl ?_
  refine WR.nil ?_
  refine WQ.then ?_
  refine WC.condB rfl (fun hk3 => ?_) (fun hk3 => ?_)
  ·
    replace hk3 : b1 = false := by simpa using hk3
    subst hk3
    rw [if_neg Bool.false_ne_true] at h
    refine WC.seq ?_
    refine WC.region ?_
    refine WR.step (Ex.assign rfl) (Wn.none rfl) rfl rfl ?_
    refine WR.nil ?_
    refine WQ.then ?_
    refine WC.ret ?_
    (repeat (first | refine WQ.thenRet ?_ | refine WQ.inBlockRet ?_ | refine WQ.cutRet ?_ | refine WQ.scRet ?_))
    obtain rfl := Option.some.inj h
    exact WQ.ret1 rfl rfl H.ext rfl
  ·
    replace hk3 : b1 = true := by simpa using hk3
    subst hk3
    rw [if_pos rfl] at h
    refine WC.skip ?_
    refine WQ.then ?_
    refine WC.seq ?_
    obtain ⟨⟨l4, ⟨n5, n6⟩⟩, hx7, h⟩ := bnd h
    try dsimp only at h
    refine WC.region ?_
    refine WR.step (Ex.move rfl) (Wn.none rfl) rfl rfl ?_
    refine WR.step (Ex.move rfl) (Wn.none rfl) rfl rfl ?_
    refine WR.call H (fold_Fold_ct hx7) rfl trivial (Wn.none rfl) rfl ?_
    intro v15 M w H hle hR
    try dsimp only at hR
    obtain ⟨x15_0, rfl, f15_0⟩ := hR
    refine WR.step (Ex.move rfl) (Wn.none rfl) rfl rfl ?_
    refine WR.step (Ex.extract rfl rfl) (Wn.none rfl) rfl rfl ?_
    refine WR.step (Ex.extract rfl rfl) (Wn.none rfl) rfl rfl ?_
    refine WR.alloc [_, _] H Tryd.zeroValue25 rfl (Wn.none rfl) rfl ?_
    intro b6 w H
    refine WR.step (Ex.assign rfl) (Wn.none rfl) rfl rfl ?_
    refine WR.store [_, _] H rfl rfl rfl (by repeat (first | exact Upd.head | apply Upd.tail)) Tryd.sizeOf25 rfl (by rfl) (by rfl) (Wn.none rfl) ?_
    intro w H
    refine WR.nil ?_
    refine WQ.then ?_
    refine WC.seq ?_
    refine WC.seq ?_
    refine WC.region ?_
    refine WR.step (Ex.fieldAddr Tryd.underlying25 rfl Tryd.sizeOf3 (by decide) rfl) (Wn.none rfl) rfl rfl ?_
    refine WR.step (Ex.load1 H rfl (by repeat (first | exact List.Mem.head _ | apply List.Mem.tail)) Tryd.isAgg3 (by rfl)) (Wn.none rfl) rfl rfl ?_
    refine WR.step (Ex.neqC rfl rfl) (Wn.none rfl) rfl rfl ?_
    refine WR.nil ?_
    refine WQ.then ?_
    refine WC.condB rfl (fun hk8 => ?_) (fun hk8 => ?_)
    ·
      replace hk8 : ¬ (n5 = (0 : Int)) := of_not_decide hk8
      rw [if_neg hk8] at h
      refine WC.seq ?_
      refine WC.region ?_
      refine WR.step (Ex.move rfl) (Wn.none rfl) rfl rfl ?_
      refine WR.step (Ex.lenSl Tryd.underlying35 f15_0 rfl) (Wn.none rfl) rfl rfl ?_
      refine WR.step (Ex.eql rfl rfl) (Wn.none rfl) rfl rfl ?_
      refine WR.step (Ex.assign rfl) (Wn.none rfl) rfl rfl ?_
      refine WR.nil ?_
      refine WQ.then ?_
      refine WC.ret ?_
      (repeat (first | refine WQ.thenRet ?_ | refine WQ.inBlockRet ?_ | refine WQ.cutRet ?_ | refine WQ.scRet ?_))
      obtain rfl := Option.some.inj h
      exact WQ.ret1 rfl rfl H.ext rfl
    ·
      replace hk8 : n5 = (0 : Int) := of_not_decide' hk8
      rw [if_pos hk8] at h
      refine WC.skip ?_
      refine WQ.then ?_
      refine WC.seq ?_
      refine WC.seq ?_
      refine WC.region ?_
      refine WR.step (Ex.assign rfl) (Wn.none rfl) rfl rfl ?_
      refine WR.nil ?_
      refine WQ.then ?_
      obtain ⟨o9, e10, h⟩ := bnd h
      refine WC.cutX (fun e w => ∃  (M : Mem), e = [(5, x15_0)] ∧ St w0 M0 M [] w ∧ Sl M encS x15_0 l4 ∧ some (.inl ()) = some o9) [] ?_ ?_ (trivial)
      ·
        refine WC.block ?_
        refine WC.loopP (fun m e w => ∃ (n11 : Int) (M : Mem), e = [(0, S p0), (1, S p1), (5, x15_0), (7, I n11)] ∧ St w0 M0 M [] w ∧ Sl M encS x15_0 l4 ∧ L_FoldShortLines_L1 p0 p1 l4 m n11 = some o9) FU [(0, _), (1, _), (5, _), (7, _)] ⟨rfl, rfl, rfl, rfl, trivial⟩ ⟨_, _, rfl, (H.pick (L' := []) (by repeat (first | exact Pick.nil | refine Pick.cons (by repeat (first | exact Rem.head | apply Rem.tail)) ?_))), f15_0, e10⟩ ?_
        rintro m12 e w ⟨n11, M, rfl, H, f15_0, e10⟩
        rcases m12 with _ | m12
        · rw [L_FoldShortLines_L1] at e10; cases e10
        rw [L_FoldShortLines_L1] at e10
        refine WC.seq ?_
        refine WC.seq ?_
        refine WC.region ?_
        refine WR.step (Ex.move rfl) (Wn.none rfl) rfl rfl ?_
        refine WR.step (Ex.move rfl) (Wn.none rfl) rfl rfl ?_
        refine WR.step (Ex.lenSl Tryd.underlying35 f15_0 rfl) (Wn.none rfl) rfl rfl ?_
        refine WR.step (Ex.lss rfl rfl) (Wn.none rfl) rfl rfl ?_
        refine WR.nil ?_
        refine WQ.then ?_
        refine WC.condB rfl (fun hk13 => ?_) (fun hk13 => ?_)
        ·
          replace hk13 : n11 < (l4.length : Int) := of_decide_eq_true hk13
          rw [if_pos hk13] at e10
          refine WC.skip ?_
          refine WQ.then ?_
          refine WC.seq ?_
          refine WC.block ?_
          refine WC.seq ?_
          refine WC.region ?_
          refine WR.step (Ex.assign rfl) (Wn.none rfl) rfl rfl ?_
          refine WR.nil ?_
          refine WQ.then ?_
          refine WC.seq ?_
          refine WC.seq ?_
          refine WC.region ?_
          refine WR.step (Ex.move rfl) (Wn.none rfl) rfl rfl ?_
          refine WR.step (Ex.eql rfl rfl) (Wn.none rfl) rfl rfl ?_
          refine WR.nil ?_
          refine WQ.then ?_
          obtain ⟨o14, e15, e10⟩ := bnd e10
          refine WC.cutX (fun e w => ∃ (n16 : Int) (M : Mem), e = [(0, S p0), (1, S p1), (5, x15_0), (7, I n11), (8, I n16)] ∧ St w0 M0 M [] w ∧ Sl M encS x15_0 l4 ∧ some n16 = some o14) [] ?_ ?_ (trivial)
          ·
            refine WC.condB rfl (fun hk17 => ?_) (fun hk17 => ?_)
            ·
              replace hk17 : n11 = (0 : Int) := of_decide_eq_true hk17
              rw [if_pos hk17] at e15
              obtain ⟨n18, hxn18, e15⟩ := bnd e15
              refine WC.region ?_
              refine WR.step (Ex.move rfl) (Wn.none rfl) rfl rfl ?_
              refine WR.step (Ex.lenStr Tryd.underlying9 rfl) (Wn.none rfl) rfl rfl ?_
              refine WR.step (Ex.addC rfl rfl hxn18) (Wn.none rfl) rfl rfl ?_
              refine WR.step (Ex.assign rfl) (Wn.none rfl) rfl rfl ?_
              refine WR.nil ?_
              exact WQ.meetN [(0, _), (1, _), (5, _), (7, _), (8, _)] ⟨rfl, rfl, rfl, rfl, rfl, trivial⟩ ⟨_, _, rfl, H, f15_0, e15⟩
            ·
              replace hk17 : ¬ (n11 = (0 : Int)) := of_decide_eq_false hk17
              rw [if_neg hk17] at e15
              refine WC.skip ?_
              exact WQ.meetN [(0, _), (1, _), (5, _), (7, _), (8, _)] ⟨rfl, rfl, rfl, rfl, rfl, trivial⟩ ⟨_, _, rfl, H, f15_0, e15⟩
          ·
            rintro e w ⟨n16, M, rfl, H, f15_0, q19⟩
            obtain rfl := Option.some.inj q19
            refine WQ.then ?_
            refine WC.seq ?_
            refine WC.seq ?_
            refine WC.region ?_
            refine WR.step (Ex.move rfl) (Wn.none rfl) rfl rfl ?_
            refine WR.step (Ex.assign rfl) (Wn.none rfl) rfl rfl ?_
            refine WR.nil ?_
            refine WQ.then ?_
            obtain ⟨o20, e21, e10⟩ := bnd e10
            refine WC.cutX (fun e w => ∃  (M : Mem), e = [(0, S p0), (1, S p1), (5, x15_0), (7, I n11)] ∧ St w0 M0 M [] w ∧ Sl M encS x15_0 l4 ∧ some (.inl ()) = some o20) [] ?_ ?_ (trivial)
            ·
              refine WC.block ?_
              refine WC.loopP (fun m e w => ∃ (n22 : Int) (M : Mem), e = [(0, S p0), (1, S p1), (5, x15_0), (7, I n11), (9, I n22)] ∧ St w0 M0 M [] w ∧ Sl M encS x15_0 l4 ∧ L_FoldShortLines_L2 l4 n11 m n22 = some o20) FU [(0, _), (1, _), (5, _), (7, _), (9, _)] ⟨rfl, rfl, rfl, rfl, rfl, trivial⟩ ⟨_, _, rfl, H, f15_0, e21⟩ ?_
              rintro m23 e w ⟨n22, M, rfl, H, f15_0, e21⟩
              rcases m23 with _ | m23
              · rw [L_FoldShortLines_L2] at e21; cases e21
              rw [L_FoldShortLines_L2] at e21
              refine WC.seq ?_
              refine WC.seq ?_
              obtain ⟨o24, e25, e21⟩ := bnd e21
              refine WC.cutX (fun e w => ∃ (b26 : Bool) (M : Mem), e = [(0, S p0), (1, S p1), (5, x15_0), (7, I n11), (9, I n22), (50, Value.bool b26)] ∧ St w0 M0 M [] w ∧ Sl M encS x15_0 l4 ∧ some b26 = some o24) [] ?_ ?_ (trivial)
              ·
                obtain ⟨a27, hxa27, e25⟩ := bnd e25
                by_cases hk28 : n22 < (a27.length : Int)
                ·
                  rw [if_pos hk28] at e25
                  obtain ⟨a29, hxa29, e25⟩ := bnd e25
                  refine WC.region ?_
                  refine WR.step (Ex.move rfl) (Wn.none rfl) rfl rfl ?_
                  refine WR.step (Ex.move rfl) (Wn.none rfl) rfl rfl ?_
                  refine WR.step (Ex.move rfl) (Wn.none rfl) rfl rfl ?_
                  refine WR.idxC Tryd.underlying35 Tryd.sizeOf9 (f15_0) rfl rfl hxa27 (Wn.none rfl) rfl ?_
                  intro p39 hc39
                  refine WR.step (Ex.loadM H rfl hc39 Tryd.isAgg9) (Wn.none rfl) rfl rfl ?_
                  refine WR.step (Ex.lenStr Tryd.underlying9 rfl) (Wn.none rfl) rfl rfl ?_
                  refine WR.stepE (v' := .bool true) (Ex.lss rfl rfl) (congrArg Value.bool (decide_eq_true hk28)) (Wn.none rfl) rfl rfl ?_
                  refine WR.step (Ex.move rfl) (Wn.none rfl) rfl rfl ?_
                  refine WR.step (Ex.move rfl) (Wn.some rfl rfl rfl) rfl rfl ?_
                  refine WR.step (Ex.move rfl) (Wn.some rfl rfl rfl) rfl rfl ?_
                  refine WR.idxC Tryd.underlying35 Tryd.sizeOf9 (f15_0) rfl rfl hxa29 (Wn.some rfl rfl rfl) rfl ?_
                  intro p46 hc46
                  refine WR.step (Ex.loadM H rfl hc46 Tryd.isAgg9) (Wn.some rfl rfl rfl) rfl rfl ?_
                  refine WR.step (Ex.lenStr Tryd.underlying9 rfl) (Wn.some rfl rfl rfl) rfl rfl ?_
                  refine WR.step (Ex.gtr rfl rfl) (Wn.some rfl rfl rfl) rfl rfl ?_
                  refine WR.step (Ex.pickT rfl rfl) (Wn.none rfl) rfl rfl ?_
                  refine WR.nil ?_
                  exact WQ.meetN [(0, _), (1, _), (5, _), (7, _), (9, _), (50, _)] ⟨rfl, rfl, rfl, rfl, rfl, rfl, trivial⟩ ⟨_, _, rfl, H, f15_0, e25⟩
                ·
                  rw [if_neg hk28] at e25
                  refine WC.region ?_
                  refine WR.step (Ex.move rfl) (Wn.none rfl) rfl rfl ?_
                  refine WR.step (Ex.move rfl) (Wn.none rfl) rfl rfl ?_
                  refine WR.step (Ex.move rfl) (Wn.none rfl) rfl rfl ?_
                  refine WR.idxC Tryd.underlying35 Tryd.sizeOf9 (f15_0) rfl rfl hxa27 (Wn.none rfl) rfl ?_
                  intro p39 hc39
                  refine WR.step (Ex.loadM H rfl hc39 Tryd.isAgg9) (Wn.none rfl) rfl rfl ?_
                  refine WR.step (Ex.lenStr Tryd.underlying9 rfl) (Wn.none rfl) rfl rfl ?_
                  refine WR.stepE (v' := .bool false) (Ex.lss rfl rfl) (congrArg Value.bool (decide_eq_false hk28)) (Wn.none rfl) rfl rfl ?_
                  refine WR.step (Ex.move rfl) (Wn.none rfl) rfl rfl ?_
                  refine WR.skipG (b := false) rfl rfl rfl rfl rfl ?_
                  refine WR.skipG (b := false) rfl rfl rfl rfl rfl ?_
                  refine WR.skipG (b := false) rfl rfl rfl rfl rfl ?_
                  refine WR.skipG (b := false) rfl rfl rfl rfl rfl ?_
                  refine WR.skipG (b := false) rfl rfl rfl rfl rfl ?_
                  refine WR.skipG (b := false) rfl rfl rfl rfl rfl ?_
                  refine WR.step (Ex.pickF rfl rfl) (Wn.none rfl) rfl rfl ?_
                  refine WR.nil ?_
                  exact WQ.meetN [(0, _), (1, _), (5, _), (7, _), (9, _), (50, _)] ⟨rfl, rfl, rfl, rfl, rfl, rfl, trivial⟩ ⟨_, _, rfl, H, f15_0, e25⟩
              ·
                rintro e w ⟨b26, M, rfl, H, f15_0, q30⟩
                obtain rfl := Option.some.inj q30
                refine WQ.then ?_
                refine WC.condB rfl (fun hk31 => ?_) (fun hk31 => ?_)
                ·
                  subst hk31
                  rw [if_pos rfl] at e21
                  refine WC.skip ?_
                  refine WQ.then ?_
                  refine WC.seq ?_
                  refine WC.block ?_
                  refine WC.seq ?_
                  obtain ⟨o32, e33, e21⟩ := bnd e21
                  refine WC.cutX (fun e w => ∃ (b34 : Bool) (M : Mem), e = [(0, S p0), (1, S p1), (5, x15_0), (7, I n11), (9, I n22), (70, Value.bool b34)] ∧ St w0 M0 M [] w ∧ Sl M encS x15_0 l4 ∧ some b34 = some o32) [] ?_ ?_ (trivial)
                  ·
                    obtain ⟨a35, hxa35, e33⟩ := bnd e33
                    obtain ⟨c36, hxc36, e33⟩ := bnd e33
                    obtain ⟨b37, hx38, e33⟩ := bnd e33
                    rcases b37 with _ | _
                    ·
                      rw [if_neg Bool.false_ne_true] at e33
                      refine WC.region ?_
                      refine WR.step (Ex.move rfl) (Wn.none rfl) rfl rfl ?_
                      refine WR.step (Ex.move rfl) (Wn.none rfl) rfl rfl ?_
                      refine WR.idxC Tryd.underlying35 Tryd.sizeOf9 (f15_0) rfl rfl hxa35 (Wn.none rfl) rfl ?_
                      intro p55 hc55
                      refine WR.step (Ex.loadM H rfl hc55 Tryd.isAgg9) (Wn.none rfl) rfl rfl ?_
                      refine WR.step (Ex.move rfl) (Wn.none rfl) rfl rfl ?_
                      refine WR.step (Ex.idxStrC Tryd.underlying9 rfl rfl hxc36) (Wn.none rfl) rfl rfl ?_
                      refine WR.call H (R_Blank_ct hx38) rfl trivial (Wn.none rfl) rfl ?_
                      intro v59 M w H hle hR
                      replace f15_0 := f15_0.mono hle
                      replace hc55 := hc55.mono hle
                      obtain rfl := hR
                      refine WR.step (Ex.move rfl) (Wn.none rfl) rfl rfl ?_
                      refine WR.skipG (b := false) rfl rfl rfl rfl rfl ?_
                      refine WR.skipG (b := false) rfl rfl rfl rfl rfl ?_
                      refine WR.skipG (b := false) rfl rfl rfl rfl rfl ?_
                      refine WR.skipG (b := false) rfl rfl rfl rfl rfl ?_
                      refine WR.skipG (b := false) rfl rfl rfl rfl rfl ?_
                      refine WR.skipG (b := false) rfl rfl rfl rfl rfl ?_
                      refine WR.skipG (b := false) rfl rfl rfl rfl rfl ?_
                      refine WR.skipG (b := false) rfl rfl rfl rfl rfl ?_
                      refine WR.skipG (b := false) rfl rfl rfl rfl rfl ?_
                      refine WR.step (Ex.pickF rfl rfl) (Wn.none rfl) rfl rfl ?_
                      refine WR.nil ?_
                      exact WQ.meetN [(0, _), (1, _), (5, _), (7, _), (9, _), (70, _)] ⟨rfl, rfl, rfl, rfl, rfl, rfl, trivial⟩ ⟨_, _, rfl, H, f15_0, e33⟩
                    ·
                      rw [if_pos rfl] at e33
                      obtain ⟨a39, hxa39, e33⟩ := bnd e33
                      obtain ⟨n40, hxn40, e33⟩ := bnd e33
                      obtain ⟨c41, hxc41, e33⟩ := bnd e33
                      obtain ⟨b42, hx43, e33⟩ := bnd e33
                      refine WC.region ?_
                      refine WR.step (Ex.move rfl) (Wn.none rfl) rfl rfl ?_
                      refine WR.step (Ex.move rfl) (Wn.none rfl) rfl rfl ?_
                      refine WR.idxC Tryd.underlying35 Tryd.sizeOf9 (f15_0) rfl rfl hxa35 (Wn.none rfl) rfl ?_
                      intro p55 hc55
                      refine WR.step (Ex.loadM H rfl hc55 Tryd.isAgg9) (Wn.none rfl) rfl rfl ?_
                      refine WR.step (Ex.move rfl) (Wn.none rfl) rfl rfl ?_
                      refine WR.step (Ex.idxStrC Tryd.underlying9 rfl rfl hxc36) (Wn.none rfl) rfl rfl ?_
                      refine WR.call H (R_Blank_ct hx38) rfl trivial (Wn.none rfl) rfl ?_
                      intro v59 M w H hle hR
                      replace f15_0 := f15_0.mono hle
                      replace hc55 := hc55.mono hle
                      obtain rfl := hR
                      refine WR.step (Ex.move rfl) (Wn.none rfl) rfl rfl ?_
                      refine WR.step (Ex.move rfl) (Wn.some rfl rfl rfl) rfl rfl ?_
                      refine WR.step (Ex.move rfl) (Wn.some rfl rfl rfl) rfl rfl ?_
                      refine WR.idxC Tryd.underlying35 Tryd.sizeOf9 (f15_0) rfl rfl hxa39 (Wn.some rfl rfl rfl) rfl ?_
                      intro p63 hc63
                      refine WR.step (Ex.loadM H rfl hc63 Tryd.isAgg9) (Wn.some rfl rfl rfl) rfl rfl ?_
                      refine WR.step (Ex.move rfl) (Wn.some rfl rfl rfl) rfl rfl ?_
                      refine WR.step (Ex.subC rfl rfl hxn40) (Wn.some rfl rfl rfl) rfl rfl ?_
                      refine WR.step (Ex.idxStrC Tryd.underlying9 rfl rfl hxc41) (Wn.some rfl rfl rfl) rfl rfl ?_
                      refine WR.call H (R_Blank_ct hx43) rfl trivial (Wn.some rfl rfl rfl) rfl ?_
                      intro v68 M w H hle hR
                      replace f15_0 := f15_0.mono hle
                      replace hc55 := hc55.mono hle
                      replace hc63 := hc63.mono hle
                      obtain rfl := hR
                      refine WR.step (Ex.not rfl) (Wn.some rfl rfl rfl) rfl rfl ?_
                      refine WR.step (Ex.pickT rfl rfl) (Wn.none rfl) rfl rfl ?_
                      refine WR.nil ?_
                      exact WQ.meetN [(0, _), (1, _), (5, _), (7, _), (9, _), (70, _)] ⟨rfl, rfl, rfl, rfl, rfl, rfl, trivial⟩ ⟨_, _, rfl, H, f15_0, e33⟩
                  ·
                    rintro e w ⟨b34, M, rfl, H, f15_0, q44⟩
                    obtain rfl := Option.some.inj q44
                    refine WQ.then ?_
                    refine WC.condB rfl (fun hk45 => ?_) (fun hk45 => ?_)
                    ·
                      subst hk45
                      rw [if_pos rfl] at e21
                      refine WC.seq ?_
                      refine WC.region ?_
                      refine WR.step (Ex.assign rfl) (Wn.none rfl) rfl rfl ?_
                      refine WR.nil ?_
                      refine WQ.then ?_
                      refine WC.ret ?_
                      (repeat (first | refine WQ.thenRet ?_ | refine WQ.inBlockRet ?_ | refine WQ.cutRet ?_ | refine WQ.scRet ?_))
                      obtain rfl := Option.some.inj e21
                      try dsimp only at e10
                      obtain rfl := Option.some.inj e10
                      try dsimp only at h
                      obtain rfl := Option.some.inj h
                      exact WQ.ret1 rfl rfl H.ext rfl
                    ·
                      subst hk45
                      rw [if_neg Bool.false_ne_true] at e21
                      refine WC.skip ?_
                      refine WQ.inBlock ?_
                      refine WQ.then ?_
                      obtain ⟨n46, hxn46, e21⟩ := bnd e21
                      refine WC.region ?_
                      refine WR.step (Ex.move rfl) (Wn.none rfl) rfl rfl ?_
                      refine WR.step (Ex.addC rfl rfl hxn46) (Wn.none rfl) rfl rfl ?_
                      refine WR.step (Ex.assign rfl) (Wn.none rfl) rfl rfl ?_
                      refine WR.nil ?_
                      exact WQ.againP m23 [(0, _), (1, _), (5, _), (7, _), (9, _)] ⟨rfl, rfl, rfl, rfl, rfl, trivial⟩ ⟨_, _, rfl, H, f15_0, e21⟩ (Nat.lt_succ_self _)
                ·
                  subst hk31
                  rw [if_neg Bool.false_ne_true] at e21
                  refine WC.exit ?_
                  refine WQ.thenExit ?_
                  refine WQ.thenExit ?_
                  refine WQ.exitHere ?_
                  exact WQ.meetN [(0, _), (1, _), (5, _), (7, _)] ⟨rfl, rfl, rfl, rfl, trivial⟩ ⟨_, rfl, H, f15_0, e21⟩
            ·
              rintro e w ⟨M, rfl, H, f15_0, q47⟩
              obtain rfl := Option.some.inj q47
              try dsimp only at e10
              refine WQ.then ?_
              refine WC.seq ?_
              obtain ⟨o48, e49, e10⟩ := bnd e10
              refine WC.cutX (fun e w => ∃ (b50 : Bool) (M : Mem), e = [(0, S p0), (1, S p1), (5, x15_0), (7, I n11), (93, Value.bool b50)] ∧ St w0 M0 M [] w ∧ Sl M encS x15_0 l4 ∧ some b50 = some o48) [] ?_ ?_ (trivial)
              ·
                obtain ⟨a51, hxa51, e49⟩ := bnd e49
                by_cases hk52 : a51 = []
                ·
                  rw [if_pos hk52] at e49
                  refine WC.draw (m := 23) rfl rfl H ?_
                  intro w H
                  refine WA.take (i := 0) rfl (by kernel_rfl) (by kernel_rfl) (by kernel_rfl) (fun _ => Ex.move rfl) (Wn.none rfl) rfl rfl (fun _ _ => rfl) ?_
                  refine WA.one (i := 1) (by kernel_rfl) rfl ?_
                  refine WR.step (Ex.move rfl) (Wn.none rfl) rfl rfl ?_
                  refine WR.nil (WQ.any ?_)
                  refine WA.one (i := 2) (by kernel_rfl) rfl ?_
                  refine WR.idxC Tryd.underlying35 Tryd.sizeOf9 (f15_0) rfl rfl hxa51 (Wn.none rfl) rfl ?_
                  intro p73 hc73
                  refine WR.nil (WQ.any ?_)
                  refine WA.one (i := 3) (by kernel_rfl) rfl ?_
                  refine WR.step (Ex.loadM H rfl hc73 Tryd.isAgg9) (Wn.none rfl) rfl rfl ?_
                  refine WR.nil (WQ.any ?_)
                  refine WA.one (i := 4) (by kernel_rfl) rfl ?_
                  refine WR.stepE (v' := .bool true) (Ex.strEql rfl rfl) (congrArg Value.bool (decide_eq_true hk52)) (Wn.none rfl) rfl rfl ?_
                  refine WR.nil (WQ.any ?_)
                  refine WA.one (i := 5) (by kernel_rfl) rfl ?_
                  refine WR.step (Ex.move rfl) (Wn.none rfl) rfl rfl ?_
                  refine WR.nil (WQ.any ?_)
                  refine WA.one (i := 6) (by kernel_rfl) rfl ?_
                  refine WR.skipG (b := true) rfl rfl rfl rfl rfl ?_
                  refine WR.nil (WQ.any ?_)
                  refine WA.one (i := 7) (by kernel_rfl) rfl ?_
                  refine WR.skipG (b := true) rfl rfl rfl rfl rfl ?_
                  refine WR.nil (WQ.any ?_)
                  refine WA.one (i := 8) (by kernel_rfl) rfl ?_
                  refine WR.skipG (b := true) rfl rfl rfl rfl rfl ?_
                  refine WR.nil (WQ.any ?_)
                  refine WA.takeN (i := 9) rfl (by kernel_rfl) (by kernel_rfl) (by kernel_rfl) (wanted_u rfl rfl rfl) rfl rfl (fun _ _ => rfl) ?_
                  refine WA.takeN (i := 10) rfl (by kernel_rfl) (by kernel_rfl) (by kernel_rfl) (wanted_u rfl rfl rfl) rfl rfl (fun _ _ => rfl) ?_
                  refine WA.takeN (i := 11) rfl (by kernel_rfl) (by kernel_rfl) (by kernel_rfl) (wanted_u rfl rfl rfl) rfl rfl (fun _ _ => rfl) ?_
                  refine WA.takeN (i := 12) rfl (by kernel_rfl) (by kernel_rfl) (by kernel_rfl) (wanted_u rfl rfl rfl) rfl rfl (fun _ _ => rfl) ?_
                  refine WA.takeN (i := 13) rfl (by kernel_rfl) (by kernel_rfl) (by kernel_rfl) (wanted_u rfl rfl rfl) rfl rfl (fun _ _ => rfl) ?_
                  refine WA.one (i := 14) (by kernel_rfl) rfl ?_
                  refine WR.skipU rfl rfl rfl rfl rfl ?_
                  refine WR.nil (WQ.any ?_)
                  refine WA.one (i := 15) (by kernel_rfl) rfl ?_
                  refine WR.skipU rfl rfl rfl rfl rfl ?_
                  refine WR.nil (WQ.any ?_)
                  refine WA.one (i := 16) (by kernel_rfl) rfl ?_
                  refine WR.skipU rfl rfl rfl rfl rfl ?_
                  refine WR.nil (WQ.any ?_)
                  refine WA.one (i := 17) (by kernel_rfl) rfl ?_
                  refine WR.skipU rfl rfl rfl rfl rfl ?_
                  refine WR.nil (WQ.any ?_)
                  refine WA.one (i := 18) (by kernel_rfl) rfl ?_
                  refine WR.skipU rfl rfl rfl rfl rfl ?_
                  refine WR.nil (WQ.any ?_)
                  refine WA.one (i := 19) (by kernel_rfl) rfl ?_
                  refine WR.skipU rfl rfl rfl rfl rfl ?_
                  refine WR.nil (WQ.any ?_)
                  refine WA.one (i := 20) (by kernel_rfl) rfl ?_
                  refine WR.skipU rfl rfl rfl rfl rfl ?_
                  refine WR.nil (WQ.any ?_)
                  refine WA.one (i := 21) (by kernel_rfl) rfl ?_
                  refine WR.skipG (b := true) rfl rfl rfl rfl rfl ?_
                  refine WR.nil (WQ.any ?_)
                  refine WA.one (i := 22) (by kernel_rfl) rfl ?_
                  refine WR.step (Ex.pickT rfl rfl) (Wn.none rfl) rfl rfl ?_
                  refine WR.nil (WQ.any ?_)
                  refine WA.done (by kernel_rfl) ?_
                  exact WQ.meetN [(0, _), (1, _), (5, _), (7, _), (93, _)] ⟨rfl, rfl, rfl, rfl, rfl, trivial⟩ ⟨_, _, rfl, H, f15_0, e49⟩
                ·
                  rw [if_neg hk52] at e49
                  by_cases hk53 : p1 = []
                  ·
                    rw [if_pos hk53] at e49
                    refine WC.draw (m := 23) rfl rfl H ?_
                    intro w H
                    refine WA.take (i := 0) rfl (by kernel_rfl) (by kernel_rfl) (by kernel_rfl) (fun _ => Ex.move rfl) (Wn.none rfl) rfl rfl (fun _ _ => rfl) ?_
                    refine WA.one (i := 1) (by kernel_rfl) rfl ?_
                    refine WR.step (Ex.move rfl) (Wn.none rfl) rfl rfl ?_
                    refine WR.nil (WQ.any ?_)
                    refine WA.one (i := 2) (by kernel_rfl) rfl ?_
                    refine WR.idxC Tryd.underlying35 Tryd.sizeOf9 (f15_0) rfl rfl hxa51 (Wn.none rfl) rfl ?_
                    intro p73 hc73
                    refine WR.nil (WQ.any ?_)
                    refine WA.one (i := 3) (by kernel_rfl) rfl ?_
                    refine WR.step (Ex.loadM H rfl hc73 Tryd.isAgg9) (Wn.none rfl) rfl rfl ?_
                    refine WR.nil (WQ.any ?_)
                    refine WA.one (i := 4) (by kernel_rfl) rfl ?_
                    refine WR.stepE (v' := .bool false) (Ex.strEql rfl rfl) (congrArg Value.bool (decide_eq_false hk52)) (Wn.none rfl) rfl rfl ?_
                    refine WR.nil (WQ.any ?_)
                    refine WA.one (i := 5) (by kernel_rfl) rfl ?_
                    refine WR.step (Ex.move rfl) (Wn.none rfl) rfl rfl ?_
                    refine WR.nil (WQ.any ?_)
                    refine WA.one (i := 6) (by kernel_rfl) rfl ?_
                    refine WR.step (Ex.move rfl) (Wn.some rfl rfl rfl) rfl rfl ?_
                    refine WR.nil (WQ.any ?_)
                    refine WA.one (i := 7) (by kernel_rfl) rfl ?_
                    refine WR.stepE (v' := .bool false) (Ex.strNeqC rfl rfl) (congrArg Value.bool (by rw [decide_eq_true hk53]; rfl)) (Wn.some rfl rfl rfl) rfl rfl ?_
                    refine WR.nil (WQ.any ?_)
                    refine WA.one (i := 8) (by kernel_rfl) rfl ?_
                    refine WR.step (Ex.move rfl) (Wn.some rfl rfl rfl) rfl rfl ?_
                    refine WR.nil (WQ.any ?_)
                    refine WA.takeN (i := 9) rfl (by kernel_rfl) (by kernel_rfl) (by kernel_rfl) (wanted_g (b := false) rfl rfl rfl) rfl rfl (fun _ _ => rfl) ?_
                    refine WA.takeN (i := 10) rfl (by kernel_rfl) (by kernel_rfl) (by kernel_rfl) (wanted_g (b := false) rfl rfl rfl) rfl rfl (fun _ _ => rfl) ?_
                    refine WA.takeN (i := 11) rfl (by kernel_rfl) (by kernel_rfl) (by kernel_rfl) (wanted_g (b := false) rfl rfl rfl) rfl rfl (fun _ _ => rfl) ?_
                    refine WA.takeN (i := 12) rfl (by kernel_rfl) (by kernel_rfl) (by kernel_rfl) (wanted_g (b := false) rfl rfl rfl) rfl rfl (fun _ _ => rfl) ?_
                    refine WA.takeN (i := 13) rfl (by kernel_rfl) (by kernel_rfl) (by kernel_rfl) (wanted_g (b := false) rfl rfl rfl) rfl rfl (fun _ _ => rfl) ?_
                    refine WA.one (i := 14) (by kernel_rfl) rfl ?_
                    refine WR.skipG (b := false) rfl rfl rfl rfl rfl ?_
                    refine WR.nil (WQ.any ?_)
                    refine WA.one (i := 15) (by kernel_rfl) rfl ?_
                    refine WR.skipG (b := false) rfl rfl rfl rfl rfl ?_
                    refine WR.nil (WQ.any ?_)
                    refine WA.one (i := 16) (by kernel_rfl) rfl ?_
                    refine WR.skipG (b := false) rfl rfl rfl rfl rfl ?_
                    refine WR.nil (WQ.any ?_)
                    refine WA.one (i := 17) (by kernel_rfl) rfl ?_
                    refine WR.skipG (b := false) rfl rfl rfl rfl rfl ?_
                    refine WR.nil (WQ.any ?_)
                    refine WA.one (i := 18) (by kernel_rfl) rfl ?_
                    refine WR.skipG (b := false) rfl rfl rfl rfl rfl ?_
                    refine WR.nil (WQ.any ?_)
                    refine WA.one (i := 19) (by kernel_rfl) rfl ?_
                    refine WR.skipG (b := false) rfl rfl rfl rfl rfl ?_
                    refine WR.nil (WQ.any ?_)
                    refine WA.one (i := 20) (by kernel_rfl) rfl ?_
                    refine WR.skipG (b := false) rfl rfl rfl rfl rfl ?_
                    refine WR.nil (WQ.any ?_)
                    refine WA.one (i := 21) (by kernel_rfl) rfl ?_
                    refine WR.step (Ex.pickF rfl rfl) (Wn.some rfl rfl rfl) rfl rfl ?_
                    refine WR.nil (WQ.any ?_)
                    refine WA.one (i := 22) (by kernel_rfl) rfl ?_
                    refine WR.step (Ex.pickF rfl rfl) (Wn.none rfl) rfl rfl ?_
                    refine WR.nil (WQ.any ?_)
                    refine WA.done (by kernel_rfl) ?_
                    exact WQ.meetN [(0, _), (1, _), (5, _), (7, _), (93, _)] ⟨rfl, rfl, rfl, rfl, rfl, trivial⟩ ⟨_, _, rfl, H, f15_0, e49⟩
                  ·
                    rw [if_neg hk53] at e49
                    obtain ⟨a54, hxa54, e49⟩ := bnd e49
                    obtain ⟨a55, hxa55, e49⟩ := bnd e49
                    obtain ⟨n56, hxn56, e49⟩ := bnd e49
                    obtain ⟨c57, hxc57, e49⟩ := bnd e49
                    obtain ⟨b58, hx59, e49⟩ := bnd e49
                    refine WC.draw (m := 23) rfl rfl H ?_
                    intro w H
                    refine WA.take (i := 0) rfl (by kernel_rfl) (by kernel_rfl) (by kernel_rfl) (fun _ => Ex.move rfl) (Wn.none rfl) rfl rfl (fun _ _ => rfl) ?_
                    refine WA.one (i := 1) (by kernel_rfl) rfl ?_
                    refine WR.step (Ex.move rfl) (Wn.none rfl) rfl rfl ?_
                    refine WR.nil (WQ.any ?_)
                    refine WA.one (i := 2) (by kernel_rfl) rfl ?_
                    refine WR.idxC Tryd.underlying35 Tryd.sizeOf9 (f15_0) rfl rfl hxa51 (Wn.none rfl) rfl ?_
                    intro p73 hc73
                    refine WR.nil (WQ.any ?_)
                    refine WA.one (i := 3) (by kernel_rfl) rfl ?_
                    refine WR.step (Ex.loadM H rfl hc73 Tryd.isAgg9) (Wn.none rfl) rfl rfl ?_
                    refine WR.nil (WQ.any ?_)
                    refine WA.one (i := 4) (by kernel_rfl) rfl ?_
                    refine WR.stepE (v' := .bool false) (Ex.strEql rfl rfl) (congrArg Value.bool (decide_eq_false hk52)) (Wn.none rfl) rfl rfl ?_
                    refine WR.nil (WQ.any ?_)
                    refine WA.one (i := 5) (by kernel_rfl) rfl ?_
                    refine WR.step (Ex.move rfl) (Wn.none rfl) rfl rfl ?_
                    refine WR.nil (WQ.any ?_)
                    refine WA.one (i := 6) (by kernel_rfl) rfl ?_
                    refine WR.step (Ex.move rfl) (Wn.some rfl rfl rfl) rfl rfl ?_
                    refine WR.nil (WQ.any ?_)
                    refine WA.one (i := 7) (by kernel_rfl) rfl ?_
                    refine WR.stepE (v' := .bool true) (Ex.strNeqC rfl rfl) (congrArg Value.bool (by rw [decide_eq_false hk53]; rfl)) (Wn.some rfl rfl rfl) rfl rfl ?_
                    refine WR.nil (WQ.any ?_)
                    refine WA.one (i := 8) (by kernel_rfl) rfl ?_
                    refine WR.step (Ex.move rfl) (Wn.some rfl rfl rfl) rfl rfl ?_
                    refine WR.nil (WQ.any ?_)
                    refine WA.take (i := 9) rfl (by kernel_rfl) (by kernel_rfl) (by kernel_rfl) (fun _ => Ex.move rfl) (Wn.some rfl rfl rfl) rfl rfl (fun _ _ => rfl) ?_
                    refine WA.take (i := 10) rfl (by kernel_rfl) (by kernel_rfl) (by kernel_rfl) (fun _ => Ex.move rfl) (Wn.some rfl rfl rfl) rfl rfl (fun _ _ => rfl) ?_
                    refine WA.take (i := 13) rfl (by kernel_rfl) (by kernel_rfl) (by kernel_rfl) (fun _ => Ex.move rfl) (Wn.some rfl rfl rfl) rfl rfl (fun _ _ => rfl) ?_
                    refine WA.take (i := 14) rfl (by kernel_rfl) (by kernel_rfl) (by kernel_rfl) (fun _ => Ex.move rfl) (Wn.some rfl rfl rfl) rfl rfl (fun _ _ => rfl) ?_
                    refine WA.two (i := 11) (j := 15) (by kernel_rfl) rfl rfl ?_ ?_
                    ·
                      refine WR.idxC Tryd.underlying35 Tryd.sizeOf9 (f15_0) rfl rfl hxa54 (Wn.some rfl rfl rfl) rfl ?_
                      intro p82 hc82
                      refine WR.nil (WQ.any ?_)
                      refine WA.two (i := 12) (j := 15) (by kernel_rfl) rfl rfl ?_ ?_
                      ·
                        refine WR.step (Ex.loadM H rfl hc82 Tryd.isAgg9) (Wn.some rfl rfl rfl) rfl rfl ?_
                        refine WR.nil (WQ.any ?_)
                        refine WA.one (i := 15) (by kernel_rfl) rfl ?_
                        refine WR.idxC Tryd.underlying35 Tryd.sizeOf9 (f15_0) rfl rfl hxa55 (Wn.some rfl rfl rfl) rfl ?_
                        intro p86 hc86
                        refine WR.nil (WQ.any ?_)
                        refine WA.one (i := 16) (by kernel_rfl) rfl ?_
                        refine WR.step (Ex.loadM H rfl hc86 Tryd.isAgg9) (Wn.some rfl rfl rfl) rfl rfl ?_
                        refine WR.nil (WQ.any ?_)
                        refine WA.one (i := 17) (by kernel_rfl) rfl ?_
                        refine WR.step (Ex.lenStr Tryd.underlying9 rfl) (Wn.some rfl rfl rfl) rfl rfl ?_
                        refine WR.nil (WQ.any ?_)
                        refine WA.one (i := 18) (by kernel_rfl) rfl ?_
                        refine WR.step (Ex.subC rfl rfl hxn56) (Wn.some rfl rfl rfl) rfl rfl ?_
                        refine WR.nil (WQ.any ?_)
                        refine WA.one (i := 19) (by kernel_rfl) rfl ?_
                        refine WR.step (Ex.idxStrC Tryd.underlying9 rfl rfl hxc57) (Wn.some rfl rfl rfl) rfl rfl ?_
                        refine WR.nil (WQ.any ?_)
                        refine WA.one (i := 20) (by kernel_rfl) rfl ?_
                        refine WR.call H (R_Blank_ct hx59) rfl trivial (Wn.some rfl rfl rfl) rfl ?_
                        intro v91 M w H hle hR
                        replace f15_0 := f15_0.mono hle
                        replace hc73 := hc73.mono hle
                        replace hc82 := hc82.mono hle
                        replace hc86 := hc86.mono hle
                        obtain rfl := hR
                        refine WR.nil (WQ.any ?_)
                        refine WA.one (i := 21) (by kernel_rfl) rfl ?_
                        refine WR.step (Ex.pickT rfl rfl) (Wn.some rfl rfl rfl) rfl rfl ?_
                        refine WR.nil (WQ.any ?_)
                        refine WA.one (i := 22) (by kernel_rfl) rfl ?_
                        refine WR.step (Ex.pickF rfl rfl) (Wn.none rfl) rfl rfl ?_
                        refine WR.nil (WQ.any ?_)
                        refine WA.done (by kernel_rfl) ?_
                        exact WQ.meetN [(0, _), (1, _), (5, _), (7, _), (93, _)] ⟨rfl, rfl, rfl, rfl, rfl, trivial⟩ ⟨_, _, rfl, H, f15_0, e49⟩
                      ·
                        refine WR.idxC Tryd.underlying35 Tryd.sizeOf9 (f15_0) rfl rfl hxa55 (Wn.some rfl rfl rfl) rfl ?_
                        intro p86 hc86
                        refine WR.nil (WQ.any ?_)
                        refine WA.two (i := 12) (j := 16) (by kernel_rfl) rfl rfl ?_ ?_
                        ·
                          refine WR.step (Ex.loadM H rfl hc82 Tryd.isAgg9) (Wn.some rfl rfl rfl) rfl rfl ?_
                          refine WR.nil (WQ.any ?_)
                          refine WA.one (i := 16) (by kernel_rfl) rfl ?_
                          refine WR.step (Ex.loadM H rfl hc86 Tryd.isAgg9) (Wn.some rfl rfl rfl) rfl rfl ?_
                          refine WR.nil (WQ.any ?_)
                          refine WA.one (i := 17) (by kernel_rfl) rfl ?_
                          refine WR.step (Ex.lenStr Tryd.underlying9 rfl) (Wn.some rfl rfl rfl) rfl rfl ?_
                          refine WR.nil (WQ.any ?_)
                          refine WA.one (i := 18) (by kernel_rfl) rfl ?_
                          refine WR.step (Ex.subC rfl rfl hxn56) (Wn.some rfl rfl rfl) rfl rfl ?_
                          refine WR.nil (WQ.any ?_)
                          refine WA.one (i := 19) (by kernel_rfl) rfl ?_
                          refine WR.step (Ex.idxStrC Tryd.underlying9 rfl rfl hxc57) (Wn.some rfl rfl rfl) rfl rfl ?_
                          refine WR.nil (WQ.any ?_)
                          refine WA.one (i := 20) (by kernel_rfl) rfl ?_
                          refine WR.call H (R_Blank_ct hx59) rfl trivial (Wn.some rfl rfl rfl) rfl ?_
                          intro v91 M w H hle hR
                          replace f15_0 := f15_0.mono hle
                          replace hc73 := hc73.mono hle
                          replace hc82 := hc82.mono hle
                          replace hc86 := hc86.mono hle
                          obtain rfl := hR
                          refine WR.nil (WQ.any ?_)
                          refine WA.one (i := 21) (by kernel_rfl) rfl ?_
                          refine WR.step (Ex.pickT rfl rfl) (Wn.some rfl rfl rfl) rfl rfl ?_
                          refine WR.nil (WQ.any ?_)
                          refine WA.one (i := 22) (by kernel_rfl) rfl ?_
                          refine WR.step (Ex.pickF rfl rfl) (Wn.none rfl) rfl rfl ?_
                          refine WR.nil (WQ.any ?_)
                          refine WA.done (by kernel_rfl) ?_
                          exact WQ.meetN [(0, _), (1, _), (5, _), (7, _), (93, _)] ⟨rfl, rfl, rfl, rfl, rfl, trivial⟩ ⟨_, _, rfl, H, f15_0, e49⟩
                        ·
                          refine WR.step (Ex.loadM H rfl hc86 Tryd.isAgg9) (Wn.some rfl rfl rfl) rfl rfl ?_
                          refine WR.nil (WQ.any ?_)
                          refine WA.take (i := 17) rfl (by kernel_rfl) (by kernel_rfl) (by kernel_rfl) (fun _ => Ex.lenStr Tryd.underlying9 rfl) (Wn.some rfl rfl rfl) rfl rfl (fun _ _ => rfl) ?_
                          refine WA.take (i := 18) rfl (by kernel_rfl) (by kernel_rfl) (by kernel_rfl) (fun _ => Ex.subC rfl rfl hxn56) (Wn.some rfl rfl rfl) rfl rfl (fun _ _ => rfl) ?_
                          refine WA.one (i := 12) (by kernel_rfl) rfl ?_
                          refine WR.step (Ex.loadM H rfl hc82 Tryd.isAgg9) (Wn.some rfl rfl rfl) rfl rfl ?_
                          refine WR.nil (WQ.any ?_)
                          refine WA.one (i := 19) (by kernel_rfl) rfl ?_
                          refine WR.step (Ex.idxStrC Tryd.underlying9 rfl rfl hxc57) (Wn.some rfl rfl rfl) rfl rfl ?_
                          refine WR.nil (WQ.any ?_)
                          refine WA.one (i := 20) (by kernel_rfl) rfl ?_
                          refine WR.call H (R_Blank_ct hx59) rfl trivial (Wn.some rfl rfl rfl) rfl ?_
                          intro v91 M w H hle hR
                          replace f15_0 := f15_0.mono hle
                          replace hc73 := hc73.mono hle
                          replace hc82 := hc82.mono hle
                          replace hc86 := hc86.mono hle
                          obtain rfl := hR
                          refine WR.nil (WQ.any ?_)
                          refine WA.one (i := 21) (by kernel_rfl) rfl ?_
                          refine WR.step (Ex.pickT rfl rfl) (Wn.some rfl rfl rfl) rfl rfl ?_
                          refine WR.nil (WQ.any ?_)
                          refine WA.one (i := 22) (by kernel_rfl) rfl ?_
                          refine WR.step (Ex.pickF rfl rfl) (Wn.none rfl) rfl rfl ?_
                          refine WR.nil (WQ.any ?_)
                          refine WA.done (by kernel_rfl) ?_
                          exact WQ.meetN [(0, _), (1, _), (5, _), (7, _), (93, _)] ⟨rfl, rfl, rfl, rfl, rfl, trivial⟩ ⟨_, _, rfl, H, f15_0, e49⟩
                    ·
                      refine WR.idxC Tryd.underlying35 Tryd.sizeOf9 (f15_0) rfl rfl hxa55 (Wn.some rfl rfl rfl) rfl ?_
                      intro p86 hc86
                      refine WR.nil (WQ.any ?_)
                      refine WA.two (i := 11) (j := 16) (by kernel_rfl) rfl rfl ?_ ?_
                      ·
                        refine WR.idxC Tryd.underlying35 Tryd.sizeOf9 (f15_0) rfl rfl hxa54 (Wn.some rfl rfl rfl) rfl ?_
                        intro p82 hc82
                        refine WR.nil (WQ.any ?_)
                        refine WA.two (i := 12) (j := 16) (by kernel_rfl) rfl rfl ?_ ?_
                        ·
                          refine WR.step (Ex.loadM H rfl hc82 Tryd.isAgg9) (Wn.some rfl rfl rfl) rfl rfl ?_
                          refine WR.nil (WQ.any ?_)
                          refine WA.one (i := 16) (by kernel_rfl) rfl ?_
                          refine WR.step (Ex.loadM H rfl hc86 Tryd.isAgg9) (Wn.some rfl rfl rfl) rfl rfl ?_
                          refine WR.nil (WQ.any ?_)
                          refine WA.one (i := 17) (by kernel_rfl) rfl ?_
                          refine WR.step (Ex.lenStr Tryd.underlying9 rfl) (Wn.some rfl rfl rfl) rfl rfl ?_
                          refine WR.nil (WQ.any ?_)
                          refine WA.one (i := 18) (by kernel_rfl) rfl ?_
                          refine WR.step (Ex.subC rfl rfl hxn56) (Wn.some rfl rfl rfl) rfl rfl ?_
                          refine WR.nil (WQ.any ?_)
                          refine WA.one (i := 19) (by kernel_rfl) rfl ?_
                          refine WR.step (Ex.idxStrC Tryd.underlying9 rfl rfl hxc57) (Wn.some rfl rfl rfl) rfl rfl ?_
                          refine WR.nil (WQ.any ?_)
                          refine WA.one (i := 20) (by kernel_rfl) rfl ?_
                          refine WR.call H (R_Blank_ct hx59) rfl trivial (Wn.some rfl rfl rfl) rfl ?_
                          intro v91 M w H hle hR
                          replace f15_0 := f15_0.mono hle
                          replace hc73 := hc73.mono hle
                          replace hc86 := hc86.mono hle
                          replace hc82 := hc82.mono hle
                          obtain rfl := hR
                          refine WR.nil (WQ.any ?_)
                          refine WA.one (i := 21) (by kernel_rfl) rfl ?_
                          refine WR.step (Ex.pickT rfl rfl) (Wn.some rfl rfl rfl) rfl rfl ?_
                          refine WR.nil (WQ.any ?_)
                          refine WA.one (i := 22) (by kernel_rfl) rfl ?_
                          refine WR.step (Ex.pickF rfl rfl) (Wn.none rfl) rfl rfl ?_
                          refine WR.nil (WQ.any ?_)
                          refine WA.done (by kernel_rfl) ?_
                          exact WQ.meetN [(0, _), (1, _), (5, _), (7, _), (93, _)] ⟨rfl, rfl, rfl, rfl, rfl, trivial⟩ ⟨_, _, rfl, H, f15_0, e49⟩
                        ·
                          refine WR.step (Ex.loadM H rfl hc86 Tryd.isAgg9) (Wn.some rfl rfl rfl) rfl rfl ?_
                          refine WR.nil (WQ.any ?_)
                          refine WA.take (i := 17) rfl (by kernel_rfl) (by kernel_rfl) (by kernel_rfl) (fun _ => Ex.lenStr Tryd.underlying9 rfl) (Wn.some rfl rfl rfl) rfl rfl (fun _ _ => rfl) ?_
                          refine WA.take (i := 18) rfl (by kernel_rfl) (by kernel_rfl) (by kernel_rfl) (fun _ => Ex.subC rfl rfl hxn56) (Wn.some rfl rfl rfl) rfl rfl (fun _ _ => rfl) ?_
                          refine WA.one (i := 12) (by kernel_rfl) rfl ?_
                          refine WR.step (Ex.loadM H rfl hc82 Tryd.isAgg9) (Wn.some rfl rfl rfl) rfl rfl ?_
                          refine WR.nil (WQ.any ?_)
                          refine WA.one (i := 19) (by kernel_rfl) rfl ?_
                          refine WR.step (Ex.idxStrC Tryd.underlying9 rfl rfl hxc57) (Wn.some rfl rfl rfl) rfl rfl ?_
                          refine WR.nil (WQ.any ?_)
                          refine WA.one (i := 20) (by kernel_rfl) rfl ?_
                          refine WR.call H (R_Blank_ct hx59) rfl trivial (Wn.some rfl rfl rfl) rfl ?_
                          intro v91 M w H hle hR
                          replace f15_0 := f15_0.mono hle
                          replace hc73 := hc73.mono hle
                          replace hc86 := hc86.mono hle
                          replace hc82 := hc82.mono hle
                          obtain rfl := hR
                          refine WR.nil (WQ.any ?_)
                          refine WA.one (i := 21) (by kernel_rfl) rfl ?_
                          refine WR.step (Ex.pickT rfl rfl) (Wn.some rfl rfl rfl) rfl rfl ?_
                          refine WR.nil (WQ.any ?_)
                          refine WA.one (i := 22) (by kernel_rfl) rfl ?_
                          refine WR.step (Ex.pickF rfl rfl) (Wn.none rfl) rfl rfl ?_
                          refine WR.nil (WQ.any ?_)
                          refine WA.done (by kernel_rfl) ?_
                          exact WQ.meetN [(0, _), (1, _), (5, _), (7, _), (93, _)] ⟨rfl, rfl, rfl, rfl, rfl, trivial⟩ ⟨_, _, rfl, H, f15_0, e49⟩
                      ·
                        refine WR.step (Ex.loadM H rfl hc86 Tryd.isAgg9) (Wn.some rfl rfl rfl) rfl rfl ?_
                        refine WR.nil (WQ.any ?_)
                        refine WA.take (i := 17) rfl (by kernel_rfl) (by kernel_rfl) (by kernel_rfl) (fun _ => Ex.lenStr Tryd.underlying9 rfl) (Wn.some rfl rfl rfl) rfl rfl (fun _ _ => rfl) ?_
                        refine WA.take (i := 18) rfl (by kernel_rfl) (by kernel_rfl) (by kernel_rfl) (fun _ => Ex.subC rfl rfl hxn56) (Wn.some rfl rfl rfl) rfl rfl (fun _ _ => rfl) ?_
                        refine WA.one (i := 11) (by kernel_rfl) rfl ?_
                        refine WR.idxC Tryd.underlying35 Tryd.sizeOf9 (f15_0) rfl rfl hxa54 (Wn.some rfl rfl rfl) rfl ?_
                        intro p82 hc82
                        refine WR.nil (WQ.any ?_)
                        refine WA.one (i := 12) (by kernel_rfl) rfl ?_
                        refine WR.step (Ex.loadM H rfl hc82 Tryd.isAgg9) (Wn.some rfl rfl rfl) rfl rfl ?_
                        refine WR.nil (WQ.any ?_)
                        refine WA.one (i := 19) (by kernel_rfl) rfl ?_
                        refine WR.step (Ex.idxStrC Tryd.underlying9 rfl rfl hxc57) (Wn.some rfl rfl rfl) rfl rfl ?_
                        refine WR.nil (WQ.any ?_)
                        refine WA.one (i := 20) (by kernel_rfl) rfl ?_
                        refine WR.call H (R_Blank_ct hx59) rfl trivial (Wn.some rfl rfl rfl) rfl ?_
                        intro v91 M w H hle hR
                        replace f15_0 := f15_0.mono hle
                        replace hc73 := hc73.mono hle
                        replace hc86 := hc86.mono hle
                        replace hc82 := hc82.mono hle
                        obtain rfl := hR
                        refine WR.nil (WQ.any ?_)
                        refine WA.one (i := 21) (by kernel_rfl) rfl ?_
                        refine WR.step (Ex.pickT rfl rfl) (Wn.some rfl rfl rfl) rfl rfl ?_
                        refine WR.nil (WQ.any ?_)
                        refine WA.one (i := 22) (by kernel_rfl) rfl ?_
                        refine WR.step (Ex.pickF rfl rfl) (Wn.none rfl) rfl rfl ?_
                        refine WR.nil (WQ.any ?_)
                        refine WA.done (by kernel_rfl) ?_
                        exact WQ.meetN [(0, _), (1, _), (5, _), (7, _), (93, _)] ⟨rfl, rfl, rfl, rfl, rfl, trivial⟩ ⟨_, _, rfl, H, f15_0, e49⟩
              ·
                rintro e w ⟨b50, M, rfl, H, f15_0, q60⟩
                obtain rfl := Option.some.inj q60
                refine WQ.then ?_
                refine WC.condB rfl (fun hk61 => ?_) (fun hk61 => ?_)
                ·
                  subst hk61
                  rw [if_pos rfl] at e10
                  refine WC.seq ?_
                  refine WC.region ?_
                  refine WR.step (Ex.assign rfl) (Wn.none rfl) rfl rfl ?_
                  refine WR.nil ?_
                  refine WQ.then ?_
                  refine WC.ret ?_
                  (repeat (first | refine WQ.thenRet ?_ | refine WQ.inBlockRet ?_ | refine WQ.cutRet ?_ | refine WQ.scRet ?_))
                  obtain rfl := Option.some.inj e10
                  try dsimp only at h
                  obtain rfl := Option.some.inj h
                  exact WQ.ret1 rfl rfl H.ext rfl
                ·
                  subst hk61
                  rw [if_neg Bool.false_ne_true] at e10
                  refine WC.skip ?_
                  refine WQ.inBlock ?_
                  refine WQ.then ?_
                  obtain ⟨n62, hxn62, e10⟩ := bnd e10
                  refine WC.region ?_
                  refine WR.step (Ex.move rfl) (Wn.none rfl) rfl rfl ?_
                  refine WR.step (Ex.addC rfl rfl hxn62) (Wn.none rfl) rfl rfl ?_
                  refine WR.step (Ex.assign rfl) (Wn.none rfl) rfl rfl ?_
                  refine WR.nil ?_
                  exact WQ.againP m12 [(0, _), (1, _), (5, _), (7, _)] ⟨rfl, rfl, rfl, rfl, trivial⟩ ⟨_, _, rfl, H, f15_0, e10⟩ (Nat.lt_succ_self _)
        ·
          replace hk13 : ¬ (n11 < (l4.length : Int)) := of_decide_eq_false hk13
          rw [if_neg hk13] at e10
          refine WC.exit ?_
          refine WQ.thenExit ?_
          refine WQ.thenExit ?_
          refine WQ.exitHere ?_
          exact WQ.meetN [(5, _)] ⟨rfl, trivial⟩ ⟨_, rfl, H, f15_0, e10⟩
      ·
        rintro e w ⟨M, rfl, H, f15_0, q65⟩
        obtain rfl := Option.some.inj q65
        try dsimp only at h
        refine WQ.then ?_
        refine WC.seq ?_
        refine WC.region ?_
        refine WR.step (Ex.move rfl) (Wn.none rfl) rfl rfl ?_
        refine WR.step (Ex.lenSl Tryd.underlying35 f15_0 rfl) (Wn.none rfl) rfl rfl ?_
        refine WR.step (Ex.gtr rfl rfl) (Wn.none rfl) rfl rfl ?_
        refine WR.step (Ex.assign rfl) (Wn.none rfl) rfl rfl ?_
        refine WR.nil ?_
        refine WQ.then ?_
        refine WC.ret ?_
        (repeat (first | refine WQ.thenRet ?_ | refine WQ.inBlockRet ?_ | refine WQ.cutRet ?_ | refine WQ.scRet ?_))
        obtain rfl := Option.some.inj h
        exact WQ.ret1 rfl rfl H.ext rfl
theorem R_Find_ct {p0 : List UInt8} {p1 : List UInt8} {p2 : Int} {r : Int} (h : R_Find p0 p1 p2 = some r) : Ct Tryd.prog 30 [S p0, S p1, I p2] (fun M => True) (fun v M => v = I r) := by
  refine Ct.of Tryd.func30 (enters Tryd.func30 (by kernel_rfl) rfl) rfl rfl rfl ?_
  intro w0 M0 H hp
  unfold R_Find at h
  refine WC.seq ?_
  refine WC.region ?_
  refine WR.step (Ex.assign rfl) (Wn.none rfl) rfl rfl ?_
  refine WR.nil ?_
  refine WQ.then ?_
  refine WC.seq ?_
  refine WC.seq ?_
  refine WC.region ?_
  refine WR.step (Ex.move rfl) (Wn.none rfl) rfl rfl ?_
  refine WR.step (Ex.assign rfl) (Wn.none rfl) rfl rfl ?_
  refine WR.nil ?_
  refine WQ.then ?_
  obtain ⟨o1, e2, h⟩ := bnd h
  refine WC.cutX (fun e w => ∃  (M : Mem), e = [] ∧ St w0 M0 M [] w ∧ some (.inl ()) = some o1) [] ?_ ?_ (trivial)
  ·
    refine WC.block ?_
    refine WC.loopP (fun m e w => ∃ (n3 : Int) (M : Mem), e = [(0, S p0), (1, S p1), (7, I n3)] ∧ St w0 M0 M [] w ∧ R_Find_L1 p0 p1 m n3 = some o1) FU [(0, _), (1, _), (7, _)] ⟨rfl, rfl, rfl, trivial⟩ ⟨_, _, rfl, H, e2⟩ ?_
    rintro m4 e w ⟨n3, M, rfl, H, e2⟩
    rcases m4 with _ | m4
    · rw [R_Find_L1] at e2; cases e2
    rw [R_Find_L1] at e2
    refine WC.seq ?_
    refine WC.seq ?_
    obtain ⟨n5, hxn5, e2⟩ := bnd e2
    refine WC.region ?_
    refine WR.step (Ex.move rfl) (Wn.none rfl) rfl rfl ?_
    refine WR.step (Ex.move rfl) (Wn.none rfl) rfl rfl ?_
    refine WR.step (Ex.lenStr Tryd.underlying9 rfl) (Wn.none rfl) rfl rfl ?_
    refine WR.step (Ex.addC rfl rfl hxn5) (Wn.none rfl) rfl rfl ?_
    refine WR.step (Ex.move rfl) (Wn.none rfl) rfl rfl ?_
    refine WR.step (Ex.lenStr Tryd.underlying9 rfl) (Wn.none rfl) rfl rfl ?_
    refine WR.step (Ex.leq rfl rfl) (Wn.none rfl) rfl rfl ?_
    refine WR.nil ?_
    refine WQ.then ?_
    refine WC.condB rfl (fun hk6 => ?_) (fun hk6 => ?_)
    ·
      replace hk6 : n5 ≤ (p0.length : Int) := of_decide_eq_true hk6
      rw [if_pos hk6] at e2
      refine WC.skip ?_
      refine WQ.then ?_
      refine WC.seq ?_
      refine WC.block ?_
      refine WC.seq ?_
      obtain ⟨n7, hxn7, e2⟩ := bnd e2
      obtain ⟨s8, hxs8, e2⟩ := bnd e2
      refine WC.region ?_
      refine WR.step (Ex.move rfl) (Wn.none rfl) rfl rfl ?_
      refine WR.step (Ex.move rfl) (Wn.none rfl) rfl rfl ?_
      refine WR.step (Ex.move rfl) (Wn.none rfl) rfl rfl ?_
      refine WR.step (Ex.move rfl) (Wn.none rfl) rfl rfl ?_
      refine WR.step (Ex.lenStr Tryd.underlying9 rfl) (Wn.none rfl) rfl rfl ?_
      refine WR.step (Ex.addC rfl rfl hxn7) (Wn.none rfl) rfl rfl ?_
      refine WR.step (Ex.sliceC Tryd.underlying9 rfl rfl rfl hxs8) (Wn.none rfl) rfl rfl ?_
      refine WR.step (Ex.move rfl) (Wn.none rfl) rfl rfl ?_
      refine WR.step (Ex.strEql rfl rfl) (Wn.none rfl) rfl rfl ?_
      refine WR.nil ?_
      refine WQ.then ?_
      refine WC.condB rfl (fun hk9 => ?_) (fun hk9 => ?_)
      ·
        replace hk9 : s8 = p1 := of_decide_eq_true hk9
        rw [if_pos hk9] at e2
        refine WC.seq ?_
        refine WC.region ?_
        refine WR.step (Ex.move rfl) (Wn.none rfl) rfl rfl ?_
        refine WR.step (Ex.assign rfl) (Wn.none rfl) rfl rfl ?_
        refine WR.nil ?_
        refine WQ.then ?_
        refine WC.ret ?_
        (repeat (first | refine WQ.thenRet ?_ | refine WQ.inBlockRet ?_ | refine WQ.cutRet ?_ | refine WQ.scRet ?_))
        obtain rfl := Option.some.inj e2
        try dsimp only at h
        obtain rfl := Option.some.inj h
        exact WQ.ret1 rfl rfl H.ext rfl
      ·
        replace hk9 : ¬ (s8 = p1) := of_decide_eq_false hk9
        rw [if_neg hk9] at e2
        refine WC.skip ?_
        refine WQ.inBlock ?_
        refine WQ.then ?_
        obtain ⟨n10, hxn10, e2⟩ := bnd e2
        refine WC.region ?_
        refine WR.step (Ex.move rfl) (Wn.none rfl) rfl rfl ?_
        refine WR.step (Ex.addC rfl rfl hxn10) (Wn.none rfl) rfl rfl ?_
        refine WR.step (Ex.assign rfl) (Wn.none rfl) rfl rfl ?_
        refine WR.nil ?_
        exact WQ.againP m4 [(0, _), (1, _), (7, _)] ⟨rfl, rfl, rfl, trivial⟩ ⟨_, _, rfl, H, e2⟩ (Nat.lt_succ_self _)
    ·
      replace hk6 : ¬ (n5 ≤ (p0.length : Int)) := of_decide_eq_false hk6
      rw [if_neg hk6] at e2
      refine WC.exit ?_
      refine WQ.thenExit ?_
      refine WQ.thenExit ?_
      refine WQ.exitHere ?_
      exact WQ.meetN [] trivial ⟨_, rfl, H, e2⟩
  ·
    rintro e w ⟨M, rfl, H, q11⟩
    obtain rfl := Option.some.inj q11
    try dsimp only at h
    refine WQ.then ?_
    refine WC.seq ?_
    refine WC.region ?_
    refine WR.step (Ex.assign rfl) (Wn.none rfl) rfl rfl ?_
    refine WR.nil ?_
    refine WQ.then ?_
    refine WC.ret ?_
    (repeat (first | refine WQ.thenRet ?_ | refine WQ.inBlockRet ?_ | refine WQ.cutRet ?_ | refine WQ.scRet ?_))
    obtain rfl := Option.some.inj h
    exact WQ.ret1 rfl rfl H.ext rfl
end Go.Proofs.YtolmifddbjdepaaDoor
