/-
  Dates: contracts of the program's functions over their plain forms, written by wip/tools/ext.py.
-/
import Derived.Test.YtlopnlagpdchiaaGreatDoorPct1
import Derived.KernelRfl
set_option maxRecDepth 100000
set_option linter.unusedVariables false
set_option linter.unusedSimpArgs false
namespace Go.Proofs.YtlopnlagpdchiaaGreatDoor
open Go Go.RowKit Go.Ph Go.Ph.Pl Go.Ph.Pf
set_option maxHeartbeats 4000000 in
theorem R_DateRead_ct {p0 : List UInt8} {r : ((Int × Int × Int × Int × Int × Int × Int) × Bool)} (h : R_DateRead p0 = some r) : Ct Tryz.prog 21 [S p0] (fun M => True) (fun v M => v = Value.tuple #[Value.agg #[I r.1.1, I r.1.2.1, I r.1.2.2.1, I r.1.2.2.2.1, I r.1.2.2.2.2.1, I r.1.2.2.2.2.2.1, I r.1.2.2.2.2.2.2], Value.bool r.2]) := by
  refine Ct.of Tryz.func21 (enters Tryz.func21 (by kernel_rfl) rfl) rfl rfl rfl ?_
  intro w0 M0 H hp
  unfold R_DateRead at h
  refine WC.seq ?_
  refine WC.region ?_
  refine WR.alloc [_, _, _, _, _, _, _] H Tryz.zeroValue23 rfl (Wn.none rfl) rfl ?_
  intro b2 w H
  refine WR.step (Ex.assign rfl) (Wn.none rfl) rfl rfl ?_
  refine WR.nil ?_
  refine WQ.then ?_
  refine WC.seq ?_
  obtain ⟨l1, hx2, h⟩ := bnd h
  refine WC.region ?_
  refine WR.step (Ex.move rfl) (Wn.none rfl) rfl rfl ?_
  refine WR.call H (R_Split3_ct hx2) rfl trivial (Wn.none rfl) rfl ?_
  intro v14 M w H hle hR
  have f14_0 := hR
  refine WR.step (Ex.assign rfl) (Wn.none rfl) rfl rfl ?_
  refine WR.nil ?_
  refine WQ.then ?_
  refine WC.seq ?_
  refine WC.seq ?_
  refine WC.region ?_
  refine WR.step (Ex.move rfl) (Wn.none rfl) rfl rfl ?_
  refine WR.step (Ex.lenSl Tryz.underlying59 f14_0 rfl) (Wn.none rfl) rfl rfl ?_
  refine WR.step (Ex.eql rfl rfl) (Wn.none rfl) rfl rfl ?_
  refine WR.nil ?_
  refine WQ.then ?_
  obtain ⟨o3, e4, h⟩ := bnd h
  refine WC.cutX (fun e w => ∃ (n5 : Int) (n6 : Int) (n7 : Int) (n8 : Int) (n9 : Int) (n10 : Int) (n11 : Int) (l12 : List (List UInt8)) (v13 : Value) (M : Mem), e = [(2, ptr b2 0), (4, v13)] ∧ St w0 M0 M [.blk b2 (.cells #[I n5, I n6, I n7, I n8, I n9, I n10, I n11] 23)] w ∧ Sl M encS v13 l12 ∧ some (.inl (n5, n6, n7, n8, n9, n10, n11, l12)) = some o3) [] ?_ ?_ (trivial)
  ·
   refine WC.condB rfl (fun hk15 => ?_) (fun hk15 => ?_)
   ·
    replace hk15 : (l1.length : Int) = (6 : Int) := of_decide_eq_true hk15
    rw [if_pos hk15] at e4
    refine WC.seq ?_
    refine WC.region ?_
    refine WR.step (Ex.assign rfl) (Wn.none rfl) rfl rfl ?_
    refine WR.nil ?_
    refine WQ.then ?_
    refine WC.seq ?_
    refine WC.seq ?_
    refine WC.region ?_
    refine WR.step (Ex.assign rfl) (Wn.none rfl) rfl rfl ?_
    refine WR.nil ?_
    refine WQ.then ?_
    obtain ⟨o16, e17, e4⟩ := bnd e4
    refine WC.cutX (fun e w => ∃ (b18 : Bool) (M : Mem), e = [(2, ptr b2 0), (4, v14), (5, Value.bool b18)] ∧ St w0 M0 M [.blk b2 (.cells #[I 0, I 0, I 0, I 0, I 0, I 0, I 0] 23)] w ∧ Sl M encS v14 l1 ∧ some b18 = some o16) [] ?_ ?_ (trivial)
    ·
     refine WC.block ?_
     refine WC.loopP (fun m e w => ∃ (b19 : Bool) (n20 : Int) (M : Mem), e = [(2, ptr b2 0), (4, v14), (5, Value.bool b19), (6, I n20)] ∧ St w0 M0 M [.blk b2 (.cells #[I 0, I 0, I 0, I 0, I 0, I 0, I 0] 23)] w ∧ Sl M encS v14 l1 ∧ R_DateRead_L1 l1 m b19 n20 = some o16) FU [(2, _), (4, _), (5, _), (6, _)] ⟨rfl, rfl, rfl, rfl, trivial⟩ ⟨_, _, _, rfl, H, f14_0, e17⟩ ?_
     rintro m21 e w ⟨b19, n20, M, rfl, H, f14_0, e17⟩
     rcases m21 with _ | m21
     · rw [R_DateRead_L1] at e17; cases e17
     rw [R_DateRead_L1] at e17
     refine WC.seq ?_
     refine WC.seq ?_
     refine WC.region ?_
     refine WR.step (Ex.move rfl) (Wn.none rfl) rfl rfl ?_
     refine WR.step (Ex.lss rfl rfl) (Wn.none rfl) rfl rfl ?_
     refine WR.nil ?_
     refine WQ.then ?_
     refine WC.condB rfl (fun hk22 => ?_) (fun hk22 => ?_)
     ·
      replace hk22 : n20 < (7 : Int) := of_decide_eq_true hk22
      rw [if_pos hk22] at e17
      refine WC.skip ?_
      refine WQ.then ?_
      refine WC.seq ?_
      refine WC.block ?_
      obtain ⟨o23, e24, e17⟩ := bnd e17
      refine WC.cutX (fun e w => ∃ (b25 : Bool) (M : Mem), e = [(2, ptr b2 0), (4, v14), (5, Value.bool b25), (6, I n20)] ∧ St w0 M0 M [.blk b2 (.cells #[I 0, I 0, I 0, I 0, I 0, I 0, I 0] 23)] w ∧ Sl M encS v14 l1 ∧ some b25 = some o23) [] ?_ ?_ (trivial)
      ·
       refine WC.draw (m := 11) rfl rfl H ?_
       intro w H
       refine WA.seq (fuel := 9) [0, 1] rfl (by kernel_rfl) ?_
       refine WR.step (Ex.move rfl) (Wn.none rfl) rfl rfl ?_
       refine WR.step (Ex.move rfl) (Wn.none rfl) rfl rfl ?_
       refine WR.nil (WQ.any ?_)
       rcases b19 with _ | _
       ·
        rw [if_neg Bool.false_ne_true] at e24
        obtain ⟨a26, hxa26, e24⟩ := bnd e24
        obtain ⟨s27, hx28, e24⟩ := bnd e24
        obtain ⟨s29, hxs29, e24⟩ := bnd e24
        refine WA.take (i := 2) rfl (by kernel_rfl) (by kernel_rfl) (by kernel_rfl) (fun _ => Ex.move rfl) (Wn.some rfl rfl rfl) rfl rfl (fun _ _ => rfl) ?_
        refine WA.take (i := 5) rfl (by kernel_rfl) (by kernel_rfl) (by kernel_rfl) (fun _ => Ex.move rfl) (Wn.some rfl rfl rfl) rfl rfl (fun _ _ => rfl) ?_
        refine WA.two (i := 3) (j := 6) (by kernel_rfl) rfl rfl ?_ ?_
        ·
         refine WR.idxC Tryz.underlying59 Tryz.sizeOf9 (f14_0) rfl rfl hxa26 (Wn.some rfl rfl rfl) rfl ?_
         intro p25 hc25
         refine WR.nil (WQ.any ?_)
         refine WA.two (i := 4) (j := 6) (by kernel_rfl) rfl rfl ?_ ?_
         ·
          refine WR.step (Ex.loadM H rfl hc25 Tryz.isAgg9) (Wn.some rfl rfl rfl) rfl rfl ?_
          refine WR.nil (WQ.any ?_)
          refine WA.seq (fuel := 0) [6, 7, 8, 9, 10] rfl (by kernel_rfl) ?_
          refine WR.call H (R_DayName_ct hx28) rfl trivial (Wn.some rfl rfl rfl) rfl ?_
          intro v28 M w H hle hR
          replace f14_0 := f14_0.mono hle
          replace hc25 := hc25.mono hle
          obtain rfl := hR
          refine WR.step (Ex.strAddC rfl rfl hxs29) (Wn.some rfl rfl rfl) rfl rfl ?_
          refine WR.step (Ex.strEql rfl rfl) (Wn.some rfl rfl rfl) rfl rfl ?_
          refine WR.step (Ex.pickF rfl rfl) (Wn.none rfl) rfl rfl ?_
          refine WR.step (Ex.assign rfl) (Wn.none rfl) rfl rfl ?_
          refine WR.nil (WQ.any ?_)
          refine WA.done (by kernel_rfl) ?_
          exact WQ.meetN [(2, _), (4, _), (5, _), (6, _)] ⟨rfl, rfl, rfl, rfl, trivial⟩ ⟨_, _, rfl, H, f14_0, e24⟩
         ·
          refine WR.call H (R_DayName_ct hx28) rfl trivial (Wn.some rfl rfl rfl) rfl ?_
          intro v28 M w H hle hR
          replace f14_0 := f14_0.mono hle
          replace hc25 := hc25.mono hle
          obtain rfl := hR
          refine WR.nil (WQ.any ?_)
          refine WA.take (i := 7) rfl (by kernel_rfl) (by kernel_rfl) (by kernel_rfl) (fun _ => Ex.strAddC rfl rfl hxs29) (Wn.some rfl rfl rfl) rfl rfl (fun _ _ => rfl) ?_
          refine WA.seq (fuel := 0) [4, 8, 9, 10] rfl (by kernel_rfl) ?_
          refine WR.step (Ex.loadM H rfl hc25 Tryz.isAgg9) (Wn.some rfl rfl rfl) rfl rfl ?_
          refine WR.step (Ex.strEql rfl rfl) (Wn.some rfl rfl rfl) rfl rfl ?_
          refine WR.step (Ex.pickF rfl rfl) (Wn.none rfl) rfl rfl ?_
          refine WR.step (Ex.assign rfl) (Wn.none rfl) rfl rfl ?_
          refine WR.nil (WQ.any ?_)
          refine WA.done (by kernel_rfl) ?_
          exact WQ.meetN [(2, _), (4, _), (5, _), (6, _)] ⟨rfl, rfl, rfl, rfl, trivial⟩ ⟨_, _, rfl, H, f14_0, e24⟩
        ·
         refine WR.call H (R_DayName_ct hx28) rfl trivial (Wn.some rfl rfl rfl) rfl ?_
         intro v28 M w H hle hR
         replace f14_0 := f14_0.mono hle
         obtain rfl := hR
         refine WR.nil (WQ.any ?_)
         refine WA.take (i := 7) rfl (by kernel_rfl) (by kernel_rfl) (by kernel_rfl) (fun _ => Ex.strAddC rfl rfl hxs29) (Wn.some rfl rfl rfl) rfl rfl (fun _ _ => rfl) ?_
         refine WA.seq (fuel := 0) [3, 4, 8, 9, 10] rfl (by kernel_rfl) ?_
         refine WR.idxC Tryz.underlying59 Tryz.sizeOf9 (f14_0) rfl rfl hxa26 (Wn.some rfl rfl rfl) rfl ?_
         intro p25 hc25
         refine WR.step (Ex.loadM H rfl hc25 Tryz.isAgg9) (Wn.some rfl rfl rfl) rfl rfl ?_
         refine WR.step (Ex.strEql rfl rfl) (Wn.some rfl rfl rfl) rfl rfl ?_
         refine WR.step (Ex.pickF rfl rfl) (Wn.none rfl) rfl rfl ?_
         refine WR.step (Ex.assign rfl) (Wn.none rfl) rfl rfl ?_
         refine WR.nil (WQ.any ?_)
         refine WA.done (by kernel_rfl) ?_
         exact WQ.meetN [(2, _), (4, _), (5, _), (6, _)] ⟨rfl, rfl, rfl, rfl, trivial⟩ ⟨_, _, rfl, H, f14_0, e24⟩
       ·
        rw [if_pos rfl] at e24
        refine WA.takes (fuel := 6) [2, 3, 4] rfl (by kernel_rfl) (by kernel_rfl) rfl ?_
        refine WA.seq (fuel := 0) [5, 6, 7, 8, 9, 10] rfl (by kernel_rfl) ?_
        refine WR.skipN 4 rfl rfl ?_
        refine WR.step (Ex.pickT rfl rfl) (Wn.none rfl) rfl rfl ?_
        refine WR.step (Ex.assign rfl) (Wn.none rfl) rfl rfl ?_
        refine WR.nil (WQ.any ?_)
        refine WA.done (by kernel_rfl) ?_
        exact WQ.meetN [(2, _), (4, _), (5, _), (6, _)] ⟨rfl, rfl, rfl, rfl, trivial⟩ ⟨_, _, rfl, H, f14_0, e24⟩
      ·
       rintro e w ⟨b25, M, rfl, H, f14_0, q30⟩
       obtain rfl := Option.some.inj q30
       refine WQ.inBlock ?_
       refine WQ.then ?_
       obtain ⟨n31, hxn31, e17⟩ := bnd e17
       refine WC.region ?_
       refine WR.step (Ex.move rfl) (Wn.none rfl) rfl rfl ?_
       refine WR.step (Ex.addC rfl rfl hxn31) (Wn.none rfl) rfl rfl ?_
       refine WR.step (Ex.assign rfl) (Wn.none rfl) rfl rfl ?_
       refine WR.nil ?_
       exact WQ.againP m21 [(2, _), (4, _), (5, _), (6, _)] ⟨rfl, rfl, rfl, rfl, trivial⟩ ⟨_, _, _, rfl, H, f14_0, e17⟩ (Nat.lt_succ_self _)
     ·
      replace hk22 : ¬ (n20 < (7 : Int)) := of_decide_eq_false hk22
      rw [if_neg hk22] at e17
      refine WC.exit ?_
      refine WQ.thenExit ?_
      refine WQ.thenExit ?_
      refine WQ.exitHere ?_
      exact WQ.meetN [(2, _), (4, _), (5, _)] ⟨rfl, rfl, rfl, trivial⟩ ⟨_, _, rfl, H, f14_0, e17⟩
    ·
     rintro e w ⟨b18, M, rfl, H, f14_0, q32⟩
     obtain rfl := Option.some.inj q32
     refine WQ.then ?_
     refine WC.seq ?_
     refine WC.seq ?_
     refine WC.region ?_
     refine WR.step (Ex.move rfl) (Wn.none rfl) rfl rfl ?_
     refine WR.step (Ex.not rfl) (Wn.none rfl) rfl rfl ?_
     refine WR.nil ?_
     refine WQ.then ?_
     refine WC.condB rfl (fun hk33 => ?_) (fun hk33 => ?_)
     ·
      replace hk33 : b18 = false := by simpa using hk33
      subst hk33
      rw [if_neg Bool.false_ne_true] at e4
      refine WC.seq ?_
      refine WC.region ?_
      refine WR.step (Ex.build [I 0, I 0, I 0, I 0, I 0, I 0, I 0] Tryz.underlying23 Tryz.zeroValue23 (xplaces23 Tryz.underlying23) rfl (by kernel_rfl)) (Wn.none rfl) rfl rfl ?_
      refine WR.store [_, _, _, _, _, _, _] H rfl rfl rfl (by repeat (first | exact Upd.head | apply Upd.tail)) Tryz.sizeOf23 rfl (by rfl) (by rfl) (Wn.none rfl) ?_
      intro w H
      refine WR.step (Ex.assign rfl) (Wn.none rfl) rfl rfl ?_
      refine WR.nil ?_
      refine WQ.then ?_
      refine WC.ret ?_
      (repeat (first | refine WQ.thenRet ?_ | refine WQ.inBlockRet ?_ | refine WQ.cutRet ?_ | refine WQ.scRet ?_))
      obtain rfl := Option.some.inj e4
      try dsimp only at h
      obtain rfl := Option.some.inj h
      exact WQ.ret2 rfl ⟨_, rfl, H.loadAgg (by repeat (first | exact List.Mem.head _ | apply List.Mem.tail)) Tryz.isAgg23 Tryz.sizeOf23 (by rfl)⟩ rfl H.ext rfl
     ·
      replace hk33 : b18 = true := by simpa using hk33
      subst hk33
      rw [if_pos rfl] at e4
      refine WC.skip ?_
      refine WQ.then ?_
      obtain ⟨l34, hxl34, e4⟩ := bnd e4
      refine WC.region ?_
      refine WR.step (Ex.move rfl) (Wn.none rfl) rfl rfl ?_
      refine WR.sliceL Tryz.underlying59 Tryz.sizeOf9 (f14_0) rfl rfl hxl34 (Wn.none rfl) rfl ?_
      intro v36 hs36
      refine WR.step (Ex.assign rfl) (Wn.none rfl) rfl rfl ?_
      refine WR.nil ?_
      exact WQ.meetN [(2, _), (4, _)] ⟨rfl, rfl, trivial⟩ ⟨_, _, _, _, _, _, _, _, _, _, rfl, H, hs36, e4⟩
   ·
    replace hk15 : ¬ ((l1.length : Int) = (6 : Int)) := of_decide_eq_false hk15
    rw [if_neg hk15] at e4
    refine WC.skip ?_
    exact WQ.meetN [(2, _), (4, _)] ⟨rfl, rfl, trivial⟩ ⟨_, _, _, _, _, _, _, _, _, _, rfl, H, f14_0, e4⟩
  ·
   rintro e w ⟨n5, n6, n7, n8, n9, n10, n11, l12, v13, M, rfl, H, hs14, q35⟩
   obtain rfl := Option.some.inj q35
   try dsimp only at h
   refine WQ.then ?_
   refine WC.seq ?_
   refine WC.seq ?_
   refine WC.region ?_
   refine WR.step (Ex.move rfl) (Wn.none rfl) rfl rfl ?_
   refine WR.step (Ex.lenSl Tryz.underlying59 hs14 rfl) (Wn.none rfl) rfl rfl ?_
   refine WR.step (Ex.neqC rfl rfl) (Wn.none rfl) rfl rfl ?_
   refine WR.nil ?_
   refine WQ.then ?_
   refine WC.condB rfl (fun hk36 => ?_) (fun hk36 => ?_)
   ·
    replace hk36 : ¬ ((l12.length : Int) = (5 : Int)) := of_not_decide hk36
    rw [if_neg hk36] at h
    refine WC.seq ?_
    refine WC.region ?_
    refine WR.step (Ex.build [I 0, I 0, I 0, I 0, I 0, I 0, I 0] Tryz.underlying23 Tryz.zeroValue23 (xplaces23 Tryz.underlying23) rfl (by kernel_rfl)) (Wn.none rfl) rfl rfl ?_
    refine WR.store [_, _, _, _, _, _, _] H rfl rfl rfl (by repeat (first | exact Upd.head | apply Upd.tail)) Tryz.sizeOf23 rfl (by rfl) (by rfl) (Wn.none rfl) ?_
    intro w H
    refine WR.step (Ex.assign rfl) (Wn.none rfl) rfl rfl ?_
    refine WR.nil ?_
    refine WQ.then ?_
    refine WC.ret ?_
    (repeat (first | refine WQ.thenRet ?_ | refine WQ.inBlockRet ?_ | refine WQ.cutRet ?_ | refine WQ.scRet ?_))
    obtain rfl := Option.some.inj h
    exact WQ.ret2 rfl ⟨_, rfl, H.loadAgg (by repeat (first | exact List.Mem.head _ | apply List.Mem.tail)) Tryz.isAgg23 Tryz.sizeOf23 (by rfl)⟩ rfl H.ext rfl
   ·
    replace hk36 : (l12.length : Int) = (5 : Int) := of_not_decide' hk36
    rw [if_pos hk36] at h
    refine WC.skip ?_
    refine WQ.then ?_
    refine WC.seq ?_
    obtain ⟨a37, hxa37, h⟩ := bnd h
    obtain ⟨n38, hx39, h⟩ := bnd h
    obtain ⟨a40, hxa40, h⟩ := bnd h
    obtain ⟨n41, hx42, h⟩ := bnd h
    refine WC.cutP (fun e w => ∃ (b43 : Nat) (M : Mem), e = [(2, ptr b2 0), (4, v13), (7, ptr b43 0)] ∧ St w0 M0 M [.blk b2 (.cells #[I n5, I n6, I n7, I n8, I n9, I n10, I n11] 23), .blk b43 (.cells #[I n41, I 0, I n38, I 0, I 0, I 0, I 0] 23)] w ∧ Sl M encS v13 l12) ?_ ?_
    ·
     refine WC.draw (m := 11) rfl rfl H ?_
     intro w H
     refine WA.take (i := 0) rfl (by kernel_rfl) (by kernel_rfl) (by kernel_rfl) (fun _ => Ex.move rfl) (Wn.none rfl) rfl rfl (fun _ _ => rfl) ?_
     refine WA.take (i := 4) rfl (by kernel_rfl) (by kernel_rfl) (by kernel_rfl) (fun _ => Ex.move rfl) (Wn.none rfl) rfl rfl (fun _ _ => rfl) ?_
     refine WA.three (i := 1) (j := 5) (k := 9) (by kernel_rfl) rfl rfl rfl ?_ ?_ ?_
     ·
      refine WR.idxC Tryz.underlying59 Tryz.sizeOf9 (hs14) rfl rfl hxa37 (Wn.none rfl) rfl ?_
      intro p42 hc42
      refine WR.nil (WQ.any ?_)
      refine WA.three (i := 2) (j := 5) (k := 9) (by kernel_rfl) rfl rfl rfl ?_ ?_ ?_
      ·
       refine WR.step (Ex.loadM H rfl hc42 Tryz.isAgg9) (Wn.none rfl) rfl rfl ?_
       refine WR.nil (WQ.any ?_)
       refine WA.three (i := 3) (j := 5) (k := 9) (by kernel_rfl) rfl rfl rfl ?_ ?_ ?_
       ·
        refine WR.call H (R_digitsOf_ct hx39) rfl trivial (Wn.none rfl) rfl ?_
        intro v44 M w H hle hR
        replace hs14 := hs14.mono hle
        replace hc42 := hc42.mono hle
        obtain rfl := hR
        refine WR.nil (WQ.any ?_)
        refine WA.two (i := 5) (j := 9) (by kernel_rfl) rfl rfl ?_ ?_
        ·
         refine WR.idxC Tryz.underlying59 Tryz.sizeOf9 (hs14) rfl rfl hxa40 (Wn.none rfl) rfl ?_
         intro p46 hc46
         refine WR.nil (WQ.any ?_)
         refine WA.two (i := 6) (j := 9) (by kernel_rfl) rfl rfl ?_ ?_
         ·
          refine WR.step (Ex.loadM H rfl hc46 Tryz.isAgg9) (Wn.none rfl) rfl rfl ?_
          refine WR.nil (WQ.any ?_)
          refine WA.two (i := 7) (j := 9) (by kernel_rfl) rfl rfl ?_ ?_
          ·
           refine WR.call H (R_digitsOf_ct hx42) rfl trivial (Wn.none rfl) rfl ?_
           intro v48 M w H hle hR
           replace hs14 := hs14.mono hle
           replace hc42 := hc42.mono hle
           replace hc46 := hc46.mono hle
           obtain rfl := hR
           refine WR.nil (WQ.any ?_)
           refine WA.take (i := 8) rfl (by kernel_rfl) (by kernel_rfl) (by kernel_rfl) (fun _ => Ex.build [I n41, I 0, I n38, I 0, I 0, I 0, I 0] Tryz.underlying23 Tryz.zeroValue23 (xplaces23 Tryz.underlying23) rfl (by kernel_rfl)) (Wn.none rfl) rfl rfl (fun _ _ => rfl) ?_
           refine WA.seq (fuel := 0) [9, 10] rfl (by kernel_rfl) ?_
           refine WR.alloc [_, _, _, _, _, _, _] H Tryz.zeroValue23 rfl (Wn.none rfl) rfl ?_
           intro b7 w H
           refine WR.store [_, _, _, _, _, _, _] H rfl rfl rfl (by repeat (first | exact Upd.head | apply Upd.tail)) Tryz.sizeOf23 rfl (by rfl) (by rfl) (Wn.none rfl) ?_
           intro w H
           refine WR.nil (WQ.any ?_)
           refine WA.done (by kernel_rfl) ?_
           exact WQ.meetP [(2, _), (4, _), (7, _)] ⟨rfl, rfl, rfl, trivial⟩ ⟨_, _, rfl, (H.pick (L' := [.blk b2 (.cells #[I n5, I n6, I n7, I n8, I n9, I n10, I n11] 23), .blk b7 (.cells #[I n41, I 0, I n38, I 0, I 0, I 0, I 0] 23)]) (by repeat (first | exact Pick.nil | refine Pick.cons (by repeat (first | exact Rem.head | apply Rem.tail)) ?_))), hs14⟩
          ·
           refine WR.alloc [_, _, _, _, _, _, _] H Tryz.zeroValue23 rfl (Wn.none rfl) rfl ?_
           intro b7 w H
           refine WR.nil (WQ.any ?_)
           refine WA.seq (fuel := 0) [7, 8, 10] rfl (by kernel_rfl) ?_
           refine WR.call H (R_digitsOf_ct hx42) rfl trivial (Wn.none rfl) rfl ?_
           intro v48 M w H hle hR
           replace hs14 := hs14.mono hle
           replace hc42 := hc42.mono hle
           replace hc46 := hc46.mono hle
           obtain rfl := hR
           refine WR.step (Ex.build [I n41, I 0, I n38, I 0, I 0, I 0, I 0] Tryz.underlying23 Tryz.zeroValue23 (xplaces23 Tryz.underlying23) rfl (by kernel_rfl)) (Wn.none rfl) rfl rfl ?_
           refine WR.store [_, _, _, _, _, _, _] H rfl rfl rfl (by repeat (first | exact Upd.head | apply Upd.tail)) Tryz.sizeOf23 rfl (by rfl) (by rfl) (Wn.none rfl) ?_
           intro w H
           refine WR.nil (WQ.any ?_)
           refine WA.done (by kernel_rfl) ?_
           exact WQ.meetP [(2, _), (4, _), (7, _)] ⟨rfl, rfl, rfl, trivial⟩ ⟨_, _, rfl, (H.pick (L' := [.blk b2 (.cells #[I n5, I n6, I n7, I n8, I n9, I n10, I n11] 23), .blk b7 (.cells #[I n41, I 0, I n38, I 0, I 0, I 0, I 0] 23)]) (by repeat (first | exact Pick.nil | refine Pick.cons (by repeat (first | exact Rem.head | apply Rem.tail)) ?_))), hs14⟩
         ·
          refine WR.alloc [_, _, _, _, _, _, _] H Tryz.zeroValue23 rfl (Wn.none rfl) rfl ?_
          intro b7 w H
          refine WR.nil (WQ.any ?_)
          refine WA.seq (fuel := 0) [6, 7, 8, 10] rfl (by kernel_rfl) ?_
          refine WR.step (Ex.loadM H rfl hc46 Tryz.isAgg9) (Wn.none rfl) rfl rfl ?_
          refine WR.call H (R_digitsOf_ct hx42) rfl trivial (Wn.none rfl) rfl ?_
          intro v48 M w H hle hR
          replace hs14 := hs14.mono hle
          replace hc42 := hc42.mono hle
          replace hc46 := hc46.mono hle
          obtain rfl := hR
          refine WR.step (Ex.build [I n41, I 0, I n38, I 0, I 0, I 0, I 0] Tryz.underlying23 Tryz.zeroValue23 (xplaces23 Tryz.underlying23) rfl (by kernel_rfl)) (Wn.none rfl) rfl rfl ?_
          refine WR.store [_, _, _, _, _, _, _] H rfl rfl rfl (by repeat (first | exact Upd.head | apply Upd.tail)) Tryz.sizeOf23 rfl (by rfl) (by rfl) (Wn.none rfl) ?_
          intro w H
          refine WR.nil (WQ.any ?_)
          refine WA.done (by kernel_rfl) ?_
          exact WQ.meetP [(2, _), (4, _), (7, _)] ⟨rfl, rfl, rfl, trivial⟩ ⟨_, _, rfl, (H.pick (L' := [.blk b2 (.cells #[I n5, I n6, I n7, I n8, I n9, I n10, I n11] 23), .blk b7 (.cells #[I n41, I 0, I n38, I 0, I 0, I 0, I 0] 23)]) (by repeat (first | exact Pick.nil | refine Pick.cons (by repeat (first | exact Rem.head | apply Rem.tail)) ?_))), hs14⟩
        ·
         refine WR.alloc [_, _, _, _, _, _, _] H Tryz.zeroValue23 rfl (Wn.none rfl) rfl ?_
         intro b7 w H
         refine WR.nil (WQ.any ?_)
         refine WA.seq (fuel := 0) [5, 6, 7, 8, 10] rfl (by kernel_rfl) ?_
         refine WR.idxC Tryz.underlying59 Tryz.sizeOf9 (hs14) rfl rfl hxa40 (Wn.none rfl) rfl ?_
         intro p46 hc46
         refine WR.step (Ex.loadM H rfl hc46 Tryz.isAgg9) (Wn.none rfl) rfl rfl ?_
         refine WR.call H (R_digitsOf_ct hx42) rfl trivial (Wn.none rfl) rfl ?_
         intro v48 M w H hle hR
         replace hs14 := hs14.mono hle
         replace hc42 := hc42.mono hle
         replace hc46 := hc46.mono hle
         obtain rfl := hR
         refine WR.step (Ex.build [I n41, I 0, I n38, I 0, I 0, I 0, I 0] Tryz.underlying23 Tryz.zeroValue23 (xplaces23 Tryz.underlying23) rfl (by kernel_rfl)) (Wn.none rfl) rfl rfl ?_
         refine WR.store [_, _, _, _, _, _, _] H rfl rfl rfl (by repeat (first | exact Upd.head | apply Upd.tail)) Tryz.sizeOf23 rfl (by rfl) (by rfl) (Wn.none rfl) ?_
         intro w H
         refine WR.nil (WQ.any ?_)
         refine WA.done (by kernel_rfl) ?_
         exact WQ.meetP [(2, _), (4, _), (7, _)] ⟨rfl, rfl, rfl, trivial⟩ ⟨_, _, rfl, (H.pick (L' := [.blk b2 (.cells #[I n5, I n6, I n7, I n8, I n9, I n10, I n11] 23), .blk b7 (.cells #[I n41, I 0, I n38, I 0, I 0, I 0, I 0] 23)]) (by repeat (first | exact Pick.nil | refine Pick.cons (by repeat (first | exact Rem.head | apply Rem.tail)) ?_))), hs14⟩
       ·
        refine WR.idxC Tryz.underlying59 Tryz.sizeOf9 (hs14) rfl rfl hxa40 (Wn.none rfl) rfl ?_
        intro p46 hc46
        refine WR.nil (WQ.any ?_)
        refine WA.three (i := 3) (j := 6) (k := 9) (by kernel_rfl) rfl rfl rfl ?_ ?_ ?_
        ·
         refine WR.call H (R_digitsOf_ct hx39) rfl trivial (Wn.none rfl) rfl ?_
         intro v44 M w H hle hR
         replace hs14 := hs14.mono hle
         replace hc42 := hc42.mono hle
         replace hc46 := hc46.mono hle
         obtain rfl := hR
         refine WR.nil (WQ.any ?_)
         refine WA.two (i := 6) (j := 9) (by kernel_rfl) rfl rfl ?_ ?_
         ·
          refine WR.step (Ex.loadM H rfl hc46 Tryz.isAgg9) (Wn.none rfl) rfl rfl ?_
          refine WR.nil (WQ.any ?_)
          refine WA.two (i := 7) (j := 9) (by kernel_rfl) rfl rfl ?_ ?_
          ·
           refine WR.call H (R_digitsOf_ct hx42) rfl trivial (Wn.none rfl) rfl ?_
           intro v48 M w H hle hR
           replace hs14 := hs14.mono hle
           replace hc42 := hc42.mono hle
           replace hc46 := hc46.mono hle
           obtain rfl := hR
           refine WR.nil (WQ.any ?_)
           refine WA.take (i := 8) rfl (by kernel_rfl) (by kernel_rfl) (by kernel_rfl) (fun _ => Ex.build [I n41, I 0, I n38, I 0, I 0, I 0, I 0] Tryz.underlying23 Tryz.zeroValue23 (xplaces23 Tryz.underlying23) rfl (by kernel_rfl)) (Wn.none rfl) rfl rfl (fun _ _ => rfl) ?_
           refine WA.seq (fuel := 0) [9, 10] rfl (by kernel_rfl) ?_
           refine WR.alloc [_, _, _, _, _, _, _] H Tryz.zeroValue23 rfl (Wn.none rfl) rfl ?_
           intro b7 w H
           refine WR.store [_, _, _, _, _, _, _] H rfl rfl rfl (by repeat (first | exact Upd.head | apply Upd.tail)) Tryz.sizeOf23 rfl (by rfl) (by rfl) (Wn.none rfl) ?_
           intro w H
           refine WR.nil (WQ.any ?_)
           refine WA.done (by kernel_rfl) ?_
           exact WQ.meetP [(2, _), (4, _), (7, _)] ⟨rfl, rfl, rfl, trivial⟩ ⟨_, _, rfl, (H.pick (L' := [.blk b2 (.cells #[I n5, I n6, I n7, I n8, I n9, I n10, I n11] 23), .blk b7 (.cells #[I n41, I 0, I n38, I 0, I 0, I 0, I 0] 23)]) (by repeat (first | exact Pick.nil | refine Pick.cons (by repeat (first | exact Rem.head | apply Rem.tail)) ?_))), hs14⟩
          ·
           refine WR.alloc [_, _, _, _, _, _, _] H Tryz.zeroValue23 rfl (Wn.none rfl) rfl ?_
           intro b7 w H
           refine WR.nil (WQ.any ?_)
           refine WA.seq (fuel := 0) [7, 8, 10] rfl (by kernel_rfl) ?_
           refine WR.call H (R_digitsOf_ct hx42) rfl trivial (Wn.none rfl) rfl ?_
           intro v48 M w H hle hR
           replace hs14 := hs14.mono hle
           replace hc42 := hc42.mono hle
           replace hc46 := hc46.mono hle
           obtain rfl := hR
           refine WR.step (Ex.build [I n41, I 0, I n38, I 0, I 0, I 0, I 0] Tryz.underlying23 Tryz.zeroValue23 (xplaces23 Tryz.underlying23) rfl (by kernel_rfl)) (Wn.none rfl) rfl rfl ?_
           refine WR.store [_, _, _, _, _, _, _] H rfl rfl rfl (by repeat (first | exact Upd.head | apply Upd.tail)) Tryz.sizeOf23 rfl (by rfl) (by rfl) (Wn.none rfl) ?_
           intro w H
           refine WR.nil (WQ.any ?_)
           refine WA.done (by kernel_rfl) ?_
           exact WQ.meetP [(2, _), (4, _), (7, _)] ⟨rfl, rfl, rfl, trivial⟩ ⟨_, _, rfl, (H.pick (L' := [.blk b2 (.cells #[I n5, I n6, I n7, I n8, I n9, I n10, I n11] 23), .blk b7 (.cells #[I n41, I 0, I n38, I 0, I 0, I 0, I 0] 23)]) (by repeat (first | exact Pick.nil | refine Pick.cons (by repeat (first | exact Rem.head | apply Rem.tail)) ?_))), hs14⟩
         ·
          refine WR.alloc [_, _, _, _, _, _, _] H Tryz.zeroValue23 rfl (Wn.none rfl) rfl ?_
          intro b7 w H
          refine WR.nil (WQ.any ?_)
          refine WA.seq (fuel := 0) [6, 7, 8, 10] rfl (by kernel_rfl) ?_
          refine WR.step (Ex.loadM H rfl hc46 Tryz.isAgg9) (Wn.none rfl) rfl rfl ?_
          refine WR.call H (R_digitsOf_ct hx42) rfl trivial (Wn.none rfl) rfl ?_
          intro v48 M w H hle hR
          replace hs14 := hs14.mono hle
          replace hc42 := hc42.mono hle
          replace hc46 := hc46.mono hle
          obtain rfl := hR
          refine WR.step (Ex.build [I n41, I 0, I n38, I 0, I 0, I 0, I 0] Tryz.underlying23 Tryz.zeroValue23 (xplaces23 Tryz.underlying23) rfl (by kernel_rfl)) (Wn.none rfl) rfl rfl ?_
          refine WR.store [_, _, _, _, _, _, _] H rfl rfl rfl (by repeat (first | exact Upd.head | apply Upd.tail)) Tryz.sizeOf23 rfl (by rfl) (by rfl) (Wn.none rfl) ?_
          intro w H
          refine WR.nil (WQ.any ?_)
          refine WA.done (by kernel_rfl) ?_
          exact WQ.meetP [(2, _), (4, _), (7, _)] ⟨rfl, rfl, rfl, trivial⟩ ⟨_, _, rfl, (H.pick (L' := [.blk b2 (.cells #[I n5, I n6, I n7, I n8, I n9, I n10, I n11] 23), .blk b7 (.cells #[I n41, I 0, I n38, I 0, I 0, I 0, I 0] 23)]) (by repeat (first | exact Pick.nil | refine Pick.cons (by repeat (first | exact Rem.head | apply Rem.tail)) ?_))), hs14⟩
        ·
         refine WR.step (Ex.loadM H rfl hc46 Tryz.isAgg9) (Wn.none rfl) rfl rfl ?_
         refine WR.nil (WQ.any ?_)
         refine WA.two (i := 3) (j := 9) (by kernel_rfl) rfl rfl ?_ ?_
         ·
          refine WR.call H (R_digitsOf_ct hx39) rfl trivial (Wn.none rfl) rfl ?_
          intro v44 M w H hle hR
          replace hs14 := hs14.mono hle
          replace hc42 := hc42.mono hle
          replace hc46 := hc46.mono hle
          obtain rfl := hR
          refine WR.nil (WQ.any ?_)
          refine WA.two (i := 7) (j := 9) (by kernel_rfl) rfl rfl ?_ ?_
          ·
           refine WR.call H (R_digitsOf_ct hx42) rfl trivial (Wn.none rfl) rfl ?_
           intro v48 M w H hle hR
           replace hs14 := hs14.mono hle
           replace hc42 := hc42.mono hle
           replace hc46 := hc46.mono hle
           obtain rfl := hR
           refine WR.nil (WQ.any ?_)
           refine WA.take (i := 8) rfl (by kernel_rfl) (by kernel_rfl) (by kernel_rfl) (fun _ => Ex.build [I n41, I 0, I n38, I 0, I 0, I 0, I 0] Tryz.underlying23 Tryz.zeroValue23 (xplaces23 Tryz.underlying23) rfl (by kernel_rfl)) (Wn.none rfl) rfl rfl (fun _ _ => rfl) ?_
           refine WA.seq (fuel := 0) [9, 10] rfl (by kernel_rfl) ?_
           refine WR.alloc [_, _, _, _, _, _, _] H Tryz.zeroValue23 rfl (Wn.none rfl) rfl ?_
           intro b7 w H
           refine WR.store [_, _, _, _, _, _, _] H rfl rfl rfl (by repeat (first | exact Upd.head | apply Upd.tail)) Tryz.sizeOf23 rfl (by rfl) (by rfl) (Wn.none rfl) ?_
           intro w H
           refine WR.nil (WQ.any ?_)
           refine WA.done (by kernel_rfl) ?_
           exact WQ.meetP [(2, _), (4, _), (7, _)] ⟨rfl, rfl, rfl, trivial⟩ ⟨_, _, rfl, (H.pick (L' := [.blk b2 (.cells #[I n5, I n6, I n7, I n8, I n9, I n10, I n11] 23), .blk b7 (.cells #[I n41, I 0, I n38, I 0, I 0, I 0, I 0] 23)]) (by repeat (first | exact Pick.nil | refine Pick.cons (by repeat (first | exact Rem.head | apply Rem.tail)) ?_))), hs14⟩
          ·
           refine WR.alloc [_, _, _, _, _, _, _] H Tryz.zeroValue23 rfl (Wn.none rfl) rfl ?_
           intro b7 w H
           refine WR.nil (WQ.any ?_)
           refine WA.seq (fuel := 0) [7, 8, 10] rfl (by kernel_rfl) ?_
           refine WR.call H (R_digitsOf_ct hx42) rfl trivial (Wn.none rfl) rfl ?_
           intro v48 M w H hle hR
           replace hs14 := hs14.mono hle
           replace hc42 := hc42.mono hle
           replace hc46 := hc46.mono hle
           obtain rfl := hR
           refine WR.step (Ex.build [I n41, I 0, I n38, I 0, I 0, I 0, I 0] Tryz.underlying23 Tryz.zeroValue23 (xplaces23 Tryz.underlying23) rfl (by kernel_rfl)) (Wn.none rfl) rfl rfl ?_
           refine WR.store [_, _, _, _, _, _, _] H rfl rfl rfl (by repeat (first | exact Upd.head | apply Upd.tail)) Tryz.sizeOf23 rfl (by rfl) (by rfl) (Wn.none rfl) ?_
           intro w H
           refine WR.nil (WQ.any ?_)
           refine WA.done (by kernel_rfl) ?_
           exact WQ.meetP [(2, _), (4, _), (7, _)] ⟨rfl, rfl, rfl, trivial⟩ ⟨_, _, rfl, (H.pick (L' := [.blk b2 (.cells #[I n5, I n6, I n7, I n8, I n9, I n10, I n11] 23), .blk b7 (.cells #[I n41, I 0, I n38, I 0, I 0, I 0, I 0] 23)]) (by repeat (first | exact Pick.nil | refine Pick.cons (by repeat (first | exact Rem.head | apply Rem.tail)) ?_))), hs14⟩
         ·
          refine WR.alloc [_, _, _, _, _, _, _] H Tryz.zeroValue23 rfl (Wn.none rfl) rfl ?_
          intro b7 w H
          refine WR.nil (WQ.any ?_)
          refine WA.seq (fuel := 0) [3, 7, 8, 10] rfl (by kernel_rfl) ?_
          refine WR.call H (R_digitsOf_ct hx39) rfl trivial (Wn.none rfl) rfl ?_
          intro v44 M w H hle hR
          replace hs14 := hs14.mono hle
          replace hc42 := hc42.mono hle
          replace hc46 := hc46.mono hle
          obtain rfl := hR
          refine WR.call H (R_digitsOf_ct hx42) rfl trivial (Wn.none rfl) rfl ?_
          intro v48 M w H hle hR
          replace hs14 := hs14.mono hle
          replace hc42 := hc42.mono hle
          replace hc46 := hc46.mono hle
          obtain rfl := hR
          refine WR.step (Ex.build [I n41, I 0, I n38, I 0, I 0, I 0, I 0] Tryz.underlying23 Tryz.zeroValue23 (xplaces23 Tryz.underlying23) rfl (by kernel_rfl)) (Wn.none rfl) rfl rfl ?_
          refine WR.store [_, _, _, _, _, _, _] H rfl rfl rfl (by repeat (first | exact Upd.head | apply Upd.tail)) Tryz.sizeOf23 rfl (by rfl) (by rfl) (Wn.none rfl) ?_
          intro w H
          refine WR.nil (WQ.any ?_)
          refine WA.done (by kernel_rfl) ?_
          exact WQ.meetP [(2, _), (4, _), (7, _)] ⟨rfl, rfl, rfl, trivial⟩ ⟨_, _, rfl, (H.pick (L' := [.blk b2 (.cells #[I n5, I n6, I n7, I n8, I n9, I n10, I n11] 23), .blk b7 (.cells #[I n41, I 0, I n38, I 0, I 0, I 0, I 0] 23)]) (by repeat (first | exact Pick.nil | refine Pick.cons (by repeat (first | exact Rem.head | apply Rem.tail)) ?_))), hs14⟩
        ·
         refine WR.alloc [_, _, _, _, _, _, _] H Tryz.zeroValue23 rfl (Wn.none rfl) rfl ?_
         intro b7 w H
         refine WR.nil (WQ.any ?_)
         refine WA.two (i := 3) (j := 6) (by kernel_rfl) rfl rfl ?_ ?_
         ·
          refine WR.call H (R_digitsOf_ct hx39) rfl trivial (Wn.none rfl) rfl ?_
          intro v44 M w H hle hR
          replace hs14 := hs14.mono hle
          replace hc42 := hc42.mono hle
          replace hc46 := hc46.mono hle
          obtain rfl := hR
          refine WR.nil (WQ.any ?_)
          refine WA.seq (fuel := 0) [6, 7, 8, 10] rfl (by kernel_rfl) ?_
          refine WR.step (Ex.loadM H rfl hc46 Tryz.isAgg9) (Wn.none rfl) rfl rfl ?_
          refine WR.call H (R_digitsOf_ct hx42) rfl trivial (Wn.none rfl) rfl ?_
          intro v48 M w H hle hR
          replace hs14 := hs14.mono hle
          replace hc42 := hc42.mono hle
          replace hc46 := hc46.mono hle
          obtain rfl := hR
          refine WR.step (Ex.build [I n41, I 0, I n38, I 0, I 0, I 0, I 0] Tryz.underlying23 Tryz.zeroValue23 (xplaces23 Tryz.underlying23) rfl (by kernel_rfl)) (Wn.none rfl) rfl rfl ?_
          refine WR.store [_, _, _, _, _, _, _] H rfl rfl rfl (by repeat (first | exact Upd.head | apply Upd.tail)) Tryz.sizeOf23 rfl (by rfl) (by rfl) (Wn.none rfl) ?_
          intro w H
          refine WR.nil (WQ.any ?_)
          refine WA.done (by kernel_rfl) ?_
          exact WQ.meetP [(2, _), (4, _), (7, _)] ⟨rfl, rfl, rfl, trivial⟩ ⟨_, _, rfl, (H.pick (L' := [.blk b2 (.cells #[I n5, I n6, I n7, I n8, I n9, I n10, I n11] 23), .blk b7 (.cells #[I n41, I 0, I n38, I 0, I 0, I 0, I 0] 23)]) (by repeat (first | exact Pick.nil | refine Pick.cons (by repeat (first | exact Rem.head | apply Rem.tail)) ?_))), hs14⟩
         ·
          refine WR.step (Ex.loadM H rfl hc46 Tryz.isAgg9) (Wn.none rfl) rfl rfl ?_
          refine WR.nil (WQ.any ?_)
          refine WA.seq (fuel := 0) [3, 7, 8, 10] rfl (by kernel_rfl) ?_
          refine WR.call H (R_digitsOf_ct hx39) rfl trivial (Wn.none rfl) rfl ?_
          intro v44 M w H hle hR
          replace hs14 := hs14.mono hle
          replace hc42 := hc42.mono hle
          replace hc46 := hc46.mono hle
          obtain rfl := hR
          refine WR.call H (R_digitsOf_ct hx42) rfl trivial (Wn.none rfl) rfl ?_
          intro v48 M w H hle hR
          replace hs14 := hs14.mono hle
          replace hc42 := hc42.mono hle
          replace hc46 := hc46.mono hle
          obtain rfl := hR
          refine WR.step (Ex.build [I n41, I 0, I n38, I 0, I 0, I 0, I 0] Tryz.underlying23 Tryz.zeroValue23 (xplaces23 Tryz.underlying23) rfl (by kernel_rfl)) (Wn.none rfl) rfl rfl ?_
          refine WR.store [_, _, _, _, _, _, _] H rfl rfl rfl (by repeat (first | exact Upd.head | apply Upd.tail)) Tryz.sizeOf23 rfl (by rfl) (by rfl) (Wn.none rfl) ?_
          intro w H
          refine WR.nil (WQ.any ?_)
          refine WA.done (by kernel_rfl) ?_
          exact WQ.meetP [(2, _), (4, _), (7, _)] ⟨rfl, rfl, rfl, trivial⟩ ⟨_, _, rfl, (H.pick (L' := [.blk b2 (.cells #[I n5, I n6, I n7, I n8, I n9, I n10, I n11] 23), .blk b7 (.cells #[I n41, I 0, I n38, I 0, I 0, I 0, I 0] 23)]) (by repeat (first | exact Pick.nil | refine Pick.cons (by repeat (first | exact Rem.head | apply Rem.tail)) ?_))), hs14⟩
       ·
        refine WR.alloc [_, _, _, _, _, _, _] H Tryz.zeroValue23 rfl (Wn.none rfl) rfl ?_
        intro b7 w H
        refine WR.nil (WQ.any ?_)
        refine WA.two (i := 3) (j := 5) (by kernel_rfl) rfl rfl ?_ ?_
        ·
         refine WR.call H (R_digitsOf_ct hx39) rfl trivial (Wn.none rfl) rfl ?_
         intro v44 M w H hle hR
         replace hs14 := hs14.mono hle
         replace hc42 := hc42.mono hle
         obtain rfl := hR
         refine WR.nil (WQ.any ?_)
         refine WA.seq (fuel := 0) [5, 6, 7, 8, 10] rfl (by kernel_rfl) ?_
         refine WR.idxC Tryz.underlying59 Tryz.sizeOf9 (hs14) rfl rfl hxa40 (Wn.none rfl) rfl ?_
         intro p46 hc46
         refine WR.step (Ex.loadM H rfl hc46 Tryz.isAgg9) (Wn.none rfl) rfl rfl ?_
         refine WR.call H (R_digitsOf_ct hx42) rfl trivial (Wn.none rfl) rfl ?_
         intro v48 M w H hle hR
         replace hs14 := hs14.mono hle
         replace hc42 := hc42.mono hle
         replace hc46 := hc46.mono hle
         obtain rfl := hR
         refine WR.step (Ex.build [I n41, I 0, I n38, I 0, I 0, I 0, I 0] Tryz.underlying23 Tryz.zeroValue23 (xplaces23 Tryz.underlying23) rfl (by kernel_rfl)) (Wn.none rfl) rfl rfl ?_
         refine WR.store [_, _, _, _, _, _, _] H rfl rfl rfl (by repeat (first | exact Upd.head | apply Upd.tail)) Tryz.sizeOf23 rfl (by rfl) (by rfl) (Wn.none rfl) ?_
         intro w H
         refine WR.nil (WQ.any ?_)
         refine WA.done (by kernel_rfl) ?_
         exact WQ.meetP [(2, _), (4, _), (7, _)] ⟨rfl, rfl, rfl, trivial⟩ ⟨_, _, rfl, (H.pick (L' := [.blk b2 (.cells #[I n5, I n6, I n7, I n8, I n9, I n10, I n11] 23), .blk b7 (.cells #[I n41, I 0, I n38, I 0, I 0, I 0, I 0] 23)]) (by repeat (first | exact Pick.nil | refine Pick.cons (by repeat (first | exact Rem.head | apply Rem.tail)) ?_))), hs14⟩
        ·
         refine WR.idxC Tryz.underlying59 Tryz.sizeOf9 (hs14) rfl rfl hxa40 (Wn.none rfl) rfl ?_
         intro p46 hc46
         refine WR.nil (WQ.any ?_)
         refine WA.two (i := 3) (j := 6) (by kernel_rfl) rfl rfl ?_ ?_
         ·
          refine WR.call H (R_digitsOf_ct hx39) rfl trivial (Wn.none rfl) rfl ?_
          intro v44 M w H hle hR
          replace hs14 := hs14.mono hle
          replace hc42 := hc42.mono hle
          replace hc46 := hc46.mono hle
          obtain rfl := hR
          refine WR.nil (WQ.any ?_)
          refine WA.seq (fuel := 0) [6, 7, 8, 10] rfl (by kernel_rfl) ?_
          refine WR.step (Ex.loadM H rfl hc46 Tryz.isAgg9) (Wn.none rfl) rfl rfl ?_
          refine WR.call H (R_digitsOf_ct hx42) rfl trivial (Wn.none rfl) rfl ?_
          intro v48 M w H hle hR
          replace hs14 := hs14.mono hle
          replace hc42 := hc42.mono hle
          replace hc46 := hc46.mono hle
          obtain rfl := hR
          refine WR.step (Ex.build [I n41, I 0, I n38, I 0, I 0, I 0, I 0] Tryz.underlying23 Tryz.zeroValue23 (xplaces23 Tryz.underlying23) rfl (by kernel_rfl)) (Wn.none rfl) rfl rfl ?_
          refine WR.store [_, _, _, _, _, _, _] H rfl rfl rfl (by repeat (first | exact Upd.head | apply Upd.tail)) Tryz.sizeOf23 rfl (by rfl) (by rfl) (Wn.none rfl) ?_
          intro w H
          refine WR.nil (WQ.any ?_)
          refine WA.done (by kernel_rfl) ?_
          exact WQ.meetP [(2, _), (4, _), (7, _)] ⟨rfl, rfl, rfl, trivial⟩ ⟨_, _, rfl, (H.pick (L' := [.blk b2 (.cells #[I n5, I n6, I n7, I n8, I n9, I n10, I n11] 23), .blk b7 (.cells #[I n41, I 0, I n38, I 0, I 0, I 0, I 0] 23)]) (by repeat (first | exact Pick.nil | refine Pick.cons (by repeat (first | exact Rem.head | apply Rem.tail)) ?_))), hs14⟩
         ·
          refine WR.step (Ex.loadM H rfl hc46 Tryz.isAgg9) (Wn.none rfl) rfl rfl ?_
          refine WR.nil (WQ.any ?_)
          refine WA.seq (fuel := 0) [3, 7, 8, 10] rfl (by kernel_rfl) ?_
          refine WR.call H (R_digitsOf_ct hx39) rfl trivial (Wn.none rfl) rfl ?_
          intro v44 M w H hle hR
          replace hs14 := hs14.mono hle
          replace hc42 := hc42.mono hle
          replace hc46 := hc46.mono hle
          obtain rfl := hR
          refine WR.call H (R_digitsOf_ct hx42) rfl trivial (Wn.none rfl) rfl ?_
          intro v48 M w H hle hR
          replace hs14 := hs14.mono hle
          replace hc42 := hc42.mono hle
          replace hc46 := hc46.mono hle
          obtain rfl := hR
          refine WR.step (Ex.build [I n41, I 0, I n38, I 0, I 0, I 0, I 0] Tryz.underlying23 Tryz.zeroValue23 (xplaces23 Tryz.underlying23) rfl (by kernel_rfl)) (Wn.none rfl) rfl rfl ?_
          refine WR.store [_, _, _, _, _, _, _] H rfl rfl rfl (by repeat (first | exact Upd.head | apply Upd.tail)) Tryz.sizeOf23 rfl (by rfl) (by rfl) (Wn.none rfl) ?_
          intro w H
          refine WR.nil (WQ.any ?_)
          refine WA.done (by kernel_rfl) ?_
          exact WQ.meetP [(2, _), (4, _), (7, _)] ⟨rfl, rfl, rfl, trivial⟩ ⟨_, _, rfl, (H.pick (L' := [.blk b2 (.cells #[I n5, I n6, I n7, I n8, I n9, I n10, I n11] 23), .blk b7 (.cells #[I n41, I 0, I n38, I 0, I 0, I 0, I 0] 23)]) (by repeat (first | exact Pick.nil | refine Pick.cons (by repeat (first | exact Rem.head | apply Rem.tail)) ?_))), hs14⟩
      ·
       refine WR.idxC Tryz.underlying59 Tryz.sizeOf9 (hs14) rfl rfl hxa40 (Wn.none rfl) rfl ?_
       intro p46 hc46
       refine WR.nil (WQ.any ?_)
       refine WA.three (i := 2) (j := 6) (k := 9) (by kernel_rfl) rfl rfl rfl ?_ ?_ ?_
       ·
        refine WR.step (Ex.loadM H rfl hc42 Tryz.isAgg9) (Wn.none rfl) rfl rfl ?_
        refine WR.nil (WQ.any ?_)
        refine WA.three (i := 3) (j := 6) (k := 9) (by kernel_rfl) rfl rfl rfl ?_ ?_ ?_
        ·
         refine WR.call H (R_digitsOf_ct hx39) rfl trivial (Wn.none rfl) rfl ?_
         intro v44 M w H hle hR
         replace hs14 := hs14.mono hle
         replace hc42 := hc42.mono hle
         replace hc46 := hc46.mono hle
         obtain rfl := hR
         refine WR.nil (WQ.any ?_)
         refine WA.two (i := 6) (j := 9) (by kernel_rfl) rfl rfl ?_ ?_
         ·
          refine WR.step (Ex.loadM H rfl hc46 Tryz.isAgg9) (Wn.none rfl) rfl rfl ?_
          refine WR.nil (WQ.any ?_)
          refine WA.two (i := 7) (j := 9) (by kernel_rfl) rfl rfl ?_ ?_
          ·
           refine WR.call H (R_digitsOf_ct hx42) rfl trivial (Wn.none rfl) rfl ?_
           intro v48 M w H hle hR
           replace hs14 := hs14.mono hle
           replace hc42 := hc42.mono hle
           replace hc46 := hc46.mono hle
           obtain rfl := hR
           refine WR.nil (WQ.any ?_)
           refine WA.take (i := 8) rfl (by kernel_rfl) (by kernel_rfl) (by kernel_rfl) (fun _ => Ex.build [I n41, I 0, I n38, I 0, I 0, I 0, I 0] Tryz.underlying23 Tryz.zeroValue23 (xplaces23 Tryz.underlying23) rfl (by kernel_rfl)) (Wn.none rfl) rfl rfl (fun _ _ => rfl) ?_
           refine WA.seq (fuel := 0) [9, 10] rfl (by kernel_rfl) ?_
           refine WR.alloc [_, _, _, _, _, _, _] H Tryz.zeroValue23 rfl (Wn.none rfl) rfl ?_
           intro b7 w H
           refine WR.store [_, _, _, _, _, _, _] H rfl rfl rfl (by repeat (first | exact Upd.head | apply Upd.tail)) Tryz.sizeOf23 rfl (by rfl) (by rfl) (Wn.none rfl) ?_
           intro w H
           refine WR.nil (WQ.any ?_)
           refine WA.done (by kernel_rfl) ?_
           exact WQ.meetP [(2, _), (4, _), (7, _)] ⟨rfl, rfl, rfl, trivial⟩ ⟨_, _, rfl, (H.pick (L' := [.blk b2 (.cells #[I n5, I n6, I n7, I n8, I n9, I n10, I n11] 23), .blk b7 (.cells #[I n41, I 0, I n38, I 0, I 0, I 0, I 0] 23)]) (by repeat (first | exact Pick.nil | refine Pick.cons (by repeat (first | exact Rem.head | apply Rem.tail)) ?_))), hs14⟩
          ·
           refine WR.alloc [_, _, _, _, _, _, _] H Tryz.zeroValue23 rfl (Wn.none rfl) rfl ?_
           intro b7 w H
           refine WR.nil (WQ.any ?_)
           refine WA.seq (fuel := 0) [7, 8, 10] rfl (by kernel_rfl) ?_
           refine WR.call H (R_digitsOf_ct hx42) rfl trivial (Wn.none rfl) rfl ?_
           intro v48 M w H hle hR
           replace hs14 := hs14.mono hle
           replace hc42 := hc42.mono hle
           replace hc46 := hc46.mono hle
           obtain rfl := hR
           refine WR.step (Ex.build [I n41, I 0, I n38, I 0, I 0, I 0, I 0] Tryz.underlying23 Tryz.zeroValue23 (xplaces23 Tryz.underlying23) rfl (by kernel_rfl)) (Wn.none rfl) rfl rfl ?_
           refine WR.store [_, _, _, _, _, _, _] H rfl rfl rfl (by repeat (first | exact Upd.head | apply Upd.tail)) Tryz.sizeOf23 rfl (by rfl) (by rfl) (Wn.none rfl) ?_
           intro w H
           refine WR.nil (WQ.any ?_)
           refine WA.done (by kernel_rfl) ?_
           exact WQ.meetP [(2, _), (4, _), (7, _)] ⟨rfl, rfl, rfl, trivial⟩ ⟨_, _, rfl, (H.pick (L' := [.blk b2 (.cells #[I n5, I n6, I n7, I n8, I n9, I n10, I n11] 23), .blk b7 (.cells #[I n41, I 0, I n38, I 0, I 0, I 0, I 0] 23)]) (by repeat (first | exact Pick.nil | refine Pick.cons (by repeat (first | exact Rem.head | apply Rem.tail)) ?_))), hs14⟩
         ·
          refine WR.alloc [_, _, _, _, _, _, _] H Tryz.zeroValue23 rfl (Wn.none rfl) rfl ?_
          intro b7 w H
          refine WR.nil (WQ.any ?_)
          refine WA.seq (fuel := 0) [6, 7, 8, 10] rfl (by kernel_rfl) ?_
          refine WR.step (Ex.loadM H rfl hc46 Tryz.isAgg9) (Wn.none rfl) rfl rfl ?_
          refine WR.call H (R_digitsOf_ct hx42) rfl trivial (Wn.none rfl) rfl ?_
          intro v48 M w H hle hR
          replace hs14 := hs14.mono hle
          replace hc42 := hc42.mono hle
          replace hc46 := hc46.mono hle
          obtain rfl := hR
          refine WR.step (Ex.build [I n41, I 0, I n38, I 0, I 0, I 0, I 0] Tryz.underlying23 Tryz.zeroValue23 (xplaces23 Tryz.underlying23) rfl (by kernel_rfl)) (Wn.none rfl) rfl rfl ?_
          refine WR.store [_, _, _, _, _, _, _] H rfl rfl rfl (by repeat (first | exact Upd.head | apply Upd.tail)) Tryz.sizeOf23 rfl (by rfl) (by rfl) (Wn.none rfl) ?_
          intro w H
          refine WR.nil (WQ.any ?_)
          refine WA.done (by kernel_rfl) ?_
          exact WQ.meetP [(2, _), (4, _), (7, _)] ⟨rfl, rfl, rfl, trivial⟩ ⟨_, _, rfl, (H.pick (L' := [.blk b2 (.cells #[I n5, I n6, I n7, I n8, I n9, I n10, I n11] 23), .blk b7 (.cells #[I n41, I 0, I n38, I 0, I 0, I 0, I 0] 23)]) (by repeat (first | exact Pick.nil | refine Pick.cons (by repeat (first | exact Rem.head | apply Rem.tail)) ?_))), hs14⟩
        ·
         refine WR.step (Ex.loadM H rfl hc46 Tryz.isAgg9) (Wn.none rfl) rfl rfl ?_
         refine WR.nil (WQ.any ?_)
         refine WA.two (i := 3) (j := 9) (by kernel_rfl) rfl rfl ?_ ?_
         ·
          refine WR.call H (R_digitsOf_ct hx39) rfl trivial (Wn.none rfl) rfl ?_
          intro v44 M w H hle hR
          replace hs14 := hs14.mono hle
          replace hc42 := hc42.mono hle
          replace hc46 := hc46.mono hle
          obtain rfl := hR
          refine WR.nil (WQ.any ?_)
          refine WA.two (i := 7) (j := 9) (by kernel_rfl) rfl rfl ?_ ?_
          ·
           refine WR.call H (R_digitsOf_ct hx42) rfl trivial (Wn.none rfl) rfl ?_
           intro v48 M w H hle hR
           replace hs14 := hs14.mono hle
           replace hc42 := hc42.mono hle
           replace hc46 := hc46.mono hle
           obtain rfl := hR
           refine WR.nil (WQ.any ?_)
           refine WA.take (i := 8) rfl (by kernel_rfl) (by kernel_rfl) (by kernel_rfl) (fun _ => Ex.build [I n41, I 0, I n38, I 0, I 0, I 0, I 0] Tryz.underlying23 Tryz.zeroValue23 (xplaces23 Tryz.underlying23) rfl (by kernel_rfl)) (Wn.none rfl) rfl rfl (fun _ _ => rfl) ?_
           refine WA.seq (fuel := 0) [9, 10] rfl (by kernel_rfl) ?_
           refine WR.alloc [_, _, _, _, _, _, _] H Tryz.zeroValue23 rfl (Wn.none rfl) rfl ?_
           intro b7 w H
           refine WR.store [_, _, _, _, _, _, _] H rfl rfl rfl (by repeat (first | exact Upd.head | apply Upd.tail)) Tryz.sizeOf23 rfl (by rfl) (by rfl) (Wn.none rfl) ?_
           intro w H
           refine WR.nil (WQ.any ?_)
           refine WA.done (by kernel_rfl) ?_
           exact WQ.meetP [(2, _), (4, _), (7, _)] ⟨rfl, rfl, rfl, trivial⟩ ⟨_, _, rfl, (H.pick (L' := [.blk b2 (.cells #[I n5, I n6, I n7, I n8, I n9, I n10, I n11] 23), .blk b7 (.cells #[I n41, I 0, I n38, I 0, I 0, I 0, I 0] 23)]) (by repeat (first | exact Pick.nil | refine Pick.cons (by repeat (first | exact Rem.head | apply Rem.tail)) ?_))), hs14⟩
          ·
           refine WR.alloc [_, _, _, _, _, _, _] H Tryz.zeroValue23 rfl (Wn.none rfl) rfl ?_
           intro b7 w H
           refine WR.nil (WQ.any ?_)
           refine WA.seq (fuel := 0) [7, 8, 10] rfl (by kernel_rfl) ?_
           refine WR.call H (R_digitsOf_ct hx42) rfl trivial (Wn.none rfl) rfl ?_
           intro v48 M w H hle hR
           replace hs14 := hs14.mono hle
           replace hc42 := hc42.mono hle
           replace hc46 := hc46.mono hle
           obtain rfl := hR
           refine WR.step (Ex.build [I n41, I 0, I n38, I 0, I 0, I 0, I 0] Tryz.underlying23 Tryz.zeroValue23 (xplaces23 Tryz.underlying23) rfl (by kernel_rfl)) (Wn.none rfl) rfl rfl ?_
           refine WR.store [_, _, _, _, _, _, _] H rfl rfl rfl (by repeat (first | exact Upd.head | apply Upd.tail)) Tryz.sizeOf23 rfl (by rfl) (by rfl) (Wn.none rfl) ?_
           intro w H
           refine WR.nil (WQ.any ?_)
           refine WA.done (by kernel_rfl) ?_
           exact WQ.meetP [(2, _), (4, _), (7, _)] ⟨rfl, rfl, rfl, trivial⟩ ⟨_, _, rfl, (H.pick (L' := [.blk b2 (.cells #[I n5, I n6, I n7, I n8, I n9, I n10, I n11] 23), .blk b7 (.cells #[I n41, I 0, I n38, I 0, I 0, I 0, I 0] 23)]) (by repeat (first | exact Pick.nil | refine Pick.cons (by repeat (first | exact Rem.head | apply Rem.tail)) ?_))), hs14⟩
         ·
          refine WR.alloc [_, _, _, _, _, _, _] H Tryz.zeroValue23 rfl (Wn.none rfl) rfl ?_
          intro b7 w H
          refine WR.nil (WQ.any ?_)
          refine WA.seq (fuel := 0) [3, 7, 8, 10] rfl (by kernel_rfl) ?_
          refine WR.call H (R_digitsOf_ct hx39) rfl trivial (Wn.none rfl) rfl ?_
          intro v44 M w H hle hR
          replace hs14 := hs14.mono hle
          replace hc42 := hc42.mono hle
          replace hc46 := hc46.mono hle
          obtain rfl := hR
          refine WR.call H (R_digitsOf_ct hx42) rfl trivial (Wn.none rfl) rfl ?_
          intro v48 M w H hle hR
          replace hs14 := hs14.mono hle
          replace hc42 := hc42.mono hle
          replace hc46 := hc46.mono hle
          obtain rfl := hR
          refine WR.step (Ex.build [I n41, I 0, I n38, I 0, I 0, I 0, I 0] Tryz.underlying23 Tryz.zeroValue23 (xplaces23 Tryz.underlying23) rfl (by kernel_rfl)) (Wn.none rfl) rfl rfl ?_
          refine WR.store [_, _, _, _, _, _, _] H rfl rfl rfl (by repeat (first | exact Upd.head | apply Upd.tail)) Tryz.sizeOf23 rfl (by rfl) (by rfl) (Wn.none rfl) ?_
          intro w H
          refine WR.nil (WQ.any ?_)
          refine WA.done (by kernel_rfl) ?_
          exact WQ.meetP [(2, _), (4, _), (7, _)] ⟨rfl, rfl, rfl, trivial⟩ ⟨_, _, rfl, (H.pick (L' := [.blk b2 (.cells #[I n5, I n6, I n7, I n8, I n9, I n10, I n11] 23), .blk b7 (.cells #[I n41, I 0, I n38, I 0, I 0, I 0, I 0] 23)]) (by repeat (first | exact Pick.nil | refine Pick.cons (by repeat (first | exact Rem.head | apply Rem.tail)) ?_))), hs14⟩
        ·
         refine WR.alloc [_, _, _, _, _, _, _] H Tryz.zeroValue23 rfl (Wn.none rfl) rfl ?_
         intro b7 w H
         refine WR.nil (WQ.any ?_)
         refine WA.two (i := 3) (j := 6) (by kernel_rfl) rfl rfl ?_ ?_
         ·
          refine WR.call H (R_digitsOf_ct hx39) rfl trivial (Wn.none rfl) rfl ?_
          intro v44 M w H hle hR
          replace hs14 := hs14.mono hle
          replace hc42 := hc42.mono hle
          replace hc46 := hc46.mono hle
          obtain rfl := hR
          refine WR.nil (WQ.any ?_)
          refine WA.seq (fuel := 0) [6, 7, 8, 10] rfl (by kernel_rfl) ?_
          refine WR.step (Ex.loadM H rfl hc46 Tryz.isAgg9) (Wn.none rfl) rfl rfl ?_
          refine WR.call H (R_digitsOf_ct hx42) rfl trivial (Wn.none rfl) rfl ?_
          intro v48 M w H hle hR
          replace hs14 := hs14.mono hle
          replace hc42 := hc42.mono hle
          replace hc46 := hc46.mono hle
          obtain rfl := hR
          refine WR.step (Ex.build [I n41, I 0, I n38, I 0, I 0, I 0, I 0] Tryz.underlying23 Tryz.zeroValue23 (xplaces23 Tryz.underlying23) rfl (by kernel_rfl)) (Wn.none rfl) rfl rfl ?_
          refine WR.store [_, _, _, _, _, _, _] H rfl rfl rfl (by repeat (first | exact Upd.head | apply Upd.tail)) Tryz.sizeOf23 rfl (by rfl) (by rfl) (Wn.none rfl) ?_
          intro w H
          refine WR.nil (WQ.any ?_)
          refine WA.done (by kernel_rfl) ?_
          exact WQ.meetP [(2, _), (4, _), (7, _)] ⟨rfl, rfl, rfl, trivial⟩ ⟨_, _, rfl, (H.pick (L' := [.blk b2 (.cells #[I n5, I n6, I n7, I n8, I n9, I n10, I n11] 23), .blk b7 (.cells #[I n41, I 0, I n38, I 0, I 0, I 0, I 0] 23)]) (by repeat (first | exact Pick.nil | refine Pick.cons (by repeat (first | exact Rem.head | apply Rem.tail)) ?_))), hs14⟩
         ·
          refine WR.step (Ex.loadM H rfl hc46 Tryz.isAgg9) (Wn.none rfl) rfl rfl ?_
          refine WR.nil (WQ.any ?_)
          refine WA.seq (fuel := 0) [3, 7, 8, 10] rfl (by kernel_rfl) ?_
          refine WR.call H (R_digitsOf_ct hx39) rfl trivial (Wn.none rfl) rfl ?_
          intro v44 M w H hle hR
          replace hs14 := hs14.mono hle
          replace hc42 := hc42.mono hle
          replace hc46 := hc46.mono hle
          obtain rfl := hR
          refine WR.call H (R_digitsOf_ct hx42) rfl trivial (Wn.none rfl) rfl ?_
          intro v48 M w H hle hR
          replace hs14 := hs14.mono hle
          replace hc42 := hc42.mono hle
          replace hc46 := hc46.mono hle
          obtain rfl := hR
          refine WR.step (Ex.build [I n41, I 0, I n38, I 0, I 0, I 0, I 0] Tryz.underlying23 Tryz.zeroValue23 (xplaces23 Tryz.underlying23) rfl (by kernel_rfl)) (Wn.none rfl) rfl rfl ?_
          refine WR.store [_, _, _, _, _, _, _] H rfl rfl rfl (by repeat (first | exact Upd.head | apply Upd.tail)) Tryz.sizeOf23 rfl (by rfl) (by rfl) (Wn.none rfl) ?_
          intro w H
          refine WR.nil (WQ.any ?_)
          refine WA.done (by kernel_rfl) ?_
          exact WQ.meetP [(2, _), (4, _), (7, _)] ⟨rfl, rfl, rfl, trivial⟩ ⟨_, _, rfl, (H.pick (L' := [.blk b2 (.cells #[I n5, I n6, I n7, I n8, I n9, I n10, I n11] 23), .blk b7 (.cells #[I n41, I 0, I n38, I 0, I 0, I 0, I 0] 23)]) (by repeat (first | exact Pick.nil | refine Pick.cons (by repeat (first | exact Rem.head | apply Rem.tail)) ?_))), hs14⟩
       ·
        refine WR.step (Ex.loadM H rfl hc46 Tryz.isAgg9) (Wn.none rfl) rfl rfl ?_
        refine WR.nil (WQ.any ?_)
        refine WA.two (i := 2) (j := 9) (by kernel_rfl) rfl rfl ?_ ?_
        ·
         refine WR.step (Ex.loadM H rfl hc42 Tryz.isAgg9) (Wn.none rfl) rfl rfl ?_
         refine WR.nil (WQ.any ?_)
         refine WA.two (i := 3) (j := 9) (by kernel_rfl) rfl rfl ?_ ?_
         ·
          refine WR.call H (R_digitsOf_ct hx39) rfl trivial (Wn.none rfl) rfl ?_
          intro v44 M w H hle hR
          replace hs14 := hs14.mono hle
          replace hc42 := hc42.mono hle
          replace hc46 := hc46.mono hle
          obtain rfl := hR
          refine WR.nil (WQ.any ?_)
          refine WA.two (i := 7) (j := 9) (by kernel_rfl) rfl rfl ?_ ?_
          ·
           refine WR.call H (R_digitsOf_ct hx42) rfl trivial (Wn.none rfl) rfl ?_
           intro v48 M w H hle hR
           replace hs14 := hs14.mono hle
           replace hc42 := hc42.mono hle
           replace hc46 := hc46.mono hle
           obtain rfl := hR
           refine WR.nil (WQ.any ?_)
           refine WA.take (i := 8) rfl (by kernel_rfl) (by kernel_rfl) (by kernel_rfl) (fun _ => Ex.build [I n41, I 0, I n38, I 0, I 0, I 0, I 0] Tryz.underlying23 Tryz.zeroValue23 (xplaces23 Tryz.underlying23) rfl (by kernel_rfl)) (Wn.none rfl) rfl rfl (fun _ _ => rfl) ?_
           refine WA.seq (fuel := 0) [9, 10] rfl (by kernel_rfl) ?_
           refine WR.alloc [_, _, _, _, _, _, _] H Tryz.zeroValue23 rfl (Wn.none rfl) rfl ?_
           intro b7 w H
           refine WR.store [_, _, _, _, _, _, _] H rfl rfl rfl (by repeat (first | exact Upd.head | apply Upd.tail)) Tryz.sizeOf23 rfl (by rfl) (by rfl) (Wn.none rfl) ?_
           intro w H
           refine WR.nil (WQ.any ?_)
           refine WA.done (by kernel_rfl) ?_
           exact WQ.meetP [(2, _), (4, _), (7, _)] ⟨rfl, rfl, rfl, trivial⟩ ⟨_, _, rfl, (H.pick (L' := [.blk b2 (.cells #[I n5, I n6, I n7, I n8, I n9, I n10, I n11] 23), .blk b7 (.cells #[I n41, I 0, I n38, I 0, I 0, I 0, I 0] 23)]) (by repeat (first | exact Pick.nil | refine Pick.cons (by repeat (first | exact Rem.head | apply Rem.tail)) ?_))), hs14⟩
          ·
           refine WR.alloc [_, _, _, _, _, _, _] H Tryz.zeroValue23 rfl (Wn.none rfl) rfl ?_
           intro b7 w H
           refine WR.nil (WQ.any ?_)
           refine WA.seq (fuel := 0) [7, 8, 10] rfl (by kernel_rfl) ?_
           refine WR.call H (R_digitsOf_ct hx42) rfl trivial (Wn.none rfl) rfl ?_
           intro v48 M w H hle hR
           replace hs14 := hs14.mono hle
           replace hc42 := hc42.mono hle
           replace hc46 := hc46.mono hle
           obtain rfl := hR
           refine WR.step (Ex.build [I n41, I 0, I n38, I 0, I 0, I 0, I 0] Tryz.underlying23 Tryz.zeroValue23 (xplaces23 Tryz.underlying23) rfl (by kernel_rfl)) (Wn.none rfl) rfl rfl ?_
           refine WR.store [_, _, _, _, _, _, _] H rfl rfl rfl (by repeat (first | exact Upd.head | apply Upd.tail)) Tryz.sizeOf23 rfl (by rfl) (by rfl) (Wn.none rfl) ?_
           intro w H
           refine WR.nil (WQ.any ?_)
           refine WA.done (by kernel_rfl) ?_
           exact WQ.meetP [(2, _), (4, _), (7, _)] ⟨rfl, rfl, rfl, trivial⟩ ⟨_, _, rfl, (H.pick (L' := [.blk b2 (.cells #[I n5, I n6, I n7, I n8, I n9, I n10, I n11] 23), .blk b7 (.cells #[I n41, I 0, I n38, I 0, I 0, I 0, I 0] 23)]) (by repeat (first | exact Pick.nil | refine Pick.cons (by repeat (first | exact Rem.head | apply Rem.tail)) ?_))), hs14⟩
         ·
          refine WR.alloc [_, _, _, _, _, _, _] H Tryz.zeroValue23 rfl (Wn.none rfl) rfl ?_
          intro b7 w H
          refine WR.nil (WQ.any ?_)
          refine WA.seq (fuel := 0) [3, 7, 8, 10] rfl (by kernel_rfl) ?_
          refine WR.call H (R_digitsOf_ct hx39) rfl trivial (Wn.none rfl) rfl ?_
          intro v44 M w H hle hR
          replace hs14 := hs14.mono hle
          replace hc42 := hc42.mono hle
          replace hc46 := hc46.mono hle
          obtain rfl := hR
          refine WR.call H (R_digitsOf_ct hx42) rfl trivial (Wn.none rfl) rfl ?_
          intro v48 M w H hle hR
          replace hs14 := hs14.mono hle
          replace hc42 := hc42.mono hle
          replace hc46 := hc46.mono hle
          obtain rfl := hR
          refine WR.step (Ex.build [I n41, I 0, I n38, I 0, I 0, I 0, I 0] Tryz.underlying23 Tryz.zeroValue23 (xplaces23 Tryz.underlying23) rfl (by kernel_rfl)) (Wn.none rfl) rfl rfl ?_
          refine WR.store [_, _, _, _, _, _, _] H rfl rfl rfl (by repeat (first | exact Upd.head | apply Upd.tail)) Tryz.sizeOf23 rfl (by rfl) (by rfl) (Wn.none rfl) ?_
          intro w H
          refine WR.nil (WQ.any ?_)
          refine WA.done (by kernel_rfl) ?_
          exact WQ.meetP [(2, _), (4, _), (7, _)] ⟨rfl, rfl, rfl, trivial⟩ ⟨_, _, rfl, (H.pick (L' := [.blk b2 (.cells #[I n5, I n6, I n7, I n8, I n9, I n10, I n11] 23), .blk b7 (.cells #[I n41, I 0, I n38, I 0, I 0, I 0, I 0] 23)]) (by repeat (first | exact Pick.nil | refine Pick.cons (by repeat (first | exact Rem.head | apply Rem.tail)) ?_))), hs14⟩
        ·
         refine WR.alloc [_, _, _, _, _, _, _] H Tryz.zeroValue23 rfl (Wn.none rfl) rfl ?_
         intro b7 w H
         refine WR.nil (WQ.any ?_)
         refine WA.seq (fuel := 0) [2, 3, 7, 8, 10] rfl (by kernel_rfl) ?_
         refine WR.step (Ex.loadM H rfl hc42 Tryz.isAgg9) (Wn.none rfl) rfl rfl ?_
         refine WR.call H (R_digitsOf_ct hx39) rfl trivial (Wn.none rfl) rfl ?_
         intro v44 M w H hle hR
         replace hs14 := hs14.mono hle
         replace hc42 := hc42.mono hle
         replace hc46 := hc46.mono hle
         obtain rfl := hR
         refine WR.call H (R_digitsOf_ct hx42) rfl trivial (Wn.none rfl) rfl ?_
         intro v48 M w H hle hR
         replace hs14 := hs14.mono hle
         replace hc42 := hc42.mono hle
         replace hc46 := hc46.mono hle
         obtain rfl := hR
         refine WR.step (Ex.build [I n41, I 0, I n38, I 0, I 0, I 0, I 0] Tryz.underlying23 Tryz.zeroValue23 (xplaces23 Tryz.underlying23) rfl (by kernel_rfl)) (Wn.none rfl) rfl rfl ?_
         refine WR.store [_, _, _, _, _, _, _] H rfl rfl rfl (by repeat (first | exact Upd.head | apply Upd.tail)) Tryz.sizeOf23 rfl (by rfl) (by rfl) (Wn.none rfl) ?_
         intro w H
         refine WR.nil (WQ.any ?_)
         refine WA.done (by kernel_rfl) ?_
         exact WQ.meetP [(2, _), (4, _), (7, _)] ⟨rfl, rfl, rfl, trivial⟩ ⟨_, _, rfl, (H.pick (L' := [.blk b2 (.cells #[I n5, I n6, I n7, I n8, I n9, I n10, I n11] 23), .blk b7 (.cells #[I n41, I 0, I n38, I 0, I 0, I 0, I 0] 23)]) (by repeat (first | exact Pick.nil | refine Pick.cons (by repeat (first | exact Rem.head | apply Rem.tail)) ?_))), hs14⟩
       ·
        refine WR.alloc [_, _, _, _, _, _, _] H Tryz.zeroValue23 rfl (Wn.none rfl) rfl ?_
        intro b7 w H
        refine WR.nil (WQ.any ?_)
        refine WA.takeM (i := 2) [6] rfl (by kernel_rfl) (by kernel_rfl) (by kernel_rfl) (Ex.loadM H rfl hc42 Tryz.isAgg9) (Wn.none rfl) rfl rfl (fun _ _ => rfl) ?_
        refine WA.two (i := 3) (j := 6) (by kernel_rfl) rfl rfl ?_ ?_
        ·
         refine WR.call H (R_digitsOf_ct hx39) rfl trivial (Wn.none rfl) rfl ?_
         intro v44 M w H hle hR
         replace hs14 := hs14.mono hle
         replace hc42 := hc42.mono hle
         replace hc46 := hc46.mono hle
         obtain rfl := hR
         refine WR.nil (WQ.any ?_)
         refine WA.seq (fuel := 0) [6, 7, 8, 10] rfl (by kernel_rfl) ?_
         refine WR.step (Ex.loadM H rfl hc46 Tryz.isAgg9) (Wn.none rfl) rfl rfl ?_
         refine WR.call H (R_digitsOf_ct hx42) rfl trivial (Wn.none rfl) rfl ?_
         intro v48 M w H hle hR
         replace hs14 := hs14.mono hle
         replace hc42 := hc42.mono hle
         replace hc46 := hc46.mono hle
         obtain rfl := hR
         refine WR.step (Ex.build [I n41, I 0, I n38, I 0, I 0, I 0, I 0] Tryz.underlying23 Tryz.zeroValue23 (xplaces23 Tryz.underlying23) rfl (by kernel_rfl)) (Wn.none rfl) rfl rfl ?_
         refine WR.store [_, _, _, _, _, _, _] H rfl rfl rfl (by repeat (first | exact Upd.head | apply Upd.tail)) Tryz.sizeOf23 rfl (by rfl) (by rfl) (Wn.none rfl) ?_
         intro w H
         refine WR.nil (WQ.any ?_)
         refine WA.done (by kernel_rfl) ?_
         exact WQ.meetP [(2, _), (4, _), (7, _)] ⟨rfl, rfl, rfl, trivial⟩ ⟨_, _, rfl, (H.pick (L' := [.blk b2 (.cells #[I n5, I n6, I n7, I n8, I n9, I n10, I n11] 23), .blk b7 (.cells #[I n41, I 0, I n38, I 0, I 0, I 0, I 0] 23)]) (by repeat (first | exact Pick.nil | refine Pick.cons (by repeat (first | exact Rem.head | apply Rem.tail)) ?_))), hs14⟩
        ·
         refine WR.step (Ex.loadM H rfl hc46 Tryz.isAgg9) (Wn.none rfl) rfl rfl ?_
         refine WR.nil (WQ.any ?_)
         refine WA.seq (fuel := 0) [3, 7, 8, 10] rfl (by kernel_rfl) ?_
         refine WR.call H (R_digitsOf_ct hx39) rfl trivial (Wn.none rfl) rfl ?_
         intro v44 M w H hle hR
         replace hs14 := hs14.mono hle
         replace hc42 := hc42.mono hle
         replace hc46 := hc46.mono hle
         obtain rfl := hR
         refine WR.call H (R_digitsOf_ct hx42) rfl trivial (Wn.none rfl) rfl ?_
         intro v48 M w H hle hR
         replace hs14 := hs14.mono hle
         replace hc42 := hc42.mono hle
         replace hc46 := hc46.mono hle
         obtain rfl := hR
         refine WR.step (Ex.build [I n41, I 0, I n38, I 0, I 0, I 0, I 0] Tryz.underlying23 Tryz.zeroValue23 (xplaces23 Tryz.underlying23) rfl (by kernel_rfl)) (Wn.none rfl) rfl rfl ?_
         refine WR.store [_, _, _, _, _, _, _] H rfl rfl rfl (by repeat (first | exact Upd.head | apply Upd.tail)) Tryz.sizeOf23 rfl (by rfl) (by rfl) (Wn.none rfl) ?_
         intro w H
         refine WR.nil (WQ.any ?_)
         refine WA.done (by kernel_rfl) ?_
         exact WQ.meetP [(2, _), (4, _), (7, _)] ⟨rfl, rfl, rfl, trivial⟩ ⟨_, _, rfl, (H.pick (L' := [.blk b2 (.cells #[I n5, I n6, I n7, I n8, I n9, I n10, I n11] 23), .blk b7 (.cells #[I n41, I 0, I n38, I 0, I 0, I 0, I 0] 23)]) (by repeat (first | exact Pick.nil | refine Pick.cons (by repeat (first | exact Rem.head | apply Rem.tail)) ?_))), hs14⟩
      ·
       refine WR.alloc [_, _, _, _, _, _, _] H Tryz.zeroValue23 rfl (Wn.none rfl) rfl ?_
       intro b7 w H
       refine WR.nil (WQ.any ?_)
       refine WA.two (i := 2) (j := 5) (by kernel_rfl) rfl rfl ?_ ?_
       ·
        refine WR.step (Ex.loadM H rfl hc42 Tryz.isAgg9) (Wn.none rfl) rfl rfl ?_
        refine WR.nil (WQ.any ?_)
        refine WA.two (i := 3) (j := 5) (by kernel_rfl) rfl rfl ?_ ?_
        ·
         refine WR.call H (R_digitsOf_ct hx39) rfl trivial (Wn.none rfl) rfl ?_
         intro v44 M w H hle hR
         replace hs14 := hs14.mono hle
         replace hc42 := hc42.mono hle
         obtain rfl := hR
         refine WR.nil (WQ.any ?_)
         refine WA.seq (fuel := 0) [5, 6, 7, 8, 10] rfl (by kernel_rfl) ?_
         refine WR.idxC Tryz.underlying59 Tryz.sizeOf9 (hs14) rfl rfl hxa40 (Wn.none rfl) rfl ?_
         intro p46 hc46
         refine WR.step (Ex.loadM H rfl hc46 Tryz.isAgg9) (Wn.none rfl) rfl rfl ?_
         refine WR.call H (R_digitsOf_ct hx42) rfl trivial (Wn.none rfl) rfl ?_
         intro v48 M w H hle hR
         replace hs14 := hs14.mono hle
         replace hc42 := hc42.mono hle
         replace hc46 := hc46.mono hle
         obtain rfl := hR
         refine WR.step (Ex.build [I n41, I 0, I n38, I 0, I 0, I 0, I 0] Tryz.underlying23 Tryz.zeroValue23 (xplaces23 Tryz.underlying23) rfl (by kernel_rfl)) (Wn.none rfl) rfl rfl ?_
         refine WR.store [_, _, _, _, _, _, _] H rfl rfl rfl (by repeat (first | exact Upd.head | apply Upd.tail)) Tryz.sizeOf23 rfl (by rfl) (by rfl) (Wn.none rfl) ?_
         intro w H
         refine WR.nil (WQ.any ?_)
         refine WA.done (by kernel_rfl) ?_
         exact WQ.meetP [(2, _), (4, _), (7, _)] ⟨rfl, rfl, rfl, trivial⟩ ⟨_, _, rfl, (H.pick (L' := [.blk b2 (.cells #[I n5, I n6, I n7, I n8, I n9, I n10, I n11] 23), .blk b7 (.cells #[I n41, I 0, I n38, I 0, I 0, I 0, I 0] 23)]) (by repeat (first | exact Pick.nil | refine Pick.cons (by repeat (first | exact Rem.head | apply Rem.tail)) ?_))), hs14⟩
        ·
         refine WR.idxC Tryz.underlying59 Tryz.sizeOf9 (hs14) rfl rfl hxa40 (Wn.none rfl) rfl ?_
         intro p46 hc46
         refine WR.nil (WQ.any ?_)
         refine WA.two (i := 3) (j := 6) (by kernel_rfl) rfl rfl ?_ ?_
         ·
          refine WR.call H (R_digitsOf_ct hx39) rfl trivial (Wn.none rfl) rfl ?_
          intro v44 M w H hle hR
          replace hs14 := hs14.mono hle
          replace hc42 := hc42.mono hle
          replace hc46 := hc46.mono hle
          obtain rfl := hR
          refine WR.nil (WQ.any ?_)
          refine WA.seq (fuel := 0) [6, 7, 8, 10] rfl (by kernel_rfl) ?_
          refine WR.step (Ex.loadM H rfl hc46 Tryz.isAgg9) (Wn.none rfl) rfl rfl ?_
          refine WR.call H (R_digitsOf_ct hx42) rfl trivial (Wn.none rfl) rfl ?_
          intro v48 M w H hle hR
          replace hs14 := hs14.mono hle
          replace hc42 := hc42.mono hle
          replace hc46 := hc46.mono hle
          obtain rfl := hR
          refine WR.step (Ex.build [I n41, I 0, I n38, I 0, I 0, I 0, I 0] Tryz.underlying23 Tryz.zeroValue23 (xplaces23 Tryz.underlying23) rfl (by kernel_rfl)) (Wn.none rfl) rfl rfl ?_
          refine WR.store [_, _, _, _, _, _, _] H rfl rfl rfl (by repeat (first | exact Upd.head | apply Upd.tail)) Tryz.sizeOf23 rfl (by rfl) (by rfl) (Wn.none rfl) ?_
          intro w H
          refine WR.nil (WQ.any ?_)
          refine WA.done (by kernel_rfl) ?_
          exact WQ.meetP [(2, _), (4, _), (7, _)] ⟨rfl, rfl, rfl, trivial⟩ ⟨_, _, rfl, (H.pick (L' := [.blk b2 (.cells #[I n5, I n6, I n7, I n8, I n9, I n10, I n11] 23), .blk b7 (.cells #[I n41, I 0, I n38, I 0, I 0, I 0, I 0] 23)]) (by repeat (first | exact Pick.nil | refine Pick.cons (by repeat (first | exact Rem.head | apply Rem.tail)) ?_))), hs14⟩
         ·
          refine WR.step (Ex.loadM H rfl hc46 Tryz.isAgg9) (Wn.none rfl) rfl rfl ?_
          refine WR.nil (WQ.any ?_)
          refine WA.seq (fuel := 0) [3, 7, 8, 10] rfl (by kernel_rfl) ?_
          refine WR.call H (R_digitsOf_ct hx39) rfl trivial (Wn.none rfl) rfl ?_
          intro v44 M w H hle hR
          replace hs14 := hs14.mono hle
          replace hc42 := hc42.mono hle
          replace hc46 := hc46.mono hle
          obtain rfl := hR
          refine WR.call H (R_digitsOf_ct hx42) rfl trivial (Wn.none rfl) rfl ?_
          intro v48 M w H hle hR
          replace hs14 := hs14.mono hle
          replace hc42 := hc42.mono hle
          replace hc46 := hc46.mono hle
          obtain rfl := hR
          refine WR.step (Ex.build [I n41, I 0, I n38, I 0, I 0, I 0, I 0] Tryz.underlying23 Tryz.zeroValue23 (xplaces23 Tryz.underlying23) rfl (by kernel_rfl)) (Wn.none rfl) rfl rfl ?_
          refine WR.store [_, _, _, _, _, _, _] H rfl rfl rfl (by repeat (first | exact Upd.head | apply Upd.tail)) Tryz.sizeOf23 rfl (by rfl) (by rfl) (Wn.none rfl) ?_
          intro w H
          refine WR.nil (WQ.any ?_)
          refine WA.done (by kernel_rfl) ?_
          exact WQ.meetP [(2, _), (4, _), (7, _)] ⟨rfl, rfl, rfl, trivial⟩ ⟨_, _, rfl, (H.pick (L' := [.blk b2 (.cells #[I n5, I n6, I n7, I n8, I n9, I n10, I n11] 23), .blk b7 (.cells #[I n41, I 0, I n38, I 0, I 0, I 0, I 0] 23)]) (by repeat (first | exact Pick.nil | refine Pick.cons (by repeat (first | exact Rem.head | apply Rem.tail)) ?_))), hs14⟩
       ·
        refine WR.idxC Tryz.underlying59 Tryz.sizeOf9 (hs14) rfl rfl hxa40 (Wn.none rfl) rfl ?_
        intro p46 hc46
        refine WR.nil (WQ.any ?_)
        refine WA.takeM (i := 2) [6] rfl (by kernel_rfl) (by kernel_rfl) (by kernel_rfl) (Ex.loadM H rfl hc42 Tryz.isAgg9) (Wn.none rfl) rfl rfl (fun _ _ => rfl) ?_
        refine WA.two (i := 3) (j := 6) (by kernel_rfl) rfl rfl ?_ ?_
        ·
         refine WR.call H (R_digitsOf_ct hx39) rfl trivial (Wn.none rfl) rfl ?_
         intro v44 M w H hle hR
         replace hs14 := hs14.mono hle
         replace hc42 := hc42.mono hle
         replace hc46 := hc46.mono hle
         obtain rfl := hR
         refine WR.nil (WQ.any ?_)
         refine WA.seq (fuel := 0) [6, 7, 8, 10] rfl (by kernel_rfl) ?_
         refine WR.step (Ex.loadM H rfl hc46 Tryz.isAgg9) (Wn.none rfl) rfl rfl ?_
         refine WR.call H (R_digitsOf_ct hx42) rfl trivial (Wn.none rfl) rfl ?_
         intro v48 M w H hle hR
         replace hs14 := hs14.mono hle
         replace hc42 := hc42.mono hle
         replace hc46 := hc46.mono hle
         obtain rfl := hR
         refine WR.step (Ex.build [I n41, I 0, I n38, I 0, I 0, I 0, I 0] Tryz.underlying23 Tryz.zeroValue23 (xplaces23 Tryz.underlying23) rfl (by kernel_rfl)) (Wn.none rfl) rfl rfl ?_
         refine WR.store [_, _, _, _, _, _, _] H rfl rfl rfl (by repeat (first | exact Upd.head | apply Upd.tail)) Tryz.sizeOf23 rfl (by rfl) (by rfl) (Wn.none rfl) ?_
         intro w H
         refine WR.nil (WQ.any ?_)
         refine WA.done (by kernel_rfl) ?_
         exact WQ.meetP [(2, _), (4, _), (7, _)] ⟨rfl, rfl, rfl, trivial⟩ ⟨_, _, rfl, (H.pick (L' := [.blk b2 (.cells #[I n5, I n6, I n7, I n8, I n9, I n10, I n11] 23), .blk b7 (.cells #[I n41, I 0, I n38, I 0, I 0, I 0, I 0] 23)]) (by repeat (first | exact Pick.nil | refine Pick.cons (by repeat (first | exact Rem.head | apply Rem.tail)) ?_))), hs14⟩
        ·
         refine WR.step (Ex.loadM H rfl hc46 Tryz.isAgg9) (Wn.none rfl) rfl rfl ?_
         refine WR.nil (WQ.any ?_)
         refine WA.seq (fuel := 0) [3, 7, 8, 10] rfl (by kernel_rfl) ?_
         refine WR.call H (R_digitsOf_ct hx39) rfl trivial (Wn.none rfl) rfl ?_
         intro v44 M w H hle hR
         replace hs14 := hs14.mono hle
         replace hc42 := hc42.mono hle
         replace hc46 := hc46.mono hle
         obtain rfl := hR
         refine WR.call H (R_digitsOf_ct hx42) rfl trivial (Wn.none rfl) rfl ?_
         intro v48 M w H hle hR
         replace hs14 := hs14.mono hle
         replace hc42 := hc42.mono hle
         replace hc46 := hc46.mono hle
         obtain rfl := hR
         refine WR.step (Ex.build [I n41, I 0, I n38, I 0, I 0, I 0, I 0] Tryz.underlying23 Tryz.zeroValue23 (xplaces23 Tryz.underlying23) rfl (by kernel_rfl)) (Wn.none rfl) rfl rfl ?_
         refine WR.store [_, _, _, _, _, _, _] H rfl rfl rfl (by repeat (first | exact Upd.head | apply Upd.tail)) Tryz.sizeOf23 rfl (by rfl) (by rfl) (Wn.none rfl) ?_
         intro w H
         refine WR.nil (WQ.any ?_)
         refine WA.done (by kernel_rfl) ?_
         exact WQ.meetP [(2, _), (4, _), (7, _)] ⟨rfl, rfl, rfl, trivial⟩ ⟨_, _, rfl, (H.pick (L' := [.blk b2 (.cells #[I n5, I n6, I n7, I n8, I n9, I n10, I n11] 23), .blk b7 (.cells #[I n41, I 0, I n38, I 0, I 0, I 0, I 0] 23)]) (by repeat (first | exact Pick.nil | refine Pick.cons (by repeat (first | exact Rem.head | apply Rem.tail)) ?_))), hs14⟩
     ·
      refine WR.idxC Tryz.underlying59 Tryz.sizeOf9 (hs14) rfl rfl hxa40 (Wn.none rfl) rfl ?_
      intro p46 hc46
      refine WR.nil (WQ.any ?_)
      refine WA.three (i := 1) (j := 6) (k := 9) (by kernel_rfl) rfl rfl rfl ?_ ?_ ?_
      ·
       refine WR.idxC Tryz.underlying59 Tryz.sizeOf9 (hs14) rfl rfl hxa37 (Wn.none rfl) rfl ?_
       intro p42 hc42
       refine WR.nil (WQ.any ?_)
       refine WA.three (i := 2) (j := 6) (k := 9) (by kernel_rfl) rfl rfl rfl ?_ ?_ ?_
       ·
        refine WR.step (Ex.loadM H rfl hc42 Tryz.isAgg9) (Wn.none rfl) rfl rfl ?_
        refine WR.nil (WQ.any ?_)
        refine WA.three (i := 3) (j := 6) (k := 9) (by kernel_rfl) rfl rfl rfl ?_ ?_ ?_
        ·
         refine WR.call H (R_digitsOf_ct hx39) rfl trivial (Wn.none rfl) rfl ?_
         intro v44 M w H hle hR
         replace hs14 := hs14.mono hle
         replace hc46 := hc46.mono hle
         replace hc42 := hc42.mono hle
         obtain rfl := hR
         refine WR.nil (WQ.any ?_)
         refine WA.two (i := 6) (j := 9) (by kernel_rfl) rfl rfl ?_ ?_
         ·
          refine WR.step (Ex.loadM H rfl hc46 Tryz.isAgg9) (Wn.none rfl) rfl rfl ?_
          refine WR.nil (WQ.any ?_)
          refine WA.two (i := 7) (j := 9) (by kernel_rfl) rfl rfl ?_ ?_
          ·
           refine WR.call H (R_digitsOf_ct hx42) rfl trivial (Wn.none rfl) rfl ?_
           intro v48 M w H hle hR
           replace hs14 := hs14.mono hle
           replace hc46 := hc46.mono hle
           replace hc42 := hc42.mono hle
           obtain rfl := hR
           refine WR.nil (WQ.any ?_)
           refine WA.take (i := 8) rfl (by kernel_rfl) (by kernel_rfl) (by kernel_rfl) (fun _ => Ex.build [I n41, I 0, I n38, I 0, I 0, I 0, I 0] Tryz.underlying23 Tryz.zeroValue23 (xplaces23 Tryz.underlying23) rfl (by kernel_rfl)) (Wn.none rfl) rfl rfl (fun _ _ => rfl) ?_
           refine WA.seq (fuel := 0) [9, 10] rfl (by kernel_rfl) ?_
           refine WR.alloc [_, _, _, _, _, _, _] H Tryz.zeroValue23 rfl (Wn.none rfl) rfl ?_
           intro b7 w H
           refine WR.store [_, _, _, _, _, _, _] H rfl rfl rfl (by repeat (first | exact Upd.head | apply Upd.tail)) Tryz.sizeOf23 rfl (by rfl) (by rfl) (Wn.none rfl) ?_
           intro w H
           refine WR.nil (WQ.any ?_)
           refine WA.done (by kernel_rfl) ?_
           exact WQ.meetP [(2, _), (4, _), (7, _)] ⟨rfl, rfl, rfl, trivial⟩ ⟨_, _, rfl, (H.pick (L' := [.blk b2 (.cells #[I n5, I n6, I n7, I n8, I n9, I n10, I n11] 23), .blk b7 (.cells #[I n41, I 0, I n38, I 0, I 0, I 0, I 0] 23)]) (by repeat (first | exact Pick.nil | refine Pick.cons (by repeat (first | exact Rem.head | apply Rem.tail)) ?_))), hs14⟩
          ·
           refine WR.alloc [_, _, _, _, _, _, _] H Tryz.zeroValue23 rfl (Wn.none rfl) rfl ?_
           intro b7 w H
           refine WR.nil (WQ.any ?_)
           refine WA.seq (fuel := 0) [7, 8, 10] rfl (by kernel_rfl) ?_
           refine WR.call H (R_digitsOf_ct hx42) rfl trivial (Wn.none rfl) rfl ?_
           intro v48 M w H hle hR
           replace hs14 := hs14.mono hle
           replace hc46 := hc46.mono hle
           replace hc42 := hc42.mono hle
           obtain rfl := hR
           refine WR.step (Ex.build [I n41, I 0, I n38, I 0, I 0, I 0, I 0] Tryz.underlying23 Tryz.zeroValue23 (xplaces23 Tryz.underlying23) rfl (by kernel_rfl)) (Wn.none rfl) rfl rfl ?_
           refine WR.store [_, _, _, _, _, _, _] H rfl rfl rfl (by repeat (first | exact Upd.head | apply Upd.tail)) Tryz.sizeOf23 rfl (by rfl) (by rfl) (Wn.none rfl) ?_
           intro w H
           refine WR.nil (WQ.any ?_)
           refine WA.done (by kernel_rfl) ?_
           exact WQ.meetP [(2, _), (4, _), (7, _)] ⟨rfl, rfl, rfl, trivial⟩ ⟨_, _, rfl, (H.pick (L' := [.blk b2 (.cells #[I n5, I n6, I n7, I n8, I n9, I n10, I n11] 23), .blk b7 (.cells #[I n41, I 0, I n38, I 0, I 0, I 0, I 0] 23)]) (by repeat (first | exact Pick.nil | refine Pick.cons (by repeat (first | exact Rem.head | apply Rem.tail)) ?_))), hs14⟩
         ·
          refine WR.alloc [_, _, _, _, _, _, _] H Tryz.zeroValue23 rfl (Wn.none rfl) rfl ?_
          intro b7 w H
          refine WR.nil (WQ.any ?_)
          refine WA.seq (fuel := 0) [6, 7, 8, 10] rfl (by kernel_rfl) ?_
          refine WR.step (Ex.loadM H rfl hc46 Tryz.isAgg9) (Wn.none rfl) rfl rfl ?_
          refine WR.call H (R_digitsOf_ct hx42) rfl trivial (Wn.none rfl) rfl ?_
          intro v48 M w H hle hR
          replace hs14 := hs14.mono hle
          replace hc46 := hc46.mono hle
          replace hc42 := hc42.mono hle
          obtain rfl := hR
          refine WR.step (Ex.build [I n41, I 0, I n38, I 0, I 0, I 0, I 0] Tryz.underlying23 Tryz.zeroValue23 (xplaces23 Tryz.underlying23) rfl (by kernel_rfl)) (Wn.none rfl) rfl rfl ?_
          refine WR.store [_, _, _, _, _, _, _] H rfl rfl rfl (by repeat (first | exact Upd.head | apply Upd.tail)) Tryz.sizeOf23 rfl (by rfl) (by rfl) (Wn.none rfl) ?_
          intro w H
          refine WR.nil (WQ.any ?_)
          refine WA.done (by kernel_rfl) ?_
          exact WQ.meetP [(2, _), (4, _), (7, _)] ⟨rfl, rfl, rfl, trivial⟩ ⟨_, _, rfl, (H.pick (L' := [.blk b2 (.cells #[I n5, I n6, I n7, I n8, I n9, I n10, I n11] 23), .blk b7 (.cells #[I n41, I 0, I n38, I 0, I 0, I 0, I 0] 23)]) (by repeat (first | exact Pick.nil | refine Pick.cons (by repeat (first | exact Rem.head | apply Rem.tail)) ?_))), hs14⟩
        ·
         refine WR.step (Ex.loadM H rfl hc46 Tryz.isAgg9) (Wn.none rfl) rfl rfl ?_
         refine WR.nil (WQ.any ?_)
         refine WA.two (i := 3) (j := 9) (by kernel_rfl) rfl rfl ?_ ?_
         ·
          refine WR.call H (R_digitsOf_ct hx39) rfl trivial (Wn.none rfl) rfl ?_
          intro v44 M w H hle hR
          replace hs14 := hs14.mono hle
          replace hc46 := hc46.mono hle
          replace hc42 := hc42.mono hle
          obtain rfl := hR
          refine WR.nil (WQ.any ?_)
          refine WA.two (i := 7) (j := 9) (by kernel_rfl) rfl rfl ?_ ?_
          ·
           refine WR.call H (R_digitsOf_ct hx42) rfl trivial (Wn.none rfl) rfl ?_
           intro v48 M w H hle hR
           replace hs14 := hs14.mono hle
           replace hc46 := hc46.mono hle
           replace hc42 := hc42.mono hle
           obtain rfl := hR
           refine WR.nil (WQ.any ?_)
           refine WA.take (i := 8) rfl (by kernel_rfl) (by kernel_rfl) (by kernel_rfl) (fun _ => Ex.build [I n41, I 0, I n38, I 0, I 0, I 0, I 0] Tryz.underlying23 Tryz.zeroValue23 (xplaces23 Tryz.underlying23) rfl (by kernel_rfl)) (Wn.none rfl) rfl rfl (fun _ _ => rfl) ?_
           refine WA.seq (fuel := 0) [9, 10] rfl (by kernel_rfl) ?_
           refine WR.alloc [_, _, _, _, _, _, _] H Tryz.zeroValue23 rfl (Wn.none rfl) rfl ?_
           intro b7 w H
           refine WR.store [_, _, _, _, _, _, _] H rfl rfl rfl (by repeat (first | exact Upd.head | apply Upd.tail)) Tryz.sizeOf23 rfl (by rfl) (by rfl) (Wn.none rfl) ?_
           intro w H
           refine WR.nil (WQ.any ?_)
           refine WA.done (by kernel_rfl) ?_
           exact WQ.meetP [(2, _), (4, _), (7, _)] ⟨rfl, rfl, rfl, trivial⟩ ⟨_, _, rfl, (H.pick (L' := [.blk b2 (.cells #[I n5, I n6, I n7, I n8, I n9, I n10, I n11] 23), .blk b7 (.cells #[I n41, I 0, I n38, I 0, I 0, I 0, I 0] 23)]) (by repeat (first | exact Pick.nil | refine Pick.cons (by repeat (first | exact Rem.head | apply Rem.tail)) ?_))), hs14⟩
          ·
           refine WR.alloc [_, _, _, _, _, _, _] H Tryz.zeroValue23 rfl (Wn.none rfl) rfl ?_
           intro b7 w H
           refine WR.nil (WQ.any ?_)
           refine WA.seq (fuel := 0) [7, 8, 10] rfl (by kernel_rfl) ?_
           refine WR.call H (R_digitsOf_ct hx42) rfl trivial (Wn.none rfl) rfl ?_
           intro v48 M w H hle hR
           replace hs14 := hs14.mono hle
           replace hc46 := hc46.mono hle
           replace hc42 := hc42.mono hle
           obtain rfl := hR
           refine WR.step (Ex.build [I n41, I 0, I n38, I 0, I 0, I 0, I 0] Tryz.underlying23 Tryz.zeroValue23 (xplaces23 Tryz.underlying23) rfl (by kernel_rfl)) (Wn.none rfl) rfl rfl ?_
           refine WR.store [_, _, _, _, _, _, _] H rfl rfl rfl (by repeat (first | exact Upd.head | apply Upd.tail)) Tryz.sizeOf23 rfl (by rfl) (by rfl) (Wn.none rfl) ?_
           intro w H
           refine WR.nil (WQ.any ?_)
           refine WA.done (by kernel_rfl) ?_
           exact WQ.meetP [(2, _), (4, _), (7, _)] ⟨rfl, rfl, rfl, trivial⟩ ⟨_, _, rfl, (H.pick (L' := [.blk b2 (.cells #[I n5, I n6, I n7, I n8, I n9, I n10, I n11] 23), .blk b7 (.cells #[I n41, I 0, I n38, I 0, I 0, I 0, I 0] 23)]) (by repeat (first | exact Pick.nil | refine Pick.cons (by repeat (first | exact Rem.head | apply Rem.tail)) ?_))), hs14⟩
         ·
          refine WR.alloc [_, _, _, _, _, _, _] H Tryz.zeroValue23 rfl (Wn.none rfl) rfl ?_
          intro b7 w H
          refine WR.nil (WQ.any ?_)
          refine WA.seq (fuel := 0) [3, 7, 8, 10] rfl (by kernel_rfl) ?_
          refine WR.call H (R_digitsOf_ct hx39) rfl trivial (Wn.none rfl) rfl ?_
          intro v44 M w H hle hR
          replace hs14 := hs14.mono hle
          replace hc46 := hc46.mono hle
          replace hc42 := hc42.mono hle
          obtain rfl := hR
          refine WR.call H (R_digitsOf_ct hx42) rfl trivial (Wn.none rfl) rfl ?_
          intro v48 M w H hle hR
          replace hs14 := hs14.mono hle
          replace hc46 := hc46.mono hle
          replace hc42 := hc42.mono hle
          obtain rfl := hR
          refine WR.step (Ex.build [I n41, I 0, I n38, I 0, I 0, I 0, I 0] Tryz.underlying23 Tryz.zeroValue23 (xplaces23 Tryz.underlying23) rfl (by kernel_rfl)) (Wn.none rfl) rfl rfl ?_
          refine WR.store [_, _, _, _, _, _, _] H rfl rfl rfl (by repeat (first | exact Upd.head | apply Upd.tail)) Tryz.sizeOf23 rfl (by rfl) (by rfl) (Wn.none rfl) ?_
          intro w H
          refine WR.nil (WQ.any ?_)
          refine WA.done (by kernel_rfl) ?_
          exact WQ.meetP [(2, _), (4, _), (7, _)] ⟨rfl, rfl, rfl, trivial⟩ ⟨_, _, rfl, (H.pick (L' := [.blk b2 (.cells #[I n5, I n6, I n7, I n8, I n9, I n10, I n11] 23), .blk b7 (.cells #[I n41, I 0, I n38, I 0, I 0, I 0, I 0] 23)]) (by repeat (first | exact Pick.nil | refine Pick.cons (by repeat (first | exact Rem.head | apply Rem.tail)) ?_))), hs14⟩
        ·
         refine WR.alloc [_, _, _, _, _, _, _] H Tryz.zeroValue23 rfl (Wn.none rfl) rfl ?_
         intro b7 w H
         refine WR.nil (WQ.any ?_)
         refine WA.two (i := 3) (j := 6) (by kernel_rfl) rfl rfl ?_ ?_
         ·
          refine WR.call H (R_digitsOf_ct hx39) rfl trivial (Wn.none rfl) rfl ?_
          intro v44 M w H hle hR
          replace hs14 := hs14.mono hle
          replace hc46 := hc46.mono hle
          replace hc42 := hc42.mono hle
          obtain rfl := hR
          refine WR.nil (WQ.any ?_)
          refine WA.seq (fuel := 0) [6, 7, 8, 10] rfl (by kernel_rfl) ?_
          refine WR.step (Ex.loadM H rfl hc46 Tryz.isAgg9) (Wn.none rfl) rfl rfl ?_
          refine WR.call H (R_digitsOf_ct hx42) rfl trivial (Wn.none rfl) rfl ?_
          intro v48 M w H hle hR
          replace hs14 := hs14.mono hle
          replace hc46 := hc46.mono hle
          replace hc42 := hc42.mono hle
          obtain rfl := hR
          refine WR.step (Ex.build [I n41, I 0, I n38, I 0, I 0, I 0, I 0] Tryz.underlying23 Tryz.zeroValue23 (xplaces23 Tryz.underlying23) rfl (by kernel_rfl)) (Wn.none rfl) rfl rfl ?_
          refine WR.store [_, _, _, _, _, _, _] H rfl rfl rfl (by repeat (first | exact Upd.head | apply Upd.tail)) Tryz.sizeOf23 rfl (by rfl) (by rfl) (Wn.none rfl) ?_
          intro w H
          refine WR.nil (WQ.any ?_)
          refine WA.done (by kernel_rfl) ?_
          exact WQ.meetP [(2, _), (4, _), (7, _)] ⟨rfl, rfl, rfl, trivial⟩ ⟨_, _, rfl, (H.pick (L' := [.blk b2 (.cells #[I n5, I n6, I n7, I n8, I n9, I n10, I n11] 23), .blk b7 (.cells #[I n41, I 0, I n38, I 0, I 0, I 0, I 0] 23)]) (by repeat (first | exact Pick.nil | refine Pick.cons (by repeat (first | exact Rem.head | apply Rem.tail)) ?_))), hs14⟩
         ·
          refine WR.step (Ex.loadM H rfl hc46 Tryz.isAgg9) (Wn.none rfl) rfl rfl ?_
          refine WR.nil (WQ.any ?_)
          refine WA.seq (fuel := 0) [3, 7, 8, 10] rfl (by kernel_rfl) ?_
          refine WR.call H (R_digitsOf_ct hx39) rfl trivial (Wn.none rfl) rfl ?_
          intro v44 M w H hle hR
          replace hs14 := hs14.mono hle
          replace hc46 := hc46.mono hle
          replace hc42 := hc42.mono hle
          obtain rfl := hR
          refine WR.call H (R_digitsOf_ct hx42) rfl trivial (Wn.none rfl) rfl ?_
          intro v48 M w H hle hR
          replace hs14 := hs14.mono hle
          replace hc46 := hc46.mono hle
          replace hc42 := hc42.mono hle
          obtain rfl := hR
          refine WR.step (Ex.build [I n41, I 0, I n38, I 0, I 0, I 0, I 0] Tryz.underlying23 Tryz.zeroValue23 (xplaces23 Tryz.underlying23) rfl (by kernel_rfl)) (Wn.none rfl) rfl rfl ?_
          refine WR.store [_, _, _, _, _, _, _] H rfl rfl rfl (by repeat (first | exact Upd.head | apply Upd.tail)) Tryz.sizeOf23 rfl (by rfl) (by rfl) (Wn.none rfl) ?_
          intro w H
          refine WR.nil (WQ.any ?_)
          refine WA.done (by kernel_rfl) ?_
          exact WQ.meetP [(2, _), (4, _), (7, _)] ⟨rfl, rfl, rfl, trivial⟩ ⟨_, _, rfl, (H.pick (L' := [.blk b2 (.cells #[I n5, I n6, I n7, I n8, I n9, I n10, I n11] 23), .blk b7 (.cells #[I n41, I 0, I n38, I 0, I 0, I 0, I 0] 23)]) (by repeat (first | exact Pick.nil | refine Pick.cons (by repeat (first | exact Rem.head | apply Rem.tail)) ?_))), hs14⟩
       ·
        refine WR.step (Ex.loadM H rfl hc46 Tryz.isAgg9) (Wn.none rfl) rfl rfl ?_
        refine WR.nil (WQ.any ?_)
        refine WA.two (i := 2) (j := 9) (by kernel_rfl) rfl rfl ?_ ?_
        ·
         refine WR.step (Ex.loadM H rfl hc42 Tryz.isAgg9) (Wn.none rfl) rfl rfl ?_
         refine WR.nil (WQ.any ?_)
         refine WA.two (i := 3) (j := 9) (by kernel_rfl) rfl rfl ?_ ?_
         ·
          refine WR.call H (R_digitsOf_ct hx39) rfl trivial (Wn.none rfl) rfl ?_
          intro v44 M w H hle hR
          replace hs14 := hs14.mono hle
          replace hc46 := hc46.mono hle
          replace hc42 := hc42.mono hle
          obtain rfl := hR
          refine WR.nil (WQ.any ?_)
          refine WA.two (i := 7) (j := 9) (by kernel_rfl) rfl rfl ?_ ?_
          ·
           refine WR.call H (R_digitsOf_ct hx42) rfl trivial (Wn.none rfl) rfl ?_
           intro v48 M w H hle hR
           replace hs14 := hs14.mono hle
           replace hc46 := hc46.mono hle
           replace hc42 := hc42.mono hle
           obtain rfl := hR
           refine WR.nil (WQ.any ?_)
           refine WA.take (i := 8) rfl (by kernel_rfl) (by kernel_rfl) (by kernel_rfl) (fun _ => Ex.build [I n41, I 0, I n38, I 0, I 0, I 0, I 0] Tryz.underlying23 Tryz.zeroValue23 (xplaces23 Tryz.underlying23) rfl (by kernel_rfl)) (Wn.none rfl) rfl rfl (fun _ _ => rfl) ?_
           refine WA.seq (fuel := 0) [9, 10] rfl (by kernel_rfl) ?_
           refine WR.alloc [_, _, _, _, _, _, _] H Tryz.zeroValue23 rfl (Wn.none rfl) rfl ?_
           intro b7 w H
           refine WR.store [_, _, _, _, _, _, _] H rfl rfl rfl (by repeat (first | exact Upd.head | apply Upd.tail)) Tryz.sizeOf23 rfl (by rfl) (by rfl) (Wn.none rfl) ?_
           intro w H
           refine WR.nil (WQ.any ?_)
           refine WA.done (by kernel_rfl) ?_
           exact WQ.meetP [(2, _), (4, _), (7, _)] ⟨rfl, rfl, rfl, trivial⟩ ⟨_, _, rfl, (H.pick (L' := [.blk b2 (.cells #[I n5, I n6, I n7, I n8, I n9, I n10, I n11] 23), .blk b7 (.cells #[I n41, I 0, I n38, I 0, I 0, I 0, I 0] 23)]) (by repeat (first | exact Pick.nil | refine Pick.cons (by repeat (first | exact Rem.head | apply Rem.tail)) ?_))), hs14⟩
          ·
           refine WR.alloc [_, _, _, _, _, _, _] H Tryz.zeroValue23 rfl (Wn.none rfl) rfl ?_
           intro b7 w H
           refine WR.nil (WQ.any ?_)
           refine WA.seq (fuel := 0) [7, 8, 10] rfl (by kernel_rfl) ?_
           refine WR.call H (R_digitsOf_ct hx42) rfl trivial (Wn.none rfl) rfl ?_
           intro v48 M w H hle hR
           replace hs14 := hs14.mono hle
           replace hc46 := hc46.mono hle
           replace hc42 := hc42.mono hle
           obtain rfl := hR
           refine WR.step (Ex.build [I n41, I 0, I n38, I 0, I 0, I 0, I 0] Tryz.underlying23 Tryz.zeroValue23 (xplaces23 Tryz.underlying23) rfl (by kernel_rfl)) (Wn.none rfl) rfl rfl ?_
           refine WR.store [_, _, _, _, _, _, _] H rfl rfl rfl (by repeat (first | exact Upd.head | apply Upd.tail)) Tryz.sizeOf23 rfl (by rfl) (by rfl) (Wn.none rfl) ?_
           intro w H
           refine WR.nil (WQ.any ?_)
           refine WA.done (by kernel_rfl) ?_
           exact WQ.meetP [(2, _), (4, _), (7, _)] ⟨rfl, rfl, rfl, trivial⟩ ⟨_, _, rfl, (H.pick (L' := [.blk b2 (.cells #[I n5, I n6, I n7, I n8, I n9, I n10, I n11] 23), .blk b7 (.cells #[I n41, I 0, I n38, I 0, I 0, I 0, I 0] 23)]) (by repeat (first | exact Pick.nil | refine Pick.cons (by repeat (first | exact Rem.head | apply Rem.tail)) ?_))), hs14⟩
         ·
          refine WR.alloc [_, _, _, _, _, _, _] H Tryz.zeroValue23 rfl (Wn.none rfl) rfl ?_
          intro b7 w H
          refine WR.nil (WQ.any ?_)
          refine WA.seq (fuel := 0) [3, 7, 8, 10] rfl (by kernel_rfl) ?_
          refine WR.call H (R_digitsOf_ct hx39) rfl trivial (Wn.none rfl) rfl ?_
          intro v44 M w H hle hR
          replace hs14 := hs14.mono hle
          replace hc46 := hc46.mono hle
          replace hc42 := hc42.mono hle
          obtain rfl := hR
          refine WR.call H (R_digitsOf_ct hx42) rfl trivial (Wn.none rfl) rfl ?_
          intro v48 M w H hle hR
          replace hs14 := hs14.mono hle
          replace hc46 := hc46.mono hle
          replace hc42 := hc42.mono hle
          obtain rfl := hR
          refine WR.step (Ex.build [I n41, I 0, I n38, I 0, I 0, I 0, I 0] Tryz.underlying23 Tryz.zeroValue23 (xplaces23 Tryz.underlying23) rfl (by kernel_rfl)) (Wn.none rfl) rfl rfl ?_
          refine WR.store [_, _, _, _, _, _, _] H rfl rfl rfl (by repeat (first | exact Upd.head | apply Upd.tail)) Tryz.sizeOf23 rfl (by rfl) (by rfl) (Wn.none rfl) ?_
          intro w H
          refine WR.nil (WQ.any ?_)
          refine WA.done (by kernel_rfl) ?_
          exact WQ.meetP [(2, _), (4, _), (7, _)] ⟨rfl, rfl, rfl, trivial⟩ ⟨_, _, rfl, (H.pick (L' := [.blk b2 (.cells #[I n5, I n6, I n7, I n8, I n9, I n10, I n11] 23), .blk b7 (.cells #[I n41, I 0, I n38, I 0, I 0, I 0, I 0] 23)]) (by repeat (first | exact Pick.nil | refine Pick.cons (by repeat (first | exact Rem.head | apply Rem.tail)) ?_))), hs14⟩
        ·
         refine WR.alloc [_, _, _, _, _, _, _] H Tryz.zeroValue23 rfl (Wn.none rfl) rfl ?_
         intro b7 w H
         refine WR.nil (WQ.any ?_)
         refine WA.seq (fuel := 0) [2, 3, 7, 8, 10] rfl (by kernel_rfl) ?_
         refine WR.step (Ex.loadM H rfl hc42 Tryz.isAgg9) (Wn.none rfl) rfl rfl ?_
         refine WR.call H (R_digitsOf_ct hx39) rfl trivial (Wn.none rfl) rfl ?_
         intro v44 M w H hle hR
         replace hs14 := hs14.mono hle
         replace hc46 := hc46.mono hle
         replace hc42 := hc42.mono hle
         obtain rfl := hR
         refine WR.call H (R_digitsOf_ct hx42) rfl trivial (Wn.none rfl) rfl ?_
         intro v48 M w H hle hR
         replace hs14 := hs14.mono hle
         replace hc46 := hc46.mono hle
         replace hc42 := hc42.mono hle
         obtain rfl := hR
         refine WR.step (Ex.build [I n41, I 0, I n38, I 0, I 0, I 0, I 0] Tryz.underlying23 Tryz.zeroValue23 (xplaces23 Tryz.underlying23) rfl (by kernel_rfl)) (Wn.none rfl) rfl rfl ?_
         refine WR.store [_, _, _, _, _, _, _] H rfl rfl rfl (by repeat (first | exact Upd.head | apply Upd.tail)) Tryz.sizeOf23 rfl (by rfl) (by rfl) (Wn.none rfl) ?_
         intro w H
         refine WR.nil (WQ.any ?_)
         refine WA.done (by kernel_rfl) ?_
         exact WQ.meetP [(2, _), (4, _), (7, _)] ⟨rfl, rfl, rfl, trivial⟩ ⟨_, _, rfl, (H.pick (L' := [.blk b2 (.cells #[I n5, I n6, I n7, I n8, I n9, I n10, I n11] 23), .blk b7 (.cells #[I n41, I 0, I n38, I 0, I 0, I 0, I 0] 23)]) (by repeat (first | exact Pick.nil | refine Pick.cons (by repeat (first | exact Rem.head | apply Rem.tail)) ?_))), hs14⟩
       ·
        refine WR.alloc [_, _, _, _, _, _, _] H Tryz.zeroValue23 rfl (Wn.none rfl) rfl ?_
        intro b7 w H
        refine WR.nil (WQ.any ?_)
        refine WA.takeM (i := 2) [6] rfl (by kernel_rfl) (by kernel_rfl) (by kernel_rfl) (Ex.loadM H rfl hc42 Tryz.isAgg9) (Wn.none rfl) rfl rfl (fun _ _ => rfl) ?_
        refine WA.two (i := 3) (j := 6) (by kernel_rfl) rfl rfl ?_ ?_
        ·
         refine WR.call H (R_digitsOf_ct hx39) rfl trivial (Wn.none rfl) rfl ?_
         intro v44 M w H hle hR
         replace hs14 := hs14.mono hle
         replace hc46 := hc46.mono hle
         replace hc42 := hc42.mono hle
         obtain rfl := hR
         refine WR.nil (WQ.any ?_)
         refine WA.seq (fuel := 0) [6, 7, 8, 10] rfl (by kernel_rfl) ?_
         refine WR.step (Ex.loadM H rfl hc46 Tryz.isAgg9) (Wn.none rfl) rfl rfl ?_
         refine WR.call H (R_digitsOf_ct hx42) rfl trivial (Wn.none rfl) rfl ?_
         intro v48 M w H hle hR
         replace hs14 := hs14.mono hle
         replace hc46 := hc46.mono hle
         replace hc42 := hc42.mono hle
         obtain rfl := hR
         refine WR.step (Ex.build [I n41, I 0, I n38, I 0, I 0, I 0, I 0] Tryz.underlying23 Tryz.zeroValue23 (xplaces23 Tryz.underlying23) rfl (by kernel_rfl)) (Wn.none rfl) rfl rfl ?_
         refine WR.store [_, _, _, _, _, _, _] H rfl rfl rfl (by repeat (first | exact Upd.head | apply Upd.tail)) Tryz.sizeOf23 rfl (by rfl) (by rfl) (Wn.none rfl) ?_
         intro w H
         refine WR.nil (WQ.any ?_)
         refine WA.done (by kernel_rfl) ?_
         exact WQ.meetP [(2, _), (4, _), (7, _)] ⟨rfl, rfl, rfl, trivial⟩ ⟨_, _, rfl, (H.pick (L' := [.blk b2 (.cells #[I n5, I n6, I n7, I n8, I n9, I n10, I n11] 23), .blk b7 (.cells #[I n41, I 0, I n38, I 0, I 0, I 0, I 0] 23)]) (by repeat (first | exact Pick.nil | refine Pick.cons (by repeat (first | exact Rem.head | apply Rem.tail)) ?_))), hs14⟩
        ·
         refine WR.step (Ex.loadM H rfl hc46 Tryz.isAgg9) (Wn.none rfl) rfl rfl ?_
         refine WR.nil (WQ.any ?_)
         refine WA.seq (fuel := 0) [3, 7, 8, 10] rfl (by kernel_rfl) ?_
         refine WR.call H (R_digitsOf_ct hx39) rfl trivial (Wn.none rfl) rfl ?_
         intro v44 M w H hle hR
         replace hs14 := hs14.mono hle
         replace hc46 := hc46.mono hle
         replace hc42 := hc42.mono hle
         obtain rfl := hR
         refine WR.call H (R_digitsOf_ct hx42) rfl trivial (Wn.none rfl) rfl ?_
         intro v48 M w H hle hR
         replace hs14 := hs14.mono hle
         replace hc46 := hc46.mono hle
         replace hc42 := hc42.mono hle
         obtain rfl := hR
         refine WR.step (Ex.build [I n41, I 0, I n38, I 0, I 0, I 0, I 0] Tryz.underlying23 Tryz.zeroValue23 (xplaces23 Tryz.underlying23) rfl (by kernel_rfl)) (Wn.none rfl) rfl rfl ?_
         refine WR.store [_, _, _, _, _, _, _] H rfl rfl rfl (by repeat (first | exact Upd.head | apply Upd.tail)) Tryz.sizeOf23 rfl (by rfl) (by rfl) (Wn.none rfl) ?_
         intro w H
         refine WR.nil (WQ.any ?_)
         refine WA.done (by kernel_rfl) ?_
         exact WQ.meetP [(2, _), (4, _), (7, _)] ⟨rfl, rfl, rfl, trivial⟩ ⟨_, _, rfl, (H.pick (L' := [.blk b2 (.cells #[I n5, I n6, I n7, I n8, I n9, I n10, I n11] 23), .blk b7 (.cells #[I n41, I 0, I n38, I 0, I 0, I 0, I 0] 23)]) (by repeat (first | exact Pick.nil | refine Pick.cons (by repeat (first | exact Rem.head | apply Rem.tail)) ?_))), hs14⟩
      ·
       refine WR.step (Ex.loadM H rfl hc46 Tryz.isAgg9) (Wn.none rfl) rfl rfl ?_
       refine WR.nil (WQ.any ?_)
       refine WA.two (i := 1) (j := 9) (by kernel_rfl) rfl rfl ?_ ?_
       ·
        refine WR.idxC Tryz.underlying59 Tryz.sizeOf9 (hs14) rfl rfl hxa37 (Wn.none rfl) rfl ?_
        intro p42 hc42
        refine WR.nil (WQ.any ?_)
        refine WA.two (i := 2) (j := 9) (by kernel_rfl) rfl rfl ?_ ?_
        ·
         refine WR.step (Ex.loadM H rfl hc42 Tryz.isAgg9) (Wn.none rfl) rfl rfl ?_
         refine WR.nil (WQ.any ?_)
         refine WA.two (i := 3) (j := 9) (by kernel_rfl) rfl rfl ?_ ?_
         ·
          refine WR.call H (R_digitsOf_ct hx39) rfl trivial (Wn.none rfl) rfl ?_
          intro v44 M w H hle hR
          replace hs14 := hs14.mono hle
          replace hc46 := hc46.mono hle
          replace hc42 := hc42.mono hle
          obtain rfl := hR
          refine WR.nil (WQ.any ?_)
          refine WA.two (i := 7) (j := 9) (by kernel_rfl) rfl rfl ?_ ?_
          ·
           refine WR.call H (R_digitsOf_ct hx42) rfl trivial (Wn.none rfl) rfl ?_
           intro v48 M w H hle hR
           replace hs14 := hs14.mono hle
           replace hc46 := hc46.mono hle
           replace hc42 := hc42.mono hle
           obtain rfl := hR
           refine WR.nil (WQ.any ?_)
           refine WA.take (i := 8) rfl (by kernel_rfl) (by kernel_rfl) (by kernel_rfl) (fun _ => Ex.build [I n41, I 0, I n38, I 0, I 0, I 0, I 0] Tryz.underlying23 Tryz.zeroValue23 (xplaces23 Tryz.underlying23) rfl (by kernel_rfl)) (Wn.none rfl) rfl rfl (fun _ _ => rfl) ?_
           refine WA.seq (fuel := 0) [9, 10] rfl (by kernel_rfl) ?_
           refine WR.alloc [_, _, _, _, _, _, _] H Tryz.zeroValue23 rfl (Wn.none rfl) rfl ?_
           intro b7 w H
           refine WR.store [_, _, _, _, _, _, _] H rfl rfl rfl (by repeat (first | exact Upd.head | apply Upd.tail)) Tryz.sizeOf23 rfl (by rfl) (by rfl) (Wn.none rfl) ?_
           intro w H
           refine WR.nil (WQ.any ?_)
           refine WA.done (by kernel_rfl) ?_
           exact WQ.meetP [(2, _), (4, _), (7, _)] ⟨rfl, rfl, rfl, trivial⟩ ⟨_, _, rfl, (H.pick (L' := [.blk b2 (.cells #[I n5, I n6, I n7, I n8, I n9, I n10, I n11] 23), .blk b7 (.cells #[I n41, I 0, I n38, I 0, I 0, I 0, I 0] 23)]) (by repeat (first | exact Pick.nil | refine Pick.cons (by repeat (first | exact Rem.head | apply Rem.tail)) ?_))), hs14⟩
          ·
           refine WR.alloc [_, _, _, _, _, _, _] H Tryz.zeroValue23 rfl (Wn.none rfl) rfl ?_
           intro b7 w H
           refine WR.nil (WQ.any ?_)
           refine WA.seq (fuel := 0) [7, 8, 10] rfl (by kernel_rfl) ?_
           refine WR.call H (R_digitsOf_ct hx42) rfl trivial (Wn.none rfl) rfl ?_
           intro v48 M w H hle hR
           replace hs14 := hs14.mono hle
           replace hc46 := hc46.mono hle
           replace hc42 := hc42.mono hle
           obtain rfl := hR
           refine WR.step (Ex.build [I n41, I 0, I n38, I 0, I 0, I 0, I 0] Tryz.underlying23 Tryz.zeroValue23 (xplaces23 Tryz.underlying23) rfl (by kernel_rfl)) (Wn.none rfl) rfl rfl ?_
           refine WR.store [_, _, _, _, _, _, _] H rfl rfl rfl (by repeat (first | exact Upd.head | apply Upd.tail)) Tryz.sizeOf23 rfl (by rfl) (by rfl) (Wn.none rfl) ?_
           intro w H
           refine WR.nil (WQ.any ?_)
           refine WA.done (by kernel_rfl) ?_
           exact WQ.meetP [(2, _), (4, _), (7, _)] ⟨rfl, rfl, rfl, trivial⟩ ⟨_, _, rfl, (H.pick (L' := [.blk b2 (.cells #[I n5, I n6, I n7, I n8, I n9, I n10, I n11] 23), .blk b7 (.cells #[I n41, I 0, I n38, I 0, I 0, I 0, I 0] 23)]) (by repeat (first | exact Pick.nil | refine Pick.cons (by repeat (first | exact Rem.head | apply Rem.tail)) ?_))), hs14⟩
         ·
          refine WR.alloc [_, _, _, _, _, _, _] H Tryz.zeroValue23 rfl (Wn.none rfl) rfl ?_
          intro b7 w H
          refine WR.nil (WQ.any ?_)
          refine WA.seq (fuel := 0) [3, 7, 8, 10] rfl (by kernel_rfl) ?_
          refine WR.call H (R_digitsOf_ct hx39) rfl trivial (Wn.none rfl) rfl ?_
          intro v44 M w H hle hR
          replace hs14 := hs14.mono hle
          replace hc46 := hc46.mono hle
          replace hc42 := hc42.mono hle
          obtain rfl := hR
          refine WR.call H (R_digitsOf_ct hx42) rfl trivial (Wn.none rfl) rfl ?_
          intro v48 M w H hle hR
          replace hs14 := hs14.mono hle
          replace hc46 := hc46.mono hle
          replace hc42 := hc42.mono hle
          obtain rfl := hR
          refine WR.step (Ex.build [I n41, I 0, I n38, I 0, I 0, I 0, I 0] Tryz.underlying23 Tryz.zeroValue23 (xplaces23 Tryz.underlying23) rfl (by kernel_rfl)) (Wn.none rfl) rfl rfl ?_
          refine WR.store [_, _, _, _, _, _, _] H rfl rfl rfl (by repeat (first | exact Upd.head | apply Upd.tail)) Tryz.sizeOf23 rfl (by rfl) (by rfl) (Wn.none rfl) ?_
          intro w H
          refine WR.nil (WQ.any ?_)
          refine WA.done (by kernel_rfl) ?_
          exact WQ.meetP [(2, _), (4, _), (7, _)] ⟨rfl, rfl, rfl, trivial⟩ ⟨_, _, rfl, (H.pick (L' := [.blk b2 (.cells #[I n5, I n6, I n7, I n8, I n9, I n10, I n11] 23), .blk b7 (.cells #[I n41, I 0, I n38, I 0, I 0, I 0, I 0] 23)]) (by repeat (first | exact Pick.nil | refine Pick.cons (by repeat (first | exact Rem.head | apply Rem.tail)) ?_))), hs14⟩
        ·
         refine WR.alloc [_, _, _, _, _, _, _] H Tryz.zeroValue23 rfl (Wn.none rfl) rfl ?_
         intro b7 w H
         refine WR.nil (WQ.any ?_)
         refine WA.seq (fuel := 0) [2, 3, 7, 8, 10] rfl (by kernel_rfl) ?_
         refine WR.step (Ex.loadM H rfl hc42 Tryz.isAgg9) (Wn.none rfl) rfl rfl ?_
         refine WR.call H (R_digitsOf_ct hx39) rfl trivial (Wn.none rfl) rfl ?_
         intro v44 M w H hle hR
         replace hs14 := hs14.mono hle
         replace hc46 := hc46.mono hle
         replace hc42 := hc42.mono hle
         obtain rfl := hR
         refine WR.call H (R_digitsOf_ct hx42) rfl trivial (Wn.none rfl) rfl ?_
         intro v48 M w H hle hR
         replace hs14 := hs14.mono hle
         replace hc46 := hc46.mono hle
         replace hc42 := hc42.mono hle
         obtain rfl := hR
         refine WR.step (Ex.build [I n41, I 0, I n38, I 0, I 0, I 0, I 0] Tryz.underlying23 Tryz.zeroValue23 (xplaces23 Tryz.underlying23) rfl (by kernel_rfl)) (Wn.none rfl) rfl rfl ?_
         refine WR.store [_, _, _, _, _, _, _] H rfl rfl rfl (by repeat (first | exact Upd.head | apply Upd.tail)) Tryz.sizeOf23 rfl (by rfl) (by rfl) (Wn.none rfl) ?_
         intro w H
         refine WR.nil (WQ.any ?_)
         refine WA.done (by kernel_rfl) ?_
         exact WQ.meetP [(2, _), (4, _), (7, _)] ⟨rfl, rfl, rfl, trivial⟩ ⟨_, _, rfl, (H.pick (L' := [.blk b2 (.cells #[I n5, I n6, I n7, I n8, I n9, I n10, I n11] 23), .blk b7 (.cells #[I n41, I 0, I n38, I 0, I 0, I 0, I 0] 23)]) (by repeat (first | exact Pick.nil | refine Pick.cons (by repeat (first | exact Rem.head | apply Rem.tail)) ?_))), hs14⟩
       ·
        refine WR.alloc [_, _, _, _, _, _, _] H Tryz.zeroValue23 rfl (Wn.none rfl) rfl ?_
        intro b7 w H
        refine WR.nil (WQ.any ?_)
        refine WA.seq (fuel := 0) [1, 2, 3, 7, 8, 10] rfl (by kernel_rfl) ?_
        refine WR.idxC Tryz.underlying59 Tryz.sizeOf9 (hs14) rfl rfl hxa37 (Wn.none rfl) rfl ?_
        intro p42 hc42
        refine WR.step (Ex.loadM H rfl hc42 Tryz.isAgg9) (Wn.none rfl) rfl rfl ?_
        refine WR.call H (R_digitsOf_ct hx39) rfl trivial (Wn.none rfl) rfl ?_
        intro v44 M w H hle hR
        replace hs14 := hs14.mono hle
        replace hc46 := hc46.mono hle
        replace hc42 := hc42.mono hle
        obtain rfl := hR
        refine WR.call H (R_digitsOf_ct hx42) rfl trivial (Wn.none rfl) rfl ?_
        intro v48 M w H hle hR
        replace hs14 := hs14.mono hle
        replace hc46 := hc46.mono hle
        replace hc42 := hc42.mono hle
        obtain rfl := hR
        refine WR.step (Ex.build [I n41, I 0, I n38, I 0, I 0, I 0, I 0] Tryz.underlying23 Tryz.zeroValue23 (xplaces23 Tryz.underlying23) rfl (by kernel_rfl)) (Wn.none rfl) rfl rfl ?_
        refine WR.store [_, _, _, _, _, _, _] H rfl rfl rfl (by repeat (first | exact Upd.head | apply Upd.tail)) Tryz.sizeOf23 rfl (by rfl) (by rfl) (Wn.none rfl) ?_
        intro w H
        refine WR.nil (WQ.any ?_)
        refine WA.done (by kernel_rfl) ?_
        exact WQ.meetP [(2, _), (4, _), (7, _)] ⟨rfl, rfl, rfl, trivial⟩ ⟨_, _, rfl, (H.pick (L' := [.blk b2 (.cells #[I n5, I n6, I n7, I n8, I n9, I n10, I n11] 23), .blk b7 (.cells #[I n41, I 0, I n38, I 0, I 0, I 0, I 0] 23)]) (by repeat (first | exact Pick.nil | refine Pick.cons (by repeat (first | exact Rem.head | apply Rem.tail)) ?_))), hs14⟩
      ·
       refine WR.alloc [_, _, _, _, _, _, _] H Tryz.zeroValue23 rfl (Wn.none rfl) rfl ?_
       intro b7 w H
       refine WR.nil (WQ.any ?_)
       refine WA.two (i := 1) (j := 6) (by kernel_rfl) rfl rfl ?_ ?_
       ·
        refine WR.idxC Tryz.underlying59 Tryz.sizeOf9 (hs14) rfl rfl hxa37 (Wn.none rfl) rfl ?_
        intro p42 hc42
        refine WR.nil (WQ.any ?_)
        refine WA.takeM (i := 2) [6] rfl (by kernel_rfl) (by kernel_rfl) (by kernel_rfl) (Ex.loadM H rfl hc42 Tryz.isAgg9) (Wn.none rfl) rfl rfl (fun _ _ => rfl) ?_
        refine WA.two (i := 3) (j := 6) (by kernel_rfl) rfl rfl ?_ ?_
        ·
         refine WR.call H (R_digitsOf_ct hx39) rfl trivial (Wn.none rfl) rfl ?_
         intro v44 M w H hle hR
         replace hs14 := hs14.mono hle
         replace hc46 := hc46.mono hle
         replace hc42 := hc42.mono hle
         obtain rfl := hR
         refine WR.nil (WQ.any ?_)
         refine WA.seq (fuel := 0) [6, 7, 8, 10] rfl (by kernel_rfl) ?_
         refine WR.step (Ex.loadM H rfl hc46 Tryz.isAgg9) (Wn.none rfl) rfl rfl ?_
         refine WR.call H (R_digitsOf_ct hx42) rfl trivial (Wn.none rfl) rfl ?_
         intro v48 M w H hle hR
         replace hs14 := hs14.mono hle
         replace hc46 := hc46.mono hle
         replace hc42 := hc42.mono hle
         obtain rfl := hR
         refine WR.step (Ex.build [I n41, I 0, I n38, I 0, I 0, I 0, I 0] Tryz.underlying23 Tryz.zeroValue23 (xplaces23 Tryz.underlying23) rfl (by kernel_rfl)) (Wn.none rfl) rfl rfl ?_
         refine WR.store [_, _, _, _, _, _, _] H rfl rfl rfl (by repeat (first | exact Upd.head | apply Upd.tail)) Tryz.sizeOf23 rfl (by rfl) (by rfl) (Wn.none rfl) ?_
         intro w H
         refine WR.nil (WQ.any ?_)
         refine WA.done (by kernel_rfl) ?_
         exact WQ.meetP [(2, _), (4, _), (7, _)] ⟨rfl, rfl, rfl, trivial⟩ ⟨_, _, rfl, (H.pick (L' := [.blk b2 (.cells #[I n5, I n6, I n7, I n8, I n9, I n10, I n11] 23), .blk b7 (.cells #[I n41, I 0, I n38, I 0, I 0, I 0, I 0] 23)]) (by repeat (first | exact Pick.nil | refine Pick.cons (by repeat (first | exact Rem.head | apply Rem.tail)) ?_))), hs14⟩
        ·
         refine WR.step (Ex.loadM H rfl hc46 Tryz.isAgg9) (Wn.none rfl) rfl rfl ?_
         refine WR.nil (WQ.any ?_)
         refine WA.seq (fuel := 0) [3, 7, 8, 10] rfl (by kernel_rfl) ?_
         refine WR.call H (R_digitsOf_ct hx39) rfl trivial (Wn.none rfl) rfl ?_
         intro v44 M w H hle hR
         replace hs14 := hs14.mono hle
         replace hc46 := hc46.mono hle
         replace hc42 := hc42.mono hle
         obtain rfl := hR
         refine WR.call H (R_digitsOf_ct hx42) rfl trivial (Wn.none rfl) rfl ?_
         intro v48 M w H hle hR
         replace hs14 := hs14.mono hle
         replace hc46 := hc46.mono hle
         replace hc42 := hc42.mono hle
         obtain rfl := hR
         refine WR.step (Ex.build [I n41, I 0, I n38, I 0, I 0, I 0, I 0] Tryz.underlying23 Tryz.zeroValue23 (xplaces23 Tryz.underlying23) rfl (by kernel_rfl)) (Wn.none rfl) rfl rfl ?_
         refine WR.store [_, _, _, _, _, _, _] H rfl rfl rfl (by repeat (first | exact Upd.head | apply Upd.tail)) Tryz.sizeOf23 rfl (by rfl) (by rfl) (Wn.none rfl) ?_
         intro w H
         refine WR.nil (WQ.any ?_)
         refine WA.done (by kernel_rfl) ?_
         exact WQ.meetP [(2, _), (4, _), (7, _)] ⟨rfl, rfl, rfl, trivial⟩ ⟨_, _, rfl, (H.pick (L' := [.blk b2 (.cells #[I n5, I n6, I n7, I n8, I n9, I n10, I n11] 23), .blk b7 (.cells #[I n41, I 0, I n38, I 0, I 0, I 0, I 0] 23)]) (by repeat (first | exact Pick.nil | refine Pick.cons (by repeat (first | exact Rem.head | apply Rem.tail)) ?_))), hs14⟩
       ·
        refine WR.step (Ex.loadM H rfl hc46 Tryz.isAgg9) (Wn.none rfl) rfl rfl ?_
        refine WR.nil (WQ.any ?_)
        refine WA.seq (fuel := 0) [1, 2, 3, 7, 8, 10] rfl (by kernel_rfl) ?_
        refine WR.idxC Tryz.underlying59 Tryz.sizeOf9 (hs14) rfl rfl hxa37 (Wn.none rfl) rfl ?_
        intro p42 hc42
        refine WR.step (Ex.loadM H rfl hc42 Tryz.isAgg9) (Wn.none rfl) rfl rfl ?_
        refine WR.call H (R_digitsOf_ct hx39) rfl trivial (Wn.none rfl) rfl ?_
        intro v44 M w H hle hR
        replace hs14 := hs14.mono hle
        replace hc46 := hc46.mono hle
        replace hc42 := hc42.mono hle
        obtain rfl := hR
        refine WR.call H (R_digitsOf_ct hx42) rfl trivial (Wn.none rfl) rfl ?_
        intro v48 M w H hle hR
        replace hs14 := hs14.mono hle
        replace hc46 := hc46.mono hle
        replace hc42 := hc42.mono hle
        obtain rfl := hR
        refine WR.step (Ex.build [I n41, I 0, I n38, I 0, I 0, I 0, I 0] Tryz.underlying23 Tryz.zeroValue23 (xplaces23 Tryz.underlying23) rfl (by kernel_rfl)) (Wn.none rfl) rfl rfl ?_
        refine WR.store [_, _, _, _, _, _, _] H rfl rfl rfl (by repeat (first | exact Upd.head | apply Upd.tail)) Tryz.sizeOf23 rfl (by rfl) (by rfl) (Wn.none rfl) ?_
        intro w H
        refine WR.nil (WQ.any ?_)
        refine WA.done (by kernel_rfl) ?_
        exact WQ.meetP [(2, _), (4, _), (7, _)] ⟨rfl, rfl, rfl, trivial⟩ ⟨_, _, rfl, (H.pick (L' := [.blk b2 (.cells #[I n5, I n6, I n7, I n8, I n9, I n10, I n11] 23), .blk b7 (.cells #[I n41, I 0, I n38, I 0, I 0, I 0, I 0] 23)]) (by repeat (first | exact Pick.nil | refine Pick.cons (by repeat (first | exact Rem.head | apply Rem.tail)) ?_))), hs14⟩
     ·
      refine WR.alloc [_, _, _, _, _, _, _] H Tryz.zeroValue23 rfl (Wn.none rfl) rfl ?_
      intro b7 w H
      refine WR.nil (WQ.any ?_)
      refine WA.two (i := 1) (j := 5) (by kernel_rfl) rfl rfl ?_ ?_
      ·
       refine WR.idxC Tryz.underlying59 Tryz.sizeOf9 (hs14) rfl rfl hxa37 (Wn.none rfl) rfl ?_
       intro p42 hc42
       refine WR.nil (WQ.any ?_)
       refine WA.two (i := 2) (j := 5) (by kernel_rfl) rfl rfl ?_ ?_
       ·
        refine WR.step (Ex.loadM H rfl hc42 Tryz.isAgg9) (Wn.none rfl) rfl rfl ?_
        refine WR.nil (WQ.any ?_)
        refine WA.two (i := 3) (j := 5) (by kernel_rfl) rfl rfl ?_ ?_
        ·
         refine WR.call H (R_digitsOf_ct hx39) rfl trivial (Wn.none rfl) rfl ?_
         intro v44 M w H hle hR
         replace hs14 := hs14.mono hle
         replace hc42 := hc42.mono hle
         obtain rfl := hR
         refine WR.nil (WQ.any ?_)
         refine WA.seq (fuel := 0) [5, 6, 7, 8, 10] rfl (by kernel_rfl) ?_
         refine WR.idxC Tryz.underlying59 Tryz.sizeOf9 (hs14) rfl rfl hxa40 (Wn.none rfl) rfl ?_
         intro p46 hc46
         refine WR.step (Ex.loadM H rfl hc46 Tryz.isAgg9) (Wn.none rfl) rfl rfl ?_
         refine WR.call H (R_digitsOf_ct hx42) rfl trivial (Wn.none rfl) rfl ?_
         intro v48 M w H hle hR
         replace hs14 := hs14.mono hle
         replace hc42 := hc42.mono hle
         replace hc46 := hc46.mono hle
         obtain rfl := hR
         refine WR.step (Ex.build [I n41, I 0, I n38, I 0, I 0, I 0, I 0] Tryz.underlying23 Tryz.zeroValue23 (xplaces23 Tryz.underlying23) rfl (by kernel_rfl)) (Wn.none rfl) rfl rfl ?_
         refine WR.store [_, _, _, _, _, _, _] H rfl rfl rfl (by repeat (first | exact Upd.head | apply Upd.tail)) Tryz.sizeOf23 rfl (by rfl) (by rfl) (Wn.none rfl) ?_
         intro w H
         refine WR.nil (WQ.any ?_)
         refine WA.done (by kernel_rfl) ?_
         exact WQ.meetP [(2, _), (4, _), (7, _)] ⟨rfl, rfl, rfl, trivial⟩ ⟨_, _, rfl, (H.pick (L' := [.blk b2 (.cells #[I n5, I n6, I n7, I n8, I n9, I n10, I n11] 23), .blk b7 (.cells #[I n41, I 0, I n38, I 0, I 0, I 0, I 0] 23)]) (by repeat (first | exact Pick.nil | refine Pick.cons (by repeat (first | exact Rem.head | apply Rem.tail)) ?_))), hs14⟩
        ·
         refine WR.idxC Tryz.underlying59 Tryz.sizeOf9 (hs14) rfl rfl hxa40 (Wn.none rfl) rfl ?_
         intro p46 hc46
         refine WR.nil (WQ.any ?_)
         refine WA.two (i := 3) (j := 6) (by kernel_rfl) rfl rfl ?_ ?_
         ·
          refine WR.call H (R_digitsOf_ct hx39) rfl trivial (Wn.none rfl) rfl ?_
          intro v44 M w H hle hR
          replace hs14 := hs14.mono hle
          replace hc42 := hc42.mono hle
          replace hc46 := hc46.mono hle
          obtain rfl := hR
          refine WR.nil (WQ.any ?_)
          refine WA.seq (fuel := 0) [6, 7, 8, 10] rfl (by kernel_rfl) ?_
          refine WR.step (Ex.loadM H rfl hc46 Tryz.isAgg9) (Wn.none rfl) rfl rfl ?_
          refine WR.call H (R_digitsOf_ct hx42) rfl trivial (Wn.none rfl) rfl ?_
          intro v48 M w H hle hR
          replace hs14 := hs14.mono hle
          replace hc42 := hc42.mono hle
          replace hc46 := hc46.mono hle
          obtain rfl := hR
          refine WR.step (Ex.build [I n41, I 0, I n38, I 0, I 0, I 0, I 0] Tryz.underlying23 Tryz.zeroValue23 (xplaces23 Tryz.underlying23) rfl (by kernel_rfl)) (Wn.none rfl) rfl rfl ?_
          refine WR.store [_, _, _, _, _, _, _] H rfl rfl rfl (by repeat (first | exact Upd.head | apply Upd.tail)) Tryz.sizeOf23 rfl (by rfl) (by rfl) (Wn.none rfl) ?_
          intro w H
          refine WR.nil (WQ.any ?_)
          refine WA.done (by kernel_rfl) ?_
          exact WQ.meetP [(2, _), (4, _), (7, _)] ⟨rfl, rfl, rfl, trivial⟩ ⟨_, _, rfl, (H.pick (L' := [.blk b2 (.cells #[I n5, I n6, I n7, I n8, I n9, I n10, I n11] 23), .blk b7 (.cells #[I n41, I 0, I n38, I 0, I 0, I 0, I 0] 23)]) (by repeat (first | exact Pick.nil | refine Pick.cons (by repeat (first | exact Rem.head | apply Rem.tail)) ?_))), hs14⟩
         ·
          refine WR.step (Ex.loadM H rfl hc46 Tryz.isAgg9) (Wn.none rfl) rfl rfl ?_
          refine WR.nil (WQ.any ?_)
          refine WA.seq (fuel := 0) [3, 7, 8, 10] rfl (by kernel_rfl) ?_
          refine WR.call H (R_digitsOf_ct hx39) rfl trivial (Wn.none rfl) rfl ?_
          intro v44 M w H hle hR
          replace hs14 := hs14.mono hle
          replace hc42 := hc42.mono hle
          replace hc46 := hc46.mono hle
          obtain rfl := hR
          refine WR.call H (R_digitsOf_ct hx42) rfl trivial (Wn.none rfl) rfl ?_
          intro v48 M w H hle hR
          replace hs14 := hs14.mono hle
          replace hc42 := hc42.mono hle
          replace hc46 := hc46.mono hle
          obtain rfl := hR
          refine WR.step (Ex.build [I n41, I 0, I n38, I 0, I 0, I 0, I 0] Tryz.underlying23 Tryz.zeroValue23 (xplaces23 Tryz.underlying23) rfl (by kernel_rfl)) (Wn.none rfl) rfl rfl ?_
          refine WR.store [_, _, _, _, _, _, _] H rfl rfl rfl (by repeat (first | exact Upd.head | apply Upd.tail)) Tryz.sizeOf23 rfl (by rfl) (by rfl) (Wn.none rfl) ?_
          intro w H
          refine WR.nil (WQ.any ?_)
          refine WA.done (by kernel_rfl) ?_
          exact WQ.meetP [(2, _), (4, _), (7, _)] ⟨rfl, rfl, rfl, trivial⟩ ⟨_, _, rfl, (H.pick (L' := [.blk b2 (.cells #[I n5, I n6, I n7, I n8, I n9, I n10, I n11] 23), .blk b7 (.cells #[I n41, I 0, I n38, I 0, I 0, I 0, I 0] 23)]) (by repeat (first | exact Pick.nil | refine Pick.cons (by repeat (first | exact Rem.head | apply Rem.tail)) ?_))), hs14⟩
       ·
        refine WR.idxC Tryz.underlying59 Tryz.sizeOf9 (hs14) rfl rfl hxa40 (Wn.none rfl) rfl ?_
        intro p46 hc46
        refine WR.nil (WQ.any ?_)
        refine WA.takeM (i := 2) [6] rfl (by kernel_rfl) (by kernel_rfl) (by kernel_rfl) (Ex.loadM H rfl hc42 Tryz.isAgg9) (Wn.none rfl) rfl rfl (fun _ _ => rfl) ?_
        refine WA.two (i := 3) (j := 6) (by kernel_rfl) rfl rfl ?_ ?_
        ·
         refine WR.call H (R_digitsOf_ct hx39) rfl trivial (Wn.none rfl) rfl ?_
         intro v44 M w H hle hR
         replace hs14 := hs14.mono hle
         replace hc42 := hc42.mono hle
         replace hc46 := hc46.mono hle
         obtain rfl := hR
         refine WR.nil (WQ.any ?_)
         refine WA.seq (fuel := 0) [6, 7, 8, 10] rfl (by kernel_rfl) ?_
         refine WR.step (Ex.loadM H rfl hc46 Tryz.isAgg9) (Wn.none rfl) rfl rfl ?_
         refine WR.call H (R_digitsOf_ct hx42) rfl trivial (Wn.none rfl) rfl ?_
         intro v48 M w H hle hR
         replace hs14 := hs14.mono hle
         replace hc42 := hc42.mono hle
         replace hc46 := hc46.mono hle
         obtain rfl := hR
         refine WR.step (Ex.build [I n41, I 0, I n38, I 0, I 0, I 0, I 0] Tryz.underlying23 Tryz.zeroValue23 (xplaces23 Tryz.underlying23) rfl (by kernel_rfl)) (Wn.none rfl) rfl rfl ?_
         refine WR.store [_, _, _, _, _, _, _] H rfl rfl rfl (by repeat (first | exact Upd.head | apply Upd.tail)) Tryz.sizeOf23 rfl (by rfl) (by rfl) (Wn.none rfl) ?_
         intro w H
         refine WR.nil (WQ.any ?_)
         refine WA.done (by kernel_rfl) ?_
         exact WQ.meetP [(2, _), (4, _), (7, _)] ⟨rfl, rfl, rfl, trivial⟩ ⟨_, _, rfl, (H.pick (L' := [.blk b2 (.cells #[I n5, I n6, I n7, I n8, I n9, I n10, I n11] 23), .blk b7 (.cells #[I n41, I 0, I n38, I 0, I 0, I 0, I 0] 23)]) (by repeat (first | exact Pick.nil | refine Pick.cons (by repeat (first | exact Rem.head | apply Rem.tail)) ?_))), hs14⟩
        ·
         refine WR.step (Ex.loadM H rfl hc46 Tryz.isAgg9) (Wn.none rfl) rfl rfl ?_
         refine WR.nil (WQ.any ?_)
         refine WA.seq (fuel := 0) [3, 7, 8, 10] rfl (by kernel_rfl) ?_
         refine WR.call H (R_digitsOf_ct hx39) rfl trivial (Wn.none rfl) rfl ?_
         intro v44 M w H hle hR
         replace hs14 := hs14.mono hle
         replace hc42 := hc42.mono hle
         replace hc46 := hc46.mono hle
         obtain rfl := hR
         refine WR.call H (R_digitsOf_ct hx42) rfl trivial (Wn.none rfl) rfl ?_
         intro v48 M w H hle hR
         replace hs14 := hs14.mono hle
         replace hc42 := hc42.mono hle
         replace hc46 := hc46.mono hle
         obtain rfl := hR
         refine WR.step (Ex.build [I n41, I 0, I n38, I 0, I 0, I 0, I 0] Tryz.underlying23 Tryz.zeroValue23 (xplaces23 Tryz.underlying23) rfl (by kernel_rfl)) (Wn.none rfl) rfl rfl ?_
         refine WR.store [_, _, _, _, _, _, _] H rfl rfl rfl (by repeat (first | exact Upd.head | apply Upd.tail)) Tryz.sizeOf23 rfl (by rfl) (by rfl) (Wn.none rfl) ?_
         intro w H
         refine WR.nil (WQ.any ?_)
         refine WA.done (by kernel_rfl) ?_
         exact WQ.meetP [(2, _), (4, _), (7, _)] ⟨rfl, rfl, rfl, trivial⟩ ⟨_, _, rfl, (H.pick (L' := [.blk b2 (.cells #[I n5, I n6, I n7, I n8, I n9, I n10, I n11] 23), .blk b7 (.cells #[I n41, I 0, I n38, I 0, I 0, I 0, I 0] 23)]) (by repeat (first | exact Pick.nil | refine Pick.cons (by repeat (first | exact Rem.head | apply Rem.tail)) ?_))), hs14⟩
      ·
       refine WR.idxC Tryz.underlying59 Tryz.sizeOf9 (hs14) rfl rfl hxa40 (Wn.none rfl) rfl ?_
       intro p46 hc46
       refine WR.nil (WQ.any ?_)
       refine WA.two (i := 1) (j := 6) (by kernel_rfl) rfl rfl ?_ ?_
       ·
        refine WR.idxC Tryz.underlying59 Tryz.sizeOf9 (hs14) rfl rfl hxa37 (Wn.none rfl) rfl ?_
        intro p42 hc42
        refine WR.nil (WQ.any ?_)
        refine WA.takeM (i := 2) [6] rfl (by kernel_rfl) (by kernel_rfl) (by kernel_rfl) (Ex.loadM H rfl hc42 Tryz.isAgg9) (Wn.none rfl) rfl rfl (fun _ _ => rfl) ?_
        refine WA.two (i := 3) (j := 6) (by kernel_rfl) rfl rfl ?_ ?_
        ·
         refine WR.call H (R_digitsOf_ct hx39) rfl trivial (Wn.none rfl) rfl ?_
         intro v44 M w H hle hR
         replace hs14 := hs14.mono hle
         replace hc46 := hc46.mono hle
         replace hc42 := hc42.mono hle
         obtain rfl := hR
         refine WR.nil (WQ.any ?_)
         refine WA.seq (fuel := 0) [6, 7, 8, 10] rfl (by kernel_rfl) ?_
         refine WR.step (Ex.loadM H rfl hc46 Tryz.isAgg9) (Wn.none rfl) rfl rfl ?_
         refine WR.call H (R_digitsOf_ct hx42) rfl trivial (Wn.none rfl) rfl ?_
         intro v48 M w H hle hR
         replace hs14 := hs14.mono hle
         replace hc46 := hc46.mono hle
         replace hc42 := hc42.mono hle
         obtain rfl := hR
         refine WR.step (Ex.build [I n41, I 0, I n38, I 0, I 0, I 0, I 0] Tryz.underlying23 Tryz.zeroValue23 (xplaces23 Tryz.underlying23) rfl (by kernel_rfl)) (Wn.none rfl) rfl rfl ?_
         refine WR.store [_, _, _, _, _, _, _] H rfl rfl rfl (by repeat (first | exact Upd.head | apply Upd.tail)) Tryz.sizeOf23 rfl (by rfl) (by rfl) (Wn.none rfl) ?_
         intro w H
         refine WR.nil (WQ.any ?_)
         refine WA.done (by kernel_rfl) ?_
         exact WQ.meetP [(2, _), (4, _), (7, _)] ⟨rfl, rfl, rfl, trivial⟩ ⟨_, _, rfl, (H.pick (L' := [.blk b2 (.cells #[I n5, I n6, I n7, I n8, I n9, I n10, I n11] 23), .blk b7 (.cells #[I n41, I 0, I n38, I 0, I 0, I 0, I 0] 23)]) (by repeat (first | exact Pick.nil | refine Pick.cons (by repeat (first | exact Rem.head | apply Rem.tail)) ?_))), hs14⟩
        ·
         refine WR.step (Ex.loadM H rfl hc46 Tryz.isAgg9) (Wn.none rfl) rfl rfl ?_
         refine WR.nil (WQ.any ?_)
         refine WA.seq (fuel := 0) [3, 7, 8, 10] rfl (by kernel_rfl) ?_
         refine WR.call H (R_digitsOf_ct hx39) rfl trivial (Wn.none rfl) rfl ?_
         intro v44 M w H hle hR
         replace hs14 := hs14.mono hle
         replace hc46 := hc46.mono hle
         replace hc42 := hc42.mono hle
         obtain rfl := hR
         refine WR.call H (R_digitsOf_ct hx42) rfl trivial (Wn.none rfl) rfl ?_
         intro v48 M w H hle hR
         replace hs14 := hs14.mono hle
         replace hc46 := hc46.mono hle
         replace hc42 := hc42.mono hle
         obtain rfl := hR
         refine WR.step (Ex.build [I n41, I 0, I n38, I 0, I 0, I 0, I 0] Tryz.underlying23 Tryz.zeroValue23 (xplaces23 Tryz.underlying23) rfl (by kernel_rfl)) (Wn.none rfl) rfl rfl ?_
         refine WR.store [_, _, _, _, _, _, _] H rfl rfl rfl (by repeat (first | exact Upd.head | apply Upd.tail)) Tryz.sizeOf23 rfl (by rfl) (by rfl) (Wn.none rfl) ?_
         intro w H
         refine WR.nil (WQ.any ?_)
         refine WA.done (by kernel_rfl) ?_
         exact WQ.meetP [(2, _), (4, _), (7, _)] ⟨rfl, rfl, rfl, trivial⟩ ⟨_, _, rfl, (H.pick (L' := [.blk b2 (.cells #[I n5, I n6, I n7, I n8, I n9, I n10, I n11] 23), .blk b7 (.cells #[I n41, I 0, I n38, I 0, I 0, I 0, I 0] 23)]) (by repeat (first | exact Pick.nil | refine Pick.cons (by repeat (first | exact Rem.head | apply Rem.tail)) ?_))), hs14⟩
       ·
        refine WR.step (Ex.loadM H rfl hc46 Tryz.isAgg9) (Wn.none rfl) rfl rfl ?_
        refine WR.nil (WQ.any ?_)
        refine WA.seq (fuel := 0) [1, 2, 3, 7, 8, 10] rfl (by kernel_rfl) ?_
        refine WR.idxC Tryz.underlying59 Tryz.sizeOf9 (hs14) rfl rfl hxa37 (Wn.none rfl) rfl ?_
        intro p42 hc42
        refine WR.step (Ex.loadM H rfl hc42 Tryz.isAgg9) (Wn.none rfl) rfl rfl ?_
        refine WR.call H (R_digitsOf_ct hx39) rfl trivial (Wn.none rfl) rfl ?_
        intro v44 M w H hle hR
        replace hs14 := hs14.mono hle
        replace hc46 := hc46.mono hle
        replace hc42 := hc42.mono hle
        obtain rfl := hR
        refine WR.call H (R_digitsOf_ct hx42) rfl trivial (Wn.none rfl) rfl ?_
        intro v48 M w H hle hR
        replace hs14 := hs14.mono hle
        replace hc46 := hc46.mono hle
        replace hc42 := hc42.mono hle
        obtain rfl := hR
        refine WR.step (Ex.build [I n41, I 0, I n38, I 0, I 0, I 0, I 0] Tryz.underlying23 Tryz.zeroValue23 (xplaces23 Tryz.underlying23) rfl (by kernel_rfl)) (Wn.none rfl) rfl rfl ?_
        refine WR.store [_, _, _, _, _, _, _] H rfl rfl rfl (by repeat (first | exact Upd.head | apply Upd.tail)) Tryz.sizeOf23 rfl (by rfl) (by rfl) (Wn.none rfl) ?_
        intro w H
        refine WR.nil (WQ.any ?_)
        refine WA.done (by kernel_rfl) ?_
        exact WQ.meetP [(2, _), (4, _), (7, _)] ⟨rfl, rfl, rfl, trivial⟩ ⟨_, _, rfl, (H.pick (L' := [.blk b2 (.cells #[I n5, I n6, I n7, I n8, I n9, I n10, I n11] 23), .blk b7 (.cells #[I n41, I 0, I n38, I 0, I 0, I 0, I 0] 23)]) (by repeat (first | exact Pick.nil | refine Pick.cons (by repeat (first | exact Rem.head | apply Rem.tail)) ?_))), hs14⟩
    ·
     rintro e w ⟨b43, M, rfl, H, hs14⟩
     refine WQ.then ?_
     refine WC.seq ?_
     refine WC.seq ?_
     refine WC.region ?_
     refine WR.step (Ex.assign rfl) (Wn.none rfl) rfl rfl ?_
     refine WR.nil ?_
     refine WQ.then ?_
     obtain ⟨o44, e45, h⟩ := bnd h
     refine WC.cutX (fun e w => ∃ (n46 : Int) (n47 : Int) (n48 : Int) (n49 : Int) (n50 : Int) (n51 : Int) (n52 : Int) (M : Mem), e = [(2, ptr b2 0), (4, v13), (7, ptr b43 0)] ∧ St w0 M0 M [.blk b2 (.cells #[I n5, I n6, I n7, I n8, I n9, I n10, I n11] 23), .blk b43 (.cells #[I n46, I n47, I n48, I n49, I n50, I n51, I n52] 23)] w ∧ Sl M encS v13 l12 ∧ some (n46, n47, n48, n49, n50, n51, n52) = some o44) [] ?_ ?_ (trivial)
     ·
      refine WC.block ?_
      refine WC.loopP (fun m e w => ∃ (n53 : Int) (n54 : Int) (n55 : Int) (n56 : Int) (n57 : Int) (n58 : Int) (n59 : Int) (n60 : Int) (M : Mem), e = [(2, ptr b2 0), (4, v13), (7, ptr b43 0), (8, I n60)] ∧ St w0 M0 M [.blk b2 (.cells #[I n5, I n6, I n7, I n8, I n9, I n10, I n11] 23), .blk b43 (.cells #[I n53, I n54, I n55, I n56, I n57, I n58, I n59] 23)] w ∧ Sl M encS v13 l12 ∧ R_DateRead_L2 l12 m n53 n54 n55 n56 n57 n58 n59 n60 = some o44) FU [(2, _), (4, _), (7, _), (8, _)] ⟨rfl, rfl, rfl, rfl, trivial⟩ ⟨_, _, _, _, _, _, _, _, _, rfl, H, hs14, e45⟩ ?_
      rintro m61 e w ⟨n53, n54, n55, n56, n57, n58, n59, n60, M, rfl, H, hs14, e45⟩
      rcases m61 with _ | m61
      · rw [R_DateRead_L2] at e45; cases e45
      rw [R_DateRead_L2] at e45
      refine WC.seq ?_
      refine WC.seq ?_
      refine WC.region ?_
      refine WR.step (Ex.move rfl) (Wn.none rfl) rfl rfl ?_
      refine WR.step (Ex.leq rfl rfl) (Wn.none rfl) rfl rfl ?_
      refine WR.nil ?_
      refine WQ.then ?_
      refine WC.condB rfl (fun hk62 => ?_) (fun hk62 => ?_)
      ·
       replace hk62 : n60 ≤ (12 : Int) := of_decide_eq_true hk62
       rw [if_pos hk62] at e45
       refine WC.skip ?_
       refine WQ.then ?_
       refine WC.seq ?_
       refine WC.block ?_
       refine WC.seq ?_
       obtain ⟨s63, hx64, e45⟩ := bnd e45
       obtain ⟨a65, hxa65, e45⟩ := bnd e45
       refine WC.cutP (fun e w => ∃  (M : Mem), e = [(2, ptr b2 0), (4, v13), (7, ptr b43 0), (8, I n60), (59, Value.bool (decide (s63 = a65)))] ∧ St w0 M0 M [.blk b2 (.cells #[I n5, I n6, I n7, I n8, I n9, I n10, I n11] 23), .blk b43 (.cells #[I n53, I n54, I n55, I n56, I n57, I n58, I n59] 23)] w ∧ Sl M encS v13 l12) ?_ ?_
       ·
        refine WC.draw (m := 6) rfl rfl H ?_
        intro w H
        refine WA.take (i := 0) rfl (by kernel_rfl) (by kernel_rfl) (by kernel_rfl) (fun _ => Ex.move rfl) (Wn.none rfl) rfl rfl (fun _ _ => rfl) ?_
        refine WA.take (i := 2) rfl (by kernel_rfl) (by kernel_rfl) (by kernel_rfl) (fun _ => Ex.move rfl) (Wn.none rfl) rfl rfl (fun _ _ => rfl) ?_
        refine WA.two (i := 1) (j := 3) (by kernel_rfl) rfl rfl ?_ ?_
        ·
         refine WR.call H (R_MonthName_ct hx64) rfl trivial (Wn.none rfl) rfl ?_
         intro v55 M w H hle hR
         replace hs14 := hs14.mono hle
         obtain rfl := hR
         refine WR.nil (WQ.any ?_)
         refine WA.seq (fuel := 0) [3, 4, 5] rfl (by kernel_rfl) ?_
         refine WR.idxC Tryz.underlying59 Tryz.sizeOf9 (hs14) rfl rfl hxa65 (Wn.none rfl) rfl ?_
         intro p57 hc57
         refine WR.step (Ex.loadM H rfl hc57 Tryz.isAgg9) (Wn.none rfl) rfl rfl ?_
         refine WR.step (Ex.strEql rfl rfl) (Wn.none rfl) rfl rfl ?_
         refine WR.nil (WQ.any ?_)
         refine WA.done (by kernel_rfl) ?_
         exact WQ.meetP [(2, _), (4, _), (7, _), (8, _), (59, _)] ⟨rfl, rfl, rfl, rfl, rfl, trivial⟩ ⟨_, rfl, H, hs14⟩
        ·
         refine WR.idxC Tryz.underlying59 Tryz.sizeOf9 (hs14) rfl rfl hxa65 (Wn.none rfl) rfl ?_
         intro p57 hc57
         refine WR.nil (WQ.any ?_)
         refine WA.two (i := 1) (j := 4) (by kernel_rfl) rfl rfl ?_ ?_
         ·
          refine WR.call H (R_MonthName_ct hx64) rfl trivial (Wn.none rfl) rfl ?_
          intro v55 M w H hle hR
          replace hs14 := hs14.mono hle
          replace hc57 := hc57.mono hle
          obtain rfl := hR
          refine WR.nil (WQ.any ?_)
          refine WA.seq (fuel := 0) [4, 5] rfl (by kernel_rfl) ?_
          refine WR.step (Ex.loadM H rfl hc57 Tryz.isAgg9) (Wn.none rfl) rfl rfl ?_
          refine WR.step (Ex.strEql rfl rfl) (Wn.none rfl) rfl rfl ?_
          refine WR.nil (WQ.any ?_)
          refine WA.done (by kernel_rfl) ?_
          exact WQ.meetP [(2, _), (4, _), (7, _), (8, _), (59, _)] ⟨rfl, rfl, rfl, rfl, rfl, trivial⟩ ⟨_, rfl, H, hs14⟩
         ·
          refine WR.step (Ex.loadM H rfl hc57 Tryz.isAgg9) (Wn.none rfl) rfl rfl ?_
          refine WR.nil (WQ.any ?_)
          refine WA.seq (fuel := 0) [1, 5] rfl (by kernel_rfl) ?_
          refine WR.call H (R_MonthName_ct hx64) rfl trivial (Wn.none rfl) rfl ?_
          intro v55 M w H hle hR
          replace hs14 := hs14.mono hle
          replace hc57 := hc57.mono hle
          obtain rfl := hR
          refine WR.step (Ex.strEql rfl rfl) (Wn.none rfl) rfl rfl ?_
          refine WR.nil (WQ.any ?_)
          refine WA.done (by kernel_rfl) ?_
          exact WQ.meetP [(2, _), (4, _), (7, _), (8, _), (59, _)] ⟨rfl, rfl, rfl, rfl, rfl, trivial⟩ ⟨_, rfl, H, hs14⟩
       ·
        rintro e w ⟨M, rfl, H, hs14⟩
        refine WQ.then ?_
        refine WC.condB rfl (fun hk66 => ?_) (fun hk66 => ?_)
        ·
         replace hk66 : s63 = a65 := of_decide_eq_true hk66
         rw [if_pos hk66] at e45
         refine WC.region ?_
         refine WR.step (Ex.move rfl) (Wn.none rfl) rfl rfl ?_
         refine WR.step (Ex.fieldAddr Tryz.underlying23 rfl Tryz.sizeOf3 (by decide) rfl) (Wn.none rfl) rfl rfl ?_
         refine WR.store1 [_, _, _, _, _, _, _] H rfl rfl (by repeat (first | exact Upd.head | apply Upd.tail)) (by rfl) Tryz.sizeOf3 (by first | decide | (simp; done) | (simp; omega)) (by rfl) (by rfl) (Wn.none rfl) ?_
         intro w H
         refine WR.nil ?_
         refine WQ.inBlock ?_
         refine WQ.then ?_
         obtain ⟨n67, hxn67, e45⟩ := bnd e45
         refine WC.region ?_
         refine WR.step (Ex.move rfl) (Wn.none rfl) rfl rfl ?_
         refine WR.step (Ex.addC rfl rfl hxn67) (Wn.none rfl) rfl rfl ?_
         refine WR.step (Ex.assign rfl) (Wn.none rfl) rfl rfl ?_
         refine WR.nil ?_
         exact WQ.againP m61 [(2, _), (4, _), (7, _), (8, _)] ⟨rfl, rfl, rfl, rfl, trivial⟩ ⟨_, _, _, _, _, _, _, _, _, rfl, H, hs14, e45⟩ (Nat.lt_succ_self _)
        ·
         replace hk66 : ¬ (s63 = a65) := of_decide_eq_false hk66
         rw [if_neg hk66] at e45
         refine WC.skip ?_
         refine WQ.inBlock ?_
         refine WQ.then ?_
         obtain ⟨n68, hxn68, e45⟩ := bnd e45
         refine WC.region ?_
         refine WR.step (Ex.move rfl) (Wn.none rfl) rfl rfl ?_
         refine WR.step (Ex.addC rfl rfl hxn68) (Wn.none rfl) rfl rfl ?_
         refine WR.step (Ex.assign rfl) (Wn.none rfl) rfl rfl ?_
         refine WR.nil ?_
         exact WQ.againP m61 [(2, _), (4, _), (7, _), (8, _)] ⟨rfl, rfl, rfl, rfl, trivial⟩ ⟨_, _, _, _, _, _, _, _, _, rfl, H, hs14, e45⟩ (Nat.lt_succ_self _)
      ·
       replace hk62 : ¬ (n60 ≤ (12 : Int)) := of_decide_eq_false hk62
       rw [if_neg hk62] at e45
       refine WC.exit ?_
       refine WQ.thenExit ?_
       refine WQ.thenExit ?_
       refine WQ.exitHere ?_
       exact WQ.meetN [(2, _), (4, _), (7, _)] ⟨rfl, rfl, rfl, trivial⟩ ⟨_, _, _, _, _, _, _, _, rfl, H, hs14, e45⟩
     ·
      rintro e w ⟨n46, n47, n48, n49, n50, n51, n52, M, rfl, H, hs14, q69⟩
      obtain rfl := Option.some.inj q69
      try dsimp only at h
      refine WQ.then ?_
      refine WC.seq ?_
      obtain ⟨a70, hxa70, h⟩ := bnd h
      refine WC.region ?_
      refine WR.step (Ex.move rfl) (Wn.none rfl) rfl rfl ?_
      refine WR.idxC Tryz.underlying59 Tryz.sizeOf9 (hs14) rfl rfl hxa70 (Wn.none rfl) rfl ?_
      intro p63 hc63
      refine WR.step (Ex.loadM H rfl hc63 Tryz.isAgg9) (Wn.none rfl) rfl rfl ?_
      refine WR.step (Ex.assign rfl) (Wn.none rfl) rfl rfl ?_
      refine WR.nil ?_
      refine WQ.then ?_
      refine WC.seq ?_
      refine WC.seq ?_
      obtain ⟨o71, e72, h⟩ := bnd h
      refine WC.cutX (fun e w => ∃ (b73 : Bool) (M : Mem), e = [(2, ptr b2 0), (4, v13), (7, ptr b43 0), (9, S a70), (87, Value.bool b73)] ∧ St w0 M0 M [.blk b2 (.cells #[I n5, I n6, I n7, I n8, I n9, I n10, I n11] 23), .blk b43 (.cells #[I n46, I n47, I n48, I n49, I n50, I n51, I n52] 23)] w ∧ Sl M encS v13 l12 ∧ some b73 = some o71) [] ?_ ?_ (trivial)
      ·
       refine WC.region ?_
       refine WR.step (Ex.move rfl) (Wn.none rfl) rfl rfl ?_
       refine WR.step (Ex.lenStr Tryz.underlying9 rfl) (Wn.none rfl) rfl rfl ?_
       by_cases hk74 : (a70.length : Int) = (5 : Int)
       ·
        rw [if_pos hk74] at e72
        obtain ⟨c75, hxc75, e72⟩ := bnd e72
        by_cases hk76 : c75 = 58
        ·
         rw [if_pos hk76] at e72
         by_cases hk77 : (a70.length : Int) = (8 : Int)
         ·
          rw [if_pos hk77] at e72
          obtain ⟨c78, hxc78, e72⟩ := bnd e72
          refine WR.stepE (v' := .bool false) (Ex.neqC rfl rfl) (congrArg Value.bool (by rw [decide_eq_true hk74]; rfl)) (Wn.none rfl) rfl rfl ?_
          refine WR.step (Ex.move rfl) (Wn.none rfl) rfl rfl ?_
          refine WR.skipN 3 rfl rfl ?_
          refine WR.step (Ex.pickF rfl rfl) (Wn.none rfl) rfl rfl ?_
          refine WR.step (Ex.move rfl) (Wn.none rfl) rfl rfl ?_
          refine WR.step (Ex.move rfl) (Wn.some rfl rfl rfl) rfl rfl ?_
          refine WR.step (Ex.idxStrC Tryz.underlying9 rfl rfl hxc75) (Wn.some rfl rfl rfl) rfl rfl ?_
          refine WR.stepE (v' := .bool false) (Ex.neqB (c := c75) (d := 58) rfl rfl) (congrArg Value.bool (by rw [decide_eq_true hk76]; rfl)) (Wn.some rfl rfl rfl) rfl rfl ?_
          refine WR.step (Ex.pickF rfl rfl) (Wn.none rfl) rfl rfl ?_
          refine WR.step (Ex.move rfl) (Wn.none rfl) rfl rfl ?_
          refine WR.step (Ex.move rfl) (Wn.some rfl rfl rfl) rfl rfl ?_
          refine WR.step (Ex.lenStr Tryz.underlying9 rfl) (Wn.some rfl rfl rfl) rfl rfl ?_
          refine WR.stepE (v' := .bool true) (Ex.eql rfl rfl) (congrArg Value.bool (decide_eq_true hk77)) (Wn.some rfl rfl rfl) rfl rfl ?_
          refine WR.step (Ex.move rfl) (Wn.some rfl rfl rfl) rfl rfl ?_
          refine WR.step (Ex.move rfl) (Wn.some rfl rfl rfl) rfl rfl ?_
          refine WR.step (Ex.idxStrC Tryz.underlying9 rfl rfl hxc78) (Wn.some rfl rfl rfl) rfl rfl ?_
          refine WR.step (Ex.neqB (c := c78) (d := 58) rfl rfl) (Wn.some rfl rfl rfl) rfl rfl ?_
          refine WR.step (Ex.pickT rfl rfl) (Wn.some rfl rfl rfl) rfl rfl ?_
          refine WR.step (Ex.pickF rfl rfl) (Wn.none rfl) rfl rfl ?_
          refine WR.nil ?_
          exact WQ.meetN [(2, _), (4, _), (7, _), (9, _), (87, _)] ⟨rfl, rfl, rfl, rfl, rfl, trivial⟩ ⟨_, _, rfl, H, hs14, e72⟩
         ·
          rw [if_neg hk77] at e72
          refine WR.stepE (v' := .bool false) (Ex.neqC rfl rfl) (congrArg Value.bool (by rw [decide_eq_true hk74]; rfl)) (Wn.none rfl) rfl rfl ?_
          refine WR.step (Ex.move rfl) (Wn.none rfl) rfl rfl ?_
          refine WR.skipN 3 rfl rfl ?_
          refine WR.step (Ex.pickF rfl rfl) (Wn.none rfl) rfl rfl ?_
          refine WR.step (Ex.move rfl) (Wn.none rfl) rfl rfl ?_
          refine WR.step (Ex.move rfl) (Wn.some rfl rfl rfl) rfl rfl ?_
          refine WR.step (Ex.idxStrC Tryz.underlying9 rfl rfl hxc75) (Wn.some rfl rfl rfl) rfl rfl ?_
          refine WR.stepE (v' := .bool false) (Ex.neqB (c := c75) (d := 58) rfl rfl) (congrArg Value.bool (by rw [decide_eq_true hk76]; rfl)) (Wn.some rfl rfl rfl) rfl rfl ?_
          refine WR.step (Ex.pickF rfl rfl) (Wn.none rfl) rfl rfl ?_
          refine WR.step (Ex.move rfl) (Wn.none rfl) rfl rfl ?_
          refine WR.step (Ex.move rfl) (Wn.some rfl rfl rfl) rfl rfl ?_
          refine WR.step (Ex.lenStr Tryz.underlying9 rfl) (Wn.some rfl rfl rfl) rfl rfl ?_
          refine WR.stepE (v' := .bool false) (Ex.eql rfl rfl) (congrArg Value.bool (decide_eq_false hk77)) (Wn.some rfl rfl rfl) rfl rfl ?_
          refine WR.step (Ex.move rfl) (Wn.some rfl rfl rfl) rfl rfl ?_
          refine WR.skipN 3 rfl rfl ?_
          refine WR.step (Ex.pickF rfl rfl) (Wn.some rfl rfl rfl) rfl rfl ?_
          refine WR.step (Ex.pickF rfl rfl) (Wn.none rfl) rfl rfl ?_
          refine WR.nil ?_
          exact WQ.meetN [(2, _), (4, _), (7, _), (9, _), (87, _)] ⟨rfl, rfl, rfl, rfl, rfl, trivial⟩ ⟨_, _, rfl, H, hs14, e72⟩
        ·
         rw [if_neg hk76] at e72
         refine WR.stepE (v' := .bool false) (Ex.neqC rfl rfl) (congrArg Value.bool (by rw [decide_eq_true hk74]; rfl)) (Wn.none rfl) rfl rfl ?_
         refine WR.step (Ex.move rfl) (Wn.none rfl) rfl rfl ?_
         refine WR.skipN 3 rfl rfl ?_
         refine WR.step (Ex.pickF rfl rfl) (Wn.none rfl) rfl rfl ?_
         refine WR.step (Ex.move rfl) (Wn.none rfl) rfl rfl ?_
         refine WR.step (Ex.move rfl) (Wn.some rfl rfl rfl) rfl rfl ?_
         refine WR.step (Ex.idxStrC Tryz.underlying9 rfl rfl hxc75) (Wn.some rfl rfl rfl) rfl rfl ?_
         refine WR.stepE (v' := .bool true) (Ex.neqB (c := c75) (d := 58) rfl rfl) (congrArg Value.bool (by rw [decide_eq_false hk76]; rfl)) (Wn.some rfl rfl rfl) rfl rfl ?_
         refine WR.step (Ex.pickF rfl rfl) (Wn.none rfl) rfl rfl ?_
         refine WR.step (Ex.move rfl) (Wn.none rfl) rfl rfl ?_
         refine WR.skipN 8 rfl rfl ?_
         refine WR.step (Ex.pickT rfl rfl) (Wn.none rfl) rfl rfl ?_
         refine WR.nil ?_
         exact WQ.meetN [(2, _), (4, _), (7, _), (9, _), (87, _)] ⟨rfl, rfl, rfl, rfl, rfl, trivial⟩ ⟨_, _, rfl, H, hs14, e72⟩
       ·
        rw [if_neg hk74] at e72
        by_cases hk79 : (a70.length : Int) = (8 : Int)
        ·
         rw [if_pos hk79] at e72
         obtain ⟨c80, hxc80, e72⟩ := bnd e72
         by_cases hk81 : c80 = 58
         ·
          rw [if_pos hk81] at e72
          by_cases hk82 : (a70.length : Int) = (8 : Int)
          ·
           rw [if_pos hk82] at e72
           obtain ⟨c83, hxc83, e72⟩ := bnd e72
           refine WR.stepE (v' := .bool true) (Ex.neqC rfl rfl) (congrArg Value.bool (by rw [decide_eq_false hk74]; rfl)) (Wn.none rfl) rfl rfl ?_
           refine WR.step (Ex.move rfl) (Wn.none rfl) rfl rfl ?_
           refine WR.step (Ex.move rfl) (Wn.some rfl rfl rfl) rfl rfl ?_
           refine WR.step (Ex.lenStr Tryz.underlying9 rfl) (Wn.some rfl rfl rfl) rfl rfl ?_
           refine WR.stepE (v' := .bool false) (Ex.neqC rfl rfl) (congrArg Value.bool (by rw [decide_eq_true hk79]; rfl)) (Wn.some rfl rfl rfl) rfl rfl ?_
           refine WR.step (Ex.pickT rfl rfl) (Wn.none rfl) rfl rfl ?_
           refine WR.step (Ex.move rfl) (Wn.none rfl) rfl rfl ?_
           refine WR.step (Ex.move rfl) (Wn.some rfl rfl rfl) rfl rfl ?_
           refine WR.step (Ex.idxStrC Tryz.underlying9 rfl rfl hxc80) (Wn.some rfl rfl rfl) rfl rfl ?_
           refine WR.stepE (v' := .bool false) (Ex.neqB (c := c80) (d := 58) rfl rfl) (congrArg Value.bool (by rw [decide_eq_true hk81]; rfl)) (Wn.some rfl rfl rfl) rfl rfl ?_
           refine WR.step (Ex.pickF rfl rfl) (Wn.none rfl) rfl rfl ?_
           refine WR.step (Ex.move rfl) (Wn.none rfl) rfl rfl ?_
           refine WR.step (Ex.move rfl) (Wn.some rfl rfl rfl) rfl rfl ?_
           refine WR.step (Ex.lenStr Tryz.underlying9 rfl) (Wn.some rfl rfl rfl) rfl rfl ?_
           refine WR.stepE (v' := .bool true) (Ex.eql rfl rfl) (congrArg Value.bool (decide_eq_true hk82)) (Wn.some rfl rfl rfl) rfl rfl ?_
           refine WR.step (Ex.move rfl) (Wn.some rfl rfl rfl) rfl rfl ?_
           refine WR.step (Ex.move rfl) (Wn.some rfl rfl rfl) rfl rfl ?_
           refine WR.step (Ex.idxStrC Tryz.underlying9 rfl rfl hxc83) (Wn.some rfl rfl rfl) rfl rfl ?_
           refine WR.step (Ex.neqB (c := c83) (d := 58) rfl rfl) (Wn.some rfl rfl rfl) rfl rfl ?_
           refine WR.step (Ex.pickT rfl rfl) (Wn.some rfl rfl rfl) rfl rfl ?_
           refine WR.step (Ex.pickF rfl rfl) (Wn.none rfl) rfl rfl ?_
           refine WR.nil ?_
           exact WQ.meetN [(2, _), (4, _), (7, _), (9, _), (87, _)] ⟨rfl, rfl, rfl, rfl, rfl, trivial⟩ ⟨_, _, rfl, H, hs14, e72⟩
          ·
           rw [if_neg hk82] at e72
           refine WR.stepE (v' := .bool true) (Ex.neqC rfl rfl) (congrArg Value.bool (by rw [decide_eq_false hk74]; rfl)) (Wn.none rfl) rfl rfl ?_
           refine WR.step (Ex.move rfl) (Wn.none rfl) rfl rfl ?_
           refine WR.step (Ex.move rfl) (Wn.some rfl rfl rfl) rfl rfl ?_
           refine WR.step (Ex.lenStr Tryz.underlying9 rfl) (Wn.some rfl rfl rfl) rfl rfl ?_
           refine WR.stepE (v' := .bool false) (Ex.neqC rfl rfl) (congrArg Value.bool (by rw [decide_eq_true hk79]; rfl)) (Wn.some rfl rfl rfl) rfl rfl ?_
           refine WR.step (Ex.pickT rfl rfl) (Wn.none rfl) rfl rfl ?_
           refine WR.step (Ex.move rfl) (Wn.none rfl) rfl rfl ?_
           refine WR.step (Ex.move rfl) (Wn.some rfl rfl rfl) rfl rfl ?_
           refine WR.step (Ex.idxStrC Tryz.underlying9 rfl rfl hxc80) (Wn.some rfl rfl rfl) rfl rfl ?_
           refine WR.stepE (v' := .bool false) (Ex.neqB (c := c80) (d := 58) rfl rfl) (congrArg Value.bool (by rw [decide_eq_true hk81]; rfl)) (Wn.some rfl rfl rfl) rfl rfl ?_
           refine WR.step (Ex.pickF rfl rfl) (Wn.none rfl) rfl rfl ?_
           refine WR.step (Ex.move rfl) (Wn.none rfl) rfl rfl ?_
           refine WR.step (Ex.move rfl) (Wn.some rfl rfl rfl) rfl rfl ?_
           refine WR.step (Ex.lenStr Tryz.underlying9 rfl) (Wn.some rfl rfl rfl) rfl rfl ?_
           refine WR.stepE (v' := .bool false) (Ex.eql rfl rfl) (congrArg Value.bool (decide_eq_false hk82)) (Wn.some rfl rfl rfl) rfl rfl ?_
           refine WR.step (Ex.move rfl) (Wn.some rfl rfl rfl) rfl rfl ?_
           refine WR.skipN 3 rfl rfl ?_
           refine WR.step (Ex.pickF rfl rfl) (Wn.some rfl rfl rfl) rfl rfl ?_
           refine WR.step (Ex.pickF rfl rfl) (Wn.none rfl) rfl rfl ?_
           refine WR.nil ?_
           exact WQ.meetN [(2, _), (4, _), (7, _), (9, _), (87, _)] ⟨rfl, rfl, rfl, rfl, rfl, trivial⟩ ⟨_, _, rfl, H, hs14, e72⟩
         ·
          rw [if_neg hk81] at e72
          refine WR.stepE (v' := .bool true) (Ex.neqC rfl rfl) (congrArg Value.bool (by rw [decide_eq_false hk74]; rfl)) (Wn.none rfl) rfl rfl ?_
          refine WR.step (Ex.move rfl) (Wn.none rfl) rfl rfl ?_
          refine WR.step (Ex.move rfl) (Wn.some rfl rfl rfl) rfl rfl ?_
          refine WR.step (Ex.lenStr Tryz.underlying9 rfl) (Wn.some rfl rfl rfl) rfl rfl ?_
          refine WR.stepE (v' := .bool false) (Ex.neqC rfl rfl) (congrArg Value.bool (by rw [decide_eq_true hk79]; rfl)) (Wn.some rfl rfl rfl) rfl rfl ?_
          refine WR.step (Ex.pickT rfl rfl) (Wn.none rfl) rfl rfl ?_
          refine WR.step (Ex.move rfl) (Wn.none rfl) rfl rfl ?_
          refine WR.step (Ex.move rfl) (Wn.some rfl rfl rfl) rfl rfl ?_
          refine WR.step (Ex.idxStrC Tryz.underlying9 rfl rfl hxc80) (Wn.some rfl rfl rfl) rfl rfl ?_
          refine WR.stepE (v' := .bool true) (Ex.neqB (c := c80) (d := 58) rfl rfl) (congrArg Value.bool (by rw [decide_eq_false hk81]; rfl)) (Wn.some rfl rfl rfl) rfl rfl ?_
          refine WR.step (Ex.pickF rfl rfl) (Wn.none rfl) rfl rfl ?_
          refine WR.step (Ex.move rfl) (Wn.none rfl) rfl rfl ?_
          refine WR.skipN 8 rfl rfl ?_
          refine WR.step (Ex.pickT rfl rfl) (Wn.none rfl) rfl rfl ?_
          refine WR.nil ?_
          exact WQ.meetN [(2, _), (4, _), (7, _), (9, _), (87, _)] ⟨rfl, rfl, rfl, rfl, rfl, trivial⟩ ⟨_, _, rfl, H, hs14, e72⟩
        ·
         rw [if_neg hk79] at e72
         refine WR.stepE (v' := .bool true) (Ex.neqC rfl rfl) (congrArg Value.bool (by rw [decide_eq_false hk74]; rfl)) (Wn.none rfl) rfl rfl ?_
         refine WR.step (Ex.move rfl) (Wn.none rfl) rfl rfl ?_
         refine WR.step (Ex.move rfl) (Wn.some rfl rfl rfl) rfl rfl ?_
         refine WR.step (Ex.lenStr Tryz.underlying9 rfl) (Wn.some rfl rfl rfl) rfl rfl ?_
         refine WR.stepE (v' := .bool true) (Ex.neqC rfl rfl) (congrArg Value.bool (by rw [decide_eq_false hk79]; rfl)) (Wn.some rfl rfl rfl) rfl rfl ?_
         refine WR.step (Ex.pickT rfl rfl) (Wn.none rfl) rfl rfl ?_
         refine WR.step (Ex.move rfl) (Wn.none rfl) rfl rfl ?_
         refine WR.skipN 3 rfl rfl ?_
         refine WR.step (Ex.pickT rfl rfl) (Wn.none rfl) rfl rfl ?_
         refine WR.step (Ex.move rfl) (Wn.none rfl) rfl rfl ?_
         refine WR.skipN 8 rfl rfl ?_
         refine WR.step (Ex.pickT rfl rfl) (Wn.none rfl) rfl rfl ?_
         refine WR.nil ?_
         exact WQ.meetN [(2, _), (4, _), (7, _), (9, _), (87, _)] ⟨rfl, rfl, rfl, rfl, rfl, trivial⟩ ⟨_, _, rfl, H, hs14, e72⟩
      ·
       rintro e w ⟨b73, M, rfl, H, hs14, q84⟩
       obtain rfl := Option.some.inj q84
       refine WQ.then ?_
       refine WC.condB rfl (fun hk85 => ?_) (fun hk85 => ?_)
       ·
        subst hk85
        rw [if_pos rfl] at h
        refine WC.seq ?_
        refine WC.region ?_
        refine WR.step (Ex.build [I 0, I 0, I 0, I 0, I 0, I 0, I 0] Tryz.underlying23 Tryz.zeroValue23 (xplaces23 Tryz.underlying23) rfl (by kernel_rfl)) (Wn.none rfl) rfl rfl ?_
        refine WR.store [_, _, _, _, _, _, _] H rfl rfl rfl (by repeat (first | exact Upd.head | apply Upd.tail)) Tryz.sizeOf23 rfl (by rfl) (by rfl) (Wn.none rfl) ?_
        intro w H
        refine WR.step (Ex.assign rfl) (Wn.none rfl) rfl rfl ?_
        refine WR.nil ?_
        refine WQ.then ?_
        refine WC.ret ?_
        (repeat (first | refine WQ.thenRet ?_ | refine WQ.inBlockRet ?_ | refine WQ.cutRet ?_ | refine WQ.scRet ?_))
        obtain rfl := Option.some.inj h
        exact WQ.ret2 rfl ⟨_, rfl, H.loadAgg (by repeat (first | exact List.Mem.head _ | apply List.Mem.tail)) Tryz.isAgg23 Tryz.sizeOf23 (by rfl)⟩ rfl H.ext rfl
       ·
        subst hk85
        rw [if_neg Bool.false_ne_true] at h
        refine WC.skip ?_
        refine WQ.then ?_
        refine WC.seq ?_
        obtain ⟨s86, hxs86, h⟩ := bnd h
        obtain ⟨n87, hx88, h⟩ := bnd h
        refine WC.region ?_
        refine WR.step (Ex.move rfl) (Wn.none rfl) rfl rfl ?_
        refine WR.step (Ex.sliceH Tryz.underlying9 rfl rfl hxs86) (Wn.none rfl) rfl rfl ?_
        refine WR.call H (R_digitsOf_ct hx88) rfl trivial (Wn.none rfl) rfl ?_
        intro v91 M w H hle hR
        replace hs14 := hs14.mono hle
        obtain rfl := hR
        refine WR.step (Ex.fieldAddr Tryz.underlying23 rfl Tryz.sizeOf3 (by decide) rfl) (Wn.none rfl) rfl rfl ?_
        refine WR.store1 [_, _, _, _, _, _, _] H rfl rfl (by repeat (first | exact Upd.head | apply Upd.tail)) (by rfl) Tryz.sizeOf3 (by first | decide | (simp; done) | (simp; omega)) (by rfl) (by rfl) (Wn.none rfl) ?_
        intro w H
        refine WR.nil ?_
        refine WQ.then ?_
        refine WC.seq ?_
        obtain ⟨s89, hxs89, h⟩ := bnd h
        obtain ⟨n90, hx91, h⟩ := bnd h
        refine WC.region ?_
        refine WR.step (Ex.move rfl) (Wn.none rfl) rfl rfl ?_
        refine WR.step (Ex.sliceC Tryz.underlying9 rfl rfl rfl hxs89) (Wn.none rfl) rfl rfl ?_
        refine WR.call H (R_digitsOf_ct hx91) rfl trivial (Wn.none rfl) rfl ?_
        intro v95 M w H hle hR
        replace hs14 := hs14.mono hle
        obtain rfl := hR
        refine WR.step (Ex.fieldAddr Tryz.underlying23 rfl Tryz.sizeOf3 (by decide) rfl) (Wn.none rfl) rfl rfl ?_
        refine WR.store1 [_, _, _, _, _, _, _] H rfl rfl (by repeat (first | exact Upd.head | apply Upd.tail)) (by rfl) Tryz.sizeOf3 (by first | decide | (simp; done) | (simp; omega)) (by rfl) (by rfl) (Wn.none rfl) ?_
        intro w H
        refine WR.nil ?_
        refine WQ.then ?_
        refine WC.seq ?_
        refine WC.seq ?_
        refine WC.region ?_
        refine WR.step (Ex.move rfl) (Wn.none rfl) rfl rfl ?_
        refine WR.step (Ex.lenStr Tryz.underlying9 rfl) (Wn.none rfl) rfl rfl ?_
        refine WR.step (Ex.eql rfl rfl) (Wn.none rfl) rfl rfl ?_
        refine WR.nil ?_
        refine WQ.then ?_
        obtain ⟨o92, e93, h⟩ := bnd h
        refine WC.cutX (fun e w => ∃ (n94 : Int) (n95 : Int) (n96 : Int) (n97 : Int) (n98 : Int) (n99 : Int) (n100 : Int) (M : Mem), e = [(2, ptr b2 0), (4, v13), (7, ptr b43 0)] ∧ St w0 M0 M [.blk b2 (.cells #[I n5, I n6, I n7, I n8, I n9, I n10, I n11] 23), .blk b43 (.cells #[I n94, I n95, I n96, I n97, I n98, I n99, I n100] 23)] w ∧ Sl M encS v13 l12 ∧ some (n94, n95, n96, n97, n98, n99, n100) = some o92) [] ?_ ?_ (trivial)
        ·
         refine WC.condB rfl (fun hk101 => ?_) (fun hk101 => ?_)
         ·
          replace hk101 : (a70.length : Int) = (8 : Int) := of_decide_eq_true hk101
          rw [if_pos hk101] at e93
          obtain ⟨s102, hxs102, e93⟩ := bnd e93
          obtain ⟨n103, hx104, e93⟩ := bnd e93
          refine WC.region ?_
          refine WR.step (Ex.move rfl) (Wn.none rfl) rfl rfl ?_
          refine WR.step (Ex.sliceL Tryz.underlying9 rfl rfl hxs102) (Wn.none rfl) rfl rfl ?_
          refine WR.call H (R_digitsOf_ct hx104) rfl trivial (Wn.none rfl) rfl ?_
          intro v102 M w H hle hR
          replace hs14 := hs14.mono hle
          obtain rfl := hR
          refine WR.step (Ex.fieldAddr Tryz.underlying23 rfl Tryz.sizeOf3 (by decide) rfl) (Wn.none rfl) rfl rfl ?_
          refine WR.store1 [_, _, _, _, _, _, _] H rfl rfl (by repeat (first | exact Upd.head | apply Upd.tail)) (by rfl) Tryz.sizeOf3 (by first | decide | (simp; done) | (simp; omega)) (by rfl) (by rfl) (Wn.none rfl) ?_
          intro w H
          refine WR.nil ?_
          exact WQ.meetN [(2, _), (4, _), (7, _)] ⟨rfl, rfl, rfl, trivial⟩ ⟨_, _, _, _, _, _, _, _, rfl, H, hs14, e93⟩
         ·
          replace hk101 : ¬ ((a70.length : Int) = (8 : Int)) := of_decide_eq_false hk101
          rw [if_neg hk101] at e93
          refine WC.skip ?_
          exact WQ.meetN [(2, _), (4, _), (7, _)] ⟨rfl, rfl, rfl, trivial⟩ ⟨_, _, _, _, _, _, _, _, rfl, H, hs14, e93⟩
        ·
         rintro e w ⟨n94, n95, n96, n97, n98, n99, n100, M, rfl, H, hs14, q105⟩
         obtain rfl := Option.some.inj q105
         try dsimp only at h
         refine WQ.then ?_
         refine WC.seq ?_
         obtain ⟨a106, hxa106, h⟩ := bnd h
         refine WC.region ?_
         refine WR.step (Ex.move rfl) (Wn.none rfl) rfl rfl ?_
         refine WR.idxC Tryz.underlying59 Tryz.sizeOf9 (hs14) rfl rfl hxa106 (Wn.none rfl) rfl ?_
         intro p105 hc105
         refine WR.step (Ex.loadM H rfl hc105 Tryz.isAgg9) (Wn.none rfl) rfl rfl ?_
         refine WR.step (Ex.assign rfl) (Wn.none rfl) rfl rfl ?_
         refine WR.nil ?_
         refine WQ.then ?_
         refine WC.seq ?_
         refine WC.seq ?_
         obtain ⟨o107, e108, h⟩ := bnd h
         refine WC.cutX (fun e w => ∃ (b109 : Bool) (M : Mem), e = [(2, ptr b2 0), (7, ptr b43 0), (10, S a106), (116, Value.bool b109)] ∧ St w0 M0 M [.blk b2 (.cells #[I n5, I n6, I n7, I n8, I n9, I n10, I n11] 23), .blk b43 (.cells #[I n94, I n95, I n96, I n97, I n98, I n99, I n100] 23)] w ∧ some b109 = some o107) [] ?_ ?_ (trivial)
         ·
          by_cases hk110 : a106 = [71, 77, 84]
          ·
           rw [if_pos hk110] at e108
           refine WC.region ?_
           refine WR.step (Ex.move rfl) (Wn.none rfl) rfl rfl ?_
           refine WR.stepE (v' := .bool false) (Ex.strNeqC rfl rfl) (congrArg Value.bool (by rw [decide_eq_true hk110]; rfl)) (Wn.none rfl) rfl rfl ?_
           refine WR.step (Ex.move rfl) (Wn.none rfl) rfl rfl ?_
           refine WR.skipG (b := false) rfl rfl rfl rfl rfl ?_
           refine WR.skipG (b := false) rfl rfl rfl rfl rfl ?_
           refine WR.step (Ex.pickF rfl rfl) (Wn.none rfl) rfl rfl ?_
           refine WR.step (Ex.move rfl) (Wn.none rfl) rfl rfl ?_
           refine WR.skipG (b := false) rfl rfl rfl rfl rfl ?_
           refine WR.skipG (b := false) rfl rfl rfl rfl rfl ?_
           refine WR.step (Ex.pickF rfl rfl) (Wn.none rfl) rfl rfl ?_
           refine WR.nil ?_
           exact WQ.meetN [(2, _), (7, _), (10, _), (116, _)] ⟨rfl, rfl, rfl, rfl, trivial⟩ ⟨_, _, rfl, H, e108⟩
          ·
           rw [if_neg hk110] at e108
           refine WC.region ?_
           refine WR.step (Ex.move rfl) (Wn.none rfl) rfl rfl ?_
           refine WR.stepE (v' := .bool true) (Ex.strNeqC rfl rfl) (congrArg Value.bool (by rw [decide_eq_false hk110]; rfl)) (Wn.none rfl) rfl rfl ?_
           by_cases hk111 : a106 = [85, 84]
           ·
            rw [if_pos hk111] at e108
            refine WR.step (Ex.move rfl) (Wn.none rfl) rfl rfl ?_
            refine WR.step (Ex.move rfl) (Wn.some rfl rfl rfl) rfl rfl ?_
            refine WR.stepE (v' := .bool false) (Ex.strNeqC rfl rfl) (congrArg Value.bool (by rw [decide_eq_true hk111]; rfl)) (Wn.some rfl rfl rfl) rfl rfl ?_
            refine WR.step (Ex.pickT rfl rfl) (Wn.none rfl) rfl rfl ?_
            refine WR.step (Ex.move rfl) (Wn.none rfl) rfl rfl ?_
            refine WR.skipG (b := false) rfl rfl rfl rfl rfl ?_
            refine WR.skipG (b := false) rfl rfl rfl rfl rfl ?_
            refine WR.step (Ex.pickF rfl rfl) (Wn.none rfl) rfl rfl ?_
            refine WR.nil ?_
            exact WQ.meetN [(2, _), (7, _), (10, _), (116, _)] ⟨rfl, rfl, rfl, rfl, trivial⟩ ⟨_, _, rfl, H, e108⟩
           ·
            rw [if_neg hk111] at e108
            refine WR.step (Ex.move rfl) (Wn.none rfl) rfl rfl ?_
            refine WR.step (Ex.move rfl) (Wn.some rfl rfl rfl) rfl rfl ?_
            refine WR.stepE (v' := .bool true) (Ex.strNeqC rfl rfl) (congrArg Value.bool (by rw [decide_eq_false hk111]; rfl)) (Wn.some rfl rfl rfl) rfl rfl ?_
            refine WR.step (Ex.pickT rfl rfl) (Wn.none rfl) rfl rfl ?_
            refine WR.step (Ex.move rfl) (Wn.none rfl) rfl rfl ?_
            refine WR.step (Ex.move rfl) (Wn.some rfl rfl rfl) rfl rfl ?_
            refine WR.step (Ex.strNeqC rfl rfl) (Wn.some rfl rfl rfl) rfl rfl ?_
            refine WR.step (Ex.pickT rfl rfl) (Wn.none rfl) rfl rfl ?_
            refine WR.nil ?_
            exact WQ.meetN [(2, _), (7, _), (10, _), (116, _)] ⟨rfl, rfl, rfl, rfl, trivial⟩ ⟨_, _, rfl, H, e108⟩
         ·
          rintro e w ⟨b109, M, rfl, H, q112⟩
          obtain rfl := Option.some.inj q112
          refine WQ.then ?_
          obtain ⟨o113, e114, h⟩ := bnd h
          refine WC.cutX (fun e w => ∃ (n115 : Int) (n116 : Int) (n117 : Int) (n118 : Int) (n119 : Int) (n120 : Int) (n121 : Int) (n122 : Int) (n123 : Int) (n124 : Int) (n125 : Int) (n126 : Int) (n127 : Int) (n128 : Int) (M : Mem), e = [(2, ptr b2 0), (7, ptr b43 0)] ∧ St w0 M0 M [.blk b2 (.cells #[I n115, I n116, I n117, I n118, I n119, I n120, I n121] 23), .blk b43 (.cells #[I n122, I n123, I n124, I n125, I n126, I n127, I n128] 23)] w ∧ some (.inl (n115, n116, n117, n118, n119, n120, n121, n122, n123, n124, n125, n126, n127, n128)) = some o113) [] ?_ ?_ (trivial)
          ·
           refine WC.condB rfl (fun hk129 => ?_) (fun hk129 => ?_)
           ·
            subst hk129
            rw [if_pos rfl] at e114
            refine WC.seq ?_
            refine WC.seq ?_
            obtain ⟨o130, e131, e114⟩ := bnd e114
            refine WC.cutX (fun e w => ∃ (b132 : Bool) (M : Mem), e = [(2, ptr b2 0), (7, ptr b43 0), (10, S a106), (129, Value.bool b132)] ∧ St w0 M0 M [.blk b2 (.cells #[I n5, I n6, I n7, I n8, I n9, I n10, I n11] 23), .blk b43 (.cells #[I n94, I n95, I n96, I n97, I n98, I n99, I n100] 23)] w ∧ some b132 = some o130) [] ?_ ?_ (trivial)
            ·
             refine WC.region ?_
             refine WR.step (Ex.move rfl) (Wn.none rfl) rfl rfl ?_
             refine WR.step (Ex.lenStr Tryz.underlying9 rfl) (Wn.none rfl) rfl rfl ?_
             by_cases hk133 : (a106.length : Int) = (5 : Int)
             ·
              rw [if_pos hk133] at e131
              obtain ⟨c134, hxc134, e131⟩ := bnd e131
              by_cases hk135 : c134 = 43
              ·
               rw [if_pos hk135] at e131
               refine WR.stepE (v' := .bool false) (Ex.neqC rfl rfl) (congrArg Value.bool (by rw [decide_eq_true hk133]; rfl)) (Wn.none rfl) rfl rfl ?_
               refine WR.step (Ex.move rfl) (Wn.none rfl) rfl rfl ?_
               refine WR.step (Ex.move rfl) (Wn.some rfl rfl rfl) rfl rfl ?_
               refine WR.step (Ex.idxStrC Tryz.underlying9 rfl rfl hxc134) (Wn.some rfl rfl rfl) rfl rfl ?_
               refine WR.stepE (v' := .bool false) (Ex.neqB (c := c134) (d := 43) rfl rfl) (congrArg Value.bool (by rw [decide_eq_true hk135]; rfl)) (Wn.some rfl rfl rfl) rfl rfl ?_
               refine WR.step (Ex.move rfl) (Wn.some rfl rfl rfl) rfl rfl ?_
               refine WR.skipN 3 rfl rfl ?_
               refine WR.step (Ex.pickF rfl rfl) (Wn.some rfl rfl rfl) rfl rfl ?_
               refine WR.step (Ex.pickF rfl rfl) (Wn.none rfl) rfl rfl ?_
               refine WR.nil ?_
               exact WQ.meetN [(2, _), (7, _), (10, _), (129, _)] ⟨rfl, rfl, rfl, rfl, trivial⟩ ⟨_, _, rfl, H, e131⟩
              ·
               rw [if_neg hk135] at e131
               obtain ⟨c136, hxc136, e131⟩ := bnd e131
               refine WR.stepE (v' := .bool false) (Ex.neqC rfl rfl) (congrArg Value.bool (by rw [decide_eq_true hk133]; rfl)) (Wn.none rfl) rfl rfl ?_
               refine WR.step (Ex.move rfl) (Wn.none rfl) rfl rfl ?_
               refine WR.step (Ex.move rfl) (Wn.some rfl rfl rfl) rfl rfl ?_
               refine WR.step (Ex.idxStrC Tryz.underlying9 rfl rfl hxc134) (Wn.some rfl rfl rfl) rfl rfl ?_
               refine WR.stepE (v' := .bool true) (Ex.neqB (c := c134) (d := 43) rfl rfl) (congrArg Value.bool (by rw [decide_eq_false hk135]; rfl)) (Wn.some rfl rfl rfl) rfl rfl ?_
               refine WR.step (Ex.move rfl) (Wn.some rfl rfl rfl) rfl rfl ?_
               refine WR.step (Ex.move rfl) (Wn.some rfl rfl rfl) rfl rfl ?_
               refine WR.step (Ex.idxStrC Tryz.underlying9 rfl rfl hxc136) (Wn.some rfl rfl rfl) rfl rfl ?_
               refine WR.step (Ex.neqB (c := c136) (d := 45) rfl rfl) (Wn.some rfl rfl rfl) rfl rfl ?_
               refine WR.step (Ex.pickT rfl rfl) (Wn.some rfl rfl rfl) rfl rfl ?_
               refine WR.step (Ex.pickF rfl rfl) (Wn.none rfl) rfl rfl ?_
               refine WR.nil ?_
               exact WQ.meetN [(2, _), (7, _), (10, _), (129, _)] ⟨rfl, rfl, rfl, rfl, trivial⟩ ⟨_, _, rfl, H, e131⟩
             ·
              rw [if_neg hk133] at e131
              refine WR.stepE (v' := .bool true) (Ex.neqC rfl rfl) (congrArg Value.bool (by rw [decide_eq_false hk133]; rfl)) (Wn.none rfl) rfl rfl ?_
              refine WR.step (Ex.move rfl) (Wn.none rfl) rfl rfl ?_
              refine WR.skipN 8 rfl rfl ?_
              refine WR.step (Ex.pickT rfl rfl) (Wn.none rfl) rfl rfl ?_
              refine WR.nil ?_
              exact WQ.meetN [(2, _), (7, _), (10, _), (129, _)] ⟨rfl, rfl, rfl, rfl, trivial⟩ ⟨_, _, rfl, H, e131⟩
            ·
             rintro e w ⟨b132, M, rfl, H, q137⟩
             obtain rfl := Option.some.inj q137
             refine WQ.then ?_
             refine WC.condB rfl (fun hk138 => ?_) (fun hk138 => ?_)
             ·
              subst hk138
              rw [if_pos rfl] at e114
              refine WC.seq ?_
              refine WC.region ?_
              refine WR.step (Ex.build [I 0, I 0, I 0, I 0, I 0, I 0, I 0] Tryz.underlying23 Tryz.zeroValue23 (xplaces23 Tryz.underlying23) rfl (by kernel_rfl)) (Wn.none rfl) rfl rfl ?_
              refine WR.store [_, _, _, _, _, _, _] H rfl rfl rfl (by repeat (first | exact Upd.head | apply Upd.tail)) Tryz.sizeOf23 rfl (by rfl) (by rfl) (Wn.none rfl) ?_
              intro w H
              refine WR.step (Ex.assign rfl) (Wn.none rfl) rfl rfl ?_
              refine WR.nil ?_
              refine WQ.then ?_
              refine WC.ret ?_
              (repeat (first | refine WQ.thenRet ?_ | refine WQ.inBlockRet ?_ | refine WQ.cutRet ?_ | refine WQ.scRet ?_))
              obtain rfl := Option.some.inj e114
              try dsimp only at h
              obtain rfl := Option.some.inj h
              exact WQ.ret2 rfl ⟨_, rfl, H.loadAgg (by repeat (first | exact List.Mem.head _ | apply List.Mem.tail)) Tryz.isAgg23 Tryz.sizeOf23 (by rfl)⟩ rfl H.ext rfl
             ·
              subst hk138
              rw [if_neg Bool.false_ne_true] at e114
              refine WC.skip ?_
              refine WQ.then ?_
              refine WC.seq ?_
              obtain ⟨s139, hxs139, e114⟩ := bnd e114
              obtain ⟨n140, hx141, e114⟩ := bnd e114
              refine WC.region ?_
              refine WR.step (Ex.move rfl) (Wn.none rfl) rfl rfl ?_
              refine WR.step (Ex.sliceC Tryz.underlying9 rfl rfl rfl hxs139) (Wn.none rfl) rfl rfl ?_
              refine WR.call H (R_digitsOf_ct hx141) rfl trivial (Wn.none rfl) rfl ?_
              intro v133 M w H hle hR
              obtain rfl := hR
              refine WR.step (Ex.assign rfl) (Wn.none rfl) rfl rfl ?_
              refine WR.nil ?_
              refine WQ.then ?_
              refine WC.seq ?_
              obtain ⟨s142, hxs142, e114⟩ := bnd e114
              obtain ⟨n143, hx144, e114⟩ := bnd e114
              refine WC.region ?_
              refine WR.step (Ex.move rfl) (Wn.none rfl) rfl rfl ?_
              refine WR.step (Ex.sliceL Tryz.underlying9 rfl rfl hxs142) (Wn.none rfl) rfl rfl ?_
              refine WR.call H (R_digitsOf_ct hx144) rfl trivial (Wn.none rfl) rfl ?_
              intro v136 M w H hle hR
              obtain rfl := hR
              refine WR.step (Ex.assign rfl) (Wn.none rfl) rfl rfl ?_
              refine WR.nil ?_
              refine WQ.then ?_
              refine WC.seq ?_
              refine WC.seq ?_
              obtain ⟨o145, e146, e114⟩ := bnd e114
              refine WC.cutX (fun e w => ∃ (b147 : Bool) (M : Mem), e = [(2, ptr b2 0), (7, ptr b43 0), (10, S a106), (11, I n140), (12, I n143), (143, Value.bool b147)] ∧ St w0 M0 M [.blk b2 (.cells #[I n5, I n6, I n7, I n8, I n9, I n10, I n11] 23), .blk b43 (.cells #[I n94, I n95, I n96, I n97, I n98, I n99, I n100] 23)] w ∧ some b147 = some o145) [] ?_ ?_ (trivial)
              ·
               by_cases hk148 : n140 < (0 : Int)
               ·
                rw [if_pos hk148] at e146
                refine WC.region ?_
                refine WR.step (Ex.move rfl) (Wn.none rfl) rfl rfl ?_
                refine WR.stepE (v' := .bool true) (Ex.lss rfl rfl) (congrArg Value.bool (decide_eq_true hk148)) (Wn.none rfl) rfl rfl ?_
                refine WR.step (Ex.move rfl) (Wn.none rfl) rfl rfl ?_
                refine WR.skipN 3 rfl rfl ?_
                refine WR.step (Ex.pickT rfl rfl) (Wn.none rfl) rfl rfl ?_
                refine WR.nil ?_
                exact WQ.meetN [(2, _), (7, _), (10, _), (11, _), (12, _), (143, _)] ⟨rfl, rfl, rfl, rfl, rfl, rfl, trivial⟩ ⟨_, _, rfl, H, e146⟩
               ·
                rw [if_neg hk148] at e146
                obtain ⟨b149, hx150, e146⟩ := bnd e146
                refine WC.region ?_
                refine WR.step (Ex.move rfl) (Wn.none rfl) rfl rfl ?_
                refine WR.stepE (v' := .bool false) (Ex.lss rfl rfl) (congrArg Value.bool (decide_eq_false hk148)) (Wn.none rfl) rfl rfl ?_
                refine WR.step (Ex.move rfl) (Wn.none rfl) rfl rfl ?_
                refine WR.step (Ex.move rfl) (Wn.some rfl rfl rfl) rfl rfl ?_
                refine WR.call H (R_In_ct hx150) rfl trivial (Wn.some rfl rfl rfl) rfl ?_
                intro v141 M w H hle hR
                obtain rfl := hR
                refine WR.step (Ex.not rfl) (Wn.some rfl rfl rfl) rfl rfl ?_
                refine WR.step (Ex.pickF rfl rfl) (Wn.none rfl) rfl rfl ?_
                refine WR.nil ?_
                exact WQ.meetN [(2, _), (7, _), (10, _), (11, _), (12, _), (143, _)] ⟨rfl, rfl, rfl, rfl, rfl, rfl, trivial⟩ ⟨_, _, rfl, H, e146⟩
              ·
               rintro e w ⟨b147, M, rfl, H, q151⟩
               obtain rfl := Option.some.inj q151
               refine WQ.then ?_
               refine WC.condB rfl (fun hk152 => ?_) (fun hk152 => ?_)
               ·
                subst hk152
                rw [if_pos rfl] at e114
                refine WC.seq ?_
                refine WC.region ?_
                refine WR.step (Ex.build [I 0, I 0, I 0, I 0, I 0, I 0, I 0] Tryz.underlying23 Tryz.zeroValue23 (xplaces23 Tryz.underlying23) rfl (by kernel_rfl)) (Wn.none rfl) rfl rfl ?_
                refine WR.store [_, _, _, _, _, _, _] H rfl rfl rfl (by repeat (first | exact Upd.head | apply Upd.tail)) Tryz.sizeOf23 rfl (by rfl) (by rfl) (Wn.none rfl) ?_
                intro w H
                refine WR.step (Ex.assign rfl) (Wn.none rfl) rfl rfl ?_
                refine WR.nil ?_
                refine WQ.then ?_
                refine WC.ret ?_
                (repeat (first | refine WQ.thenRet ?_ | refine WQ.inBlockRet ?_ | refine WQ.cutRet ?_ | refine WQ.scRet ?_))
                obtain rfl := Option.some.inj e114
                try dsimp only at h
                obtain rfl := Option.some.inj h
                exact WQ.ret2 rfl ⟨_, rfl, H.loadAgg (by repeat (first | exact List.Mem.head _ | apply List.Mem.tail)) Tryz.isAgg23 Tryz.sizeOf23 (by rfl)⟩ rfl H.ext rfl
               ·
                subst hk152
                rw [if_neg Bool.false_ne_true] at e114
                refine WC.skip ?_
                refine WQ.then ?_
                refine WC.seq ?_
                obtain ⟨n153, hxn153, e114⟩ := bnd e114
                obtain ⟨n154, hxn154, e114⟩ := bnd e114
                refine WC.region ?_
                refine WR.step (Ex.move rfl) (Wn.none rfl) rfl rfl ?_
                refine WR.step (Ex.mulC rfl rfl hxn153) (Wn.none rfl) rfl rfl ?_
                refine WR.step (Ex.move rfl) (Wn.none rfl) rfl rfl ?_
                refine WR.step (Ex.addC rfl rfl hxn154) (Wn.none rfl) rfl rfl ?_
                refine WR.step (Ex.fieldAddr Tryz.underlying23 rfl Tryz.sizeOf3 (by decide) rfl) (Wn.none rfl) rfl rfl ?_
                refine WR.store1 [_, _, _, _, _, _, _] H rfl rfl (by repeat (first | exact Upd.head | apply Upd.tail)) (by rfl) Tryz.sizeOf3 (by first | decide | (simp; done) | (simp; omega)) (by rfl) (by rfl) (Wn.none rfl) ?_
                intro w H
                refine WR.nil ?_
                refine WQ.then ?_
                refine WC.seq ?_
                obtain ⟨c155, hxc155, e114⟩ := bnd e114
                refine WC.region ?_
                refine WR.step (Ex.move rfl) (Wn.none rfl) rfl rfl ?_
                refine WR.step (Ex.idxStrC Tryz.underlying9 rfl rfl hxc155) (Wn.none rfl) rfl rfl ?_
                refine WR.step (Ex.eqlB (c := c155) (d := 45) rfl rfl) (Wn.none rfl) rfl rfl ?_
                refine WR.nil ?_
                refine WQ.then ?_
                refine WC.condB rfl (fun hk156 => ?_) (fun hk156 => ?_)
                ·
                 replace hk156 : c155 = 45 := of_decide_eq_true hk156
                 rw [if_pos hk156] at e114
                 obtain ⟨n157, hxn157, e114⟩ := bnd e114
                 refine WC.region ?_
                 refine WR.step (Ex.fieldAddr Tryz.underlying23 rfl Tryz.sizeOf3 (by decide) rfl) (Wn.none rfl) rfl rfl ?_
                 refine WR.step (Ex.load1 H rfl (by repeat (first | exact List.Mem.head _ | apply List.Mem.tail)) Tryz.isAgg3 (by rfl)) (Wn.none rfl) rfl rfl ?_
                 refine WR.step (Ex.negC rfl hxn157) (Wn.none rfl) rfl rfl ?_
                 refine WR.step (Ex.fieldAddr Tryz.underlying23 rfl Tryz.sizeOf3 (by decide) rfl) (Wn.none rfl) rfl rfl ?_
                 refine WR.store1 [_, _, _, _, _, _, _] H rfl rfl (by repeat (first | exact Upd.head | apply Upd.tail)) (by rfl) Tryz.sizeOf3 (by first | decide | (simp; done) | (simp; omega)) (by rfl) (by rfl) (Wn.none rfl) ?_
                 intro w H
                 refine WR.nil ?_
                 exact WQ.meetN [(2, _), (7, _)] ⟨rfl, rfl, trivial⟩ ⟨_, _, _, _, _, _, _, _, _, _, _, _, _, _, _, rfl, H, e114⟩
                ·
                 replace hk156 : ¬ (c155 = 45) := of_decide_eq_false hk156
                 rw [if_neg hk156] at e114
                 refine WC.skip ?_
                 exact WQ.meetN [(2, _), (7, _)] ⟨rfl, rfl, trivial⟩ ⟨_, _, _, _, _, _, _, _, _, _, _, _, _, _, _, rfl, H, e114⟩
           ·
            subst hk129
            rw [if_neg Bool.false_ne_true] at e114
            refine WC.skip ?_
            exact WQ.meetN [(2, _), (7, _)] ⟨rfl, rfl, trivial⟩ ⟨_, _, _, _, _, _, _, _, _, _, _, _, _, _, _, rfl, H, e114⟩
          ·
           rintro e w ⟨n115, n116, n117, n118, n119, n120, n121, n122, n123, n124, n125, n126, n127, n128, M, rfl, H, q158⟩
           obtain rfl := Option.some.inj q158
           try dsimp only at h
           refine WQ.then ?_
           refine WC.seq ?_
           obtain ⟨o159, e160, h⟩ := bnd h
           refine WC.cutX (fun e w => ∃ (n161 : Int) (n162 : Int) (n163 : Int) (n164 : Int) (n165 : Int) (n166 : Int) (n167 : Int) (b168 : Bool) (M : Mem), e = [(2, ptr b2 0), (3, Value.bool b168)] ∧ St w0 M0 M [.blk b2 (.cells #[I n161, I n162, I n163, I n164, I n165, I n166, I n167] 23)] w ∧ some (n161, n162, n163, n164, n165, n166, n167, b168) = some o159) [] ?_ ?_ (trivial)
           ·
            refine WC.draw (m := 31) rfl rfl H ?_
            intro w H
            refine WA.take (i := 1) rfl (by kernel_rfl) (by kernel_rfl) (by kernel_rfl) (fun _ => Ex.fieldAddr Tryz.underlying23 rfl Tryz.sizeOf3 (by decide) rfl) (Wn.none rfl) rfl rfl (fun _ _ => rfl) ?_
            refine WA.takeM (i := 2) [0] rfl (by kernel_rfl) (by kernel_rfl) (by kernel_rfl) (Ex.load1 H rfl (by repeat (first | exact List.Mem.head _ | apply List.Mem.tail)) Tryz.isAgg3 (by rfl)) (Wn.none rfl) rfl rfl (fun _ _ => rfl) ?_
            by_cases hk169 : (0 : Int) ≤ n124
            ·
             rw [if_pos hk169] at e160
             refine WA.takeE (v' := .bool true) (i := 3) rfl (by kernel_rfl) (by kernel_rfl) (by kernel_rfl) (fun _ => Ex.geq rfl rfl) (congrArg Value.bool (decide_eq_true hk169)) (Wn.none rfl) rfl rfl (fun _ _ => rfl) ?_
             by_cases hk170 : (0 : Int) ≤ n122
             ·
              rw [if_pos hk170] at e160
              by_cases hk171 : (0 : Int) < n123
              ·
               rw [if_pos hk171] at e160
               by_cases hk172 : (0 : Int) ≤ n125
               ·
                rw [if_pos hk172] at e160
                by_cases hk173 : (0 : Int) ≤ n126
                ·
                 rw [if_pos hk173] at e160
                 refine WA.take (i := 4) rfl (by kernel_rfl) (by kernel_rfl) (by kernel_rfl) (fun _ => Ex.move rfl) (Wn.none rfl) rfl rfl (fun _ _ => rfl) ?_
                 refine WA.take (i := 5) rfl (by kernel_rfl) (by kernel_rfl) (by kernel_rfl) (fun _ => Ex.fieldAddr Tryz.underlying23 rfl Tryz.sizeOf3 (by decide) rfl) (Wn.some rfl rfl rfl) rfl rfl (fun _ _ => rfl) ?_
                 refine WA.takeM (i := 6) [0] rfl (by kernel_rfl) (by kernel_rfl) (by kernel_rfl) (Ex.load1 H rfl (by repeat (first | exact List.Mem.head _ | apply List.Mem.tail)) Tryz.isAgg3 (by rfl)) (Wn.some rfl rfl rfl) rfl rfl (fun _ _ => rfl) ?_
                 refine WA.takeE (v' := .bool true) (i := 7) rfl (by kernel_rfl) (by kernel_rfl) (by kernel_rfl) (fun _ => Ex.geq rfl rfl) (congrArg Value.bool (decide_eq_true hk170)) (Wn.some rfl rfl rfl) rfl rfl (fun _ _ => rfl) ?_
                 refine WA.take (i := 8) rfl (by kernel_rfl) (by kernel_rfl) (by kernel_rfl) (fun _ => Ex.pickT rfl rfl) (Wn.none rfl) rfl rfl (fun _ _ => rfl) ?_
                 refine WA.take (i := 9) rfl (by kernel_rfl) (by kernel_rfl) (by kernel_rfl) (fun _ => Ex.move rfl) (Wn.none rfl) rfl rfl (fun _ _ => rfl) ?_
                 refine WA.take (i := 10) rfl (by kernel_rfl) (by kernel_rfl) (by kernel_rfl) (fun _ => Ex.fieldAddr Tryz.underlying23 rfl Tryz.sizeOf3 (by decide) rfl) (Wn.some rfl rfl rfl) rfl rfl (fun _ _ => rfl) ?_
                 refine WA.takeM (i := 11) [0] rfl (by kernel_rfl) (by kernel_rfl) (by kernel_rfl) (Ex.load1 H rfl (by repeat (first | exact List.Mem.head _ | apply List.Mem.tail)) Tryz.isAgg3 (by rfl)) (Wn.some rfl rfl rfl) rfl rfl (fun _ _ => rfl) ?_
                 refine WA.takeE (v' := .bool true) (i := 12) rfl (by kernel_rfl) (by kernel_rfl) (by kernel_rfl) (fun _ => Ex.gtr rfl rfl) (congrArg Value.bool (decide_eq_true hk171)) (Wn.some rfl rfl rfl) rfl rfl (fun _ _ => rfl) ?_
                 refine WA.take (i := 13) rfl (by kernel_rfl) (by kernel_rfl) (by kernel_rfl) (fun _ => Ex.pickT rfl rfl) (Wn.none rfl) rfl rfl (fun _ _ => rfl) ?_
                 refine WA.take (i := 14) rfl (by kernel_rfl) (by kernel_rfl) (by kernel_rfl) (fun _ => Ex.move rfl) (Wn.none rfl) rfl rfl (fun _ _ => rfl) ?_
                 refine WA.take (i := 15) rfl (by kernel_rfl) (by kernel_rfl) (by kernel_rfl) (fun _ => Ex.fieldAddr Tryz.underlying23 rfl Tryz.sizeOf3 (by decide) rfl) (Wn.some rfl rfl rfl) rfl rfl (fun _ _ => rfl) ?_
                 refine WA.takeM (i := 16) [0] rfl (by kernel_rfl) (by kernel_rfl) (by kernel_rfl) (Ex.load1 H rfl (by repeat (first | exact List.Mem.head _ | apply List.Mem.tail)) Tryz.isAgg3 (by rfl)) (Wn.some rfl rfl rfl) rfl rfl (fun _ _ => rfl) ?_
                 refine WA.takeE (v' := .bool true) (i := 17) rfl (by kernel_rfl) (by kernel_rfl) (by kernel_rfl) (fun _ => Ex.geq rfl rfl) (congrArg Value.bool (decide_eq_true hk172)) (Wn.some rfl rfl rfl) rfl rfl (fun _ _ => rfl) ?_
                 refine WA.take (i := 18) rfl (by kernel_rfl) (by kernel_rfl) (by kernel_rfl) (fun _ => Ex.pickT rfl rfl) (Wn.none rfl) rfl rfl (fun _ _ => rfl) ?_
                 refine WA.take (i := 19) rfl (by kernel_rfl) (by kernel_rfl) (by kernel_rfl) (fun _ => Ex.move rfl) (Wn.none rfl) rfl rfl (fun _ _ => rfl) ?_
                 refine WA.take (i := 20) rfl (by kernel_rfl) (by kernel_rfl) (by kernel_rfl) (fun _ => Ex.fieldAddr Tryz.underlying23 rfl Tryz.sizeOf3 (by decide) rfl) (Wn.some rfl rfl rfl) rfl rfl (fun _ _ => rfl) ?_
                 refine WA.takeM (i := 21) [0] rfl (by kernel_rfl) (by kernel_rfl) (by kernel_rfl) (Ex.load1 H rfl (by repeat (first | exact List.Mem.head _ | apply List.Mem.tail)) Tryz.isAgg3 (by rfl)) (Wn.some rfl rfl rfl) rfl rfl (fun _ _ => rfl) ?_
                 refine WA.takeE (v' := .bool true) (i := 22) rfl (by kernel_rfl) (by kernel_rfl) (by kernel_rfl) (fun _ => Ex.geq rfl rfl) (congrArg Value.bool (decide_eq_true hk173)) (Wn.some rfl rfl rfl) rfl rfl (fun _ _ => rfl) ?_
                 refine WA.take (i := 23) rfl (by kernel_rfl) (by kernel_rfl) (by kernel_rfl) (fun _ => Ex.pickT rfl rfl) (Wn.none rfl) rfl rfl (fun _ _ => rfl) ?_
                 refine WA.take (i := 24) rfl (by kernel_rfl) (by kernel_rfl) (by kernel_rfl) (fun _ => Ex.move rfl) (Wn.none rfl) rfl rfl (fun _ _ => rfl) ?_
                 refine WA.take (i := 25) rfl (by kernel_rfl) (by kernel_rfl) (by kernel_rfl) (fun _ => Ex.fieldAddr Tryz.underlying23 rfl Tryz.sizeOf3 (by decide) rfl) (Wn.some rfl rfl rfl) rfl rfl (fun _ _ => rfl) ?_
                 refine WA.two (i := 0) (j := 26) (by kernel_rfl) rfl rfl ?_ ?_
                 ·
                  refine WR.step (Ex.loadAgg H rfl (by repeat (first | exact List.Mem.head _ | apply List.Mem.tail)) Tryz.isAgg23 Tryz.sizeOf23 (by rfl)) (Wn.none rfl) rfl rfl ?_
                  refine WR.nil (WQ.any ?_)
                  refine WA.two (i := 26) (j := 29) (by kernel_rfl) rfl rfl ?_ ?_
                  ·
                   refine WR.step (Ex.load1 H rfl (by repeat (first | exact List.Mem.head _ | apply List.Mem.tail)) Tryz.isAgg3 (by rfl)) (Wn.some rfl rfl rfl) rfl rfl ?_
                   refine WR.nil (WQ.any ?_)
                   refine WA.take (i := 27) rfl (by kernel_rfl) (by kernel_rfl) (by kernel_rfl) (fun _ => Ex.geq rfl rfl) (Wn.some rfl rfl rfl) rfl rfl (fun _ _ => rfl) ?_
                   refine WA.take (i := 28) rfl (by kernel_rfl) (by kernel_rfl) (by kernel_rfl) (fun _ => Ex.pickT rfl rfl) (Wn.none rfl) rfl rfl (fun _ _ => rfl) ?_
                   refine WA.seq (fuel := 0) [29, 30] rfl (by kernel_rfl) ?_
                   refine WR.store [_, _, _, _, _, _, _] H rfl rfl rfl (by repeat (first | exact Upd.head | apply Upd.tail)) Tryz.sizeOf23 rfl (by rfl) (by rfl) (Wn.none rfl) ?_
                   intro w H
                   refine WR.step (Ex.assign rfl) (Wn.none rfl) rfl rfl ?_
                   refine WR.nil (WQ.any ?_)
                   refine WA.done (by kernel_rfl) ?_
                   exact WQ.meetN [(2, _), (3, _)] ⟨rfl, rfl, trivial⟩ ⟨_, _, _, _, _, _, _, _, _, rfl, (H.pick (L' := [.blk b2 (.cells #[I n122, I n123, I n124, I n125, I n126, I n127, I n128] 23)]) (by repeat (first | exact Pick.nil | refine Pick.cons (by repeat (first | exact Rem.head | apply Rem.tail)) ?_))), e160⟩
                  ·
                   refine WR.store [_, _, _, _, _, _, _] H rfl rfl rfl (by repeat (first | exact Upd.head | apply Upd.tail)) Tryz.sizeOf23 rfl (by rfl) (by rfl) (Wn.none rfl) ?_
                   intro w H
                   refine WR.nil (WQ.any ?_)
                   refine WA.seq (fuel := 0) [26, 27, 28, 30] rfl (by kernel_rfl) ?_
                   refine WR.step (Ex.load1 H rfl (by repeat (first | exact List.Mem.head _ | apply List.Mem.tail)) Tryz.isAgg3 (by rfl)) (Wn.some rfl rfl rfl) rfl rfl ?_
                   refine WR.step (Ex.geq rfl rfl) (Wn.some rfl rfl rfl) rfl rfl ?_
                   refine WR.step (Ex.pickT rfl rfl) (Wn.none rfl) rfl rfl ?_
                   refine WR.step (Ex.assign rfl) (Wn.none rfl) rfl rfl ?_
                   refine WR.nil (WQ.any ?_)
                   refine WA.done (by kernel_rfl) ?_
                   exact WQ.meetN [(2, _), (3, _)] ⟨rfl, rfl, trivial⟩ ⟨_, _, _, _, _, _, _, _, _, rfl, (H.pick (L' := [.blk b2 (.cells #[I n122, I n123, I n124, I n125, I n126, I n127, I n128] 23)]) (by repeat (first | exact Pick.nil | refine Pick.cons (by repeat (first | exact Rem.head | apply Rem.tail)) ?_))), e160⟩
                 ·
                  refine WR.step (Ex.load1 H rfl (by repeat (first | exact List.Mem.head _ | apply List.Mem.tail)) Tryz.isAgg3 (by rfl)) (Wn.some rfl rfl rfl) rfl rfl ?_
                  refine WR.nil (WQ.any ?_)
                  refine WA.take (i := 27) rfl (by kernel_rfl) (by kernel_rfl) (by kernel_rfl) (fun _ => Ex.geq rfl rfl) (Wn.some rfl rfl rfl) rfl rfl (fun _ _ => rfl) ?_
                  refine WA.take (i := 28) rfl (by kernel_rfl) (by kernel_rfl) (by kernel_rfl) (fun _ => Ex.pickT rfl rfl) (Wn.none rfl) rfl rfl (fun _ _ => rfl) ?_
                  refine WA.seq (fuel := 0) [0, 29, 30] rfl (by kernel_rfl) ?_
                  refine WR.step (Ex.loadAgg H rfl (by repeat (first | exact List.Mem.head _ | apply List.Mem.tail)) Tryz.isAgg23 Tryz.sizeOf23 (by rfl)) (Wn.none rfl) rfl rfl ?_
                  refine WR.store [_, _, _, _, _, _, _] H rfl rfl rfl (by repeat (first | exact Upd.head | apply Upd.tail)) Tryz.sizeOf23 rfl (by rfl) (by rfl) (Wn.none rfl) ?_
                  intro w H
                  refine WR.step (Ex.assign rfl) (Wn.none rfl) rfl rfl ?_
                  refine WR.nil (WQ.any ?_)
                  refine WA.done (by kernel_rfl) ?_
                  exact WQ.meetN [(2, _), (3, _)] ⟨rfl, rfl, trivial⟩ ⟨_, _, _, _, _, _, _, _, _, rfl, (H.pick (L' := [.blk b2 (.cells #[I n122, I n123, I n124, I n125, I n126, I n127, I n128] 23)]) (by repeat (first | exact Pick.nil | refine Pick.cons (by repeat (first | exact Rem.head | apply Rem.tail)) ?_))), e160⟩
                ·
                 rw [if_neg hk173] at e160
                 refine WA.take (i := 4) rfl (by kernel_rfl) (by kernel_rfl) (by kernel_rfl) (fun _ => Ex.move rfl) (Wn.none rfl) rfl rfl (fun _ _ => rfl) ?_
                 refine WA.take (i := 5) rfl (by kernel_rfl) (by kernel_rfl) (by kernel_rfl) (fun _ => Ex.fieldAddr Tryz.underlying23 rfl Tryz.sizeOf3 (by decide) rfl) (Wn.some rfl rfl rfl) rfl rfl (fun _ _ => rfl) ?_
                 refine WA.takeM (i := 6) [0] rfl (by kernel_rfl) (by kernel_rfl) (by kernel_rfl) (Ex.load1 H rfl (by repeat (first | exact List.Mem.head _ | apply List.Mem.tail)) Tryz.isAgg3 (by rfl)) (Wn.some rfl rfl rfl) rfl rfl (fun _ _ => rfl) ?_
                 refine WA.takeE (v' := .bool true) (i := 7) rfl (by kernel_rfl) (by kernel_rfl) (by kernel_rfl) (fun _ => Ex.geq rfl rfl) (congrArg Value.bool (decide_eq_true hk170)) (Wn.some rfl rfl rfl) rfl rfl (fun _ _ => rfl) ?_
                 refine WA.take (i := 8) rfl (by kernel_rfl) (by kernel_rfl) (by kernel_rfl) (fun _ => Ex.pickT rfl rfl) (Wn.none rfl) rfl rfl (fun _ _ => rfl) ?_
                 refine WA.take (i := 9) rfl (by kernel_rfl) (by kernel_rfl) (by kernel_rfl) (fun _ => Ex.move rfl) (Wn.none rfl) rfl rfl (fun _ _ => rfl) ?_
                 refine WA.take (i := 10) rfl (by kernel_rfl) (by kernel_rfl) (by kernel_rfl) (fun _ => Ex.fieldAddr Tryz.underlying23 rfl Tryz.sizeOf3 (by decide) rfl) (Wn.some rfl rfl rfl) rfl rfl (fun _ _ => rfl) ?_
                 refine WA.takeM (i := 11) [0] rfl (by kernel_rfl) (by kernel_rfl) (by kernel_rfl) (Ex.load1 H rfl (by repeat (first | exact List.Mem.head _ | apply List.Mem.tail)) Tryz.isAgg3 (by rfl)) (Wn.some rfl rfl rfl) rfl rfl (fun _ _ => rfl) ?_
                 refine WA.takeE (v' := .bool true) (i := 12) rfl (by kernel_rfl) (by kernel_rfl) (by kernel_rfl) (fun _ => Ex.gtr rfl rfl) (congrArg Value.bool (decide_eq_true hk171)) (Wn.some rfl rfl rfl) rfl rfl (fun _ _ => rfl) ?_
                 refine WA.take (i := 13) rfl (by kernel_rfl) (by kernel_rfl) (by kernel_rfl) (fun _ => Ex.pickT rfl rfl) (Wn.none rfl) rfl rfl (fun _ _ => rfl) ?_
                 refine WA.take (i := 14) rfl (by kernel_rfl) (by kernel_rfl) (by kernel_rfl) (fun _ => Ex.move rfl) (Wn.none rfl) rfl rfl (fun _ _ => rfl) ?_
                 refine WA.take (i := 15) rfl (by kernel_rfl) (by kernel_rfl) (by kernel_rfl) (fun _ => Ex.fieldAddr Tryz.underlying23 rfl Tryz.sizeOf3 (by decide) rfl) (Wn.some rfl rfl rfl) rfl rfl (fun _ _ => rfl) ?_
                 refine WA.takeM (i := 16) [0] rfl (by kernel_rfl) (by kernel_rfl) (by kernel_rfl) (Ex.load1 H rfl (by repeat (first | exact List.Mem.head _ | apply List.Mem.tail)) Tryz.isAgg3 (by rfl)) (Wn.some rfl rfl rfl) rfl rfl (fun _ _ => rfl) ?_
                 refine WA.takeE (v' := .bool true) (i := 17) rfl (by kernel_rfl) (by kernel_rfl) (by kernel_rfl) (fun _ => Ex.geq rfl rfl) (congrArg Value.bool (decide_eq_true hk172)) (Wn.some rfl rfl rfl) rfl rfl (fun _ _ => rfl) ?_
                 refine WA.take (i := 18) rfl (by kernel_rfl) (by kernel_rfl) (by kernel_rfl) (fun _ => Ex.pickT rfl rfl) (Wn.none rfl) rfl rfl (fun _ _ => rfl) ?_
                 refine WA.take (i := 19) rfl (by kernel_rfl) (by kernel_rfl) (by kernel_rfl) (fun _ => Ex.move rfl) (Wn.none rfl) rfl rfl (fun _ _ => rfl) ?_
                 refine WA.take (i := 20) rfl (by kernel_rfl) (by kernel_rfl) (by kernel_rfl) (fun _ => Ex.fieldAddr Tryz.underlying23 rfl Tryz.sizeOf3 (by decide) rfl) (Wn.some rfl rfl rfl) rfl rfl (fun _ _ => rfl) ?_
                 refine WA.takeM (i := 21) [0] rfl (by kernel_rfl) (by kernel_rfl) (by kernel_rfl) (Ex.load1 H rfl (by repeat (first | exact List.Mem.head _ | apply List.Mem.tail)) Tryz.isAgg3 (by rfl)) (Wn.some rfl rfl rfl) rfl rfl (fun _ _ => rfl) ?_
                 refine WA.takeE (v' := .bool false) (i := 22) rfl (by kernel_rfl) (by kernel_rfl) (by kernel_rfl) (fun _ => Ex.geq rfl rfl) (congrArg Value.bool (decide_eq_false hk173)) (Wn.some rfl rfl rfl) rfl rfl (fun _ _ => rfl) ?_
                 refine WA.take (i := 23) rfl (by kernel_rfl) (by kernel_rfl) (by kernel_rfl) (fun _ => Ex.pickT rfl rfl) (Wn.none rfl) rfl rfl (fun _ _ => rfl) ?_
                 refine WA.take (i := 24) rfl (by kernel_rfl) (by kernel_rfl) (by kernel_rfl) (fun _ => Ex.move rfl) (Wn.none rfl) rfl rfl (fun _ _ => rfl) ?_
                 refine WA.takes (fuel := 4) [25, 26, 27] rfl (by kernel_rfl) (by kernel_rfl) rfl ?_
                 refine WA.take (i := 28) rfl (by kernel_rfl) (by kernel_rfl) (by kernel_rfl) (fun _ => Ex.pickF rfl rfl) (Wn.none rfl) rfl rfl (fun _ _ => rfl) ?_
                 refine WA.seq (fuel := 0) [0, 29, 30] rfl (by kernel_rfl) ?_
                 refine WR.step (Ex.loadAgg H rfl (by repeat (first | exact List.Mem.head _ | apply List.Mem.tail)) Tryz.isAgg23 Tryz.sizeOf23 (by rfl)) (Wn.none rfl) rfl rfl ?_
                 refine WR.store [_, _, _, _, _, _, _] H rfl rfl rfl (by repeat (first | exact Upd.head | apply Upd.tail)) Tryz.sizeOf23 rfl (by rfl) (by rfl) (Wn.none rfl) ?_
                 intro w H
                 refine WR.step (Ex.assign rfl) (Wn.none rfl) rfl rfl ?_
                 refine WR.nil (WQ.any ?_)
                 refine WA.done (by kernel_rfl) ?_
                 exact WQ.meetN [(2, _), (3, _)] ⟨rfl, rfl, trivial⟩ ⟨_, _, _, _, _, _, _, _, _, rfl, (H.pick (L' := [.blk b2 (.cells #[I n122, I n123, I n124, I n125, I n126, I n127, I n128] 23)]) (by repeat (first | exact Pick.nil | refine Pick.cons (by repeat (first | exact Rem.head | apply Rem.tail)) ?_))), e160⟩
               ·
                rw [if_neg hk172] at e160
                refine WA.take (i := 4) rfl (by kernel_rfl) (by kernel_rfl) (by kernel_rfl) (fun _ => Ex.move rfl) (Wn.none rfl) rfl rfl (fun _ _ => rfl) ?_
                refine WA.take (i := 5) rfl (by kernel_rfl) (by kernel_rfl) (by kernel_rfl) (fun _ => Ex.fieldAddr Tryz.underlying23 rfl Tryz.sizeOf3 (by decide) rfl) (Wn.some rfl rfl rfl) rfl rfl (fun _ _ => rfl) ?_
                refine WA.takeM (i := 6) [0] rfl (by kernel_rfl) (by kernel_rfl) (by kernel_rfl) (Ex.load1 H rfl (by repeat (first | exact List.Mem.head _ | apply List.Mem.tail)) Tryz.isAgg3 (by rfl)) (Wn.some rfl rfl rfl) rfl rfl (fun _ _ => rfl) ?_
                refine WA.takeE (v' := .bool true) (i := 7) rfl (by kernel_rfl) (by kernel_rfl) (by kernel_rfl) (fun _ => Ex.geq rfl rfl) (congrArg Value.bool (decide_eq_true hk170)) (Wn.some rfl rfl rfl) rfl rfl (fun _ _ => rfl) ?_
                refine WA.take (i := 8) rfl (by kernel_rfl) (by kernel_rfl) (by kernel_rfl) (fun _ => Ex.pickT rfl rfl) (Wn.none rfl) rfl rfl (fun _ _ => rfl) ?_
                refine WA.take (i := 9) rfl (by kernel_rfl) (by kernel_rfl) (by kernel_rfl) (fun _ => Ex.move rfl) (Wn.none rfl) rfl rfl (fun _ _ => rfl) ?_
                refine WA.take (i := 10) rfl (by kernel_rfl) (by kernel_rfl) (by kernel_rfl) (fun _ => Ex.fieldAddr Tryz.underlying23 rfl Tryz.sizeOf3 (by decide) rfl) (Wn.some rfl rfl rfl) rfl rfl (fun _ _ => rfl) ?_
                refine WA.takeM (i := 11) [0] rfl (by kernel_rfl) (by kernel_rfl) (by kernel_rfl) (Ex.load1 H rfl (by repeat (first | exact List.Mem.head _ | apply List.Mem.tail)) Tryz.isAgg3 (by rfl)) (Wn.some rfl rfl rfl) rfl rfl (fun _ _ => rfl) ?_
                refine WA.takeE (v' := .bool true) (i := 12) rfl (by kernel_rfl) (by kernel_rfl) (by kernel_rfl) (fun _ => Ex.gtr rfl rfl) (congrArg Value.bool (decide_eq_true hk171)) (Wn.some rfl rfl rfl) rfl rfl (fun _ _ => rfl) ?_
                refine WA.take (i := 13) rfl (by kernel_rfl) (by kernel_rfl) (by kernel_rfl) (fun _ => Ex.pickT rfl rfl) (Wn.none rfl) rfl rfl (fun _ _ => rfl) ?_
                refine WA.take (i := 14) rfl (by kernel_rfl) (by kernel_rfl) (by kernel_rfl) (fun _ => Ex.move rfl) (Wn.none rfl) rfl rfl (fun _ _ => rfl) ?_
                refine WA.take (i := 15) rfl (by kernel_rfl) (by kernel_rfl) (by kernel_rfl) (fun _ => Ex.fieldAddr Tryz.underlying23 rfl Tryz.sizeOf3 (by decide) rfl) (Wn.some rfl rfl rfl) rfl rfl (fun _ _ => rfl) ?_
                refine WA.takeM (i := 16) [0] rfl (by kernel_rfl) (by kernel_rfl) (by kernel_rfl) (Ex.load1 H rfl (by repeat (first | exact List.Mem.head _ | apply List.Mem.tail)) Tryz.isAgg3 (by rfl)) (Wn.some rfl rfl rfl) rfl rfl (fun _ _ => rfl) ?_
                refine WA.takeE (v' := .bool false) (i := 17) rfl (by kernel_rfl) (by kernel_rfl) (by kernel_rfl) (fun _ => Ex.geq rfl rfl) (congrArg Value.bool (decide_eq_false hk172)) (Wn.some rfl rfl rfl) rfl rfl (fun _ _ => rfl) ?_
                refine WA.take (i := 18) rfl (by kernel_rfl) (by kernel_rfl) (by kernel_rfl) (fun _ => Ex.pickT rfl rfl) (Wn.none rfl) rfl rfl (fun _ _ => rfl) ?_
                refine WA.take (i := 19) rfl (by kernel_rfl) (by kernel_rfl) (by kernel_rfl) (fun _ => Ex.move rfl) (Wn.none rfl) rfl rfl (fun _ _ => rfl) ?_
                refine WA.takes (fuel := 9) [20, 21, 22] rfl (by kernel_rfl) (by kernel_rfl) rfl ?_
                refine WA.take (i := 23) rfl (by kernel_rfl) (by kernel_rfl) (by kernel_rfl) (fun _ => Ex.pickF rfl rfl) (Wn.none rfl) rfl rfl (fun _ _ => rfl) ?_
                refine WA.take (i := 24) rfl (by kernel_rfl) (by kernel_rfl) (by kernel_rfl) (fun _ => Ex.move rfl) (Wn.none rfl) rfl rfl (fun _ _ => rfl) ?_
                refine WA.takes (fuel := 4) [25, 26, 27] rfl (by kernel_rfl) (by kernel_rfl) rfl ?_
                refine WA.take (i := 28) rfl (by kernel_rfl) (by kernel_rfl) (by kernel_rfl) (fun _ => Ex.pickF rfl rfl) (Wn.none rfl) rfl rfl (fun _ _ => rfl) ?_
                refine WA.seq (fuel := 0) [0, 29, 30] rfl (by kernel_rfl) ?_
                refine WR.step (Ex.loadAgg H rfl (by repeat (first | exact List.Mem.head _ | apply List.Mem.tail)) Tryz.isAgg23 Tryz.sizeOf23 (by rfl)) (Wn.none rfl) rfl rfl ?_
                refine WR.store [_, _, _, _, _, _, _] H rfl rfl rfl (by repeat (first | exact Upd.head | apply Upd.tail)) Tryz.sizeOf23 rfl (by rfl) (by rfl) (Wn.none rfl) ?_
                intro w H
                refine WR.step (Ex.assign rfl) (Wn.none rfl) rfl rfl ?_
                refine WR.nil (WQ.any ?_)
                refine WA.done (by kernel_rfl) ?_
                exact WQ.meetN [(2, _), (3, _)] ⟨rfl, rfl, trivial⟩ ⟨_, _, _, _, _, _, _, _, _, rfl, (H.pick (L' := [.blk b2 (.cells #[I n122, I n123, I n124, I n125, I n126, I n127, I n128] 23)]) (by repeat (first | exact Pick.nil | refine Pick.cons (by repeat (first | exact Rem.head | apply Rem.tail)) ?_))), e160⟩
              ·
               rw [if_neg hk171] at e160
               refine WA.take (i := 4) rfl (by kernel_rfl) (by kernel_rfl) (by kernel_rfl) (fun _ => Ex.move rfl) (Wn.none rfl) rfl rfl (fun _ _ => rfl) ?_
               refine WA.take (i := 5) rfl (by kernel_rfl) (by kernel_rfl) (by kernel_rfl) (fun _ => Ex.fieldAddr Tryz.underlying23 rfl Tryz.sizeOf3 (by decide) rfl) (Wn.some rfl rfl rfl) rfl rfl (fun _ _ => rfl) ?_
               refine WA.takeM (i := 6) [0] rfl (by kernel_rfl) (by kernel_rfl) (by kernel_rfl) (Ex.load1 H rfl (by repeat (first | exact List.Mem.head _ | apply List.Mem.tail)) Tryz.isAgg3 (by rfl)) (Wn.some rfl rfl rfl) rfl rfl (fun _ _ => rfl) ?_
               refine WA.takeE (v' := .bool true) (i := 7) rfl (by kernel_rfl) (by kernel_rfl) (by kernel_rfl) (fun _ => Ex.geq rfl rfl) (congrArg Value.bool (decide_eq_true hk170)) (Wn.some rfl rfl rfl) rfl rfl (fun _ _ => rfl) ?_
               refine WA.take (i := 8) rfl (by kernel_rfl) (by kernel_rfl) (by kernel_rfl) (fun _ => Ex.pickT rfl rfl) (Wn.none rfl) rfl rfl (fun _ _ => rfl) ?_
               refine WA.take (i := 9) rfl (by kernel_rfl) (by kernel_rfl) (by kernel_rfl) (fun _ => Ex.move rfl) (Wn.none rfl) rfl rfl (fun _ _ => rfl) ?_
               refine WA.take (i := 10) rfl (by kernel_rfl) (by kernel_rfl) (by kernel_rfl) (fun _ => Ex.fieldAddr Tryz.underlying23 rfl Tryz.sizeOf3 (by decide) rfl) (Wn.some rfl rfl rfl) rfl rfl (fun _ _ => rfl) ?_
               refine WA.takeM (i := 11) [0] rfl (by kernel_rfl) (by kernel_rfl) (by kernel_rfl) (Ex.load1 H rfl (by repeat (first | exact List.Mem.head _ | apply List.Mem.tail)) Tryz.isAgg3 (by rfl)) (Wn.some rfl rfl rfl) rfl rfl (fun _ _ => rfl) ?_
               refine WA.takeE (v' := .bool false) (i := 12) rfl (by kernel_rfl) (by kernel_rfl) (by kernel_rfl) (fun _ => Ex.gtr rfl rfl) (congrArg Value.bool (decide_eq_false hk171)) (Wn.some rfl rfl rfl) rfl rfl (fun _ _ => rfl) ?_
               refine WA.take (i := 13) rfl (by kernel_rfl) (by kernel_rfl) (by kernel_rfl) (fun _ => Ex.pickT rfl rfl) (Wn.none rfl) rfl rfl (fun _ _ => rfl) ?_
               refine WA.take (i := 14) rfl (by kernel_rfl) (by kernel_rfl) (by kernel_rfl) (fun _ => Ex.move rfl) (Wn.none rfl) rfl rfl (fun _ _ => rfl) ?_
               refine WA.takes (fuel := 14) [15, 16, 17] rfl (by kernel_rfl) (by kernel_rfl) rfl ?_
               refine WA.take (i := 18) rfl (by kernel_rfl) (by kernel_rfl) (by kernel_rfl) (fun _ => Ex.pickF rfl rfl) (Wn.none rfl) rfl rfl (fun _ _ => rfl) ?_
               refine WA.take (i := 19) rfl (by kernel_rfl) (by kernel_rfl) (by kernel_rfl) (fun _ => Ex.move rfl) (Wn.none rfl) rfl rfl (fun _ _ => rfl) ?_
               refine WA.takes (fuel := 9) [20, 21, 22] rfl (by kernel_rfl) (by kernel_rfl) rfl ?_
               refine WA.take (i := 23) rfl (by kernel_rfl) (by kernel_rfl) (by kernel_rfl) (fun _ => Ex.pickF rfl rfl) (Wn.none rfl) rfl rfl (fun _ _ => rfl) ?_
               refine WA.take (i := 24) rfl (by kernel_rfl) (by kernel_rfl) (by kernel_rfl) (fun _ => Ex.move rfl) (Wn.none rfl) rfl rfl (fun _ _ => rfl) ?_
               refine WA.takes (fuel := 4) [25, 26, 27] rfl (by kernel_rfl) (by kernel_rfl) rfl ?_
               refine WA.take (i := 28) rfl (by kernel_rfl) (by kernel_rfl) (by kernel_rfl) (fun _ => Ex.pickF rfl rfl) (Wn.none rfl) rfl rfl (fun _ _ => rfl) ?_
               refine WA.seq (fuel := 0) [0, 29, 30] rfl (by kernel_rfl) ?_
               refine WR.step (Ex.loadAgg H rfl (by repeat (first | exact List.Mem.head _ | apply List.Mem.tail)) Tryz.isAgg23 Tryz.sizeOf23 (by rfl)) (Wn.none rfl) rfl rfl ?_
               refine WR.store [_, _, _, _, _, _, _] H rfl rfl rfl (by repeat (first | exact Upd.head | apply Upd.tail)) Tryz.sizeOf23 rfl (by rfl) (by rfl) (Wn.none rfl) ?_
               intro w H
               refine WR.step (Ex.assign rfl) (Wn.none rfl) rfl rfl ?_
               refine WR.nil (WQ.any ?_)
               refine WA.done (by kernel_rfl) ?_
               exact WQ.meetN [(2, _), (3, _)] ⟨rfl, rfl, trivial⟩ ⟨_, _, _, _, _, _, _, _, _, rfl, (H.pick (L' := [.blk b2 (.cells #[I n122, I n123, I n124, I n125, I n126, I n127, I n128] 23)]) (by repeat (first | exact Pick.nil | refine Pick.cons (by repeat (first | exact Rem.head | apply Rem.tail)) ?_))), e160⟩
             ·
              rw [if_neg hk170] at e160
              refine WA.take (i := 4) rfl (by kernel_rfl) (by kernel_rfl) (by kernel_rfl) (fun _ => Ex.move rfl) (Wn.none rfl) rfl rfl (fun _ _ => rfl) ?_
              refine WA.take (i := 5) rfl (by kernel_rfl) (by kernel_rfl) (by kernel_rfl) (fun _ => Ex.fieldAddr Tryz.underlying23 rfl Tryz.sizeOf3 (by decide) rfl) (Wn.some rfl rfl rfl) rfl rfl (fun _ _ => rfl) ?_
              refine WA.takeM (i := 6) [0] rfl (by kernel_rfl) (by kernel_rfl) (by kernel_rfl) (Ex.load1 H rfl (by repeat (first | exact List.Mem.head _ | apply List.Mem.tail)) Tryz.isAgg3 (by rfl)) (Wn.some rfl rfl rfl) rfl rfl (fun _ _ => rfl) ?_
              refine WA.takeE (v' := .bool false) (i := 7) rfl (by kernel_rfl) (by kernel_rfl) (by kernel_rfl) (fun _ => Ex.geq rfl rfl) (congrArg Value.bool (decide_eq_false hk170)) (Wn.some rfl rfl rfl) rfl rfl (fun _ _ => rfl) ?_
              refine WA.take (i := 8) rfl (by kernel_rfl) (by kernel_rfl) (by kernel_rfl) (fun _ => Ex.pickT rfl rfl) (Wn.none rfl) rfl rfl (fun _ _ => rfl) ?_
              refine WA.take (i := 9) rfl (by kernel_rfl) (by kernel_rfl) (by kernel_rfl) (fun _ => Ex.move rfl) (Wn.none rfl) rfl rfl (fun _ _ => rfl) ?_
              refine WA.takes (fuel := 19) [10, 11, 12] rfl (by kernel_rfl) (by kernel_rfl) rfl ?_
              refine WA.take (i := 13) rfl (by kernel_rfl) (by kernel_rfl) (by kernel_rfl) (fun _ => Ex.pickF rfl rfl) (Wn.none rfl) rfl rfl (fun _ _ => rfl) ?_
              refine WA.take (i := 14) rfl (by kernel_rfl) (by kernel_rfl) (by kernel_rfl) (fun _ => Ex.move rfl) (Wn.none rfl) rfl rfl (fun _ _ => rfl) ?_
              refine WA.takes (fuel := 14) [15, 16, 17] rfl (by kernel_rfl) (by kernel_rfl) rfl ?_
              refine WA.take (i := 18) rfl (by kernel_rfl) (by kernel_rfl) (by kernel_rfl) (fun _ => Ex.pickF rfl rfl) (Wn.none rfl) rfl rfl (fun _ _ => rfl) ?_
              refine WA.take (i := 19) rfl (by kernel_rfl) (by kernel_rfl) (by kernel_rfl) (fun _ => Ex.move rfl) (Wn.none rfl) rfl rfl (fun _ _ => rfl) ?_
              refine WA.takes (fuel := 9) [20, 21, 22] rfl (by kernel_rfl) (by kernel_rfl) rfl ?_
              refine WA.take (i := 23) rfl (by kernel_rfl) (by kernel_rfl) (by kernel_rfl) (fun _ => Ex.pickF rfl rfl) (Wn.none rfl) rfl rfl (fun _ _ => rfl) ?_
              refine WA.take (i := 24) rfl (by kernel_rfl) (by kernel_rfl) (by kernel_rfl) (fun _ => Ex.move rfl) (Wn.none rfl) rfl rfl (fun _ _ => rfl) ?_
              refine WA.takes (fuel := 4) [25, 26, 27] rfl (by kernel_rfl) (by kernel_rfl) rfl ?_
              refine WA.take (i := 28) rfl (by kernel_rfl) (by kernel_rfl) (by kernel_rfl) (fun _ => Ex.pickF rfl rfl) (Wn.none rfl) rfl rfl (fun _ _ => rfl) ?_
              refine WA.seq (fuel := 0) [0, 29, 30] rfl (by kernel_rfl) ?_
              refine WR.step (Ex.loadAgg H rfl (by repeat (first | exact List.Mem.head _ | apply List.Mem.tail)) Tryz.isAgg23 Tryz.sizeOf23 (by rfl)) (Wn.none rfl) rfl rfl ?_
              refine WR.store [_, _, _, _, _, _, _] H rfl rfl rfl (by repeat (first | exact Upd.head | apply Upd.tail)) Tryz.sizeOf23 rfl (by rfl) (by rfl) (Wn.none rfl) ?_
              intro w H
              refine WR.step (Ex.assign rfl) (Wn.none rfl) rfl rfl ?_
              refine WR.nil (WQ.any ?_)
              refine WA.done (by kernel_rfl) ?_
              exact WQ.meetN [(2, _), (3, _)] ⟨rfl, rfl, trivial⟩ ⟨_, _, _, _, _, _, _, _, _, rfl, (H.pick (L' := [.blk b2 (.cells #[I n122, I n123, I n124, I n125, I n126, I n127, I n128] 23)]) (by repeat (first | exact Pick.nil | refine Pick.cons (by repeat (first | exact Rem.head | apply Rem.tail)) ?_))), e160⟩
            ·
             rw [if_neg hk169] at e160
             refine WA.takeE (v' := .bool false) (i := 3) rfl (by kernel_rfl) (by kernel_rfl) (by kernel_rfl) (fun _ => Ex.geq rfl rfl) (congrArg Value.bool (decide_eq_false hk169)) (Wn.none rfl) rfl rfl (fun _ _ => rfl) ?_
             refine WA.take (i := 4) rfl (by kernel_rfl) (by kernel_rfl) (by kernel_rfl) (fun _ => Ex.move rfl) (Wn.none rfl) rfl rfl (fun _ _ => rfl) ?_
             refine WA.takes (fuel := 24) [5, 6, 7] rfl (by kernel_rfl) (by kernel_rfl) rfl ?_
             refine WA.take (i := 8) rfl (by kernel_rfl) (by kernel_rfl) (by kernel_rfl) (fun _ => Ex.pickF rfl rfl) (Wn.none rfl) rfl rfl (fun _ _ => rfl) ?_
             refine WA.take (i := 9) rfl (by kernel_rfl) (by kernel_rfl) (by kernel_rfl) (fun _ => Ex.move rfl) (Wn.none rfl) rfl rfl (fun _ _ => rfl) ?_
             refine WA.takes (fuel := 19) [10, 11, 12] rfl (by kernel_rfl) (by kernel_rfl) rfl ?_
             refine WA.take (i := 13) rfl (by kernel_rfl) (by kernel_rfl) (by kernel_rfl) (fun _ => Ex.pickF rfl rfl) (Wn.none rfl) rfl rfl (fun _ _ => rfl) ?_
             refine WA.take (i := 14) rfl (by kernel_rfl) (by kernel_rfl) (by kernel_rfl) (fun _ => Ex.move rfl) (Wn.none rfl) rfl rfl (fun _ _ => rfl) ?_
             refine WA.takes (fuel := 14) [15, 16, 17] rfl (by kernel_rfl) (by kernel_rfl) rfl ?_
             refine WA.take (i := 18) rfl (by kernel_rfl) (by kernel_rfl) (by kernel_rfl) (fun _ => Ex.pickF rfl rfl) (Wn.none rfl) rfl rfl (fun _ _ => rfl) ?_
             refine WA.take (i := 19) rfl (by kernel_rfl) (by kernel_rfl) (by kernel_rfl) (fun _ => Ex.move rfl) (Wn.none rfl) rfl rfl (fun _ _ => rfl) ?_
             refine WA.takes (fuel := 9) [20, 21, 22] rfl (by kernel_rfl) (by kernel_rfl) rfl ?_
             refine WA.take (i := 23) rfl (by kernel_rfl) (by kernel_rfl) (by kernel_rfl) (fun _ => Ex.pickF rfl rfl) (Wn.none rfl) rfl rfl (fun _ _ => rfl) ?_
             refine WA.take (i := 24) rfl (by kernel_rfl) (by kernel_rfl) (by kernel_rfl) (fun _ => Ex.move rfl) (Wn.none rfl) rfl rfl (fun _ _ => rfl) ?_
             refine WA.takes (fuel := 4) [25, 26, 27] rfl (by kernel_rfl) (by kernel_rfl) rfl ?_
             refine WA.take (i := 28) rfl (by kernel_rfl) (by kernel_rfl) (by kernel_rfl) (fun _ => Ex.pickF rfl rfl) (Wn.none rfl) rfl rfl (fun _ _ => rfl) ?_
             refine WA.seq (fuel := 0) [0, 29, 30] rfl (by kernel_rfl) ?_
             refine WR.step (Ex.loadAgg H rfl (by repeat (first | exact List.Mem.head _ | apply List.Mem.tail)) Tryz.isAgg23 Tryz.sizeOf23 (by rfl)) (Wn.none rfl) rfl rfl ?_
             refine WR.store [_, _, _, _, _, _, _] H rfl rfl rfl (by repeat (first | exact Upd.head | apply Upd.tail)) Tryz.sizeOf23 rfl (by rfl) (by rfl) (Wn.none rfl) ?_
             intro w H
             refine WR.step (Ex.assign rfl) (Wn.none rfl) rfl rfl ?_
             refine WR.nil (WQ.any ?_)
             refine WA.done (by kernel_rfl) ?_
             exact WQ.meetN [(2, _), (3, _)] ⟨rfl, rfl, trivial⟩ ⟨_, _, _, _, _, _, _, _, _, rfl, (H.pick (L' := [.blk b2 (.cells #[I n122, I n123, I n124, I n125, I n126, I n127, I n128] 23)]) (by repeat (first | exact Pick.nil | refine Pick.cons (by repeat (first | exact Rem.head | apply Rem.tail)) ?_))), e160⟩
           ·
            rintro e w ⟨n161, n162, n163, n164, n165, n166, n167, b168, M, rfl, H, q174⟩
            obtain rfl := Option.some.inj q174
            try dsimp only at h
            refine WQ.then ?_
            refine WC.ret ?_
            (repeat (first | refine WQ.thenRet ?_ | refine WQ.inBlockRet ?_ | refine WQ.cutRet ?_ | refine WQ.scRet ?_))
            obtain rfl := Option.some.inj h
            exact WQ.ret2 rfl ⟨_, rfl, H.loadAgg (by repeat (first | exact List.Mem.head _ | apply List.Mem.tail)) Tryz.isAgg23 Tryz.sizeOf23 (by rfl)⟩ rfl H.ext rfl
end Go.Proofs.YtlopnlagpdchiaaGreatDoor
