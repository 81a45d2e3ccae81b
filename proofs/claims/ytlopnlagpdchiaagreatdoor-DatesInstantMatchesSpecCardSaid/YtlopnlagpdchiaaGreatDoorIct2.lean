/-
  Dates: contracts of the program's functions over their plain forms, written by wip/tools/ext.py.
-/
import Derived.Test.YtlopnlagpdchiaaGreatDoorIct1
import Derived.KernelRfl
set_option maxRecDepth 100000
set_option linter.unusedVariables false
set_option linter.unusedSimpArgs false
namespace Go.Proofs.YtlopnlagpdchiaaGreatDoor
open Go Go.RowKit Go.Ph Go.Ph.Pl Go.Ph.Pf
set_option maxHeartbeats 4000000 in
theorem L_DatesInstantMatchesSpec_ct {p0 : (Int × Int × Int × Int × Int × Int × Int)} {r : Bool} (h : L_DatesInstantMatchesSpec p0 = some r) : Ct Tryz.prog 3 [Value.agg #[I p0.1, I p0.2.1, I p0.2.2.1, I p0.2.2.2.1, I p0.2.2.2.2.1, I p0.2.2.2.2.2.1, I p0.2.2.2.2.2.2]] (fun M => GlF (fun w => ∃ tp p, w.var? Tryz.prog "strconv.ErrRange" = some #[.iface tp p]) M ∧ GlF (fun w => ∃ tp p, w.var? Tryz.prog "strconv.ErrSyntax" = some #[.iface tp p]) M ∧ GlF (fun w => ∃ m, w.cell? ⟨0, 0, none⟩ = some (.int .i64 m)) M ∧ GlF (fun w => Lib.TabIs Tryz.prog w "internal/strconv.uint64pow10" .u64 Lib.pow10Tab) M) (fun v M => v = Value.bool r) := by
  refine Ct.of Tryz.func3 (enters Tryz.func3 (by kernel_rfl) rfl) rfl rfl rfl ?_
  intro w0 M0 H hp
  obtain ⟨hg_errR, hg_errS, hg_maxl, hg_pow10⟩ := hp
  unfold L_DatesInstantMatchesSpec at h
  refine WC.seq ?_
  refine WC.region ?_
  refine WR.box [_, _, _, _, _, _, _] H rfl rfl (Wn.none rfl) rfl ?_
  intro b1 w H
  refine WR.step (Ex.assign rfl) (Wn.none rfl) rfl rfl ?_
  refine WR.nil ?_
  refine WQ.then ?_
  refine WC.seq ?_
  refine WC.seq ?_
  obtain ⟨o1, e2, h⟩ := bnd h
  refine WC.cutX (fun e w => ∃ (b3 : Bool) (M : Mem), e = [(1, ptr b1 0), (15, Value.bool b3)] ∧ St w0 M0 M [.blk b1 (.cells #[I p0.1, I p0.2.1, I p0.2.2.1, I p0.2.2.2.1, I p0.2.2.2.2.1, I p0.2.2.2.2.2.1, I p0.2.2.2.2.2.2] 23)] w ∧ GlF (fun w => ∃ tp p, w.var? Tryz.prog "strconv.ErrRange" = some #[.iface tp p]) M ∧ GlF (fun w => ∃ tp p, w.var? Tryz.prog "strconv.ErrSyntax" = some #[.iface tp p]) M ∧ GlF (fun w => ∃ m, w.cell? ⟨0, 0, none⟩ = some (.int .i64 m)) M ∧ GlF (fun w => Lib.TabIs Tryz.prog w "internal/strconv.uint64pow10" .u64 Lib.pow10Tab) M ∧ some b3 = some o1) [] ?_ ?_ (trivial)
  ·
   obtain ⟨b4, hx5, e2⟩ := bnd e2
   refine WC.draw (m := 9) rfl rfl H ?_
   intro w H
   refine WA.seq (fuel := 6) [0, 1, 2] rfl (by kernel_rfl) ?_
   refine WR.call H (L_datesExample_ct hx5) rfl ⟨hg_errR, hg_errS, hg_maxl, hg_pow10⟩ (Wn.none rfl) rfl ?_
   intro v7 M w H hle hR
   replace hg_errR := hg_errR.mono hle
   replace hg_errS := hg_errS.mono hle
   replace hg_maxl := hg_maxl.mono hle
   replace hg_pow10 := hg_pow10.mono hle
   obtain rfl := hR
   refine WR.step (Ex.not rfl) (Wn.none rfl) rfl rfl ?_
   refine WR.step (Ex.move rfl) (Wn.none rfl) rfl rfl ?_
   refine WR.nil (WQ.any ?_)
   rcases b4 with _ | _
   ·
    rw [if_neg Bool.false_ne_true] at e2
    refine WA.takes (fuel := 4) [3, 5] rfl (by kernel_rfl) (by kernel_rfl) rfl ?_
    refine WA.seq (fuel := 0) [4, 6, 7, 8] rfl (by kernel_rfl) ?_
    refine WR.skipN 3 rfl rfl ?_
    refine WR.step (Ex.pickT rfl rfl) (Wn.none rfl) rfl rfl ?_
    refine WR.nil (WQ.any ?_)
    refine WA.done (by kernel_rfl) ?_
    exact WQ.meetN [(1, _), (15, _)] ⟨rfl, rfl, trivial⟩ ⟨_, _, rfl, H, hg_errR, hg_errS, hg_maxl, hg_pow10, e2⟩
   ·
    rw [if_pos rfl] at e2
    obtain ⟨⟨n6, n7⟩, hx8, e2⟩ := bnd e2
    try dsimp only at e2
    obtain ⟨⟨n9, n10⟩, hx11, e2⟩ := bnd e2
    try dsimp only at e2
    refine WA.two (i := 3) (j := 5) (by kernel_rfl) rfl rfl ?_ ?_
    ·
     refine WR.step (Ex.loadAgg H rfl (by repeat (first | exact List.Mem.head _ | apply List.Mem.tail)) Tryz.isAgg23 Tryz.sizeOf23 (by rfl)) (Wn.some rfl rfl rfl) rfl rfl ?_
     refine WR.nil (WQ.any ?_)
     refine WA.two (i := 4) (j := 5) (by kernel_rfl) rfl rfl ?_ ?_
     ·
      refine WR.call H (dates_Validate_ct hx8) rfl trivial (Wn.some rfl rfl rfl) rfl ?_
      intro v11 M w H hle hR
      replace hg_errR := hg_errR.mono hle
      replace hg_errS := hg_errS.mono hle
      replace hg_maxl := hg_maxl.mono hle
      replace hg_pow10 := hg_pow10.mono hle
      try dsimp only at hR
      obtain rfl := hR
      refine WR.nil (WQ.any ?_)
      refine WA.seq (fuel := 0) [5, 6, 7, 8] rfl (by kernel_rfl) ?_
      refine WR.step (Ex.loadAgg H rfl (by repeat (first | exact List.Mem.head _ | apply List.Mem.tail)) Tryz.isAgg23 Tryz.sizeOf23 (by rfl)) (Wn.some rfl rfl rfl) rfl rfl ?_
      refine WR.call H (R_DateFault_ct hx11) rfl trivial (Wn.some rfl rfl rfl) rfl ?_
      intro v13 M w H hle hR
      replace hg_errR := hg_errR.mono hle
      replace hg_errS := hg_errS.mono hle
      replace hg_maxl := hg_maxl.mono hle
      replace hg_pow10 := hg_pow10.mono hle
      try dsimp only at hR
      obtain rfl := hR
      refine WR.step (Ex.neqAggC rfl rfl (by kernel_rfl) (xeq26 n6 n9 n7 n10)) (Wn.some rfl rfl rfl) rfl rfl ?_
      refine WR.step (Ex.pickF rfl rfl) (Wn.none rfl) rfl rfl ?_
      refine WR.nil (WQ.any ?_)
      refine WA.done (by kernel_rfl) ?_
      exact WQ.meetN [(1, _), (15, _)] ⟨rfl, rfl, trivial⟩ ⟨_, _, rfl, H, hg_errR, hg_errS, hg_maxl, hg_pow10, e2⟩
     ·
      refine WR.step (Ex.loadAgg H rfl (by repeat (first | exact List.Mem.head _ | apply List.Mem.tail)) Tryz.isAgg23 Tryz.sizeOf23 (by rfl)) (Wn.some rfl rfl rfl) rfl rfl ?_
      refine WR.nil (WQ.any ?_)
      refine WA.seq (fuel := 0) [4, 6, 7, 8] rfl (by kernel_rfl) ?_
      refine WR.call H (dates_Validate_ct hx8) rfl trivial (Wn.some rfl rfl rfl) rfl ?_
      intro v11 M w H hle hR
      replace hg_errR := hg_errR.mono hle
      replace hg_errS := hg_errS.mono hle
      replace hg_maxl := hg_maxl.mono hle
      replace hg_pow10 := hg_pow10.mono hle
      try dsimp only at hR
      obtain rfl := hR
      refine WR.call H (R_DateFault_ct hx11) rfl trivial (Wn.some rfl rfl rfl) rfl ?_
      intro v13 M w H hle hR
      replace hg_errR := hg_errR.mono hle
      replace hg_errS := hg_errS.mono hle
      replace hg_maxl := hg_maxl.mono hle
      replace hg_pow10 := hg_pow10.mono hle
      try dsimp only at hR
      obtain rfl := hR
      refine WR.step (Ex.neqAggC rfl rfl (by kernel_rfl) (xeq26 n6 n9 n7 n10)) (Wn.some rfl rfl rfl) rfl rfl ?_
      refine WR.step (Ex.pickF rfl rfl) (Wn.none rfl) rfl rfl ?_
      refine WR.nil (WQ.any ?_)
      refine WA.done (by kernel_rfl) ?_
      exact WQ.meetN [(1, _), (15, _)] ⟨rfl, rfl, trivial⟩ ⟨_, _, rfl, H, hg_errR, hg_errS, hg_maxl, hg_pow10, e2⟩
    ·
     refine WR.step (Ex.loadAgg H rfl (by repeat (first | exact List.Mem.head _ | apply List.Mem.tail)) Tryz.isAgg23 Tryz.sizeOf23 (by rfl)) (Wn.some rfl rfl rfl) rfl rfl ?_
     refine WR.nil (WQ.any ?_)
     refine WA.seq (fuel := 0) [3, 4, 6, 7, 8] rfl (by kernel_rfl) ?_
     refine WR.step (Ex.loadAgg H rfl (by repeat (first | exact List.Mem.head _ | apply List.Mem.tail)) Tryz.isAgg23 Tryz.sizeOf23 (by rfl)) (Wn.some rfl rfl rfl) rfl rfl ?_
     refine WR.call H (dates_Validate_ct hx8) rfl trivial (Wn.some rfl rfl rfl) rfl ?_
     intro v11 M w H hle hR
     replace hg_errR := hg_errR.mono hle
     replace hg_errS := hg_errS.mono hle
     replace hg_maxl := hg_maxl.mono hle
     replace hg_pow10 := hg_pow10.mono hle
     try dsimp only at hR
     obtain rfl := hR
     refine WR.call H (R_DateFault_ct hx11) rfl trivial (Wn.some rfl rfl rfl) rfl ?_
     intro v13 M w H hle hR
     replace hg_errR := hg_errR.mono hle
     replace hg_errS := hg_errS.mono hle
     replace hg_maxl := hg_maxl.mono hle
     replace hg_pow10 := hg_pow10.mono hle
     try dsimp only at hR
     obtain rfl := hR
     refine WR.step (Ex.neqAggC rfl rfl (by kernel_rfl) (xeq26 n6 n9 n7 n10)) (Wn.some rfl rfl rfl) rfl rfl ?_
     refine WR.step (Ex.pickF rfl rfl) (Wn.none rfl) rfl rfl ?_
     refine WR.nil (WQ.any ?_)
     refine WA.done (by kernel_rfl) ?_
     exact WQ.meetN [(1, _), (15, _)] ⟨rfl, rfl, trivial⟩ ⟨_, _, rfl, H, hg_errR, hg_errS, hg_maxl, hg_pow10, e2⟩
  ·
   rintro e w ⟨b3, M, rfl, H, hg_errR, hg_errS, hg_maxl, hg_pow10, q12⟩
   obtain rfl := Option.some.inj q12
   refine WQ.then ?_
   refine WC.condB rfl (fun hk13 => ?_) (fun hk13 => ?_)
   ·
    subst hk13
    rw [if_pos rfl] at h
    refine WC.seq ?_
    refine WC.region ?_
    refine WR.step (Ex.assign rfl) (Wn.none rfl) rfl rfl ?_
    refine WR.nil ?_
    refine WQ.then ?_
    refine WC.ret ?_
    (repeat (first | refine WQ.thenRet ?_ | refine WQ.inBlockRet ?_ | refine WQ.cutRet ?_ | refine WQ.scRet ?_))
    obtain rfl := Option.some.inj h
    exact WQ.ret1 rfl rfl H.ext rfl
   ·
    subst hk13
    rw [if_neg Bool.false_ne_true] at h
    refine WC.skip ?_
    refine WQ.then ?_
    refine WC.seq ?_
    obtain ⟨⟨n14, ⟨n15, n16⟩⟩, hx17, h⟩ := bnd h
    try dsimp only at h
    refine WC.region ?_
    refine WR.step (Ex.loadAgg H rfl (by repeat (first | exact List.Mem.head _ | apply List.Mem.tail)) Tryz.isAgg23 Tryz.sizeOf23 (by rfl)) (Wn.none rfl) rfl rfl ?_
    refine WR.call H (dates_Instant_ct hx17) rfl trivial (Wn.none rfl) rfl ?_
    intro v18 M w H hle hR
    replace hg_errR := hg_errR.mono hle
    replace hg_errS := hg_errS.mono hle
    replace hg_maxl := hg_maxl.mono hle
    replace hg_pow10 := hg_pow10.mono hle
    try dsimp only at hR
    obtain rfl := hR
    refine WR.step (Ex.move rfl) (Wn.none rfl) rfl rfl ?_
    refine WR.step (Ex.extract rfl rfl) (Wn.none rfl) rfl rfl ?_
    refine WR.step (Ex.extract rfl rfl) (Wn.none rfl) rfl rfl ?_
    refine WR.alloc [_, _] H Tryz.zeroValue26 rfl (Wn.none rfl) rfl ?_
    intro b4 w H
    refine WR.step (Ex.assign rfl) (Wn.none rfl) rfl rfl ?_
    refine WR.store [_, _] H rfl rfl rfl (by repeat (first | exact Upd.head | apply Upd.tail)) Tryz.sizeOf26 rfl (by rfl) (by rfl) (Wn.none rfl) ?_
    intro w H
    refine WR.nil ?_
    refine WQ.then ?_
    refine WC.seq ?_
    obtain ⟨⟨n18, ⟨n19, n20⟩⟩, hx21, h⟩ := bnd h
    try dsimp only at h
    refine WC.region ?_
    refine WR.step (Ex.loadAgg H rfl (by repeat (first | exact List.Mem.head _ | apply List.Mem.tail)) Tryz.isAgg23 Tryz.sizeOf23 (by rfl)) (Wn.none rfl) rfl rfl ?_
    refine WR.call H (dates_Weekday_ct hx21) rfl trivial (Wn.none rfl) rfl ?_
    intro v23 M w H hle hR
    replace hg_errR := hg_errR.mono hle
    replace hg_errS := hg_errS.mono hle
    replace hg_maxl := hg_maxl.mono hle
    replace hg_pow10 := hg_pow10.mono hle
    try dsimp only at hR
    obtain rfl := hR
    refine WR.step (Ex.move rfl) (Wn.none rfl) rfl rfl ?_
    refine WR.step (Ex.extract rfl rfl) (Wn.none rfl) rfl rfl ?_
    refine WR.step (Ex.extract rfl rfl) (Wn.none rfl) rfl rfl ?_
    refine WR.alloc [_, _] H Tryz.zeroValue26 rfl (Wn.none rfl) rfl ?_
    intro b6 w H
    refine WR.step (Ex.assign rfl) (Wn.none rfl) rfl rfl ?_
    refine WR.store [_, _] H rfl rfl rfl (by repeat (first | exact Upd.head | apply Upd.tail)) Tryz.sizeOf26 rfl (by rfl) (by rfl) (Wn.none rfl) ?_
    intro w H
    refine WR.nil ?_
    refine WQ.then ?_
    refine WC.seq ?_
    refine WC.seq ?_
    obtain ⟨⟨n22, n23⟩, hx24, h⟩ := bnd h
    try dsimp only at h
    refine WC.region ?_
    refine WR.step (Ex.loadAgg H rfl (by repeat (first | exact List.Mem.head _ | apply List.Mem.tail)) Tryz.isAgg23 Tryz.sizeOf23 (by rfl)) (Wn.none rfl) rfl rfl ?_
    refine WR.call H (R_DateFault_ct hx24) rfl trivial (Wn.none rfl) rfl ?_
    intro v27 M w H hle hR
    replace hg_errR := hg_errR.mono hle
    replace hg_errS := hg_errS.mono hle
    replace hg_maxl := hg_maxl.mono hle
    replace hg_pow10 := hg_pow10.mono hle
    try dsimp only at hR
    obtain rfl := hR
    refine WR.step (Ex.field Tryz.underlying26 rfl Tryz.isAgg3 rfl rfl) (Wn.none rfl) rfl rfl ?_
    refine WR.step (Ex.neqC rfl rfl) (Wn.none rfl) rfl rfl ?_
    refine WR.nil ?_
    refine WQ.then ?_
    refine WC.condB rfl (fun hk25 => ?_) (fun hk25 => ?_)
    ·
     replace hk25 : ¬ (n22 = (0 : Int)) := of_not_decide hk25
     rw [if_neg hk25] at h
     refine WC.seq ?_
     obtain ⟨o26, e27, h⟩ := bnd h
     refine WC.cutX (fun e w => ∃ (b28 : Bool) (M : Mem), e = [(2, Value.bool b28)] ∧ St w0 M0 M [] w ∧ GlF (fun w => ∃ tp p, w.var? Tryz.prog "strconv.ErrRange" = some #[.iface tp p]) M ∧ GlF (fun w => ∃ tp p, w.var? Tryz.prog "strconv.ErrSyntax" = some #[.iface tp p]) M ∧ GlF (fun w => ∃ m, w.cell? ⟨0, 0, none⟩ = some (.int .i64 m)) M ∧ GlF (fun w => Lib.TabIs Tryz.prog w "internal/strconv.uint64pow10" .u64 Lib.pow10Tab) M ∧ some b28 = some o26) [] ?_ ?_ (trivial)
     ·
      obtain ⟨⟨n29, n30⟩, hx31, e27⟩ := bnd e27
      try dsimp only at e27
      refine WC.draw (m := 18) rfl rfl H ?_
      intro w H
      by_cases hk32 : n15 = n29 ∧ n16 = n30
      ·
       rw [if_pos hk32] at e27
       by_cases hk33 : n19 = n15 ∧ n20 = n16
       ·
        rw [if_pos hk33] at e27
        by_cases hk34 : n14 = (0 : Int)
        ·
         rw [if_pos hk34] at e27
         refine WA.two (i := 0) (j := 1) (by kernel_rfl) rfl rfl ?_ ?_
         ·
          refine WR.step (Ex.loadAgg H rfl (by repeat (first | exact List.Mem.head _ | apply List.Mem.tail)) Tryz.isAgg26 Tryz.sizeOf26 (by rfl)) (Wn.none rfl) rfl rfl ?_
          refine WR.nil (WQ.any ?_)
          refine WA.seq (fuel := 13) [1, 2, 3, 4] rfl (by kernel_rfl) ?_
          refine WR.step (Ex.loadAgg H rfl (by repeat (first | exact List.Mem.head _ | apply List.Mem.tail)) Tryz.isAgg23 Tryz.sizeOf23 (by rfl)) (Wn.none rfl) rfl rfl ?_
          refine WR.call H (R_DateFault_ct hx31) rfl trivial (Wn.none rfl) rfl ?_
          intro v32 M w H hle hR
          replace hg_errR := hg_errR.mono hle
          replace hg_errS := hg_errS.mono hle
          replace hg_maxl := hg_maxl.mono hle
          replace hg_pow10 := hg_pow10.mono hle
          try dsimp only at hR
          obtain rfl := hR
          refine WR.stepE (v' := .bool true) (Ex.eqlAgg rfl rfl (by kernel_rfl) (xeq26 n15 n29 n16 n30)) (congrArg Value.bool (decide_eq_true hk32)) (Wn.none rfl) rfl rfl ?_
          refine WR.step (Ex.move rfl) (Wn.none rfl) rfl rfl ?_
          refine WR.nil (WQ.any ?_)
          refine WA.two (i := 5) (j := 6) (by kernel_rfl) rfl rfl ?_ ?_
          ·
           refine WR.step (Ex.loadAgg H rfl (by repeat (first | exact List.Mem.head _ | apply List.Mem.tail)) Tryz.isAgg26 Tryz.sizeOf26 (by rfl)) (Wn.some rfl rfl rfl) rfl rfl ?_
           refine WR.nil (WQ.any ?_)
           refine WA.seq (fuel := 0) [6, 7, 8, 9, 10, 11, 12, 13, 14, 15, 16, 17] rfl (by kernel_rfl) ?_
           refine WR.step (Ex.loadAgg H rfl (by repeat (first | exact List.Mem.head _ | apply List.Mem.tail)) Tryz.isAgg26 Tryz.sizeOf26 (by rfl)) (Wn.some rfl rfl rfl) rfl rfl ?_
           refine WR.stepE (v' := .bool true) (Ex.eqlAgg rfl rfl (by kernel_rfl) (xeq26 n19 n15 n20 n16)) (congrArg Value.bool (decide_eq_true hk33)) (Wn.some rfl rfl rfl) rfl rfl ?_
           refine WR.step (Ex.pickT rfl rfl) (Wn.none rfl) rfl rfl ?_
           refine WR.step (Ex.move rfl) (Wn.none rfl) rfl rfl ?_
           refine WR.step (Ex.move rfl) (Wn.some rfl rfl rfl) rfl rfl ?_
           refine WR.stepE (v' := .bool true) (Ex.eql rfl rfl) (congrArg Value.bool (decide_eq_true hk34)) (Wn.some rfl rfl rfl) rfl rfl ?_
           refine WR.step (Ex.pickT rfl rfl) (Wn.none rfl) rfl rfl ?_
           refine WR.step (Ex.move rfl) (Wn.none rfl) rfl rfl ?_
           refine WR.step (Ex.move rfl) (Wn.some rfl rfl rfl) rfl rfl ?_
           refine WR.step (Ex.eql rfl rfl) (Wn.some rfl rfl rfl) rfl rfl ?_
           refine WR.step (Ex.pickT rfl rfl) (Wn.none rfl) rfl rfl ?_
           refine WR.step (Ex.assign rfl) (Wn.none rfl) rfl rfl ?_
           refine WR.nil (WQ.any ?_)
           refine WA.done (by kernel_rfl) ?_
           exact WQ.meetN [(2, _)] ⟨rfl, trivial⟩ ⟨_, _, rfl, (H.pick (L' := []) (by repeat (first | exact Pick.nil | refine Pick.cons (by repeat (first | exact Rem.head | apply Rem.tail)) ?_))), hg_errR, hg_errS, hg_maxl, hg_pow10, e27⟩
          ·
           refine WR.step (Ex.loadAgg H rfl (by repeat (first | exact List.Mem.head _ | apply List.Mem.tail)) Tryz.isAgg26 Tryz.sizeOf26 (by rfl)) (Wn.some rfl rfl rfl) rfl rfl ?_
           refine WR.nil (WQ.any ?_)
           refine WA.seq (fuel := 0) [5, 7, 8, 9, 10, 11, 12, 13, 14, 15, 16, 17] rfl (by kernel_rfl) ?_
           refine WR.step (Ex.loadAgg H rfl (by repeat (first | exact List.Mem.head _ | apply List.Mem.tail)) Tryz.isAgg26 Tryz.sizeOf26 (by rfl)) (Wn.some rfl rfl rfl) rfl rfl ?_
           refine WR.stepE (v' := .bool true) (Ex.eqlAgg rfl rfl (by kernel_rfl) (xeq26 n19 n15 n20 n16)) (congrArg Value.bool (decide_eq_true hk33)) (Wn.some rfl rfl rfl) rfl rfl ?_
           refine WR.step (Ex.pickT rfl rfl) (Wn.none rfl) rfl rfl ?_
           refine WR.step (Ex.move rfl) (Wn.none rfl) rfl rfl ?_
           refine WR.step (Ex.move rfl) (Wn.some rfl rfl rfl) rfl rfl ?_
           refine WR.stepE (v' := .bool true) (Ex.eql rfl rfl) (congrArg Value.bool (decide_eq_true hk34)) (Wn.some rfl rfl rfl) rfl rfl ?_
           refine WR.step (Ex.pickT rfl rfl) (Wn.none rfl) rfl rfl ?_
           refine WR.step (Ex.move rfl) (Wn.none rfl) rfl rfl ?_
           refine WR.step (Ex.move rfl) (Wn.some rfl rfl rfl) rfl rfl ?_
           refine WR.step (Ex.eql rfl rfl) (Wn.some rfl rfl rfl) rfl rfl ?_
           refine WR.step (Ex.pickT rfl rfl) (Wn.none rfl) rfl rfl ?_
           refine WR.step (Ex.assign rfl) (Wn.none rfl) rfl rfl ?_
           refine WR.nil (WQ.any ?_)
           refine WA.done (by kernel_rfl) ?_
           exact WQ.meetN [(2, _)] ⟨rfl, trivial⟩ ⟨_, _, rfl, (H.pick (L' := []) (by repeat (first | exact Pick.nil | refine Pick.cons (by repeat (first | exact Rem.head | apply Rem.tail)) ?_))), hg_errR, hg_errS, hg_maxl, hg_pow10, e27⟩
         ·
          refine WR.step (Ex.loadAgg H rfl (by repeat (first | exact List.Mem.head _ | apply List.Mem.tail)) Tryz.isAgg23 Tryz.sizeOf23 (by rfl)) (Wn.none rfl) rfl rfl ?_
          refine WR.nil (WQ.any ?_)
          refine WA.two (i := 0) (j := 2) (by kernel_rfl) rfl rfl ?_ ?_
          ·
           refine WR.step (Ex.loadAgg H rfl (by repeat (first | exact List.Mem.head _ | apply List.Mem.tail)) Tryz.isAgg26 Tryz.sizeOf26 (by rfl)) (Wn.none rfl) rfl rfl ?_
           refine WR.nil (WQ.any ?_)
           refine WA.seq (fuel := 13) [2, 3, 4] rfl (by kernel_rfl) ?_
           refine WR.call H (R_DateFault_ct hx31) rfl trivial (Wn.none rfl) rfl ?_
           intro v32 M w H hle hR
           replace hg_errR := hg_errR.mono hle
           replace hg_errS := hg_errS.mono hle
           replace hg_maxl := hg_maxl.mono hle
           replace hg_pow10 := hg_pow10.mono hle
           try dsimp only at hR
           obtain rfl := hR
           refine WR.stepE (v' := .bool true) (Ex.eqlAgg rfl rfl (by kernel_rfl) (xeq26 n15 n29 n16 n30)) (congrArg Value.bool (decide_eq_true hk32)) (Wn.none rfl) rfl rfl ?_
           refine WR.step (Ex.move rfl) (Wn.none rfl) rfl rfl ?_
           refine WR.nil (WQ.any ?_)
           refine WA.two (i := 5) (j := 6) (by kernel_rfl) rfl rfl ?_ ?_
           ·
            refine WR.step (Ex.loadAgg H rfl (by repeat (first | exact List.Mem.head _ | apply List.Mem.tail)) Tryz.isAgg26 Tryz.sizeOf26 (by rfl)) (Wn.some rfl rfl rfl) rfl rfl ?_
            refine WR.nil (WQ.any ?_)
            refine WA.seq (fuel := 0) [6, 7, 8, 9, 10, 11, 12, 13, 14, 15, 16, 17] rfl (by kernel_rfl) ?_
            refine WR.step (Ex.loadAgg H rfl (by repeat (first | exact List.Mem.head _ | apply List.Mem.tail)) Tryz.isAgg26 Tryz.sizeOf26 (by rfl)) (Wn.some rfl rfl rfl) rfl rfl ?_
            refine WR.stepE (v' := .bool true) (Ex.eqlAgg rfl rfl (by kernel_rfl) (xeq26 n19 n15 n20 n16)) (congrArg Value.bool (decide_eq_true hk33)) (Wn.some rfl rfl rfl) rfl rfl ?_
            refine WR.step (Ex.pickT rfl rfl) (Wn.none rfl) rfl rfl ?_
            refine WR.step (Ex.move rfl) (Wn.none rfl) rfl rfl ?_
            refine WR.step (Ex.move rfl) (Wn.some rfl rfl rfl) rfl rfl ?_
            refine WR.stepE (v' := .bool true) (Ex.eql rfl rfl) (congrArg Value.bool (decide_eq_true hk34)) (Wn.some rfl rfl rfl) rfl rfl ?_
            refine WR.step (Ex.pickT rfl rfl) (Wn.none rfl) rfl rfl ?_
            refine WR.step (Ex.move rfl) (Wn.none rfl) rfl rfl ?_
            refine WR.step (Ex.move rfl) (Wn.some rfl rfl rfl) rfl rfl ?_
            refine WR.step (Ex.eql rfl rfl) (Wn.some rfl rfl rfl) rfl rfl ?_
            refine WR.step (Ex.pickT rfl rfl) (Wn.none rfl) rfl rfl ?_
            refine WR.step (Ex.assign rfl) (Wn.none rfl) rfl rfl ?_
            refine WR.nil (WQ.any ?_)
            refine WA.done (by kernel_rfl) ?_
            exact WQ.meetN [(2, _)] ⟨rfl, trivial⟩ ⟨_, _, rfl, (H.pick (L' := []) (by repeat (first | exact Pick.nil | refine Pick.cons (by repeat (first | exact Rem.head | apply Rem.tail)) ?_))), hg_errR, hg_errS, hg_maxl, hg_pow10, e27⟩
           ·
            refine WR.step (Ex.loadAgg H rfl (by repeat (first | exact List.Mem.head _ | apply List.Mem.tail)) Tryz.isAgg26 Tryz.sizeOf26 (by rfl)) (Wn.some rfl rfl rfl) rfl rfl ?_
            refine WR.nil (WQ.any ?_)
            refine WA.seq (fuel := 0) [5, 7, 8, 9, 10, 11, 12, 13, 14, 15, 16, 17] rfl (by kernel_rfl) ?_
            refine WR.step (Ex.loadAgg H rfl (by repeat (first | exact List.Mem.head _ | apply List.Mem.tail)) Tryz.isAgg26 Tryz.sizeOf26 (by rfl)) (Wn.some rfl rfl rfl) rfl rfl ?_
            refine WR.stepE (v' := .bool true) (Ex.eqlAgg rfl rfl (by kernel_rfl) (xeq26 n19 n15 n20 n16)) (congrArg Value.bool (decide_eq_true hk33)) (Wn.some rfl rfl rfl) rfl rfl ?_
            refine WR.step (Ex.pickT rfl rfl) (Wn.none rfl) rfl rfl ?_
            refine WR.step (Ex.move rfl) (Wn.none rfl) rfl rfl ?_
            refine WR.step (Ex.move rfl) (Wn.some rfl rfl rfl) rfl rfl ?_
            refine WR.stepE (v' := .bool true) (Ex.eql rfl rfl) (congrArg Value.bool (decide_eq_true hk34)) (Wn.some rfl rfl rfl) rfl rfl ?_
            refine WR.step (Ex.pickT rfl rfl) (Wn.none rfl) rfl rfl ?_
            refine WR.step (Ex.move rfl) (Wn.none rfl) rfl rfl ?_
            refine WR.step (Ex.move rfl) (Wn.some rfl rfl rfl) rfl rfl ?_
            refine WR.step (Ex.eql rfl rfl) (Wn.some rfl rfl rfl) rfl rfl ?_
            refine WR.step (Ex.pickT rfl rfl) (Wn.none rfl) rfl rfl ?_
            refine WR.step (Ex.assign rfl) (Wn.none rfl) rfl rfl ?_
            refine WR.nil (WQ.any ?_)
            refine WA.done (by kernel_rfl) ?_
            exact WQ.meetN [(2, _)] ⟨rfl, trivial⟩ ⟨_, _, rfl, (H.pick (L' := []) (by repeat (first | exact Pick.nil | refine Pick.cons (by repeat (first | exact Rem.head | apply Rem.tail)) ?_))), hg_errR, hg_errS, hg_maxl, hg_pow10, e27⟩
          ·
           refine WR.call H (R_DateFault_ct hx31) rfl trivial (Wn.none rfl) rfl ?_
           intro v32 M w H hle hR
           replace hg_errR := hg_errR.mono hle
           replace hg_errS := hg_errS.mono hle
           replace hg_maxl := hg_maxl.mono hle
           replace hg_pow10 := hg_pow10.mono hle
           try dsimp only at hR
           obtain rfl := hR
           refine WR.nil (WQ.any ?_)
           refine WA.seq (fuel := 13) [0, 3, 4] rfl (by kernel_rfl) ?_
           refine WR.step (Ex.loadAgg H rfl (by repeat (first | exact List.Mem.head _ | apply List.Mem.tail)) Tryz.isAgg26 Tryz.sizeOf26 (by rfl)) (Wn.none rfl) rfl rfl ?_
           refine WR.stepE (v' := .bool true) (Ex.eqlAgg rfl rfl (by kernel_rfl) (xeq26 n15 n29 n16 n30)) (congrArg Value.bool (decide_eq_true hk32)) (Wn.none rfl) rfl rfl ?_
           refine WR.step (Ex.move rfl) (Wn.none rfl) rfl rfl ?_
           refine WR.nil (WQ.any ?_)
           refine WA.two (i := 5) (j := 6) (by kernel_rfl) rfl rfl ?_ ?_
           ·
            refine WR.step (Ex.loadAgg H rfl (by repeat (first | exact List.Mem.head _ | apply List.Mem.tail)) Tryz.isAgg26 Tryz.sizeOf26 (by rfl)) (Wn.some rfl rfl rfl) rfl rfl ?_
            refine WR.nil (WQ.any ?_)
            refine WA.seq (fuel := 0) [6, 7, 8, 9, 10, 11, 12, 13, 14, 15, 16, 17] rfl (by kernel_rfl) ?_
            refine WR.step (Ex.loadAgg H rfl (by repeat (first | exact List.Mem.head _ | apply List.Mem.tail)) Tryz.isAgg26 Tryz.sizeOf26 (by rfl)) (Wn.some rfl rfl rfl) rfl rfl ?_
            refine WR.stepE (v' := .bool true) (Ex.eqlAgg rfl rfl (by kernel_rfl) (xeq26 n19 n15 n20 n16)) (congrArg Value.bool (decide_eq_true hk33)) (Wn.some rfl rfl rfl) rfl rfl ?_
            refine WR.step (Ex.pickT rfl rfl) (Wn.none rfl) rfl rfl ?_
            refine WR.step (Ex.move rfl) (Wn.none rfl) rfl rfl ?_
            refine WR.step (Ex.move rfl) (Wn.some rfl rfl rfl) rfl rfl ?_
            refine WR.stepE (v' := .bool true) (Ex.eql rfl rfl) (congrArg Value.bool (decide_eq_true hk34)) (Wn.some rfl rfl rfl) rfl rfl ?_
            refine WR.step (Ex.pickT rfl rfl) (Wn.none rfl) rfl rfl ?_
            refine WR.step (Ex.move rfl) (Wn.none rfl) rfl rfl ?_
            refine WR.step (Ex.move rfl) (Wn.some rfl rfl rfl) rfl rfl ?_
            refine WR.step (Ex.eql rfl rfl) (Wn.some rfl rfl rfl) rfl rfl ?_
            refine WR.step (Ex.pickT rfl rfl) (Wn.none rfl) rfl rfl ?_
            refine WR.step (Ex.assign rfl) (Wn.none rfl) rfl rfl ?_
            refine WR.nil (WQ.any ?_)
            refine WA.done (by kernel_rfl) ?_
            exact WQ.meetN [(2, _)] ⟨rfl, trivial⟩ ⟨_, _, rfl, (H.pick (L' := []) (by repeat (first | exact Pick.nil | refine Pick.cons (by repeat (first | exact Rem.head | apply Rem.tail)) ?_))), hg_errR, hg_errS, hg_maxl, hg_pow10, e27⟩
           ·
            refine WR.step (Ex.loadAgg H rfl (by repeat (first | exact List.Mem.head _ | apply List.Mem.tail)) Tryz.isAgg26 Tryz.sizeOf26 (by rfl)) (Wn.some rfl rfl rfl) rfl rfl ?_
            refine WR.nil (WQ.any ?_)
            refine WA.seq (fuel := 0) [5, 7, 8, 9, 10, 11, 12, 13, 14, 15, 16, 17] rfl (by kernel_rfl) ?_
            refine WR.step (Ex.loadAgg H rfl (by repeat (first | exact List.Mem.head _ | apply List.Mem.tail)) Tryz.isAgg26 Tryz.sizeOf26 (by rfl)) (Wn.some rfl rfl rfl) rfl rfl ?_
            refine WR.stepE (v' := .bool true) (Ex.eqlAgg rfl rfl (by kernel_rfl) (xeq26 n19 n15 n20 n16)) (congrArg Value.bool (decide_eq_true hk33)) (Wn.some rfl rfl rfl) rfl rfl ?_
            refine WR.step (Ex.pickT rfl rfl) (Wn.none rfl) rfl rfl ?_
            refine WR.step (Ex.move rfl) (Wn.none rfl) rfl rfl ?_
            refine WR.step (Ex.move rfl) (Wn.some rfl rfl rfl) rfl rfl ?_
            refine WR.stepE (v' := .bool true) (Ex.eql rfl rfl) (congrArg Value.bool (decide_eq_true hk34)) (Wn.some rfl rfl rfl) rfl rfl ?_
            refine WR.step (Ex.pickT rfl rfl) (Wn.none rfl) rfl rfl ?_
            refine WR.step (Ex.move rfl) (Wn.none rfl) rfl rfl ?_
            refine WR.step (Ex.move rfl) (Wn.some rfl rfl rfl) rfl rfl ?_
            refine WR.step (Ex.eql rfl rfl) (Wn.some rfl rfl rfl) rfl rfl ?_
            refine WR.step (Ex.pickT rfl rfl) (Wn.none rfl) rfl rfl ?_
            refine WR.step (Ex.assign rfl) (Wn.none rfl) rfl rfl ?_
            refine WR.nil (WQ.any ?_)
            refine WA.done (by kernel_rfl) ?_
            exact WQ.meetN [(2, _)] ⟨rfl, trivial⟩ ⟨_, _, rfl, (H.pick (L' := []) (by repeat (first | exact Pick.nil | refine Pick.cons (by repeat (first | exact Rem.head | apply Rem.tail)) ?_))), hg_errR, hg_errS, hg_maxl, hg_pow10, e27⟩
        ·
         rw [if_neg hk34] at e27
         refine WA.two (i := 0) (j := 1) (by kernel_rfl) rfl rfl ?_ ?_
         ·
          refine WR.step (Ex.loadAgg H rfl (by repeat (first | exact List.Mem.head _ | apply List.Mem.tail)) Tryz.isAgg26 Tryz.sizeOf26 (by rfl)) (Wn.none rfl) rfl rfl ?_
          refine WR.nil (WQ.any ?_)
          refine WA.seq (fuel := 13) [1, 2, 3, 4] rfl (by kernel_rfl) ?_
          refine WR.step (Ex.loadAgg H rfl (by repeat (first | exact List.Mem.head _ | apply List.Mem.tail)) Tryz.isAgg23 Tryz.sizeOf23 (by rfl)) (Wn.none rfl) rfl rfl ?_
          refine WR.call H (R_DateFault_ct hx31) rfl trivial (Wn.none rfl) rfl ?_
          intro v32 M w H hle hR
          replace hg_errR := hg_errR.mono hle
          replace hg_errS := hg_errS.mono hle
          replace hg_maxl := hg_maxl.mono hle
          replace hg_pow10 := hg_pow10.mono hle
          try dsimp only at hR
          obtain rfl := hR
          refine WR.stepE (v' := .bool true) (Ex.eqlAgg rfl rfl (by kernel_rfl) (xeq26 n15 n29 n16 n30)) (congrArg Value.bool (decide_eq_true hk32)) (Wn.none rfl) rfl rfl ?_
          refine WR.step (Ex.move rfl) (Wn.none rfl) rfl rfl ?_
          refine WR.nil (WQ.any ?_)
          refine WA.two (i := 5) (j := 6) (by kernel_rfl) rfl rfl ?_ ?_
          ·
           refine WR.step (Ex.loadAgg H rfl (by repeat (first | exact List.Mem.head _ | apply List.Mem.tail)) Tryz.isAgg26 Tryz.sizeOf26 (by rfl)) (Wn.some rfl rfl rfl) rfl rfl ?_
           refine WR.nil (WQ.any ?_)
           refine WA.seq (fuel := 0) [6, 7, 8, 9, 10, 11, 12, 13, 14, 15, 16, 17] rfl (by kernel_rfl) ?_
           refine WR.step (Ex.loadAgg H rfl (by repeat (first | exact List.Mem.head _ | apply List.Mem.tail)) Tryz.isAgg26 Tryz.sizeOf26 (by rfl)) (Wn.some rfl rfl rfl) rfl rfl ?_
           refine WR.stepE (v' := .bool true) (Ex.eqlAgg rfl rfl (by kernel_rfl) (xeq26 n19 n15 n20 n16)) (congrArg Value.bool (decide_eq_true hk33)) (Wn.some rfl rfl rfl) rfl rfl ?_
           refine WR.step (Ex.pickT rfl rfl) (Wn.none rfl) rfl rfl ?_
           refine WR.step (Ex.move rfl) (Wn.none rfl) rfl rfl ?_
           refine WR.step (Ex.move rfl) (Wn.some rfl rfl rfl) rfl rfl ?_
           refine WR.stepE (v' := .bool false) (Ex.eql rfl rfl) (congrArg Value.bool (decide_eq_false hk34)) (Wn.some rfl rfl rfl) rfl rfl ?_
           refine WR.step (Ex.pickT rfl rfl) (Wn.none rfl) rfl rfl ?_
           refine WR.step (Ex.move rfl) (Wn.none rfl) rfl rfl ?_
           refine WR.skipG (b := false) rfl rfl rfl rfl rfl ?_
           refine WR.skipG (b := false) rfl rfl rfl rfl rfl ?_
           refine WR.step (Ex.pickF rfl rfl) (Wn.none rfl) rfl rfl ?_
           refine WR.step (Ex.assign rfl) (Wn.none rfl) rfl rfl ?_
           refine WR.nil (WQ.any ?_)
           refine WA.done (by kernel_rfl) ?_
           exact WQ.meetN [(2, _)] ⟨rfl, trivial⟩ ⟨_, _, rfl, (H.pick (L' := []) (by repeat (first | exact Pick.nil | refine Pick.cons (by repeat (first | exact Rem.head | apply Rem.tail)) ?_))), hg_errR, hg_errS, hg_maxl, hg_pow10, e27⟩
          ·
           refine WR.step (Ex.loadAgg H rfl (by repeat (first | exact List.Mem.head _ | apply List.Mem.tail)) Tryz.isAgg26 Tryz.sizeOf26 (by rfl)) (Wn.some rfl rfl rfl) rfl rfl ?_
           refine WR.nil (WQ.any ?_)
           refine WA.seq (fuel := 0) [5, 7, 8, 9, 10, 11, 12, 13, 14, 15, 16, 17] rfl (by kernel_rfl) ?_
           refine WR.step (Ex.loadAgg H rfl (by repeat (first | exact List.Mem.head _ | apply List.Mem.tail)) Tryz.isAgg26 Tryz.sizeOf26 (by rfl)) (Wn.some rfl rfl rfl) rfl rfl ?_
           refine WR.stepE (v' := .bool true) (Ex.eqlAgg rfl rfl (by kernel_rfl) (xeq26 n19 n15 n20 n16)) (congrArg Value.bool (decide_eq_true hk33)) (Wn.some rfl rfl rfl) rfl rfl ?_
           refine WR.step (Ex.pickT rfl rfl) (Wn.none rfl) rfl rfl ?_
           refine WR.step (Ex.move rfl) (Wn.none rfl) rfl rfl ?_
           refine WR.step (Ex.move rfl) (Wn.some rfl rfl rfl) rfl rfl ?_
           refine WR.stepE (v' := .bool false) (Ex.eql rfl rfl) (congrArg Value.bool (decide_eq_false hk34)) (Wn.some rfl rfl rfl) rfl rfl ?_
           refine WR.step (Ex.pickT rfl rfl) (Wn.none rfl) rfl rfl ?_
           refine WR.step (Ex.move rfl) (Wn.none rfl) rfl rfl ?_
           refine WR.skipG (b := false) rfl rfl rfl rfl rfl ?_
           refine WR.skipG (b := false) rfl rfl rfl rfl rfl ?_
           refine WR.step (Ex.pickF rfl rfl) (Wn.none rfl) rfl rfl ?_
           refine WR.step (Ex.assign rfl) (Wn.none rfl) rfl rfl ?_
           refine WR.nil (WQ.any ?_)
           refine WA.done (by kernel_rfl) ?_
           exact WQ.meetN [(2, _)] ⟨rfl, trivial⟩ ⟨_, _, rfl, (H.pick (L' := []) (by repeat (first | exact Pick.nil | refine Pick.cons (by repeat (first | exact Rem.head | apply Rem.tail)) ?_))), hg_errR, hg_errS, hg_maxl, hg_pow10, e27⟩
         ·
          refine WR.step (Ex.loadAgg H rfl (by repeat (first | exact List.Mem.head _ | apply List.Mem.tail)) Tryz.isAgg23 Tryz.sizeOf23 (by rfl)) (Wn.none rfl) rfl rfl ?_
          refine WR.nil (WQ.any ?_)
          refine WA.two (i := 0) (j := 2) (by kernel_rfl) rfl rfl ?_ ?_
          ·
           refine WR.step (Ex.loadAgg H rfl (by repeat (first | exact List.Mem.head _ | apply List.Mem.tail)) Tryz.isAgg26 Tryz.sizeOf26 (by rfl)) (Wn.none rfl) rfl rfl ?_
           refine WR.nil (WQ.any ?_)
           refine WA.seq (fuel := 13) [2, 3, 4] rfl (by kernel_rfl) ?_
           refine WR.call H (R_DateFault_ct hx31) rfl trivial (Wn.none rfl) rfl ?_
           intro v32 M w H hle hR
           replace hg_errR := hg_errR.mono hle
           replace hg_errS := hg_errS.mono hle
           replace hg_maxl := hg_maxl.mono hle
           replace hg_pow10 := hg_pow10.mono hle
           try dsimp only at hR
           obtain rfl := hR
           refine WR.stepE (v' := .bool true) (Ex.eqlAgg rfl rfl (by kernel_rfl) (xeq26 n15 n29 n16 n30)) (congrArg Value.bool (decide_eq_true hk32)) (Wn.none rfl) rfl rfl ?_
           refine WR.step (Ex.move rfl) (Wn.none rfl) rfl rfl ?_
           refine WR.nil (WQ.any ?_)
           refine WA.two (i := 5) (j := 6) (by kernel_rfl) rfl rfl ?_ ?_
           ·
            refine WR.step (Ex.loadAgg H rfl (by repeat (first | exact List.Mem.head _ | apply List.Mem.tail)) Tryz.isAgg26 Tryz.sizeOf26 (by rfl)) (Wn.some rfl rfl rfl) rfl rfl ?_
            refine WR.nil (WQ.any ?_)
            refine WA.seq (fuel := 0) [6, 7, 8, 9, 10, 11, 12, 13, 14, 15, 16, 17] rfl (by kernel_rfl) ?_
            refine WR.step (Ex.loadAgg H rfl (by repeat (first | exact List.Mem.head _ | apply List.Mem.tail)) Tryz.isAgg26 Tryz.sizeOf26 (by rfl)) (Wn.some rfl rfl rfl) rfl rfl ?_
            refine WR.stepE (v' := .bool true) (Ex.eqlAgg rfl rfl (by kernel_rfl) (xeq26 n19 n15 n20 n16)) (congrArg Value.bool (decide_eq_true hk33)) (Wn.some rfl rfl rfl) rfl rfl ?_
            refine WR.step (Ex.pickT rfl rfl) (Wn.none rfl) rfl rfl ?_
            refine WR.step (Ex.move rfl) (Wn.none rfl) rfl rfl ?_
            refine WR.step (Ex.move rfl) (Wn.some rfl rfl rfl) rfl rfl ?_
            refine WR.stepE (v' := .bool false) (Ex.eql rfl rfl) (congrArg Value.bool (decide_eq_false hk34)) (Wn.some rfl rfl rfl) rfl rfl ?_
            refine WR.step (Ex.pickT rfl rfl) (Wn.none rfl) rfl rfl ?_
            refine WR.step (Ex.move rfl) (Wn.none rfl) rfl rfl ?_
            refine WR.skipG (b := false) rfl rfl rfl rfl rfl ?_
            refine WR.skipG (b := false) rfl rfl rfl rfl rfl ?_
            refine WR.step (Ex.pickF rfl rfl) (Wn.none rfl) rfl rfl ?_
            refine WR.step (Ex.assign rfl) (Wn.none rfl) rfl rfl ?_
            refine WR.nil (WQ.any ?_)
            refine WA.done (by kernel_rfl) ?_
            exact WQ.meetN [(2, _)] ⟨rfl, trivial⟩ ⟨_, _, rfl, (H.pick (L' := []) (by repeat (first | exact Pick.nil | refine Pick.cons (by repeat (first | exact Rem.head | apply Rem.tail)) ?_))), hg_errR, hg_errS, hg_maxl, hg_pow10, e27⟩
           ·
            refine WR.step (Ex.loadAgg H rfl (by repeat (first | exact List.Mem.head _ | apply List.Mem.tail)) Tryz.isAgg26 Tryz.sizeOf26 (by rfl)) (Wn.some rfl rfl rfl) rfl rfl ?_
            refine WR.nil (WQ.any ?_)
            refine WA.seq (fuel := 0) [5, 7, 8, 9, 10, 11, 12, 13, 14, 15, 16, 17] rfl (by kernel_rfl) ?_
            refine WR.step (Ex.loadAgg H rfl (by repeat (first | exact List.Mem.head _ | apply List.Mem.tail)) Tryz.isAgg26 Tryz.sizeOf26 (by rfl)) (Wn.some rfl rfl rfl) rfl rfl ?_
            refine WR.stepE (v' := .bool true) (Ex.eqlAgg rfl rfl (by kernel_rfl) (xeq26 n19 n15 n20 n16)) (congrArg Value.bool (decide_eq_true hk33)) (Wn.some rfl rfl rfl) rfl rfl ?_
            refine WR.step (Ex.pickT rfl rfl) (Wn.none rfl) rfl rfl ?_
            refine WR.step (Ex.move rfl) (Wn.none rfl) rfl rfl ?_
            refine WR.step (Ex.move rfl) (Wn.some rfl rfl rfl) rfl rfl ?_
            refine WR.stepE (v' := .bool false) (Ex.eql rfl rfl) (congrArg Value.bool (decide_eq_false hk34)) (Wn.some rfl rfl rfl) rfl rfl ?_
            refine WR.step (Ex.pickT rfl rfl) (Wn.none rfl) rfl rfl ?_
            refine WR.step (Ex.move rfl) (Wn.none rfl) rfl rfl ?_
            refine WR.skipG (b := false) rfl rfl rfl rfl rfl ?_
            refine WR.skipG (b := false) rfl rfl rfl rfl rfl ?_
            refine WR.step (Ex.pickF rfl rfl) (Wn.none rfl) rfl rfl ?_
            refine WR.step (Ex.assign rfl) (Wn.none rfl) rfl rfl ?_
            refine WR.nil (WQ.any ?_)
            refine WA.done (by kernel_rfl) ?_
            exact WQ.meetN [(2, _)] ⟨rfl, trivial⟩ ⟨_, _, rfl, (H.pick (L' := []) (by repeat (first | exact Pick.nil | refine Pick.cons (by repeat (first | exact Rem.head | apply Rem.tail)) ?_))), hg_errR, hg_errS, hg_maxl, hg_pow10, e27⟩
          ·
           refine WR.call H (R_DateFault_ct hx31) rfl trivial (Wn.none rfl) rfl ?_
           intro v32 M w H hle hR
           replace hg_errR := hg_errR.mono hle
           replace hg_errS := hg_errS.mono hle
           replace hg_maxl := hg_maxl.mono hle
           replace hg_pow10 := hg_pow10.mono hle
           try dsimp only at hR
           obtain rfl := hR
           refine WR.nil (WQ.any ?_)
           refine WA.seq (fuel := 13) [0, 3, 4] rfl (by kernel_rfl) ?_
           refine WR.step (Ex.loadAgg H rfl (by repeat (first | exact List.Mem.head _ | apply List.Mem.tail)) Tryz.isAgg26 Tryz.sizeOf26 (by rfl)) (Wn.none rfl) rfl rfl ?_
           refine WR.stepE (v' := .bool true) (Ex.eqlAgg rfl rfl (by kernel_rfl) (xeq26 n15 n29 n16 n30)) (congrArg Value.bool (decide_eq_true hk32)) (Wn.none rfl) rfl rfl ?_
           refine WR.step (Ex.move rfl) (Wn.none rfl) rfl rfl ?_
           refine WR.nil (WQ.any ?_)
           refine WA.two (i := 5) (j := 6) (by kernel_rfl) rfl rfl ?_ ?_
           ·
            refine WR.step (Ex.loadAgg H rfl (by repeat (first | exact List.Mem.head _ | apply List.Mem.tail)) Tryz.isAgg26 Tryz.sizeOf26 (by rfl)) (Wn.some rfl rfl rfl) rfl rfl ?_
            refine WR.nil (WQ.any ?_)
            refine WA.seq (fuel := 0) [6, 7, 8, 9, 10, 11, 12, 13, 14, 15, 16, 17] rfl (by kernel_rfl) ?_
            refine WR.step (Ex.loadAgg H rfl (by repeat (first | exact List.Mem.head _ | apply List.Mem.tail)) Tryz.isAgg26 Tryz.sizeOf26 (by rfl)) (Wn.some rfl rfl rfl) rfl rfl ?_
            refine WR.stepE (v' := .bool true) (Ex.eqlAgg rfl rfl (by kernel_rfl) (xeq26 n19 n15 n20 n16)) (congrArg Value.bool (decide_eq_true hk33)) (Wn.some rfl rfl rfl) rfl rfl ?_
            refine WR.step (Ex.pickT rfl rfl) (Wn.none rfl) rfl rfl ?_
            refine WR.step (Ex.move rfl) (Wn.none rfl) rfl rfl ?_
            refine WR.step (Ex.move rfl) (Wn.some rfl rfl rfl) rfl rfl ?_
            refine WR.stepE (v' := .bool false) (Ex.eql rfl rfl) (congrArg Value.bool (decide_eq_false hk34)) (Wn.some rfl rfl rfl) rfl rfl ?_
            refine WR.step (Ex.pickT rfl rfl) (Wn.none rfl) rfl rfl ?_
            refine WR.step (Ex.move rfl) (Wn.none rfl) rfl rfl ?_
            refine WR.skipG (b := false) rfl rfl rfl rfl rfl ?_
            refine WR.skipG (b := false) rfl rfl rfl rfl rfl ?_
            refine WR.step (Ex.pickF rfl rfl) (Wn.none rfl) rfl rfl ?_
            refine WR.step (Ex.assign rfl) (Wn.none rfl) rfl rfl ?_
            refine WR.nil (WQ.any ?_)
            refine WA.done (by kernel_rfl) ?_
            exact WQ.meetN [(2, _)] ⟨rfl, trivial⟩ ⟨_, _, rfl, (H.pick (L' := []) (by repeat (first | exact Pick.nil | refine Pick.cons (by repeat (first | exact Rem.head | apply Rem.tail)) ?_))), hg_errR, hg_errS, hg_maxl, hg_pow10, e27⟩
           ·
            refine WR.step (Ex.loadAgg H rfl (by repeat (first | exact List.Mem.head _ | apply List.Mem.tail)) Tryz.isAgg26 Tryz.sizeOf26 (by rfl)) (Wn.some rfl rfl rfl) rfl rfl ?_
            refine WR.nil (WQ.any ?_)
            refine WA.seq (fuel := 0) [5, 7, 8, 9, 10, 11, 12, 13, 14, 15, 16, 17] rfl (by kernel_rfl) ?_
            refine WR.step (Ex.loadAgg H rfl (by repeat (first | exact List.Mem.head _ | apply List.Mem.tail)) Tryz.isAgg26 Tryz.sizeOf26 (by rfl)) (Wn.some rfl rfl rfl) rfl rfl ?_
            refine WR.stepE (v' := .bool true) (Ex.eqlAgg rfl rfl (by kernel_rfl) (xeq26 n19 n15 n20 n16)) (congrArg Value.bool (decide_eq_true hk33)) (Wn.some rfl rfl rfl) rfl rfl ?_
            refine WR.step (Ex.pickT rfl rfl) (Wn.none rfl) rfl rfl ?_
            refine WR.step (Ex.move rfl) (Wn.none rfl) rfl rfl ?_
            refine WR.step (Ex.move rfl) (Wn.some rfl rfl rfl) rfl rfl ?_
            refine WR.stepE (v' := .bool false) (Ex.eql rfl rfl) (congrArg Value.bool (decide_eq_false hk34)) (Wn.some rfl rfl rfl) rfl rfl ?_
            refine WR.step (Ex.pickT rfl rfl) (Wn.none rfl) rfl rfl ?_
            refine WR.step (Ex.move rfl) (Wn.none rfl) rfl rfl ?_
            refine WR.skipG (b := false) rfl rfl rfl rfl rfl ?_
            refine WR.skipG (b := false) rfl rfl rfl rfl rfl ?_
            refine WR.step (Ex.pickF rfl rfl) (Wn.none rfl) rfl rfl ?_
            refine WR.step (Ex.assign rfl) (Wn.none rfl) rfl rfl ?_
            refine WR.nil (WQ.any ?_)
            refine WA.done (by kernel_rfl) ?_
            exact WQ.meetN [(2, _)] ⟨rfl, trivial⟩ ⟨_, _, rfl, (H.pick (L' := []) (by repeat (first | exact Pick.nil | refine Pick.cons (by repeat (first | exact Rem.head | apply Rem.tail)) ?_))), hg_errR, hg_errS, hg_maxl, hg_pow10, e27⟩
       ·
        rw [if_neg hk33] at e27
        refine WA.two (i := 0) (j := 1) (by kernel_rfl) rfl rfl ?_ ?_
        ·
         refine WR.step (Ex.loadAgg H rfl (by repeat (first | exact List.Mem.head _ | apply List.Mem.tail)) Tryz.isAgg26 Tryz.sizeOf26 (by rfl)) (Wn.none rfl) rfl rfl ?_
         refine WR.nil (WQ.any ?_)
         refine WA.seq (fuel := 13) [1, 2, 3, 4] rfl (by kernel_rfl) ?_
         refine WR.step (Ex.loadAgg H rfl (by repeat (first | exact List.Mem.head _ | apply List.Mem.tail)) Tryz.isAgg23 Tryz.sizeOf23 (by rfl)) (Wn.none rfl) rfl rfl ?_
         refine WR.call H (R_DateFault_ct hx31) rfl trivial (Wn.none rfl) rfl ?_
         intro v32 M w H hle hR
         replace hg_errR := hg_errR.mono hle
         replace hg_errS := hg_errS.mono hle
         replace hg_maxl := hg_maxl.mono hle
         replace hg_pow10 := hg_pow10.mono hle
         try dsimp only at hR
         obtain rfl := hR
         refine WR.stepE (v' := .bool true) (Ex.eqlAgg rfl rfl (by kernel_rfl) (xeq26 n15 n29 n16 n30)) (congrArg Value.bool (decide_eq_true hk32)) (Wn.none rfl) rfl rfl ?_
         refine WR.step (Ex.move rfl) (Wn.none rfl) rfl rfl ?_
         refine WR.nil (WQ.any ?_)
         refine WA.two (i := 5) (j := 6) (by kernel_rfl) rfl rfl ?_ ?_
         ·
          refine WR.step (Ex.loadAgg H rfl (by repeat (first | exact List.Mem.head _ | apply List.Mem.tail)) Tryz.isAgg26 Tryz.sizeOf26 (by rfl)) (Wn.some rfl rfl rfl) rfl rfl ?_
          refine WR.nil (WQ.any ?_)
          refine WA.seq (fuel := 0) [6, 7, 8, 9, 10, 11, 12, 13, 14, 15, 16, 17] rfl (by kernel_rfl) ?_
          refine WR.step (Ex.loadAgg H rfl (by repeat (first | exact List.Mem.head _ | apply List.Mem.tail)) Tryz.isAgg26 Tryz.sizeOf26 (by rfl)) (Wn.some rfl rfl rfl) rfl rfl ?_
          refine WR.stepE (v' := .bool false) (Ex.eqlAgg rfl rfl (by kernel_rfl) (xeq26 n19 n15 n20 n16)) (congrArg Value.bool (decide_eq_false hk33)) (Wn.some rfl rfl rfl) rfl rfl ?_
          refine WR.step (Ex.pickT rfl rfl) (Wn.none rfl) rfl rfl ?_
          refine WR.step (Ex.move rfl) (Wn.none rfl) rfl rfl ?_
          refine WR.skipG (b := false) rfl rfl rfl rfl rfl ?_
          refine WR.skipG (b := false) rfl rfl rfl rfl rfl ?_
          refine WR.step (Ex.pickF rfl rfl) (Wn.none rfl) rfl rfl ?_
          refine WR.step (Ex.move rfl) (Wn.none rfl) rfl rfl ?_
          refine WR.skipG (b := false) rfl rfl rfl rfl rfl ?_
          refine WR.skipG (b := false) rfl rfl rfl rfl rfl ?_
          refine WR.step (Ex.pickF rfl rfl) (Wn.none rfl) rfl rfl ?_
          refine WR.step (Ex.assign rfl) (Wn.none rfl) rfl rfl ?_
          refine WR.nil (WQ.any ?_)
          refine WA.done (by kernel_rfl) ?_
          exact WQ.meetN [(2, _)] ⟨rfl, trivial⟩ ⟨_, _, rfl, (H.pick (L' := []) (by repeat (first | exact Pick.nil | refine Pick.cons (by repeat (first | exact Rem.head | apply Rem.tail)) ?_))), hg_errR, hg_errS, hg_maxl, hg_pow10, e27⟩
         ·
          refine WR.step (Ex.loadAgg H rfl (by repeat (first | exact List.Mem.head _ | apply List.Mem.tail)) Tryz.isAgg26 Tryz.sizeOf26 (by rfl)) (Wn.some rfl rfl rfl) rfl rfl ?_
          refine WR.nil (WQ.any ?_)
          refine WA.seq (fuel := 0) [5, 7, 8, 9, 10, 11, 12, 13, 14, 15, 16, 17] rfl (by kernel_rfl) ?_
          refine WR.step (Ex.loadAgg H rfl (by repeat (first | exact List.Mem.head _ | apply List.Mem.tail)) Tryz.isAgg26 Tryz.sizeOf26 (by rfl)) (Wn.some rfl rfl rfl) rfl rfl ?_
          refine WR.stepE (v' := .bool false) (Ex.eqlAgg rfl rfl (by kernel_rfl) (xeq26 n19 n15 n20 n16)) (congrArg Value.bool (decide_eq_false hk33)) (Wn.some rfl rfl rfl) rfl rfl ?_
          refine WR.step (Ex.pickT rfl rfl) (Wn.none rfl) rfl rfl ?_
          refine WR.step (Ex.move rfl) (Wn.none rfl) rfl rfl ?_
          refine WR.skipG (b := false) rfl rfl rfl rfl rfl ?_
          refine WR.skipG (b := false) rfl rfl rfl rfl rfl ?_
          refine WR.step (Ex.pickF rfl rfl) (Wn.none rfl) rfl rfl ?_
          refine WR.step (Ex.move rfl) (Wn.none rfl) rfl rfl ?_
          refine WR.skipG (b := false) rfl rfl rfl rfl rfl ?_
          refine WR.skipG (b := false) rfl rfl rfl rfl rfl ?_
          refine WR.step (Ex.pickF rfl rfl) (Wn.none rfl) rfl rfl ?_
          refine WR.step (Ex.assign rfl) (Wn.none rfl) rfl rfl ?_
          refine WR.nil (WQ.any ?_)
          refine WA.done (by kernel_rfl) ?_
          exact WQ.meetN [(2, _)] ⟨rfl, trivial⟩ ⟨_, _, rfl, (H.pick (L' := []) (by repeat (first | exact Pick.nil | refine Pick.cons (by repeat (first | exact Rem.head | apply Rem.tail)) ?_))), hg_errR, hg_errS, hg_maxl, hg_pow10, e27⟩
        ·
         refine WR.step (Ex.loadAgg H rfl (by repeat (first | exact List.Mem.head _ | apply List.Mem.tail)) Tryz.isAgg23 Tryz.sizeOf23 (by rfl)) (Wn.none rfl) rfl rfl ?_
         refine WR.nil (WQ.any ?_)
         refine WA.two (i := 0) (j := 2) (by kernel_rfl) rfl rfl ?_ ?_
         ·
          refine WR.step (Ex.loadAgg H rfl (by repeat (first | exact List.Mem.head _ | apply List.Mem.tail)) Tryz.isAgg26 Tryz.sizeOf26 (by rfl)) (Wn.none rfl) rfl rfl ?_
          refine WR.nil (WQ.any ?_)
          refine WA.seq (fuel := 13) [2, 3, 4] rfl (by kernel_rfl) ?_
          refine WR.call H (R_DateFault_ct hx31) rfl trivial (Wn.none rfl) rfl ?_
          intro v32 M w H hle hR
          replace hg_errR := hg_errR.mono hle
          replace hg_errS := hg_errS.mono hle
          replace hg_maxl := hg_maxl.mono hle
          replace hg_pow10 := hg_pow10.mono hle
          try dsimp only at hR
          obtain rfl := hR
          refine WR.stepE (v' := .bool true) (Ex.eqlAgg rfl rfl (by kernel_rfl) (xeq26 n15 n29 n16 n30)) (congrArg Value.bool (decide_eq_true hk32)) (Wn.none rfl) rfl rfl ?_
          refine WR.step (Ex.move rfl) (Wn.none rfl) rfl rfl ?_
          refine WR.nil (WQ.any ?_)
          refine WA.two (i := 5) (j := 6) (by kernel_rfl) rfl rfl ?_ ?_
          ·
           refine WR.step (Ex.loadAgg H rfl (by repeat (first | exact List.Mem.head _ | apply List.Mem.tail)) Tryz.isAgg26 Tryz.sizeOf26 (by rfl)) (Wn.some rfl rfl rfl) rfl rfl ?_
           refine WR.nil (WQ.any ?_)
           refine WA.seq (fuel := 0) [6, 7, 8, 9, 10, 11, 12, 13, 14, 15, 16, 17] rfl (by kernel_rfl) ?_
           refine WR.step (Ex.loadAgg H rfl (by repeat (first | exact List.Mem.head _ | apply List.Mem.tail)) Tryz.isAgg26 Tryz.sizeOf26 (by rfl)) (Wn.some rfl rfl rfl) rfl rfl ?_
           refine WR.stepE (v' := .bool false) (Ex.eqlAgg rfl rfl (by kernel_rfl) (xeq26 n19 n15 n20 n16)) (congrArg Value.bool (decide_eq_false hk33)) (Wn.some rfl rfl rfl) rfl rfl ?_
           refine WR.step (Ex.pickT rfl rfl) (Wn.none rfl) rfl rfl ?_
           refine WR.step (Ex.move rfl) (Wn.none rfl) rfl rfl ?_
           refine WR.skipG (b := false) rfl rfl rfl rfl rfl ?_
           refine WR.skipG (b := false) rfl rfl rfl rfl rfl ?_
           refine WR.step (Ex.pickF rfl rfl) (Wn.none rfl) rfl rfl ?_
           refine WR.step (Ex.move rfl) (Wn.none rfl) rfl rfl ?_
           refine WR.skipG (b := false) rfl rfl rfl rfl rfl ?_
           refine WR.skipG (b := false) rfl rfl rfl rfl rfl ?_
           refine WR.step (Ex.pickF rfl rfl) (Wn.none rfl) rfl rfl ?_
           refine WR.step (Ex.assign rfl) (Wn.none rfl) rfl rfl ?_
           refine WR.nil (WQ.any ?_)
           refine WA.done (by kernel_rfl) ?_
           exact WQ.meetN [(2, _)] ⟨rfl, trivial⟩ ⟨_, _, rfl, (H.pick (L' := []) (by repeat (first | exact Pick.nil | refine Pick.cons (by repeat (first | exact Rem.head | apply Rem.tail)) ?_))), hg_errR, hg_errS, hg_maxl, hg_pow10, e27⟩
          ·
           refine WR.step (Ex.loadAgg H rfl (by repeat (first | exact List.Mem.head _ | apply List.Mem.tail)) Tryz.isAgg26 Tryz.sizeOf26 (by rfl)) (Wn.some rfl rfl rfl) rfl rfl ?_
           refine WR.nil (WQ.any ?_)
           refine WA.seq (fuel := 0) [5, 7, 8, 9, 10, 11, 12, 13, 14, 15, 16, 17] rfl (by kernel_rfl) ?_
           refine WR.step (Ex.loadAgg H rfl (by repeat (first | exact List.Mem.head _ | apply List.Mem.tail)) Tryz.isAgg26 Tryz.sizeOf26 (by rfl)) (Wn.some rfl rfl rfl) rfl rfl ?_
           refine WR.stepE (v' := .bool false) (Ex.eqlAgg rfl rfl (by kernel_rfl) (xeq26 n19 n15 n20 n16)) (congrArg Value.bool (decide_eq_false hk33)) (Wn.some rfl rfl rfl) rfl rfl ?_
           refine WR.step (Ex.pickT rfl rfl) (Wn.none rfl) rfl rfl ?_
           refine WR.step (Ex.move rfl) (Wn.none rfl) rfl rfl ?_
           refine WR.skipG (b := false) rfl rfl rfl rfl rfl ?_
           refine WR.skipG (b := false) rfl rfl rfl rfl rfl ?_
           refine WR.step (Ex.pickF rfl rfl) (Wn.none rfl) rfl rfl ?_
           refine WR.step (Ex.move rfl) (Wn.none rfl) rfl rfl ?_
           refine WR.skipG (b := false) rfl rfl rfl rfl rfl ?_
           refine WR.skipG (b := false) rfl rfl rfl rfl rfl ?_
           refine WR.step (Ex.pickF rfl rfl) (Wn.none rfl) rfl rfl ?_
           refine WR.step (Ex.assign rfl) (Wn.none rfl) rfl rfl ?_
           refine WR.nil (WQ.any ?_)
           refine WA.done (by kernel_rfl) ?_
           exact WQ.meetN [(2, _)] ⟨rfl, trivial⟩ ⟨_, _, rfl, (H.pick (L' := []) (by repeat (first | exact Pick.nil | refine Pick.cons (by repeat (first | exact Rem.head | apply Rem.tail)) ?_))), hg_errR, hg_errS, hg_maxl, hg_pow10, e27⟩
         ·
          refine WR.call H (R_DateFault_ct hx31) rfl trivial (Wn.none rfl) rfl ?_
          intro v32 M w H hle hR
          replace hg_errR := hg_errR.mono hle
          replace hg_errS := hg_errS.mono hle
          replace hg_maxl := hg_maxl.mono hle
          replace hg_pow10 := hg_pow10.mono hle
          try dsimp only at hR
          obtain rfl := hR
          refine WR.nil (WQ.any ?_)
          refine WA.seq (fuel := 13) [0, 3, 4] rfl (by kernel_rfl) ?_
          refine WR.step (Ex.loadAgg H rfl (by repeat (first | exact List.Mem.head _ | apply List.Mem.tail)) Tryz.isAgg26 Tryz.sizeOf26 (by rfl)) (Wn.none rfl) rfl rfl ?_
          refine WR.stepE (v' := .bool true) (Ex.eqlAgg rfl rfl (by kernel_rfl) (xeq26 n15 n29 n16 n30)) (congrArg Value.bool (decide_eq_true hk32)) (Wn.none rfl) rfl rfl ?_
          refine WR.step (Ex.move rfl) (Wn.none rfl) rfl rfl ?_
          refine WR.nil (WQ.any ?_)
          refine WA.two (i := 5) (j := 6) (by kernel_rfl) rfl rfl ?_ ?_
          ·
           refine WR.step (Ex.loadAgg H rfl (by repeat (first | exact List.Mem.head _ | apply List.Mem.tail)) Tryz.isAgg26 Tryz.sizeOf26 (by rfl)) (Wn.some rfl rfl rfl) rfl rfl ?_
           refine WR.nil (WQ.any ?_)
           refine WA.seq (fuel := 0) [6, 7, 8, 9, 10, 11, 12, 13, 14, 15, 16, 17] rfl (by kernel_rfl) ?_
           refine WR.step (Ex.loadAgg H rfl (by repeat (first | exact List.Mem.head _ | apply List.Mem.tail)) Tryz.isAgg26 Tryz.sizeOf26 (by rfl)) (Wn.some rfl rfl rfl) rfl rfl ?_
           refine WR.stepE (v' := .bool false) (Ex.eqlAgg rfl rfl (by kernel_rfl) (xeq26 n19 n15 n20 n16)) (congrArg Value.bool (decide_eq_false hk33)) (Wn.some rfl rfl rfl) rfl rfl ?_
           refine WR.step (Ex.pickT rfl rfl) (Wn.none rfl) rfl rfl ?_
           refine WR.step (Ex.move rfl) (Wn.none rfl) rfl rfl ?_
           refine WR.skipG (b := false) rfl rfl rfl rfl rfl ?_
           refine WR.skipG (b := false) rfl rfl rfl rfl rfl ?_
           refine WR.step (Ex.pickF rfl rfl) (Wn.none rfl) rfl rfl ?_
           refine WR.step (Ex.move rfl) (Wn.none rfl) rfl rfl ?_
           refine WR.skipG (b := false) rfl rfl rfl rfl rfl ?_
           refine WR.skipG (b := false) rfl rfl rfl rfl rfl ?_
           refine WR.step (Ex.pickF rfl rfl) (Wn.none rfl) rfl rfl ?_
           refine WR.step (Ex.assign rfl) (Wn.none rfl) rfl rfl ?_
           refine WR.nil (WQ.any ?_)
           refine WA.done (by kernel_rfl) ?_
           exact WQ.meetN [(2, _)] ⟨rfl, trivial⟩ ⟨_, _, rfl, (H.pick (L' := []) (by repeat (first | exact Pick.nil | refine Pick.cons (by repeat (first | exact Rem.head | apply Rem.tail)) ?_))), hg_errR, hg_errS, hg_maxl, hg_pow10, e27⟩
          ·
           refine WR.step (Ex.loadAgg H rfl (by repeat (first | exact List.Mem.head _ | apply List.Mem.tail)) Tryz.isAgg26 Tryz.sizeOf26 (by rfl)) (Wn.some rfl rfl rfl) rfl rfl ?_
           refine WR.nil (WQ.any ?_)
           refine WA.seq (fuel := 0) [5, 7, 8, 9, 10, 11, 12, 13, 14, 15, 16, 17] rfl (by kernel_rfl) ?_
           refine WR.step (Ex.loadAgg H rfl (by repeat (first | exact List.Mem.head _ | apply List.Mem.tail)) Tryz.isAgg26 Tryz.sizeOf26 (by rfl)) (Wn.some rfl rfl rfl) rfl rfl ?_
           refine WR.stepE (v' := .bool false) (Ex.eqlAgg rfl rfl (by kernel_rfl) (xeq26 n19 n15 n20 n16)) (congrArg Value.bool (decide_eq_false hk33)) (Wn.some rfl rfl rfl) rfl rfl ?_
           refine WR.step (Ex.pickT rfl rfl) (Wn.none rfl) rfl rfl ?_
           refine WR.step (Ex.move rfl) (Wn.none rfl) rfl rfl ?_
           refine WR.skipG (b := false) rfl rfl rfl rfl rfl ?_
           refine WR.skipG (b := false) rfl rfl rfl rfl rfl ?_
           refine WR.step (Ex.pickF rfl rfl) (Wn.none rfl) rfl rfl ?_
           refine WR.step (Ex.move rfl) (Wn.none rfl) rfl rfl ?_
           refine WR.skipG (b := false) rfl rfl rfl rfl rfl ?_
           refine WR.skipG (b := false) rfl rfl rfl rfl rfl ?_
           refine WR.step (Ex.pickF rfl rfl) (Wn.none rfl) rfl rfl ?_
           refine WR.step (Ex.assign rfl) (Wn.none rfl) rfl rfl ?_
           refine WR.nil (WQ.any ?_)
           refine WA.done (by kernel_rfl) ?_
           exact WQ.meetN [(2, _)] ⟨rfl, trivial⟩ ⟨_, _, rfl, (H.pick (L' := []) (by repeat (first | exact Pick.nil | refine Pick.cons (by repeat (first | exact Rem.head | apply Rem.tail)) ?_))), hg_errR, hg_errS, hg_maxl, hg_pow10, e27⟩
      ·
       rw [if_neg hk32] at e27
       refine WA.two (i := 0) (j := 1) (by kernel_rfl) rfl rfl ?_ ?_
       ·
        refine WR.step (Ex.loadAgg H rfl (by repeat (first | exact List.Mem.head _ | apply List.Mem.tail)) Tryz.isAgg26 Tryz.sizeOf26 (by rfl)) (Wn.none rfl) rfl rfl ?_
        refine WR.nil (WQ.any ?_)
        refine WA.seq (fuel := 13) [1, 2, 3, 4] rfl (by kernel_rfl) ?_
        refine WR.step (Ex.loadAgg H rfl (by repeat (first | exact List.Mem.head _ | apply List.Mem.tail)) Tryz.isAgg23 Tryz.sizeOf23 (by rfl)) (Wn.none rfl) rfl rfl ?_
        refine WR.call H (R_DateFault_ct hx31) rfl trivial (Wn.none rfl) rfl ?_
        intro v32 M w H hle hR
        replace hg_errR := hg_errR.mono hle
        replace hg_errS := hg_errS.mono hle
        replace hg_maxl := hg_maxl.mono hle
        replace hg_pow10 := hg_pow10.mono hle
        try dsimp only at hR
        obtain rfl := hR
        refine WR.stepE (v' := .bool false) (Ex.eqlAgg rfl rfl (by kernel_rfl) (xeq26 n15 n29 n16 n30)) (congrArg Value.bool (decide_eq_false hk32)) (Wn.none rfl) rfl rfl ?_
        refine WR.step (Ex.move rfl) (Wn.none rfl) rfl rfl ?_
        refine WR.nil (WQ.any ?_)
        refine WA.takeN (i := 5) rfl (by kernel_rfl) (by kernel_rfl) (by kernel_rfl) (wanted_g (b := false) rfl rfl rfl) rfl rfl (fun _ _ => rfl) ?_
        refine WA.seq (fuel := 0) [6, 7, 8, 9, 10, 11, 12, 13, 14, 15, 16, 17] rfl (by kernel_rfl) ?_
        refine WR.skipG (b := false) rfl rfl rfl rfl rfl ?_
        refine WR.skipG (b := false) rfl rfl rfl rfl rfl ?_
        refine WR.step (Ex.pickF rfl rfl) (Wn.none rfl) rfl rfl ?_
        refine WR.step (Ex.move rfl) (Wn.none rfl) rfl rfl ?_
        refine WR.skipG (b := false) rfl rfl rfl rfl rfl ?_
        refine WR.skipG (b := false) rfl rfl rfl rfl rfl ?_
        refine WR.step (Ex.pickF rfl rfl) (Wn.none rfl) rfl rfl ?_
        refine WR.step (Ex.move rfl) (Wn.none rfl) rfl rfl ?_
        refine WR.skipG (b := false) rfl rfl rfl rfl rfl ?_
        refine WR.skipG (b := false) rfl rfl rfl rfl rfl ?_
        refine WR.step (Ex.pickF rfl rfl) (Wn.none rfl) rfl rfl ?_
        refine WR.step (Ex.assign rfl) (Wn.none rfl) rfl rfl ?_
        refine WR.nil (WQ.any ?_)
        refine WA.done (by kernel_rfl) ?_
        exact WQ.meetN [(2, _)] ⟨rfl, trivial⟩ ⟨_, _, rfl, (H.pick (L' := []) (by repeat (first | exact Pick.nil | refine Pick.cons (by repeat (first | exact Rem.head | apply Rem.tail)) ?_))), hg_errR, hg_errS, hg_maxl, hg_pow10, e27⟩
       ·
        refine WR.step (Ex.loadAgg H rfl (by repeat (first | exact List.Mem.head _ | apply List.Mem.tail)) Tryz.isAgg23 Tryz.sizeOf23 (by rfl)) (Wn.none rfl) rfl rfl ?_
        refine WR.nil (WQ.any ?_)
        refine WA.two (i := 0) (j := 2) (by kernel_rfl) rfl rfl ?_ ?_
        ·
         refine WR.step (Ex.loadAgg H rfl (by repeat (first | exact List.Mem.head _ | apply List.Mem.tail)) Tryz.isAgg26 Tryz.sizeOf26 (by rfl)) (Wn.none rfl) rfl rfl ?_
         refine WR.nil (WQ.any ?_)
         refine WA.seq (fuel := 13) [2, 3, 4] rfl (by kernel_rfl) ?_
         refine WR.call H (R_DateFault_ct hx31) rfl trivial (Wn.none rfl) rfl ?_
         intro v32 M w H hle hR
         replace hg_errR := hg_errR.mono hle
         replace hg_errS := hg_errS.mono hle
         replace hg_maxl := hg_maxl.mono hle
         replace hg_pow10 := hg_pow10.mono hle
         try dsimp only at hR
         obtain rfl := hR
         refine WR.stepE (v' := .bool false) (Ex.eqlAgg rfl rfl (by kernel_rfl) (xeq26 n15 n29 n16 n30)) (congrArg Value.bool (decide_eq_false hk32)) (Wn.none rfl) rfl rfl ?_
         refine WR.step (Ex.move rfl) (Wn.none rfl) rfl rfl ?_
         refine WR.nil (WQ.any ?_)
         refine WA.takeN (i := 5) rfl (by kernel_rfl) (by kernel_rfl) (by kernel_rfl) (wanted_g (b := false) rfl rfl rfl) rfl rfl (fun _ _ => rfl) ?_
         refine WA.seq (fuel := 0) [6, 7, 8, 9, 10, 11, 12, 13, 14, 15, 16, 17] rfl (by kernel_rfl) ?_
         refine WR.skipG (b := false) rfl rfl rfl rfl rfl ?_
         refine WR.skipG (b := false) rfl rfl rfl rfl rfl ?_
         refine WR.step (Ex.pickF rfl rfl) (Wn.none rfl) rfl rfl ?_
         refine WR.step (Ex.move rfl) (Wn.none rfl) rfl rfl ?_
         refine WR.skipG (b := false) rfl rfl rfl rfl rfl ?_
         refine WR.skipG (b := false) rfl rfl rfl rfl rfl ?_
         refine WR.step (Ex.pickF rfl rfl) (Wn.none rfl) rfl rfl ?_
         refine WR.step (Ex.move rfl) (Wn.none rfl) rfl rfl ?_
         refine WR.skipG (b := false) rfl rfl rfl rfl rfl ?_
         refine WR.skipG (b := false) rfl rfl rfl rfl rfl ?_
         refine WR.step (Ex.pickF rfl rfl) (Wn.none rfl) rfl rfl ?_
         refine WR.step (Ex.assign rfl) (Wn.none rfl) rfl rfl ?_
         refine WR.nil (WQ.any ?_)
         refine WA.done (by kernel_rfl) ?_
         exact WQ.meetN [(2, _)] ⟨rfl, trivial⟩ ⟨_, _, rfl, (H.pick (L' := []) (by repeat (first | exact Pick.nil | refine Pick.cons (by repeat (first | exact Rem.head | apply Rem.tail)) ?_))), hg_errR, hg_errS, hg_maxl, hg_pow10, e27⟩
        ·
         refine WR.call H (R_DateFault_ct hx31) rfl trivial (Wn.none rfl) rfl ?_
         intro v32 M w H hle hR
         replace hg_errR := hg_errR.mono hle
         replace hg_errS := hg_errS.mono hle
         replace hg_maxl := hg_maxl.mono hle
         replace hg_pow10 := hg_pow10.mono hle
         try dsimp only at hR
         obtain rfl := hR
         refine WR.nil (WQ.any ?_)
         refine WA.seq (fuel := 13) [0, 3, 4] rfl (by kernel_rfl) ?_
         refine WR.step (Ex.loadAgg H rfl (by repeat (first | exact List.Mem.head _ | apply List.Mem.tail)) Tryz.isAgg26 Tryz.sizeOf26 (by rfl)) (Wn.none rfl) rfl rfl ?_
         refine WR.stepE (v' := .bool false) (Ex.eqlAgg rfl rfl (by kernel_rfl) (xeq26 n15 n29 n16 n30)) (congrArg Value.bool (decide_eq_false hk32)) (Wn.none rfl) rfl rfl ?_
         refine WR.step (Ex.move rfl) (Wn.none rfl) rfl rfl ?_
         refine WR.nil (WQ.any ?_)
         refine WA.takeN (i := 5) rfl (by kernel_rfl) (by kernel_rfl) (by kernel_rfl) (wanted_g (b := false) rfl rfl rfl) rfl rfl (fun _ _ => rfl) ?_
         refine WA.seq (fuel := 0) [6, 7, 8, 9, 10, 11, 12, 13, 14, 15, 16, 17] rfl (by kernel_rfl) ?_
         refine WR.skipG (b := false) rfl rfl rfl rfl rfl ?_
         refine WR.skipG (b := false) rfl rfl rfl rfl rfl ?_
         refine WR.step (Ex.pickF rfl rfl) (Wn.none rfl) rfl rfl ?_
         refine WR.step (Ex.move rfl) (Wn.none rfl) rfl rfl ?_
         refine WR.skipG (b := false) rfl rfl rfl rfl rfl ?_
         refine WR.skipG (b := false) rfl rfl rfl rfl rfl ?_
         refine WR.step (Ex.pickF rfl rfl) (Wn.none rfl) rfl rfl ?_
         refine WR.step (Ex.move rfl) (Wn.none rfl) rfl rfl ?_
         refine WR.skipG (b := false) rfl rfl rfl rfl rfl ?_
         refine WR.skipG (b := false) rfl rfl rfl rfl rfl ?_
         refine WR.step (Ex.pickF rfl rfl) (Wn.none rfl) rfl rfl ?_
         refine WR.step (Ex.assign rfl) (Wn.none rfl) rfl rfl ?_
         refine WR.nil (WQ.any ?_)
         refine WA.done (by kernel_rfl) ?_
         exact WQ.meetN [(2, _)] ⟨rfl, trivial⟩ ⟨_, _, rfl, (H.pick (L' := []) (by repeat (first | exact Pick.nil | refine Pick.cons (by repeat (first | exact Rem.head | apply Rem.tail)) ?_))), hg_errR, hg_errS, hg_maxl, hg_pow10, e27⟩
     ·
      rintro e w ⟨b28, M, rfl, H, hg_errR, hg_errS, hg_maxl, hg_pow10, q35⟩
      obtain rfl := Option.some.inj q35
      refine WQ.then ?_
      refine WC.ret ?_
      (repeat (first | refine WQ.thenRet ?_ | refine WQ.inBlockRet ?_ | refine WQ.cutRet ?_ | refine WQ.scRet ?_))
      obtain rfl := Option.some.inj h
      exact WQ.ret1 rfl rfl H.ext rfl
    ·
     replace hk25 : n22 = (0 : Int) := of_not_decide' hk25
     rw [if_pos hk25] at h
     refine WC.skip ?_
     refine WQ.then ?_
     refine WC.seq ?_
     obtain ⟨o36, e37, h⟩ := bnd h
     refine WC.cutX (fun e w => ∃ (b38 : Bool) (M : Mem), e = [(2, Value.bool b38)] ∧ St w0 M0 M [] w ∧ GlF (fun w => ∃ tp p, w.var? Tryz.prog "strconv.ErrRange" = some #[.iface tp p]) M ∧ GlF (fun w => ∃ tp p, w.var? Tryz.prog "strconv.ErrSyntax" = some #[.iface tp p]) M ∧ GlF (fun w => ∃ m, w.cell? ⟨0, 0, none⟩ = some (.int .i64 m)) M ∧ GlF (fun w => Lib.TabIs Tryz.prog w "internal/strconv.uint64pow10" .u64 Lib.pow10Tab) M ∧ some b38 = some o36) [] ?_ ?_ (trivial)
     ·
      refine WC.region ?_
      refine WR.step (Ex.fieldAddr Tryz.underlying26 rfl Tryz.sizeOf3 (by decide) rfl) (Wn.none rfl) rfl rfl ?_
      refine WR.step (Ex.load1 H rfl (by repeat (first | exact List.Mem.head _ | apply List.Mem.tail)) Tryz.isAgg3 (by rfl)) (Wn.none rfl) rfl rfl ?_
      by_cases hk39 : n15 = (0 : Int)
      ·
       rw [if_pos hk39] at e37
       by_cases hk40 : n19 = (0 : Int)
       ·
        rw [if_pos hk40] at e37
        obtain ⟨n41, hx42, e37⟩ := bnd e37
        by_cases hk43 : n14 = n41
        ·
         rw [if_pos hk43] at e37
         obtain ⟨n44, hx45, e37⟩ := bnd e37
         refine WR.stepE (v' := .bool true) (Ex.eql rfl rfl) (congrArg Value.bool (decide_eq_true hk39)) (Wn.none rfl) rfl rfl ?_
         refine WR.step (Ex.move rfl) (Wn.none rfl) rfl rfl ?_
         refine WR.step (Ex.fieldAddr Tryz.underlying26 rfl Tryz.sizeOf3 (by decide) rfl) (Wn.some rfl rfl rfl) rfl rfl ?_
         refine WR.step (Ex.load1 H rfl (by repeat (first | exact List.Mem.head _ | apply List.Mem.tail)) Tryz.isAgg3 (by rfl)) (Wn.some rfl rfl rfl) rfl rfl ?_
         refine WR.stepE (v' := .bool true) (Ex.eql rfl rfl) (congrArg Value.bool (decide_eq_true hk40)) (Wn.some rfl rfl rfl) rfl rfl ?_
         refine WR.step (Ex.pickT rfl rfl) (Wn.none rfl) rfl rfl ?_
         refine WR.step (Ex.move rfl) (Wn.none rfl) rfl rfl ?_
         refine WR.step (Ex.move rfl) (Wn.some rfl rfl rfl) rfl rfl ?_
         refine WR.step (Ex.loadAgg H rfl (by repeat (first | exact List.Mem.head _ | apply List.Mem.tail)) Tryz.isAgg23 Tryz.sizeOf23 (by rfl)) (Wn.some rfl rfl rfl) rfl rfl ?_
         refine WR.call H (R_SecondsOf_ct hx42) rfl trivial (Wn.some rfl rfl rfl) rfl ?_
         intro v58 M w H hle hR
         replace hg_errR := hg_errR.mono hle
         replace hg_errS := hg_errS.mono hle
         replace hg_maxl := hg_maxl.mono hle
         replace hg_pow10 := hg_pow10.mono hle
         obtain rfl := hR
         refine WR.stepE (v' := .bool true) (Ex.eql rfl rfl) (congrArg Value.bool (decide_eq_true hk43)) (Wn.some rfl rfl rfl) rfl rfl ?_
         refine WR.step (Ex.pickT rfl rfl) (Wn.none rfl) rfl rfl ?_
         refine WR.step (Ex.move rfl) (Wn.none rfl) rfl rfl ?_
         refine WR.step (Ex.move rfl) (Wn.some rfl rfl rfl) rfl rfl ?_
         refine WR.step (Ex.fieldAddr Tryz.underlying23 rfl Tryz.sizeOf3 (by decide) rfl) (Wn.some rfl rfl rfl) rfl rfl ?_
         refine WR.step (Ex.load1 H rfl (by repeat (first | exact List.Mem.head _ | apply List.Mem.tail)) Tryz.isAgg3 (by rfl)) (Wn.some rfl rfl rfl) rfl rfl ?_
         refine WR.step (Ex.fieldAddr Tryz.underlying23 rfl Tryz.sizeOf3 (by decide) rfl) (Wn.some rfl rfl rfl) rfl rfl ?_
         refine WR.step (Ex.load1 H rfl (by repeat (first | exact List.Mem.head _ | apply List.Mem.tail)) Tryz.isAgg3 (by rfl)) (Wn.some rfl rfl rfl) rfl rfl ?_
         refine WR.step (Ex.fieldAddr Tryz.underlying23 rfl Tryz.sizeOf3 (by decide) rfl) (Wn.some rfl rfl rfl) rfl rfl ?_
         refine WR.step (Ex.load1 H rfl (by repeat (first | exact List.Mem.head _ | apply List.Mem.tail)) Tryz.isAgg3 (by rfl)) (Wn.some rfl rfl rfl) rfl rfl ?_
         refine WR.call H (R_WeekdayOf_ct hx45) rfl trivial (Wn.some rfl rfl rfl) rfl ?_
         intro v69 M w H hle hR
         replace hg_errR := hg_errR.mono hle
         replace hg_errS := hg_errS.mono hle
         replace hg_maxl := hg_maxl.mono hle
         replace hg_pow10 := hg_pow10.mono hle
         obtain rfl := hR
         refine WR.step (Ex.eql rfl rfl) (Wn.some rfl rfl rfl) rfl rfl ?_
         refine WR.step (Ex.pickT rfl rfl) (Wn.none rfl) rfl rfl ?_
         refine WR.step (Ex.assign rfl) (Wn.none rfl) rfl rfl ?_
         refine WR.nil ?_
         exact WQ.meetN [(2, _)] ⟨rfl, trivial⟩ ⟨_, _, rfl, (H.pick (L' := []) (by repeat (first | exact Pick.nil | refine Pick.cons (by repeat (first | exact Rem.head | apply Rem.tail)) ?_))), hg_errR, hg_errS, hg_maxl, hg_pow10, e37⟩
        ·
         rw [if_neg hk43] at e37
         refine WR.stepE (v' := .bool true) (Ex.eql rfl rfl) (congrArg Value.bool (decide_eq_true hk39)) (Wn.none rfl) rfl rfl ?_
         refine WR.step (Ex.move rfl) (Wn.none rfl) rfl rfl ?_
         refine WR.step (Ex.fieldAddr Tryz.underlying26 rfl Tryz.sizeOf3 (by decide) rfl) (Wn.some rfl rfl rfl) rfl rfl ?_
         refine WR.step (Ex.load1 H rfl (by repeat (first | exact List.Mem.head _ | apply List.Mem.tail)) Tryz.isAgg3 (by rfl)) (Wn.some rfl rfl rfl) rfl rfl ?_
         refine WR.stepE (v' := .bool true) (Ex.eql rfl rfl) (congrArg Value.bool (decide_eq_true hk40)) (Wn.some rfl rfl rfl) rfl rfl ?_
         refine WR.step (Ex.pickT rfl rfl) (Wn.none rfl) rfl rfl ?_
         refine WR.step (Ex.move rfl) (Wn.none rfl) rfl rfl ?_
         refine WR.step (Ex.move rfl) (Wn.some rfl rfl rfl) rfl rfl ?_
         refine WR.step (Ex.loadAgg H rfl (by repeat (first | exact List.Mem.head _ | apply List.Mem.tail)) Tryz.isAgg23 Tryz.sizeOf23 (by rfl)) (Wn.some rfl rfl rfl) rfl rfl ?_
         refine WR.call H (R_SecondsOf_ct hx42) rfl trivial (Wn.some rfl rfl rfl) rfl ?_
         intro v58 M w H hle hR
         replace hg_errR := hg_errR.mono hle
         replace hg_errS := hg_errS.mono hle
         replace hg_maxl := hg_maxl.mono hle
         replace hg_pow10 := hg_pow10.mono hle
         obtain rfl := hR
         refine WR.stepE (v' := .bool false) (Ex.eql rfl rfl) (congrArg Value.bool (decide_eq_false hk43)) (Wn.some rfl rfl rfl) rfl rfl ?_
         refine WR.step (Ex.pickT rfl rfl) (Wn.none rfl) rfl rfl ?_
         refine WR.step (Ex.move rfl) (Wn.none rfl) rfl rfl ?_
         refine WR.skipN 9 rfl rfl ?_
         refine WR.step (Ex.pickF rfl rfl) (Wn.none rfl) rfl rfl ?_
         refine WR.step (Ex.assign rfl) (Wn.none rfl) rfl rfl ?_
         refine WR.nil ?_
         exact WQ.meetN [(2, _)] ⟨rfl, trivial⟩ ⟨_, _, rfl, (H.pick (L' := []) (by repeat (first | exact Pick.nil | refine Pick.cons (by repeat (first | exact Rem.head | apply Rem.tail)) ?_))), hg_errR, hg_errS, hg_maxl, hg_pow10, e37⟩
       ·
        rw [if_neg hk40] at e37
        refine WR.stepE (v' := .bool true) (Ex.eql rfl rfl) (congrArg Value.bool (decide_eq_true hk39)) (Wn.none rfl) rfl rfl ?_
        refine WR.step (Ex.move rfl) (Wn.none rfl) rfl rfl ?_
        refine WR.step (Ex.fieldAddr Tryz.underlying26 rfl Tryz.sizeOf3 (by decide) rfl) (Wn.some rfl rfl rfl) rfl rfl ?_
        refine WR.step (Ex.load1 H rfl (by repeat (first | exact List.Mem.head _ | apply List.Mem.tail)) Tryz.isAgg3 (by rfl)) (Wn.some rfl rfl rfl) rfl rfl ?_
        refine WR.stepE (v' := .bool false) (Ex.eql rfl rfl) (congrArg Value.bool (decide_eq_false hk40)) (Wn.some rfl rfl rfl) rfl rfl ?_
        refine WR.step (Ex.pickT rfl rfl) (Wn.none rfl) rfl rfl ?_
        refine WR.step (Ex.move rfl) (Wn.none rfl) rfl rfl ?_
        refine WR.skipN 4 rfl rfl ?_
        refine WR.step (Ex.pickF rfl rfl) (Wn.none rfl) rfl rfl ?_
        refine WR.step (Ex.move rfl) (Wn.none rfl) rfl rfl ?_
        refine WR.skipN 9 rfl rfl ?_
        refine WR.step (Ex.pickF rfl rfl) (Wn.none rfl) rfl rfl ?_
        refine WR.step (Ex.assign rfl) (Wn.none rfl) rfl rfl ?_
        refine WR.nil ?_
        exact WQ.meetN [(2, _)] ⟨rfl, trivial⟩ ⟨_, _, rfl, (H.pick (L' := []) (by repeat (first | exact Pick.nil | refine Pick.cons (by repeat (first | exact Rem.head | apply Rem.tail)) ?_))), hg_errR, hg_errS, hg_maxl, hg_pow10, e37⟩
      ·
       rw [if_neg hk39] at e37
       refine WR.stepE (v' := .bool false) (Ex.eql rfl rfl) (congrArg Value.bool (decide_eq_false hk39)) (Wn.none rfl) rfl rfl ?_
       refine WR.step (Ex.move rfl) (Wn.none rfl) rfl rfl ?_
       refine WR.skipN 3 rfl rfl ?_
       refine WR.step (Ex.pickF rfl rfl) (Wn.none rfl) rfl rfl ?_
       refine WR.step (Ex.move rfl) (Wn.none rfl) rfl rfl ?_
       refine WR.skipN 4 rfl rfl ?_
       refine WR.step (Ex.pickF rfl rfl) (Wn.none rfl) rfl rfl ?_
       refine WR.step (Ex.move rfl) (Wn.none rfl) rfl rfl ?_
       refine WR.skipN 9 rfl rfl ?_
       refine WR.step (Ex.pickF rfl rfl) (Wn.none rfl) rfl rfl ?_
       refine WR.step (Ex.assign rfl) (Wn.none rfl) rfl rfl ?_
       refine WR.nil ?_
       exact WQ.meetN [(2, _)] ⟨rfl, trivial⟩ ⟨_, _, rfl, (H.pick (L' := []) (by repeat (first | exact Pick.nil | refine Pick.cons (by repeat (first | exact Rem.head | apply Rem.tail)) ?_))), hg_errR, hg_errS, hg_maxl, hg_pow10, e37⟩
     ·
      rintro e w ⟨b38, M, rfl, H, hg_errR, hg_errS, hg_maxl, hg_pow10, q46⟩
      obtain rfl := Option.some.inj q46
      refine WQ.then ?_
      refine WC.ret ?_
      (repeat (first | refine WQ.thenRet ?_ | refine WQ.inBlockRet ?_ | refine WQ.cutRet ?_ | refine WQ.scRet ?_))
      obtain rfl := Option.some.inj h
      exact WQ.ret1 rfl rfl H.ext rfl
end Go.Proofs.YtlopnlagpdchiaaGreatDoor
