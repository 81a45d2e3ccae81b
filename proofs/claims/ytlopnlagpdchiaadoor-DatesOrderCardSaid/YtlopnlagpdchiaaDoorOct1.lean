/-
  Dates: contracts of the program's functions over their plain forms, written by wip/tools/ext.py.
-/
import Derived.Test.YtlopnlagpdchiaaDoorBct3
import Derived.KernelRfl
set_option maxRecDepth 100000
set_option linter.unusedVariables false
set_option linter.unusedSimpArgs false
namespace Go.Proofs.YtlopnlagpdchiaaDoor
open Go Go.RowKit Go.Ph Go.Ph.Pl Go.Ph.Pf
theorem xty33 : ElemTy Tryd.prog 33 3 (.int .i64 0) 1 8 := ElemTy.mk' Tryd.underlying33 (by kernel_rfl) rfl (by decide)
set_option maxHeartbeats 4000000 in
theorem L_DatesOrder_ct {p0 : (Int × Int × Int × Int × Int × Int × Int)} {p1 : (Int × Int × Int × Int × Int × Int × Int)} {r : Bool} (h : L_DatesOrder p0 p1 = some r) : Ct Tryd.prog 4 [Value.agg #[I p0.1, I p0.2.1, I p0.2.2.1, I p0.2.2.2.1, I p0.2.2.2.2.1, I p0.2.2.2.2.2.1, I p0.2.2.2.2.2.2], Value.agg #[I p1.1, I p1.2.1, I p1.2.2.1, I p1.2.2.2.1, I p1.2.2.2.2.1, I p1.2.2.2.2.2.1, I p1.2.2.2.2.2.2]] (fun M => GlF (fun w => ∃ tp p, w.var? Tryd.prog "strconv.ErrRange" = some #[.iface tp p]) M ∧ GlF (fun w => ∃ tp p, w.var? Tryd.prog "strconv.ErrSyntax" = some #[.iface tp p]) M ∧ GlF (fun w => ∃ m, w.cell? ⟨0, 0, none⟩ = some (.int .i64 m)) M ∧ GlF (fun w => Lib.TabIs Tryd.prog w "internal/strconv.uint64pow10" .u64 Lib.pow10Tab) M) (fun v M => v = Value.bool r) := by
  refine Ct.of Tryd.func4 (enters Tryd.func4 (by kernel_rfl) rfl) rfl rfl rfl ?_
  intro w0 M0 H hp
  obtain ⟨hg_errR, hg_errS, hg_maxl, hg_pow10⟩ := hp
  unfold L_DatesOrder at h
  refine WC.seq ?_
  refine WC.region ?_
  refine WR.box [_, _, _, _, _, _, _] H rfl rfl (Wn.none rfl) rfl ?_
  intro b2 w H
  refine WR.box [_, _, _, _, _, _, _] H rfl rfl (Wn.none rfl) rfl ?_
  intro b3 w H
  refine WR.step (Ex.assign rfl) (Wn.none rfl) rfl rfl ?_
  refine WR.nil ?_
  refine WQ.then ?_
  refine WC.seq ?_
  refine WC.seq ?_
  obtain ⟨b1, hx2, h⟩ := bnd h
  refine WC.region ?_
  refine WR.call H (L_datesExample_ct hx2) rfl ⟨hg_errR, hg_errS, hg_maxl, hg_pow10⟩ (Wn.none rfl) rfl ?_
  intro v16 M w H hle hR
  replace hg_errR := hg_errR.mono hle
  replace hg_errS := hg_errS.mono hle
  replace hg_maxl := hg_maxl.mono hle
  replace hg_pow10 := hg_pow10.mono hle
  obtain rfl := hR
  refine WR.step (Ex.not rfl) (Wn.none rfl) rfl rfl ?_
  refine WR.nil ?_
  refine WQ.then ?_
  refine WC.condB rfl (fun hk3 => ?_) (fun hk3 => ?_)
  ·
   replace hk3 : b1 = false := by simpa using hk3
   subst hk3
   rw [if_neg Bool.false_ne_true] at h
   refine WC.seq ?_
   refine WC.region ?_
   refine WR.step (Ex.assign rfl) (Wn.none rfl) rfl rfl ?_
   refine WR.nil ?_
   refine WQ.then ?_
   refine WC.ret ?_
   (repeat (first | refine WQ.thenRet ?_ | refine WQ.inBlockRet ?_ | refine WQ.cutRet ?_ | refine WQ.scRet ?_))
   obtain rfl := Option.some.inj h
   exact WQ.ret1 rfl rfl H.ext rfl
  ·
   replace hk3 : b1 = true := by simpa using hk3
   subst hk3
   rw [if_pos rfl] at h
   refine WC.skip ?_
   refine WQ.then ?_
   refine WC.seq ?_
   obtain ⟨⟨n4, ⟨n5, n6⟩⟩, hx7, h⟩ := bnd h
   try dsimp only at h
   refine WC.region ?_
   refine WR.step (Ex.loadAgg H rfl (by repeat (first | exact List.Mem.head _ | apply List.Mem.tail)) Tryd.isAgg23 Tryd.sizeOf23 (by rfl)) (Wn.none rfl) rfl rfl ?_
   refine WR.call H (dates_Instant_ct hx7) rfl trivial (Wn.none rfl) rfl ?_
   intro v20 M w H hle hR
   replace hg_errR := hg_errR.mono hle
   replace hg_errS := hg_errS.mono hle
   replace hg_maxl := hg_maxl.mono hle
   replace hg_pow10 := hg_pow10.mono hle
   try dsimp only at hR
   obtain rfl := hR
   refine WR.step (Ex.move rfl) (Wn.none rfl) rfl rfl ?_
   refine WR.step (Ex.extract rfl rfl) (Wn.none rfl) rfl rfl ?_
   refine WR.step (Ex.extract rfl rfl) (Wn.none rfl) rfl rfl ?_
   refine WR.alloc [_, _] H Tryd.zeroValue26 rfl (Wn.none rfl) rfl ?_
   intro b6 w H
   refine WR.step (Ex.assign rfl) (Wn.none rfl) rfl rfl ?_
   refine WR.store [_, _] H rfl rfl rfl (by repeat (first | exact Upd.head | apply Upd.tail)) Tryd.sizeOf26 rfl (by rfl) (by rfl) (Wn.none rfl) ?_
   intro w H
   refine WR.nil ?_
   refine WQ.then ?_
   refine WC.seq ?_
   obtain ⟨⟨n8, ⟨n9, n10⟩⟩, hx11, h⟩ := bnd h
   try dsimp only at h
   refine WC.region ?_
   refine WR.step (Ex.loadAgg H rfl (by repeat (first | exact List.Mem.head _ | apply List.Mem.tail)) Tryd.isAgg23 Tryd.sizeOf23 (by rfl)) (Wn.none rfl) rfl rfl ?_
   refine WR.call H (dates_Instant_ct hx11) rfl trivial (Wn.none rfl) rfl ?_
   intro v25 M w H hle hR
   replace hg_errR := hg_errR.mono hle
   replace hg_errS := hg_errS.mono hle
   replace hg_maxl := hg_maxl.mono hle
   replace hg_pow10 := hg_pow10.mono hle
   try dsimp only at hR
   obtain rfl := hR
   refine WR.step (Ex.move rfl) (Wn.none rfl) rfl rfl ?_
   refine WR.step (Ex.extract rfl rfl) (Wn.none rfl) rfl rfl ?_
   refine WR.step (Ex.extract rfl rfl) (Wn.none rfl) rfl rfl ?_
   refine WR.alloc [_, _] H Tryd.zeroValue26 rfl (Wn.none rfl) rfl ?_
   intro b8 w H
   refine WR.step (Ex.assign rfl) (Wn.none rfl) rfl rfl ?_
   refine WR.store [_, _] H rfl rfl rfl (by repeat (first | exact Upd.head | apply Upd.tail)) Tryd.sizeOf26 rfl (by rfl) (by rfl) (Wn.none rfl) ?_
   intro w H
   refine WR.nil ?_
   refine WQ.then ?_
   refine WC.seq ?_
   refine WC.seq ?_
   obtain ⟨o12, e13, h⟩ := bnd h
   refine WC.cutX (fun e w => ∃ (b14 : Bool) (M : Mem), e = [(2, ptr b2 0), (3, ptr b3 0), (5, I n4), (6, ptr b6 0), (7, I n8), (35, Value.bool b14)] ∧ St w0 M0 M [.blk b2 (.cells #[I p0.1, I p0.2.1, I p0.2.2.1, I p0.2.2.2.1, I p0.2.2.2.2.1, I p0.2.2.2.2.2.1, I p0.2.2.2.2.2.2] 23), .blk b3 (.cells #[I p1.1, I p1.2.1, I p1.2.2.1, I p1.2.2.2.1, I p1.2.2.2.2.1, I p1.2.2.2.2.2.1, I p1.2.2.2.2.2.2] 23), .blk b6 (.cells #[I n5, I n6] 26)] w ∧ GlF (fun w => ∃ tp p, w.var? Tryd.prog "strconv.ErrRange" = some #[.iface tp p]) M ∧ GlF (fun w => ∃ tp p, w.var? Tryd.prog "strconv.ErrSyntax" = some #[.iface tp p]) M ∧ GlF (fun w => ∃ m, w.cell? ⟨0, 0, none⟩ = some (.int .i64 m)) M ∧ GlF (fun w => Lib.TabIs Tryd.prog w "internal/strconv.uint64pow10" .u64 Lib.pow10Tab) M ∧ some b14 = some o12) [] ?_ ?_ (trivial)
   ·
    refine WC.region ?_
    refine WR.step (Ex.fieldAddr Tryd.underlying26 rfl Tryd.sizeOf3 (by decide) rfl) (Wn.none rfl) rfl rfl ?_
    refine WR.step (Ex.load1 H rfl (by repeat (first | exact List.Mem.head _ | apply List.Mem.tail)) Tryd.isAgg3 (by rfl)) (Wn.none rfl) rfl rfl ?_
    by_cases hk15 : n5 = (0 : Int)
    ·
     rw [if_pos hk15] at e13
     refine WR.stepE (v' := .bool false) (Ex.neqC rfl rfl) (congrArg Value.bool (by rw [decide_eq_true hk15]; rfl)) (Wn.none rfl) rfl rfl ?_
     refine WR.step (Ex.move rfl) (Wn.none rfl) rfl rfl ?_
     refine WR.step (Ex.fieldAddr Tryd.underlying26 rfl Tryd.sizeOf3 (by decide) rfl) (Wn.some rfl rfl rfl) rfl rfl ?_
     refine WR.step (Ex.load1 H rfl (by repeat (first | exact List.Mem.head _ | apply List.Mem.tail)) Tryd.isAgg3 (by rfl)) (Wn.some rfl rfl rfl) rfl rfl ?_
     refine WR.step (Ex.neqC rfl rfl) (Wn.some rfl rfl rfl) rfl rfl ?_
     refine WR.step (Ex.pickF rfl rfl) (Wn.none rfl) rfl rfl ?_
     refine WR.nil ?_
     exact WQ.meetN [(2, _), (3, _), (5, _), (6, _), (7, _), (35, _)] ⟨rfl, rfl, rfl, rfl, rfl, rfl, trivial⟩ ⟨_, _, rfl, (H.pick (L' := [.blk b2 (.cells #[I p0.1, I p0.2.1, I p0.2.2.1, I p0.2.2.2.1, I p0.2.2.2.2.1, I p0.2.2.2.2.2.1, I p0.2.2.2.2.2.2] 23), .blk b3 (.cells #[I p1.1, I p1.2.1, I p1.2.2.1, I p1.2.2.2.1, I p1.2.2.2.2.1, I p1.2.2.2.2.2.1, I p1.2.2.2.2.2.2] 23), .blk b6 (.cells #[I n5, I n6] 26)]) (by repeat (first | exact Pick.nil | refine Pick.cons (by repeat (first | exact Rem.head | apply Rem.tail)) ?_))), hg_errR, hg_errS, hg_maxl, hg_pow10, e13⟩
    ·
     rw [if_neg hk15] at e13
     refine WR.stepE (v' := .bool true) (Ex.neqC rfl rfl) (congrArg Value.bool (by rw [decide_eq_false hk15]; rfl)) (Wn.none rfl) rfl rfl ?_
     refine WR.step (Ex.move rfl) (Wn.none rfl) rfl rfl ?_
     refine WR.skipN 3 rfl rfl ?_
     refine WR.step (Ex.pickT rfl rfl) (Wn.none rfl) rfl rfl ?_
     refine WR.nil ?_
     exact WQ.meetN [(2, _), (3, _), (5, _), (6, _), (7, _), (35, _)] ⟨rfl, rfl, rfl, rfl, rfl, rfl, trivial⟩ ⟨_, _, rfl, (H.pick (L' := [.blk b2 (.cells #[I p0.1, I p0.2.1, I p0.2.2.1, I p0.2.2.2.1, I p0.2.2.2.2.1, I p0.2.2.2.2.2.1, I p0.2.2.2.2.2.2] 23), .blk b3 (.cells #[I p1.1, I p1.2.1, I p1.2.2.1, I p1.2.2.2.1, I p1.2.2.2.2.1, I p1.2.2.2.2.2.1, I p1.2.2.2.2.2.2] 23), .blk b6 (.cells #[I n5, I n6] 26)]) (by repeat (first | exact Pick.nil | refine Pick.cons (by repeat (first | exact Rem.head | apply Rem.tail)) ?_))), hg_errR, hg_errS, hg_maxl, hg_pow10, e13⟩
   ·
    rintro e w ⟨b14, M, rfl, H, hg_errR, hg_errS, hg_maxl, hg_pow10, q16⟩
    obtain rfl := Option.some.inj q16
    refine WQ.then ?_
    refine WC.condB rfl (fun hk17 => ?_) (fun hk17 => ?_)
    ·
     subst hk17
     rw [if_pos rfl] at h
     refine WC.seq ?_
     obtain ⟨o18, e19, h⟩ := bnd h
     refine WC.cutX (fun e w => ∃ (b20 : Bool) (M : Mem), e = [(4, Value.bool b20)] ∧ St w0 M0 M [] w ∧ GlF (fun w => ∃ tp p, w.var? Tryd.prog "strconv.ErrRange" = some #[.iface tp p]) M ∧ GlF (fun w => ∃ tp p, w.var? Tryd.prog "strconv.ErrSyntax" = some #[.iface tp p]) M ∧ GlF (fun w => ∃ m, w.cell? ⟨0, 0, none⟩ = some (.int .i64 m)) M ∧ GlF (fun w => Lib.TabIs Tryd.prog w "internal/strconv.uint64pow10" .u64 Lib.pow10Tab) M ∧ some b20 = some o18) [] ?_ ?_ (trivial)
     ·
      refine WC.region ?_
      refine WR.step (Ex.fieldAddr Tryd.underlying26 rfl Tryd.sizeOf3 (by decide) rfl) (Wn.none rfl) rfl rfl ?_
      refine WR.step (Ex.load1 H rfl (by repeat (first | exact List.Mem.head _ | apply List.Mem.tail)) Tryd.isAgg3 (by rfl)) (Wn.none rfl) rfl rfl ?_
      by_cases hk21 : n5 = (0 : Int)
      ·
       rw [if_pos hk21] at e19
       refine WR.stepE (v' := .bool true) (Ex.eql rfl rfl) (congrArg Value.bool (decide_eq_true hk21)) (Wn.none rfl) rfl rfl ?_
       refine WR.step (Ex.move rfl) (Wn.none rfl) rfl rfl ?_
       refine WR.skipG (b := true) rfl rfl rfl rfl rfl ?_
       refine WR.skipG (b := true) rfl rfl rfl rfl rfl ?_
       refine WR.step (Ex.pickT rfl rfl) (Wn.none rfl) rfl rfl ?_
       refine WR.step (Ex.assign rfl) (Wn.none rfl) rfl rfl ?_
       refine WR.nil ?_
       exact WQ.meetN [(4, _)] ⟨rfl, trivial⟩ ⟨_, _, rfl, (H.pick (L' := []) (by repeat (first | exact Pick.nil | refine Pick.cons (by repeat (first | exact Rem.head | apply Rem.tail)) ?_))), hg_errR, hg_errS, hg_maxl, hg_pow10, e19⟩
      ·
       rw [if_neg hk21] at e19
       refine WR.stepE (v' := .bool false) (Ex.eql rfl rfl) (congrArg Value.bool (decide_eq_false hk21)) (Wn.none rfl) rfl rfl ?_
       refine WR.step (Ex.move rfl) (Wn.none rfl) rfl rfl ?_
       refine WR.step (Ex.move rfl) (Wn.some rfl rfl rfl) rfl rfl ?_
       refine WR.step (Ex.eql rfl rfl) (Wn.some rfl rfl rfl) rfl rfl ?_
       refine WR.step (Ex.pickF rfl rfl) (Wn.none rfl) rfl rfl ?_
       refine WR.step (Ex.assign rfl) (Wn.none rfl) rfl rfl ?_
       refine WR.nil ?_
       exact WQ.meetN [(4, _)] ⟨rfl, trivial⟩ ⟨_, _, rfl, (H.pick (L' := []) (by repeat (first | exact Pick.nil | refine Pick.cons (by repeat (first | exact Rem.head | apply Rem.tail)) ?_))), hg_errR, hg_errS, hg_maxl, hg_pow10, e19⟩
     ·
      rintro e w ⟨b20, M, rfl, H, hg_errR, hg_errS, hg_maxl, hg_pow10, q22⟩
      obtain rfl := Option.some.inj q22
      refine WQ.then ?_
      refine WC.ret ?_
      (repeat (first | refine WQ.thenRet ?_ | refine WQ.inBlockRet ?_ | refine WQ.cutRet ?_ | refine WQ.scRet ?_))
      obtain rfl := Option.some.inj h
      exact WQ.ret1 rfl rfl H.ext rfl
    ·
     subst hk17
     rw [if_neg Bool.false_ne_true] at h
     refine WC.skip ?_
     refine WQ.then ?_
     refine WC.seq ?_
     refine WC.region ?_
     refine WR.step (Ex.fieldAddr Tryd.underlying23 rfl Tryd.sizeOf3 (by decide) rfl) (Wn.none rfl) rfl rfl ?_
     refine WR.step (Ex.load1 H rfl (by repeat (first | exact List.Mem.head _ | apply List.Mem.tail)) Tryd.isAgg3 (by rfl)) (Wn.none rfl) rfl rfl ?_
     refine WR.step (Ex.assign rfl) (Wn.none rfl) rfl rfl ?_
     refine WR.nil ?_
     refine WQ.then ?_
     refine WC.seq ?_
     refine WC.region ?_
     refine WR.step (Ex.fieldAddr Tryd.underlying23 rfl Tryd.sizeOf3 (by decide) rfl) (Wn.none rfl) rfl rfl ?_
     refine WR.step (Ex.load1 H rfl (by repeat (first | exact List.Mem.head _ | apply List.Mem.tail)) Tryd.isAgg3 (by rfl)) (Wn.none rfl) rfl rfl ?_
     refine WR.step (Ex.fieldAddr Tryd.underlying23 rfl Tryd.sizeOf3 (by decide) rfl) (Wn.none rfl) rfl rfl ?_
     refine WR.store1 [_, _, _, _, _, _, _] H rfl rfl (by repeat (first | exact Upd.head | apply Upd.tail)) (by rfl) Tryd.sizeOf3 (by first | decide | (simp; done) | (simp; omega)) (by rfl) (by rfl) (Wn.none rfl) ?_
     intro w H
     refine WR.nil ?_
     refine WQ.then ?_
     refine WC.seq ?_
     obtain ⟨⟨n23, ⟨n24, n25⟩⟩, hx26, h⟩ := bnd h
     try dsimp only at h
     refine WC.region ?_
     refine WR.step (Ex.loadAgg H rfl (by repeat (first | exact List.Mem.head _ | apply List.Mem.tail)) Tryd.isAgg23 Tryd.sizeOf23 (by rfl)) (Wn.none rfl) rfl rfl ?_
     refine WR.call H (dates_Instant_ct hx26) rfl trivial (Wn.none rfl) rfl ?_
     intro v50 M w H hle hR
     replace hg_errR := hg_errR.mono hle
     replace hg_errS := hg_errS.mono hle
     replace hg_maxl := hg_maxl.mono hle
     replace hg_pow10 := hg_pow10.mono hle
     try dsimp only at hR
     obtain rfl := hR
     refine WR.step (Ex.move rfl) (Wn.none rfl) rfl rfl ?_
     refine WR.step (Ex.extract rfl rfl) (Wn.none rfl) rfl rfl ?_
     refine WR.step (Ex.extract rfl rfl) (Wn.none rfl) rfl rfl ?_
     refine WR.alloc [_, _] H Tryd.zeroValue26 rfl (Wn.none rfl) rfl ?_
     intro b11 w H
     refine WR.step (Ex.assign rfl) (Wn.none rfl) rfl rfl ?_
     refine WR.store [_, _] H rfl rfl rfl (by repeat (first | exact Upd.head | apply Upd.tail)) Tryd.sizeOf26 rfl (by rfl) (by rfl) (Wn.none rfl) ?_
     intro w H
     refine WR.nil ?_
     refine WQ.then ?_
     refine WC.seq ?_
     refine WC.region ?_
     refine WR.step (Ex.fieldAddr Tryd.underlying23 rfl Tryd.sizeOf3 (by decide) rfl) (Wn.none rfl) rfl rfl ?_
     refine WR.step (Ex.load1 H rfl (by repeat (first | exact List.Mem.head _ | apply List.Mem.tail)) Tryd.isAgg3 (by rfl)) (Wn.none rfl) rfl rfl ?_
     refine WR.step (Ex.fieldAddr Tryd.underlying23 rfl Tryd.sizeOf3 (by decide) rfl) (Wn.none rfl) rfl rfl ?_
     refine WR.step (Ex.load1 H rfl (by repeat (first | exact List.Mem.head _ | apply List.Mem.tail)) Tryd.isAgg3 (by rfl)) (Wn.none rfl) rfl rfl ?_
     refine WR.step (Ex.fieldAddr Tryd.underlying23 rfl Tryd.sizeOf3 (by decide) rfl) (Wn.none rfl) rfl rfl ?_
     refine WR.step (Ex.load1 H rfl (by repeat (first | exact List.Mem.head _ | apply List.Mem.tail)) Tryd.isAgg3 (by rfl)) (Wn.none rfl) rfl rfl ?_
     refine WR.step (Ex.fieldAddr Tryd.underlying23 rfl Tryd.sizeOf3 (by decide) rfl) (Wn.none rfl) rfl rfl ?_
     refine WR.step (Ex.load1 H rfl (by repeat (first | exact List.Mem.head _ | apply List.Mem.tail)) Tryd.isAgg3 (by rfl)) (Wn.none rfl) rfl rfl ?_
     refine WR.step (Ex.fieldAddr Tryd.underlying23 rfl Tryd.sizeOf3 (by decide) rfl) (Wn.none rfl) rfl rfl ?_
     refine WR.step (Ex.load1 H rfl (by repeat (first | exact List.Mem.head _ | apply List.Mem.tail)) Tryd.isAgg3 (by rfl)) (Wn.none rfl) rfl rfl ?_
     refine WR.step (Ex.fieldAddr Tryd.underlying23 rfl Tryd.sizeOf3 (by decide) rfl) (Wn.none rfl) rfl rfl ?_
     refine WR.step (Ex.load1 H rfl (by repeat (first | exact List.Mem.head _ | apply List.Mem.tail)) Tryd.isAgg3 (by rfl)) (Wn.none rfl) rfl rfl ?_
     refine WR.lit (enc := encI) xty33 ([p0.1, p0.2.1, p0.2.2.1, p0.2.2.2.1, p0.2.2.2.2.1, p0.2.2.2.2.2.1] : List Int) H rfl (by rfl) (fun _ => rfl) rfl rfl (Wn.none rfl) rfl ?_
     intro v65 M w H hle hs65
     replace hg_errR := hg_errR.mono hle
     replace hg_errS := hg_errS.mono hle
     replace hg_maxl := hg_maxl.mono hle
     replace hg_pow10 := hg_pow10.mono hle
     refine WR.step (Ex.assign rfl) (Wn.none rfl) rfl rfl ?_
     refine WR.nil ?_
     refine WQ.then ?_
     refine WC.seq ?_
     refine WC.region ?_
     refine WR.step (Ex.fieldAddr Tryd.underlying23 rfl Tryd.sizeOf3 (by decide) rfl) (Wn.none rfl) rfl rfl ?_
     refine WR.step (Ex.load1 H rfl (by repeat (first | exact List.Mem.head _ | apply List.Mem.tail)) Tryd.isAgg3 (by rfl)) (Wn.none rfl) rfl rfl ?_
     refine WR.step (Ex.fieldAddr Tryd.underlying23 rfl Tryd.sizeOf3 (by decide) rfl) (Wn.none rfl) rfl rfl ?_
     refine WR.step (Ex.load1 H rfl (by repeat (first | exact List.Mem.head _ | apply List.Mem.tail)) Tryd.isAgg3 (by rfl)) (Wn.none rfl) rfl rfl ?_
     refine WR.step (Ex.fieldAddr Tryd.underlying23 rfl Tryd.sizeOf3 (by decide) rfl) (Wn.none rfl) rfl rfl ?_
     refine WR.step (Ex.load1 H rfl (by repeat (first | exact List.Mem.head _ | apply List.Mem.tail)) Tryd.isAgg3 (by rfl)) (Wn.none rfl) rfl rfl ?_
     refine WR.step (Ex.fieldAddr Tryd.underlying23 rfl Tryd.sizeOf3 (by decide) rfl) (Wn.none rfl) rfl rfl ?_
     refine WR.step (Ex.load1 H rfl (by repeat (first | exact List.Mem.head _ | apply List.Mem.tail)) Tryd.isAgg3 (by rfl)) (Wn.none rfl) rfl rfl ?_
     refine WR.step (Ex.fieldAddr Tryd.underlying23 rfl Tryd.sizeOf3 (by decide) rfl) (Wn.none rfl) rfl rfl ?_
     refine WR.step (Ex.load1 H rfl (by repeat (first | exact List.Mem.head _ | apply List.Mem.tail)) Tryd.isAgg3 (by rfl)) (Wn.none rfl) rfl rfl ?_
     refine WR.step (Ex.fieldAddr Tryd.underlying23 rfl Tryd.sizeOf3 (by decide) rfl) (Wn.none rfl) rfl rfl ?_
     refine WR.step (Ex.load1 H rfl (by repeat (first | exact List.Mem.head _ | apply List.Mem.tail)) Tryd.isAgg3 (by rfl)) (Wn.none rfl) rfl rfl ?_
     refine WR.lit (enc := encI) xty33 ([p1.1, p1.2.1, p1.2.2.1, p1.2.2.2.1, p1.2.2.2.2.1, p1.2.2.2.2.2.1] : List Int) H rfl (by rfl) (fun _ => rfl) rfl rfl (Wn.none rfl) rfl ?_
     intro v78 M w H hle hs78
     replace hg_errR := hg_errR.mono hle
     replace hg_errS := hg_errS.mono hle
     replace hg_maxl := hg_maxl.mono hle
     replace hg_pow10 := hg_pow10.mono hle
     replace hs65 := hs65.mono hle
     refine WR.step (Ex.assign rfl) (Wn.none rfl) rfl rfl ?_
     refine WR.nil ?_
     refine WQ.then ?_
     refine WC.seq ?_
     refine WC.region ?_
     refine WR.step (Ex.assign rfl) (Wn.none rfl) rfl rfl ?_
     refine WR.nil ?_
     refine WQ.then ?_
     refine WC.seq ?_
     refine WC.seq ?_
     refine WC.region ?_
     refine WR.step (Ex.assign rfl) (Wn.none rfl) rfl rfl ?_
     refine WR.nil ?_
     refine WQ.then ?_
     obtain ⟨o27, e28, h⟩ := bnd h
     refine WC.cutX (fun e w => ∃ (b29 : Bool) (M : Mem), e = [(2, ptr b2 0), (5, I n4), (7, I n8), (9, I p1.2.2.2.2.2.2), (10, I n23), (11, ptr b11 0), (14, Value.bool b29)] ∧ St w0 M0 M [.blk b2 (.cells #[I p0.1, I p0.2.1, I p0.2.2.1, I p0.2.2.2.1, I p0.2.2.2.2.1, I p0.2.2.2.2.2.1, I p0.2.2.2.2.2.2] 23), .blk b11 (.cells #[I n24, I n25] 26)] w ∧ GlF (fun w => ∃ tp p, w.var? Tryd.prog "strconv.ErrRange" = some #[.iface tp p]) M ∧ GlF (fun w => ∃ tp p, w.var? Tryd.prog "strconv.ErrSyntax" = some #[.iface tp p]) M ∧ GlF (fun w => ∃ m, w.cell? ⟨0, 0, none⟩ = some (.int .i64 m)) M ∧ GlF (fun w => Lib.TabIs Tryd.prog w "internal/strconv.uint64pow10" .u64 Lib.pow10Tab) M ∧ some b29 = some o27) [] ?_ ?_ (trivial)
     ·
      refine WC.block ?_
      refine WC.loopP (fun m e w => ∃ (b30 : Bool) (n31 : Int) (M : Mem), e = [(2, ptr b2 0), (5, I n4), (7, I n8), (9, I p1.2.2.2.2.2.2), (10, I n23), (11, ptr b11 0), (12, v65), (13, v78), (14, Value.bool b30), (15, I n31)] ∧ St w0 M0 M [.blk b2 (.cells #[I p0.1, I p0.2.1, I p0.2.2.1, I p0.2.2.2.1, I p0.2.2.2.2.1, I p0.2.2.2.2.2.1, I p0.2.2.2.2.2.2] 23), .blk b11 (.cells #[I n24, I n25] 26)] w ∧ GlF (fun w => ∃ tp p, w.var? Tryd.prog "strconv.ErrRange" = some #[.iface tp p]) M ∧ GlF (fun w => ∃ tp p, w.var? Tryd.prog "strconv.ErrSyntax" = some #[.iface tp p]) M ∧ GlF (fun w => ∃ m, w.cell? ⟨0, 0, none⟩ = some (.int .i64 m)) M ∧ GlF (fun w => Lib.TabIs Tryd.prog w "internal/strconv.uint64pow10" .u64 Lib.pow10Tab) M ∧ Sl M encI v65 ([p0.1, p0.2.1, p0.2.2.1, p0.2.2.2.1, p0.2.2.2.2.1, p0.2.2.2.2.2.1] : List Int) ∧ Sl M encI v78 ([p1.1, p1.2.1, p1.2.2.1, p1.2.2.2.1, p1.2.2.2.2.1, p1.2.2.2.2.2.1] : List Int) ∧ L_DatesOrder_L1 p0 p1 m b30 n31 = some o27) FU [(2, _), (5, _), (7, _), (9, _), (10, _), (11, _), (12, _), (13, _), (14, _), (15, _)] ⟨rfl, rfl, rfl, rfl, rfl, rfl, rfl, rfl, rfl, rfl, trivial⟩ ⟨_, _, _, rfl, (H.pick (L' := [.blk b2 (.cells #[I p0.1, I p0.2.1, I p0.2.2.1, I p0.2.2.2.1, I p0.2.2.2.2.1, I p0.2.2.2.2.2.1, I p0.2.2.2.2.2.2] 23), .blk b11 (.cells #[I n24, I n25] 26)]) (by repeat (first | exact Pick.nil | refine Pick.cons (by repeat (first | exact Rem.head | apply Rem.tail)) ?_))), hg_errR, hg_errS, hg_maxl, hg_pow10, hs65, hs78, e28⟩ ?_
      rintro m32 e w ⟨b30, n31, M, rfl, H, hg_errR, hg_errS, hg_maxl, hg_pow10, hs65, hs78, e28⟩
      rcases m32 with _ | m32
      · rw [L_DatesOrder_L1] at e28; cases e28
      rw [L_DatesOrder_L1] at e28
      refine WC.seq ?_
      refine WC.seq ?_
      refine WC.region ?_
      refine WR.step (Ex.move rfl) (Wn.none rfl) rfl rfl ?_
      refine WR.step (Ex.geq rfl rfl) (Wn.none rfl) rfl rfl ?_
      refine WR.nil ?_
      refine WQ.then ?_
      refine WC.condB rfl (fun hk33 => ?_) (fun hk33 => ?_)
      ·
       replace hk33 : (0 : Int) ≤ n31 := of_decide_eq_true hk33
       rw [if_pos hk33] at e28
       refine WC.skip ?_
       refine WQ.then ?_
       refine WC.seq ?_
       refine WC.block ?_
       obtain ⟨o34, e35, e28⟩ := bnd e28
       refine WC.cutX (fun e w => ∃ (b36 : Bool) (M : Mem), e = [(2, ptr b2 0), (5, I n4), (7, I n8), (9, I p1.2.2.2.2.2.2), (10, I n23), (11, ptr b11 0), (12, v65), (13, v78), (14, Value.bool b36), (15, I n31)] ∧ St w0 M0 M [.blk b2 (.cells #[I p0.1, I p0.2.1, I p0.2.2.1, I p0.2.2.2.1, I p0.2.2.2.2.1, I p0.2.2.2.2.2.1, I p0.2.2.2.2.2.2] 23), .blk b11 (.cells #[I n24, I n25] 26)] w ∧ GlF (fun w => ∃ tp p, w.var? Tryd.prog "strconv.ErrRange" = some #[.iface tp p]) M ∧ GlF (fun w => ∃ tp p, w.var? Tryd.prog "strconv.ErrSyntax" = some #[.iface tp p]) M ∧ GlF (fun w => ∃ m, w.cell? ⟨0, 0, none⟩ = some (.int .i64 m)) M ∧ GlF (fun w => Lib.TabIs Tryd.prog w "internal/strconv.uint64pow10" .u64 Lib.pow10Tab) M ∧ Sl M encI v65 ([p0.1, p0.2.1, p0.2.2.1, p0.2.2.2.1, p0.2.2.2.2.1, p0.2.2.2.2.2.1] : List Int) ∧ Sl M encI v78 ([p1.1, p1.2.1, p1.2.2.1, p1.2.2.2.1, p1.2.2.2.2.1, p1.2.2.2.2.2.1] : List Int) ∧ some b36 = some o34) [] ?_ ?_ (trivial)
       ·
        obtain ⟨a37, hxa37, e35⟩ := bnd e35
        obtain ⟨a38, hxa38, e35⟩ := bnd e35
        refine WC.draw (m := 24) rfl rfl H ?_
        intro w H
        refine WA.take (i := 0) rfl (by kernel_rfl) (by kernel_rfl) (by kernel_rfl) (fun _ => Ex.move rfl) (Wn.none rfl) rfl rfl (fun _ _ => rfl) ?_
        refine WA.take (i := 1) rfl (by kernel_rfl) (by kernel_rfl) (by kernel_rfl) (fun _ => Ex.move rfl) (Wn.none rfl) rfl rfl (fun _ _ => rfl) ?_
        refine WA.take (i := 4) rfl (by kernel_rfl) (by kernel_rfl) (by kernel_rfl) (fun _ => Ex.move rfl) (Wn.none rfl) rfl rfl (fun _ _ => rfl) ?_
        refine WA.take (i := 5) rfl (by kernel_rfl) (by kernel_rfl) (by kernel_rfl) (fun _ => Ex.move rfl) (Wn.none rfl) rfl rfl (fun _ _ => rfl) ?_
        by_cases hk39 : a37 < a38
        ·
         rw [if_pos hk39] at e35
         refine WA.two (i := 2) (j := 6) (by kernel_rfl) rfl rfl ?_ ?_
         ·
          refine WR.idxC Tryd.underlying33 Tryd.sizeOf3 (hs65) rfl rfl hxa37 (Wn.none rfl) rfl ?_
          intro p85 hc85
          refine WR.nil (WQ.any ?_)
          refine WA.two (i := 3) (j := 6) (by kernel_rfl) rfl rfl ?_ ?_
          ·
           refine WR.step (Ex.loadM H rfl hc85 Tryd.isAgg3) (Wn.none rfl) rfl rfl ?_
           refine WR.nil (WQ.any ?_)
           refine WA.seq (fuel := 14) [6, 7, 8, 9] rfl (by kernel_rfl) ?_
           refine WR.idxC Tryd.underlying33 Tryd.sizeOf3 (hs78) rfl rfl hxa38 (Wn.none rfl) rfl ?_
           intro p89 hc89
           refine WR.step (Ex.loadM H rfl hc89 Tryd.isAgg3) (Wn.none rfl) rfl rfl ?_
           refine WR.stepE (v' := .bool true) (Ex.lss rfl rfl) (congrArg Value.bool (decide_eq_true hk39)) (Wn.none rfl) rfl rfl ?_
           refine WR.step (Ex.move rfl) (Wn.none rfl) rfl rfl ?_
           refine WR.nil (WQ.any ?_)
           refine WA.takes (fuel := 9) [10, 11, 12, 13, 14] rfl (by kernel_rfl) (by kernel_rfl) rfl ?_
           refine WA.seq (fuel := 0) [15, 16, 17, 18, 19, 20, 21, 22, 23] rfl (by kernel_rfl) ?_
           refine WR.skipN 7 rfl rfl ?_
           refine WR.step (Ex.pickT rfl rfl) (Wn.none rfl) rfl rfl ?_
           refine WR.step (Ex.assign rfl) (Wn.none rfl) rfl rfl ?_
           refine WR.nil (WQ.any ?_)
           refine WA.done (by kernel_rfl) ?_
           exact WQ.meetN [(2, _), (5, _), (7, _), (9, _), (10, _), (11, _), (12, _), (13, _), (14, _), (15, _)] ⟨rfl, rfl, rfl, rfl, rfl, rfl, rfl, rfl, rfl, rfl, trivial⟩ ⟨_, _, rfl, H, hg_errR, hg_errS, hg_maxl, hg_pow10, hs65, hs78, e35⟩
          ·
           refine WR.idxC Tryd.underlying33 Tryd.sizeOf3 (hs78) rfl rfl hxa38 (Wn.none rfl) rfl ?_
           intro p89 hc89
           refine WR.nil (WQ.any ?_)
           refine WA.two (i := 3) (j := 7) (by kernel_rfl) rfl rfl ?_ ?_
           ·
            refine WR.step (Ex.loadM H rfl hc85 Tryd.isAgg3) (Wn.none rfl) rfl rfl ?_
            refine WR.nil (WQ.any ?_)
            refine WA.seq (fuel := 14) [7, 8, 9] rfl (by kernel_rfl) ?_
            refine WR.step (Ex.loadM H rfl hc89 Tryd.isAgg3) (Wn.none rfl) rfl rfl ?_
            refine WR.stepE (v' := .bool true) (Ex.lss rfl rfl) (congrArg Value.bool (decide_eq_true hk39)) (Wn.none rfl) rfl rfl ?_
            refine WR.step (Ex.move rfl) (Wn.none rfl) rfl rfl ?_
            refine WR.nil (WQ.any ?_)
            refine WA.takes (fuel := 9) [10, 11, 12, 13, 14] rfl (by kernel_rfl) (by kernel_rfl) rfl ?_
            refine WA.seq (fuel := 0) [15, 16, 17, 18, 19, 20, 21, 22, 23] rfl (by kernel_rfl) ?_
            refine WR.skipN 7 rfl rfl ?_
            refine WR.step (Ex.pickT rfl rfl) (Wn.none rfl) rfl rfl ?_
            refine WR.step (Ex.assign rfl) (Wn.none rfl) rfl rfl ?_
            refine WR.nil (WQ.any ?_)
            refine WA.done (by kernel_rfl) ?_
            exact WQ.meetN [(2, _), (5, _), (7, _), (9, _), (10, _), (11, _), (12, _), (13, _), (14, _), (15, _)] ⟨rfl, rfl, rfl, rfl, rfl, rfl, rfl, rfl, rfl, rfl, trivial⟩ ⟨_, _, rfl, H, hg_errR, hg_errS, hg_maxl, hg_pow10, hs65, hs78, e35⟩
           ·
            refine WR.step (Ex.loadM H rfl hc89 Tryd.isAgg3) (Wn.none rfl) rfl rfl ?_
            refine WR.nil (WQ.any ?_)
            refine WA.seq (fuel := 14) [3, 8, 9] rfl (by kernel_rfl) ?_
            refine WR.step (Ex.loadM H rfl hc85 Tryd.isAgg3) (Wn.none rfl) rfl rfl ?_
            refine WR.stepE (v' := .bool true) (Ex.lss rfl rfl) (congrArg Value.bool (decide_eq_true hk39)) (Wn.none rfl) rfl rfl ?_
            refine WR.step (Ex.move rfl) (Wn.none rfl) rfl rfl ?_
            refine WR.nil (WQ.any ?_)
            refine WA.takes (fuel := 9) [10, 11, 12, 13, 14] rfl (by kernel_rfl) (by kernel_rfl) rfl ?_
            refine WA.seq (fuel := 0) [15, 16, 17, 18, 19, 20, 21, 22, 23] rfl (by kernel_rfl) ?_
            refine WR.skipN 7 rfl rfl ?_
            refine WR.step (Ex.pickT rfl rfl) (Wn.none rfl) rfl rfl ?_
            refine WR.step (Ex.assign rfl) (Wn.none rfl) rfl rfl ?_
            refine WR.nil (WQ.any ?_)
            refine WA.done (by kernel_rfl) ?_
            exact WQ.meetN [(2, _), (5, _), (7, _), (9, _), (10, _), (11, _), (12, _), (13, _), (14, _), (15, _)] ⟨rfl, rfl, rfl, rfl, rfl, rfl, rfl, rfl, rfl, rfl, trivial⟩ ⟨_, _, rfl, H, hg_errR, hg_errS, hg_maxl, hg_pow10, hs65, hs78, e35⟩
         ·
          refine WR.idxC Tryd.underlying33 Tryd.sizeOf3 (hs78) rfl rfl hxa38 (Wn.none rfl) rfl ?_
          intro p89 hc89
          refine WR.nil (WQ.any ?_)
          refine WA.two (i := 2) (j := 7) (by kernel_rfl) rfl rfl ?_ ?_
          ·
           refine WR.idxC Tryd.underlying33 Tryd.sizeOf3 (hs65) rfl rfl hxa37 (Wn.none rfl) rfl ?_
           intro p85 hc85
           refine WR.nil (WQ.any ?_)
           refine WA.two (i := 3) (j := 7) (by kernel_rfl) rfl rfl ?_ ?_
           ·
            refine WR.step (Ex.loadM H rfl hc85 Tryd.isAgg3) (Wn.none rfl) rfl rfl ?_
            refine WR.nil (WQ.any ?_)
            refine WA.seq (fuel := 14) [7, 8, 9] rfl (by kernel_rfl) ?_
            refine WR.step (Ex.loadM H rfl hc89 Tryd.isAgg3) (Wn.none rfl) rfl rfl ?_
            refine WR.stepE (v' := .bool true) (Ex.lss rfl rfl) (congrArg Value.bool (decide_eq_true hk39)) (Wn.none rfl) rfl rfl ?_
            refine WR.step (Ex.move rfl) (Wn.none rfl) rfl rfl ?_
            refine WR.nil (WQ.any ?_)
            refine WA.takes (fuel := 9) [10, 11, 12, 13, 14] rfl (by kernel_rfl) (by kernel_rfl) rfl ?_
            refine WA.seq (fuel := 0) [15, 16, 17, 18, 19, 20, 21, 22, 23] rfl (by kernel_rfl) ?_
            refine WR.skipN 7 rfl rfl ?_
            refine WR.step (Ex.pickT rfl rfl) (Wn.none rfl) rfl rfl ?_
            refine WR.step (Ex.assign rfl) (Wn.none rfl) rfl rfl ?_
            refine WR.nil (WQ.any ?_)
            refine WA.done (by kernel_rfl) ?_
            exact WQ.meetN [(2, _), (5, _), (7, _), (9, _), (10, _), (11, _), (12, _), (13, _), (14, _), (15, _)] ⟨rfl, rfl, rfl, rfl, rfl, rfl, rfl, rfl, rfl, rfl, trivial⟩ ⟨_, _, rfl, H, hg_errR, hg_errS, hg_maxl, hg_pow10, hs65, hs78, e35⟩
           ·
            refine WR.step (Ex.loadM H rfl hc89 Tryd.isAgg3) (Wn.none rfl) rfl rfl ?_
            refine WR.nil (WQ.any ?_)
            refine WA.seq (fuel := 14) [3, 8, 9] rfl (by kernel_rfl) ?_
            refine WR.step (Ex.loadM H rfl hc85 Tryd.isAgg3) (Wn.none rfl) rfl rfl ?_
            refine WR.stepE (v' := .bool true) (Ex.lss rfl rfl) (congrArg Value.bool (decide_eq_true hk39)) (Wn.none rfl) rfl rfl ?_
            refine WR.step (Ex.move rfl) (Wn.none rfl) rfl rfl ?_
            refine WR.nil (WQ.any ?_)
            refine WA.takes (fuel := 9) [10, 11, 12, 13, 14] rfl (by kernel_rfl) (by kernel_rfl) rfl ?_
            refine WA.seq (fuel := 0) [15, 16, 17, 18, 19, 20, 21, 22, 23] rfl (by kernel_rfl) ?_
            refine WR.skipN 7 rfl rfl ?_
            refine WR.step (Ex.pickT rfl rfl) (Wn.none rfl) rfl rfl ?_
            refine WR.step (Ex.assign rfl) (Wn.none rfl) rfl rfl ?_
            refine WR.nil (WQ.any ?_)
            refine WA.done (by kernel_rfl) ?_
            exact WQ.meetN [(2, _), (5, _), (7, _), (9, _), (10, _), (11, _), (12, _), (13, _), (14, _), (15, _)] ⟨rfl, rfl, rfl, rfl, rfl, rfl, rfl, rfl, rfl, rfl, trivial⟩ ⟨_, _, rfl, H, hg_errR, hg_errS, hg_maxl, hg_pow10, hs65, hs78, e35⟩
          ·
           refine WR.step (Ex.loadM H rfl hc89 Tryd.isAgg3) (Wn.none rfl) rfl rfl ?_
           refine WR.nil (WQ.any ?_)
           refine WA.seq (fuel := 14) [2, 3, 8, 9] rfl (by kernel_rfl) ?_
           refine WR.idxC Tryd.underlying33 Tryd.sizeOf3 (hs65) rfl rfl hxa37 (Wn.none rfl) rfl ?_
           intro p85 hc85
           refine WR.step (Ex.loadM H rfl hc85 Tryd.isAgg3) (Wn.none rfl) rfl rfl ?_
           refine WR.stepE (v' := .bool true) (Ex.lss rfl rfl) (congrArg Value.bool (decide_eq_true hk39)) (Wn.none rfl) rfl rfl ?_
           refine WR.step (Ex.move rfl) (Wn.none rfl) rfl rfl ?_
           refine WR.nil (WQ.any ?_)
           refine WA.takes (fuel := 9) [10, 11, 12, 13, 14] rfl (by kernel_rfl) (by kernel_rfl) rfl ?_
           refine WA.seq (fuel := 0) [15, 16, 17, 18, 19, 20, 21, 22, 23] rfl (by kernel_rfl) ?_
           refine WR.skipN 7 rfl rfl ?_
           refine WR.step (Ex.pickT rfl rfl) (Wn.none rfl) rfl rfl ?_
           refine WR.step (Ex.assign rfl) (Wn.none rfl) rfl rfl ?_
           refine WR.nil (WQ.any ?_)
           refine WA.done (by kernel_rfl) ?_
           exact WQ.meetN [(2, _), (5, _), (7, _), (9, _), (10, _), (11, _), (12, _), (13, _), (14, _), (15, _)] ⟨rfl, rfl, rfl, rfl, rfl, rfl, rfl, rfl, rfl, rfl, trivial⟩ ⟨_, _, rfl, H, hg_errR, hg_errS, hg_maxl, hg_pow10, hs65, hs78, e35⟩
        ·
         rw [if_neg hk39] at e35
         obtain ⟨a40, hxa40, e35⟩ := bnd e35
         obtain ⟨a41, hxa41, e35⟩ := bnd e35
         by_cases hk42 : a40 = a41
         ·
          rw [if_pos hk42] at e35
          refine WA.two (i := 2) (j := 6) (by kernel_rfl) rfl rfl ?_ ?_
          ·
           refine WR.idxC Tryd.underlying33 Tryd.sizeOf3 (hs65) rfl rfl hxa37 (Wn.none rfl) rfl ?_
           intro p85 hc85
           refine WR.nil (WQ.any ?_)
           refine WA.two (i := 3) (j := 6) (by kernel_rfl) rfl rfl ?_ ?_
           ·
            refine WR.step (Ex.loadM H rfl hc85 Tryd.isAgg3) (Wn.none rfl) rfl rfl ?_
            refine WR.nil (WQ.any ?_)
            refine WA.seq (fuel := 14) [6, 7, 8, 9] rfl (by kernel_rfl) ?_
            refine WR.idxC Tryd.underlying33 Tryd.sizeOf3 (hs78) rfl rfl hxa38 (Wn.none rfl) rfl ?_
            intro p89 hc89
            refine WR.step (Ex.loadM H rfl hc89 Tryd.isAgg3) (Wn.none rfl) rfl rfl ?_
            refine WR.stepE (v' := .bool false) (Ex.lss rfl rfl) (congrArg Value.bool (decide_eq_false hk39)) (Wn.none rfl) rfl rfl ?_
            refine WR.step (Ex.move rfl) (Wn.none rfl) rfl rfl ?_
            refine WR.nil (WQ.any ?_)
            refine WA.take (i := 10) rfl (by kernel_rfl) (by kernel_rfl) (by kernel_rfl) (fun _ => Ex.move rfl) (Wn.some rfl rfl rfl) rfl rfl (fun _ _ => rfl) ?_
            refine WA.take (i := 11) rfl (by kernel_rfl) (by kernel_rfl) (by kernel_rfl) (fun _ => Ex.move rfl) (Wn.some rfl rfl rfl) rfl rfl (fun _ _ => rfl) ?_
            refine WA.take (i := 14) rfl (by kernel_rfl) (by kernel_rfl) (by kernel_rfl) (fun _ => Ex.move rfl) (Wn.some rfl rfl rfl) rfl rfl (fun _ _ => rfl) ?_
            refine WA.take (i := 15) rfl (by kernel_rfl) (by kernel_rfl) (by kernel_rfl) (fun _ => Ex.move rfl) (Wn.some rfl rfl rfl) rfl rfl (fun _ _ => rfl) ?_
            refine WA.two (i := 12) (j := 16) (by kernel_rfl) rfl rfl ?_ ?_
            ·
             refine WR.idxC Tryd.underlying33 Tryd.sizeOf3 (hs65) rfl rfl hxa40 (Wn.some rfl rfl rfl) rfl ?_
             intro p95 hc95
             refine WR.nil (WQ.any ?_)
             refine WA.two (i := 13) (j := 16) (by kernel_rfl) rfl rfl ?_ ?_
             ·
              refine WR.step (Ex.loadM H rfl hc95 Tryd.isAgg3) (Wn.some rfl rfl rfl) rfl rfl ?_
              refine WR.nil (WQ.any ?_)
              refine WA.seq (fuel := 0) [16, 17, 18, 19, 20, 21, 22, 23] rfl (by kernel_rfl) ?_
              refine WR.idxC Tryd.underlying33 Tryd.sizeOf3 (hs78) rfl rfl hxa41 (Wn.some rfl rfl rfl) rfl ?_
              intro p99 hc99
              refine WR.step (Ex.loadM H rfl hc99 Tryd.isAgg3) (Wn.some rfl rfl rfl) rfl rfl ?_
              refine WR.stepE (v' := .bool true) (Ex.eql rfl rfl) (congrArg Value.bool (decide_eq_true hk42)) (Wn.some rfl rfl rfl) rfl rfl ?_
              refine WR.step (Ex.move rfl) (Wn.some rfl rfl rfl) rfl rfl ?_
              refine WR.step (Ex.move rfl) (Wn.some rfl rfl rfl) rfl rfl ?_
              refine WR.step (Ex.pickT rfl rfl) (Wn.some rfl rfl rfl) rfl rfl ?_
              refine WR.step (Ex.pickF rfl rfl) (Wn.none rfl) rfl rfl ?_
              refine WR.step (Ex.assign rfl) (Wn.none rfl) rfl rfl ?_
              refine WR.nil (WQ.any ?_)
              refine WA.done (by kernel_rfl) ?_
              exact WQ.meetN [(2, _), (5, _), (7, _), (9, _), (10, _), (11, _), (12, _), (13, _), (14, _), (15, _)] ⟨rfl, rfl, rfl, rfl, rfl, rfl, rfl, rfl, rfl, rfl, trivial⟩ ⟨_, _, rfl, H, hg_errR, hg_errS, hg_maxl, hg_pow10, hs65, hs78, e35⟩
             ·
              refine WR.idxC Tryd.underlying33 Tryd.sizeOf3 (hs78) rfl rfl hxa41 (Wn.some rfl rfl rfl) rfl ?_
              intro p99 hc99
              refine WR.nil (WQ.any ?_)
              refine WA.two (i := 13) (j := 17) (by kernel_rfl) rfl rfl ?_ ?_
              ·
               refine WR.step (Ex.loadM H rfl hc95 Tryd.isAgg3) (Wn.some rfl rfl rfl) rfl rfl ?_
               refine WR.nil (WQ.any ?_)
               refine WA.seq (fuel := 0) [17, 18, 19, 20, 21, 22, 23] rfl (by kernel_rfl) ?_
               refine WR.step (Ex.loadM H rfl hc99 Tryd.isAgg3) (Wn.some rfl rfl rfl) rfl rfl ?_
               refine WR.stepE (v' := .bool true) (Ex.eql rfl rfl) (congrArg Value.bool (decide_eq_true hk42)) (Wn.some rfl rfl rfl) rfl rfl ?_
               refine WR.step (Ex.move rfl) (Wn.some rfl rfl rfl) rfl rfl ?_
               refine WR.step (Ex.move rfl) (Wn.some rfl rfl rfl) rfl rfl ?_
               refine WR.step (Ex.pickT rfl rfl) (Wn.some rfl rfl rfl) rfl rfl ?_
               refine WR.step (Ex.pickF rfl rfl) (Wn.none rfl) rfl rfl ?_
               refine WR.step (Ex.assign rfl) (Wn.none rfl) rfl rfl ?_
               refine WR.nil (WQ.any ?_)
               refine WA.done (by kernel_rfl) ?_
               exact WQ.meetN [(2, _), (5, _), (7, _), (9, _), (10, _), (11, _), (12, _), (13, _), (14, _), (15, _)] ⟨rfl, rfl, rfl, rfl, rfl, rfl, rfl, rfl, rfl, rfl, trivial⟩ ⟨_, _, rfl, H, hg_errR, hg_errS, hg_maxl, hg_pow10, hs65, hs78, e35⟩
              ·
               refine WR.step (Ex.loadM H rfl hc99 Tryd.isAgg3) (Wn.some rfl rfl rfl) rfl rfl ?_
               refine WR.nil (WQ.any ?_)
               refine WA.seq (fuel := 0) [13, 18, 19, 20, 21, 22, 23] rfl (by kernel_rfl) ?_
               refine WR.step (Ex.loadM H rfl hc95 Tryd.isAgg3) (Wn.some rfl rfl rfl) rfl rfl ?_
               refine WR.stepE (v' := .bool true) (Ex.eql rfl rfl) (congrArg Value.bool (decide_eq_true hk42)) (Wn.some rfl rfl rfl) rfl rfl ?_
               refine WR.step (Ex.move rfl) (Wn.some rfl rfl rfl) rfl rfl ?_
               refine WR.step (Ex.move rfl) (Wn.some rfl rfl rfl) rfl rfl ?_
               refine WR.step (Ex.pickT rfl rfl) (Wn.some rfl rfl rfl) rfl rfl ?_
               refine WR.step (Ex.pickF rfl rfl) (Wn.none rfl) rfl rfl ?_
               refine WR.step (Ex.assign rfl) (Wn.none rfl) rfl rfl ?_
               refine WR.nil (WQ.any ?_)
               refine WA.done (by kernel_rfl) ?_
               exact WQ.meetN [(2, _), (5, _), (7, _), (9, _), (10, _), (11, _), (12, _), (13, _), (14, _), (15, _)] ⟨rfl, rfl, rfl, rfl, rfl, rfl, rfl, rfl, rfl, rfl, trivial⟩ ⟨_, _, rfl, H, hg_errR, hg_errS, hg_maxl, hg_pow10, hs65, hs78, e35⟩
            ·
             refine WR.idxC Tryd.underlying33 Tryd.sizeOf3 (hs78) rfl rfl hxa41 (Wn.some rfl rfl rfl) rfl ?_
             intro p99 hc99
             refine WR.nil (WQ.any ?_)
             refine WA.two (i := 12) (j := 17) (by kernel_rfl) rfl rfl ?_ ?_
             ·
              refine WR.idxC Tryd.underlying33 Tryd.sizeOf3 (hs65) rfl rfl hxa40 (Wn.some rfl rfl rfl) rfl ?_
              intro p95 hc95
              refine WR.nil (WQ.any ?_)
              refine WA.two (i := 13) (j := 17) (by kernel_rfl) rfl rfl ?_ ?_
              ·
               refine WR.step (Ex.loadM H rfl hc95 Tryd.isAgg3) (Wn.some rfl rfl rfl) rfl rfl ?_
               refine WR.nil (WQ.any ?_)
               refine WA.seq (fuel := 0) [17, 18, 19, 20, 21, 22, 23] rfl (by kernel_rfl) ?_
               refine WR.step (Ex.loadM H rfl hc99 Tryd.isAgg3) (Wn.some rfl rfl rfl) rfl rfl ?_
               refine WR.stepE (v' := .bool true) (Ex.eql rfl rfl) (congrArg Value.bool (decide_eq_true hk42)) (Wn.some rfl rfl rfl) rfl rfl ?_
               refine WR.step (Ex.move rfl) (Wn.some rfl rfl rfl) rfl rfl ?_
               refine WR.step (Ex.move rfl) (Wn.some rfl rfl rfl) rfl rfl ?_
               refine WR.step (Ex.pickT rfl rfl) (Wn.some rfl rfl rfl) rfl rfl ?_
               refine WR.step (Ex.pickF rfl rfl) (Wn.none rfl) rfl rfl ?_
               refine WR.step (Ex.assign rfl) (Wn.none rfl) rfl rfl ?_
               refine WR.nil (WQ.any ?_)
               refine WA.done (by kernel_rfl) ?_
               exact WQ.meetN [(2, _), (5, _), (7, _), (9, _), (10, _), (11, _), (12, _), (13, _), (14, _), (15, _)] ⟨rfl, rfl, rfl, rfl, rfl, rfl, rfl, rfl, rfl, rfl, trivial⟩ ⟨_, _, rfl, H, hg_errR, hg_errS, hg_maxl, hg_pow10, hs65, hs78, e35⟩
              ·
               refine WR.step (Ex.loadM H rfl hc99 Tryd.isAgg3) (Wn.some rfl rfl rfl) rfl rfl ?_
               refine WR.nil (WQ.any ?_)
               refine WA.seq (fuel := 0) [13, 18, 19, 20, 21, 22, 23] rfl (by kernel_rfl) ?_
               refine WR.step (Ex.loadM H rfl hc95 Tryd.isAgg3) (Wn.some rfl rfl rfl) rfl rfl ?_
               refine WR.stepE (v' := .bool true) (Ex.eql rfl rfl) (congrArg Value.bool (decide_eq_true hk42)) (Wn.some rfl rfl rfl) rfl rfl ?_
               refine WR.step (Ex.move rfl) (Wn.some rfl rfl rfl) rfl rfl ?_
               refine WR.step (Ex.move rfl) (Wn.some rfl rfl rfl) rfl rfl ?_
               refine WR.step (Ex.pickT rfl rfl) (Wn.some rfl rfl rfl) rfl rfl ?_
               refine WR.step (Ex.pickF rfl rfl) (Wn.none rfl) rfl rfl ?_
               refine WR.step (Ex.assign rfl) (Wn.none rfl) rfl rfl ?_
               refine WR.nil (WQ.any ?_)
               refine WA.done (by kernel_rfl) ?_
               exact WQ.meetN [(2, _), (5, _), (7, _), (9, _), (10, _), (11, _), (12, _), (13, _), (14, _), (15, _)] ⟨rfl, rfl, rfl, rfl, rfl, rfl, rfl, rfl, rfl, rfl, trivial⟩ ⟨_, _, rfl, H, hg_errR, hg_errS, hg_maxl, hg_pow10, hs65, hs78, e35⟩
             ·
              refine WR.step (Ex.loadM H rfl hc99 Tryd.isAgg3) (Wn.some rfl rfl rfl) rfl rfl ?_
              refine WR.nil (WQ.any ?_)
              refine WA.seq (fuel := 0) [12, 13, 18, 19, 20, 21, 22, 23] rfl (by kernel_rfl) ?_
              refine WR.idxC Tryd.underlying33 Tryd.sizeOf3 (hs65) rfl rfl hxa40 (Wn.some rfl rfl rfl) rfl ?_
              intro p95 hc95
              refine WR.step (Ex.loadM H rfl hc95 Tryd.isAgg3) (Wn.some rfl rfl rfl) rfl rfl ?_
              refine WR.stepE (v' := .bool true) (Ex.eql rfl rfl) (congrArg Value.bool (decide_eq_true hk42)) (Wn.some rfl rfl rfl) rfl rfl ?_
              refine WR.step (Ex.move rfl) (Wn.some rfl rfl rfl) rfl rfl ?_
              refine WR.step (Ex.move rfl) (Wn.some rfl rfl rfl) rfl rfl ?_
              refine WR.step (Ex.pickT rfl rfl) (Wn.some rfl rfl rfl) rfl rfl ?_
              refine WR.step (Ex.pickF rfl rfl) (Wn.none rfl) rfl rfl ?_
              refine WR.step (Ex.assign rfl) (Wn.none rfl) rfl rfl ?_
              refine WR.nil (WQ.any ?_)
              refine WA.done (by kernel_rfl) ?_
              exact WQ.meetN [(2, _), (5, _), (7, _), (9, _), (10, _), (11, _), (12, _), (13, _), (14, _), (15, _)] ⟨rfl, rfl, rfl, rfl, rfl, rfl, rfl, rfl, rfl, rfl, trivial⟩ ⟨_, _, rfl, H, hg_errR, hg_errS, hg_maxl, hg_pow10, hs65, hs78, e35⟩
           ·
            refine WR.idxC Tryd.underlying33 Tryd.sizeOf3 (hs78) rfl rfl hxa38 (Wn.none rfl) rfl ?_
            intro p89 hc89
            refine WR.nil (WQ.any ?_)
            refine WA.two (i := 3) (j := 7) (by kernel_rfl) rfl rfl ?_ ?_
            ·
             refine WR.step (Ex.loadM H rfl hc85 Tryd.isAgg3) (Wn.none rfl) rfl rfl ?_
             refine WR.nil (WQ.any ?_)
             refine WA.seq (fuel := 14) [7, 8, 9] rfl (by kernel_rfl) ?_
             refine WR.step (Ex.loadM H rfl hc89 Tryd.isAgg3) (Wn.none rfl) rfl rfl ?_
             refine WR.stepE (v' := .bool false) (Ex.lss rfl rfl) (congrArg Value.bool (decide_eq_false hk39)) (Wn.none rfl) rfl rfl ?_
             refine WR.step (Ex.move rfl) (Wn.none rfl) rfl rfl ?_
             refine WR.nil (WQ.any ?_)
             refine WA.take (i := 10) rfl (by kernel_rfl) (by kernel_rfl) (by kernel_rfl) (fun _ => Ex.move rfl) (Wn.some rfl rfl rfl) rfl rfl (fun _ _ => rfl) ?_
             refine WA.take (i := 11) rfl (by kernel_rfl) (by kernel_rfl) (by kernel_rfl) (fun _ => Ex.move rfl) (Wn.some rfl rfl rfl) rfl rfl (fun _ _ => rfl) ?_
             refine WA.take (i := 14) rfl (by kernel_rfl) (by kernel_rfl) (by kernel_rfl) (fun _ => Ex.move rfl) (Wn.some rfl rfl rfl) rfl rfl (fun _ _ => rfl) ?_
             refine WA.take (i := 15) rfl (by kernel_rfl) (by kernel_rfl) (by kernel_rfl) (fun _ => Ex.move rfl) (Wn.some rfl rfl rfl) rfl rfl (fun _ _ => rfl) ?_
             refine WA.two (i := 12) (j := 16) (by kernel_rfl) rfl rfl ?_ ?_
             ·
              refine WR.idxC Tryd.underlying33 Tryd.sizeOf3 (hs65) rfl rfl hxa40 (Wn.some rfl rfl rfl) rfl ?_
              intro p95 hc95
              refine WR.nil (WQ.any ?_)
              refine WA.two (i := 13) (j := 16) (by kernel_rfl) rfl rfl ?_ ?_
              ·
               refine WR.step (Ex.loadM H rfl hc95 Tryd.isAgg3) (Wn.some rfl rfl rfl) rfl rfl ?_
               refine WR.nil (WQ.any ?_)
               refine WA.seq (fuel := 0) [16, 17, 18, 19, 20, 21, 22, 23] rfl (by kernel_rfl) ?_
               refine WR.idxC Tryd.underlying33 Tryd.sizeOf3 (hs78) rfl rfl hxa41 (Wn.some rfl rfl rfl) rfl ?_
               intro p99 hc99
               refine WR.step (Ex.loadM H rfl hc99 Tryd.isAgg3) (Wn.some rfl rfl rfl) rfl rfl ?_
               refine WR.stepE (v' := .bool true) (Ex.eql rfl rfl) (congrArg Value.bool (decide_eq_true hk42)) (Wn.some rfl rfl rfl) rfl rfl ?_
               refine WR.step (Ex.move rfl) (Wn.some rfl rfl rfl) rfl rfl ?_
               refine WR.step (Ex.move rfl) (Wn.some rfl rfl rfl) rfl rfl ?_
               refine WR.step (Ex.pickT rfl rfl) (Wn.some rfl rfl rfl) rfl rfl ?_
               refine WR.step (Ex.pickF rfl rfl) (Wn.none rfl) rfl rfl ?_
               refine WR.step (Ex.assign rfl) (Wn.none rfl) rfl rfl ?_
               refine WR.nil (WQ.any ?_)
               refine WA.done (by kernel_rfl) ?_
               exact WQ.meetN [(2, _), (5, _), (7, _), (9, _), (10, _), (11, _), (12, _), (13, _), (14, _), (15, _)] ⟨rfl, rfl, rfl, rfl, rfl, rfl, rfl, rfl, rfl, rfl, trivial⟩ ⟨_, _, rfl, H, hg_errR, hg_errS, hg_maxl, hg_pow10, hs65, hs78, e35⟩
              ·
               refine WR.idxC Tryd.underlying33 Tryd.sizeOf3 (hs78) rfl rfl hxa41 (Wn.some rfl rfl rfl) rfl ?_
               intro p99 hc99
               refine WR.nil (WQ.any ?_)
               refine WA.two (i := 13) (j := 17) (by kernel_rfl) rfl rfl ?_ ?_
               ·
                refine WR.step (Ex.loadM H rfl hc95 Tryd.isAgg3) (Wn.some rfl rfl rfl) rfl rfl ?_
                refine WR.nil (WQ.any ?_)
                refine WA.seq (fuel := 0) [17, 18, 19, 20, 21, 22, 23] rfl (by kernel_rfl) ?_
                refine WR.step (Ex.loadM H rfl hc99 Tryd.isAgg3) (Wn.some rfl rfl rfl) rfl rfl ?_
                refine WR.stepE (v' := .bool true) (Ex.eql rfl rfl) (congrArg Value.bool (decide_eq_true hk42)) (Wn.some rfl rfl rfl) rfl rfl ?_
                refine WR.step (Ex.move rfl) (Wn.some rfl rfl rfl) rfl rfl ?_
                refine WR.step (Ex.move rfl) (Wn.some rfl rfl rfl) rfl rfl ?_
                refine WR.step (Ex.pickT rfl rfl) (Wn.some rfl rfl rfl) rfl rfl ?_
                refine WR.step (Ex.pickF rfl rfl) (Wn.none rfl) rfl rfl ?_
                refine WR.step (Ex.assign rfl) (Wn.none rfl) rfl rfl ?_
                refine WR.nil (WQ.any ?_)
                refine WA.done (by kernel_rfl) ?_
                exact WQ.meetN [(2, _), (5, _), (7, _), (9, _), (10, _), (11, _), (12, _), (13, _), (14, _), (15, _)] ⟨rfl, rfl, rfl, rfl, rfl, rfl, rfl, rfl, rfl, rfl, trivial⟩ ⟨_, _, rfl, H, hg_errR, hg_errS, hg_maxl, hg_pow10, hs65, hs78, e35⟩
               ·
                refine WR.step (Ex.loadM H rfl hc99 Tryd.isAgg3) (Wn.some rfl rfl rfl) rfl rfl ?_
                refine WR.nil (WQ.any ?_)
                refine WA.seq (fuel := 0) [13, 18, 19, 20, 21, 22, 23] rfl (by kernel_rfl) ?_
                refine WR.step (Ex.loadM H rfl hc95 Tryd.isAgg3) (Wn.some rfl rfl rfl) rfl rfl ?_
                refine WR.stepE (v' := .bool true) (Ex.eql rfl rfl) (congrArg Value.bool (decide_eq_true hk42)) (Wn.some rfl rfl rfl) rfl rfl ?_
                refine WR.step (Ex.move rfl) (Wn.some rfl rfl rfl) rfl rfl ?_
                refine WR.step (Ex.move rfl) (Wn.some rfl rfl rfl) rfl rfl ?_
                refine WR.step (Ex.pickT rfl rfl) (Wn.some rfl rfl rfl) rfl rfl ?_
                refine WR.step (Ex.pickF rfl rfl) (Wn.none rfl) rfl rfl ?_
                refine WR.step (Ex.assign rfl) (Wn.none rfl) rfl rfl ?_
                refine WR.nil (WQ.any ?_)
                refine WA.done (by kernel_rfl) ?_
                exact WQ.meetN [(2, _), (5, _), (7, _), (9, _), (10, _), (11, _), (12, _), (13, _), (14, _), (15, _)] ⟨rfl, rfl, rfl, rfl, rfl, rfl, rfl, rfl, rfl, rfl, trivial⟩ ⟨_, _, rfl, H, hg_errR, hg_errS, hg_maxl, hg_pow10, hs65, hs78, e35⟩
             ·
              refine WR.idxC Tryd.underlying33 Tryd.sizeOf3 (hs78) rfl rfl hxa41 (Wn.some rfl rfl rfl) rfl ?_
              intro p99 hc99
              refine WR.nil (WQ.any ?_)
              refine WA.two (i := 12) (j := 17) (by kernel_rfl) rfl rfl ?_ ?_
              ·
               refine WR.idxC Tryd.underlying33 Tryd.sizeOf3 (hs65) rfl rfl hxa40 (Wn.some rfl rfl rfl) rfl ?_
               intro p95 hc95
               refine WR.nil (WQ.any ?_)
               refine WA.two (i := 13) (j := 17) (by kernel_rfl) rfl rfl ?_ ?_
               ·
                refine WR.step (Ex.loadM H rfl hc95 Tryd.isAgg3) (Wn.some rfl rfl rfl) rfl rfl ?_
                refine WR.nil (WQ.any ?_)
                refine WA.seq (fuel := 0) [17, 18, 19, 20, 21, 22, 23] rfl (by kernel_rfl) ?_
                refine WR.step (Ex.loadM H rfl hc99 Tryd.isAgg3) (Wn.some rfl rfl rfl) rfl rfl ?_
                refine WR.stepE (v' := .bool true) (Ex.eql rfl rfl) (congrArg Value.bool (decide_eq_true hk42)) (Wn.some rfl rfl rfl) rfl rfl ?_
                refine WR.step (Ex.move rfl) (Wn.some rfl rfl rfl) rfl rfl ?_
                refine WR.step (Ex.move rfl) (Wn.some rfl rfl rfl) rfl rfl ?_
                refine WR.step (Ex.pickT rfl rfl) (Wn.some rfl rfl rfl) rfl rfl ?_
                refine WR.step (Ex.pickF rfl rfl) (Wn.none rfl) rfl rfl ?_
                refine WR.step (Ex.assign rfl) (Wn.none rfl) rfl rfl ?_
                refine WR.nil (WQ.any ?_)
                refine WA.done (by kernel_rfl) ?_
                exact WQ.meetN [(2, _), (5, _), (7, _), (9, _), (10, _), (11, _), (12, _), (13, _), (14, _), (15, _)] ⟨rfl, rfl, rfl, rfl, rfl, rfl, rfl, rfl, rfl, rfl, trivial⟩ ⟨_, _, rfl, H, hg_errR, hg_errS, hg_maxl, hg_pow10, hs65, hs78, e35⟩
               ·
                refine WR.step (Ex.loadM H rfl hc99 Tryd.isAgg3) (Wn.some rfl rfl rfl) rfl rfl ?_
                refine WR.nil (WQ.any ?_)
                refine WA.seq (fuel := 0) [13, 18, 19, 20, 21, 22, 23] rfl (by kernel_rfl) ?_
                refine WR.step (Ex.loadM H rfl hc95 Tryd.isAgg3) (Wn.some rfl rfl rfl) rfl rfl ?_
                refine WR.stepE (v' := .bool true) (Ex.eql rfl rfl) (congrArg Value.bool (decide_eq_true hk42)) (Wn.some rfl rfl rfl) rfl rfl ?_
                refine WR.step (Ex.move rfl) (Wn.some rfl rfl rfl) rfl rfl ?_
                refine WR.step (Ex.move rfl) (Wn.some rfl rfl rfl) rfl rfl ?_
                refine WR.step (Ex.pickT rfl rfl) (Wn.some rfl rfl rfl) rfl rfl ?_
                refine WR.step (Ex.pickF rfl rfl) (Wn.none rfl) rfl rfl ?_
                refine WR.step (Ex.assign rfl) (Wn.none rfl) rfl rfl ?_
                refine WR.nil (WQ.any ?_)
                refine WA.done (by kernel_rfl) ?_
                exact WQ.meetN [(2, _), (5, _), (7, _), (9, _), (10, _), (11, _), (12, _), (13, _), (14, _), (15, _)] ⟨rfl, rfl, rfl, rfl, rfl, rfl, rfl, rfl, rfl, rfl, trivial⟩ ⟨_, _, rfl, H, hg_errR, hg_errS, hg_maxl, hg_pow10, hs65, hs78, e35⟩
              ·
               refine WR.step (Ex.loadM H rfl hc99 Tryd.isAgg3) (Wn.some rfl rfl rfl) rfl rfl ?_
               refine WR.nil (WQ.any ?_)
               refine WA.seq (fuel := 0) [12, 13, 18, 19, 20, 21, 22, 23] rfl (by kernel_rfl) ?_
               refine WR.idxC Tryd.underlying33 Tryd.sizeOf3 (hs65) rfl rfl hxa40 (Wn.some rfl rfl rfl) rfl ?_
               intro p95 hc95
               refine WR.step (Ex.loadM H rfl hc95 Tryd.isAgg3) (Wn.some rfl rfl rfl) rfl rfl ?_
               refine WR.stepE (v' := .bool true) (Ex.eql rfl rfl) (congrArg Value.bool (decide_eq_true hk42)) (Wn.some rfl rfl rfl) rfl rfl ?_
               refine WR.step (Ex.move rfl) (Wn.some rfl rfl rfl) rfl rfl ?_
               refine WR.step (Ex.move rfl) (Wn.some rfl rfl rfl) rfl rfl ?_
               refine WR.step (Ex.pickT rfl rfl) (Wn.some rfl rfl rfl) rfl rfl ?_
               refine WR.step (Ex.pickF rfl rfl) (Wn.none rfl) rfl rfl ?_
               refine WR.step (Ex.assign rfl) (Wn.none rfl) rfl rfl ?_
               refine WR.nil (WQ.any ?_)
               refine WA.done (by kernel_rfl) ?_
               exact WQ.meetN [(2, _), (5, _), (7, _), (9, _), (10, _), (11, _), (12, _), (13, _), (14, _), (15, _)] ⟨rfl, rfl, rfl, rfl, rfl, rfl, rfl, rfl, rfl, rfl, trivial⟩ ⟨_, _, rfl, H, hg_errR, hg_errS, hg_maxl, hg_pow10, hs65, hs78, e35⟩
            ·
             refine WR.step (Ex.loadM H rfl hc89 Tryd.isAgg3) (Wn.none rfl) rfl rfl ?_
             refine WR.nil (WQ.any ?_)
             refine WA.seq (fuel := 14) [3, 8, 9] rfl (by kernel_rfl) ?_
             refine WR.step (Ex.loadM H rfl hc85 Tryd.isAgg3) (Wn.none rfl) rfl rfl ?_
             refine WR.stepE (v' := .bool false) (Ex.lss rfl rfl) (congrArg Value.bool (decide_eq_false hk39)) (Wn.none rfl) rfl rfl ?_
             refine WR.step (Ex.move rfl) (Wn.none rfl) rfl rfl ?_
             refine WR.nil (WQ.any ?_)
             refine WA.take (i := 10) rfl (by kernel_rfl) (by kernel_rfl) (by kernel_rfl) (fun _ => Ex.move rfl) (Wn.some rfl rfl rfl) rfl rfl (fun _ _ => rfl) ?_
             refine WA.take (i := 11) rfl (by kernel_rfl) (by kernel_rfl) (by kernel_rfl) (fun _ => Ex.move rfl) (Wn.some rfl rfl rfl) rfl rfl (fun _ _ => rfl) ?_
             refine WA.take (i := 14) rfl (by kernel_rfl) (by kernel_rfl) (by kernel_rfl) (fun _ => Ex.move rfl) (Wn.some rfl rfl rfl) rfl rfl (fun _ _ => rfl) ?_
             refine WA.take (i := 15) rfl (by kernel_rfl) (by kernel_rfl) (by kernel_rfl) (fun _ => Ex.move rfl) (Wn.some rfl rfl rfl) rfl rfl (fun _ _ => rfl) ?_
             refine WA.two (i := 12) (j := 16) (by kernel_rfl) rfl rfl ?_ ?_
             ·
              refine WR.idxC Tryd.underlying33 Tryd.sizeOf3 (hs65) rfl rfl hxa40 (Wn.some rfl rfl rfl) rfl ?_
              intro p95 hc95
              refine WR.nil (WQ.any ?_)
              refine WA.two (i := 13) (j := 16) (by kernel_rfl) rfl rfl ?_ ?_
              ·
               refine WR.step (Ex.loadM H rfl hc95 Tryd.isAgg3) (Wn.some rfl rfl rfl) rfl rfl ?_
               refine WR.nil (WQ.any ?_)
               refine WA.seq (fuel := 0) [16, 17, 18, 19, 20, 21, 22, 23] rfl (by kernel_rfl) ?_
               refine WR.idxC Tryd.underlying33 Tryd.sizeOf3 (hs78) rfl rfl hxa41 (Wn.some rfl rfl rfl) rfl ?_
               intro p99 hc99
               refine WR.step (Ex.loadM H rfl hc99 Tryd.isAgg3) (Wn.some rfl rfl rfl) rfl rfl ?_
               refine WR.stepE (v' := .bool true) (Ex.eql rfl rfl) (congrArg Value.bool (decide_eq_true hk42)) (Wn.some rfl rfl rfl) rfl rfl ?_
               refine WR.step (Ex.move rfl) (Wn.some rfl rfl rfl) rfl rfl ?_
               refine WR.step (Ex.move rfl) (Wn.some rfl rfl rfl) rfl rfl ?_
               refine WR.step (Ex.pickT rfl rfl) (Wn.some rfl rfl rfl) rfl rfl ?_
               refine WR.step (Ex.pickF rfl rfl) (Wn.none rfl) rfl rfl ?_
               refine WR.step (Ex.assign rfl) (Wn.none rfl) rfl rfl ?_
               refine WR.nil (WQ.any ?_)
               refine WA.done (by kernel_rfl) ?_
               exact WQ.meetN [(2, _), (5, _), (7, _), (9, _), (10, _), (11, _), (12, _), (13, _), (14, _), (15, _)] ⟨rfl, rfl, rfl, rfl, rfl, rfl, rfl, rfl, rfl, rfl, trivial⟩ ⟨_, _, rfl, H, hg_errR, hg_errS, hg_maxl, hg_pow10, hs65, hs78, e35⟩
              ·
               refine WR.idxC Tryd.underlying33 Tryd.sizeOf3 (hs78) rfl rfl hxa41 (Wn.some rfl rfl rfl) rfl ?_
               intro p99 hc99
               refine WR.nil (WQ.any ?_)
               refine WA.two (i := 13) (j := 17) (by kernel_rfl) rfl rfl ?_ ?_
               ·
                refine WR.step (Ex.loadM H rfl hc95 Tryd.isAgg3) (Wn.some rfl rfl rfl) rfl rfl ?_
                refine WR.nil (WQ.any ?_)
                refine WA.seq (fuel := 0) [17, 18, 19, 20, 21, 22, 23] rfl (by kernel_rfl) ?_
                refine WR.step (Ex.loadM H rfl hc99 Tryd.isAgg3) (Wn.some rfl rfl rfl) rfl rfl ?_
                refine WR.stepE (v' := .bool true) (Ex.eql rfl rfl) (congrArg Value.bool (decide_eq_true hk42)) (Wn.some rfl rfl rfl) rfl rfl ?_
                refine WR.step (Ex.move rfl) (Wn.some rfl rfl rfl) rfl rfl ?_
                refine WR.step (Ex.move rfl) (Wn.some rfl rfl rfl) rfl rfl ?_
                refine WR.step (Ex.pickT rfl rfl) (Wn.some rfl rfl rfl) rfl rfl ?_
                refine WR.step (Ex.pickF rfl rfl) (Wn.none rfl) rfl rfl ?_
                refine WR.step (Ex.assign rfl) (Wn.none rfl) rfl rfl ?_
                refine WR.nil (WQ.any ?_)
                refine WA.done (by kernel_rfl) ?_
                exact WQ.meetN [(2, _), (5, _), (7, _), (9, _), (10, _), (11, _), (12, _), (13, _), (14, _), (15, _)] ⟨rfl, rfl, rfl, rfl, rfl, rfl, rfl, rfl, rfl, rfl, trivial⟩ ⟨_, _, rfl, H, hg_errR, hg_errS, hg_maxl, hg_pow10, hs65, hs78, e35⟩
               ·
                refine WR.step (Ex.loadM H rfl hc99 Tryd.isAgg3) (Wn.some rfl rfl rfl) rfl rfl ?_
                refine WR.nil (WQ.any ?_)
                refine WA.seq (fuel := 0) [13, 18, 19, 20, 21, 22, 23] rfl (by kernel_rfl) ?_
                refine WR.step (Ex.loadM H rfl hc95 Tryd.isAgg3) (Wn.some rfl rfl rfl) rfl rfl ?_
                refine WR.stepE (v' := .bool true) (Ex.eql rfl rfl) (congrArg Value.bool (decide_eq_true hk42)) (Wn.some rfl rfl rfl) rfl rfl ?_
                refine WR.step (Ex.move rfl) (Wn.some rfl rfl rfl) rfl rfl ?_
                refine WR.step (Ex.move rfl) (Wn.some rfl rfl rfl) rfl rfl ?_
                refine WR.step (Ex.pickT rfl rfl) (Wn.some rfl rfl rfl) rfl rfl ?_
                refine WR.step (Ex.pickF rfl rfl) (Wn.none rfl) rfl rfl ?_
                refine WR.step (Ex.assign rfl) (Wn.none rfl) rfl rfl ?_
                refine WR.nil (WQ.any ?_)
                refine WA.done (by kernel_rfl) ?_
                exact WQ.meetN [(2, _), (5, _), (7, _), (9, _), (10, _), (11, _), (12, _), (13, _), (14, _), (15, _)] ⟨rfl, rfl, rfl, rfl, rfl, rfl, rfl, rfl, rfl, rfl, trivial⟩ ⟨_, _, rfl, H, hg_errR, hg_errS, hg_maxl, hg_pow10, hs65, hs78, e35⟩
             ·
              refine WR.idxC Tryd.underlying33 Tryd.sizeOf3 (hs78) rfl rfl hxa41 (Wn.some rfl rfl rfl) rfl ?_
              intro p99 hc99
              refine WR.nil (WQ.any ?_)
              refine WA.two (i := 12) (j := 17) (by kernel_rfl) rfl rfl ?_ ?_
              ·
               refine WR.idxC Tryd.underlying33 Tryd.sizeOf3 (hs65) rfl rfl hxa40 (Wn.some rfl rfl rfl) rfl ?_
               intro p95 hc95
               refine WR.nil (WQ.any ?_)
               refine WA.two (i := 13) (j := 17) (by kernel_rfl) rfl rfl ?_ ?_
               ·
                refine WR.step (Ex.loadM H rfl hc95 Tryd.isAgg3) (Wn.some rfl rfl rfl) rfl rfl ?_
                refine WR.nil (WQ.any ?_)
                refine WA.seq (fuel := 0) [17, 18, 19, 20, 21, 22, 23] rfl (by kernel_rfl) ?_
                refine WR.step (Ex.loadM H rfl hc99 Tryd.isAgg3) (Wn.some rfl rfl rfl) rfl rfl ?_
                refine WR.stepE (v' := .bool true) (Ex.eql rfl rfl) (congrArg Value.bool (decide_eq_true hk42)) (Wn.some rfl rfl rfl) rfl rfl ?_
                refine WR.step (Ex.move rfl) (Wn.some rfl rfl rfl) rfl rfl ?_
                refine WR.step (Ex.move rfl) (Wn.some rfl rfl rfl) rfl rfl ?_
                refine WR.step (Ex.pickT rfl rfl) (Wn.some rfl rfl rfl) rfl rfl ?_
                refine WR.step (Ex.pickF rfl rfl) (Wn.none rfl) rfl rfl ?_
                refine WR.step (Ex.assign rfl) (Wn.none rfl) rfl rfl ?_
                refine WR.nil (WQ.any ?_)
                refine WA.done (by kernel_rfl) ?_
                exact WQ.meetN [(2, _), (5, _), (7, _), (9, _), (10, _), (11, _), (12, _), (13, _), (14, _), (15, _)] ⟨rfl, rfl, rfl, rfl, rfl, rfl, rfl, rfl, rfl, rfl, trivial⟩ ⟨_, _, rfl, H, hg_errR, hg_errS, hg_maxl, hg_pow10, hs65, hs78, e35⟩
               ·
                refine WR.step (Ex.loadM H rfl hc99 Tryd.isAgg3) (Wn.some rfl rfl rfl) rfl rfl ?_
                refine WR.nil (WQ.any ?_)
                refine WA.seq (fuel := 0) [13, 18, 19, 20, 21, 22, 23] rfl (by kernel_rfl) ?_
                refine WR.step (Ex.loadM H rfl hc95 Tryd.isAgg3) (Wn.some rfl rfl rfl) rfl rfl ?_
                refine WR.stepE (v' := .bool true) (Ex.eql rfl rfl) (congrArg Value.bool (decide_eq_true hk42)) (Wn.some rfl rfl rfl) rfl rfl ?_
                refine WR.step (Ex.move rfl) (Wn.some rfl rfl rfl) rfl rfl ?_
                refine WR.step (Ex.move rfl) (Wn.some rfl rfl rfl) rfl rfl ?_
                refine WR.step (Ex.pickT rfl rfl) (Wn.some rfl rfl rfl) rfl rfl ?_
                refine WR.step (Ex.pickF rfl rfl) (Wn.none rfl) rfl rfl ?_
                refine WR.step (Ex.assign rfl) (Wn.none rfl) rfl rfl ?_
                refine WR.nil (WQ.any ?_)
                refine WA.done (by kernel_rfl) ?_
                exact WQ.meetN [(2, _), (5, _), (7, _), (9, _), (10, _), (11, _), (12, _), (13, _), (14, _), (15, _)] ⟨rfl, rfl, rfl, rfl, rfl, rfl, rfl, rfl, rfl, rfl, trivial⟩ ⟨_, _, rfl, H, hg_errR, hg_errS, hg_maxl, hg_pow10, hs65, hs78, e35⟩
              ·
               refine WR.step (Ex.loadM H rfl hc99 Tryd.isAgg3) (Wn.some rfl rfl rfl) rfl rfl ?_
               refine WR.nil (WQ.any ?_)
               refine WA.seq (fuel := 0) [12, 13, 18, 19, 20, 21, 22, 23] rfl (by kernel_rfl) ?_
               refine WR.idxC Tryd.underlying33 Tryd.sizeOf3 (hs65) rfl rfl hxa40 (Wn.some rfl rfl rfl) rfl ?_
               intro p95 hc95
               refine WR.step (Ex.loadM H rfl hc95 Tryd.isAgg3) (Wn.some rfl rfl rfl) rfl rfl ?_
               refine WR.stepE (v' := .bool true) (Ex.eql rfl rfl) (congrArg Value.bool (decide_eq_true hk42)) (Wn.some rfl rfl rfl) rfl rfl ?_
               refine WR.step (Ex.move rfl) (Wn.some rfl rfl rfl) rfl rfl ?_
               refine WR.step (Ex.move rfl) (Wn.some rfl rfl rfl) rfl rfl ?_
               refine WR.step (Ex.pickT rfl rfl) (Wn.some rfl rfl rfl) rfl rfl ?_
               refine WR.step (Ex.pickF rfl rfl) (Wn.none rfl) rfl rfl ?_
               refine WR.step (Ex.assign rfl) (Wn.none rfl) rfl rfl ?_
               refine WR.nil (WQ.any ?_)
               refine WA.done (by kernel_rfl) ?_
               exact WQ.meetN [(2, _), (5, _), (7, _), (9, _), (10, _), (11, _), (12, _), (13, _), (14, _), (15, _)] ⟨rfl, rfl, rfl, rfl, rfl, rfl, rfl, rfl, rfl, rfl, trivial⟩ ⟨_, _, rfl, H, hg_errR, hg_errS, hg_maxl, hg_pow10, hs65, hs78, e35⟩
          ·
           refine WR.idxC Tryd.underlying33 Tryd.sizeOf3 (hs78) rfl rfl hxa38 (Wn.none rfl) rfl ?_
           intro p89 hc89
           refine WR.nil (WQ.any ?_)
           refine WA.two (i := 2) (j := 7) (by kernel_rfl) rfl rfl ?_ ?_
           ·
            refine WR.idxC Tryd.underlying33 Tryd.sizeOf3 (hs65) rfl rfl hxa37 (Wn.none rfl) rfl ?_
            intro p85 hc85
            refine WR.nil (WQ.any ?_)
            refine WA.two (i := 3) (j := 7) (by kernel_rfl) rfl rfl ?_ ?_
            ·
             refine WR.step (Ex.loadM H rfl hc85 Tryd.isAgg3) (Wn.none rfl) rfl rfl ?_
             refine WR.nil (WQ.any ?_)
             refine WA.seq (fuel := 14) [7, 8, 9] rfl (by kernel_rfl) ?_
             refine WR.step (Ex.loadM H rfl hc89 Tryd.isAgg3) (Wn.none rfl) rfl rfl ?_
             refine WR.stepE (v' := .bool false) (Ex.lss rfl rfl) (congrArg Value.bool (decide_eq_false hk39)) (Wn.none rfl) rfl rfl ?_
             refine WR.step (Ex.move rfl) (Wn.none rfl) rfl rfl ?_
             refine WR.nil (WQ.any ?_)
             refine WA.take (i := 10) rfl (by kernel_rfl) (by kernel_rfl) (by kernel_rfl) (fun _ => Ex.move rfl) (Wn.some rfl rfl rfl) rfl rfl (fun _ _ => rfl) ?_
             refine WA.take (i := 11) rfl (by kernel_rfl) (by kernel_rfl) (by kernel_rfl) (fun _ => Ex.move rfl) (Wn.some rfl rfl rfl) rfl rfl (fun _ _ => rfl) ?_
             refine WA.take (i := 14) rfl (by kernel_rfl) (by kernel_rfl) (by kernel_rfl) (fun _ => Ex.move rfl) (Wn.some rfl rfl rfl) rfl rfl (fun _ _ => rfl) ?_
             refine WA.take (i := 15) rfl (by kernel_rfl) (by kernel_rfl) (by kernel_rfl) (fun _ => Ex.move rfl) (Wn.some rfl rfl rfl) rfl rfl (fun _ _ => rfl) ?_
             refine WA.two (i := 12) (j := 16) (by kernel_rfl) rfl rfl ?_ ?_
             ·
              refine WR.idxC Tryd.underlying33 Tryd.sizeOf3 (hs65) rfl rfl hxa40 (Wn.some rfl rfl rfl) rfl ?_
              intro p95 hc95
              refine WR.nil (WQ.any ?_)
              refine WA.two (i := 13) (j := 16) (by kernel_rfl) rfl rfl ?_ ?_
              ·
               refine WR.step (Ex.loadM H rfl hc95 Tryd.isAgg3) (Wn.some rfl rfl rfl) rfl rfl ?_
               refine WR.nil (WQ.any ?_)
               refine WA.seq (fuel := 0) [16, 17, 18, 19, 20, 21, 22, 23] rfl (by kernel_rfl) ?_
               refine WR.idxC Tryd.underlying33 Tryd.sizeOf3 (hs78) rfl rfl hxa41 (Wn.some rfl rfl rfl) rfl ?_
               intro p99 hc99
               refine WR.step (Ex.loadM H rfl hc99 Tryd.isAgg3) (Wn.some rfl rfl rfl) rfl rfl ?_
               refine WR.stepE (v' := .bool true) (Ex.eql rfl rfl) (congrArg Value.bool (decide_eq_true hk42)) (Wn.some rfl rfl rfl) rfl rfl ?_
               refine WR.step (Ex.move rfl) (Wn.some rfl rfl rfl) rfl rfl ?_
               refine WR.step (Ex.move rfl) (Wn.some rfl rfl rfl) rfl rfl ?_
               refine WR.step (Ex.pickT rfl rfl) (Wn.some rfl rfl rfl) rfl rfl ?_
               refine WR.step (Ex.pickF rfl rfl) (Wn.none rfl) rfl rfl ?_
               refine WR.step (Ex.assign rfl) (Wn.none rfl) rfl rfl ?_
               refine WR.nil (WQ.any ?_)
               refine WA.done (by kernel_rfl) ?_
               exact WQ.meetN [(2, _), (5, _), (7, _), (9, _), (10, _), (11, _), (12, _), (13, _), (14, _), (15, _)] ⟨rfl, rfl, rfl, rfl, rfl, rfl, rfl, rfl, rfl, rfl, trivial⟩ ⟨_, _, rfl, H, hg_errR, hg_errS, hg_maxl, hg_pow10, hs65, hs78, e35⟩
              ·
               refine WR.idxC Tryd.underlying33 Tryd.sizeOf3 (hs78) rfl rfl hxa41 (Wn.some rfl rfl rfl) rfl ?_
               intro p99 hc99
               refine WR.nil (WQ.any ?_)
               refine WA.two (i := 13) (j := 17) (by kernel_rfl) rfl rfl ?_ ?_
               ·
                refine WR.step (Ex.loadM H rfl hc95 Tryd.isAgg3) (Wn.some rfl rfl rfl) rfl rfl ?_
                refine WR.nil (WQ.any ?_)
                refine WA.seq (fuel := 0) [17, 18, 19, 20, 21, 22, 23] rfl (by kernel_rfl) ?_
                refine WR.step (Ex.loadM H rfl hc99 Tryd.isAgg3) (Wn.some rfl rfl rfl) rfl rfl ?_
                refine WR.stepE (v' := .bool true) (Ex.eql rfl rfl) (congrArg Value.bool (decide_eq_true hk42)) (Wn.some rfl rfl rfl) rfl rfl ?_
                refine WR.step (Ex.move rfl) (Wn.some rfl rfl rfl) rfl rfl ?_
                refine WR.step (Ex.move rfl) (Wn.some rfl rfl rfl) rfl rfl ?_
                refine WR.step (Ex.pickT rfl rfl) (Wn.some rfl rfl rfl) rfl rfl ?_
                refine WR.step (Ex.pickF rfl rfl) (Wn.none rfl) rfl rfl ?_
                refine WR.step (Ex.assign rfl) (Wn.none rfl) rfl rfl ?_
                refine WR.nil (WQ.any ?_)
                refine WA.done (by kernel_rfl) ?_
                exact WQ.meetN [(2, _), (5, _), (7, _), (9, _), (10, _), (11, _), (12, _), (13, _), (14, _), (15, _)] ⟨rfl, rfl, rfl, rfl, rfl, rfl, rfl, rfl, rfl, rfl, trivial⟩ ⟨_, _, rfl, H, hg_errR, hg_errS, hg_maxl, hg_pow10, hs65, hs78, e35⟩
               ·
                refine WR.step (Ex.loadM H rfl hc99 Tryd.isAgg3) (Wn.some rfl rfl rfl) rfl rfl ?_
                refine WR.nil (WQ.any ?_)
                refine WA.seq (fuel := 0) [13, 18, 19, 20, 21, 22, 23] rfl (by kernel_rfl) ?_
                refine WR.step (Ex.loadM H rfl hc95 Tryd.isAgg3) (Wn.some rfl rfl rfl) rfl rfl ?_
                refine WR.stepE (v' := .bool true) (Ex.eql rfl rfl) (congrArg Value.bool (decide_eq_true hk42)) (Wn.some rfl rfl rfl) rfl rfl ?_
                refine WR.step (Ex.move rfl) (Wn.some rfl rfl rfl) rfl rfl ?_
                refine WR.step (Ex.move rfl) (Wn.some rfl rfl rfl) rfl rfl ?_
                refine WR.step (Ex.pickT rfl rfl) (Wn.some rfl rfl rfl) rfl rfl ?_
                refine WR.step (Ex.pickF rfl rfl) (Wn.none rfl) rfl rfl ?_
                refine WR.step (Ex.assign rfl) (Wn.none rfl) rfl rfl ?_
                refine WR.nil (WQ.any ?_)
                refine WA.done (by kernel_rfl) ?_
                exact WQ.meetN [(2, _), (5, _), (7, _), (9, _), (10, _), (11, _), (12, _), (13, _), (14, _), (15, _)] ⟨rfl, rfl, rfl, rfl, rfl, rfl, rfl, rfl, rfl, rfl, trivial⟩ ⟨_, _, rfl, H, hg_errR, hg_errS, hg_maxl, hg_pow10, hs65, hs78, e35⟩
             ·
              refine WR.idxC Tryd.underlying33 Tryd.sizeOf3 (hs78) rfl rfl hxa41 (Wn.some rfl rfl rfl) rfl ?_
              intro p99 hc99
              refine WR.nil (WQ.any ?_)
              refine WA.two (i := 12) (j := 17) (by kernel_rfl) rfl rfl ?_ ?_
              ·
               refine WR.idxC Tryd.underlying33 Tryd.sizeOf3 (hs65) rfl rfl hxa40 (Wn.some rfl rfl rfl) rfl ?_
               intro p95 hc95
               refine WR.nil (WQ.any ?_)
               refine WA.two (i := 13) (j := 17) (by kernel_rfl) rfl rfl ?_ ?_
               ·
                refine WR.step (Ex.loadM H rfl hc95 Tryd.isAgg3) (Wn.some rfl rfl rfl) rfl rfl ?_
                refine WR.nil (WQ.any ?_)
                refine WA.seq (fuel := 0) [17, 18, 19, 20, 21, 22, 23] rfl (by kernel_rfl) ?_
                refine WR.step (Ex.loadM H rfl hc99 Tryd.isAgg3) (Wn.some rfl rfl rfl) rfl rfl ?_
                refine WR.stepE (v' := .bool true) (Ex.eql rfl rfl) (congrArg Value.bool (decide_eq_true hk42)) (Wn.some rfl rfl rfl) rfl rfl ?_
                refine WR.step (Ex.move rfl) (Wn.some rfl rfl rfl) rfl rfl ?_
                refine WR.step (Ex.move rfl) (Wn.some rfl rfl rfl) rfl rfl ?_
                refine WR.step (Ex.pickT rfl rfl) (Wn.some rfl rfl rfl) rfl rfl ?_
                refine WR.step (Ex.pickF rfl rfl) (Wn.none rfl) rfl rfl ?_
                refine WR.step (Ex.assign rfl) (Wn.none rfl) rfl rfl ?_
                refine WR.nil (WQ.any ?_)
                refine WA.done (by kernel_rfl) ?_
                exact WQ.meetN [(2, _), (5, _), (7, _), (9, _), (10, _), (11, _), (12, _), (13, _), (14, _), (15, _)] ⟨rfl, rfl, rfl, rfl, rfl, rfl, rfl, rfl, rfl, rfl, trivial⟩ ⟨_, _, rfl, H, hg_errR, hg_errS, hg_maxl, hg_pow10, hs65, hs78, e35⟩
               ·
                refine WR.step (Ex.loadM H rfl hc99 Tryd.isAgg3) (Wn.some rfl rfl rfl) rfl rfl ?_
                refine WR.nil (WQ.any ?_)
                refine WA.seq (fuel := 0) [13, 18, 19, 20, 21, 22, 23] rfl (by kernel_rfl) ?_
                refine WR.step (Ex.loadM H rfl hc95 Tryd.isAgg3) (Wn.some rfl rfl rfl) rfl rfl ?_
                refine WR.stepE (v' := .bool true) (Ex.eql rfl rfl) (congrArg Value.bool (decide_eq_true hk42)) (Wn.some rfl rfl rfl) rfl rfl ?_
                refine WR.step (Ex.move rfl) (Wn.some rfl rfl rfl) rfl rfl ?_
                refine WR.step (Ex.move rfl) (Wn.some rfl rfl rfl) rfl rfl ?_
                refine WR.step (Ex.pickT rfl rfl) (Wn.some rfl rfl rfl) rfl rfl ?_
                refine WR.step (Ex.pickF rfl rfl) (Wn.none rfl) rfl rfl ?_
                refine WR.step (Ex.assign rfl) (Wn.none rfl) rfl rfl ?_
                refine WR.nil (WQ.any ?_)
                refine WA.done (by kernel_rfl) ?_
                exact WQ.meetN [(2, _), (5, _), (7, _), (9, _), (10, _), (11, _), (12, _), (13, _), (14, _), (15, _)] ⟨rfl, rfl, rfl, rfl, rfl, rfl, rfl, rfl, rfl, rfl, trivial⟩ ⟨_, _, rfl, H, hg_errR, hg_errS, hg_maxl, hg_pow10, hs65, hs78, e35⟩
              ·
               refine WR.step (Ex.loadM H rfl hc99 Tryd.isAgg3) (Wn.some rfl rfl rfl) rfl rfl ?_
               refine WR.nil (WQ.any ?_)
               refine WA.seq (fuel := 0) [12, 13, 18, 19, 20, 21, 22, 23] rfl (by kernel_rfl) ?_
               refine WR.idxC Tryd.underlying33 Tryd.sizeOf3 (hs65) rfl rfl hxa40 (Wn.some rfl rfl rfl) rfl ?_
               intro p95 hc95
               refine WR.step (Ex.loadM H rfl hc95 Tryd.isAgg3) (Wn.some rfl rfl rfl) rfl rfl ?_
               refine WR.stepE (v' := .bool true) (Ex.eql rfl rfl) (congrArg Value.bool (decide_eq_true hk42)) (Wn.some rfl rfl rfl) rfl rfl ?_
               refine WR.step (Ex.move rfl) (Wn.some rfl rfl rfl) rfl rfl ?_
               refine WR.step (Ex.move rfl) (Wn.some rfl rfl rfl) rfl rfl ?_
               refine WR.step (Ex.pickT rfl rfl) (Wn.some rfl rfl rfl) rfl rfl ?_
               refine WR.step (Ex.pickF rfl rfl) (Wn.none rfl) rfl rfl ?_
               refine WR.step (Ex.assign rfl) (Wn.none rfl) rfl rfl ?_
               refine WR.nil (WQ.any ?_)
               refine WA.done (by kernel_rfl) ?_
               exact WQ.meetN [(2, _), (5, _), (7, _), (9, _), (10, _), (11, _), (12, _), (13, _), (14, _), (15, _)] ⟨rfl, rfl, rfl, rfl, rfl, rfl, rfl, rfl, rfl, rfl, trivial⟩ ⟨_, _, rfl, H, hg_errR, hg_errS, hg_maxl, hg_pow10, hs65, hs78, e35⟩
            ·
             refine WR.step (Ex.loadM H rfl hc89 Tryd.isAgg3) (Wn.none rfl) rfl rfl ?_
             refine WR.nil (WQ.any ?_)
             refine WA.seq (fuel := 14) [3, 8, 9] rfl (by kernel_rfl) ?_
             refine WR.step (Ex.loadM H rfl hc85 Tryd.isAgg3) (Wn.none rfl) rfl rfl ?_
             refine WR.stepE (v' := .bool false) (Ex.lss rfl rfl) (congrArg Value.bool (decide_eq_false hk39)) (Wn.none rfl) rfl rfl ?_
             refine WR.step (Ex.move rfl) (Wn.none rfl) rfl rfl ?_
             refine WR.nil (WQ.any ?_)
             refine WA.take (i := 10) rfl (by kernel_rfl) (by kernel_rfl) (by kernel_rfl) (fun _ => Ex.move rfl) (Wn.some rfl rfl rfl) rfl rfl (fun _ _ => rfl) ?_
             refine WA.take (i := 11) rfl (by kernel_rfl) (by kernel_rfl) (by kernel_rfl) (fun _ => Ex.move rfl) (Wn.some rfl rfl rfl) rfl rfl (fun _ _ => rfl) ?_
             refine WA.take (i := 14) rfl (by kernel_rfl) (by kernel_rfl) (by kernel_rfl) (fun _ => Ex.move rfl) (Wn.some rfl rfl rfl) rfl rfl (fun _ _ => rfl) ?_
             refine WA.take (i := 15) rfl (by kernel_rfl) (by kernel_rfl) (by kernel_rfl) (fun _ => Ex.move rfl) (Wn.some rfl rfl rfl) rfl rfl (fun _ _ => rfl) ?_
             refine WA.two (i := 12) (j := 16) (by kernel_rfl) rfl rfl ?_ ?_
             ·
              refine WR.idxC Tryd.underlying33 Tryd.sizeOf3 (hs65) rfl rfl hxa40 (Wn.some rfl rfl rfl) rfl ?_
              intro p95 hc95
              refine WR.nil (WQ.any ?_)
              refine WA.two (i := 13) (j := 16) (by kernel_rfl) rfl rfl ?_ ?_
              ·
               refine WR.step (Ex.loadM H rfl hc95 Tryd.isAgg3) (Wn.some rfl rfl rfl) rfl rfl ?_
               refine WR.nil (WQ.any ?_)
               refine WA.seq (fuel := 0) [16, 17, 18, 19, 20, 21, 22, 23] rfl (by kernel_rfl) ?_
               refine WR.idxC Tryd.underlying33 Tryd.sizeOf3 (hs78) rfl rfl hxa41 (Wn.some rfl rfl rfl) rfl ?_
               intro p99 hc99
               refine WR.step (Ex.loadM H rfl hc99 Tryd.isAgg3) (Wn.some rfl rfl rfl) rfl rfl ?_
               refine WR.stepE (v' := .bool true) (Ex.eql rfl rfl) (congrArg Value.bool (decide_eq_true hk42)) (Wn.some rfl rfl rfl) rfl rfl ?_
               refine WR.step (Ex.move rfl) (Wn.some rfl rfl rfl) rfl rfl ?_
               refine WR.step (Ex.move rfl) (Wn.some rfl rfl rfl) rfl rfl ?_
               refine WR.step (Ex.pickT rfl rfl) (Wn.some rfl rfl rfl) rfl rfl ?_
               refine WR.step (Ex.pickF rfl rfl) (Wn.none rfl) rfl rfl ?_
               refine WR.step (Ex.assign rfl) (Wn.none rfl) rfl rfl ?_
               refine WR.nil (WQ.any ?_)
               refine WA.done (by kernel_rfl) ?_
               exact WQ.meetN [(2, _), (5, _), (7, _), (9, _), (10, _), (11, _), (12, _), (13, _), (14, _), (15, _)] ⟨rfl, rfl, rfl, rfl, rfl, rfl, rfl, rfl, rfl, rfl, trivial⟩ ⟨_, _, rfl, H, hg_errR, hg_errS, hg_maxl, hg_pow10, hs65, hs78, e35⟩
              ·
               refine WR.idxC Tryd.underlying33 Tryd.sizeOf3 (hs78) rfl rfl hxa41 (Wn.some rfl rfl rfl) rfl ?_
               intro p99 hc99
               refine WR.nil (WQ.any ?_)
               refine WA.two (i := 13) (j := 17) (by kernel_rfl) rfl rfl ?_ ?_
               ·
                refine WR.step (Ex.loadM H rfl hc95 Tryd.isAgg3) (Wn.some rfl rfl rfl) rfl rfl ?_
                refine WR.nil (WQ.any ?_)
                refine WA.seq (fuel := 0) [17, 18, 19, 20, 21, 22, 23] rfl (by kernel_rfl) ?_
                refine WR.step (Ex.loadM H rfl hc99 Tryd.isAgg3) (Wn.some rfl rfl rfl) rfl rfl ?_
                refine WR.stepE (v' := .bool true) (Ex.eql rfl rfl) (congrArg Value.bool (decide_eq_true hk42)) (Wn.some rfl rfl rfl) rfl rfl ?_
                refine WR.step (Ex.move rfl) (Wn.some rfl rfl rfl) rfl rfl ?_
                refine WR.step (Ex.move rfl) (Wn.some rfl rfl rfl) rfl rfl ?_
                refine WR.step (Ex.pickT rfl rfl) (Wn.some rfl rfl rfl) rfl rfl ?_
                refine WR.step (Ex.pickF rfl rfl) (Wn.none rfl) rfl rfl ?_
                refine WR.step (Ex.assign rfl) (Wn.none rfl) rfl rfl ?_
                refine WR.nil (WQ.any ?_)
                refine WA.done (by kernel_rfl) ?_
                exact WQ.meetN [(2, _), (5, _), (7, _), (9, _), (10, _), (11, _), (12, _), (13, _), (14, _), (15, _)] ⟨rfl, rfl, rfl, rfl, rfl, rfl, rfl, rfl, rfl, rfl, trivial⟩ ⟨_, _, rfl, H, hg_errR, hg_errS, hg_maxl, hg_pow10, hs65, hs78, e35⟩
               ·
                refine WR.step (Ex.loadM H rfl hc99 Tryd.isAgg3) (Wn.some rfl rfl rfl) rfl rfl ?_
                refine WR.nil (WQ.any ?_)
                refine WA.seq (fuel := 0) [13, 18, 19, 20, 21, 22, 23] rfl (by kernel_rfl) ?_
                refine WR.step (Ex.loadM H rfl hc95 Tryd.isAgg3) (Wn.some rfl rfl rfl) rfl rfl ?_
                refine WR.stepE (v' := .bool true) (Ex.eql rfl rfl) (congrArg Value.bool (decide_eq_true hk42)) (Wn.some rfl rfl rfl) rfl rfl ?_
                refine WR.step (Ex.move rfl) (Wn.some rfl rfl rfl) rfl rfl ?_
                refine WR.step (Ex.move rfl) (Wn.some rfl rfl rfl) rfl rfl ?_
                refine WR.step (Ex.pickT rfl rfl) (Wn.some rfl rfl rfl) rfl rfl ?_
                refine WR.step (Ex.pickF rfl rfl) (Wn.none rfl) rfl rfl ?_
                refine WR.step (Ex.assign rfl) (Wn.none rfl) rfl rfl ?_
                refine WR.nil (WQ.any ?_)
                refine WA.done (by kernel_rfl) ?_
                exact WQ.meetN [(2, _), (5, _), (7, _), (9, _), (10, _), (11, _), (12, _), (13, _), (14, _), (15, _)] ⟨rfl, rfl, rfl, rfl, rfl, rfl, rfl, rfl, rfl, rfl, trivial⟩ ⟨_, _, rfl, H, hg_errR, hg_errS, hg_maxl, hg_pow10, hs65, hs78, e35⟩
             ·
              refine WR.idxC Tryd.underlying33 Tryd.sizeOf3 (hs78) rfl rfl hxa41 (Wn.some rfl rfl rfl) rfl ?_
              intro p99 hc99
              refine WR.nil (WQ.any ?_)
              refine WA.two (i := 12) (j := 17) (by kernel_rfl) rfl rfl ?_ ?_
              ·
               refine WR.idxC Tryd.underlying33 Tryd.sizeOf3 (hs65) rfl rfl hxa40 (Wn.some rfl rfl rfl) rfl ?_
               intro p95 hc95
               refine WR.nil (WQ.any ?_)
               refine WA.two (i := 13) (j := 17) (by kernel_rfl) rfl rfl ?_ ?_
               ·
                refine WR.step (Ex.loadM H rfl hc95 Tryd.isAgg3) (Wn.some rfl rfl rfl) rfl rfl ?_
                refine WR.nil (WQ.any ?_)
                refine WA.seq (fuel := 0) [17, 18, 19, 20, 21, 22, 23] rfl (by kernel_rfl) ?_
                refine WR.step (Ex.loadM H rfl hc99 Tryd.isAgg3) (Wn.some rfl rfl rfl) rfl rfl ?_
                refine WR.stepE (v' := .bool true) (Ex.eql rfl rfl) (congrArg Value.bool (decide_eq_true hk42)) (Wn.some rfl rfl rfl) rfl rfl ?_
                refine WR.step (Ex.move rfl) (Wn.some rfl rfl rfl) rfl rfl ?_
                refine WR.step (Ex.move rfl) (Wn.some rfl rfl rfl) rfl rfl ?_
                refine WR.step (Ex.pickT rfl rfl) (Wn.some rfl rfl rfl) rfl rfl ?_
                refine WR.step (Ex.pickF rfl rfl) (Wn.none rfl) rfl rfl ?_
                refine WR.step (Ex.assign rfl) (Wn.none rfl) rfl rfl ?_
                refine WR.nil (WQ.any ?_)
                refine WA.done (by kernel_rfl) ?_
                exact WQ.meetN [(2, _), (5, _), (7, _), (9, _), (10, _), (11, _), (12, _), (13, _), (14, _), (15, _)] ⟨rfl, rfl, rfl, rfl, rfl, rfl, rfl, rfl, rfl, rfl, trivial⟩ ⟨_, _, rfl, H, hg_errR, hg_errS, hg_maxl, hg_pow10, hs65, hs78, e35⟩
               ·
                refine WR.step (Ex.loadM H rfl hc99 Tryd.isAgg3) (Wn.some rfl rfl rfl) rfl rfl ?_
                refine WR.nil (WQ.any ?_)
                refine WA.seq (fuel := 0) [13, 18, 19, 20, 21, 22, 23] rfl (by kernel_rfl) ?_
                refine WR.step (Ex.loadM H rfl hc95 Tryd.isAgg3) (Wn.some rfl rfl rfl) rfl rfl ?_
                refine WR.stepE (v' := .bool true) (Ex.eql rfl rfl) (congrArg Value.bool (decide_eq_true hk42)) (Wn.some rfl rfl rfl) rfl rfl ?_
                refine WR.step (Ex.move rfl) (Wn.some rfl rfl rfl) rfl rfl ?_
                refine WR.step (Ex.move rfl) (Wn.some rfl rfl rfl) rfl rfl ?_
                refine WR.step (Ex.pickT rfl rfl) (Wn.some rfl rfl rfl) rfl rfl ?_
                refine WR.step (Ex.pickF rfl rfl) (Wn.none rfl) rfl rfl ?_
                refine WR.step (Ex.assign rfl) (Wn.none rfl) rfl rfl ?_
                refine WR.nil (WQ.any ?_)
                refine WA.done (by kernel_rfl) ?_
                exact WQ.meetN [(2, _), (5, _), (7, _), (9, _), (10, _), (11, _), (12, _), (13, _), (14, _), (15, _)] ⟨rfl, rfl, rfl, rfl, rfl, rfl, rfl, rfl, rfl, rfl, trivial⟩ ⟨_, _, rfl, H, hg_errR, hg_errS, hg_maxl, hg_pow10, hs65, hs78, e35⟩
              ·
               refine WR.step (Ex.loadM H rfl hc99 Tryd.isAgg3) (Wn.some rfl rfl rfl) rfl rfl ?_
               refine WR.nil (WQ.any ?_)
               refine WA.seq (fuel := 0) [12, 13, 18, 19, 20, 21, 22, 23] rfl (by kernel_rfl) ?_
               refine WR.idxC Tryd.underlying33 Tryd.sizeOf3 (hs65) rfl rfl hxa40 (Wn.some rfl rfl rfl) rfl ?_
               intro p95 hc95
               refine WR.step (Ex.loadM H rfl hc95 Tryd.isAgg3) (Wn.some rfl rfl rfl) rfl rfl ?_
               refine WR.stepE (v' := .bool true) (Ex.eql rfl rfl) (congrArg Value.bool (decide_eq_true hk42)) (Wn.some rfl rfl rfl) rfl rfl ?_
               refine WR.step (Ex.move rfl) (Wn.some rfl rfl rfl) rfl rfl ?_
               refine WR.step (Ex.move rfl) (Wn.some rfl rfl rfl) rfl rfl ?_
               refine WR.step (Ex.pickT rfl rfl) (Wn.some rfl rfl rfl) rfl rfl ?_
               refine WR.step (Ex.pickF rfl rfl) (Wn.none rfl) rfl rfl ?_
               refine WR.step (Ex.assign rfl) (Wn.none rfl) rfl rfl ?_
               refine WR.nil (WQ.any ?_)
               refine WA.done (by kernel_rfl) ?_
               exact WQ.meetN [(2, _), (5, _), (7, _), (9, _), (10, _), (11, _), (12, _), (13, _), (14, _), (15, _)] ⟨rfl, rfl, rfl, rfl, rfl, rfl, rfl, rfl, rfl, rfl, trivial⟩ ⟨_, _, rfl, H, hg_errR, hg_errS, hg_maxl, hg_pow10, hs65, hs78, e35⟩
           ·
            refine WR.step (Ex.loadM H rfl hc89 Tryd.isAgg3) (Wn.none rfl) rfl rfl ?_
            refine WR.nil (WQ.any ?_)
            refine WA.seq (fuel := 14) [2, 3, 8, 9] rfl (by kernel_rfl) ?_
            refine WR.idxC Tryd.underlying33 Tryd.sizeOf3 (hs65) rfl rfl hxa37 (Wn.none rfl) rfl ?_
            intro p85 hc85
            refine WR.step (Ex.loadM H rfl hc85 Tryd.isAgg3) (Wn.none rfl) rfl rfl ?_
            refine WR.stepE (v' := .bool false) (Ex.lss rfl rfl) (congrArg Value.bool (decide_eq_false hk39)) (Wn.none rfl) rfl rfl ?_
            refine WR.step (Ex.move rfl) (Wn.none rfl) rfl rfl ?_
            refine WR.nil (WQ.any ?_)
            refine WA.take (i := 10) rfl (by kernel_rfl) (by kernel_rfl) (by kernel_rfl) (fun _ => Ex.move rfl) (Wn.some rfl rfl rfl) rfl rfl (fun _ _ => rfl) ?_
            refine WA.take (i := 11) rfl (by kernel_rfl) (by kernel_rfl) (by kernel_rfl) (fun _ => Ex.move rfl) (Wn.some rfl rfl rfl) rfl rfl (fun _ _ => rfl) ?_
            refine WA.take (i := 14) rfl (by kernel_rfl) (by kernel_rfl) (by kernel_rfl) (fun _ => Ex.move rfl) (Wn.some rfl rfl rfl) rfl rfl (fun _ _ => rfl) ?_
            refine WA.take (i := 15) rfl (by kernel_rfl) (by kernel_rfl) (by kernel_rfl) (fun _ => Ex.move rfl) (Wn.some rfl rfl rfl) rfl rfl (fun _ _ => rfl) ?_
            refine WA.two (i := 12) (j := 16) (by kernel_rfl) rfl rfl ?_ ?_
            ·
             refine WR.idxC Tryd.underlying33 Tryd.sizeOf3 (hs65) rfl rfl hxa40 (Wn.some rfl rfl rfl) rfl ?_
             intro p95 hc95
             refine WR.nil (WQ.any ?_)
             refine WA.two (i := 13) (j := 16) (by kernel_rfl) rfl rfl ?_ ?_
             ·
              refine WR.step (Ex.loadM H rfl hc95 Tryd.isAgg3) (Wn.some rfl rfl rfl) rfl rfl ?_
              refine WR.nil (WQ.any ?_)
              refine WA.seq (fuel := 0) [16, 17, 18, 19, 20, 21, 22, 23] rfl (by kernel_rfl) ?_
              refine WR.idxC Tryd.underlying33 Tryd.sizeOf3 (hs78) rfl rfl hxa41 (Wn.some rfl rfl rfl) rfl ?_
              intro p99 hc99
              refine WR.step (Ex.loadM H rfl hc99 Tryd.isAgg3) (Wn.some rfl rfl rfl) rfl rfl ?_
              refine WR.stepE (v' := .bool true) (Ex.eql rfl rfl) (congrArg Value.bool (decide_eq_true hk42)) (Wn.some rfl rfl rfl) rfl rfl ?_
              refine WR.step (Ex.move rfl) (Wn.some rfl rfl rfl) rfl rfl ?_
              refine WR.step (Ex.move rfl) (Wn.some rfl rfl rfl) rfl rfl ?_
              refine WR.step (Ex.pickT rfl rfl) (Wn.some rfl rfl rfl) rfl rfl ?_
              refine WR.step (Ex.pickF rfl rfl) (Wn.none rfl) rfl rfl ?_
              refine WR.step (Ex.assign rfl) (Wn.none rfl) rfl rfl ?_
              refine WR.nil (WQ.any ?_)
              refine WA.done (by kernel_rfl) ?_
              exact WQ.meetN [(2, _), (5, _), (7, _), (9, _), (10, _), (11, _), (12, _), (13, _), (14, _), (15, _)] ⟨rfl, rfl, rfl, rfl, rfl, rfl, rfl, rfl, rfl, rfl, trivial⟩ ⟨_, _, rfl, H, hg_errR, hg_errS, hg_maxl, hg_pow10, hs65, hs78, e35⟩
             ·
              refine WR.idxC Tryd.underlying33 Tryd.sizeOf3 (hs78) rfl rfl hxa41 (Wn.some rfl rfl rfl) rfl ?_
              intro p99 hc99
              refine WR.nil (WQ.any ?_)
              refine WA.two (i := 13) (j := 17) (by kernel_rfl) rfl rfl ?_ ?_
              ·
               refine WR.step (Ex.loadM H rfl hc95 Tryd.isAgg3) (Wn.some rfl rfl rfl) rfl rfl ?_
               refine WR.nil (WQ.any ?_)
               refine WA.seq (fuel := 0) [17, 18, 19, 20, 21, 22, 23] rfl (by kernel_rfl) ?_
               refine WR.step (Ex.loadM H rfl hc99 Tryd.isAgg3) (Wn.some rfl rfl rfl) rfl rfl ?_
               refine WR.stepE (v' := .bool true) (Ex.eql rfl rfl) (congrArg Value.bool (decide_eq_true hk42)) (Wn.some rfl rfl rfl) rfl rfl ?_
               refine WR.step (Ex.move rfl) (Wn.some rfl rfl rfl) rfl rfl ?_
               refine WR.step (Ex.move rfl) (Wn.some rfl rfl rfl) rfl rfl ?_
               refine WR.step (Ex.pickT rfl rfl) (Wn.some rfl rfl rfl) rfl rfl ?_
               refine WR.step (Ex.pickF rfl rfl) (Wn.none rfl) rfl rfl ?_
               refine WR.step (Ex.assign rfl) (Wn.none rfl) rfl rfl ?_
               refine WR.nil (WQ.any ?_)
               refine WA.done (by kernel_rfl) ?_
               exact WQ.meetN [(2, _), (5, _), (7, _), (9, _), (10, _), (11, _), (12, _), (13, _), (14, _), (15, _)] ⟨rfl, rfl, rfl, rfl, rfl, rfl, rfl, rfl, rfl, rfl, trivial⟩ ⟨_, _, rfl, H, hg_errR, hg_errS, hg_maxl, hg_pow10, hs65, hs78, e35⟩
              ·
               refine WR.step (Ex.loadM H rfl hc99 Tryd.isAgg3) (Wn.some rfl rfl rfl) rfl rfl ?_
               refine WR.nil (WQ.any ?_)
               refine WA.seq (fuel := 0) [13, 18, 19, 20, 21, 22, 23] rfl (by kernel_rfl) ?_
               refine WR.step (Ex.loadM H rfl hc95 Tryd.isAgg3) (Wn.some rfl rfl rfl) rfl rfl ?_
               refine WR.stepE (v' := .bool true) (Ex.eql rfl rfl) (congrArg Value.bool (decide_eq_true hk42)) (Wn.some rfl rfl rfl) rfl rfl ?_
               refine WR.step (Ex.move rfl) (Wn.some rfl rfl rfl) rfl rfl ?_
               refine WR.step (Ex.move rfl) (Wn.some rfl rfl rfl) rfl rfl ?_
               refine WR.step (Ex.pickT rfl rfl) (Wn.some rfl rfl rfl) rfl rfl ?_
               refine WR.step (Ex.pickF rfl rfl) (Wn.none rfl) rfl rfl ?_
               refine WR.step (Ex.assign rfl) (Wn.none rfl) rfl rfl ?_
               refine WR.nil (WQ.any ?_)
               refine WA.done (by kernel_rfl) ?_
               exact WQ.meetN [(2, _), (5, _), (7, _), (9, _), (10, _), (11, _), (12, _), (13, _), (14, _), (15, _)] ⟨rfl, rfl, rfl, rfl, rfl, rfl, rfl, rfl, rfl, rfl, trivial⟩ ⟨_, _, rfl, H, hg_errR, hg_errS, hg_maxl, hg_pow10, hs65, hs78, e35⟩
            ·
             refine WR.idxC Tryd.underlying33 Tryd.sizeOf3 (hs78) rfl rfl hxa41 (Wn.some rfl rfl rfl) rfl ?_
             intro p99 hc99
             refine WR.nil (WQ.any ?_)
             refine WA.two (i := 12) (j := 17) (by kernel_rfl) rfl rfl ?_ ?_
             ·
              refine WR.idxC Tryd.underlying33 Tryd.sizeOf3 (hs65) rfl rfl hxa40 (Wn.some rfl rfl rfl) rfl ?_
              intro p95 hc95
              refine WR.nil (WQ.any ?_)
              refine WA.two (i := 13) (j := 17) (by kernel_rfl) rfl rfl ?_ ?_
              ·
               refine WR.step (Ex.loadM H rfl hc95 Tryd.isAgg3) (Wn.some rfl rfl rfl) rfl rfl ?_
               refine WR.nil (WQ.any ?_)
               refine WA.seq (fuel := 0) [17, 18, 19, 20, 21, 22, 23] rfl (by kernel_rfl) ?_
               refine WR.step (Ex.loadM H rfl hc99 Tryd.isAgg3) (Wn.some rfl rfl rfl) rfl rfl ?_
               refine WR.stepE (v' := .bool true) (Ex.eql rfl rfl) (congrArg Value.bool (decide_eq_true hk42)) (Wn.some rfl rfl rfl) rfl rfl ?_
               refine WR.step (Ex.move rfl) (Wn.some rfl rfl rfl) rfl rfl ?_
               refine WR.step (Ex.move rfl) (Wn.some rfl rfl rfl) rfl rfl ?_
               refine WR.step (Ex.pickT rfl rfl) (Wn.some rfl rfl rfl) rfl rfl ?_
               refine WR.step (Ex.pickF rfl rfl) (Wn.none rfl) rfl rfl ?_
               refine WR.step (Ex.assign rfl) (Wn.none rfl) rfl rfl ?_
               refine WR.nil (WQ.any ?_)
               refine WA.done (by kernel_rfl) ?_
               exact WQ.meetN [(2, _), (5, _), (7, _), (9, _), (10, _), (11, _), (12, _), (13, _), (14, _), (15, _)] ⟨rfl, rfl, rfl, rfl, rfl, rfl, rfl, rfl, rfl, rfl, trivial⟩ ⟨_, _, rfl, H, hg_errR, hg_errS, hg_maxl, hg_pow10, hs65, hs78, e35⟩
              ·
               refine WR.step (Ex.loadM H rfl hc99 Tryd.isAgg3) (Wn.some rfl rfl rfl) rfl rfl ?_
               refine WR.nil (WQ.any ?_)
               refine WA.seq (fuel := 0) [13, 18, 19, 20, 21, 22, 23] rfl (by kernel_rfl) ?_
               refine WR.step (Ex.loadM H rfl hc95 Tryd.isAgg3) (Wn.some rfl rfl rfl) rfl rfl ?_
               refine WR.stepE (v' := .bool true) (Ex.eql rfl rfl) (congrArg Value.bool (decide_eq_true hk42)) (Wn.some rfl rfl rfl) rfl rfl ?_
               refine WR.step (Ex.move rfl) (Wn.some rfl rfl rfl) rfl rfl ?_
               refine WR.step (Ex.move rfl) (Wn.some rfl rfl rfl) rfl rfl ?_
               refine WR.step (Ex.pickT rfl rfl) (Wn.some rfl rfl rfl) rfl rfl ?_
               refine WR.step (Ex.pickF rfl rfl) (Wn.none rfl) rfl rfl ?_
               refine WR.step (Ex.assign rfl) (Wn.none rfl) rfl rfl ?_
               refine WR.nil (WQ.any ?_)
               refine WA.done (by kernel_rfl) ?_
               exact WQ.meetN [(2, _), (5, _), (7, _), (9, _), (10, _), (11, _), (12, _), (13, _), (14, _), (15, _)] ⟨rfl, rfl, rfl, rfl, rfl, rfl, rfl, rfl, rfl, rfl, trivial⟩ ⟨_, _, rfl, H, hg_errR, hg_errS, hg_maxl, hg_pow10, hs65, hs78, e35⟩
             ·
              refine WR.step (Ex.loadM H rfl hc99 Tryd.isAgg3) (Wn.some rfl rfl rfl) rfl rfl ?_
              refine WR.nil (WQ.any ?_)
              refine WA.seq (fuel := 0) [12, 13, 18, 19, 20, 21, 22, 23] rfl (by kernel_rfl) ?_
              refine WR.idxC Tryd.underlying33 Tryd.sizeOf3 (hs65) rfl rfl hxa40 (Wn.some rfl rfl rfl) rfl ?_
              intro p95 hc95
              refine WR.step (Ex.loadM H rfl hc95 Tryd.isAgg3) (Wn.some rfl rfl rfl) rfl rfl ?_
              refine WR.stepE (v' := .bool true) (Ex.eql rfl rfl) (congrArg Value.bool (decide_eq_true hk42)) (Wn.some rfl rfl rfl) rfl rfl ?_
              refine WR.step (Ex.move rfl) (Wn.some rfl rfl rfl) rfl rfl ?_
              refine WR.step (Ex.move rfl) (Wn.some rfl rfl rfl) rfl rfl ?_
              refine WR.step (Ex.pickT rfl rfl) (Wn.some rfl rfl rfl) rfl rfl ?_
              refine WR.step (Ex.pickF rfl rfl) (Wn.none rfl) rfl rfl ?_
              refine WR.step (Ex.assign rfl) (Wn.none rfl) rfl rfl ?_
              refine WR.nil (WQ.any ?_)
              refine WA.done (by kernel_rfl) ?_
              exact WQ.meetN [(2, _), (5, _), (7, _), (9, _), (10, _), (11, _), (12, _), (13, _), (14, _), (15, _)] ⟨rfl, rfl, rfl, rfl, rfl, rfl, rfl, rfl, rfl, rfl, trivial⟩ ⟨_, _, rfl, H, hg_errR, hg_errS, hg_maxl, hg_pow10, hs65, hs78, e35⟩
         ·
          rw [if_neg hk42] at e35
          refine WA.two (i := 2) (j := 6) (by kernel_rfl) rfl rfl ?_ ?_
          ·
           refine WR.idxC Tryd.underlying33 Tryd.sizeOf3 (hs65) rfl rfl hxa37 (Wn.none rfl) rfl ?_
           intro p85 hc85
           refine WR.nil (WQ.any ?_)
           refine WA.two (i := 3) (j := 6) (by kernel_rfl) rfl rfl ?_ ?_
           ·
            refine WR.step (Ex.loadM H rfl hc85 Tryd.isAgg3) (Wn.none rfl) rfl rfl ?_
            refine WR.nil (WQ.any ?_)
            refine WA.seq (fuel := 14) [6, 7, 8, 9] rfl (by kernel_rfl) ?_
            refine WR.idxC Tryd.underlying33 Tryd.sizeOf3 (hs78) rfl rfl hxa38 (Wn.none rfl) rfl ?_
            intro p89 hc89
            refine WR.step (Ex.loadM H rfl hc89 Tryd.isAgg3) (Wn.none rfl) rfl rfl ?_
            refine WR.stepE (v' := .bool false) (Ex.lss rfl rfl) (congrArg Value.bool (decide_eq_false hk39)) (Wn.none rfl) rfl rfl ?_
            refine WR.step (Ex.move rfl) (Wn.none rfl) rfl rfl ?_
            refine WR.nil (WQ.any ?_)
            refine WA.take (i := 10) rfl (by kernel_rfl) (by kernel_rfl) (by kernel_rfl) (fun _ => Ex.move rfl) (Wn.some rfl rfl rfl) rfl rfl (fun _ _ => rfl) ?_
            refine WA.take (i := 11) rfl (by kernel_rfl) (by kernel_rfl) (by kernel_rfl) (fun _ => Ex.move rfl) (Wn.some rfl rfl rfl) rfl rfl (fun _ _ => rfl) ?_
            refine WA.take (i := 14) rfl (by kernel_rfl) (by kernel_rfl) (by kernel_rfl) (fun _ => Ex.move rfl) (Wn.some rfl rfl rfl) rfl rfl (fun _ _ => rfl) ?_
            refine WA.take (i := 15) rfl (by kernel_rfl) (by kernel_rfl) (by kernel_rfl) (fun _ => Ex.move rfl) (Wn.some rfl rfl rfl) rfl rfl (fun _ _ => rfl) ?_
            refine WA.two (i := 12) (j := 16) (by kernel_rfl) rfl rfl ?_ ?_
            ·
             refine WR.idxC Tryd.underlying33 Tryd.sizeOf3 (hs65) rfl rfl hxa40 (Wn.some rfl rfl rfl) rfl ?_
             intro p95 hc95
             refine WR.nil (WQ.any ?_)
             refine WA.two (i := 13) (j := 16) (by kernel_rfl) rfl rfl ?_ ?_
             ·
              refine WR.step (Ex.loadM H rfl hc95 Tryd.isAgg3) (Wn.some rfl rfl rfl) rfl rfl ?_
              refine WR.nil (WQ.any ?_)
              refine WA.seq (fuel := 0) [16, 17, 18, 19, 20, 21, 22, 23] rfl (by kernel_rfl) ?_
              refine WR.idxC Tryd.underlying33 Tryd.sizeOf3 (hs78) rfl rfl hxa41 (Wn.some rfl rfl rfl) rfl ?_
              intro p99 hc99
              refine WR.step (Ex.loadM H rfl hc99 Tryd.isAgg3) (Wn.some rfl rfl rfl) rfl rfl ?_
              refine WR.stepE (v' := .bool false) (Ex.eql rfl rfl) (congrArg Value.bool (decide_eq_false hk42)) (Wn.some rfl rfl rfl) rfl rfl ?_
              refine WR.step (Ex.move rfl) (Wn.some rfl rfl rfl) rfl rfl ?_
              refine WR.skipG (b := false) rfl rfl rfl rfl rfl ?_
              refine WR.step (Ex.pickF rfl rfl) (Wn.some rfl rfl rfl) rfl rfl ?_
              refine WR.step (Ex.pickF rfl rfl) (Wn.none rfl) rfl rfl ?_
              refine WR.step (Ex.assign rfl) (Wn.none rfl) rfl rfl ?_
              refine WR.nil (WQ.any ?_)
              refine WA.done (by kernel_rfl) ?_
              exact WQ.meetN [(2, _), (5, _), (7, _), (9, _), (10, _), (11, _), (12, _), (13, _), (14, _), (15, _)] ⟨rfl, rfl, rfl, rfl, rfl, rfl, rfl, rfl, rfl, rfl, trivial⟩ ⟨_, _, rfl, H, hg_errR, hg_errS, hg_maxl, hg_pow10, hs65, hs78, e35⟩
             ·
              refine WR.idxC Tryd.underlying33 Tryd.sizeOf3 (hs78) rfl rfl hxa41 (Wn.some rfl rfl rfl) rfl ?_
              intro p99 hc99
              refine WR.nil (WQ.any ?_)
              refine WA.two (i := 13) (j := 17) (by kernel_rfl) rfl rfl ?_ ?_
              ·
               refine WR.step (Ex.loadM H rfl hc95 Tryd.isAgg3) (Wn.some rfl rfl rfl) rfl rfl ?_
               refine WR.nil (WQ.any ?_)
               refine WA.seq (fuel := 0) [17, 18, 19, 20, 21, 22, 23] rfl (by kernel_rfl) ?_
               refine WR.step (Ex.loadM H rfl hc99 Tryd.isAgg3) (Wn.some rfl rfl rfl) rfl rfl ?_
               refine WR.stepE (v' := .bool false) (Ex.eql rfl rfl) (congrArg Value.bool (decide_eq_false hk42)) (Wn.some rfl rfl rfl) rfl rfl ?_
               refine WR.step (Ex.move rfl) (Wn.some rfl rfl rfl) rfl rfl ?_
               refine WR.skipG (b := false) rfl rfl rfl rfl rfl ?_
               refine WR.step (Ex.pickF rfl rfl) (Wn.some rfl rfl rfl) rfl rfl ?_
               refine WR.step (Ex.pickF rfl rfl) (Wn.none rfl) rfl rfl ?_
               refine WR.step (Ex.assign rfl) (Wn.none rfl) rfl rfl ?_
               refine WR.nil (WQ.any ?_)
               refine WA.done (by kernel_rfl) ?_
               exact WQ.meetN [(2, _), (5, _), (7, _), (9, _), (10, _), (11, _), (12, _), (13, _), (14, _), (15, _)] ⟨rfl, rfl, rfl, rfl, rfl, rfl, rfl, rfl, rfl, rfl, trivial⟩ ⟨_, _, rfl, H, hg_errR, hg_errS, hg_maxl, hg_pow10, hs65, hs78, e35⟩
              ·
               refine WR.step (Ex.loadM H rfl hc99 Tryd.isAgg3) (Wn.some rfl rfl rfl) rfl rfl ?_
               refine WR.nil (WQ.any ?_)
               refine WA.seq (fuel := 0) [13, 18, 19, 20, 21, 22, 23] rfl (by kernel_rfl) ?_
               refine WR.step (Ex.loadM H rfl hc95 Tryd.isAgg3) (Wn.some rfl rfl rfl) rfl rfl ?_
               refine WR.stepE (v' := .bool false) (Ex.eql rfl rfl) (congrArg Value.bool (decide_eq_false hk42)) (Wn.some rfl rfl rfl) rfl rfl ?_
               refine WR.step (Ex.move rfl) (Wn.some rfl rfl rfl) rfl rfl ?_
               refine WR.skipG (b := false) rfl rfl rfl rfl rfl ?_
               refine WR.step (Ex.pickF rfl rfl) (Wn.some rfl rfl rfl) rfl rfl ?_
               refine WR.step (Ex.pickF rfl rfl) (Wn.none rfl) rfl rfl ?_
               refine WR.step (Ex.assign rfl) (Wn.none rfl) rfl rfl ?_
               refine WR.nil (WQ.any ?_)
               refine WA.done (by kernel_rfl) ?_
               exact WQ.meetN [(2, _), (5, _), (7, _), (9, _), (10, _), (11, _), (12, _), (13, _), (14, _), (15, _)] ⟨rfl, rfl, rfl, rfl, rfl, rfl, rfl, rfl, rfl, rfl, trivial⟩ ⟨_, _, rfl, H, hg_errR, hg_errS, hg_maxl, hg_pow10, hs65, hs78, e35⟩
            ·
             refine WR.idxC Tryd.underlying33 Tryd.sizeOf3 (hs78) rfl rfl hxa41 (Wn.some rfl rfl rfl) rfl ?_
             intro p99 hc99
             refine WR.nil (WQ.any ?_)
             refine WA.two (i := 12) (j := 17) (by kernel_rfl) rfl rfl ?_ ?_
             ·
              refine WR.idxC Tryd.underlying33 Tryd.sizeOf3 (hs65) rfl rfl hxa40 (Wn.some rfl rfl rfl) rfl ?_
              intro p95 hc95
              refine WR.nil (WQ.any ?_)
              refine WA.two (i := 13) (j := 17) (by kernel_rfl) rfl rfl ?_ ?_
              ·
               refine WR.step (Ex.loadM H rfl hc95 Tryd.isAgg3) (Wn.some rfl rfl rfl) rfl rfl ?_
               refine WR.nil (WQ.any ?_)
               refine WA.seq (fuel := 0) [17, 18, 19, 20, 21, 22, 23] rfl (by kernel_rfl) ?_
               refine WR.step (Ex.loadM H rfl hc99 Tryd.isAgg3) (Wn.some rfl rfl rfl) rfl rfl ?_
               refine WR.stepE (v' := .bool false) (Ex.eql rfl rfl) (congrArg Value.bool (decide_eq_false hk42)) (Wn.some rfl rfl rfl) rfl rfl ?_
               refine WR.step (Ex.move rfl) (Wn.some rfl rfl rfl) rfl rfl ?_
               refine WR.skipG (b := false) rfl rfl rfl rfl rfl ?_
               refine WR.step (Ex.pickF rfl rfl) (Wn.some rfl rfl rfl) rfl rfl ?_
               refine WR.step (Ex.pickF rfl rfl) (Wn.none rfl) rfl rfl ?_
               refine WR.step (Ex.assign rfl) (Wn.none rfl) rfl rfl ?_
               refine WR.nil (WQ.any ?_)
               refine WA.done (by kernel_rfl) ?_
               exact WQ.meetN [(2, _), (5, _), (7, _), (9, _), (10, _), (11, _), (12, _), (13, _), (14, _), (15, _)] ⟨rfl, rfl, rfl, rfl, rfl, rfl, rfl, rfl, rfl, rfl, trivial⟩ ⟨_, _, rfl, H, hg_errR, hg_errS, hg_maxl, hg_pow10, hs65, hs78, e35⟩
              ·
               refine WR.step (Ex.loadM H rfl hc99 Tryd.isAgg3) (Wn.some rfl rfl rfl) rfl rfl ?_
               refine WR.nil (WQ.any ?_)
               refine WA.seq (fuel := 0) [13, 18, 19, 20, 21, 22, 23] rfl (by kernel_rfl) ?_
               refine WR.step (Ex.loadM H rfl hc95 Tryd.isAgg3) (Wn.some rfl rfl rfl) rfl rfl ?_
               refine WR.stepE (v' := .bool false) (Ex.eql rfl rfl) (congrArg Value.bool (decide_eq_false hk42)) (Wn.some rfl rfl rfl) rfl rfl ?_
               refine WR.step (Ex.move rfl) (Wn.some rfl rfl rfl) rfl rfl ?_
               refine WR.skipG (b := false) rfl rfl rfl rfl rfl ?_
               refine WR.step (Ex.pickF rfl rfl) (Wn.some rfl rfl rfl) rfl rfl ?_
               refine WR.step (Ex.pickF rfl rfl) (Wn.none rfl) rfl rfl ?_
               refine WR.step (Ex.assign rfl) (Wn.none rfl) rfl rfl ?_
               refine WR.nil (WQ.any ?_)
               refine WA.done (by kernel_rfl) ?_
               exact WQ.meetN [(2, _), (5, _), (7, _), (9, _), (10, _), (11, _), (12, _), (13, _), (14, _), (15, _)] ⟨rfl, rfl, rfl, rfl, rfl, rfl, rfl, rfl, rfl, rfl, trivial⟩ ⟨_, _, rfl, H, hg_errR, hg_errS, hg_maxl, hg_pow10, hs65, hs78, e35⟩
             ·
              refine WR.step (Ex.loadM H rfl hc99 Tryd.isAgg3) (Wn.some rfl rfl rfl) rfl rfl ?_
              refine WR.nil (WQ.any ?_)
              refine WA.seq (fuel := 0) [12, 13, 18, 19, 20, 21, 22, 23] rfl (by kernel_rfl) ?_
              refine WR.idxC Tryd.underlying33 Tryd.sizeOf3 (hs65) rfl rfl hxa40 (Wn.some rfl rfl rfl) rfl ?_
              intro p95 hc95
              refine WR.step (Ex.loadM H rfl hc95 Tryd.isAgg3) (Wn.some rfl rfl rfl) rfl rfl ?_
              refine WR.stepE (v' := .bool false) (Ex.eql rfl rfl) (congrArg Value.bool (decide_eq_false hk42)) (Wn.some rfl rfl rfl) rfl rfl ?_
              refine WR.step (Ex.move rfl) (Wn.some rfl rfl rfl) rfl rfl ?_
              refine WR.skipG (b := false) rfl rfl rfl rfl rfl ?_
              refine WR.step (Ex.pickF rfl rfl) (Wn.some rfl rfl rfl) rfl rfl ?_
              refine WR.step (Ex.pickF rfl rfl) (Wn.none rfl) rfl rfl ?_
              refine WR.step (Ex.assign rfl) (Wn.none rfl) rfl rfl ?_
              refine WR.nil (WQ.any ?_)
              refine WA.done (by kernel_rfl) ?_
              exact WQ.meetN [(2, _), (5, _), (7, _), (9, _), (10, _), (11, _), (12, _), (13, _), (14, _), (15, _)] ⟨rfl, rfl, rfl, rfl, rfl, rfl, rfl, rfl, rfl, rfl, trivial⟩ ⟨_, _, rfl, H, hg_errR, hg_errS, hg_maxl, hg_pow10, hs65, hs78, e35⟩
           ·
            refine WR.idxC Tryd.underlying33 Tryd.sizeOf3 (hs78) rfl rfl hxa38 (Wn.none rfl) rfl ?_
            intro p89 hc89
            refine WR.nil (WQ.any ?_)
            refine WA.two (i := 3) (j := 7) (by kernel_rfl) rfl rfl ?_ ?_
            ·
             refine WR.step (Ex.loadM H rfl hc85 Tryd.isAgg3) (Wn.none rfl) rfl rfl ?_
             refine WR.nil (WQ.any ?_)
             refine WA.seq (fuel := 14) [7, 8, 9] rfl (by kernel_rfl) ?_
             refine WR.step (Ex.loadM H rfl hc89 Tryd.isAgg3) (Wn.none rfl) rfl rfl ?_
             refine WR.stepE (v' := .bool false) (Ex.lss rfl rfl) (congrArg Value.bool (decide_eq_false hk39)) (Wn.none rfl) rfl rfl ?_
             refine WR.step (Ex.move rfl) (Wn.none rfl) rfl rfl ?_
             refine WR.nil (WQ.any ?_)
             refine WA.take (i := 10) rfl (by kernel_rfl) (by kernel_rfl) (by kernel_rfl) (fun _ => Ex.move rfl) (Wn.some rfl rfl rfl) rfl rfl (fun _ _ => rfl) ?_
             refine WA.take (i := 11) rfl (by kernel_rfl) (by kernel_rfl) (by kernel_rfl) (fun _ => Ex.move rfl) (Wn.some rfl rfl rfl) rfl rfl (fun _ _ => rfl) ?_
             refine WA.take (i := 14) rfl (by kernel_rfl) (by kernel_rfl) (by kernel_rfl) (fun _ => Ex.move rfl) (Wn.some rfl rfl rfl) rfl rfl (fun _ _ => rfl) ?_
             refine WA.take (i := 15) rfl (by kernel_rfl) (by kernel_rfl) (by kernel_rfl) (fun _ => Ex.move rfl) (Wn.some rfl rfl rfl) rfl rfl (fun _ _ => rfl) ?_
             refine WA.two (i := 12) (j := 16) (by kernel_rfl) rfl rfl ?_ ?_
             ·
              refine WR.idxC Tryd.underlying33 Tryd.sizeOf3 (hs65) rfl rfl hxa40 (Wn.some rfl rfl rfl) rfl ?_
              intro p95 hc95
              refine WR.nil (WQ.any ?_)
              refine WA.two (i := 13) (j := 16) (by kernel_rfl) rfl rfl ?_ ?_
              ·
               refine WR.step (Ex.loadM H rfl hc95 Tryd.isAgg3) (Wn.some rfl rfl rfl) rfl rfl ?_
               refine WR.nil (WQ.any ?_)
               refine WA.seq (fuel := 0) [16, 17, 18, 19, 20, 21, 22, 23] rfl (by kernel_rfl) ?_
               refine WR.idxC Tryd.underlying33 Tryd.sizeOf3 (hs78) rfl rfl hxa41 (Wn.some rfl rfl rfl) rfl ?_
               intro p99 hc99
               refine WR.step (Ex.loadM H rfl hc99 Tryd.isAgg3) (Wn.some rfl rfl rfl) rfl rfl ?_
               refine WR.stepE (v' := .bool false) (Ex.eql rfl rfl) (congrArg Value.bool (decide_eq_false hk42)) (Wn.some rfl rfl rfl) rfl rfl ?_
               refine WR.step (Ex.move rfl) (Wn.some rfl rfl rfl) rfl rfl ?_
               refine WR.skipG (b := false) rfl rfl rfl rfl rfl ?_
               refine WR.step (Ex.pickF rfl rfl) (Wn.some rfl rfl rfl) rfl rfl ?_
               refine WR.step (Ex.pickF rfl rfl) (Wn.none rfl) rfl rfl ?_
               refine WR.step (Ex.assign rfl) (Wn.none rfl) rfl rfl ?_
               refine WR.nil (WQ.any ?_)
               refine WA.done (by kernel_rfl) ?_
               exact WQ.meetN [(2, _), (5, _), (7, _), (9, _), (10, _), (11, _), (12, _), (13, _), (14, _), (15, _)] ⟨rfl, rfl, rfl, rfl, rfl, rfl, rfl, rfl, rfl, rfl, trivial⟩ ⟨_, _, rfl, H, hg_errR, hg_errS, hg_maxl, hg_pow10, hs65, hs78, e35⟩
              ·
               refine WR.idxC Tryd.underlying33 Tryd.sizeOf3 (hs78) rfl rfl hxa41 (Wn.some rfl rfl rfl) rfl ?_
               intro p99 hc99
               refine WR.nil (WQ.any ?_)
               refine WA.two (i := 13) (j := 17) (by kernel_rfl) rfl rfl ?_ ?_
               ·
                refine WR.step (Ex.loadM H rfl hc95 Tryd.isAgg3) (Wn.some rfl rfl rfl) rfl rfl ?_
                refine WR.nil (WQ.any ?_)
                refine WA.seq (fuel := 0) [17, 18, 19, 20, 21, 22, 23] rfl (by kernel_rfl) ?_
                refine WR.step (Ex.loadM H rfl hc99 Tryd.isAgg3) (Wn.some rfl rfl rfl) rfl rfl ?_
                refine WR.stepE (v' := .bool false) (Ex.eql rfl rfl) (congrArg Value.bool (decide_eq_false hk42)) (Wn.some rfl rfl rfl) rfl rfl ?_
                refine WR.step (Ex.move rfl) (Wn.some rfl rfl rfl) rfl rfl ?_
                refine WR.skipG (b := false) rfl rfl rfl rfl rfl ?_
                refine WR.step (Ex.pickF rfl rfl) (Wn.some rfl rfl rfl) rfl rfl ?_
                refine WR.step (Ex.pickF rfl rfl) (Wn.none rfl) rfl rfl ?_
                refine WR.step (Ex.assign rfl) (Wn.none rfl) rfl rfl ?_
                refine WR.nil (WQ.any ?_)
                refine WA.done (by kernel_rfl) ?_
                exact WQ.meetN [(2, _), (5, _), (7, _), (9, _), (10, _), (11, _), (12, _), (13, _), (14, _), (15, _)] ⟨rfl, rfl, rfl, rfl, rfl, rfl, rfl, rfl, rfl, rfl, trivial⟩ ⟨_, _, rfl, H, hg_errR, hg_errS, hg_maxl, hg_pow10, hs65, hs78, e35⟩
               ·
                refine WR.step (Ex.loadM H rfl hc99 Tryd.isAgg3) (Wn.some rfl rfl rfl) rfl rfl ?_
                refine WR.nil (WQ.any ?_)
                refine WA.seq (fuel := 0) [13, 18, 19, 20, 21, 22, 23] rfl (by kernel_rfl) ?_
                refine WR.step (Ex.loadM H rfl hc95 Tryd.isAgg3) (Wn.some rfl rfl rfl) rfl rfl ?_
                refine WR.stepE (v' := .bool false) (Ex.eql rfl rfl) (congrArg Value.bool (decide_eq_false hk42)) (Wn.some rfl rfl rfl) rfl rfl ?_
                refine WR.step (Ex.move rfl) (Wn.some rfl rfl rfl) rfl rfl ?_
                refine WR.skipG (b := false) rfl rfl rfl rfl rfl ?_
                refine WR.step (Ex.pickF rfl rfl) (Wn.some rfl rfl rfl) rfl rfl ?_
                refine WR.step (Ex.pickF rfl rfl) (Wn.none rfl) rfl rfl ?_
                refine WR.step (Ex.assign rfl) (Wn.none rfl) rfl rfl ?_
                refine WR.nil (WQ.any ?_)
                refine WA.done (by kernel_rfl) ?_
                exact WQ.meetN [(2, _), (5, _), (7, _), (9, _), (10, _), (11, _), (12, _), (13, _), (14, _), (15, _)] ⟨rfl, rfl, rfl, rfl, rfl, rfl, rfl, rfl, rfl, rfl, trivial⟩ ⟨_, _, rfl, H, hg_errR, hg_errS, hg_maxl, hg_pow10, hs65, hs78, e35⟩
             ·
              refine WR.idxC Tryd.underlying33 Tryd.sizeOf3 (hs78) rfl rfl hxa41 (Wn.some rfl rfl rfl) rfl ?_
              intro p99 hc99
              refine WR.nil (WQ.any ?_)
              refine WA.two (i := 12) (j := 17) (by kernel_rfl) rfl rfl ?_ ?_
              ·
               refine WR.idxC Tryd.underlying33 Tryd.sizeOf3 (hs65) rfl rfl hxa40 (Wn.some rfl rfl rfl) rfl ?_
               intro p95 hc95
               refine WR.nil (WQ.any ?_)
               refine WA.two (i := 13) (j := 17) (by kernel_rfl) rfl rfl ?_ ?_
               ·
                refine WR.step (Ex.loadM H rfl hc95 Tryd.isAgg3) (Wn.some rfl rfl rfl) rfl rfl ?_
                refine WR.nil (WQ.any ?_)
                refine WA.seq (fuel := 0) [17, 18, 19, 20, 21, 22, 23] rfl (by kernel_rfl) ?_
                refine WR.step (Ex.loadM H rfl hc99 Tryd.isAgg3) (Wn.some rfl rfl rfl) rfl rfl ?_
                refine WR.stepE (v' := .bool false) (Ex.eql rfl rfl) (congrArg Value.bool (decide_eq_false hk42)) (Wn.some rfl rfl rfl) rfl rfl ?_
                refine WR.step (Ex.move rfl) (Wn.some rfl rfl rfl) rfl rfl ?_
                refine WR.skipG (b := false) rfl rfl rfl rfl rfl ?_
                refine WR.step (Ex.pickF rfl rfl) (Wn.some rfl rfl rfl) rfl rfl ?_
                refine WR.step (Ex.pickF rfl rfl) (Wn.none rfl) rfl rfl ?_
                refine WR.step (Ex.assign rfl) (Wn.none rfl) rfl rfl ?_
                refine WR.nil (WQ.any ?_)
                refine WA.done (by kernel_rfl) ?_
                exact WQ.meetN [(2, _), (5, _), (7, _), (9, _), (10, _), (11, _), (12, _), (13, _), (14, _), (15, _)] ⟨rfl, rfl, rfl, rfl, rfl, rfl, rfl, rfl, rfl, rfl, trivial⟩ ⟨_, _, rfl, H, hg_errR, hg_errS, hg_maxl, hg_pow10, hs65, hs78, e35⟩
               ·
                refine WR.step (Ex.loadM H rfl hc99 Tryd.isAgg3) (Wn.some rfl rfl rfl) rfl rfl ?_
                refine WR.nil (WQ.any ?_)
                refine WA.seq (fuel := 0) [13, 18, 19, 20, 21, 22, 23] rfl (by kernel_rfl) ?_
                refine WR.step (Ex.loadM H rfl hc95 Tryd.isAgg3) (Wn.some rfl rfl rfl) rfl rfl ?_
                refine WR.stepE (v' := .bool false) (Ex.eql rfl rfl) (congrArg Value.bool (decide_eq_false hk42)) (Wn.some rfl rfl rfl) rfl rfl ?_
                refine WR.step (Ex.move rfl) (Wn.some rfl rfl rfl) rfl rfl ?_
                refine WR.skipG (b := false) rfl rfl rfl rfl rfl ?_
                refine WR.step (Ex.pickF rfl rfl) (Wn.some rfl rfl rfl) rfl rfl ?_
                refine WR.step (Ex.pickF rfl rfl) (Wn.none rfl) rfl rfl ?_
                refine WR.step (Ex.assign rfl) (Wn.none rfl) rfl rfl ?_
                refine WR.nil (WQ.any ?_)
                refine WA.done (by kernel_rfl) ?_
                exact WQ.meetN [(2, _), (5, _), (7, _), (9, _), (10, _), (11, _), (12, _), (13, _), (14, _), (15, _)] ⟨rfl, rfl, rfl, rfl, rfl, rfl, rfl, rfl, rfl, rfl, trivial⟩ ⟨_, _, rfl, H, hg_errR, hg_errS, hg_maxl, hg_pow10, hs65, hs78, e35⟩
              ·
               refine WR.step (Ex.loadM H rfl hc99 Tryd.isAgg3) (Wn.some rfl rfl rfl) rfl rfl ?_
               refine WR.nil (WQ.any ?_)
               refine WA.seq (fuel := 0) [12, 13, 18, 19, 20, 21, 22, 23] rfl (by kernel_rfl) ?_
               refine WR.idxC Tryd.underlying33 Tryd.sizeOf3 (hs65) rfl rfl hxa40 (Wn.some rfl rfl rfl) rfl ?_
               intro p95 hc95
               refine WR.step (Ex.loadM H rfl hc95 Tryd.isAgg3) (Wn.some rfl rfl rfl) rfl rfl ?_
               refine WR.stepE (v' := .bool false) (Ex.eql rfl rfl) (congrArg Value.bool (decide_eq_false hk42)) (Wn.some rfl rfl rfl) rfl rfl ?_
               refine WR.step (Ex.move rfl) (Wn.some rfl rfl rfl) rfl rfl ?_
               refine WR.skipG (b := false) rfl rfl rfl rfl rfl ?_
               refine WR.step (Ex.pickF rfl rfl) (Wn.some rfl rfl rfl) rfl rfl ?_
               refine WR.step (Ex.pickF rfl rfl) (Wn.none rfl) rfl rfl ?_
               refine WR.step (Ex.assign rfl) (Wn.none rfl) rfl rfl ?_
               refine WR.nil (WQ.any ?_)
               refine WA.done (by kernel_rfl) ?_
               exact WQ.meetN [(2, _), (5, _), (7, _), (9, _), (10, _), (11, _), (12, _), (13, _), (14, _), (15, _)] ⟨rfl, rfl, rfl, rfl, rfl, rfl, rfl, rfl, rfl, rfl, trivial⟩ ⟨_, _, rfl, H, hg_errR, hg_errS, hg_maxl, hg_pow10, hs65, hs78, e35⟩
            ·
             refine WR.step (Ex.loadM H rfl hc89 Tryd.isAgg3) (Wn.none rfl) rfl rfl ?_
             refine WR.nil (WQ.any ?_)
             refine WA.seq (fuel := 14) [3, 8, 9] rfl (by kernel_rfl) ?_
             refine WR.step (Ex.loadM H rfl hc85 Tryd.isAgg3) (Wn.none rfl) rfl rfl ?_
             refine WR.stepE (v' := .bool false) (Ex.lss rfl rfl) (congrArg Value.bool (decide_eq_false hk39)) (Wn.none rfl) rfl rfl ?_
             refine WR.step (Ex.move rfl) (Wn.none rfl) rfl rfl ?_
             refine WR.nil (WQ.any ?_)
             refine WA.take (i := 10) rfl (by kernel_rfl) (by kernel_rfl) (by kernel_rfl) (fun _ => Ex.move rfl) (Wn.some rfl rfl rfl) rfl rfl (fun _ _ => rfl) ?_
             refine WA.take (i := 11) rfl (by kernel_rfl) (by kernel_rfl) (by kernel_rfl) (fun _ => Ex.move rfl) (Wn.some rfl rfl rfl) rfl rfl (fun _ _ => rfl) ?_
             refine WA.take (i := 14) rfl (by kernel_rfl) (by kernel_rfl) (by kernel_rfl) (fun _ => Ex.move rfl) (Wn.some rfl rfl rfl) rfl rfl (fun _ _ => rfl) ?_
             refine WA.take (i := 15) rfl (by kernel_rfl) (by kernel_rfl) (by kernel_rfl) (fun _ => Ex.move rfl) (Wn.some rfl rfl rfl) rfl rfl (fun _ _ => rfl) ?_
             refine WA.two (i := 12) (j := 16) (by kernel_rfl) rfl rfl ?_ ?_
             ·
              refine WR.idxC Tryd.underlying33 Tryd.sizeOf3 (hs65) rfl rfl hxa40 (Wn.some rfl rfl rfl) rfl ?_
              intro p95 hc95
              refine WR.nil (WQ.any ?_)
              refine WA.two (i := 13) (j := 16) (by kernel_rfl) rfl rfl ?_ ?_
              ·
               refine WR.step (Ex.loadM H rfl hc95 Tryd.isAgg3) (Wn.some rfl rfl rfl) rfl rfl ?_
               refine WR.nil (WQ.any ?_)
               refine WA.seq (fuel := 0) [16, 17, 18, 19, 20, 21, 22, 23] rfl (by kernel_rfl) ?_
               refine WR.idxC Tryd.underlying33 Tryd.sizeOf3 (hs78) rfl rfl hxa41 (Wn.some rfl rfl rfl) rfl ?_
               intro p99 hc99
               refine WR.step (Ex.loadM H rfl hc99 Tryd.isAgg3) (Wn.some rfl rfl rfl) rfl rfl ?_
               refine WR.stepE (v' := .bool false) (Ex.eql rfl rfl) (congrArg Value.bool (decide_eq_false hk42)) (Wn.some rfl rfl rfl) rfl rfl ?_
               refine WR.step (Ex.move rfl) (Wn.some rfl rfl rfl) rfl rfl ?_
               refine WR.skipG (b := false) rfl rfl rfl rfl rfl ?_
               refine WR.step (Ex.pickF rfl rfl) (Wn.some rfl rfl rfl) rfl rfl ?_
               refine WR.step (Ex.pickF rfl rfl) (Wn.none rfl) rfl rfl ?_
               refine WR.step (Ex.assign rfl) (Wn.none rfl) rfl rfl ?_
               refine WR.nil (WQ.any ?_)
               refine WA.done (by kernel_rfl) ?_
               exact WQ.meetN [(2, _), (5, _), (7, _), (9, _), (10, _), (11, _), (12, _), (13, _), (14, _), (15, _)] ⟨rfl, rfl, rfl, rfl, rfl, rfl, rfl, rfl, rfl, rfl, trivial⟩ ⟨_, _, rfl, H, hg_errR, hg_errS, hg_maxl, hg_pow10, hs65, hs78, e35⟩
              ·
               refine WR.idxC Tryd.underlying33 Tryd.sizeOf3 (hs78) rfl rfl hxa41 (Wn.some rfl rfl rfl) rfl ?_
               intro p99 hc99
               refine WR.nil (WQ.any ?_)
               refine WA.two (i := 13) (j := 17) (by kernel_rfl) rfl rfl ?_ ?_
               ·
                refine WR.step (Ex.loadM H rfl hc95 Tryd.isAgg3) (Wn.some rfl rfl rfl) rfl rfl ?_
                refine WR.nil (WQ.any ?_)
                refine WA.seq (fuel := 0) [17, 18, 19, 20, 21, 22, 23] rfl (by kernel_rfl) ?_
                refine WR.step (Ex.loadM H rfl hc99 Tryd.isAgg3) (Wn.some rfl rfl rfl) rfl rfl ?_
                refine WR.stepE (v' := .bool false) (Ex.eql rfl rfl) (congrArg Value.bool (decide_eq_false hk42)) (Wn.some rfl rfl rfl) rfl rfl ?_
                refine WR.step (Ex.move rfl) (Wn.some rfl rfl rfl) rfl rfl ?_
                refine WR.skipG (b := false) rfl rfl rfl rfl rfl ?_
                refine WR.step (Ex.pickF rfl rfl) (Wn.some rfl rfl rfl) rfl rfl ?_
                refine WR.step (Ex.pickF rfl rfl) (Wn.none rfl) rfl rfl ?_
                refine WR.step (Ex.assign rfl) (Wn.none rfl) rfl rfl ?_
                refine WR.nil (WQ.any ?_)
                refine WA.done (by kernel_rfl) ?_
                exact WQ.meetN [(2, _), (5, _), (7, _), (9, _), (10, _), (11, _), (12, _), (13, _), (14, _), (15, _)] ⟨rfl, rfl, rfl, rfl, rfl, rfl, rfl, rfl, rfl, rfl, trivial⟩ ⟨_, _, rfl, H, hg_errR, hg_errS, hg_maxl, hg_pow10, hs65, hs78, e35⟩
               ·
                refine WR.step (Ex.loadM H rfl hc99 Tryd.isAgg3) (Wn.some rfl rfl rfl) rfl rfl ?_
                refine WR.nil (WQ.any ?_)
                refine WA.seq (fuel := 0) [13, 18, 19, 20, 21, 22, 23] rfl (by kernel_rfl) ?_
                refine WR.step (Ex.loadM H rfl hc95 Tryd.isAgg3) (Wn.some rfl rfl rfl) rfl rfl ?_
                refine WR.stepE (v' := .bool false) (Ex.eql rfl rfl) (congrArg Value.bool (decide_eq_false hk42)) (Wn.some rfl rfl rfl) rfl rfl ?_
                refine WR.step (Ex.move rfl) (Wn.some rfl rfl rfl) rfl rfl ?_
                refine WR.skipG (b := false) rfl rfl rfl rfl rfl ?_
                refine WR.step (Ex.pickF rfl rfl) (Wn.some rfl rfl rfl) rfl rfl ?_
                refine WR.step (Ex.pickF rfl rfl) (Wn.none rfl) rfl rfl ?_
                refine WR.step (Ex.assign rfl) (Wn.none rfl) rfl rfl ?_
                refine WR.nil (WQ.any ?_)
                refine WA.done (by kernel_rfl) ?_
                exact WQ.meetN [(2, _), (5, _), (7, _), (9, _), (10, _), (11, _), (12, _), (13, _), (14, _), (15, _)] ⟨rfl, rfl, rfl, rfl, rfl, rfl, rfl, rfl, rfl, rfl, trivial⟩ ⟨_, _, rfl, H, hg_errR, hg_errS, hg_maxl, hg_pow10, hs65, hs78, e35⟩
             ·
              refine WR.idxC Tryd.underlying33 Tryd.sizeOf3 (hs78) rfl rfl hxa41 (Wn.some rfl rfl rfl) rfl ?_
              intro p99 hc99
              refine WR.nil (WQ.any ?_)
              refine WA.two (i := 12) (j := 17) (by kernel_rfl) rfl rfl ?_ ?_
              ·
               refine WR.idxC Tryd.underlying33 Tryd.sizeOf3 (hs65) rfl rfl hxa40 (Wn.some rfl rfl rfl) rfl ?_
               intro p95 hc95
               refine WR.nil (WQ.any ?_)
               refine WA.two (i := 13) (j := 17) (by kernel_rfl) rfl rfl ?_ ?_
               ·
                refine WR.step (Ex.loadM H rfl hc95 Tryd.isAgg3) (Wn.some rfl rfl rfl) rfl rfl ?_
                refine WR.nil (WQ.any ?_)
                refine WA.seq (fuel := 0) [17, 18, 19, 20, 21, 22, 23] rfl (by kernel_rfl) ?_
                refine WR.step (Ex.loadM H rfl hc99 Tryd.isAgg3) (Wn.some rfl rfl rfl) rfl rfl ?_
                refine WR.stepE (v' := .bool false) (Ex.eql rfl rfl) (congrArg Value.bool (decide_eq_false hk42)) (Wn.some rfl rfl rfl) rfl rfl ?_
                refine WR.step (Ex.move rfl) (Wn.some rfl rfl rfl) rfl rfl ?_
                refine WR.skipG (b := false) rfl rfl rfl rfl rfl ?_
                refine WR.step (Ex.pickF rfl rfl) (Wn.some rfl rfl rfl) rfl rfl ?_
                refine WR.step (Ex.pickF rfl rfl) (Wn.none rfl) rfl rfl ?_
                refine WR.step (Ex.assign rfl) (Wn.none rfl) rfl rfl ?_
                refine WR.nil (WQ.any ?_)
                refine WA.done (by kernel_rfl) ?_
                exact WQ.meetN [(2, _), (5, _), (7, _), (9, _), (10, _), (11, _), (12, _), (13, _), (14, _), (15, _)] ⟨rfl, rfl, rfl, rfl, rfl, rfl, rfl, rfl, rfl, rfl, trivial⟩ ⟨_, _, rfl, H, hg_errR, hg_errS, hg_maxl, hg_pow10, hs65, hs78, e35⟩
               ·
                refine WR.step (Ex.loadM H rfl hc99 Tryd.isAgg3) (Wn.some rfl rfl rfl) rfl rfl ?_
                refine WR.nil (WQ.any ?_)
                refine WA.seq (fuel := 0) [13, 18, 19, 20, 21, 22, 23] rfl (by kernel_rfl) ?_
                refine WR.step (Ex.loadM H rfl hc95 Tryd.isAgg3) (Wn.some rfl rfl rfl) rfl rfl ?_
                refine WR.stepE (v' := .bool false) (Ex.eql rfl rfl) (congrArg Value.bool (decide_eq_false hk42)) (Wn.some rfl rfl rfl) rfl rfl ?_
                refine WR.step (Ex.move rfl) (Wn.some rfl rfl rfl) rfl rfl ?_
                refine WR.skipG (b := false) rfl rfl rfl rfl rfl ?_
                refine WR.step (Ex.pickF rfl rfl) (Wn.some rfl rfl rfl) rfl rfl ?_
                refine WR.step (Ex.pickF rfl rfl) (Wn.none rfl) rfl rfl ?_
                refine WR.step (Ex.assign rfl) (Wn.none rfl) rfl rfl ?_
                refine WR.nil (WQ.any ?_)
                refine WA.done (by kernel_rfl) ?_
                exact WQ.meetN [(2, _), (5, _), (7, _), (9, _), (10, _), (11, _), (12, _), (13, _), (14, _), (15, _)] ⟨rfl, rfl, rfl, rfl, rfl, rfl, rfl, rfl, rfl, rfl, trivial⟩ ⟨_, _, rfl, H, hg_errR, hg_errS, hg_maxl, hg_pow10, hs65, hs78, e35⟩
              ·
               refine WR.step (Ex.loadM H rfl hc99 Tryd.isAgg3) (Wn.some rfl rfl rfl) rfl rfl ?_
               refine WR.nil (WQ.any ?_)
               refine WA.seq (fuel := 0) [12, 13, 18, 19, 20, 21, 22, 23] rfl (by kernel_rfl) ?_
               refine WR.idxC Tryd.underlying33 Tryd.sizeOf3 (hs65) rfl rfl hxa40 (Wn.some rfl rfl rfl) rfl ?_
               intro p95 hc95
               refine WR.step (Ex.loadM H rfl hc95 Tryd.isAgg3) (Wn.some rfl rfl rfl) rfl rfl ?_
               refine WR.stepE (v' := .bool false) (Ex.eql rfl rfl) (congrArg Value.bool (decide_eq_false hk42)) (Wn.some rfl rfl rfl) rfl rfl ?_
               refine WR.step (Ex.move rfl) (Wn.some rfl rfl rfl) rfl rfl ?_
               refine WR.skipG (b := false) rfl rfl rfl rfl rfl ?_
               refine WR.step (Ex.pickF rfl rfl) (Wn.some rfl rfl rfl) rfl rfl ?_
               refine WR.step (Ex.pickF rfl rfl) (Wn.none rfl) rfl rfl ?_
               refine WR.step (Ex.assign rfl) (Wn.none rfl) rfl rfl ?_
               refine WR.nil (WQ.any ?_)
               refine WA.done (by kernel_rfl) ?_
               exact WQ.meetN [(2, _), (5, _), (7, _), (9, _), (10, _), (11, _), (12, _), (13, _), (14, _), (15, _)] ⟨rfl, rfl, rfl, rfl, rfl, rfl, rfl, rfl, rfl, rfl, trivial⟩ ⟨_, _, rfl, H, hg_errR, hg_errS, hg_maxl, hg_pow10, hs65, hs78, e35⟩
          ·
           refine WR.idxC Tryd.underlying33 Tryd.sizeOf3 (hs78) rfl rfl hxa38 (Wn.none rfl) rfl ?_
           intro p89 hc89
           refine WR.nil (WQ.any ?_)
           refine WA.two (i := 2) (j := 7) (by kernel_rfl) rfl rfl ?_ ?_
           ·
            refine WR.idxC Tryd.underlying33 Tryd.sizeOf3 (hs65) rfl rfl hxa37 (Wn.none rfl) rfl ?_
            intro p85 hc85
            refine WR.nil (WQ.any ?_)
            refine WA.two (i := 3) (j := 7) (by kernel_rfl) rfl rfl ?_ ?_
            ·
             refine WR.step (Ex.loadM H rfl hc85 Tryd.isAgg3) (Wn.none rfl) rfl rfl ?_
             refine WR.nil (WQ.any ?_)
             refine WA.seq (fuel := 14) [7, 8, 9] rfl (by kernel_rfl) ?_
             refine WR.step (Ex.loadM H rfl hc89 Tryd.isAgg3) (Wn.none rfl) rfl rfl ?_
             refine WR.stepE (v' := .bool false) (Ex.lss rfl rfl) (congrArg Value.bool (decide_eq_false hk39)) (Wn.none rfl) rfl rfl ?_
             refine WR.step (Ex.move rfl) (Wn.none rfl) rfl rfl ?_
             refine WR.nil (WQ.any ?_)
             refine WA.take (i := 10) rfl (by kernel_rfl) (by kernel_rfl) (by kernel_rfl) (fun _ => Ex.move rfl) (Wn.some rfl rfl rfl) rfl rfl (fun _ _ => rfl) ?_
             refine WA.take (i := 11) rfl (by kernel_rfl) (by kernel_rfl) (by kernel_rfl) (fun _ => Ex.move rfl) (Wn.some rfl rfl rfl) rfl rfl (fun _ _ => rfl) ?_
             refine WA.take (i := 14) rfl (by kernel_rfl) (by kernel_rfl) (by kernel_rfl) (fun _ => Ex.move rfl) (Wn.some rfl rfl rfl) rfl rfl (fun _ _ => rfl) ?_
             refine WA.take (i := 15) rfl (by kernel_rfl) (by kernel_rfl) (by kernel_rfl) (fun _ => Ex.move rfl) (Wn.some rfl rfl rfl) rfl rfl (fun _ _ => rfl) ?_
             refine WA.two (i := 12) (j := 16) (by kernel_rfl) rfl rfl ?_ ?_
             ·
              refine WR.idxC Tryd.underlying33 Tryd.sizeOf3 (hs65) rfl rfl hxa40 (Wn.some rfl rfl rfl) rfl ?_
              intro p95 hc95
              refine WR.nil (WQ.any ?_)
              refine WA.two (i := 13) (j := 16) (by kernel_rfl) rfl rfl ?_ ?_
              ·
               refine WR.step (Ex.loadM H rfl hc95 Tryd.isAgg3) (Wn.some rfl rfl rfl) rfl rfl ?_
               refine WR.nil (WQ.any ?_)
               refine WA.seq (fuel := 0) [16, 17, 18, 19, 20, 21, 22, 23] rfl (by kernel_rfl) ?_
               refine WR.idxC Tryd.underlying33 Tryd.sizeOf3 (hs78) rfl rfl hxa41 (Wn.some rfl rfl rfl) rfl ?_
               intro p99 hc99
               refine WR.step (Ex.loadM H rfl hc99 Tryd.isAgg3) (Wn.some rfl rfl rfl) rfl rfl ?_
               refine WR.stepE (v' := .bool false) (Ex.eql rfl rfl) (congrArg Value.bool (decide_eq_false hk42)) (Wn.some rfl rfl rfl) rfl rfl ?_
               refine WR.step (Ex.move rfl) (Wn.some rfl rfl rfl) rfl rfl ?_
               refine WR.skipG (b := false) rfl rfl rfl rfl rfl ?_
               refine WR.step (Ex.pickF rfl rfl) (Wn.some rfl rfl rfl) rfl rfl ?_
               refine WR.step (Ex.pickF rfl rfl) (Wn.none rfl) rfl rfl ?_
               refine WR.step (Ex.assign rfl) (Wn.none rfl) rfl rfl ?_
               refine WR.nil (WQ.any ?_)
               refine WA.done (by kernel_rfl) ?_
               exact WQ.meetN [(2, _), (5, _), (7, _), (9, _), (10, _), (11, _), (12, _), (13, _), (14, _), (15, _)] ⟨rfl, rfl, rfl, rfl, rfl, rfl, rfl, rfl, rfl, rfl, trivial⟩ ⟨_, _, rfl, H, hg_errR, hg_errS, hg_maxl, hg_pow10, hs65, hs78, e35⟩
              ·
               refine WR.idxC Tryd.underlying33 Tryd.sizeOf3 (hs78) rfl rfl hxa41 (Wn.some rfl rfl rfl) rfl ?_
               intro p99 hc99
               refine WR.nil (WQ.any ?_)
               refine WA.two (i := 13) (j := 17) (by kernel_rfl) rfl rfl ?_ ?_
               ·
                refine WR.step (Ex.loadM H rfl hc95 Tryd.isAgg3) (Wn.some rfl rfl rfl) rfl rfl ?_
                refine WR.nil (WQ.any ?_)
                refine WA.seq (fuel := 0) [17, 18, 19, 20, 21, 22, 23] rfl (by kernel_rfl) ?_
                refine WR.step (Ex.loadM H rfl hc99 Tryd.isAgg3) (Wn.some rfl rfl rfl) rfl rfl ?_
                refine WR.stepE (v' := .bool false) (Ex.eql rfl rfl) (congrArg Value.bool (decide_eq_false hk42)) (Wn.some rfl rfl rfl) rfl rfl ?_
                refine WR.step (Ex.move rfl) (Wn.some rfl rfl rfl) rfl rfl ?_
                refine WR.skipG (b := false) rfl rfl rfl rfl rfl ?_
                refine WR.step (Ex.pickF rfl rfl) (Wn.some rfl rfl rfl) rfl rfl ?_
                refine WR.step (Ex.pickF rfl rfl) (Wn.none rfl) rfl rfl ?_
                refine WR.step (Ex.assign rfl) (Wn.none rfl) rfl rfl ?_
                refine WR.nil (WQ.any ?_)
                refine WA.done (by kernel_rfl) ?_
                exact WQ.meetN [(2, _), (5, _), (7, _), (9, _), (10, _), (11, _), (12, _), (13, _), (14, _), (15, _)] ⟨rfl, rfl, rfl, rfl, rfl, rfl, rfl, rfl, rfl, rfl, trivial⟩ ⟨_, _, rfl, H, hg_errR, hg_errS, hg_maxl, hg_pow10, hs65, hs78, e35⟩
               ·
                refine WR.step (Ex.loadM H rfl hc99 Tryd.isAgg3) (Wn.some rfl rfl rfl) rfl rfl ?_
                refine WR.nil (WQ.any ?_)
                refine WA.seq (fuel := 0) [13, 18, 19, 20, 21, 22, 23] rfl (by kernel_rfl) ?_
                refine WR.step (Ex.loadM H rfl hc95 Tryd.isAgg3) (Wn.some rfl rfl rfl) rfl rfl ?_
                refine WR.stepE (v' := .bool false) (Ex.eql rfl rfl) (congrArg Value.bool (decide_eq_false hk42)) (Wn.some rfl rfl rfl) rfl rfl ?_
                refine WR.step (Ex.move rfl) (Wn.some rfl rfl rfl) rfl rfl ?_
                refine WR.skipG (b := false) rfl rfl rfl rfl rfl ?_
                refine WR.step (Ex.pickF rfl rfl) (Wn.some rfl rfl rfl) rfl rfl ?_
                refine WR.step (Ex.pickF rfl rfl) (Wn.none rfl) rfl rfl ?_
                refine WR.step (Ex.assign rfl) (Wn.none rfl) rfl rfl ?_
                refine WR.nil (WQ.any ?_)
                refine WA.done (by kernel_rfl) ?_
                exact WQ.meetN [(2, _), (5, _), (7, _), (9, _), (10, _), (11, _), (12, _), (13, _), (14, _), (15, _)] ⟨rfl, rfl, rfl, rfl, rfl, rfl, rfl, rfl, rfl, rfl, trivial⟩ ⟨_, _, rfl, H, hg_errR, hg_errS, hg_maxl, hg_pow10, hs65, hs78, e35⟩
             ·
              refine WR.idxC Tryd.underlying33 Tryd.sizeOf3 (hs78) rfl rfl hxa41 (Wn.some rfl rfl rfl) rfl ?_
              intro p99 hc99
              refine WR.nil (WQ.any ?_)
              refine WA.two (i := 12) (j := 17) (by kernel_rfl) rfl rfl ?_ ?_
              ·
               refine WR.idxC Tryd.underlying33 Tryd.sizeOf3 (hs65) rfl rfl hxa40 (Wn.some rfl rfl rfl) rfl ?_
               intro p95 hc95
               refine WR.nil (WQ.any ?_)
               refine WA.two (i := 13) (j := 17) (by kernel_rfl) rfl rfl ?_ ?_
               ·
                refine WR.step (Ex.loadM H rfl hc95 Tryd.isAgg3) (Wn.some rfl rfl rfl) rfl rfl ?_
                refine WR.nil (WQ.any ?_)
                refine WA.seq (fuel := 0) [17, 18, 19, 20, 21, 22, 23] rfl (by kernel_rfl) ?_
                refine WR.step (Ex.loadM H rfl hc99 Tryd.isAgg3) (Wn.some rfl rfl rfl) rfl rfl ?_
                refine WR.stepE (v' := .bool false) (Ex.eql rfl rfl) (congrArg Value.bool (decide_eq_false hk42)) (Wn.some rfl rfl rfl) rfl rfl ?_
                refine WR.step (Ex.move rfl) (Wn.some rfl rfl rfl) rfl rfl ?_
                refine WR.skipG (b := false) rfl rfl rfl rfl rfl ?_
                refine WR.step (Ex.pickF rfl rfl) (Wn.some rfl rfl rfl) rfl rfl ?_
                refine WR.step (Ex.pickF rfl rfl) (Wn.none rfl) rfl rfl ?_
                refine WR.step (Ex.assign rfl) (Wn.none rfl) rfl rfl ?_
                refine WR.nil (WQ.any ?_)
                refine WA.done (by kernel_rfl) ?_
                exact WQ.meetN [(2, _), (5, _), (7, _), (9, _), (10, _), (11, _), (12, _), (13, _), (14, _), (15, _)] ⟨rfl, rfl, rfl, rfl, rfl, rfl, rfl, rfl, rfl, rfl, trivial⟩ ⟨_, _, rfl, H, hg_errR, hg_errS, hg_maxl, hg_pow10, hs65, hs78, e35⟩
               ·
                refine WR.step (Ex.loadM H rfl hc99 Tryd.isAgg3) (Wn.some rfl rfl rfl) rfl rfl ?_
                refine WR.nil (WQ.any ?_)
                refine WA.seq (fuel := 0) [13, 18, 19, 20, 21, 22, 23] rfl (by kernel_rfl) ?_
                refine WR.step (Ex.loadM H rfl hc95 Tryd.isAgg3) (Wn.some rfl rfl rfl) rfl rfl ?_
                refine WR.stepE (v' := .bool false) (Ex.eql rfl rfl) (congrArg Value.bool (decide_eq_false hk42)) (Wn.some rfl rfl rfl) rfl rfl ?_
                refine WR.step (Ex.move rfl) (Wn.some rfl rfl rfl) rfl rfl ?_
                refine WR.skipG (b := false) rfl rfl rfl rfl rfl ?_
                refine WR.step (Ex.pickF rfl rfl) (Wn.some rfl rfl rfl) rfl rfl ?_
                refine WR.step (Ex.pickF rfl rfl) (Wn.none rfl) rfl rfl ?_
                refine WR.step (Ex.assign rfl) (Wn.none rfl) rfl rfl ?_
                refine WR.nil (WQ.any ?_)
                refine WA.done (by kernel_rfl) ?_
                exact WQ.meetN [(2, _), (5, _), (7, _), (9, _), (10, _), (11, _), (12, _), (13, _), (14, _), (15, _)] ⟨rfl, rfl, rfl, rfl, rfl, rfl, rfl, rfl, rfl, rfl, trivial⟩ ⟨_, _, rfl, H, hg_errR, hg_errS, hg_maxl, hg_pow10, hs65, hs78, e35⟩
              ·
               refine WR.step (Ex.loadM H rfl hc99 Tryd.isAgg3) (Wn.some rfl rfl rfl) rfl rfl ?_
               refine WR.nil (WQ.any ?_)
               refine WA.seq (fuel := 0) [12, 13, 18, 19, 20, 21, 22, 23] rfl (by kernel_rfl) ?_
               refine WR.idxC Tryd.underlying33 Tryd.sizeOf3 (hs65) rfl rfl hxa40 (Wn.some rfl rfl rfl) rfl ?_
               intro p95 hc95
               refine WR.step (Ex.loadM H rfl hc95 Tryd.isAgg3) (Wn.some rfl rfl rfl) rfl rfl ?_
               refine WR.stepE (v' := .bool false) (Ex.eql rfl rfl) (congrArg Value.bool (decide_eq_false hk42)) (Wn.some rfl rfl rfl) rfl rfl ?_
               refine WR.step (Ex.move rfl) (Wn.some rfl rfl rfl) rfl rfl ?_
               refine WR.skipG (b := false) rfl rfl rfl rfl rfl ?_
               refine WR.step (Ex.pickF rfl rfl) (Wn.some rfl rfl rfl) rfl rfl ?_
               refine WR.step (Ex.pickF rfl rfl) (Wn.none rfl) rfl rfl ?_
               refine WR.step (Ex.assign rfl) (Wn.none rfl) rfl rfl ?_
               refine WR.nil (WQ.any ?_)
               refine WA.done (by kernel_rfl) ?_
               exact WQ.meetN [(2, _), (5, _), (7, _), (9, _), (10, _), (11, _), (12, _), (13, _), (14, _), (15, _)] ⟨rfl, rfl, rfl, rfl, rfl, rfl, rfl, rfl, rfl, rfl, trivial⟩ ⟨_, _, rfl, H, hg_errR, hg_errS, hg_maxl, hg_pow10, hs65, hs78, e35⟩
            ·
             refine WR.step (Ex.loadM H rfl hc89 Tryd.isAgg3) (Wn.none rfl) rfl rfl ?_
             refine WR.nil (WQ.any ?_)
             refine WA.seq (fuel := 14) [3, 8, 9] rfl (by kernel_rfl) ?_
             refine WR.step (Ex.loadM H rfl hc85 Tryd.isAgg3) (Wn.none rfl) rfl rfl ?_
             refine WR.stepE (v' := .bool false) (Ex.lss rfl rfl) (congrArg Value.bool (decide_eq_false hk39)) (Wn.none rfl) rfl rfl ?_
             refine WR.step (Ex.move rfl) (Wn.none rfl) rfl rfl ?_
             refine WR.nil (WQ.any ?_)
             refine WA.take (i := 10) rfl (by kernel_rfl) (by kernel_rfl) (by kernel_rfl) (fun _ => Ex.move rfl) (Wn.some rfl rfl rfl) rfl rfl (fun _ _ => rfl) ?_
             refine WA.take (i := 11) rfl (by kernel_rfl) (by kernel_rfl) (by kernel_rfl) (fun _ => Ex.move rfl) (Wn.some rfl rfl rfl) rfl rfl (fun _ _ => rfl) ?_
             refine WA.take (i := 14) rfl (by kernel_rfl) (by kernel_rfl) (by kernel_rfl) (fun _ => Ex.move rfl) (Wn.some rfl rfl rfl) rfl rfl (fun _ _ => rfl) ?_
             refine WA.take (i := 15) rfl (by kernel_rfl) (by kernel_rfl) (by kernel_rfl) (fun _ => Ex.move rfl) (Wn.some rfl rfl rfl) rfl rfl (fun _ _ => rfl) ?_
             refine WA.two (i := 12) (j := 16) (by kernel_rfl) rfl rfl ?_ ?_
             ·
              refine WR.idxC Tryd.underlying33 Tryd.sizeOf3 (hs65) rfl rfl hxa40 (Wn.some rfl rfl rfl) rfl ?_
              intro p95 hc95
              refine WR.nil (WQ.any ?_)
              refine WA.two (i := 13) (j := 16) (by kernel_rfl) rfl rfl ?_ ?_
              ·
               refine WR.step (Ex.loadM H rfl hc95 Tryd.isAgg3) (Wn.some rfl rfl rfl) rfl rfl ?_
               refine WR.nil (WQ.any ?_)
               refine WA.seq (fuel := 0) [16, 17, 18, 19, 20, 21, 22, 23] rfl (by kernel_rfl) ?_
               refine WR.idxC Tryd.underlying33 Tryd.sizeOf3 (hs78) rfl rfl hxa41 (Wn.some rfl rfl rfl) rfl ?_
               intro p99 hc99
               refine WR.step (Ex.loadM H rfl hc99 Tryd.isAgg3) (Wn.some rfl rfl rfl) rfl rfl ?_
               refine WR.stepE (v' := .bool false) (Ex.eql rfl rfl) (congrArg Value.bool (decide_eq_false hk42)) (Wn.some rfl rfl rfl) rfl rfl ?_
               refine WR.step (Ex.move rfl) (Wn.some rfl rfl rfl) rfl rfl ?_
               refine WR.skipG (b := false) rfl rfl rfl rfl rfl ?_
               refine WR.step (Ex.pickF rfl rfl) (Wn.some rfl rfl rfl) rfl rfl ?_
               refine WR.step (Ex.pickF rfl rfl) (Wn.none rfl) rfl rfl ?_
               refine WR.step (Ex.assign rfl) (Wn.none rfl) rfl rfl ?_
               refine WR.nil (WQ.any ?_)
               refine WA.done (by kernel_rfl) ?_
               exact WQ.meetN [(2, _), (5, _), (7, _), (9, _), (10, _), (11, _), (12, _), (13, _), (14, _), (15, _)] ⟨rfl, rfl, rfl, rfl, rfl, rfl, rfl, rfl, rfl, rfl, trivial⟩ ⟨_, _, rfl, H, hg_errR, hg_errS, hg_maxl, hg_pow10, hs65, hs78, e35⟩
              ·
               refine WR.idxC Tryd.underlying33 Tryd.sizeOf3 (hs78) rfl rfl hxa41 (Wn.some rfl rfl rfl) rfl ?_
               intro p99 hc99
               refine WR.nil (WQ.any ?_)
               refine WA.two (i := 13) (j := 17) (by kernel_rfl) rfl rfl ?_ ?_
               ·
                refine WR.step (Ex.loadM H rfl hc95 Tryd.isAgg3) (Wn.some rfl rfl rfl) rfl rfl ?_
                refine WR.nil (WQ.any ?_)
                refine WA.seq (fuel := 0) [17, 18, 19, 20, 21, 22, 23] rfl (by kernel_rfl) ?_
                refine WR.step (Ex.loadM H rfl hc99 Tryd.isAgg3) (Wn.some rfl rfl rfl) rfl rfl ?_
                refine WR.stepE (v' := .bool false) (Ex.eql rfl rfl) (congrArg Value.bool (decide_eq_false hk42)) (Wn.some rfl rfl rfl) rfl rfl ?_
                refine WR.step (Ex.move rfl) (Wn.some rfl rfl rfl) rfl rfl ?_
                refine WR.skipG (b := false) rfl rfl rfl rfl rfl ?_
                refine WR.step (Ex.pickF rfl rfl) (Wn.some rfl rfl rfl) rfl rfl ?_
                refine WR.step (Ex.pickF rfl rfl) (Wn.none rfl) rfl rfl ?_
                refine WR.step (Ex.assign rfl) (Wn.none rfl) rfl rfl ?_
                refine WR.nil (WQ.any ?_)
                refine WA.done (by kernel_rfl) ?_
                exact WQ.meetN [(2, _), (5, _), (7, _), (9, _), (10, _), (11, _), (12, _), (13, _), (14, _), (15, _)] ⟨rfl, rfl, rfl, rfl, rfl, rfl, rfl, rfl, rfl, rfl, trivial⟩ ⟨_, _, rfl, H, hg_errR, hg_errS, hg_maxl, hg_pow10, hs65, hs78, e35⟩
               ·
                refine WR.step (Ex.loadM H rfl hc99 Tryd.isAgg3) (Wn.some rfl rfl rfl) rfl rfl ?_
                refine WR.nil (WQ.any ?_)
                refine WA.seq (fuel := 0) [13, 18, 19, 20, 21, 22, 23] rfl (by kernel_rfl) ?_
                refine WR.step (Ex.loadM H rfl hc95 Tryd.isAgg3) (Wn.some rfl rfl rfl) rfl rfl ?_
                refine WR.stepE (v' := .bool false) (Ex.eql rfl rfl) (congrArg Value.bool (decide_eq_false hk42)) (Wn.some rfl rfl rfl) rfl rfl ?_
                refine WR.step (Ex.move rfl) (Wn.some rfl rfl rfl) rfl rfl ?_
                refine WR.skipG (b := false) rfl rfl rfl rfl rfl ?_
                refine WR.step (Ex.pickF rfl rfl) (Wn.some rfl rfl rfl) rfl rfl ?_
                refine WR.step (Ex.pickF rfl rfl) (Wn.none rfl) rfl rfl ?_
                refine WR.step (Ex.assign rfl) (Wn.none rfl) rfl rfl ?_
                refine WR.nil (WQ.any ?_)
                refine WA.done (by kernel_rfl) ?_
                exact WQ.meetN [(2, _), (5, _), (7, _), (9, _), (10, _), (11, _), (12, _), (13, _), (14, _), (15, _)] ⟨rfl, rfl, rfl, rfl, rfl, rfl, rfl, rfl, rfl, rfl, trivial⟩ ⟨_, _, rfl, H, hg_errR, hg_errS, hg_maxl, hg_pow10, hs65, hs78, e35⟩
             ·
              refine WR.idxC Tryd.underlying33 Tryd.sizeOf3 (hs78) rfl rfl hxa41 (Wn.some rfl rfl rfl) rfl ?_
              intro p99 hc99
              refine WR.nil (WQ.any ?_)
              refine WA.two (i := 12) (j := 17) (by kernel_rfl) rfl rfl ?_ ?_
              ·
               refine WR.idxC Tryd.underlying33 Tryd.sizeOf3 (hs65) rfl rfl hxa40 (Wn.some rfl rfl rfl) rfl ?_
               intro p95 hc95
               refine WR.nil (WQ.any ?_)
               refine WA.two (i := 13) (j := 17) (by kernel_rfl) rfl rfl ?_ ?_
               ·
                refine WR.step (Ex.loadM H rfl hc95 Tryd.isAgg3) (Wn.some rfl rfl rfl) rfl rfl ?_
                refine WR.nil (WQ.any ?_)
                refine WA.seq (fuel := 0) [17, 18, 19, 20, 21, 22, 23] rfl (by kernel_rfl) ?_
                refine WR.step (Ex.loadM H rfl hc99 Tryd.isAgg3) (Wn.some rfl rfl rfl) rfl rfl ?_
                refine WR.stepE (v' := .bool false) (Ex.eql rfl rfl) (congrArg Value.bool (decide_eq_false hk42)) (Wn.some rfl rfl rfl) rfl rfl ?_
                refine WR.step (Ex.move rfl) (Wn.some rfl rfl rfl) rfl rfl ?_
                refine WR.skipG (b := false) rfl rfl rfl rfl rfl ?_
                refine WR.step (Ex.pickF rfl rfl) (Wn.some rfl rfl rfl) rfl rfl ?_
                refine WR.step (Ex.pickF rfl rfl) (Wn.none rfl) rfl rfl ?_
                refine WR.step (Ex.assign rfl) (Wn.none rfl) rfl rfl ?_
                refine WR.nil (WQ.any ?_)
                refine WA.done (by kernel_rfl) ?_
                exact WQ.meetN [(2, _), (5, _), (7, _), (9, _), (10, _), (11, _), (12, _), (13, _), (14, _), (15, _)] ⟨rfl, rfl, rfl, rfl, rfl, rfl, rfl, rfl, rfl, rfl, trivial⟩ ⟨_, _, rfl, H, hg_errR, hg_errS, hg_maxl, hg_pow10, hs65, hs78, e35⟩
               ·
                refine WR.step (Ex.loadM H rfl hc99 Tryd.isAgg3) (Wn.some rfl rfl rfl) rfl rfl ?_
                refine WR.nil (WQ.any ?_)
                refine WA.seq (fuel := 0) [13, 18, 19, 20, 21, 22, 23] rfl (by kernel_rfl) ?_
                refine WR.step (Ex.loadM H rfl hc95 Tryd.isAgg3) (Wn.some rfl rfl rfl) rfl rfl ?_
                refine WR.stepE (v' := .bool false) (Ex.eql rfl rfl) (congrArg Value.bool (decide_eq_false hk42)) (Wn.some rfl rfl rfl) rfl rfl ?_
                refine WR.step (Ex.move rfl) (Wn.some rfl rfl rfl) rfl rfl ?_
                refine WR.skipG (b := false) rfl rfl rfl rfl rfl ?_
                refine WR.step (Ex.pickF rfl rfl) (Wn.some rfl rfl rfl) rfl rfl ?_
                refine WR.step (Ex.pickF rfl rfl) (Wn.none rfl) rfl rfl ?_
                refine WR.step (Ex.assign rfl) (Wn.none rfl) rfl rfl ?_
                refine WR.nil (WQ.any ?_)
                refine WA.done (by kernel_rfl) ?_
                exact WQ.meetN [(2, _), (5, _), (7, _), (9, _), (10, _), (11, _), (12, _), (13, _), (14, _), (15, _)] ⟨rfl, rfl, rfl, rfl, rfl, rfl, rfl, rfl, rfl, rfl, trivial⟩ ⟨_, _, rfl, H, hg_errR, hg_errS, hg_maxl, hg_pow10, hs65, hs78, e35⟩
              ·
               refine WR.step (Ex.loadM H rfl hc99 Tryd.isAgg3) (Wn.some rfl rfl rfl) rfl rfl ?_
               refine WR.nil (WQ.any ?_)
               refine WA.seq (fuel := 0) [12, 13, 18, 19, 20, 21, 22, 23] rfl (by kernel_rfl) ?_
               refine WR.idxC Tryd.underlying33 Tryd.sizeOf3 (hs65) rfl rfl hxa40 (Wn.some rfl rfl rfl) rfl ?_
               intro p95 hc95
               refine WR.step (Ex.loadM H rfl hc95 Tryd.isAgg3) (Wn.some rfl rfl rfl) rfl rfl ?_
               refine WR.stepE (v' := .bool false) (Ex.eql rfl rfl) (congrArg Value.bool (decide_eq_false hk42)) (Wn.some rfl rfl rfl) rfl rfl ?_
               refine WR.step (Ex.move rfl) (Wn.some rfl rfl rfl) rfl rfl ?_
               refine WR.skipG (b := false) rfl rfl rfl rfl rfl ?_
               refine WR.step (Ex.pickF rfl rfl) (Wn.some rfl rfl rfl) rfl rfl ?_
               refine WR.step (Ex.pickF rfl rfl) (Wn.none rfl) rfl rfl ?_
               refine WR.step (Ex.assign rfl) (Wn.none rfl) rfl rfl ?_
               refine WR.nil (WQ.any ?_)
               refine WA.done (by kernel_rfl) ?_
               exact WQ.meetN [(2, _), (5, _), (7, _), (9, _), (10, _), (11, _), (12, _), (13, _), (14, _), (15, _)] ⟨rfl, rfl, rfl, rfl, rfl, rfl, rfl, rfl, rfl, rfl, trivial⟩ ⟨_, _, rfl, H, hg_errR, hg_errS, hg_maxl, hg_pow10, hs65, hs78, e35⟩
           ·
            refine WR.step (Ex.loadM H rfl hc89 Tryd.isAgg3) (Wn.none rfl) rfl rfl ?_
            refine WR.nil (WQ.any ?_)
            refine WA.seq (fuel := 14) [2, 3, 8, 9] rfl (by kernel_rfl) ?_
            refine WR.idxC Tryd.underlying33 Tryd.sizeOf3 (hs65) rfl rfl hxa37 (Wn.none rfl) rfl ?_
            intro p85 hc85
            refine WR.step (Ex.loadM H rfl hc85 Tryd.isAgg3) (Wn.none rfl) rfl rfl ?_
            refine WR.stepE (v' := .bool false) (Ex.lss rfl rfl) (congrArg Value.bool (decide_eq_false hk39)) (Wn.none rfl) rfl rfl ?_
            refine WR.step (Ex.move rfl) (Wn.none rfl) rfl rfl ?_
            refine WR.nil (WQ.any ?_)
            refine WA.take (i := 10) rfl (by kernel_rfl) (by kernel_rfl) (by kernel_rfl) (fun _ => Ex.move rfl) (Wn.some rfl rfl rfl) rfl rfl (fun _ _ => rfl) ?_
            refine WA.take (i := 11) rfl (by kernel_rfl) (by kernel_rfl) (by kernel_rfl) (fun _ => Ex.move rfl) (Wn.some rfl rfl rfl) rfl rfl (fun _ _ => rfl) ?_
            refine WA.take (i := 14) rfl (by kernel_rfl) (by kernel_rfl) (by kernel_rfl) (fun _ => Ex.move rfl) (Wn.some rfl rfl rfl) rfl rfl (fun _ _ => rfl) ?_
            refine WA.take (i := 15) rfl (by kernel_rfl) (by kernel_rfl) (by kernel_rfl) (fun _ => Ex.move rfl) (Wn.some rfl rfl rfl) rfl rfl (fun _ _ => rfl) ?_
            refine WA.two (i := 12) (j := 16) (by kernel_rfl) rfl rfl ?_ ?_
            ·
             refine WR.idxC Tryd.underlying33 Tryd.sizeOf3 (hs65) rfl rfl hxa40 (Wn.some rfl rfl rfl) rfl ?_
             intro p95 hc95
             refine WR.nil (WQ.any ?_)
             refine WA.two (i := 13) (j := 16) (by kernel_rfl) rfl rfl ?_ ?_
             ·
              refine WR.step (Ex.loadM H rfl hc95 Tryd.isAgg3) (Wn.some rfl rfl rfl) rfl rfl ?_
              refine WR.nil (WQ.any ?_)
              refine WA.seq (fuel := 0) [16, 17, 18, 19, 20, 21, 22, 23] rfl (by kernel_rfl) ?_
              refine WR.idxC Tryd.underlying33 Tryd.sizeOf3 (hs78) rfl rfl hxa41 (Wn.some rfl rfl rfl) rfl ?_
              intro p99 hc99
              refine WR.step (Ex.loadM H rfl hc99 Tryd.isAgg3) (Wn.some rfl rfl rfl) rfl rfl ?_
              refine WR.stepE (v' := .bool false) (Ex.eql rfl rfl) (congrArg Value.bool (decide_eq_false hk42)) (Wn.some rfl rfl rfl) rfl rfl ?_
              refine WR.step (Ex.move rfl) (Wn.some rfl rfl rfl) rfl rfl ?_
              refine WR.skipG (b := false) rfl rfl rfl rfl rfl ?_
              refine WR.step (Ex.pickF rfl rfl) (Wn.some rfl rfl rfl) rfl rfl ?_
              refine WR.step (Ex.pickF rfl rfl) (Wn.none rfl) rfl rfl ?_
              refine WR.step (Ex.assign rfl) (Wn.none rfl) rfl rfl ?_
              refine WR.nil (WQ.any ?_)
              refine WA.done (by kernel_rfl) ?_
              exact WQ.meetN [(2, _), (5, _), (7, _), (9, _), (10, _), (11, _), (12, _), (13, _), (14, _), (15, _)] ⟨rfl, rfl, rfl, rfl, rfl, rfl, rfl, rfl, rfl, rfl, trivial⟩ ⟨_, _, rfl, H, hg_errR, hg_errS, hg_maxl, hg_pow10, hs65, hs78, e35⟩
             ·
              refine WR.idxC Tryd.underlying33 Tryd.sizeOf3 (hs78) rfl rfl hxa41 (Wn.some rfl rfl rfl) rfl ?_
              intro p99 hc99
              refine WR.nil (WQ.any ?_)
              refine WA.two (i := 13) (j := 17) (by kernel_rfl) rfl rfl ?_ ?_
              ·
               refine WR.step (Ex.loadM H rfl hc95 Tryd.isAgg3) (Wn.some rfl rfl rfl) rfl rfl ?_
               refine WR.nil (WQ.any ?_)
               refine WA.seq (fuel := 0) [17, 18, 19, 20, 21, 22, 23] rfl (by kernel_rfl) ?_
               refine WR.step (Ex.loadM H rfl hc99 Tryd.isAgg3) (Wn.some rfl rfl rfl) rfl rfl ?_
               refine WR.stepE (v' := .bool false) (Ex.eql rfl rfl) (congrArg Value.bool (decide_eq_false hk42)) (Wn.some rfl rfl rfl) rfl rfl ?_
               refine WR.step (Ex.move rfl) (Wn.some rfl rfl rfl) rfl rfl ?_
               refine WR.skipG (b := false) rfl rfl rfl rfl rfl ?_
               refine WR.step (Ex.pickF rfl rfl) (Wn.some rfl rfl rfl) rfl rfl ?_
               refine WR.step (Ex.pickF rfl rfl) (Wn.none rfl) rfl rfl ?_
               refine WR.step (Ex.assign rfl) (Wn.none rfl) rfl rfl ?_
               refine WR.nil (WQ.any ?_)
               refine WA.done (by kernel_rfl) ?_
               exact WQ.meetN [(2, _), (5, _), (7, _), (9, _), (10, _), (11, _), (12, _), (13, _), (14, _), (15, _)] ⟨rfl, rfl, rfl, rfl, rfl, rfl, rfl, rfl, rfl, rfl, trivial⟩ ⟨_, _, rfl, H, hg_errR, hg_errS, hg_maxl, hg_pow10, hs65, hs78, e35⟩
              ·
               refine WR.step (Ex.loadM H rfl hc99 Tryd.isAgg3) (Wn.some rfl rfl rfl) rfl rfl ?_
               refine WR.nil (WQ.any ?_)
               refine WA.seq (fuel := 0) [13, 18, 19, 20, 21, 22, 23] rfl (by kernel_rfl) ?_
               refine WR.step (Ex.loadM H rfl hc95 Tryd.isAgg3) (Wn.some rfl rfl rfl) rfl rfl ?_
               refine WR.stepE (v' := .bool false) (Ex.eql rfl rfl) (congrArg Value.bool (decide_eq_false hk42)) (Wn.some rfl rfl rfl) rfl rfl ?_
               refine WR.step (Ex.move rfl) (Wn.some rfl rfl rfl) rfl rfl ?_
               refine WR.skipG (b := false) rfl rfl rfl rfl rfl ?_
               refine WR.step (Ex.pickF rfl rfl) (Wn.some rfl rfl rfl) rfl rfl ?_
               refine WR.step (Ex.pickF rfl rfl) (Wn.none rfl) rfl rfl ?_
               refine WR.step (Ex.assign rfl) (Wn.none rfl) rfl rfl ?_
               refine WR.nil (WQ.any ?_)
               refine WA.done (by kernel_rfl) ?_
               exact WQ.meetN [(2, _), (5, _), (7, _), (9, _), (10, _), (11, _), (12, _), (13, _), (14, _), (15, _)] ⟨rfl, rfl, rfl, rfl, rfl, rfl, rfl, rfl, rfl, rfl, trivial⟩ ⟨_, _, rfl, H, hg_errR, hg_errS, hg_maxl, hg_pow10, hs65, hs78, e35⟩
            ·
             refine WR.idxC Tryd.underlying33 Tryd.sizeOf3 (hs78) rfl rfl hxa41 (Wn.some rfl rfl rfl) rfl ?_
             intro p99 hc99
             refine WR.nil (WQ.any ?_)
             refine WA.two (i := 12) (j := 17) (by kernel_rfl) rfl rfl ?_ ?_
             ·
              refine WR.idxC Tryd.underlying33 Tryd.sizeOf3 (hs65) rfl rfl hxa40 (Wn.some rfl rfl rfl) rfl ?_
              intro p95 hc95
              refine WR.nil (WQ.any ?_)
              refine WA.two (i := 13) (j := 17) (by kernel_rfl) rfl rfl ?_ ?_
              ·
               refine WR.step (Ex.loadM H rfl hc95 Tryd.isAgg3) (Wn.some rfl rfl rfl) rfl rfl ?_
               refine WR.nil (WQ.any ?_)
               refine WA.seq (fuel := 0) [17, 18, 19, 20, 21, 22, 23] rfl (by kernel_rfl) ?_
               refine WR.step (Ex.loadM H rfl hc99 Tryd.isAgg3) (Wn.some rfl rfl rfl) rfl rfl ?_
               refine WR.stepE (v' := .bool false) (Ex.eql rfl rfl) (congrArg Value.bool (decide_eq_false hk42)) (Wn.some rfl rfl rfl) rfl rfl ?_
               refine WR.step (Ex.move rfl) (Wn.some rfl rfl rfl) rfl rfl ?_
               refine WR.skipG (b := false) rfl rfl rfl rfl rfl ?_
               refine WR.step (Ex.pickF rfl rfl) (Wn.some rfl rfl rfl) rfl rfl ?_
               refine WR.step (Ex.pickF rfl rfl) (Wn.none rfl) rfl rfl ?_
               refine WR.step (Ex.assign rfl) (Wn.none rfl) rfl rfl ?_
               refine WR.nil (WQ.any ?_)
               refine WA.done (by kernel_rfl) ?_
               exact WQ.meetN [(2, _), (5, _), (7, _), (9, _), (10, _), (11, _), (12, _), (13, _), (14, _), (15, _)] ⟨rfl, rfl, rfl, rfl, rfl, rfl, rfl, rfl, rfl, rfl, trivial⟩ ⟨_, _, rfl, H, hg_errR, hg_errS, hg_maxl, hg_pow10, hs65, hs78, e35⟩
              ·
               refine WR.step (Ex.loadM H rfl hc99 Tryd.isAgg3) (Wn.some rfl rfl rfl) rfl rfl ?_
               refine WR.nil (WQ.any ?_)
               refine WA.seq (fuel := 0) [13, 18, 19, 20, 21, 22, 23] rfl (by kernel_rfl) ?_
               refine WR.step (Ex.loadM H rfl hc95 Tryd.isAgg3) (Wn.some rfl rfl rfl) rfl rfl ?_
               refine WR.stepE (v' := .bool false) (Ex.eql rfl rfl) (congrArg Value.bool (decide_eq_false hk42)) (Wn.some rfl rfl rfl) rfl rfl ?_
               refine WR.step (Ex.move rfl) (Wn.some rfl rfl rfl) rfl rfl ?_
               refine WR.skipG (b := false) rfl rfl rfl rfl rfl ?_
               refine WR.step (Ex.pickF rfl rfl) (Wn.some rfl rfl rfl) rfl rfl ?_
               refine WR.step (Ex.pickF rfl rfl) (Wn.none rfl) rfl rfl ?_
               refine WR.step (Ex.assign rfl) (Wn.none rfl) rfl rfl ?_
               refine WR.nil (WQ.any ?_)
               refine WA.done (by kernel_rfl) ?_
               exact WQ.meetN [(2, _), (5, _), (7, _), (9, _), (10, _), (11, _), (12, _), (13, _), (14, _), (15, _)] ⟨rfl, rfl, rfl, rfl, rfl, rfl, rfl, rfl, rfl, rfl, trivial⟩ ⟨_, _, rfl, H, hg_errR, hg_errS, hg_maxl, hg_pow10, hs65, hs78, e35⟩
             ·
              refine WR.step (Ex.loadM H rfl hc99 Tryd.isAgg3) (Wn.some rfl rfl rfl) rfl rfl ?_
              refine WR.nil (WQ.any ?_)
              refine WA.seq (fuel := 0) [12, 13, 18, 19, 20, 21, 22, 23] rfl (by kernel_rfl) ?_
              refine WR.idxC Tryd.underlying33 Tryd.sizeOf3 (hs65) rfl rfl hxa40 (Wn.some rfl rfl rfl) rfl ?_
              intro p95 hc95
              refine WR.step (Ex.loadM H rfl hc95 Tryd.isAgg3) (Wn.some rfl rfl rfl) rfl rfl ?_
              refine WR.stepE (v' := .bool false) (Ex.eql rfl rfl) (congrArg Value.bool (decide_eq_false hk42)) (Wn.some rfl rfl rfl) rfl rfl ?_
              refine WR.step (Ex.move rfl) (Wn.some rfl rfl rfl) rfl rfl ?_
              refine WR.skipG (b := false) rfl rfl rfl rfl rfl ?_
              refine WR.step (Ex.pickF rfl rfl) (Wn.some rfl rfl rfl) rfl rfl ?_
              refine WR.step (Ex.pickF rfl rfl) (Wn.none rfl) rfl rfl ?_
              refine WR.step (Ex.assign rfl) (Wn.none rfl) rfl rfl ?_
              refine WR.nil (WQ.any ?_)
              refine WA.done (by kernel_rfl) ?_
              exact WQ.meetN [(2, _), (5, _), (7, _), (9, _), (10, _), (11, _), (12, _), (13, _), (14, _), (15, _)] ⟨rfl, rfl, rfl, rfl, rfl, rfl, rfl, rfl, rfl, rfl, trivial⟩ ⟨_, _, rfl, H, hg_errR, hg_errS, hg_maxl, hg_pow10, hs65, hs78, e35⟩
       ·
        rintro e w ⟨b36, M, rfl, H, hg_errR, hg_errS, hg_maxl, hg_pow10, hs65, hs78, q43⟩
        obtain rfl := Option.some.inj q43
        refine WQ.inBlock ?_
        refine WQ.then ?_
        obtain ⟨n44, hxn44, e28⟩ := bnd e28
        refine WC.region ?_
        refine WR.step (Ex.move rfl) (Wn.none rfl) rfl rfl ?_
        refine WR.step (Ex.subC rfl rfl hxn44) (Wn.none rfl) rfl rfl ?_
        refine WR.step (Ex.assign rfl) (Wn.none rfl) rfl rfl ?_
        refine WR.nil ?_
        exact WQ.againP m32 [(2, _), (5, _), (7, _), (9, _), (10, _), (11, _), (12, _), (13, _), (14, _), (15, _)] ⟨rfl, rfl, rfl, rfl, rfl, rfl, rfl, rfl, rfl, rfl, trivial⟩ ⟨_, _, _, rfl, H, hg_errR, hg_errS, hg_maxl, hg_pow10, hs65, hs78, e28⟩ (Nat.lt_succ_self _)
      ·
       replace hk33 : ¬ ((0 : Int) ≤ n31) := of_decide_eq_false hk33
       rw [if_neg hk33] at e28
       refine WC.exit ?_
       refine WQ.thenExit ?_
       refine WQ.thenExit ?_
       refine WQ.exitHere ?_
       exact WQ.meetN [(2, _), (5, _), (7, _), (9, _), (10, _), (11, _), (14, _)] ⟨rfl, rfl, rfl, rfl, rfl, rfl, rfl, trivial⟩ ⟨_, _, rfl, H, hg_errR, hg_errS, hg_maxl, hg_pow10, e28⟩
     ·
      rintro e w ⟨b29, M, rfl, H, hg_errR, hg_errS, hg_maxl, hg_pow10, q45⟩
      obtain rfl := Option.some.inj q45
      refine WQ.then ?_
      refine WC.seq ?_
      obtain ⟨o46, e47, h⟩ := bnd h
      refine WC.cutX (fun e w => ∃ (b48 : Bool) (M : Mem), e = [(4, Value.bool b48)] ∧ St w0 M0 M [] w ∧ GlF (fun w => ∃ tp p, w.var? Tryd.prog "strconv.ErrRange" = some #[.iface tp p]) M ∧ GlF (fun w => ∃ tp p, w.var? Tryd.prog "strconv.ErrSyntax" = some #[.iface tp p]) M ∧ GlF (fun w => ∃ m, w.cell? ⟨0, 0, none⟩ = some (.int .i64 m)) M ∧ GlF (fun w => Lib.TabIs Tryd.prog w "internal/strconv.uint64pow10" .u64 Lib.pow10Tab) M ∧ some b48 = some o46) [] ?_ ?_ (trivial)
      ·
       refine WC.region ?_
       refine WR.step (Ex.fieldAddr Tryd.underlying26 rfl Tryd.sizeOf3 (by decide) rfl) (Wn.none rfl) rfl rfl ?_
       refine WR.step (Ex.load1 H rfl (by repeat (first | exact List.Mem.head _ | apply List.Mem.tail)) Tryd.isAgg3 (by rfl)) (Wn.none rfl) rfl rfl ?_
       by_cases hk49 : n24 = (0 : Int)
       ·
        rw [if_pos hk49] at e47
        by_cases hk50 : b29 = (decide (n4 < n23))
        ·
         rw [if_pos hk50] at e47
         refine WR.stepE (v' := .bool true) (Ex.eql rfl rfl) (congrArg Value.bool (decide_eq_true hk49)) (Wn.none rfl) rfl rfl ?_
         refine WR.step (Ex.move rfl) (Wn.none rfl) rfl rfl ?_
         refine WR.step (Ex.move rfl) (Wn.some rfl rfl rfl) rfl rfl ?_
         refine WR.step (Ex.move rfl) (Wn.some rfl rfl rfl) rfl rfl ?_
         refine WR.step (Ex.move rfl) (Wn.some rfl rfl rfl) rfl rfl ?_
         refine WR.step (Ex.lss rfl rfl) (Wn.some rfl rfl rfl) rfl rfl ?_
         refine WR.stepE (v' := .bool true) (Ex.eqlBo Tryd.underlying4 rfl rfl) (congrArg Value.bool (decide_eq_true hk50)) (Wn.some rfl rfl rfl) rfl rfl ?_
         refine WR.step (Ex.pickT rfl rfl) (Wn.none rfl) rfl rfl ?_
         refine WR.step (Ex.move rfl) (Wn.none rfl) rfl rfl ?_
         refine WR.step (Ex.move rfl) (Wn.some rfl rfl rfl) rfl rfl ?_
         refine WR.step (Ex.move rfl) (Wn.some rfl rfl rfl) rfl rfl ?_
         refine WR.step (Ex.lss rfl rfl) (Wn.some rfl rfl rfl) rfl rfl ?_
         refine WR.step (Ex.move rfl) (Wn.some rfl rfl rfl) rfl rfl ?_
         refine WR.step (Ex.fieldAddr Tryd.underlying23 rfl Tryd.sizeOf3 (by decide) rfl) (Wn.some rfl rfl rfl) rfl rfl ?_
         refine WR.step (Ex.load1 H rfl (by repeat (first | exact List.Mem.head _ | apply List.Mem.tail)) Tryd.isAgg3 (by rfl)) (Wn.some rfl rfl rfl) rfl rfl ?_
         refine WR.step (Ex.gtr rfl rfl) (Wn.some rfl rfl rfl) rfl rfl ?_
         refine WR.step (Ex.eqlBo Tryd.underlying4 rfl rfl) (Wn.some rfl rfl rfl) rfl rfl ?_
         refine WR.step (Ex.pickT rfl rfl) (Wn.none rfl) rfl rfl ?_
         refine WR.step (Ex.assign rfl) (Wn.none rfl) rfl rfl ?_
         refine WR.nil ?_
         exact WQ.meetN [(4, _)] ⟨rfl, trivial⟩ ⟨_, _, rfl, (H.pick (L' := []) (by repeat (first | exact Pick.nil | refine Pick.cons (by repeat (first | exact Rem.head | apply Rem.tail)) ?_))), hg_errR, hg_errS, hg_maxl, hg_pow10, e47⟩
        ·
         rw [if_neg hk50] at e47
         refine WR.stepE (v' := .bool true) (Ex.eql rfl rfl) (congrArg Value.bool (decide_eq_true hk49)) (Wn.none rfl) rfl rfl ?_
         refine WR.step (Ex.move rfl) (Wn.none rfl) rfl rfl ?_
         refine WR.step (Ex.move rfl) (Wn.some rfl rfl rfl) rfl rfl ?_
         refine WR.step (Ex.move rfl) (Wn.some rfl rfl rfl) rfl rfl ?_
         refine WR.step (Ex.move rfl) (Wn.some rfl rfl rfl) rfl rfl ?_
         refine WR.step (Ex.lss rfl rfl) (Wn.some rfl rfl rfl) rfl rfl ?_
         refine WR.stepE (v' := .bool false) (Ex.eqlBo Tryd.underlying4 rfl rfl) (congrArg Value.bool (decide_eq_false hk50)) (Wn.some rfl rfl rfl) rfl rfl ?_
         refine WR.step (Ex.pickT rfl rfl) (Wn.none rfl) rfl rfl ?_
         refine WR.step (Ex.move rfl) (Wn.none rfl) rfl rfl ?_
         refine WR.skipN 8 rfl rfl ?_
         refine WR.step (Ex.pickF rfl rfl) (Wn.none rfl) rfl rfl ?_
         refine WR.step (Ex.assign rfl) (Wn.none rfl) rfl rfl ?_
         refine WR.nil ?_
         exact WQ.meetN [(4, _)] ⟨rfl, trivial⟩ ⟨_, _, rfl, (H.pick (L' := []) (by repeat (first | exact Pick.nil | refine Pick.cons (by repeat (first | exact Rem.head | apply Rem.tail)) ?_))), hg_errR, hg_errS, hg_maxl, hg_pow10, e47⟩
       ·
        rw [if_neg hk49] at e47
        refine WR.stepE (v' := .bool false) (Ex.eql rfl rfl) (congrArg Value.bool (decide_eq_false hk49)) (Wn.none rfl) rfl rfl ?_
        refine WR.step (Ex.move rfl) (Wn.none rfl) rfl rfl ?_
        refine WR.skipN 5 rfl rfl ?_
        refine WR.step (Ex.pickF rfl rfl) (Wn.none rfl) rfl rfl ?_
        refine WR.step (Ex.move rfl) (Wn.none rfl) rfl rfl ?_
        refine WR.skipN 8 rfl rfl ?_
        refine WR.step (Ex.pickF rfl rfl) (Wn.none rfl) rfl rfl ?_
        refine WR.step (Ex.assign rfl) (Wn.none rfl) rfl rfl ?_
        refine WR.nil ?_
        exact WQ.meetN [(4, _)] ⟨rfl, trivial⟩ ⟨_, _, rfl, (H.pick (L' := []) (by repeat (first | exact Pick.nil | refine Pick.cons (by repeat (first | exact Rem.head | apply Rem.tail)) ?_))), hg_errR, hg_errS, hg_maxl, hg_pow10, e47⟩
      ·
       rintro e w ⟨b48, M, rfl, H, hg_errR, hg_errS, hg_maxl, hg_pow10, q51⟩
       obtain rfl := Option.some.inj q51
       refine WQ.then ?_
       refine WC.ret ?_
       (repeat (first | refine WQ.thenRet ?_ | refine WQ.inBlockRet ?_ | refine WQ.cutRet ?_ | refine WQ.scRet ?_))
       obtain rfl := Option.some.inj h
       exact WQ.ret1 rfl rfl H.ext rfl
end Go.Proofs.YtlopnlagpdchiaaDoor
