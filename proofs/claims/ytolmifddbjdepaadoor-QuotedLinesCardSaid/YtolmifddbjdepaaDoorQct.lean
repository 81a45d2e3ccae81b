/-
  Quoted: contracts of the program's functions over their plain forms, written by wip/tools/ext.py.
-/
import Derived.Test.YtolmifddbjdepaaDoorRec
import Derived.Test.YtolmifddbjdepaaDoorProg
import Derived.Test.YtolmifddbjdepaaDoorQl3
import Derived.Test.YtolmifddbjdepaaDoorQpf
import Derived.KernelRfl
set_option linter.unusedVariables false
set_option linter.unusedSimpArgs false
namespace Go.Proofs.YtolmifddbjdepaaDoor
open Go Go.RowKit Go.Ph Go.Ph.Pl Go.Ph.Pf Go.Ph.Qp
theorem xplaces25 : ∀ {fs : Array Field}, Tryd.prog.underlying 25 = some (.struct fs) → ∀ w, (fs.mapM fun f => do pure (f.offset, ← sizeOf f.type) : Sem (Array (Nat × Nat))).run Tryd.prog w = .ok #[(0, 1), (1, 1)] w := by
  intro fs h w
  rw [Tryd.underlying25] at h
  cases h
  simp
theorem xeq25 (a0 b0 : Int) (a1 b1 : Int) (w : World) : (Op.equalIn 10000 25 (.agg #[.int .i64 a0, .int .i64 a1]) (.agg #[.int .i64 b0, .int .i64 b1])).run Tryd.prog w = .ok (decide (a0 = b0 ∧ a1 = b1)) w := by
  rw [run_equalIn_struct w 9999 25 _ _ (by rw [Program.fieldsOf, Tryd.underlying25]) (by kernel_rfl)]
  rw [Program.fieldsOf, Tryd.underlying25]
  by_cases h0 : a0 = b0 <;> by_cases h1 : a1 = b1 <;> simp [Op.eqFields, part, h0, h1, Tryd.isAgg3, run_equalIn_int _ _ _ _ _ _ _ Tryd.underlying3]
theorem xty22 : ElemTy Tryd.prog 22 5 (.int .u8 0) 1 1 := ElemTy.mk' Tryd.underlying22 (by kernel_rfl) rfl (by decide)
theorem xty35 : ElemTy Tryd.prog 35 9 (.string ⟨#[]⟩) 1 16 := ElemTy.mk' Tryd.underlying35 (by kernel_rfl) rfl (by decide)
theorem quoted_Encode_ct {p0 : List UInt8} {vp0 : Value} {r : (List UInt8 × (Int × Int))} (h : quoted_Encode p0 = some r) : Ct Tryd.prog 13 [vp0] (fun M => Sl M encB vp0 p0) (fun v M => ∃ x0, v = Value.tuple #[x0, Value.agg #[I r.2.1, I r.2.2]] ∧ Sl M encB x0 r.1) := by
  unfold quoted_Encode at h
  split at h
  · cases h; exact (qenc_big _ _ (by assumption)).mono (fun v M hr => ⟨_, hr, Sl.nil _ _⟩)
  · cases h; exact qenc_spec _ _ (by omega)
theorem quoted_Lenient_ct {p0 : List UInt8} {vp0 : Value} {r : (List UInt8 × (Int × Int))} (h : quoted_Lenient p0 = some r) : Ct Tryd.prog 17 [vp0] (fun M => Sl M encB vp0 p0) (fun v M => ∃ x0, v = Value.tuple #[x0, Value.agg #[I r.2.1, I r.2.2]] ∧ Sl M encB x0 r.1) := by
  unfold quoted_Lenient at h
  split at h
  · cases h; exact (qlen_big _ _ (by assumption)).mono (fun v M hr => ⟨_, hr, Sl.nil _ _⟩)
  · cases h; exact qlen_spec _ _ (by omega)
theorem quoted_Decode_ct {p0 : List UInt8} {vp0 : Value} {r : (List UInt8 × (Int × Int))} (h : quoted_Decode p0 = some r) : Ct Tryd.prog 19 [vp0] (fun M => Sl M encB vp0 p0) (fun v M => ∃ x0, v = Value.tuple #[x0, Value.agg #[I r.2.1, I r.2.2]] ∧ Sl M encB x0 r.1) := by
  unfold quoted_Decode at h
  split at h
  · cases h; exact (qdec_big _ _ (by assumption)).mono (fun v M hr => ⟨_, hr, Sl.nil _ _⟩)
  split at h
  · cases h; exact (qdec_long _ _ (by omega) (by assumption)).mono (fun v M hr => ⟨_, hr, Sl.nil _ _⟩)
  split at h
  · cases h; exact qdec_ok _ _ (by omega) (by omega) (by assumption)
  · cases h; exact (qdec_diff _ _ (by omega) (by omega) (by assumption)).mono (fun v M hr => ⟨_, hr, Sl.nil _ _⟩)
theorem L_quotedExample_ct  {r : Bool} (h : L_quotedExample = some r) : Ct Tryd.prog 12 [] (fun M => True) (fun v M => v = Value.bool r) := by
  cases h
  exact qex_spec
theorem R_At_ct {p0 : Int} {p1 : Int} {r : (Int × Int)} (h : R_At p0 p1 = some r) : Ct Tryd.prog 14 [I p0, I p1] (fun M => True) (fun v M => v = Value.agg #[I r.1, I r.2]) := by
  refine Ct.of Tryd.func14 (enters Tryd.func14 (by kernel_rfl) rfl) rfl rfl rfl ?_
  intro w0 M0 H hp
  unfold R_At at h
  refine WC.seq ?_
  refine WC.region ?_
  refine WR.alloc [_, _] H Tryd.zeroValue25 rfl (Wn.none rfl) rfl ?_
  intro b4 w H
  refine WR.nil ?_
  refine WQ.then ?_
  refine WC.seq ?_
  refine WC.region ?_
  refine WR.step (Ex.move rfl) (Wn.none rfl) rfl rfl ?_
  refine WR.step (Ex.move rfl) (Wn.none rfl) rfl rfl ?_
  refine WR.step (Ex.build [_, _] Tryd.underlying25 Tryd.zeroValue25 (xplaces25 Tryd.underlying25) rfl rfl) (Wn.none rfl) rfl rfl ?_
  refine WR.store [_, _] H rfl rfl rfl (by repeat (first | exact Upd.head | apply Upd.tail)) Tryd.sizeOf25 rfl (by rfl) (by rfl) (Wn.none rfl) ?_
  intro w H
  refine WR.nil ?_
  refine WQ.then ?_
  refine WC.ret ?_
  (repeat (first | refine WQ.thenRet ?_ | refine WQ.inBlockRet ?_ | refine WQ.cutRet ?_))
  obtain rfl := Option.some.inj h
  exact WQ.ret1 rfl ⟨_, rfl, H.loadAgg (by repeat (first | exact List.Mem.head _ | apply List.Mem.tail)) Tryd.isAgg25 Tryd.sizeOf25 (by rfl)⟩ H.ext rfl
theorem R_Crlf_ct {p0 : List UInt8} {p1 : Int} {vp0 : Value} {r : Bool} (h : R_Crlf p0 p1 = some r) : Ct Tryd.prog 20 [vp0, I p1] (fun M => Sl M encB vp0 p0) (fun v M => v = Value.bool r) := by
  refine Ct.of Tryd.func20 (enters Tryd.func20 (by kernel_rfl) rfl) rfl rfl rfl ?_
  intro w0 M0 H hp
  have hp0 := hp
  unfold R_Crlf at h
  refine WC.seq ?_
  refine WC.region ?_
  refine WR.step (Ex.assign rfl) (Wn.none rfl) rfl rfl ?_
  refine WR.nil ?_
  refine WQ.then ?_
  refine WC.seq ?_
  obtain ⟨o1, e2, h⟩ := bnd h
  refine WC.cutX (fun e w => ∃ (b3 : Bool) (M : Mem), e = [(4, Value.bool b3)] ∧ St w0 M0 M [] w ∧ some b3 = some o1) [] ?_ ?_ (trivial)
  ·
    obtain ⟨n4, hxn4, e2⟩ := bnd e2
    by_cases hk5 : n4 < (p0.length : Int)
    ·
      rw [if_pos hk5] at e2
      obtain ⟨c6, hxc6, e2⟩ := bnd e2
      by_cases hk7 : c6 = 13
      ·
        rw [if_pos hk7] at e2
        obtain ⟨n8, hxn8, e2⟩ := bnd e2
        obtain ⟨c9, hxc9, e2⟩ := bnd e2
        refine WC.region ?_
        refine WR.step (Ex.move rfl) (Wn.none rfl) rfl rfl ?_
        refine WR.step (Ex.addC rfl rfl hxn4) (Wn.none rfl) rfl rfl ?_
        refine WR.step (Ex.move rfl) (Wn.none rfl) rfl rfl ?_
        refine WR.step (Ex.lenSl Tryd.underlying22 hp0 rfl) (Wn.none rfl) rfl rfl ?_
        refine WR.stepE (v' := .bool true) (Ex.lss rfl rfl) (congrArg Value.bool (decide_eq_true hk5)) (Wn.none rfl) rfl rfl ?_
        refine WR.step (Ex.move rfl) (Wn.none rfl) rfl rfl ?_
        refine WR.step (Ex.move rfl) (Wn.some rfl rfl rfl) rfl rfl ?_
        refine WR.step (Ex.move rfl) (Wn.some rfl rfl rfl) rfl rfl ?_
        refine WR.idxC Tryd.underlying22 Tryd.sizeOf5 (hp0) rfl rfl hxc6 (Wn.some rfl rfl rfl) rfl ?_
        intro p13 hc13
        refine WR.step (Ex.loadM H rfl hc13 Tryd.isAgg5) (Wn.some rfl rfl rfl) rfl rfl ?_
        refine WR.stepE (v' := .bool true) (Ex.eqlB (c := c6) (d := 13) rfl rfl) (congrArg Value.bool (decide_eq_true hk7)) (Wn.some rfl rfl rfl) rfl rfl ?_
        refine WR.step (Ex.pickT rfl rfl) (Wn.none rfl) rfl rfl ?_
        refine WR.step (Ex.move rfl) (Wn.none rfl) rfl rfl ?_
        refine WR.step (Ex.move rfl) (Wn.some rfl rfl rfl) rfl rfl ?_
        refine WR.step (Ex.move rfl) (Wn.some rfl rfl rfl) rfl rfl ?_
        refine WR.step (Ex.addC rfl rfl hxn8) (Wn.some rfl rfl rfl) rfl rfl ?_
        refine WR.idxC Tryd.underlying22 Tryd.sizeOf5 (hp0) rfl rfl hxc9 (Wn.some rfl rfl rfl) rfl ?_
        intro p21 hc21
        refine WR.step (Ex.loadM H rfl hc21 Tryd.isAgg5) (Wn.some rfl rfl rfl) rfl rfl ?_
        refine WR.step (Ex.eqlB (c := c9) (d := 10) rfl rfl) (Wn.some rfl rfl rfl) rfl rfl ?_
        refine WR.step (Ex.pickT rfl rfl) (Wn.none rfl) rfl rfl ?_
        refine WR.step (Ex.assign rfl) (Wn.none rfl) rfl rfl ?_
        refine WR.nil ?_
        exact WQ.meetN [(4, _)] ⟨rfl, trivial⟩ ⟨_, _, rfl, H, e2⟩
      ·
        rw [if_neg hk7] at e2
        refine WC.region ?_
        refine WR.step (Ex.move rfl) (Wn.none rfl) rfl rfl ?_
        refine WR.step (Ex.addC rfl rfl hxn4) (Wn.none rfl) rfl rfl ?_
        refine WR.step (Ex.move rfl) (Wn.none rfl) rfl rfl ?_
        refine WR.step (Ex.lenSl Tryd.underlying22 hp0 rfl) (Wn.none rfl) rfl rfl ?_
        refine WR.stepE (v' := .bool true) (Ex.lss rfl rfl) (congrArg Value.bool (decide_eq_true hk5)) (Wn.none rfl) rfl rfl ?_
        refine WR.step (Ex.move rfl) (Wn.none rfl) rfl rfl ?_
        refine WR.step (Ex.move rfl) (Wn.some rfl rfl rfl) rfl rfl ?_
        refine WR.step (Ex.move rfl) (Wn.some rfl rfl rfl) rfl rfl ?_
        refine WR.idxC Tryd.underlying22 Tryd.sizeOf5 (hp0) rfl rfl hxc6 (Wn.some rfl rfl rfl) rfl ?_
        intro p13 hc13
        refine WR.step (Ex.loadM H rfl hc13 Tryd.isAgg5) (Wn.some rfl rfl rfl) rfl rfl ?_
        refine WR.stepE (v' := .bool false) (Ex.eqlB (c := c6) (d := 13) rfl rfl) (congrArg Value.bool (decide_eq_false hk7)) (Wn.some rfl rfl rfl) rfl rfl ?_
        refine WR.step (Ex.pickT rfl rfl) (Wn.none rfl) rfl rfl ?_
        refine WR.step (Ex.move rfl) (Wn.none rfl) rfl rfl ?_
        refine WR.skipG (b := false) rfl rfl rfl rfl rfl ?_
        refine WR.skipG (b := false) rfl rfl rfl rfl rfl ?_
        refine WR.skipG (b := false) rfl rfl rfl rfl rfl ?_
        refine WR.skipG (b := false) rfl rfl rfl rfl rfl ?_
        refine WR.skipG (b := false) rfl rfl rfl rfl rfl ?_
        refine WR.skipG (b := false) rfl rfl rfl rfl rfl ?_
        refine WR.step (Ex.pickF rfl rfl) (Wn.none rfl) rfl rfl ?_
        refine WR.step (Ex.assign rfl) (Wn.none rfl) rfl rfl ?_
        refine WR.nil ?_
        exact WQ.meetN [(4, _)] ⟨rfl, trivial⟩ ⟨_, _, rfl, H, e2⟩
    ·
      rw [if_neg hk5] at e2
      refine WC.region ?_
      refine WR.step (Ex.move rfl) (Wn.none rfl) rfl rfl ?_
      refine WR.step (Ex.addC rfl rfl hxn4) (Wn.none rfl) rfl rfl ?_
      refine WR.step (Ex.move rfl) (Wn.none rfl) rfl rfl ?_
      refine WR.step (Ex.lenSl Tryd.underlying22 hp0 rfl) (Wn.none rfl) rfl rfl ?_
      refine WR.stepE (v' := .bool false) (Ex.lss rfl rfl) (congrArg Value.bool (decide_eq_false hk5)) (Wn.none rfl) rfl rfl ?_
      refine WR.step (Ex.move rfl) (Wn.none rfl) rfl rfl ?_
      refine WR.skipG (b := false) rfl rfl rfl rfl rfl ?_
      refine WR.skipG (b := false) rfl rfl rfl rfl rfl ?_
      refine WR.skipG (b := false) rfl rfl rfl rfl rfl ?_
      refine WR.skipG (b := false) rfl rfl rfl rfl rfl ?_
      refine WR.skipG (b := false) rfl rfl rfl rfl rfl ?_
      refine WR.step (Ex.pickF rfl rfl) (Wn.none rfl) rfl rfl ?_
      refine WR.step (Ex.move rfl) (Wn.none rfl) rfl rfl ?_
      refine WR.skipG (b := false) rfl rfl rfl rfl rfl ?_
      refine WR.skipG (b := false) rfl rfl rfl rfl rfl ?_
      refine WR.skipG (b := false) rfl rfl rfl rfl rfl ?_
      refine WR.skipG (b := false) rfl rfl rfl rfl rfl ?_
      refine WR.skipG (b := false) rfl rfl rfl rfl rfl ?_
      refine WR.skipG (b := false) rfl rfl rfl rfl rfl ?_
      refine WR.step (Ex.pickF rfl rfl) (Wn.none rfl) rfl rfl ?_
      refine WR.step (Ex.assign rfl) (Wn.none rfl) rfl rfl ?_
      refine WR.nil ?_
      exact WQ.meetN [(4, _)] ⟨rfl, trivial⟩ ⟨_, _, rfl, H, e2⟩
  ·
    rintro e w ⟨b3, M, rfl, H, q10⟩
    obtain rfl := Option.some.inj q10
    refine WQ.then ?_
    refine WC.ret ?_
    (repeat (first | refine WQ.thenRet ?_ | refine WQ.inBlockRet ?_ | refine WQ.cutRet ?_))
    obtain rfl := Option.some.inj h
    exact WQ.ret1 rfl rfl H.ext rfl
theorem R_In_ct {p0 : Int} {p1 : Int} {p2 : Int} {r : Bool} (h : R_In p0 p1 p2 = some r) : Ct Tryd.prog 22 [I p0, I p1, I p2] (fun M => True) (fun v M => v = Value.bool r) := by
  refine Ct.of Tryd.func22 (enters Tryd.func22 (by kernel_rfl) rfl) rfl rfl rfl ?_
  intro w0 M0 H hp
  unfold R_In at h
  refine WC.seq ?_
  refine WC.region ?_
  refine WR.step (Ex.assign rfl) (Wn.none rfl) rfl rfl ?_
  refine WR.nil ?_
  refine WQ.then ?_
  refine WC.seq ?_
  obtain ⟨o1, e2, h⟩ := bnd h
  refine WC.cutX (fun e w => ∃ (b3 : Bool) (M : Mem), e = [(6, Value.bool b3)] ∧ St w0 M0 M [] w ∧ some b3 = some o1) [] ?_ ?_ (trivial)
  ·
    by_cases hk4 : p1 ≤ p0
    ·
      rw [if_pos hk4] at e2
      refine WC.region ?_
      refine WR.step (Ex.move rfl) (Wn.none rfl) rfl rfl ?_
      refine WR.step (Ex.move rfl) (Wn.none rfl) rfl rfl ?_
      refine WR.stepE (v' := .bool true) (Ex.geq rfl rfl) (congrArg Value.bool (decide_eq_true hk4)) (Wn.none rfl) rfl rfl ?_
      refine WR.step (Ex.move rfl) (Wn.none rfl) rfl rfl ?_
      refine WR.step (Ex.move rfl) (Wn.some rfl rfl rfl) rfl rfl ?_
      refine WR.step (Ex.move rfl) (Wn.some rfl rfl rfl) rfl rfl ?_
      refine WR.step (Ex.leq rfl rfl) (Wn.some rfl rfl rfl) rfl rfl ?_
      refine WR.step (Ex.pickT rfl rfl) (Wn.none rfl) rfl rfl ?_
      refine WR.step (Ex.assign rfl) (Wn.none rfl) rfl rfl ?_
      refine WR.nil ?_
      exact WQ.meetN [(6, _)] ⟨rfl, trivial⟩ ⟨_, _, rfl, H, e2⟩
    ·
      rw [if_neg hk4] at e2
      refine WC.region ?_
      refine WR.step (Ex.move rfl) (Wn.none rfl) rfl rfl ?_
      refine WR.step (Ex.move rfl) (Wn.none rfl) rfl rfl ?_
      refine WR.stepE (v' := .bool false) (Ex.geq rfl rfl) (congrArg Value.bool (decide_eq_false hk4)) (Wn.none rfl) rfl rfl ?_
      refine WR.step (Ex.move rfl) (Wn.none rfl) rfl rfl ?_
      refine WR.skipG (b := false) rfl rfl rfl rfl rfl ?_
      refine WR.skipG (b := false) rfl rfl rfl rfl rfl ?_
      refine WR.skipG (b := false) rfl rfl rfl rfl rfl ?_
      refine WR.step (Ex.pickF rfl rfl) (Wn.none rfl) rfl rfl ?_
      refine WR.step (Ex.assign rfl) (Wn.none rfl) rfl rfl ?_
      refine WR.nil ?_
      exact WQ.meetN [(6, _)] ⟨rfl, trivial⟩ ⟨_, _, rfl, H, e2⟩
  ·
    rintro e w ⟨b3, M, rfl, H, q5⟩
    obtain rfl := Option.some.inj q5
    refine WQ.then ?_
    refine WC.ret ?_
    (repeat (first | refine WQ.thenRet ?_ | refine WQ.inBlockRet ?_ | refine WQ.cutRet ?_))
    obtain rfl := Option.some.inj h
    exact WQ.ret1 rfl rfl H.ext rfl
theorem R_Blank_ct {p0 : UInt8} {r : Bool} (h : R_Blank p0 = some r) : Ct Tryd.prog 21 [encB p0] (fun M => True) (fun v M => v = Value.bool r) := by
  refine Ct.of Tryd.func21 (enters Tryd.func21 (by kernel_rfl) rfl) rfl rfl rfl ?_
  intro w0 M0 H hp
  unfold R_Blank at h
  refine WC.seq ?_
  refine WC.region ?_
  refine WR.step (Ex.assign rfl) (Wn.none rfl) rfl rfl ?_
  refine WR.nil ?_
  refine WQ.then ?_
  refine WC.seq ?_
  obtain ⟨o1, e2, h⟩ := bnd h
  refine WC.cutX (fun e w => ∃ (b3 : Bool) (M : Mem), e = [(2, Value.bool b3)] ∧ St w0 M0 M [] w ∧ some b3 = some o1) [] ?_ ?_ (trivial)
  ·
    by_cases hk4 : p0 = 32
    ·
      rw [if_pos hk4] at e2
      refine WC.region ?_
      refine WR.step (Ex.move rfl) (Wn.none rfl) rfl rfl ?_
      refine WR.stepE (v' := .bool true) (Ex.eqlB (c := p0) (d := 32) rfl rfl) (congrArg Value.bool (decide_eq_true hk4)) (Wn.none rfl) rfl rfl ?_
      refine WR.step (Ex.move rfl) (Wn.none rfl) rfl rfl ?_
      refine WR.skipG (b := true) rfl rfl rfl rfl rfl ?_
      refine WR.skipG (b := true) rfl rfl rfl rfl rfl ?_
      refine WR.step (Ex.pickT rfl rfl) (Wn.none rfl) rfl rfl ?_
      refine WR.step (Ex.assign rfl) (Wn.none rfl) rfl rfl ?_
      refine WR.nil ?_
      exact WQ.meetN [(2, _)] ⟨rfl, trivial⟩ ⟨_, _, rfl, H, e2⟩
    ·
      rw [if_neg hk4] at e2
      refine WC.region ?_
      refine WR.step (Ex.move rfl) (Wn.none rfl) rfl rfl ?_
      refine WR.stepE (v' := .bool false) (Ex.eqlB (c := p0) (d := 32) rfl rfl) (congrArg Value.bool (decide_eq_false hk4)) (Wn.none rfl) rfl rfl ?_
      refine WR.step (Ex.move rfl) (Wn.none rfl) rfl rfl ?_
      refine WR.step (Ex.move rfl) (Wn.some rfl rfl rfl) rfl rfl ?_
      refine WR.step (Ex.eqlB (c := p0) (d := 9) rfl rfl) (Wn.some rfl rfl rfl) rfl rfl ?_
      refine WR.step (Ex.pickF rfl rfl) (Wn.none rfl) rfl rfl ?_
      refine WR.step (Ex.assign rfl) (Wn.none rfl) rfl rfl ?_
      refine WR.nil ?_
      exact WQ.meetN [(2, _)] ⟨rfl, trivial⟩ ⟨_, _, rfl, H, e2⟩
  ·
    rintro e w ⟨b3, M, rfl, H, q5⟩
    obtain rfl := Option.some.inj q5
    refine WQ.then ?_
    refine WC.ret ?_
    (repeat (first | refine WQ.thenRet ?_ | refine WQ.inBlockRet ?_ | refine WQ.cutRet ?_))
    obtain rfl := Option.some.inj h
    exact WQ.ret1 rfl rfl H.ext rfl
theorem R_Two_ct {p0 : UInt8} {r : List UInt8} (h : R_Two p0 = some r) : Ct Tryd.prog 56 [encB p0] (fun M => True) (fun v M => v = S r) := by
  refine Ct.of Tryd.func56 (enters Tryd.func56 (by kernel_rfl) rfl) rfl rfl rfl ?_
  intro w0 M0 H hp
  unfold R_Two at h
  refine WC.seq ?_
  refine WC.region ?_
  refine WR.step (Ex.assign rfl) (Wn.none rfl) rfl rfl ?_
  refine WR.nil ?_
  refine WQ.then ?_
  refine WC.seq ?_
  obtain ⟨s1, hxs1, h⟩ := bnd h
  obtain ⟨s2, hxs2, h⟩ := bnd h
  obtain ⟨s3, hxs3, h⟩ := bnd h
  refine WC.draw (m := 14) rfl rfl H ?_
  intro w H
  refine WA.take (i := 0) rfl (by kernel_rfl) (by kernel_rfl) (by kernel_rfl) (fun _ => Ex.move rfl) (Wn.none rfl) rfl rfl (fun _ _ => rfl) ?_
  refine WA.take (i := 1) rfl (by kernel_rfl) (by kernel_rfl) (by kernel_rfl) (fun _ => Ex.divB (c := p0) (m := 16) rfl rfl (by decide)) (Wn.none rfl) rfl rfl (fun _ _ => rfl) ?_
  refine WA.take (i := 2) rfl (by kernel_rfl) (by kernel_rfl) (by kernel_rfl) (fun _ => Ex.move rfl) (Wn.none rfl) rfl rfl (fun _ _ => rfl) ?_
  refine WA.take (i := 3) rfl (by kernel_rfl) (by kernel_rfl) (by kernel_rfl) (fun _ => Ex.divB (c := p0) (m := 16) rfl rfl (by decide)) (Wn.none rfl) rfl rfl (fun _ _ => rfl) ?_
  refine WA.take (i := 4) rfl (by kernel_rfl) (by kernel_rfl) (by kernel_rfl) (fun _ => Ex.addB (c := (UInt8.ofNat (p0.toNat / 16))) (d := 1) rfl rfl) (Wn.none rfl) rfl rfl (fun _ _ => rfl) ?_
  refine WA.take (i := 5) rfl (by kernel_rfl) (by kernel_rfl) (by kernel_rfl) (fun _ => Ex.sliceCK Tryd.underlying9 rfl rfl rfl hxs1) (Wn.none rfl) rfl rfl (fun _ _ => rfl) ?_
  refine WA.take (i := 6) rfl (by kernel_rfl) (by kernel_rfl) (by kernel_rfl) (fun _ => Ex.move rfl) (Wn.none rfl) rfl rfl (fun _ _ => rfl) ?_
  refine WA.take (i := 7) rfl (by kernel_rfl) (by kernel_rfl) (by kernel_rfl) (fun _ => Ex.modB (c := p0) (m := 16) rfl rfl (by decide)) (Wn.none rfl) rfl rfl (fun _ _ => rfl) ?_
  refine WA.one (i := 8) (by kernel_rfl) rfl ?_
  refine WR.step (Ex.move rfl) (Wn.none rfl) rfl rfl ?_
  refine WR.nil (WQ.any ?_)
  refine WA.one (i := 9) (by kernel_rfl) rfl ?_
  refine WR.step (Ex.modB (c := p0) (m := 16) rfl rfl (by decide)) (Wn.none rfl) rfl rfl ?_
  refine WR.nil (WQ.any ?_)
  refine WA.one (i := 10) (by kernel_rfl) rfl ?_
  refine WR.step (Ex.addB (c := (UInt8.ofNat (p0.toNat % 16))) (d := 1) rfl rfl) (Wn.none rfl) rfl rfl ?_
  refine WR.nil (WQ.any ?_)
  refine WA.one (i := 11) (by kernel_rfl) rfl ?_
  refine WR.step (Ex.sliceCK Tryd.underlying9 rfl rfl rfl hxs2) (Wn.none rfl) rfl rfl ?_
  refine WR.nil (WQ.any ?_)
  refine WA.one (i := 12) (by kernel_rfl) rfl ?_
  refine WR.step (Ex.strAddC rfl rfl hxs3) (Wn.none rfl) rfl rfl ?_
  refine WR.nil (WQ.any ?_)
  refine WA.one (i := 13) (by kernel_rfl) rfl ?_
  refine WR.step (Ex.assign rfl) (Wn.none rfl) rfl rfl ?_
  refine WR.nil (WQ.any ?_)
  refine WA.done (by kernel_rfl) ?_
  refine WQ.then ?_
  refine WC.ret ?_
  (repeat (first | refine WQ.thenRet ?_ | refine WQ.inBlockRet ?_ | refine WQ.cutRet ?_))
  obtain rfl := Option.some.inj h
  exact WQ.ret1 rfl rfl H.ext rfl
theorem R_LineUnits_ct {p0 : List UInt8} {vp0 : Value} {r : List (List UInt8)} (h : R_LineUnits p0 = some r) : Ct Tryd.prog 37 [vp0] (fun M => Sl M encB vp0 p0) (fun v M => Sl M encS v r) := by
  refine Ct.of Tryd.func37 (enters Tryd.func37 (by kernel_rfl) rfl) rfl rfl rfl ?_
  intro w0 M0 H hp
  have hp0 := hp
  unfold R_LineUnits at h
  refine WC.seq ?_
  refine WC.region ?_
  refine WR.step (Ex.assign rfl) (Wn.none rfl) rfl rfl ?_
  refine WR.nil ?_
  refine WQ.then ?_
  refine WC.seq ?_
  refine WC.region ?_
  refine WR.step (Ex.assign rfl) (Wn.none rfl) rfl rfl ?_
  refine WR.nil ?_
  refine WQ.then ?_
  refine WC.seq ?_
  refine WC.seq ?_
  refine WC.region ?_
  refine WR.step (Ex.assign rfl) (Wn.none rfl) rfl rfl ?_
  refine WR.nil ?_
  refine WQ.then ?_
  obtain ⟨o1, e2, h⟩ := bnd h
  refine WC.cutX (fun e w => ∃ (l4 : List (List UInt8)) (v5 : Value) (M : Mem), e = [(3, v5)] ∧ St w0 M0 M [RowI 9 encS v5 l4] w ∧ some l4 = some o1) [] ?_ ?_ (trivial)
  ·
    refine WC.block ?_
    replace H := H.newRow 9 encS
    refine WC.loopP (fun m e w => ∃ (l7 : List (List UInt8)) (v8 : Value) (n9 : Int) (M : Mem), e = [(0, vp0), (3, v8), (4, I n9)] ∧ St w0 M0 M [RowI 9 encS v8 l7] w ∧ Sl M encB vp0 p0 ∧ R_LineUnits_L1 p0 m l7 n9 = some o1) FU [(0, _), (3, _), (4, _)] ⟨rfl, rfl, rfl, trivial⟩ ⟨_, _, _, _, rfl, H, hp0, e2⟩ ?_
    rintro m10 e w ⟨l7, v8, n9, M, rfl, H, hp0, e2⟩
    rcases m10 with _ | m10
    · rw [R_LineUnits_L1] at e2; cases e2
    rw [R_LineUnits_L1] at e2
    refine WC.seq ?_
    refine WC.seq ?_
    refine WC.region ?_
    refine WR.step (Ex.move rfl) (Wn.none rfl) rfl rfl ?_
    refine WR.step (Ex.move rfl) (Wn.none rfl) rfl rfl ?_
    refine WR.step (Ex.lenSl Tryd.underlying22 hp0 rfl) (Wn.none rfl) rfl rfl ?_
    refine WR.step (Ex.lss rfl rfl) (Wn.none rfl) rfl rfl ?_
    refine WR.nil ?_
    refine WQ.then ?_
    refine WC.condB rfl (fun hk12 => ?_) (fun hk12 => ?_)
    ·
      replace hk12 : n9 < (p0.length : Int) := of_decide_eq_true hk12
      rw [if_pos hk12] at e2
      refine WC.skip ?_
      refine WQ.then ?_
      refine WC.seq ?_
      refine WC.block ?_
      refine WC.seq ?_
      obtain ⟨c13, hxc13, e2⟩ := bnd e2
      refine WC.region ?_
      refine WR.step (Ex.move rfl) (Wn.none rfl) rfl rfl ?_
      refine WR.step (Ex.move rfl) (Wn.none rfl) rfl rfl ?_
      refine WR.idxC Tryd.underlying22 Tryd.sizeOf5 (hp0) rfl rfl hxc13 (Wn.none rfl) rfl ?_
      intro p14 hc14
      refine WR.step (Ex.loadM H rfl hc14 Tryd.isAgg5) (Wn.none rfl) rfl rfl ?_
      refine WR.step (Ex.assign rfl) (Wn.none rfl) rfl rfl ?_
      refine WR.nil ?_
      refine WQ.then ?_
      refine WC.seq ?_
      obtain ⟨o14, e15, e2⟩ := bnd e2
      refine WC.cutX (fun e w => ∃ (b16 : Bool) (M : Mem), e = [(0, vp0), (3, v8), (4, I n9), (5, encB c13), (33, Value.bool b16)] ∧ St w0 M0 M [RowI 9 encS v8 l7] w ∧ Sl M encB vp0 p0 ∧ some b16 = some o14) [] ?_ ?_ (trivial)
      ·
        obtain ⟨b17, hx18, e15⟩ := bnd e15
        rcases b17 with _ | _
        ·
          rw [if_neg Bool.false_ne_true] at e15
          obtain ⟨b19, hx20, e15⟩ := bnd e15
          rcases b19 with _ | _
          ·
            rw [if_neg Bool.false_ne_true] at e15
            refine WC.region ?_
            refine WR.step (Ex.move rfl) (Wn.none rfl) rfl rfl ?_
            refine WR.step (Ex.convB Tryd.underlying5 Tryd.underlying3 rfl) (Wn.none rfl) rfl rfl ?_
            refine WR.call H (R_In_ct hx18) rfl trivial (Wn.none rfl) rfl ?_
            intro v18 M w H hle hR
            replace hp0 := hp0.mono hle
            replace hc14 := hc14.mono hle
            obtain rfl := hR
            refine WR.step (Ex.move rfl) (Wn.none rfl) rfl rfl ?_
            refine WR.skipG (b := false) rfl rfl rfl rfl rfl ?_
            refine WR.skipG (b := false) rfl rfl rfl rfl rfl ?_
            refine WR.step (Ex.pickF rfl rfl) (Wn.none rfl) rfl rfl ?_
            refine WR.step (Ex.move rfl) (Wn.none rfl) rfl rfl ?_
            refine WR.step (Ex.move rfl) (Wn.some rfl rfl rfl) rfl rfl ?_
            refine WR.call H (R_Blank_ct hx20) rfl trivial (Wn.some rfl rfl rfl) rfl ?_
            intro v25 M w H hle hR
            replace hp0 := hp0.mono hle
            replace hc14 := hc14.mono hle
            obtain rfl := hR
            refine WR.step (Ex.move rfl) (Wn.some rfl rfl rfl) rfl rfl ?_
            refine WR.skipG (b := false) rfl rfl rfl rfl rfl ?_
            refine WR.skipG (b := false) rfl rfl rfl rfl rfl ?_
            refine WR.skipG (b := false) rfl rfl rfl rfl rfl ?_
            refine WR.skipG (b := false) rfl rfl rfl rfl rfl ?_
            refine WR.skipG (b := false) rfl rfl rfl rfl rfl ?_
            refine WR.step (Ex.pickF rfl rfl) (Wn.some rfl rfl rfl) rfl rfl ?_
            refine WR.step (Ex.pickF rfl rfl) (Wn.none rfl) rfl rfl ?_
            refine WR.nil ?_
            exact WQ.meetN [(0, _), (3, _), (4, _), (5, _), (33, _)] ⟨rfl, rfl, rfl, rfl, rfl, trivial⟩ ⟨_, _, rfl, H, hp0, e15⟩
          ·
            rw [if_pos rfl] at e15
            obtain ⟨n21, hxn21, e15⟩ := bnd e15
            refine WC.region ?_
            refine WR.step (Ex.move rfl) (Wn.none rfl) rfl rfl ?_
            refine WR.step (Ex.convB Tryd.underlying5 Tryd.underlying3 rfl) (Wn.none rfl) rfl rfl ?_
            refine WR.call H (R_In_ct hx18) rfl trivial (Wn.none rfl) rfl ?_
            intro v18 M w H hle hR
            replace hp0 := hp0.mono hle
            replace hc14 := hc14.mono hle
            obtain rfl := hR
            refine WR.step (Ex.move rfl) (Wn.none rfl) rfl rfl ?_
            refine WR.skipG (b := false) rfl rfl rfl rfl rfl ?_
            refine WR.skipG (b := false) rfl rfl rfl rfl rfl ?_
            refine WR.step (Ex.pickF rfl rfl) (Wn.none rfl) rfl rfl ?_
            refine WR.step (Ex.move rfl) (Wn.none rfl) rfl rfl ?_
            refine WR.step (Ex.move rfl) (Wn.some rfl rfl rfl) rfl rfl ?_
            refine WR.call H (R_Blank_ct hx20) rfl trivial (Wn.some rfl rfl rfl) rfl ?_
            intro v25 M w H hle hR
            replace hp0 := hp0.mono hle
            replace hc14 := hc14.mono hle
            obtain rfl := hR
            refine WR.step (Ex.move rfl) (Wn.some rfl rfl rfl) rfl rfl ?_
            refine WR.step (Ex.move rfl) (Wn.some rfl rfl rfl) rfl rfl ?_
            refine WR.step (Ex.addC rfl rfl hxn21) (Wn.some rfl rfl rfl) rfl rfl ?_
            refine WR.step (Ex.move rfl) (Wn.some rfl rfl rfl) rfl rfl ?_
            refine WR.step (Ex.lenSl Tryd.underlying22 hp0 rfl) (Wn.some rfl rfl rfl) rfl rfl ?_
            refine WR.step (Ex.lss rfl rfl) (Wn.some rfl rfl rfl) rfl rfl ?_
            refine WR.step (Ex.pickT rfl rfl) (Wn.some rfl rfl rfl) rfl rfl ?_
            refine WR.step (Ex.pickF rfl rfl) (Wn.none rfl) rfl rfl ?_
            refine WR.nil ?_
            exact WQ.meetN [(0, _), (3, _), (4, _), (5, _), (33, _)] ⟨rfl, rfl, rfl, rfl, rfl, trivial⟩ ⟨_, _, rfl, H, hp0, e15⟩
        ·
          rw [if_pos rfl] at e15
          by_cases hk22 : c13 = 61
          ·
            rw [if_pos hk22] at e15
            obtain ⟨b23, hx24, e15⟩ := bnd e15
            rcases b23 with _ | _
            ·
              rw [if_neg Bool.false_ne_true] at e15
              refine WC.region ?_
              refine WR.step (Ex.move rfl) (Wn.none rfl) rfl rfl ?_
              refine WR.step (Ex.convB Tryd.underlying5 Tryd.underlying3 rfl) (Wn.none rfl) rfl rfl ?_
              refine WR.call H (R_In_ct hx18) rfl trivial (Wn.none rfl) rfl ?_
              intro v18 M w H hle hR
              replace hp0 := hp0.mono hle
              replace hc14 := hc14.mono hle
              obtain rfl := hR
              refine WR.step (Ex.move rfl) (Wn.none rfl) rfl rfl ?_
              refine WR.step (Ex.move rfl) (Wn.some rfl rfl rfl) rfl rfl ?_
              refine WR.stepE (v' := .bool false) (Ex.neqB (c := c13) (d := 61) rfl rfl) (congrArg Value.bool (by rw [decide_eq_true hk22]; rfl)) (Wn.some rfl rfl rfl) rfl rfl ?_
              refine WR.step (Ex.pickT rfl rfl) (Wn.none rfl) rfl rfl ?_
              refine WR.step (Ex.move rfl) (Wn.none rfl) rfl rfl ?_
              refine WR.step (Ex.move rfl) (Wn.some rfl rfl rfl) rfl rfl ?_
              refine WR.call H (R_Blank_ct hx24) rfl trivial (Wn.some rfl rfl rfl) rfl ?_
              intro v25 M w H hle hR
              replace hp0 := hp0.mono hle
              replace hc14 := hc14.mono hle
              obtain rfl := hR
              refine WR.step (Ex.move rfl) (Wn.some rfl rfl rfl) rfl rfl ?_
              refine WR.skipG (b := false) rfl rfl rfl rfl rfl ?_
              refine WR.skipG (b := false) rfl rfl rfl rfl rfl ?_
              refine WR.skipG (b := false) rfl rfl rfl rfl rfl ?_
              refine WR.skipG (b := false) rfl rfl rfl rfl rfl ?_
              refine WR.skipG (b := false) rfl rfl rfl rfl rfl ?_
              refine WR.step (Ex.pickF rfl rfl) (Wn.some rfl rfl rfl) rfl rfl ?_
              refine WR.step (Ex.pickF rfl rfl) (Wn.none rfl) rfl rfl ?_
              refine WR.nil ?_
              exact WQ.meetN [(0, _), (3, _), (4, _), (5, _), (33, _)] ⟨rfl, rfl, rfl, rfl, rfl, trivial⟩ ⟨_, _, rfl, H, hp0, e15⟩
            ·
              rw [if_pos rfl] at e15
              obtain ⟨n25, hxn25, e15⟩ := bnd e15
              refine WC.region ?_
              refine WR.step (Ex.move rfl) (Wn.none rfl) rfl rfl ?_
              refine WR.step (Ex.convB Tryd.underlying5 Tryd.underlying3 rfl) (Wn.none rfl) rfl rfl ?_
              refine WR.call H (R_In_ct hx18) rfl trivial (Wn.none rfl) rfl ?_
              intro v18 M w H hle hR
              replace hp0 := hp0.mono hle
              replace hc14 := hc14.mono hle
              obtain rfl := hR
              refine WR.step (Ex.move rfl) (Wn.none rfl) rfl rfl ?_
              refine WR.step (Ex.move rfl) (Wn.some rfl rfl rfl) rfl rfl ?_
              refine WR.stepE (v' := .bool false) (Ex.neqB (c := c13) (d := 61) rfl rfl) (congrArg Value.bool (by rw [decide_eq_true hk22]; rfl)) (Wn.some rfl rfl rfl) rfl rfl ?_
              refine WR.step (Ex.pickT rfl rfl) (Wn.none rfl) rfl rfl ?_
              refine WR.step (Ex.move rfl) (Wn.none rfl) rfl rfl ?_
              refine WR.step (Ex.move rfl) (Wn.some rfl rfl rfl) rfl rfl ?_
              refine WR.call H (R_Blank_ct hx24) rfl trivial (Wn.some rfl rfl rfl) rfl ?_
              intro v25 M w H hle hR
              replace hp0 := hp0.mono hle
              replace hc14 := hc14.mono hle
              obtain rfl := hR
              refine WR.step (Ex.move rfl) (Wn.some rfl rfl rfl) rfl rfl ?_
              refine WR.step (Ex.move rfl) (Wn.some rfl rfl rfl) rfl rfl ?_
              refine WR.step (Ex.addC rfl rfl hxn25) (Wn.some rfl rfl rfl) rfl rfl ?_
              refine WR.step (Ex.move rfl) (Wn.some rfl rfl rfl) rfl rfl ?_
              refine WR.step (Ex.lenSl Tryd.underlying22 hp0 rfl) (Wn.some rfl rfl rfl) rfl rfl ?_
              refine WR.step (Ex.lss rfl rfl) (Wn.some rfl rfl rfl) rfl rfl ?_
              refine WR.step (Ex.pickT rfl rfl) (Wn.some rfl rfl rfl) rfl rfl ?_
              refine WR.step (Ex.pickF rfl rfl) (Wn.none rfl) rfl rfl ?_
              refine WR.nil ?_
              exact WQ.meetN [(0, _), (3, _), (4, _), (5, _), (33, _)] ⟨rfl, rfl, rfl, rfl, rfl, trivial⟩ ⟨_, _, rfl, H, hp0, e15⟩
          ·
            rw [if_neg hk22] at e15
            refine WC.region ?_
            refine WR.step (Ex.move rfl) (Wn.none rfl) rfl rfl ?_
            refine WR.step (Ex.convB Tryd.underlying5 Tryd.underlying3 rfl) (Wn.none rfl) rfl rfl ?_
            refine WR.call H (R_In_ct hx18) rfl trivial (Wn.none rfl) rfl ?_
            intro v18 M w H hle hR
            replace hp0 := hp0.mono hle
            replace hc14 := hc14.mono hle
            obtain rfl := hR
            refine WR.step (Ex.move rfl) (Wn.none rfl) rfl rfl ?_
            refine WR.step (Ex.move rfl) (Wn.some rfl rfl rfl) rfl rfl ?_
            refine WR.stepE (v' := .bool true) (Ex.neqB (c := c13) (d := 61) rfl rfl) (congrArg Value.bool (by rw [decide_eq_false hk22]; rfl)) (Wn.some rfl rfl rfl) rfl rfl ?_
            refine WR.step (Ex.pickT rfl rfl) (Wn.none rfl) rfl rfl ?_
            refine WR.step (Ex.move rfl) (Wn.none rfl) rfl rfl ?_
            refine WR.skipG (b := true) rfl rfl rfl rfl rfl ?_
            refine WR.skipG (b := true) rfl rfl rfl rfl rfl ?_
            refine WR.skipG (b := true) rfl rfl rfl rfl rfl ?_
            refine WR.skipU rfl rfl rfl rfl rfl ?_
            refine WR.skipU rfl rfl rfl rfl rfl ?_
            refine WR.skipU rfl rfl rfl rfl rfl ?_
            refine WR.skipU rfl rfl rfl rfl rfl ?_
            refine WR.skipU rfl rfl rfl rfl rfl ?_
            refine WR.skipG (b := true) rfl rfl rfl rfl rfl ?_
            refine WR.step (Ex.pickT rfl rfl) (Wn.none rfl) rfl rfl ?_
            refine WR.nil ?_
            exact WQ.meetN [(0, _), (3, _), (4, _), (5, _), (33, _)] ⟨rfl, rfl, rfl, rfl, rfl, trivial⟩ ⟨_, _, rfl, H, hp0, e15⟩
      ·
        rintro e w ⟨b16, M, rfl, H, hp0, q26⟩
        obtain rfl := Option.some.inj q26
        refine WQ.then ?_
        refine WC.condB rfl (fun hk27 => ?_) (fun hk27 => ?_)
        ·
          rw [if_pos hk27] at e2
          subst hk27
          obtain ⟨l28, hxl28, e2⟩ := bnd e2
          refine WC.region ?_
          refine WR.step (Ex.move rfl) (Wn.none rfl) rfl rfl ?_
          refine WR.step (Ex.move rfl) (Wn.none rfl) rfl rfl ?_
          refine WR.lit (enc := encB) xty22 ([c13] : List UInt8) H rfl (by rfl) (fun _ => rfl) rfl rfl (Wn.none rfl) rfl ?_
          intro v36 M w H hle hs36
          replace hp0 := hp0.mono hle
          refine WR.step (Ex.toStr Tryd.underlying22 Tryd.underlying5 Tryd.underlying9 H (hs36) rfl) (Wn.none rfl) rfl rfl ?_
          refine WR.lit (enc := encS) xty35 ([([c13] : List UInt8)] : List (List UInt8)) H rfl (by rfl) (fun _ => rfl) rfl rfl (Wn.none rfl) rfl ?_
          intro v38 M w H hle hs38
          replace hp0 := hp0.mono hle
          replace hs36 := hs36.mono hle
          refine WR.appC (l := l7) xty35 rfl (fun _ => rfl) H rfl (fun _ => by repeat (first | exact Upd.head | apply Upd.tail)) rfl (hs38) hxl28 (Wn.none rfl) rfl ?_
          intro v39 w H
          refine WR.step (Ex.assign rfl) (Wn.none rfl) rfl rfl ?_
          refine WR.nil ?_
          refine WQ.inBlock ?_
          refine WQ.then ?_
          obtain ⟨n29, hxn29, e2⟩ := bnd e2
          refine WC.region ?_
          refine WR.step (Ex.move rfl) (Wn.none rfl) rfl rfl ?_
          refine WR.step (Ex.addC rfl rfl hxn29) (Wn.none rfl) rfl rfl ?_
          refine WR.step (Ex.assign rfl) (Wn.none rfl) rfl rfl ?_
          refine WR.nil ?_
          exact WQ.againP m10 [(0, _), (3, _), (4, _)] ⟨rfl, rfl, rfl, trivial⟩ ⟨_, _, _, _, rfl, H, hp0, e2⟩ (Nat.lt_succ_self _)
        ·
          rw [if_neg (by rw [hk27]; exact Bool.false_ne_true)] at e2
          subst hk27
          obtain ⟨s30, hx31, e2⟩ := bnd e2
          obtain ⟨s32, hxs32, e2⟩ := bnd e2
          obtain ⟨l33, hxl33, e2⟩ := bnd e2
          refine WC.region ?_
          refine WR.step (Ex.move rfl) (Wn.none rfl) rfl rfl ?_
          refine WR.step (Ex.move rfl) (Wn.none rfl) rfl rfl ?_
          refine WR.call H (R_Two_ct hx31) rfl trivial (Wn.none rfl) rfl ?_
          intro v42 M w H hle hR
          replace hp0 := hp0.mono hle
          obtain rfl := hR
          refine WR.step (Ex.strAddC rfl rfl hxs32) (Wn.none rfl) rfl rfl ?_
          refine WR.lit (enc := encS) xty35 ([s32] : List (List UInt8)) H rfl (by rfl) (fun _ => rfl) rfl rfl (Wn.none rfl) rfl ?_
          intro v44 M w H hle hs44
          replace hp0 := hp0.mono hle
          refine WR.appC (l := l7) xty35 rfl (fun _ => rfl) H rfl (fun _ => by repeat (first | exact Upd.head | apply Upd.tail)) rfl (hs44) hxl33 (Wn.none rfl) rfl ?_
          intro v45 w H
          refine WR.step (Ex.assign rfl) (Wn.none rfl) rfl rfl ?_
          refine WR.nil ?_
          refine WQ.inBlock ?_
          refine WQ.then ?_
          obtain ⟨n34, hxn34, e2⟩ := bnd e2
          refine WC.region ?_
          refine WR.step (Ex.move rfl) (Wn.none rfl) rfl rfl ?_
          refine WR.step (Ex.addC rfl rfl hxn34) (Wn.none rfl) rfl rfl ?_
          refine WR.step (Ex.assign rfl) (Wn.none rfl) rfl rfl ?_
          refine WR.nil ?_
          exact WQ.againP m10 [(0, _), (3, _), (4, _)] ⟨rfl, rfl, rfl, trivial⟩ ⟨_, _, _, _, rfl, H, hp0, e2⟩ (Nat.lt_succ_self _)
    ·
      replace hk12 : ¬ (n9 < (p0.length : Int)) := of_decide_eq_false hk12
      rw [if_neg hk12] at e2
      refine WC.exit ?_
      refine WQ.thenExit ?_
      refine WQ.thenExit ?_
      refine WQ.exitHere ?_
      exact WQ.meetN [(3, _)] ⟨rfl, trivial⟩ ⟨_, _, _, rfl, H, e2⟩
  ·
    rintro e w ⟨l4, v5, M, rfl, H, q35⟩
    obtain rfl := Option.some.inj q35
    refine WQ.then ?_
    refine WC.seq ?_
    refine WC.region ?_
    refine WR.step (Ex.move rfl) (Wn.none rfl) rfl rfl ?_
    refine WR.step (Ex.assign rfl) (Wn.none rfl) rfl rfl ?_
    refine WR.nil ?_
    refine WQ.then ?_
    refine WC.ret ?_
    (repeat (first | refine WQ.thenRet ?_ | refine WQ.inBlockRet ?_ | refine WQ.cutRet ?_))
    obtain ⟨M, hle, hs36, H⟩ := H.freezeRow (v := v5) (enc := encS) (t := 9) (by repeat (first | exact Rem.head | apply Rem.tail))
    obtain rfl := Option.some.inj h
    exact WQ.ret1 rfl rfl H.ext hs36
theorem R_Quoted_ct {p0 : List UInt8} {vp0 : Value} {r : List UInt8} (h : R_Quoted p0 = some r) : Ct Tryd.prog 16 [vp0] (fun M => Sl M encB vp0 p0) (fun v M => Sl M encB v r) := by
  refine Ct.of Tryd.func16 (enters Tryd.func16 (by kernel_rfl) rfl) rfl rfl rfl ?_
  intro w0 M0 H hp
  have hp0 := hp
  unfold R_Quoted at h
  refine WC.seq ?_
  refine WC.region ?_
  refine WR.step (Ex.assign rfl) (Wn.none rfl) rfl rfl ?_
  refine WR.nil ?_
  refine WQ.then ?_
  refine WC.seq ?_
  refine WC.region ?_
  refine WR.step (Ex.assign rfl) (Wn.none rfl) rfl rfl ?_
  refine WR.nil ?_
  refine WQ.then ?_
  refine WC.seq ?_
  refine WC.seq ?_
  refine WC.region ?_
  refine WR.step (Ex.assign rfl) (Wn.none rfl) rfl rfl ?_
  refine WR.nil ?_
  refine WQ.then ?_
  obtain ⟨o1, e2, h⟩ := bnd h
  refine WC.cutX (fun e w => ∃ (s3 : List UInt8) (M : Mem), e = [(3, S s3)] ∧ St w0 M0 M [] w ∧ some s3 = some o1) [] ?_ ?_ (trivial)
  ·
    refine WC.block ?_
    refine WC.loopP (fun m e w => ∃ (s4 : List UInt8) (n5 : Int) (M : Mem), e = [(0, vp0), (3, S s4), (4, I n5)] ∧ St w0 M0 M [] w ∧ Sl M encB vp0 p0 ∧ R_Quoted_L1 p0 m s4 n5 = some o1) FU [(0, _), (3, _), (4, _)] ⟨rfl, rfl, rfl, trivial⟩ ⟨_, _, _, rfl, H, hp0, e2⟩ ?_
    rintro m6 e w ⟨s4, n5, M, rfl, H, hp0, e2⟩
    rcases m6 with _ | m6
    · rw [R_Quoted_L1] at e2; cases e2
    rw [R_Quoted_L1] at e2
    refine WC.seq ?_
    refine WC.seq ?_
    refine WC.region ?_
    refine WR.step (Ex.move rfl) (Wn.none rfl) rfl rfl ?_
    refine WR.step (Ex.move rfl) (Wn.none rfl) rfl rfl ?_
    refine WR.step (Ex.lenSl Tryd.underlying22 hp0 rfl) (Wn.none rfl) rfl rfl ?_
    refine WR.step (Ex.leq rfl rfl) (Wn.none rfl) rfl rfl ?_
    refine WR.nil ?_
    refine WQ.then ?_
    refine WC.condB rfl (fun hk7 => ?_) (fun hk7 => ?_)
    ·
      replace hk7 : n5 ≤ (p0.length : Int) := of_decide_eq_true hk7
      rw [if_pos hk7] at e2
      refine WC.skip ?_
      refine WQ.then ?_
      refine WC.block ?_
      refine WC.seq ?_
      refine WC.region ?_
      refine WR.step (Ex.move rfl) (Wn.none rfl) rfl rfl ?_
      refine WR.step (Ex.assign rfl) (Wn.none rfl) rfl rfl ?_
      refine WR.nil ?_
      refine WQ.then ?_
      refine WC.seq ?_
      obtain ⟨o8, e9, e2⟩ := bnd e2
      refine WC.cutX (fun e w => ∃ (n10 : Int) (M : Mem), e = [(0, vp0), (3, S s4), (4, I n5), (5, I n10)] ∧ St w0 M0 M [] w ∧ Sl M encB vp0 p0 ∧ some n10 = some o8) [] ?_ ?_ (trivial)
      ·
        refine WC.block ?_
        refine WC.loopP (fun m e w => ∃ (n11 : Int) (M : Mem), e = [(0, vp0), (3, S s4), (4, I n5), (5, I n11)] ∧ St w0 M0 M [] w ∧ Sl M encB vp0 p0 ∧ R_Quoted_L2 p0 m n11 = some o8) FU [(0, _), (3, _), (4, _), (5, _)] ⟨rfl, rfl, rfl, rfl, trivial⟩ ⟨_, _, rfl, H, hp0, e9⟩ ?_
        rintro m12 e w ⟨n11, M, rfl, H, hp0, e9⟩
        rcases m12 with _ | m12
        · rw [R_Quoted_L2] at e9; cases e9
        rw [R_Quoted_L2] at e9
        refine WC.seq ?_
        refine WC.seq ?_
        obtain ⟨o13, e14, e9⟩ := bnd e9
        refine WC.cutX (fun e w => ∃ (b15 : Bool) (M : Mem), e = [(0, vp0), (3, S s4), (4, I n5), (5, I n11), (24, Value.bool b15)] ∧ St w0 M0 M [] w ∧ Sl M encB vp0 p0 ∧ some b15 = some o13) [] ?_ ?_ (trivial)
        ·
          by_cases hk16 : n11 < (p0.length : Int)
          ·
            rw [if_pos hk16] at e14
            obtain ⟨b17, hx18, e14⟩ := bnd e14
            refine WC.region ?_
            refine WR.step (Ex.move rfl) (Wn.none rfl) rfl rfl ?_
            refine WR.step (Ex.move rfl) (Wn.none rfl) rfl rfl ?_
            refine WR.step (Ex.lenSl Tryd.underlying22 hp0 rfl) (Wn.none rfl) rfl rfl ?_
            refine WR.stepE (v' := .bool true) (Ex.lss rfl rfl) (congrArg Value.bool (decide_eq_true hk16)) (Wn.none rfl) rfl rfl ?_
            refine WR.step (Ex.move rfl) (Wn.none rfl) rfl rfl ?_
            refine WR.step (Ex.move rfl) (Wn.some rfl rfl rfl) rfl rfl ?_
            refine WR.step (Ex.move rfl) (Wn.some rfl rfl rfl) rfl rfl ?_
            refine WR.call H (R_Crlf_ct hx18) rfl (hp0) (Wn.some rfl rfl rfl) rfl ?_
            intro v22 M w H hle hR
            replace hp0 := hp0.mono hle
            obtain rfl := hR
            refine WR.step (Ex.not rfl) (Wn.some rfl rfl rfl) rfl rfl ?_
            refine WR.step (Ex.pickT rfl rfl) (Wn.none rfl) rfl rfl ?_
            refine WR.nil ?_
            exact WQ.meetN [(0, _), (3, _), (4, _), (5, _), (24, _)] ⟨rfl, rfl, rfl, rfl, rfl, trivial⟩ ⟨_, _, rfl, H, hp0, e14⟩
          ·
            rw [if_neg hk16] at e14
            refine WC.region ?_
            refine WR.step (Ex.move rfl) (Wn.none rfl) rfl rfl ?_
            refine WR.step (Ex.move rfl) (Wn.none rfl) rfl rfl ?_
            refine WR.step (Ex.lenSl Tryd.underlying22 hp0 rfl) (Wn.none rfl) rfl rfl ?_
            refine WR.stepE (v' := .bool false) (Ex.lss rfl rfl) (congrArg Value.bool (decide_eq_false hk16)) (Wn.none rfl) rfl rfl ?_
            refine WR.step (Ex.move rfl) (Wn.none rfl) rfl rfl ?_
            refine WR.skipG (b := false) rfl rfl rfl rfl rfl ?_
            refine WR.skipG (b := false) rfl rfl rfl rfl rfl ?_
            refine WR.skipG (b := false) rfl rfl rfl rfl rfl ?_
            refine WR.skipG (b := false) rfl rfl rfl rfl rfl ?_
            refine WR.step (Ex.pickF rfl rfl) (Wn.none rfl) rfl rfl ?_
            refine WR.nil ?_
            exact WQ.meetN [(0, _), (3, _), (4, _), (5, _), (24, _)] ⟨rfl, rfl, rfl, rfl, rfl, trivial⟩ ⟨_, _, rfl, H, hp0, e14⟩
        ·
          rintro e w ⟨b15, M, rfl, H, hp0, q19⟩
          obtain rfl := Option.some.inj q19
          refine WQ.then ?_
          refine WC.condB rfl (fun hk20 => ?_) (fun hk20 => ?_)
          ·
            rw [if_pos hk20] at e9
            subst hk20
            refine WC.skip ?_
            refine WQ.then ?_
            refine WC.block ?_
            obtain ⟨n21, hxn21, e9⟩ := bnd e9
            refine WC.region ?_
            refine WR.step (Ex.move rfl) (Wn.none rfl) rfl rfl ?_
            refine WR.step (Ex.addC rfl rfl hxn21) (Wn.none rfl) rfl rfl ?_
            refine WR.step (Ex.assign rfl) (Wn.none rfl) rfl rfl ?_
            refine WR.nil ?_
            refine WQ.inBlock ?_
            exact WQ.againP m12 [(0, _), (3, _), (4, _), (5, _)] ⟨rfl, rfl, rfl, rfl, trivial⟩ ⟨_, _, rfl, H, hp0, e9⟩ (Nat.lt_succ_self _)
          ·
            rw [if_neg (by rw [hk20]; exact Bool.false_ne_true)] at e9
            subst hk20
            refine WC.exit ?_
            refine WQ.thenExit ?_
            refine WQ.thenExit ?_
            refine WQ.exitHere ?_
            exact WQ.meetN [(0, _), (3, _), (4, _), (5, _)] ⟨rfl, rfl, rfl, rfl, trivial⟩ ⟨_, _, rfl, H, hp0, e9⟩
      ·
        rintro e w ⟨n10, M, rfl, H, hp0, q22⟩
        obtain rfl := Option.some.inj q22
        refine WQ.then ?_
        refine WC.seq ?_
        obtain ⟨l23, hxl23, e2⟩ := bnd e2
        obtain ⟨l24, hx25, e2⟩ := bnd e2
        refine WC.region ?_
        refine WR.step (Ex.move rfl) (Wn.none rfl) rfl rfl ?_
        refine WR.step (Ex.move rfl) (Wn.none rfl) rfl rfl ?_
        refine WR.step (Ex.move rfl) (Wn.none rfl) rfl rfl ?_
        refine WR.sliceC Tryd.underlying22 Tryd.sizeOf5 (hp0) rfl rfl rfl hxl23 (Wn.none rfl) rfl ?_
        intro v30 hs30
        refine WR.call H (R_LineUnits_ct hx25) rfl (hs30) (Wn.none rfl) rfl ?_
        intro v31 M w H hle hR
        replace hp0 := hp0.mono hle
        replace hs30 := hs30.mono hle
        have f31_0 := hR
        refine WR.step (Ex.assign rfl) (Wn.none rfl) rfl rfl ?_
        refine WR.nil ?_
        refine WQ.then ?_
        refine WC.seq ?_
        refine WC.region ?_
        refine WR.step (Ex.assign rfl) (Wn.none rfl) rfl rfl ?_
        refine WR.nil ?_
        refine WQ.then ?_
        refine WC.seq ?_
        refine WC.seq ?_
        refine WC.region ?_
        refine WR.step (Ex.assign rfl) (Wn.none rfl) rfl rfl ?_
        refine WR.nil ?_
        refine WQ.then ?_
        obtain ⟨o26, e27, e2⟩ := bnd e2
        refine WC.cutX (fun e w => ∃ (s28 : List UInt8) (M : Mem), e = [(0, vp0), (3, S s28), (5, I n10)] ∧ St w0 M0 M [] w ∧ Sl M encB vp0 p0 ∧ some s28 = some o26) [] ?_ ?_ (trivial)
        ·
          refine WC.block ?_
          refine WC.loopP (fun m e w => ∃ (s29 : List UInt8) (n30 : Int) (n31 : Int) (M : Mem), e = [(0, vp0), (3, S s29), (5, I n10), (6, v31), (7, I n30), (8, I n31)] ∧ St w0 M0 M [] w ∧ Sl M encB vp0 p0 ∧ Sl M encS v31 l24 ∧ R_Quoted_L3 l24 m s29 n30 n31 = some o26) FU [(0, _), (3, _), (5, _), (6, _), (7, _), (8, _)] ⟨rfl, rfl, rfl, rfl, rfl, rfl, trivial⟩ ⟨_, _, _, _, rfl, H, hp0, f31_0, e27⟩ ?_
          rintro m32 e w ⟨s29, n30, n31, M, rfl, H, hp0, f31_0, e27⟩
          rcases m32 with _ | m32
          · rw [R_Quoted_L3] at e27; cases e27
          rw [R_Quoted_L3] at e27
          refine WC.seq ?_
          refine WC.seq ?_
          refine WC.region ?_
          refine WR.step (Ex.move rfl) (Wn.none rfl) rfl rfl ?_
          refine WR.step (Ex.move rfl) (Wn.none rfl) rfl rfl ?_
          refine WR.step (Ex.lenSl Tryd.underlying35 f31_0 rfl) (Wn.none rfl) rfl rfl ?_
          refine WR.step (Ex.lss rfl rfl) (Wn.none rfl) rfl rfl ?_
          refine WR.nil ?_
          refine WQ.then ?_
          refine WC.condB rfl (fun hk33 => ?_) (fun hk33 => ?_)
          ·
            replace hk33 : n31 < (l24.length : Int) := of_decide_eq_true hk33
            rw [if_pos hk33] at e27
            refine WC.skip ?_
            refine WQ.then ?_
            refine WC.seq ?_
            refine WC.block ?_
            refine WC.seq ?_
            refine WC.region ?_
            refine WR.step (Ex.assign rfl) (Wn.none rfl) rfl rfl ?_
            refine WR.nil ?_
            refine WQ.then ?_
            refine WC.seq ?_
            refine WC.seq ?_
            obtain ⟨n34, hxn34, e27⟩ := bnd e27
            refine WC.region ?_
            refine WR.step (Ex.move rfl) (Wn.none rfl) rfl rfl ?_
            refine WR.step (Ex.addC rfl rfl hxn34) (Wn.none rfl) rfl rfl ?_
            refine WR.step (Ex.move rfl) (Wn.none rfl) rfl rfl ?_
            refine WR.step (Ex.lenSl Tryd.underlying35 f31_0 rfl) (Wn.none rfl) rfl rfl ?_
            refine WR.step (Ex.eql rfl rfl) (Wn.none rfl) rfl rfl ?_
            refine WR.nil ?_
            refine WQ.then ?_
            obtain ⟨o35, e36, e27⟩ := bnd e27
            refine WC.cutX (fun e w => ∃ (n37 : Int) (M : Mem), e = [(0, vp0), (3, S s29), (5, I n10), (6, v31), (7, I n30), (8, I n31), (9, I n37)] ∧ St w0 M0 M [] w ∧ Sl M encB vp0 p0 ∧ Sl M encS v31 l24 ∧ some n37 = some o35) [] ?_ ?_ (trivial)
            ·
              refine WC.condB rfl (fun hk38 => ?_) (fun hk38 => ?_)
              ·
                replace hk38 : n34 = (l24.length : Int) := of_decide_eq_true hk38
                rw [if_pos hk38] at e36
                refine WC.region ?_
                refine WR.step (Ex.assign rfl) (Wn.none rfl) rfl rfl ?_
                refine WR.nil ?_
                exact WQ.meetN [(0, _), (3, _), (5, _), (6, _), (7, _), (8, _), (9, _)] ⟨rfl, rfl, rfl, rfl, rfl, rfl, rfl, trivial⟩ ⟨_, _, rfl, H, hp0, f31_0, e36⟩
              ·
                replace hk38 : ¬ (n34 = (l24.length : Int)) := of_decide_eq_false hk38
                rw [if_neg hk38] at e36
                refine WC.skip ?_
                exact WQ.meetN [(0, _), (3, _), (5, _), (6, _), (7, _), (8, _), (9, _)] ⟨rfl, rfl, rfl, rfl, rfl, rfl, rfl, trivial⟩ ⟨_, _, rfl, H, hp0, f31_0, e36⟩
            ·
              rintro e w ⟨n37, M, rfl, H, hp0, f31_0, q39⟩
              obtain rfl := Option.some.inj q39
              refine WQ.then ?_
              refine WC.seq ?_
              refine WC.seq ?_
              obtain ⟨a40, hxa40, e27⟩ := bnd e27
              obtain ⟨n41, hxn41, e27⟩ := bnd e27
              refine WC.region ?_
              refine WR.step (Ex.move rfl) (Wn.none rfl) rfl rfl ?_
              refine WR.step (Ex.move rfl) (Wn.none rfl) rfl rfl ?_
              refine WR.step (Ex.move rfl) (Wn.none rfl) rfl rfl ?_
              refine WR.idxC Tryd.underlying35 Tryd.sizeOf9 (f31_0) rfl rfl hxa40 (Wn.none rfl) rfl ?_
              intro p46 hc46
              refine WR.step (Ex.loadM H rfl hc46 Tryd.isAgg9) (Wn.none rfl) rfl rfl ?_
              refine WR.step (Ex.lenStr Tryd.underlying9 rfl) (Wn.none rfl) rfl rfl ?_
              refine WR.step (Ex.addC rfl rfl hxn41) (Wn.none rfl) rfl rfl ?_
              refine WR.step (Ex.move rfl) (Wn.none rfl) rfl rfl ?_
              refine WR.step (Ex.gtr rfl rfl) (Wn.none rfl) rfl rfl ?_
              refine WR.nil ?_
              refine WQ.then ?_
              obtain ⟨o42, e43, e27⟩ := bnd e27
              refine WC.cutX (fun e w => ∃ (s44 : List UInt8) (n45 : Int) (M : Mem), e = [(0, vp0), (3, S s44), (5, I n10), (6, v31), (7, I n45), (8, I n31)] ∧ St w0 M0 M [] w ∧ Sl M encB vp0 p0 ∧ Sl M encS v31 l24 ∧ some (s44, n45) = some o42) [] ?_ ?_ (trivial)
              ·
                refine WC.condB rfl (fun hk46 => ?_) (fun hk46 => ?_)
                ·
                  replace hk46 : n37 < n41 := of_decide_eq_true hk46
                  rw [if_pos hk46] at e43
                  refine WC.seq ?_
                  obtain ⟨s47, hxs47, e43⟩ := bnd e43
                  refine WC.region ?_
                  refine WR.step (Ex.move rfl) (Wn.none rfl) rfl rfl ?_
                  refine WR.step (Ex.strAddC rfl rfl hxs47) (Wn.none rfl) rfl rfl ?_
                  refine WR.step (Ex.assign rfl) (Wn.none rfl) rfl rfl ?_
                  refine WR.nil ?_
                  refine WQ.then ?_
                  refine WC.region ?_
                  refine WR.step (Ex.assign rfl) (Wn.none rfl) rfl rfl ?_
                  refine WR.nil ?_
                  exact WQ.meetN [(0, _), (3, _), (5, _), (6, _), (7, _), (8, _)] ⟨rfl, rfl, rfl, rfl, rfl, rfl, trivial⟩ ⟨_, _, _, rfl, H, hp0, f31_0, e43⟩
                ·
                  replace hk46 : ¬ (n37 < n41) := of_decide_eq_false hk46
                  rw [if_neg hk46] at e43
                  refine WC.skip ?_
                  exact WQ.meetN [(0, _), (3, _), (5, _), (6, _), (7, _), (8, _)] ⟨rfl, rfl, rfl, rfl, rfl, rfl, trivial⟩ ⟨_, _, _, rfl, H, hp0, f31_0, e43⟩
              ·
                rintro e w ⟨s44, n45, M, rfl, H, hp0, f31_0, q48⟩
                obtain rfl := Option.some.inj q48
                dsimp only at e27
                refine WQ.then ?_
                refine WC.seq ?_
                obtain ⟨a49, hxa49, e27⟩ := bnd e27
                obtain ⟨s50, hxs50, e27⟩ := bnd e27
                refine WC.region ?_
                refine WR.step (Ex.move rfl) (Wn.none rfl) rfl rfl ?_
                refine WR.step (Ex.move rfl) (Wn.none rfl) rfl rfl ?_
                refine WR.step (Ex.move rfl) (Wn.none rfl) rfl rfl ?_
                refine WR.idxC Tryd.underlying35 Tryd.sizeOf9 (f31_0) rfl rfl hxa49 (Wn.none rfl) rfl ?_
                intro p57 hc57
                refine WR.step (Ex.loadM H rfl hc57 Tryd.isAgg9) (Wn.none rfl) rfl rfl ?_
                refine WR.step (Ex.strAddC rfl rfl hxs50) (Wn.none rfl) rfl rfl ?_
                refine WR.step (Ex.assign rfl) (Wn.none rfl) rfl rfl ?_
                refine WR.nil ?_
                refine WQ.then ?_
                obtain ⟨a51, hxa51, e27⟩ := bnd e27
                obtain ⟨n52, hxn52, e27⟩ := bnd e27
                refine WC.region ?_
                refine WR.step (Ex.move rfl) (Wn.none rfl) rfl rfl ?_
                refine WR.step (Ex.move rfl) (Wn.none rfl) rfl rfl ?_
                refine WR.step (Ex.move rfl) (Wn.none rfl) rfl rfl ?_
                refine WR.idxC Tryd.underlying35 Tryd.sizeOf9 (f31_0) rfl rfl hxa51 (Wn.none rfl) rfl ?_
                intro p63 hc63
                refine WR.step (Ex.loadM H rfl hc63 Tryd.isAgg9) (Wn.none rfl) rfl rfl ?_
                refine WR.step (Ex.lenStr Tryd.underlying9 rfl) (Wn.none rfl) rfl rfl ?_
                refine WR.step (Ex.addC rfl rfl hxn52) (Wn.none rfl) rfl rfl ?_
                refine WR.step (Ex.assign rfl) (Wn.none rfl) rfl rfl ?_
                refine WR.nil ?_
                refine WQ.inBlock ?_
                refine WQ.then ?_
                obtain ⟨n53, hxn53, e27⟩ := bnd e27
                refine WC.region ?_
                refine WR.step (Ex.move rfl) (Wn.none rfl) rfl rfl ?_
                refine WR.step (Ex.addC rfl rfl hxn53) (Wn.none rfl) rfl rfl ?_
                refine WR.step (Ex.assign rfl) (Wn.none rfl) rfl rfl ?_
                refine WR.nil ?_
                exact WQ.againP m32 [(0, _), (3, _), (5, _), (6, _), (7, _), (8, _)] ⟨rfl, rfl, rfl, rfl, rfl, rfl, trivial⟩ ⟨_, _, _, _, rfl, H, hp0, f31_0, e27⟩ (Nat.lt_succ_self _)
          ·
            replace hk33 : ¬ (n31 < (l24.length : Int)) := of_decide_eq_false hk33
            rw [if_neg hk33] at e27
            refine WC.exit ?_
            refine WQ.thenExit ?_
            refine WQ.thenExit ?_
            refine WQ.exitHere ?_
            exact WQ.meetN [(0, _), (3, _), (5, _)] ⟨rfl, rfl, rfl, trivial⟩ ⟨_, _, rfl, H, hp0, e27⟩
        ·
          rintro e w ⟨s28, M, rfl, H, hp0, q54⟩
          obtain rfl := Option.some.inj q54
          refine WQ.then ?_
          refine WC.seq ?_
          refine WC.seq ?_
          refine WC.region ?_
          refine WR.step (Ex.move rfl) (Wn.none rfl) rfl rfl ?_
          refine WR.step (Ex.move rfl) (Wn.none rfl) rfl rfl ?_
          refine WR.step (Ex.lenSl Tryd.underlying22 hp0 rfl) (Wn.none rfl) rfl rfl ?_
          refine WR.step (Ex.eql rfl rfl) (Wn.none rfl) rfl rfl ?_
          refine WR.nil ?_
          refine WQ.then ?_
          refine WC.condB rfl (fun hk55 => ?_) (fun hk55 => ?_)
          ·
            replace hk55 : n10 = (p0.length : Int) := of_decide_eq_true hk55
            rw [if_pos hk55] at e2
            refine WC.exit ?_
            refine WQ.thenExit ?_
            refine WQ.exitOut rfl ?_
            refine WQ.thenExit ?_
            refine WQ.exitHere ?_
            exact WQ.meetN [(3, _)] ⟨rfl, trivial⟩ ⟨_, _, rfl, H, e2⟩
          ·
            replace hk55 : ¬ (n10 = (p0.length : Int)) := of_decide_eq_false hk55
            rw [if_neg hk55] at e2
            refine WC.skip ?_
            refine WQ.then ?_
            refine WC.seq ?_
            obtain ⟨s56, hxs56, e2⟩ := bnd e2
            refine WC.region ?_
            refine WR.step (Ex.move rfl) (Wn.none rfl) rfl rfl ?_
            refine WR.step (Ex.strAddC rfl rfl hxs56) (Wn.none rfl) rfl rfl ?_
            refine WR.step (Ex.assign rfl) (Wn.none rfl) rfl rfl ?_
            refine WR.nil ?_
            refine WQ.then ?_
            obtain ⟨n57, hxn57, e2⟩ := bnd e2
            refine WC.region ?_
            refine WR.step (Ex.move rfl) (Wn.none rfl) rfl rfl ?_
            refine WR.step (Ex.addC rfl rfl hxn57) (Wn.none rfl) rfl rfl ?_
            refine WR.step (Ex.assign rfl) (Wn.none rfl) rfl rfl ?_
            refine WR.nil ?_
            refine WQ.inBlock ?_
            exact WQ.againP m6 [(0, _), (3, _), (4, _)] ⟨rfl, rfl, rfl, trivial⟩ ⟨_, _, _, rfl, H, hp0, e2⟩ (Nat.lt_succ_self _)
    ·
      replace hk7 : ¬ (n5 ≤ (p0.length : Int)) := of_decide_eq_false hk7
      rw [if_neg hk7] at e2
      refine WC.exit ?_
      refine WQ.thenExit ?_
      refine WQ.thenExit ?_
      refine WQ.exitHere ?_
      exact WQ.meetN [(3, _)] ⟨rfl, trivial⟩ ⟨_, _, rfl, H, e2⟩
  ·
    rintro e w ⟨s3, M, rfl, H, q58⟩
    obtain rfl := Option.some.inj q58
    refine WQ.then ?_
    refine WC.seq ?_
    obtain ⟨l59, hxl59, h⟩ := bnd h
    refine WC.region ?_
    refine WR.step (Ex.move rfl) (Wn.none rfl) rfl rfl ?_
    refine WR.bytesC H Tryd.underlying9 Tryd.underlying22 Tryd.underlying5 rfl hxl59 (Wn.none rfl) rfl ?_
    intro v76 M w H hle hs76
    refine WR.step (Ex.assign rfl) (Wn.none rfl) rfl rfl ?_
    refine WR.nil ?_
    refine WQ.then ?_
    refine WC.ret ?_
    (repeat (first | refine WQ.thenRet ?_ | refine WQ.inBlockRet ?_ | refine WQ.cutRet ?_))
    obtain rfl := Option.some.inj h
    exact WQ.ret1 rfl rfl H.ext hs76
theorem R_Bytes_ct {p0 : List UInt8} {p1 : List UInt8} {vp0 : Value} {vp1 : Value} {r : Bool} (h : R_Bytes p0 p1 = some r) : Ct Tryd.prog 15 [vp0, vp1] (fun M => Sl M encB vp0 p0 ∧ Sl M encB vp1 p1) (fun v M => v = Value.bool r) := by
  refine Ct.of Tryd.func15 (enters Tryd.func15 (by kernel_rfl) rfl) rfl rfl rfl ?_
  intro w0 M0 H hp
  obtain ⟨hp0, hp1⟩ := hp
  unfold R_Bytes at h
  refine WC.seq ?_
  refine WC.region ?_
  refine WR.step (Ex.assign rfl) (Wn.none rfl) rfl rfl ?_
  refine WR.nil ?_
  refine WQ.then ?_
  refine WC.seq ?_
  refine WC.region ?_
  refine WR.step (Ex.move rfl) (Wn.none rfl) rfl rfl ?_
  refine WR.step (Ex.toStr Tryd.underlying22 Tryd.underlying5 Tryd.underlying9 H (hp0) rfl) (Wn.none rfl) rfl rfl ?_
  refine WR.step (Ex.move rfl) (Wn.none rfl) rfl rfl ?_
  refine WR.step (Ex.toStr Tryd.underlying22 Tryd.underlying5 Tryd.underlying9 H (hp1) rfl) (Wn.none rfl) rfl rfl ?_
  refine WR.step (Ex.strEql rfl rfl) (Wn.none rfl) rfl rfl ?_
  refine WR.step (Ex.assign rfl) (Wn.none rfl) rfl rfl ?_
  refine WR.nil ?_
  refine WQ.then ?_
  refine WC.ret ?_
  (repeat (first | refine WQ.thenRet ?_ | refine WQ.inBlockRet ?_ | refine WQ.cutRet ?_))
  obtain rfl := Option.some.inj h
  exact WQ.ret1 rfl rfl H.ext rfl
theorem L_QuotedEncodeMatchesSpec_ct {p0 : List UInt8} {vp0 : Value} {r : Bool} (h : L_QuotedEncodeMatchesSpec p0 = some r) : Ct Tryd.prog 3 [vp0] (fun M => Sl M encB vp0 p0) (fun v M => v = Value.bool r) := by
  refine Ct.of Tryd.func3 (enters Tryd.func3 (by kernel_rfl) rfl) rfl rfl rfl ?_
  intro w0 M0 H hp
  have hp0 := hp
  unfold L_QuotedEncodeMatchesSpec at h
  refine WC.seq ?_
  refine WC.region ?_
  refine WR.step (Ex.assign rfl) (Wn.none rfl) rfl rfl ?_
  refine WR.nil ?_
  refine WQ.then ?_
  refine WC.seq ?_
  refine WC.seq ?_
  obtain ⟨b1, hx2, h⟩ := bnd h
  refine WC.region ?_
  refine WR.call H (L_quotedExample_ct hx2) rfl trivial (Wn.none rfl) rfl ?_
  intro v5 M w H hle hR
  replace hp0 := hp0.mono hle
  obtain rfl := hR
  refine WR.step (Ex.not rfl) (Wn.none rfl) rfl rfl ?_
  refine WR.nil ?_
  refine WQ.then ?_
  refine WC.condB rfl (fun hk3 => ?_) (fun hk3 => ?_)
  ·
    replace hk3 : b1 = false := by simpa using hk3
    rw [if_neg (by rw [hk3]; exact Bool.false_ne_true)] at h
    subst hk3
    refine WC.seq ?_
    refine WC.region ?_
    refine WR.step (Ex.assign rfl) (Wn.none rfl) rfl rfl ?_
    refine WR.nil ?_
    refine WQ.then ?_
    refine WC.ret ?_
    (repeat (first | refine WQ.thenRet ?_ | refine WQ.inBlockRet ?_ | refine WQ.cutRet ?_))
    obtain rfl := Option.some.inj h
    exact WQ.ret1 rfl rfl H.ext rfl
  ·
    replace hk3 : b1 = true := by simpa using hk3
    rw [if_pos hk3] at h
    subst hk3
    refine WC.skip ?_
    refine WQ.then ?_
    refine WC.seq ?_
    obtain ⟨⟨l4, ⟨n5, n6⟩⟩, hx7, h⟩ := bnd h
    dsimp only at h
    refine WC.region ?_
    refine WR.step (Ex.move rfl) (Wn.none rfl) rfl rfl ?_
    refine WR.call H (quoted_Encode_ct hx7) rfl (hp0) (Wn.none rfl) rfl ?_
    intro v9 M w H hle hR
    replace hp0 := hp0.mono hle
    try dsimp only at hR
    obtain ⟨x9_0, rfl, f9_0⟩ := hR
    refine WR.step (Ex.move rfl) (Wn.none rfl) rfl rfl ?_
    refine WR.step (Ex.extract rfl rfl) (Wn.none rfl) rfl rfl ?_
    refine WR.step (Ex.extract rfl rfl) (Wn.none rfl) rfl rfl ?_
    refine WR.alloc [_, _] H Tryd.zeroValue25 rfl (Wn.none rfl) rfl ?_
    intro b4 w H
    refine WR.step (Ex.assign rfl) (Wn.none rfl) rfl rfl ?_
    refine WR.store [_, _] H rfl rfl rfl (by repeat (first | exact Upd.head | apply Upd.tail)) Tryd.sizeOf25 rfl (by rfl) (by rfl) (Wn.none rfl) ?_
    intro w H
    refine WR.nil ?_
    refine WQ.then ?_
    refine WC.seq ?_
    refine WC.seq ?_
    refine WC.region ?_
    refine WR.step (Ex.move rfl) (Wn.none rfl) rfl rfl ?_
    refine WR.step (Ex.lenSl Tryd.underlying22 hp0 rfl) (Wn.none rfl) rfl rfl ?_
    refine WR.step (Ex.gtr rfl rfl) (Wn.none rfl) rfl rfl ?_
    refine WR.nil ?_
    refine WQ.then ?_
    refine WC.condB rfl (fun hk8 => ?_) (fun hk8 => ?_)
    ·
      replace hk8 : (12000 : Int) < (p0.length : Int) := of_decide_eq_true hk8
      rw [if_pos hk8] at h
      refine WC.seq ?_
      obtain ⟨o9, e10, h⟩ := bnd h
      refine WC.cutX (fun e w => ∃ (b11 : Bool) (M : Mem), e = [(2, Value.bool b11)] ∧ St w0 M0 M [] w ∧ some b11 = some o9) [] ?_ ?_ (trivial)
      ·
        obtain ⟨⟨n12, n13⟩, hx14, e10⟩ := bnd e10
        dsimp only at e10
        by_cases hk15 : n5 = n12 ∧ n6 = n13
        ·
          rw [if_pos hk15] at e10
          refine WC.draw (m := 9) rfl rfl H ?_
          intro w H
          refine WA.two (i := 0) (j := 1) (by kernel_rfl) rfl rfl ?_ ?_
          ·
            refine WR.step (Ex.loadAgg H rfl (by repeat (first | exact List.Mem.head _ | apply List.Mem.tail)) Tryd.isAgg25 Tryd.sizeOf25 (by rfl)) (Wn.none rfl) rfl rfl ?_
            refine WR.nil (WQ.any ?_)
            refine WA.one (i := 1) (by kernel_rfl) rfl ?_
            refine WR.call H (R_At_ct hx14) rfl trivial (Wn.none rfl) rfl ?_
            intro v16 M w H hle hR
            replace hp0 := hp0.mono hle
            replace f9_0 := f9_0.mono hle
            try dsimp only at hR
            obtain rfl := hR
            refine WR.nil (WQ.any ?_)
            refine WA.one (i := 2) (by kernel_rfl) rfl ?_
            refine WR.stepE (v' := .bool true) (Ex.eqlAgg rfl rfl (by kernel_rfl) (xeq25 n5 n12 n6 n13)) (congrArg Value.bool (decide_eq_true hk15)) (Wn.none rfl) rfl rfl ?_
            refine WR.nil (WQ.any ?_)
            refine WA.one (i := 3) (by kernel_rfl) rfl ?_
            refine WR.step (Ex.move rfl) (Wn.none rfl) rfl rfl ?_
            refine WR.nil (WQ.any ?_)
            refine WA.one (i := 4) (by kernel_rfl) rfl ?_
            refine WR.step (Ex.move rfl) (Wn.some rfl rfl rfl) rfl rfl ?_
            refine WR.nil (WQ.any ?_)
            refine WA.one (i := 5) (by kernel_rfl) rfl ?_
            refine WR.step (Ex.lenSl Tryd.underlying22 f9_0 rfl) (Wn.some rfl rfl rfl) rfl rfl ?_
            refine WR.nil (WQ.any ?_)
            refine WA.one (i := 6) (by kernel_rfl) rfl ?_
            refine WR.step (Ex.eql rfl rfl) (Wn.some rfl rfl rfl) rfl rfl ?_
            refine WR.nil (WQ.any ?_)
            refine WA.one (i := 7) (by kernel_rfl) rfl ?_
            refine WR.step (Ex.pickT rfl rfl) (Wn.none rfl) rfl rfl ?_
            refine WR.nil (WQ.any ?_)
            refine WA.one (i := 8) (by kernel_rfl) rfl ?_
            refine WR.step (Ex.assign rfl) (Wn.none rfl) rfl rfl ?_
            refine WR.nil (WQ.any ?_)
            refine WA.done (by kernel_rfl) ?_
            exact WQ.meetN [(2, _)] ⟨rfl, trivial⟩ ⟨_, _, rfl, (H.pick (L' := []) (by repeat (first | exact Pick.nil | refine Pick.cons (by repeat (first | exact Rem.head | apply Rem.tail)) ?_))), e10⟩
          ·
            refine WR.call H (R_At_ct hx14) rfl trivial (Wn.none rfl) rfl ?_
            intro v16 M w H hle hR
            replace hp0 := hp0.mono hle
            replace f9_0 := f9_0.mono hle
            try dsimp only at hR
            obtain rfl := hR
            refine WR.nil (WQ.any ?_)
            refine WA.one (i := 0) (by kernel_rfl) rfl ?_
            refine WR.step (Ex.loadAgg H rfl (by repeat (first | exact List.Mem.head _ | apply List.Mem.tail)) Tryd.isAgg25 Tryd.sizeOf25 (by rfl)) (Wn.none rfl) rfl rfl ?_
            refine WR.nil (WQ.any ?_)
            refine WA.one (i := 2) (by kernel_rfl) rfl ?_
            refine WR.stepE (v' := .bool true) (Ex.eqlAgg rfl rfl (by kernel_rfl) (xeq25 n5 n12 n6 n13)) (congrArg Value.bool (decide_eq_true hk15)) (Wn.none rfl) rfl rfl ?_
            refine WR.nil (WQ.any ?_)
            refine WA.one (i := 3) (by kernel_rfl) rfl ?_
            refine WR.step (Ex.move rfl) (Wn.none rfl) rfl rfl ?_
            refine WR.nil (WQ.any ?_)
            refine WA.one (i := 4) (by kernel_rfl) rfl ?_
            refine WR.step (Ex.move rfl) (Wn.some rfl rfl rfl) rfl rfl ?_
            refine WR.nil (WQ.any ?_)
            refine WA.one (i := 5) (by kernel_rfl) rfl ?_
            refine WR.step (Ex.lenSl Tryd.underlying22 f9_0 rfl) (Wn.some rfl rfl rfl) rfl rfl ?_
            refine WR.nil (WQ.any ?_)
            refine WA.one (i := 6) (by kernel_rfl) rfl ?_
            refine WR.step (Ex.eql rfl rfl) (Wn.some rfl rfl rfl) rfl rfl ?_
            refine WR.nil (WQ.any ?_)
            refine WA.one (i := 7) (by kernel_rfl) rfl ?_
            refine WR.step (Ex.pickT rfl rfl) (Wn.none rfl) rfl rfl ?_
            refine WR.nil (WQ.any ?_)
            refine WA.one (i := 8) (by kernel_rfl) rfl ?_
            refine WR.step (Ex.assign rfl) (Wn.none rfl) rfl rfl ?_
            refine WR.nil (WQ.any ?_)
            refine WA.done (by kernel_rfl) ?_
            exact WQ.meetN [(2, _)] ⟨rfl, trivial⟩ ⟨_, _, rfl, (H.pick (L' := []) (by repeat (first | exact Pick.nil | refine Pick.cons (by repeat (first | exact Rem.head | apply Rem.tail)) ?_))), e10⟩
        ·
          rw [if_neg hk15] at e10
          refine WC.draw (m := 9) rfl rfl H ?_
          intro w H
          refine WA.two (i := 0) (j := 1) (by kernel_rfl) rfl rfl ?_ ?_
          ·
            refine WR.step (Ex.loadAgg H rfl (by repeat (first | exact List.Mem.head _ | apply List.Mem.tail)) Tryd.isAgg25 Tryd.sizeOf25 (by rfl)) (Wn.none rfl) rfl rfl ?_
            refine WR.nil (WQ.any ?_)
            refine WA.one (i := 1) (by kernel_rfl) rfl ?_
            refine WR.call H (R_At_ct hx14) rfl trivial (Wn.none rfl) rfl ?_
            intro v16 M w H hle hR
            replace hp0 := hp0.mono hle
            replace f9_0 := f9_0.mono hle
            try dsimp only at hR
            obtain rfl := hR
            refine WR.nil (WQ.any ?_)
            refine WA.one (i := 2) (by kernel_rfl) rfl ?_
            refine WR.stepE (v' := .bool false) (Ex.eqlAgg rfl rfl (by kernel_rfl) (xeq25 n5 n12 n6 n13)) (congrArg Value.bool (decide_eq_false hk15)) (Wn.none rfl) rfl rfl ?_
            refine WR.nil (WQ.any ?_)
            refine WA.one (i := 3) (by kernel_rfl) rfl ?_
            refine WR.step (Ex.move rfl) (Wn.none rfl) rfl rfl ?_
            refine WR.nil (WQ.any ?_)
            refine WA.one (i := 4) (by kernel_rfl) rfl ?_
            refine WR.skipG (b := false) rfl rfl rfl rfl rfl ?_
            refine WR.nil (WQ.any ?_)
            refine WA.one (i := 5) (by kernel_rfl) rfl ?_
            refine WR.skipG (b := false) rfl rfl rfl rfl rfl ?_
            refine WR.nil (WQ.any ?_)
            refine WA.one (i := 6) (by kernel_rfl) rfl ?_
            refine WR.skipG (b := false) rfl rfl rfl rfl rfl ?_
            refine WR.nil (WQ.any ?_)
            refine WA.one (i := 7) (by kernel_rfl) rfl ?_
            refine WR.step (Ex.pickF rfl rfl) (Wn.none rfl) rfl rfl ?_
            refine WR.nil (WQ.any ?_)
            refine WA.one (i := 8) (by kernel_rfl) rfl ?_
            refine WR.step (Ex.assign rfl) (Wn.none rfl) rfl rfl ?_
            refine WR.nil (WQ.any ?_)
            refine WA.done (by kernel_rfl) ?_
            exact WQ.meetN [(2, _)] ⟨rfl, trivial⟩ ⟨_, _, rfl, (H.pick (L' := []) (by repeat (first | exact Pick.nil | refine Pick.cons (by repeat (first | exact Rem.head | apply Rem.tail)) ?_))), e10⟩
          ·
            refine WR.call H (R_At_ct hx14) rfl trivial (Wn.none rfl) rfl ?_
            intro v16 M w H hle hR
            replace hp0 := hp0.mono hle
            replace f9_0 := f9_0.mono hle
            try dsimp only at hR
            obtain rfl := hR
            refine WR.nil (WQ.any ?_)
            refine WA.one (i := 0) (by kernel_rfl) rfl ?_
            refine WR.step (Ex.loadAgg H rfl (by repeat (first | exact List.Mem.head _ | apply List.Mem.tail)) Tryd.isAgg25 Tryd.sizeOf25 (by rfl)) (Wn.none rfl) rfl rfl ?_
            refine WR.nil (WQ.any ?_)
            refine WA.one (i := 2) (by kernel_rfl) rfl ?_
            refine WR.stepE (v' := .bool false) (Ex.eqlAgg rfl rfl (by kernel_rfl) (xeq25 n5 n12 n6 n13)) (congrArg Value.bool (decide_eq_false hk15)) (Wn.none rfl) rfl rfl ?_
            refine WR.nil (WQ.any ?_)
            refine WA.one (i := 3) (by kernel_rfl) rfl ?_
            refine WR.step (Ex.move rfl) (Wn.none rfl) rfl rfl ?_
            refine WR.nil (WQ.any ?_)
            refine WA.one (i := 4) (by kernel_rfl) rfl ?_
            refine WR.skipG (b := false) rfl rfl rfl rfl rfl ?_
            refine WR.nil (WQ.any ?_)
            refine WA.one (i := 5) (by kernel_rfl) rfl ?_
            refine WR.skipG (b := false) rfl rfl rfl rfl rfl ?_
            refine WR.nil (WQ.any ?_)
            refine WA.one (i := 6) (by kernel_rfl) rfl ?_
            refine WR.skipG (b := false) rfl rfl rfl rfl rfl ?_
            refine WR.nil (WQ.any ?_)
            refine WA.one (i := 7) (by kernel_rfl) rfl ?_
            refine WR.step (Ex.pickF rfl rfl) (Wn.none rfl) rfl rfl ?_
            refine WR.nil (WQ.any ?_)
            refine WA.one (i := 8) (by kernel_rfl) rfl ?_
            refine WR.step (Ex.assign rfl) (Wn.none rfl) rfl rfl ?_
            refine WR.nil (WQ.any ?_)
            refine WA.done (by kernel_rfl) ?_
            exact WQ.meetN [(2, _)] ⟨rfl, trivial⟩ ⟨_, _, rfl, (H.pick (L' := []) (by repeat (first | exact Pick.nil | refine Pick.cons (by repeat (first | exact Rem.head | apply Rem.tail)) ?_))), e10⟩
      ·
        rintro e w ⟨b11, M, rfl, H, q16⟩
        obtain rfl := Option.some.inj q16
        refine WQ.then ?_
        refine WC.ret ?_
        (repeat (first | refine WQ.thenRet ?_ | refine WQ.inBlockRet ?_ | refine WQ.cutRet ?_))
        obtain rfl := Option.some.inj h
        exact WQ.ret1 rfl rfl H.ext rfl
    ·
      replace hk8 : ¬ ((12000 : Int) < (p0.length : Int)) := of_decide_eq_false hk8
      rw [if_neg hk8] at h
      refine WC.skip ?_
      refine WQ.then ?_
      refine WC.seq ?_
      obtain ⟨o17, e18, h⟩ := bnd h
      refine WC.cutX (fun e w => ∃ (b19 : Bool) (M : Mem), e = [(2, Value.bool b19)] ∧ St w0 M0 M [] w ∧ some b19 = some o17) [] ?_ ?_ (trivial)
      ·
        by_cases hk20 : n5 = (0 : Int)
        ·
          rw [if_pos hk20] at e18
          obtain ⟨l21, hx22, e18⟩ := bnd e18
          obtain ⟨b23, hx24, e18⟩ := bnd e18
          refine WC.region ?_
          refine WR.step (Ex.fieldAddr Tryd.underlying25 rfl Tryd.sizeOf3 (by decide) rfl) (Wn.none rfl) rfl rfl ?_
          refine WR.step (Ex.load1 H rfl (by repeat (first | exact List.Mem.head _ | apply List.Mem.tail)) Tryd.isAgg3 (by rfl)) (Wn.none rfl) rfl rfl ?_
          refine WR.stepE (v' := .bool true) (Ex.eql rfl rfl) (congrArg Value.bool (decide_eq_true hk20)) (Wn.none rfl) rfl rfl ?_
          refine WR.step (Ex.move rfl) (Wn.none rfl) rfl rfl ?_
          refine WR.step (Ex.move rfl) (Wn.some rfl rfl rfl) rfl rfl ?_
          refine WR.step (Ex.move rfl) (Wn.some rfl rfl rfl) rfl rfl ?_
          refine WR.call H (R_Quoted_ct hx22) rfl (hp0) (Wn.some rfl rfl rfl) rfl ?_
          intro v29 M w H hle hR
          replace hp0 := hp0.mono hle
          replace f9_0 := f9_0.mono hle
          have f29_0 := hR
          refine WR.call H (R_Bytes_ct hx24) rfl ⟨f9_0, f29_0⟩ (Wn.some rfl rfl rfl) rfl ?_
          intro v30 M w H hle hR
          replace hp0 := hp0.mono hle
          replace f9_0 := f9_0.mono hle
          replace f29_0 := f29_0.mono hle
          obtain rfl := hR
          refine WR.step (Ex.pickT rfl rfl) (Wn.none rfl) rfl rfl ?_
          refine WR.step (Ex.assign rfl) (Wn.none rfl) rfl rfl ?_
          refine WR.nil ?_
          exact WQ.meetN [(2, _)] ⟨rfl, trivial⟩ ⟨_, _, rfl, (H.pick (L' := []) (by repeat (first | exact Pick.nil | refine Pick.cons (by repeat (first | exact Rem.head | apply Rem.tail)) ?_))), e18⟩
        ·
          rw [if_neg hk20] at e18
          refine WC.region ?_
          refine WR.step (Ex.fieldAddr Tryd.underlying25 rfl Tryd.sizeOf3 (by decide) rfl) (Wn.none rfl) rfl rfl ?_
          refine WR.step (Ex.load1 H rfl (by repeat (first | exact List.Mem.head _ | apply List.Mem.tail)) Tryd.isAgg3 (by rfl)) (Wn.none rfl) rfl rfl ?_
          refine WR.stepE (v' := .bool false) (Ex.eql rfl rfl) (congrArg Value.bool (decide_eq_false hk20)) (Wn.none rfl) rfl rfl ?_
          refine WR.step (Ex.move rfl) (Wn.none rfl) rfl rfl ?_
          refine WR.skipG (b := false) rfl rfl rfl rfl rfl ?_
          refine WR.skipG (b := false) rfl rfl rfl rfl rfl ?_
          refine WR.skipG (b := false) rfl rfl rfl rfl rfl ?_
          refine WR.skipG (b := false) rfl rfl rfl rfl rfl ?_
          refine WR.step (Ex.pickF rfl rfl) (Wn.none rfl) rfl rfl ?_
          refine WR.step (Ex.assign rfl) (Wn.none rfl) rfl rfl ?_
          refine WR.nil ?_
          exact WQ.meetN [(2, _)] ⟨rfl, trivial⟩ ⟨_, _, rfl, (H.pick (L' := []) (by repeat (first | exact Pick.nil | refine Pick.cons (by repeat (first | exact Rem.head | apply Rem.tail)) ?_))), e18⟩
      ·
        rintro e w ⟨b19, M, rfl, H, q25⟩
        obtain rfl := Option.some.inj q25
        refine WQ.then ?_
        refine WC.ret ?_
        (repeat (first | refine WQ.thenRet ?_ | refine WQ.inBlockRet ?_ | refine WQ.cutRet ?_))
        obtain rfl := Option.some.inj h
        exact WQ.ret1 rfl rfl H.ext rfl
theorem R_Lower_ct {p0 : List UInt8} {r : List UInt8} (h : R_Lower p0 = some r) : Ct Tryd.prog 63 [S p0] (fun M => True) (fun v M => v = S r) := by
  refine Ct.of Tryd.func63 (enters Tryd.func63 (by kernel_rfl) rfl) rfl rfl rfl ?_
  intro w0 M0 H hp
  unfold R_Lower at h
  refine WC.seq ?_
  refine WC.region ?_
  refine WR.step (Ex.assign rfl) (Wn.none rfl) rfl rfl ?_
  refine WR.nil ?_
  refine WQ.then ?_
  refine WC.seq ?_
  obtain ⟨l1, hxl1, h⟩ := bnd h
  refine WC.region ?_
  refine WR.step (Ex.move rfl) (Wn.none rfl) rfl rfl ?_
  refine WR.toBytesC H Tryd.underlying9 Tryd.underlying22 Tryd.underlying5 rfl hxl1 (Wn.none rfl) rfl ?_
  intro gk2 cpk2 w hs3 H
  refine WR.step (Ex.assign rfl) (Wn.none rfl) rfl rfl ?_
  refine WR.nil ?_
  refine WQ.then ?_
  refine WC.seq ?_
  refine WC.seq ?_
  refine WC.region ?_
  refine WR.step (Ex.assign rfl) (Wn.none rfl) rfl rfl ?_
  refine WR.nil ?_
  refine WQ.then ?_
  obtain ⟨o4, e5, h⟩ := bnd h
  refine WC.cutX (fun e w => ∃ (l6 : List UInt8) (M : Mem), e = [(3, (Value.slice (some ⟨gk2, 0, none⟩) l1.length cpk2))] ∧ St w0 M0 M [SRow gk2 cpk2 5 l6] w ∧ SOK M l6 l1.length cpk2 ∧ some l6 = some o4) [] ?_ ?_ (trivial)
  ·
    refine WC.block ?_
    refine WC.loopP (fun m e w => ∃ (l8 : List UInt8) (n10 : Int) (M : Mem), e = [(3, (Value.slice (some ⟨gk2, 0, none⟩) l1.length cpk2)), (4, I n10)] ∧ St w0 M0 M [SRow gk2 cpk2 5 l8] w ∧ SOK M l8 l1.length cpk2 ∧ R_Lower_L1  m l8 n10 = some o4) FU [(3, _), (4, _)] ⟨rfl, rfl, trivial⟩ ⟨_, _, _, rfl, H, hs3, e5⟩ ?_
    rintro m11 e w ⟨l8, n10, M, rfl, H, hs9, e5⟩
    rcases m11 with _ | m11
    · rw [R_Lower_L1] at e5; cases e5
    rw [R_Lower_L1] at e5
    refine WC.seq ?_
    refine WC.seq ?_
    refine WC.region ?_
    refine WR.step (Ex.move rfl) (Wn.none rfl) rfl rfl ?_
    refine WR.step (Ex.move rfl) (Wn.none rfl) rfl rfl ?_
    refine WR.step (Ex.lenSOK Tryd.underlying22 hs9 rfl) (Wn.none rfl) rfl rfl ?_
    refine WR.step (Ex.lss rfl rfl) (Wn.none rfl) rfl rfl ?_
    refine WR.nil ?_
    refine WQ.then ?_
    refine WC.condB rfl (fun hk12 => ?_) (fun hk12 => ?_)
    ·
      replace hk12 : n10 < (l8.length : Int) := of_decide_eq_true hk12
      rw [if_pos hk12] at e5
      refine WC.skip ?_
      refine WQ.then ?_
      refine WC.seq ?_
      refine WC.block ?_
      refine WC.seq ?_
      obtain ⟨c13, hxc13, e5⟩ := bnd e5
      obtain ⟨b14, hx15, e5⟩ := bnd e5
      refine WC.region ?_
      refine WR.step (Ex.move rfl) (Wn.none rfl) rfl rfl ?_
      refine WR.step (Ex.move rfl) (Wn.none rfl) rfl rfl ?_
      refine WR.step (Ex.idxSC Tryd.underlying22 Tryd.sizeOf5 hs9 rfl rfl hxc13) (Wn.none rfl) rfl rfl ?_
      refine WR.step (Ex.loadSC H rfl (by repeat (first | exact List.Mem.head _ | apply List.Mem.tail)) hxc13 Tryd.isAgg5) (Wn.none rfl) rfl rfl ?_
      refine WR.step (Ex.convB Tryd.underlying5 Tryd.underlying3 rfl) (Wn.none rfl) rfl rfl ?_
      refine WR.call H (R_In_ct hx15) rfl trivial (Wn.none rfl) rfl ?_
      intro v18 M w H hle hR
      replace hs9 := hs9.mono hle
      obtain rfl := hR
      refine WR.nil ?_
      refine WQ.then ?_
      refine WC.condB rfl (fun hk16 => ?_) (fun hk16 => ?_)
      ·
        rw [if_pos hk16] at e5
        subst hk16
        obtain ⟨c17, hxc17, e5⟩ := bnd e5
        obtain ⟨c18, hxc18, e5⟩ := bnd e5
        obtain ⟨l19, hxl19, e5⟩ := bnd e5
        refine WC.region ?_
        refine WR.step (Ex.move rfl) (Wn.none rfl) rfl rfl ?_
        refine WR.step (Ex.move rfl) (Wn.none rfl) rfl rfl ?_
        refine WR.step (Ex.move rfl) (Wn.none rfl) rfl rfl ?_
        refine WR.step (Ex.move rfl) (Wn.none rfl) rfl rfl ?_
        refine WR.step (Ex.idxSC Tryd.underlying22 Tryd.sizeOf5 hs9 rfl rfl hxc17) (Wn.none rfl) rfl rfl ?_
        refine WR.step (Ex.loadSC H rfl (by repeat (first | exact List.Mem.head _ | apply List.Mem.tail)) hxc17 Tryd.isAgg5) (Wn.none rfl) rfl rfl ?_
        refine WR.step (Ex.addB (c := c17) (d := 32) rfl rfl) (Wn.none rfl) rfl rfl ?_
        refine WR.step (Ex.idxSC Tryd.underlying22 Tryd.sizeOf5 hs9 rfl rfl hxc18) (Wn.none rfl) rfl rfl ?_
        refine WR.storeSC H rfl rfl hs9 (fun _ => by repeat (first | exact Upd.head | apply Upd.tail)) hxl19 Tryd.sizeOf5 (Wn.none rfl) ?_
        intro w hs20 H
        refine WR.nil ?_
        refine WQ.inBlock ?_
        refine WQ.then ?_
        obtain ⟨n21, hxn21, e5⟩ := bnd e5
        refine WC.region ?_
        refine WR.step (Ex.move rfl) (Wn.none rfl) rfl rfl ?_
        refine WR.step (Ex.addC rfl rfl hxn21) (Wn.none rfl) rfl rfl ?_
        refine WR.step (Ex.assign rfl) (Wn.none rfl) rfl rfl ?_
        refine WR.nil ?_
        exact WQ.againP m11 [(3, _), (4, _)] ⟨rfl, rfl, trivial⟩ ⟨_, _, _, rfl, H, hs20, e5⟩ (Nat.lt_succ_self _)
      ·
        rw [if_neg (by rw [hk16]; exact Bool.false_ne_true)] at e5
        subst hk16
        refine WC.skip ?_
        refine WQ.inBlock ?_
        refine WQ.then ?_
        obtain ⟨n22, hxn22, e5⟩ := bnd e5
        refine WC.region ?_
        refine WR.step (Ex.move rfl) (Wn.none rfl) rfl rfl ?_
        refine WR.step (Ex.addC rfl rfl hxn22) (Wn.none rfl) rfl rfl ?_
        refine WR.step (Ex.assign rfl) (Wn.none rfl) rfl rfl ?_
        refine WR.nil ?_
        exact WQ.againP m11 [(3, _), (4, _)] ⟨rfl, rfl, trivial⟩ ⟨_, _, _, rfl, H, hs9, e5⟩ (Nat.lt_succ_self _)
    ·
      replace hk12 : ¬ (n10 < (l8.length : Int)) := of_decide_eq_false hk12
      rw [if_neg hk12] at e5
      refine WC.exit ?_
      refine WQ.thenExit ?_
      refine WQ.thenExit ?_
      refine WQ.exitHere ?_
      exact WQ.meetN [(3, _)] ⟨rfl, trivial⟩ ⟨_, _, rfl, H, hs9, e5⟩
  ·
    rintro e w ⟨l6, M, rfl, H, hs7, q23⟩
    obtain rfl := Option.some.inj q23
    refine WQ.then ?_
    refine WC.seq ?_
    refine WC.region ?_
    refine WR.step (Ex.move rfl) (Wn.none rfl) rfl rfl ?_
    refine WR.step (Ex.toStrS Tryd.underlying22 Tryd.underlying5 Tryd.underlying9 H (by repeat (first | exact List.Mem.head _ | apply List.Mem.tail)) hs7.1.symm rfl) (Wn.none rfl) rfl rfl ?_
    refine WR.step (Ex.assign rfl) (Wn.none rfl) rfl rfl ?_
    refine WR.nil ?_
    refine WQ.then ?_
    refine WC.ret ?_
    (repeat (first | refine WQ.thenRet ?_ | refine WQ.inBlockRet ?_ | refine WQ.cutRet ?_))
    obtain rfl := Option.some.inj h
    exact WQ.ret1 rfl rfl H.ext rfl
theorem R_Hex_ct {p0 : UInt8} {r : Int} (h : R_Hex p0 = some r) : Ct Tryd.prog 43 [encB p0] (fun M => True) (fun v M => v = I r) := by
  refine Ct.of Tryd.func43 (enters Tryd.func43 (by kernel_rfl) rfl) rfl rfl rfl ?_
  intro w0 M0 H hp
  unfold R_Hex at h
  refine WC.seq ?_
  refine WC.region ?_
  refine WR.step (Ex.assign rfl) (Wn.none rfl) rfl rfl ?_
  refine WR.nil ?_
  refine WQ.then ?_
  refine WC.seq ?_
  refine WC.seq ?_
  refine WC.region ?_
  refine WR.step (Ex.assign rfl) (Wn.none rfl) rfl rfl ?_
  refine WR.nil ?_
  refine WQ.then ?_
  obtain ⟨o1, e2, h⟩ := bnd h
  refine WC.cutX (fun e w => ∃  (M : Mem), e = [] ∧ St w0 M0 M [] w ∧ some (.inl ()) = some o1) [] ?_ ?_ (trivial)
  ·
    refine WC.block ?_
    refine WC.loopP (fun m e w => ∃ (n3 : Int) (M : Mem), e = [(0, encB p0), (3, I n3)] ∧ St w0 M0 M [] w ∧ R_Hex_L1 p0 m n3 = some o1) FU [(0, _), (3, _)] ⟨rfl, rfl, trivial⟩ ⟨_, _, rfl, H, e2⟩ ?_
    rintro m4 e w ⟨n3, M, rfl, H, e2⟩
    rcases m4 with _ | m4
    · rw [R_Hex_L1] at e2; cases e2
    rw [R_Hex_L1] at e2
    refine WC.seq ?_
    refine WC.seq ?_
    refine WC.region ?_
    refine WR.step (Ex.move rfl) (Wn.none rfl) rfl rfl ?_
    refine WR.step (Ex.lss rfl rfl) (Wn.none rfl) rfl rfl ?_
    refine WR.nil ?_
    refine WQ.then ?_
    refine WC.condB rfl (fun hk5 => ?_) (fun hk5 => ?_)
    ·
      replace hk5 : n3 < (16 : Int) := of_decide_eq_true hk5
      rw [if_pos hk5] at e2
      refine WC.skip ?_
      refine WQ.then ?_
      refine WC.seq ?_
      refine WC.block ?_
      refine WC.seq ?_
      obtain ⟨o6, e7, e2⟩ := bnd e2
      refine WC.cutX (fun e w => ∃ (b8 : Bool) (M : Mem), e = [(0, encB p0), (3, I n3), (18, Value.bool b8)] ∧ St w0 M0 M [] w ∧ some b8 = some o6) [] ?_ ?_ (trivial)
      ·
        obtain ⟨c9, hxc9, e7⟩ := bnd e7
        by_cases hk10 : c9 = p0
        ·
          rw [if_pos hk10] at e7
          refine WC.region ?_
          refine WR.step (Ex.move rfl) (Wn.none rfl) rfl rfl ?_
          refine WR.step (Ex.idxStrC Tryd.underlying9 rfl rfl hxc9) (Wn.none rfl) rfl rfl ?_
          refine WR.step (Ex.move rfl) (Wn.none rfl) rfl rfl ?_
          refine WR.stepE (v' := .bool true) (Ex.eqlB (c := c9) (d := p0) rfl rfl) (congrArg Value.bool (decide_eq_true hk10)) (Wn.none rfl) rfl rfl ?_
          refine WR.step (Ex.move rfl) (Wn.none rfl) rfl rfl ?_
          refine WR.skipG (b := true) rfl rfl rfl rfl rfl ?_
          refine WR.skipG (b := true) rfl rfl rfl rfl rfl ?_
          refine WR.skipG (b := true) rfl rfl rfl rfl rfl ?_
          refine WR.skipG (b := true) rfl rfl rfl rfl rfl ?_
          refine WR.skipG (b := true) rfl rfl rfl rfl rfl ?_
          refine WR.step (Ex.pickT rfl rfl) (Wn.none rfl) rfl rfl ?_
          refine WR.nil ?_
          exact WQ.meetN [(0, _), (3, _), (18, _)] ⟨rfl, rfl, rfl, trivial⟩ ⟨_, _, rfl, H, e7⟩
        ·
          rw [if_neg hk10] at e7
          obtain ⟨s11, hx12, e7⟩ := bnd e7
          obtain ⟨c13, hxc13, e7⟩ := bnd e7
          refine WC.region ?_
          refine WR.step (Ex.move rfl) (Wn.none rfl) rfl rfl ?_
          refine WR.step (Ex.idxStrC Tryd.underlying9 rfl rfl hxc9) (Wn.none rfl) rfl rfl ?_
          refine WR.step (Ex.move rfl) (Wn.none rfl) rfl rfl ?_
          refine WR.stepE (v' := .bool false) (Ex.eqlB (c := c9) (d := p0) rfl rfl) (congrArg Value.bool (decide_eq_false hk10)) (Wn.none rfl) rfl rfl ?_
          refine WR.step (Ex.move rfl) (Wn.none rfl) rfl rfl ?_
          refine WR.call H (R_Lower_ct hx12) rfl trivial (Wn.some rfl rfl rfl) rfl ?_
          intro v13 M w H hle hR
          obtain rfl := hR
          refine WR.step (Ex.move rfl) (Wn.some rfl rfl rfl) rfl rfl ?_
          refine WR.step (Ex.idxStrC Tryd.underlying9 rfl rfl hxc13) (Wn.some rfl rfl rfl) rfl rfl ?_
          refine WR.step (Ex.move rfl) (Wn.some rfl rfl rfl) rfl rfl ?_
          refine WR.step (Ex.eqlB (c := c13) (d := p0) rfl rfl) (Wn.some rfl rfl rfl) rfl rfl ?_
          refine WR.step (Ex.pickF rfl rfl) (Wn.none rfl) rfl rfl ?_
          refine WR.nil ?_
          exact WQ.meetN [(0, _), (3, _), (18, _)] ⟨rfl, rfl, rfl, trivial⟩ ⟨_, _, rfl, H, e7⟩
      ·
        rintro e w ⟨b8, M, rfl, H, q14⟩
        obtain rfl := Option.some.inj q14
        refine WQ.then ?_
        refine WC.condB rfl (fun hk15 => ?_) (fun hk15 => ?_)
        ·
          rw [if_pos hk15] at e2
          subst hk15
          refine WC.seq ?_
          refine WC.region ?_
          refine WR.step (Ex.move rfl) (Wn.none rfl) rfl rfl ?_
          refine WR.step (Ex.assign rfl) (Wn.none rfl) rfl rfl ?_
          refine WR.nil ?_
          refine WQ.then ?_
          refine WC.ret ?_
          (repeat (first | refine WQ.thenRet ?_ | refine WQ.inBlockRet ?_ | refine WQ.cutRet ?_))
          obtain rfl := Option.some.inj e2
          dsimp only at h
          obtain rfl := Option.some.inj h
          exact WQ.ret1 rfl rfl H.ext rfl
        ·
          rw [if_neg (by rw [hk15]; exact Bool.false_ne_true)] at e2
          subst hk15
          refine WC.skip ?_
          refine WQ.inBlock ?_
          refine WQ.then ?_
          obtain ⟨n16, hxn16, e2⟩ := bnd e2
          refine WC.region ?_
          refine WR.step (Ex.move rfl) (Wn.none rfl) rfl rfl ?_
          refine WR.step (Ex.addC rfl rfl hxn16) (Wn.none rfl) rfl rfl ?_
          refine WR.step (Ex.assign rfl) (Wn.none rfl) rfl rfl ?_
          refine WR.nil ?_
          exact WQ.againP m4 [(0, _), (3, _)] ⟨rfl, rfl, trivial⟩ ⟨_, _, rfl, H, e2⟩ (Nat.lt_succ_self _)
    ·
      replace hk5 : ¬ (n3 < (16 : Int)) := of_decide_eq_false hk5
      rw [if_neg hk5] at e2
      refine WC.exit ?_
      refine WQ.thenExit ?_
      refine WQ.thenExit ?_
      refine WQ.exitHere ?_
      exact WQ.meetN [] trivial ⟨_, rfl, H, e2⟩
  ·
    rintro e w ⟨M, rfl, H, q17⟩
    obtain rfl := Option.some.inj q17
    dsimp only at h
    refine WQ.then ?_
    refine WC.seq ?_
    refine WC.region ?_
    refine WR.step (Ex.assign rfl) (Wn.none rfl) rfl rfl ?_
    refine WR.nil ?_
    refine WQ.then ?_
    refine WC.ret ?_
    (repeat (first | refine WQ.thenRet ?_ | refine WQ.inBlockRet ?_ | refine WQ.cutRet ?_))
    obtain rfl := Option.some.inj h
    exact WQ.ret1 rfl rfl H.ext rfl
theorem R_LooseQuoted_ct {p0 : List UInt8} {vp0 : Value} {r : List UInt8} (h : R_LooseQuoted p0 = some r) : Ct Tryd.prog 18 [vp0] (fun M => Sl M encB vp0 p0) (fun v M => Sl M encB v r) := by
  refine Ct.of Tryd.func18 (enters Tryd.func18 (by kernel_rfl) rfl) rfl rfl rfl ?_
  intro w0 M0 H hp
  have hp0 := hp
  unfold R_LooseQuoted at h
  refine WC.seq ?_
  refine WC.region ?_
  refine WR.step (Ex.assign rfl) (Wn.none rfl) rfl rfl ?_
  refine WR.nil ?_
  refine WQ.then ?_
  refine WC.seq ?_
  refine WC.region ?_
  refine WR.step (Ex.assign rfl) (Wn.none rfl) rfl rfl ?_
  refine WR.nil ?_
  refine WQ.then ?_
  refine WC.seq ?_
  refine WC.seq ?_
  refine WC.region ?_
  refine WR.step (Ex.assign rfl) (Wn.none rfl) rfl rfl ?_
  refine WR.nil ?_
  refine WQ.then ?_
  obtain ⟨o1, e2, h⟩ := bnd h
  refine WC.cutX (fun e w => ∃ (l4 : List UInt8) (v5 : Value) (M : Mem), e = [(3, v5)] ∧ St w0 M0 M [RowI 5 encB v5 l4] w ∧ some l4 = some o1) [] ?_ ?_ (trivial)
  ·
    refine WC.block ?_
    replace H := H.newRow 5 encB
    refine WC.loopP (fun m e w => ∃ (l7 : List UInt8) (v8 : Value) (n9 : Int) (M : Mem), e = [(0, vp0), (3, v8), (4, I n9)] ∧ St w0 M0 M [RowI 5 encB v8 l7] w ∧ Sl M encB vp0 p0 ∧ R_LooseQuoted_L1 p0 m l7 n9 = some o1) FU [(0, _), (3, _), (4, _)] ⟨rfl, rfl, rfl, trivial⟩ ⟨_, _, _, _, rfl, H, hp0, e2⟩ ?_
    rintro m10 e w ⟨l7, v8, n9, M, rfl, H, hp0, e2⟩
    rcases m10 with _ | m10
    · rw [R_LooseQuoted_L1] at e2; cases e2
    rw [R_LooseQuoted_L1] at e2
    refine WC.seq ?_
    refine WC.seq ?_
    refine WC.region ?_
    refine WR.step (Ex.move rfl) (Wn.none rfl) rfl rfl ?_
    refine WR.step (Ex.move rfl) (Wn.none rfl) rfl rfl ?_
    refine WR.step (Ex.lenSl Tryd.underlying22 hp0 rfl) (Wn.none rfl) rfl rfl ?_
    refine WR.step (Ex.lss rfl rfl) (Wn.none rfl) rfl rfl ?_
    refine WR.nil ?_
    refine WQ.then ?_
    refine WC.condB rfl (fun hk12 => ?_) (fun hk12 => ?_)
    ·
      replace hk12 : n9 < (p0.length : Int) := of_decide_eq_true hk12
      rw [if_pos hk12] at e2
      refine WC.skip ?_
      refine WQ.then ?_
      refine WC.block ?_
      refine WC.seq ?_
      refine WC.region ?_
      refine WR.step (Ex.move rfl) (Wn.none rfl) rfl rfl ?_
      refine WR.step (Ex.assign rfl) (Wn.none rfl) rfl rfl ?_
      refine WR.nil ?_
      refine WQ.then ?_
      refine WC.seq ?_
      obtain ⟨o13, e14, e2⟩ := bnd e2
      refine WC.cutX (fun e w => ∃ (n15 : Int) (M : Mem), e = [(0, vp0), (3, v8), (4, I n9), (5, I n15)] ∧ St w0 M0 M [RowI 5 encB v8 l7] w ∧ Sl M encB vp0 p0 ∧ some n15 = some o13) [] ?_ ?_ (trivial)
      ·
        refine WC.block ?_
        refine WC.loopP (fun m e w => ∃ (n16 : Int) (M : Mem), e = [(0, vp0), (3, v8), (4, I n9), (5, I n16)] ∧ St w0 M0 M [RowI 5 encB v8 l7] w ∧ Sl M encB vp0 p0 ∧ R_LooseQuoted_L2 p0 m n16 = some o13) FU [(0, _), (3, _), (4, _), (5, _)] ⟨rfl, rfl, rfl, rfl, trivial⟩ ⟨_, _, rfl, H, hp0, e14⟩ ?_
        rintro m17 e w ⟨n16, M, rfl, H, hp0, e14⟩
        rcases m17 with _ | m17
        · rw [R_LooseQuoted_L2] at e14; cases e14
        rw [R_LooseQuoted_L2] at e14
        refine WC.seq ?_
        refine WC.seq ?_
        obtain ⟨o18, e19, e14⟩ := bnd e14
        refine WC.cutX (fun e w => ∃ (b20 : Bool) (M : Mem), e = [(0, vp0), (3, v8), (4, I n9), (5, I n16), (25, Value.bool b20)] ∧ St w0 M0 M [RowI 5 encB v8 l7] w ∧ Sl M encB vp0 p0 ∧ some b20 = some o18) [] ?_ ?_ (trivial)
        ·
          by_cases hk21 : n16 < (p0.length : Int)
          ·
            rw [if_pos hk21] at e19
            obtain ⟨c22, hxc22, e19⟩ := bnd e19
            refine WC.region ?_
            refine WR.step (Ex.move rfl) (Wn.none rfl) rfl rfl ?_
            refine WR.step (Ex.move rfl) (Wn.none rfl) rfl rfl ?_
            refine WR.step (Ex.lenSl Tryd.underlying22 hp0 rfl) (Wn.none rfl) rfl rfl ?_
            refine WR.stepE (v' := .bool true) (Ex.lss rfl rfl) (congrArg Value.bool (decide_eq_true hk21)) (Wn.none rfl) rfl rfl ?_
            refine WR.step (Ex.move rfl) (Wn.none rfl) rfl rfl ?_
            refine WR.step (Ex.move rfl) (Wn.some rfl rfl rfl) rfl rfl ?_
            refine WR.step (Ex.move rfl) (Wn.some rfl rfl rfl) rfl rfl ?_
            refine WR.idxC Tryd.underlying22 Tryd.sizeOf5 (hp0) rfl rfl hxc22 (Wn.some rfl rfl rfl) rfl ?_
            intro p22 hc22
            refine WR.step (Ex.loadM H rfl hc22 Tryd.isAgg5) (Wn.some rfl rfl rfl) rfl rfl ?_
            refine WR.step (Ex.neqB (c := c22) (d := 10) rfl rfl) (Wn.some rfl rfl rfl) rfl rfl ?_
            refine WR.step (Ex.pickT rfl rfl) (Wn.none rfl) rfl rfl ?_
            refine WR.nil ?_
            exact WQ.meetN [(0, _), (3, _), (4, _), (5, _), (25, _)] ⟨rfl, rfl, rfl, rfl, rfl, trivial⟩ ⟨_, _, rfl, H, hp0, e19⟩
          ·
            rw [if_neg hk21] at e19
            refine WC.region ?_
            refine WR.step (Ex.move rfl) (Wn.none rfl) rfl rfl ?_
            refine WR.step (Ex.move rfl) (Wn.none rfl) rfl rfl ?_
            refine WR.step (Ex.lenSl Tryd.underlying22 hp0 rfl) (Wn.none rfl) rfl rfl ?_
            refine WR.stepE (v' := .bool false) (Ex.lss rfl rfl) (congrArg Value.bool (decide_eq_false hk21)) (Wn.none rfl) rfl rfl ?_
            refine WR.step (Ex.move rfl) (Wn.none rfl) rfl rfl ?_
            refine WR.skipG (b := false) rfl rfl rfl rfl rfl ?_
            refine WR.skipG (b := false) rfl rfl rfl rfl rfl ?_
            refine WR.skipG (b := false) rfl rfl rfl rfl rfl ?_
            refine WR.skipG (b := false) rfl rfl rfl rfl rfl ?_
            refine WR.skipG (b := false) rfl rfl rfl rfl rfl ?_
            refine WR.step (Ex.pickF rfl rfl) (Wn.none rfl) rfl rfl ?_
            refine WR.nil ?_
            exact WQ.meetN [(0, _), (3, _), (4, _), (5, _), (25, _)] ⟨rfl, rfl, rfl, rfl, rfl, trivial⟩ ⟨_, _, rfl, H, hp0, e19⟩
        ·
          rintro e w ⟨b20, M, rfl, H, hp0, q23⟩
          obtain rfl := Option.some.inj q23
          refine WQ.then ?_
          refine WC.condB rfl (fun hk24 => ?_) (fun hk24 => ?_)
          ·
            rw [if_pos hk24] at e14
            subst hk24
            refine WC.skip ?_
            refine WQ.then ?_
            refine WC.block ?_
            obtain ⟨n25, hxn25, e14⟩ := bnd e14
            refine WC.region ?_
            refine WR.step (Ex.move rfl) (Wn.none rfl) rfl rfl ?_
            refine WR.step (Ex.addC rfl rfl hxn25) (Wn.none rfl) rfl rfl ?_
            refine WR.step (Ex.assign rfl) (Wn.none rfl) rfl rfl ?_
            refine WR.nil ?_
            refine WQ.inBlock ?_
            exact WQ.againP m17 [(0, _), (3, _), (4, _), (5, _)] ⟨rfl, rfl, rfl, rfl, trivial⟩ ⟨_, _, rfl, H, hp0, e14⟩ (Nat.lt_succ_self _)
          ·
            rw [if_neg (by rw [hk24]; exact Bool.false_ne_true)] at e14
            subst hk24
            refine WC.exit ?_
            refine WQ.thenExit ?_
            refine WQ.thenExit ?_
            refine WQ.exitHere ?_
            exact WQ.meetN [(0, _), (3, _), (4, _), (5, _)] ⟨rfl, rfl, rfl, rfl, trivial⟩ ⟨_, _, rfl, H, hp0, e14⟩
      ·
        rintro e w ⟨n15, M, rfl, H, hp0, q26⟩
        obtain rfl := Option.some.inj q26
        refine WQ.then ?_
        refine WC.seq ?_
        refine WC.region ?_
        refine WR.step (Ex.move rfl) (Wn.none rfl) rfl rfl ?_
        refine WR.step (Ex.assign rfl) (Wn.none rfl) rfl rfl ?_
        refine WR.nil ?_
        refine WQ.then ?_
        refine WC.seq ?_
        refine WC.seq ?_
        obtain ⟨o27, e28, e2⟩ := bnd e2
        refine WC.cutX (fun e w => ∃ (b29 : Bool) (M : Mem), e = [(0, vp0), (3, v8), (4, I n9), (5, I n15), (6, I n15), (45, Value.bool b29)] ∧ St w0 M0 M [RowI 5 encB v8 l7] w ∧ Sl M encB vp0 p0 ∧ some b29 = some o27) [] ?_ ?_ (trivial)
        ·
          by_cases hk30 : n15 < (p0.length : Int)
          ·
            rw [if_pos hk30] at e28
            by_cases hk31 : n9 < n15
            ·
              rw [if_pos hk31] at e28
              obtain ⟨n32, hxn32, e28⟩ := bnd e28
              obtain ⟨c33, hxc33, e28⟩ := bnd e28
              refine WC.region ?_
              refine WR.step (Ex.move rfl) (Wn.none rfl) rfl rfl ?_
              refine WR.step (Ex.move rfl) (Wn.none rfl) rfl rfl ?_
              refine WR.step (Ex.lenSl Tryd.underlying22 hp0 rfl) (Wn.none rfl) rfl rfl ?_
              refine WR.stepE (v' := .bool true) (Ex.lss rfl rfl) (congrArg Value.bool (decide_eq_true hk30)) (Wn.none rfl) rfl rfl ?_
              refine WR.step (Ex.move rfl) (Wn.none rfl) rfl rfl ?_
              refine WR.step (Ex.move rfl) (Wn.some rfl rfl rfl) rfl rfl ?_
              refine WR.step (Ex.move rfl) (Wn.some rfl rfl rfl) rfl rfl ?_
              refine WR.stepE (v' := .bool true) (Ex.gtr rfl rfl) (congrArg Value.bool (decide_eq_true hk31)) (Wn.some rfl rfl rfl) rfl rfl ?_
              refine WR.step (Ex.pickT rfl rfl) (Wn.none rfl) rfl rfl ?_
              refine WR.step (Ex.move rfl) (Wn.none rfl) rfl rfl ?_
              refine WR.step (Ex.move rfl) (Wn.some rfl rfl rfl) rfl rfl ?_
              refine WR.step (Ex.move rfl) (Wn.some rfl rfl rfl) rfl rfl ?_
              refine WR.step (Ex.subC rfl rfl hxn32) (Wn.some rfl rfl rfl) rfl rfl ?_
              refine WR.idxC Tryd.underlying22 Tryd.sizeOf5 (hp0) rfl rfl hxc33 (Wn.some rfl rfl rfl) rfl ?_
              intro p42 hc42
              refine WR.step (Ex.loadM H rfl hc42 Tryd.isAgg5) (Wn.some rfl rfl rfl) rfl rfl ?_
              refine WR.step (Ex.eqlB (c := c33) (d := 13) rfl rfl) (Wn.some rfl rfl rfl) rfl rfl ?_
              refine WR.step (Ex.pickT rfl rfl) (Wn.none rfl) rfl rfl ?_
              refine WR.nil ?_
              exact WQ.meetN [(0, _), (3, _), (4, _), (5, _), (6, _), (45, _)] ⟨rfl, rfl, rfl, rfl, rfl, rfl, trivial⟩ ⟨_, _, rfl, H, hp0, e28⟩
            ·
              rw [if_neg hk31] at e28
              refine WC.region ?_
              refine WR.step (Ex.move rfl) (Wn.none rfl) rfl rfl ?_
              refine WR.step (Ex.move rfl) (Wn.none rfl) rfl rfl ?_
              refine WR.step (Ex.lenSl Tryd.underlying22 hp0 rfl) (Wn.none rfl) rfl rfl ?_
              refine WR.stepE (v' := .bool true) (Ex.lss rfl rfl) (congrArg Value.bool (decide_eq_true hk30)) (Wn.none rfl) rfl rfl ?_
              refine WR.step (Ex.move rfl) (Wn.none rfl) rfl rfl ?_
              refine WR.step (Ex.move rfl) (Wn.some rfl rfl rfl) rfl rfl ?_
              refine WR.step (Ex.move rfl) (Wn.some rfl rfl rfl) rfl rfl ?_
              refine WR.stepE (v' := .bool false) (Ex.gtr rfl rfl) (congrArg Value.bool (decide_eq_false hk31)) (Wn.some rfl rfl rfl) rfl rfl ?_
              refine WR.step (Ex.pickT rfl rfl) (Wn.none rfl) rfl rfl ?_
              refine WR.step (Ex.move rfl) (Wn.none rfl) rfl rfl ?_
              refine WR.skipG (b := false) rfl rfl rfl rfl rfl ?_
              refine WR.skipG (b := false) rfl rfl rfl rfl rfl ?_
              refine WR.skipG (b := false) rfl rfl rfl rfl rfl ?_
              refine WR.skipG (b := false) rfl rfl rfl rfl rfl ?_
              refine WR.skipG (b := false) rfl rfl rfl rfl rfl ?_
              refine WR.skipG (b := false) rfl rfl rfl rfl rfl ?_
              refine WR.step (Ex.pickF rfl rfl) (Wn.none rfl) rfl rfl ?_
              refine WR.nil ?_
              exact WQ.meetN [(0, _), (3, _), (4, _), (5, _), (6, _), (45, _)] ⟨rfl, rfl, rfl, rfl, rfl, rfl, trivial⟩ ⟨_, _, rfl, H, hp0, e28⟩
          ·
            rw [if_neg hk30] at e28
            refine WC.region ?_
            refine WR.step (Ex.move rfl) (Wn.none rfl) rfl rfl ?_
            refine WR.step (Ex.move rfl) (Wn.none rfl) rfl rfl ?_
            refine WR.step (Ex.lenSl Tryd.underlying22 hp0 rfl) (Wn.none rfl) rfl rfl ?_
            refine WR.stepE (v' := .bool false) (Ex.lss rfl rfl) (congrArg Value.bool (decide_eq_false hk30)) (Wn.none rfl) rfl rfl ?_
            refine WR.step (Ex.move rfl) (Wn.none rfl) rfl rfl ?_
            refine WR.skipG (b := false) rfl rfl rfl rfl rfl ?_
            refine WR.skipG (b := false) rfl rfl rfl rfl rfl ?_
            refine WR.skipG (b := false) rfl rfl rfl rfl rfl ?_
            refine WR.step (Ex.pickF rfl rfl) (Wn.none rfl) rfl rfl ?_
            refine WR.step (Ex.move rfl) (Wn.none rfl) rfl rfl ?_
            refine WR.skipG (b := false) rfl rfl rfl rfl rfl ?_
            refine WR.skipG (b := false) rfl rfl rfl rfl rfl ?_
            refine WR.skipG (b := false) rfl rfl rfl rfl rfl ?_
            refine WR.skipG (b := false) rfl rfl rfl rfl rfl ?_
            refine WR.skipG (b := false) rfl rfl rfl rfl rfl ?_
            refine WR.skipG (b := false) rfl rfl rfl rfl rfl ?_
            refine WR.step (Ex.pickF rfl rfl) (Wn.none rfl) rfl rfl ?_
            refine WR.nil ?_
            exact WQ.meetN [(0, _), (3, _), (4, _), (5, _), (6, _), (45, _)] ⟨rfl, rfl, rfl, rfl, rfl, rfl, trivial⟩ ⟨_, _, rfl, H, hp0, e28⟩
        ·
          rintro e w ⟨b29, M, rfl, H, hp0, q34⟩
          obtain rfl := Option.some.inj q34
          refine WQ.then ?_
          obtain ⟨o35, e36, e2⟩ := bnd e2
          refine WC.cutX (fun e w => ∃ (n37 : Int) (M : Mem), e = [(0, vp0), (3, v8), (4, I n9), (5, I n15), (6, I n37)] ∧ St w0 M0 M [RowI 5 encB v8 l7] w ∧ Sl M encB vp0 p0 ∧ some n37 = some o35) [] ?_ ?_ (trivial)
          ·
            refine WC.condB rfl (fun hk38 => ?_) (fun hk38 => ?_)
            ·
              rw [if_pos hk38] at e36
              subst hk38
              obtain ⟨n39, hxn39, e36⟩ := bnd e36
              refine WC.region ?_
              refine WR.step (Ex.move rfl) (Wn.none rfl) rfl rfl ?_
              refine WR.step (Ex.subC rfl rfl hxn39) (Wn.none rfl) rfl rfl ?_
              refine WR.step (Ex.assign rfl) (Wn.none rfl) rfl rfl ?_
              refine WR.nil ?_
              exact WQ.meetN [(0, _), (3, _), (4, _), (5, _), (6, _)] ⟨rfl, rfl, rfl, rfl, rfl, trivial⟩ ⟨_, _, rfl, H, hp0, e36⟩
            ·
              rw [if_neg (by rw [hk38]; exact Bool.false_ne_true)] at e36
              subst hk38
              refine WC.skip ?_
              exact WQ.meetN [(0, _), (3, _), (4, _), (5, _), (6, _)] ⟨rfl, rfl, rfl, rfl, rfl, trivial⟩ ⟨_, _, rfl, H, hp0, e36⟩
          ·
            rintro e w ⟨n37, M, rfl, H, hp0, q40⟩
            obtain rfl := Option.some.inj q40
            refine WQ.then ?_
            refine WC.seq ?_
            refine WC.region ?_
            refine WR.step (Ex.move rfl) (Wn.none rfl) rfl rfl ?_
            refine WR.step (Ex.assign rfl) (Wn.none rfl) rfl rfl ?_
            refine WR.nil ?_
            refine WQ.then ?_
            refine WC.seq ?_
            obtain ⟨o41, e42, e2⟩ := bnd e2
            refine WC.cutX (fun e w => ∃ (n43 : Int) (M : Mem), e = [(0, vp0), (3, v8), (4, I n9), (5, I n15), (6, I n37), (7, I n43)] ∧ St w0 M0 M [RowI 5 encB v8 l7] w ∧ Sl M encB vp0 p0 ∧ some n43 = some o41) [] ?_ ?_ (trivial)
            ·
              refine WC.block ?_
              refine WC.loopP (fun m e w => ∃ (n44 : Int) (M : Mem), e = [(0, vp0), (3, v8), (4, I n9), (5, I n15), (6, I n37), (7, I n44)] ∧ St w0 M0 M [RowI 5 encB v8 l7] w ∧ Sl M encB vp0 p0 ∧ R_LooseQuoted_L3 p0 n9 m n44 = some o41) FU [(0, _), (3, _), (4, _), (5, _), (6, _), (7, _)] ⟨rfl, rfl, rfl, rfl, rfl, rfl, trivial⟩ ⟨_, _, rfl, H, hp0, e42⟩ ?_
              rintro m45 e w ⟨n44, M, rfl, H, hp0, e42⟩
              rcases m45 with _ | m45
              · rw [R_LooseQuoted_L3] at e42; cases e42
              rw [R_LooseQuoted_L3] at e42
              refine WC.seq ?_
              refine WC.seq ?_
              obtain ⟨o46, e47, e42⟩ := bnd e42
              refine WC.cutX (fun e w => ∃ (b48 : Bool) (M : Mem), e = [(0, vp0), (3, v8), (4, I n9), (5, I n15), (6, I n37), (7, I n44), (59, Value.bool b48)] ∧ St w0 M0 M [RowI 5 encB v8 l7] w ∧ Sl M encB vp0 p0 ∧ some b48 = some o46) [] ?_ ?_ (trivial)
              ·
                by_cases hk49 : n9 < n44
                ·
                  rw [if_pos hk49] at e47
                  obtain ⟨n50, hxn50, e47⟩ := bnd e47
                  obtain ⟨c51, hxc51, e47⟩ := bnd e47
                  obtain ⟨b52, hx53, e47⟩ := bnd e47
                  refine WC.region ?_
                  refine WR.step (Ex.move rfl) (Wn.none rfl) rfl rfl ?_
                  refine WR.step (Ex.move rfl) (Wn.none rfl) rfl rfl ?_
                  refine WR.stepE (v' := .bool true) (Ex.gtr rfl rfl) (congrArg Value.bool (decide_eq_true hk49)) (Wn.none rfl) rfl rfl ?_
                  refine WR.step (Ex.move rfl) (Wn.none rfl) rfl rfl ?_
                  refine WR.step (Ex.move rfl) (Wn.some rfl rfl rfl) rfl rfl ?_
                  refine WR.step (Ex.move rfl) (Wn.some rfl rfl rfl) rfl rfl ?_
                  refine WR.step (Ex.subC rfl rfl hxn50) (Wn.some rfl rfl rfl) rfl rfl ?_
                  refine WR.idxC Tryd.underlying22 Tryd.sizeOf5 (hp0) rfl rfl hxc51 (Wn.some rfl rfl rfl) rfl ?_
                  intro p56 hc56
                  refine WR.step (Ex.loadM H rfl hc56 Tryd.isAgg5) (Wn.some rfl rfl rfl) rfl rfl ?_
                  refine WR.call H (R_Blank_ct hx53) rfl trivial (Wn.some rfl rfl rfl) rfl ?_
                  intro v58 M w H hle hR
                  replace hp0 := hp0.mono hle
                  replace hc56 := hc56.mono hle
                  obtain rfl := hR
                  refine WR.step (Ex.pickT rfl rfl) (Wn.none rfl) rfl rfl ?_
                  refine WR.nil ?_
                  exact WQ.meetN [(0, _), (3, _), (4, _), (5, _), (6, _), (7, _), (59, _)] ⟨rfl, rfl, rfl, rfl, rfl, rfl, rfl, trivial⟩ ⟨_, _, rfl, H, hp0, e47⟩
                ·
                  rw [if_neg hk49] at e47
                  refine WC.region ?_
                  refine WR.step (Ex.move rfl) (Wn.none rfl) rfl rfl ?_
                  refine WR.step (Ex.move rfl) (Wn.none rfl) rfl rfl ?_
                  refine WR.stepE (v' := .bool false) (Ex.gtr rfl rfl) (congrArg Value.bool (decide_eq_false hk49)) (Wn.none rfl) rfl rfl ?_
                  refine WR.step (Ex.move rfl) (Wn.none rfl) rfl rfl ?_
                  refine WR.skipG (b := false) rfl rfl rfl rfl rfl ?_
                  refine WR.skipG (b := false) rfl rfl rfl rfl rfl ?_
                  refine WR.skipG (b := false) rfl rfl rfl rfl rfl ?_
                  refine WR.skipG (b := false) rfl rfl rfl rfl rfl ?_
                  refine WR.skipG (b := false) rfl rfl rfl rfl rfl ?_
                  refine WR.skipG (b := false) rfl rfl rfl rfl rfl ?_
                  refine WR.step (Ex.pickF rfl rfl) (Wn.none rfl) rfl rfl ?_
                  refine WR.nil ?_
                  exact WQ.meetN [(0, _), (3, _), (4, _), (5, _), (6, _), (7, _), (59, _)] ⟨rfl, rfl, rfl, rfl, rfl, rfl, rfl, trivial⟩ ⟨_, _, rfl, H, hp0, e47⟩
              ·
                rintro e w ⟨b48, M, rfl, H, hp0, q54⟩
                obtain rfl := Option.some.inj q54
                refine WQ.then ?_
                refine WC.condB rfl (fun hk55 => ?_) (fun hk55 => ?_)
                ·
                  rw [if_pos hk55] at e42
                  subst hk55
                  refine WC.skip ?_
                  refine WQ.then ?_
                  refine WC.block ?_
                  obtain ⟨n56, hxn56, e42⟩ := bnd e42
                  refine WC.region ?_
                  refine WR.step (Ex.move rfl) (Wn.none rfl) rfl rfl ?_
                  refine WR.step (Ex.subC rfl rfl hxn56) (Wn.none rfl) rfl rfl ?_
                  refine WR.step (Ex.assign rfl) (Wn.none rfl) rfl rfl ?_
                  refine WR.nil ?_
                  refine WQ.inBlock ?_
                  exact WQ.againP m45 [(0, _), (3, _), (4, _), (5, _), (6, _), (7, _)] ⟨rfl, rfl, rfl, rfl, rfl, rfl, trivial⟩ ⟨_, _, rfl, H, hp0, e42⟩ (Nat.lt_succ_self _)
                ·
                  rw [if_neg (by rw [hk55]; exact Bool.false_ne_true)] at e42
                  subst hk55
                  refine WC.exit ?_
                  refine WQ.thenExit ?_
                  refine WQ.thenExit ?_
                  refine WQ.exitHere ?_
                  exact WQ.meetN [(0, _), (3, _), (4, _), (5, _), (6, _), (7, _)] ⟨rfl, rfl, rfl, rfl, rfl, rfl, trivial⟩ ⟨_, _, rfl, H, hp0, e42⟩
            ·
              rintro e w ⟨n43, M, rfl, H, hp0, q57⟩
              obtain rfl := Option.some.inj q57
              refine WQ.then ?_
              refine WC.seq ?_
              obtain ⟨o58, e59, e2⟩ := bnd e2
              refine WC.cutX (fun e w => ∃ (b60 : Bool) (M : Mem), e = [(0, vp0), (3, v8), (4, I n9), (5, I n15), (6, I n37), (7, I n43), (8, Value.bool b60)] ∧ St w0 M0 M [RowI 5 encB v8 l7] w ∧ Sl M encB vp0 p0 ∧ some b60 = some o58) [] ?_ ?_ (trivial)
              ·
                by_cases hk61 : n9 < n43
                ·
                  rw [if_pos hk61] at e59
                  obtain ⟨n62, hxn62, e59⟩ := bnd e59
                  obtain ⟨c63, hxc63, e59⟩ := bnd e59
                  refine WC.region ?_
                  refine WR.step (Ex.move rfl) (Wn.none rfl) rfl rfl ?_
                  refine WR.step (Ex.move rfl) (Wn.none rfl) rfl rfl ?_
                  refine WR.stepE (v' := .bool true) (Ex.gtr rfl rfl) (congrArg Value.bool (decide_eq_true hk61)) (Wn.none rfl) rfl rfl ?_
                  refine WR.step (Ex.move rfl) (Wn.none rfl) rfl rfl ?_
                  refine WR.step (Ex.move rfl) (Wn.some rfl rfl rfl) rfl rfl ?_
                  refine WR.step (Ex.move rfl) (Wn.some rfl rfl rfl) rfl rfl ?_
                  refine WR.step (Ex.subC rfl rfl hxn62) (Wn.some rfl rfl rfl) rfl rfl ?_
                  refine WR.idxC Tryd.underlying22 Tryd.sizeOf5 (hp0) rfl rfl hxc63 (Wn.some rfl rfl rfl) rfl ?_
                  intro p69 hc69
                  refine WR.step (Ex.loadM H rfl hc69 Tryd.isAgg5) (Wn.some rfl rfl rfl) rfl rfl ?_
                  refine WR.step (Ex.eqlB (c := c63) (d := 61) rfl rfl) (Wn.some rfl rfl rfl) rfl rfl ?_
                  refine WR.step (Ex.pickT rfl rfl) (Wn.none rfl) rfl rfl ?_
                  refine WR.step (Ex.assign rfl) (Wn.none rfl) rfl rfl ?_
                  refine WR.nil ?_
                  exact WQ.meetN [(0, _), (3, _), (4, _), (5, _), (6, _), (7, _), (8, _)] ⟨rfl, rfl, rfl, rfl, rfl, rfl, rfl, trivial⟩ ⟨_, _, rfl, H, hp0, e59⟩
                ·
                  rw [if_neg hk61] at e59
                  refine WC.region ?_
                  refine WR.step (Ex.move rfl) (Wn.none rfl) rfl rfl ?_
                  refine WR.step (Ex.move rfl) (Wn.none rfl) rfl rfl ?_
                  refine WR.stepE (v' := .bool false) (Ex.gtr rfl rfl) (congrArg Value.bool (decide_eq_false hk61)) (Wn.none rfl) rfl rfl ?_
                  refine WR.step (Ex.move rfl) (Wn.none rfl) rfl rfl ?_
                  refine WR.skipG (b := false) rfl rfl rfl rfl rfl ?_
                  refine WR.skipG (b := false) rfl rfl rfl rfl rfl ?_
                  refine WR.skipG (b := false) rfl rfl rfl rfl rfl ?_
                  refine WR.skipG (b := false) rfl rfl rfl rfl rfl ?_
                  refine WR.skipG (b := false) rfl rfl rfl rfl rfl ?_
                  refine WR.skipG (b := false) rfl rfl rfl rfl rfl ?_
                  refine WR.step (Ex.pickF rfl rfl) (Wn.none rfl) rfl rfl ?_
                  refine WR.step (Ex.assign rfl) (Wn.none rfl) rfl rfl ?_
                  refine WR.nil ?_
                  exact WQ.meetN [(0, _), (3, _), (4, _), (5, _), (6, _), (7, _), (8, _)] ⟨rfl, rfl, rfl, rfl, rfl, rfl, rfl, trivial⟩ ⟨_, _, rfl, H, hp0, e59⟩
              ·
                rintro e w ⟨b60, M, rfl, H, hp0, q64⟩
                obtain rfl := Option.some.inj q64
                refine WQ.then ?_
                refine WC.seq ?_
                refine WC.seq ?_
                refine WC.region ?_
                refine WR.step (Ex.move rfl) (Wn.none rfl) rfl rfl ?_
                refine WR.nil ?_
                refine WQ.then ?_
                obtain ⟨o65, e66, e2⟩ := bnd e2
                refine WC.cutX (fun e w => ∃ (n67 : Int) (M : Mem), e = [(0, vp0), (3, v8), (4, I n9), (5, I n15), (6, I n37), (7, I n67), (8, Value.bool b60)] ∧ St w0 M0 M [RowI 5 encB v8 l7] w ∧ Sl M encB vp0 p0 ∧ some n67 = some o65) [] ?_ ?_ (trivial)
                ·
                  refine WC.condB rfl (fun hk68 => ?_) (fun hk68 => ?_)
                  ·
                    rw [if_pos hk68] at e66
                    subst hk68
                    obtain ⟨n69, hxn69, e66⟩ := bnd e66
                    refine WC.region ?_
                    refine WR.step (Ex.move rfl) (Wn.none rfl) rfl rfl ?_
                    refine WR.step (Ex.subC rfl rfl hxn69) (Wn.none rfl) rfl rfl ?_
                    refine WR.step (Ex.assign rfl) (Wn.none rfl) rfl rfl ?_
                    refine WR.nil ?_
                    exact WQ.meetN [(0, _), (3, _), (4, _), (5, _), (6, _), (7, _), (8, _)] ⟨rfl, rfl, rfl, rfl, rfl, rfl, rfl, trivial⟩ ⟨_, _, rfl, H, hp0, e66⟩
                  ·
                    rw [if_neg (by rw [hk68]; exact Bool.false_ne_true)] at e66
                    subst hk68
                    refine WC.skip ?_
                    exact WQ.meetN [(0, _), (3, _), (4, _), (5, _), (6, _), (7, _), (8, _)] ⟨rfl, rfl, rfl, rfl, rfl, rfl, rfl, trivial⟩ ⟨_, _, rfl, H, hp0, e66⟩
                ·
                  rintro e w ⟨n67, M, rfl, H, hp0, q70⟩
                  obtain rfl := Option.some.inj q70
                  refine WQ.then ?_
                  refine WC.seq ?_
                  refine WC.seq ?_
                  refine WC.region ?_
                  refine WR.step (Ex.move rfl) (Wn.none rfl) rfl rfl ?_
                  refine WR.step (Ex.assign rfl) (Wn.none rfl) rfl rfl ?_
                  refine WR.nil ?_
                  refine WQ.then ?_
                  obtain ⟨o71, e72, e2⟩ := bnd e2
                  refine WC.cutX (fun e w => ∃ (l74 : List UInt8) (v75 : Value) (M : Mem), e = [(0, vp0), (3, v75), (5, I n15), (6, I n37), (8, Value.bool b60)] ∧ St w0 M0 M [RowI 5 encB v75 l74] w ∧ Sl M encB vp0 p0 ∧ some l74 = some o71) [] ?_ ?_ (trivial)
                  ·
                    refine WC.block ?_
                    refine WC.loopP (fun m e w => ∃ (l77 : List UInt8) (v78 : Value) (n79 : Int) (M : Mem), e = [(0, vp0), (3, v78), (5, I n15), (6, I n37), (7, I n67), (8, Value.bool b60), (9, I n79)] ∧ St w0 M0 M [RowI 5 encB v78 l77] w ∧ Sl M encB vp0 p0 ∧ R_LooseQuoted_L4 p0 n67 m l77 n79 = some o71) FU [(0, _), (3, _), (5, _), (6, _), (7, _), (8, _), (9, _)] ⟨rfl, rfl, rfl, rfl, rfl, rfl, rfl, trivial⟩ ⟨_, _, _, _, rfl, H, hp0, e72⟩ ?_
                    rintro m80 e w ⟨l77, v78, n79, M, rfl, H, hp0, e72⟩
                    rcases m80 with _ | m80
                    · rw [R_LooseQuoted_L4] at e72; cases e72
                    rw [R_LooseQuoted_L4] at e72
                    refine WC.seq ?_
                    refine WC.seq ?_
                    refine WC.region ?_
                    refine WR.step (Ex.move rfl) (Wn.none rfl) rfl rfl ?_
                    refine WR.step (Ex.move rfl) (Wn.none rfl) rfl rfl ?_
                    refine WR.step (Ex.lss rfl rfl) (Wn.none rfl) rfl rfl ?_
                    refine WR.nil ?_
                    refine WQ.then ?_
                    refine WC.condB rfl (fun hk81 => ?_) (fun hk81 => ?_)
                    ·
                      replace hk81 : n79 < n67 := of_decide_eq_true hk81
                      rw [if_pos hk81] at e72
                      refine WC.skip ?_
                      refine WQ.then ?_
                      refine WC.seq ?_
                      refine WC.block ?_
                      refine WC.seq ?_
                      obtain ⟨o82, e83, e72⟩ := bnd e72
                      refine WC.cutX (fun e w => ∃ (b84 : Bool) (M : Mem), e = [(0, vp0), (3, v78), (5, I n15), (6, I n37), (7, I n67), (8, Value.bool b60), (9, I n79), (110, Value.bool b84)] ∧ St w0 M0 M [RowI 5 encB v78 l77] w ∧ Sl M encB vp0 p0 ∧ some b84 = some o82) [] ?_ ?_ (trivial)
                      ·
                        obtain ⟨c85, hxc85, e83⟩ := bnd e83
                        by_cases hk86 : c85 = 61
                        ·
                          rw [if_pos hk86] at e83
                          obtain ⟨n87, hxn87, e83⟩ := bnd e83
                          by_cases hk88 : n87 < n67
                          ·
                            rw [if_pos hk88] at e83
                            obtain ⟨n89, hxn89, e83⟩ := bnd e83
                            obtain ⟨c90, hxc90, e83⟩ := bnd e83
                            obtain ⟨n91, hx92, e83⟩ := bnd e83
                            by_cases hk93 : (0 : Int) ≤ n91
                            ·
                              rw [if_pos hk93] at e83
                              obtain ⟨n94, hxn94, e83⟩ := bnd e83
                              obtain ⟨c95, hxc95, e83⟩ := bnd e83
                              obtain ⟨n96, hx97, e83⟩ := bnd e83
                              refine WC.region ?_
                              refine WR.step (Ex.move rfl) (Wn.none rfl) rfl rfl ?_
                              refine WR.step (Ex.move rfl) (Wn.none rfl) rfl rfl ?_
                              refine WR.idxC Tryd.underlying22 Tryd.sizeOf5 (hp0) rfl rfl hxc85 (Wn.none rfl) rfl ?_
                              intro p84 hc84
                              refine WR.step (Ex.loadM H rfl hc84 Tryd.isAgg5) (Wn.none rfl) rfl rfl ?_
                              refine WR.stepE (v' := .bool true) (Ex.eqlB (c := c85) (d := 61) rfl rfl) (congrArg Value.bool (decide_eq_true hk86)) (Wn.none rfl) rfl rfl ?_
                              refine WR.step (Ex.move rfl) (Wn.none rfl) rfl rfl ?_
                              refine WR.step (Ex.move rfl) (Wn.some rfl rfl rfl) rfl rfl ?_
                              refine WR.step (Ex.addC rfl rfl hxn87) (Wn.some rfl rfl rfl) rfl rfl ?_
                              refine WR.step (Ex.move rfl) (Wn.some rfl rfl rfl) rfl rfl ?_
                              refine WR.stepE (v' := .bool true) (Ex.lss rfl rfl) (congrArg Value.bool (decide_eq_true hk88)) (Wn.some rfl rfl rfl) rfl rfl ?_
                              refine WR.step (Ex.pickT rfl rfl) (Wn.none rfl) rfl rfl ?_
                              refine WR.step (Ex.move rfl) (Wn.none rfl) rfl rfl ?_
                              refine WR.step (Ex.move rfl) (Wn.some rfl rfl rfl) rfl rfl ?_
                              refine WR.step (Ex.move rfl) (Wn.some rfl rfl rfl) rfl rfl ?_
                              refine WR.step (Ex.addC rfl rfl hxn89) (Wn.some rfl rfl rfl) rfl rfl ?_
                              refine WR.idxC Tryd.underlying22 Tryd.sizeOf5 (hp0) rfl rfl hxc90 (Wn.some rfl rfl rfl) rfl ?_
                              intro p97 hc97
                              refine WR.step (Ex.loadM H rfl hc97 Tryd.isAgg5) (Wn.some rfl rfl rfl) rfl rfl ?_
                              refine WR.call H (R_Hex_ct hx92) rfl trivial (Wn.some rfl rfl rfl) rfl ?_
                              intro v99 M w H hle hR
                              replace hp0 := hp0.mono hle
                              replace hc84 := hc84.mono hle
                              replace hc97 := hc97.mono hle
                              obtain rfl := hR
                              refine WR.stepE (v' := .bool true) (Ex.geq rfl rfl) (congrArg Value.bool (decide_eq_true hk93)) (Wn.some rfl rfl rfl) rfl rfl ?_
                              refine WR.step (Ex.pickT rfl rfl) (Wn.none rfl) rfl rfl ?_
                              refine WR.step (Ex.move rfl) (Wn.none rfl) rfl rfl ?_
                              refine WR.step (Ex.move rfl) (Wn.some rfl rfl rfl) rfl rfl ?_
                              refine WR.step (Ex.move rfl) (Wn.some rfl rfl rfl) rfl rfl ?_
                              refine WR.step (Ex.addC rfl rfl hxn94) (Wn.some rfl rfl rfl) rfl rfl ?_
                              refine WR.idxC Tryd.underlying22 Tryd.sizeOf5 (hp0) rfl rfl hxc95 (Wn.some rfl rfl rfl) rfl ?_
                              intro p106 hc106
                              refine WR.step (Ex.loadM H rfl hc106 Tryd.isAgg5) (Wn.some rfl rfl rfl) rfl rfl ?_
                              refine WR.call H (R_Hex_ct hx97) rfl trivial (Wn.some rfl rfl rfl) rfl ?_
                              intro v108 M w H hle hR
                              replace hp0 := hp0.mono hle
                              replace hc84 := hc84.mono hle
                              replace hc97 := hc97.mono hle
                              replace hc106 := hc106.mono hle
                              obtain rfl := hR
                              refine WR.step (Ex.geq rfl rfl) (Wn.some rfl rfl rfl) rfl rfl ?_
                              refine WR.step (Ex.pickT rfl rfl) (Wn.none rfl) rfl rfl ?_
                              refine WR.nil ?_
                              exact WQ.meetN [(0, _), (3, _), (5, _), (6, _), (7, _), (8, _), (9, _), (110, _)] ⟨rfl, rfl, rfl, rfl, rfl, rfl, rfl, rfl, trivial⟩ ⟨_, _, rfl, H, hp0, e83⟩
                            ·
                              rw [if_neg hk93] at e83
                              refine WC.region ?_
                              refine WR.step (Ex.move rfl) (Wn.none rfl) rfl rfl ?_
                              refine WR.step (Ex.move rfl) (Wn.none rfl) rfl rfl ?_
                              refine WR.idxC Tryd.underlying22 Tryd.sizeOf5 (hp0) rfl rfl hxc85 (Wn.none rfl) rfl ?_
                              intro p84 hc84
                              refine WR.step (Ex.loadM H rfl hc84 Tryd.isAgg5) (Wn.none rfl) rfl rfl ?_
                              refine WR.stepE (v' := .bool true) (Ex.eqlB (c := c85) (d := 61) rfl rfl) (congrArg Value.bool (decide_eq_true hk86)) (Wn.none rfl) rfl rfl ?_
                              refine WR.step (Ex.move rfl) (Wn.none rfl) rfl rfl ?_
                              refine WR.step (Ex.move rfl) (Wn.some rfl rfl rfl) rfl rfl ?_
                              refine WR.step (Ex.addC rfl rfl hxn87) (Wn.some rfl rfl rfl) rfl rfl ?_
                              refine WR.step (Ex.move rfl) (Wn.some rfl rfl rfl) rfl rfl ?_
                              refine WR.stepE (v' := .bool true) (Ex.lss rfl rfl) (congrArg Value.bool (decide_eq_true hk88)) (Wn.some rfl rfl rfl) rfl rfl ?_
                              refine WR.step (Ex.pickT rfl rfl) (Wn.none rfl) rfl rfl ?_
                              refine WR.step (Ex.move rfl) (Wn.none rfl) rfl rfl ?_
                              refine WR.step (Ex.move rfl) (Wn.some rfl rfl rfl) rfl rfl ?_
                              refine WR.step (Ex.move rfl) (Wn.some rfl rfl rfl) rfl rfl ?_
                              refine WR.step (Ex.addC rfl rfl hxn89) (Wn.some rfl rfl rfl) rfl rfl ?_
                              refine WR.idxC Tryd.underlying22 Tryd.sizeOf5 (hp0) rfl rfl hxc90 (Wn.some rfl rfl rfl) rfl ?_
                              intro p97 hc97
                              refine WR.step (Ex.loadM H rfl hc97 Tryd.isAgg5) (Wn.some rfl rfl rfl) rfl rfl ?_
                              refine WR.call H (R_Hex_ct hx92) rfl trivial (Wn.some rfl rfl rfl) rfl ?_
                              intro v99 M w H hle hR
                              replace hp0 := hp0.mono hle
                              replace hc84 := hc84.mono hle
                              replace hc97 := hc97.mono hle
                              obtain rfl := hR
                              refine WR.stepE (v' := .bool false) (Ex.geq rfl rfl) (congrArg Value.bool (decide_eq_false hk93)) (Wn.some rfl rfl rfl) rfl rfl ?_
                              refine WR.step (Ex.pickT rfl rfl) (Wn.none rfl) rfl rfl ?_
                              refine WR.step (Ex.move rfl) (Wn.none rfl) rfl rfl ?_
                              refine WR.skipG (b := false) rfl rfl rfl rfl rfl ?_
                              refine WR.skipG (b := false) rfl rfl rfl rfl rfl ?_
                              refine WR.skipG (b := false) rfl rfl rfl rfl rfl ?_
                              refine WR.skipG (b := false) rfl rfl rfl rfl rfl ?_
                              refine WR.skipG (b := false) rfl rfl rfl rfl rfl ?_
                              refine WR.skipG (b := false) rfl rfl rfl rfl rfl ?_
                              refine WR.skipG (b := false) rfl rfl rfl rfl rfl ?_
                              refine WR.step (Ex.pickF rfl rfl) (Wn.none rfl) rfl rfl ?_
                              refine WR.nil ?_
                              exact WQ.meetN [(0, _), (3, _), (5, _), (6, _), (7, _), (8, _), (9, _), (110, _)] ⟨rfl, rfl, rfl, rfl, rfl, rfl, rfl, rfl, trivial⟩ ⟨_, _, rfl, H, hp0, e83⟩
                          ·
                            rw [if_neg hk88] at e83
                            refine WC.region ?_
                            refine WR.step (Ex.move rfl) (Wn.none rfl) rfl rfl ?_
                            refine WR.step (Ex.move rfl) (Wn.none rfl) rfl rfl ?_
                            refine WR.idxC Tryd.underlying22 Tryd.sizeOf5 (hp0) rfl rfl hxc85 (Wn.none rfl) rfl ?_
                            intro p84 hc84
                            refine WR.step (Ex.loadM H rfl hc84 Tryd.isAgg5) (Wn.none rfl) rfl rfl ?_
                            refine WR.stepE (v' := .bool true) (Ex.eqlB (c := c85) (d := 61) rfl rfl) (congrArg Value.bool (decide_eq_true hk86)) (Wn.none rfl) rfl rfl ?_
                            refine WR.step (Ex.move rfl) (Wn.none rfl) rfl rfl ?_
                            refine WR.step (Ex.move rfl) (Wn.some rfl rfl rfl) rfl rfl ?_
                            refine WR.step (Ex.addC rfl rfl hxn87) (Wn.some rfl rfl rfl) rfl rfl ?_
                            refine WR.step (Ex.move rfl) (Wn.some rfl rfl rfl) rfl rfl ?_
                            refine WR.stepE (v' := .bool false) (Ex.lss rfl rfl) (congrArg Value.bool (decide_eq_false hk88)) (Wn.some rfl rfl rfl) rfl rfl ?_
                            refine WR.step (Ex.pickT rfl rfl) (Wn.none rfl) rfl rfl ?_
                            refine WR.step (Ex.move rfl) (Wn.none rfl) rfl rfl ?_
                            refine WR.skipG (b := false) rfl rfl rfl rfl rfl ?_
                            refine WR.skipG (b := false) rfl rfl rfl rfl rfl ?_
                            refine WR.skipG (b := false) rfl rfl rfl rfl rfl ?_
                            refine WR.skipG (b := false) rfl rfl rfl rfl rfl ?_
                            refine WR.skipG (b := false) rfl rfl rfl rfl rfl ?_
                            refine WR.skipG (b := false) rfl rfl rfl rfl rfl ?_
                            refine WR.skipG (b := false) rfl rfl rfl rfl rfl ?_
                            refine WR.step (Ex.pickF rfl rfl) (Wn.none rfl) rfl rfl ?_
                            refine WR.step (Ex.move rfl) (Wn.none rfl) rfl rfl ?_
                            refine WR.skipG (b := false) rfl rfl rfl rfl rfl ?_
                            refine WR.skipG (b := false) rfl rfl rfl rfl rfl ?_
                            refine WR.skipG (b := false) rfl rfl rfl rfl rfl ?_
                            refine WR.skipG (b := false) rfl rfl rfl rfl rfl ?_
                            refine WR.skipG (b := false) rfl rfl rfl rfl rfl ?_
                            refine WR.skipG (b := false) rfl rfl rfl rfl rfl ?_
                            refine WR.skipG (b := false) rfl rfl rfl rfl rfl ?_
                            refine WR.step (Ex.pickF rfl rfl) (Wn.none rfl) rfl rfl ?_
                            refine WR.nil ?_
                            exact WQ.meetN [(0, _), (3, _), (5, _), (6, _), (7, _), (8, _), (9, _), (110, _)] ⟨rfl, rfl, rfl, rfl, rfl, rfl, rfl, rfl, trivial⟩ ⟨_, _, rfl, H, hp0, e83⟩
                        ·
                          rw [if_neg hk86] at e83
                          refine WC.region ?_
                          refine WR.step (Ex.move rfl) (Wn.none rfl) rfl rfl ?_
                          refine WR.step (Ex.move rfl) (Wn.none rfl) rfl rfl ?_
                          refine WR.idxC Tryd.underlying22 Tryd.sizeOf5 (hp0) rfl rfl hxc85 (Wn.none rfl) rfl ?_
                          intro p84 hc84
                          refine WR.step (Ex.loadM H rfl hc84 Tryd.isAgg5) (Wn.none rfl) rfl rfl ?_
                          refine WR.stepE (v' := .bool false) (Ex.eqlB (c := c85) (d := 61) rfl rfl) (congrArg Value.bool (decide_eq_false hk86)) (Wn.none rfl) rfl rfl ?_
                          refine WR.step (Ex.move rfl) (Wn.none rfl) rfl rfl ?_
                          refine WR.skipG (b := false) rfl rfl rfl rfl rfl ?_
                          refine WR.skipG (b := false) rfl rfl rfl rfl rfl ?_
                          refine WR.skipG (b := false) rfl rfl rfl rfl rfl ?_
                          refine WR.skipG (b := false) rfl rfl rfl rfl rfl ?_
                          refine WR.step (Ex.pickF rfl rfl) (Wn.none rfl) rfl rfl ?_
                          refine WR.step (Ex.move rfl) (Wn.none rfl) rfl rfl ?_
                          refine WR.skipG (b := false) rfl rfl rfl rfl rfl ?_
                          refine WR.skipG (b := false) rfl rfl rfl rfl rfl ?_
                          refine WR.skipG (b := false) rfl rfl rfl rfl rfl ?_
                          refine WR.skipG (b := false) rfl rfl rfl rfl rfl ?_
                          refine WR.skipG (b := false) rfl rfl rfl rfl rfl ?_
                          refine WR.skipG (b := false) rfl rfl rfl rfl rfl ?_
                          refine WR.skipG (b := false) rfl rfl rfl rfl rfl ?_
                          refine WR.step (Ex.pickF rfl rfl) (Wn.none rfl) rfl rfl ?_
                          refine WR.step (Ex.move rfl) (Wn.none rfl) rfl rfl ?_
                          refine WR.skipG (b := false) rfl rfl rfl rfl rfl ?_
                          refine WR.skipG (b := false) rfl rfl rfl rfl rfl ?_
                          refine WR.skipG (b := false) rfl rfl rfl rfl rfl ?_
                          refine WR.skipG (b := false) rfl rfl rfl rfl rfl ?_
                          refine WR.skipG (b := false) rfl rfl rfl rfl rfl ?_
                          refine WR.skipG (b := false) rfl rfl rfl rfl rfl ?_
                          refine WR.skipG (b := false) rfl rfl rfl rfl rfl ?_
                          refine WR.step (Ex.pickF rfl rfl) (Wn.none rfl) rfl rfl ?_
                          refine WR.nil ?_
                          exact WQ.meetN [(0, _), (3, _), (5, _), (6, _), (7, _), (8, _), (9, _), (110, _)] ⟨rfl, rfl, rfl, rfl, rfl, rfl, rfl, rfl, trivial⟩ ⟨_, _, rfl, H, hp0, e83⟩
                      ·
                        rintro e w ⟨b84, M, rfl, H, hp0, q98⟩
                        obtain rfl := Option.some.inj q98
                        refine WQ.then ?_
                        refine WC.condB rfl (fun hk99 => ?_) (fun hk99 => ?_)
                        ·
                          rw [if_pos hk99] at e72
                          subst hk99
                          refine WC.seq ?_
                          obtain ⟨n100, hxn100, e72⟩ := bnd e72
                          obtain ⟨c101, hxc101, e72⟩ := bnd e72
                          obtain ⟨n102, hx103, e72⟩ := bnd e72
                          obtain ⟨n104, hxn104, e72⟩ := bnd e72
                          obtain ⟨n105, hxn105, e72⟩ := bnd e72
                          obtain ⟨c106, hxc106, e72⟩ := bnd e72
                          obtain ⟨n107, hx108, e72⟩ := bnd e72
                          obtain ⟨n109, hxn109, e72⟩ := bnd e72
                          obtain ⟨l110, hxl110, e72⟩ := bnd e72
                          refine WC.cutP (fun e w => ∃ (v111 : Value) (M : Mem), e = [(0, vp0), (3, v111), (5, I n15), (6, I n37), (7, I n67), (8, Value.bool b60), (9, I n79)] ∧ St w0 M0 M [RowI 5 encB v111 l110] w ∧ Sl M encB vp0 p0) ?_ ?_
                          ·
                            refine WC.draw (m := 19) rfl rfl H ?_
                            intro w H
                            refine WA.take (i := 0) rfl (by kernel_rfl) (by kernel_rfl) (by kernel_rfl) (fun _ => Ex.move rfl) (Wn.none rfl) rfl rfl (fun _ _ => rfl) ?_
                            refine WA.take (i := 1) rfl (by kernel_rfl) (by kernel_rfl) (by kernel_rfl) (fun _ => Ex.move rfl) (Wn.none rfl) rfl rfl (fun _ _ => rfl) ?_
                            refine WA.take (i := 2) rfl (by kernel_rfl) (by kernel_rfl) (by kernel_rfl) (fun _ => Ex.move rfl) (Wn.none rfl) rfl rfl (fun _ _ => rfl) ?_
                            refine WA.take (i := 3) rfl (by kernel_rfl) (by kernel_rfl) (by kernel_rfl) (fun _ => Ex.addC rfl rfl hxn100) (Wn.none rfl) rfl rfl (fun _ _ => rfl) ?_
                            refine WA.take (i := 8) rfl (by kernel_rfl) (by kernel_rfl) (by kernel_rfl) (fun _ => Ex.move rfl) (Wn.none rfl) rfl rfl (fun _ _ => rfl) ?_
                            refine WA.take (i := 9) rfl (by kernel_rfl) (by kernel_rfl) (by kernel_rfl) (fun _ => Ex.move rfl) (Wn.none rfl) rfl rfl (fun _ _ => rfl) ?_
                            refine WA.take (i := 10) rfl (by kernel_rfl) (by kernel_rfl) (by kernel_rfl) (fun _ => Ex.addC rfl rfl hxn105) (Wn.none rfl) rfl rfl (fun _ _ => rfl) ?_
                            refine WA.two (i := 4) (j := 11) (by kernel_rfl) rfl rfl ?_ ?_
                            ·
                              refine WR.idxC Tryd.underlying22 Tryd.sizeOf5 (hp0) rfl rfl hxc101 (Wn.none rfl) rfl ?_
                              intro p115 hc115
                              refine WR.nil (WQ.any ?_)
                              refine WA.two (i := 5) (j := 11) (by kernel_rfl) rfl rfl ?_ ?_
                              ·
                                refine WR.step (Ex.loadM H rfl hc115 Tryd.isAgg5) (Wn.none rfl) rfl rfl ?_
                                refine WR.nil (WQ.any ?_)
                                refine WA.two (i := 6) (j := 11) (by kernel_rfl) rfl rfl ?_ ?_
                                ·
                                  refine WR.call H (R_Hex_ct hx103) rfl trivial (Wn.none rfl) rfl ?_
                                  intro v117 M w H hle hR
                                  replace hp0 := hp0.mono hle
                                  replace hc115 := hc115.mono hle
                                  obtain rfl := hR
                                  refine WR.nil (WQ.any ?_)
                                  refine WA.take (i := 7) rfl (by kernel_rfl) (by kernel_rfl) (by kernel_rfl) (fun _ => Ex.mulC rfl rfl hxn104) (Wn.none rfl) rfl rfl (fun _ _ => rfl) ?_
                                  refine WA.one (i := 11) (by kernel_rfl) rfl ?_
                                  refine WR.idxC Tryd.underlying22 Tryd.sizeOf5 (hp0) rfl rfl hxc106 (Wn.none rfl) rfl ?_
                                  intro p122 hc122
                                  refine WR.nil (WQ.any ?_)
                                  refine WA.one (i := 12) (by kernel_rfl) rfl ?_
                                  refine WR.step (Ex.loadM H rfl hc122 Tryd.isAgg5) (Wn.none rfl) rfl rfl ?_
                                  refine WR.nil (WQ.any ?_)
                                  refine WA.one (i := 13) (by kernel_rfl) rfl ?_
                                  refine WR.call H (R_Hex_ct hx108) rfl trivial (Wn.none rfl) rfl ?_
                                  intro v124 M w H hle hR
                                  replace hp0 := hp0.mono hle
                                  replace hc115 := hc115.mono hle
                                  replace hc122 := hc122.mono hle
                                  obtain rfl := hR
                                  refine WR.nil (WQ.any ?_)
                                  refine WA.one (i := 14) (by kernel_rfl) rfl ?_
                                  refine WR.step (Ex.addC rfl rfl hxn109) (Wn.none rfl) rfl rfl ?_
                                  refine WR.nil (WQ.any ?_)
                                  refine WA.one (i := 15) (by kernel_rfl) rfl ?_
                                  refine WR.step (Ex.convU8C Tryd.underlying3 Tryd.underlying5 rfl) (Wn.none rfl) rfl rfl ?_
                                  refine WR.nil (WQ.any ?_)
                                  refine WA.one (i := 16) (by kernel_rfl) rfl ?_
                                  refine WR.lit (enc := encB) xty22 ([(ub8 n109)] : List UInt8) H rfl (by rfl) (fun _ => rfl) rfl rfl (Wn.none rfl) rfl ?_
                                  intro v127 M w H hle hs127
                                  replace hp0 := hp0.mono hle
                                  replace hc115 := hc115.mono hle
                                  replace hc122 := hc122.mono hle
                                  refine WR.nil (WQ.any ?_)
                                  refine WA.one (i := 17) (by kernel_rfl) rfl ?_
                                  refine WR.appC (l := l77) xty22 rfl (fun _ => rfl) H rfl (fun _ => by repeat (first | exact Upd.head | apply Upd.tail)) rfl (hs127) hxl110 (Wn.none rfl) rfl ?_
                                  intro v128 w H
                                  refine WR.nil (WQ.any ?_)
                                  refine WA.one (i := 18) (by kernel_rfl) rfl ?_
                                  refine WR.step (Ex.assign rfl) (Wn.none rfl) rfl rfl ?_
                                  refine WR.nil (WQ.any ?_)
                                  refine WA.done (by kernel_rfl) ?_
                                  exact WQ.meetP [(0, _), (3, _), (5, _), (6, _), (7, _), (8, _), (9, _)] ⟨rfl, rfl, rfl, rfl, rfl, rfl, rfl, trivial⟩ ⟨_, _, rfl, H, hp0⟩
                                ·
                                  refine WR.idxC Tryd.underlying22 Tryd.sizeOf5 (hp0) rfl rfl hxc106 (Wn.none rfl) rfl ?_
                                  intro p122 hc122
                                  refine WR.nil (WQ.any ?_)
                                  refine WA.two (i := 6) (j := 12) (by kernel_rfl) rfl rfl ?_ ?_
                                  ·
                                    refine WR.call H (R_Hex_ct hx103) rfl trivial (Wn.none rfl) rfl ?_
                                    intro v117 M w H hle hR
                                    replace hp0 := hp0.mono hle
                                    replace hc115 := hc115.mono hle
                                    replace hc122 := hc122.mono hle
                                    obtain rfl := hR
                                    refine WR.nil (WQ.any ?_)
                                    refine WA.take (i := 7) rfl (by kernel_rfl) (by kernel_rfl) (by kernel_rfl) (fun _ => Ex.mulC rfl rfl hxn104) (Wn.none rfl) rfl rfl (fun _ _ => rfl) ?_
                                    refine WA.one (i := 12) (by kernel_rfl) rfl ?_
                                    refine WR.step (Ex.loadM H rfl hc122 Tryd.isAgg5) (Wn.none rfl) rfl rfl ?_
                                    refine WR.nil (WQ.any ?_)
                                    refine WA.one (i := 13) (by kernel_rfl) rfl ?_
                                    refine WR.call H (R_Hex_ct hx108) rfl trivial (Wn.none rfl) rfl ?_
                                    intro v124 M w H hle hR
                                    replace hp0 := hp0.mono hle
                                    replace hc115 := hc115.mono hle
                                    replace hc122 := hc122.mono hle
                                    obtain rfl := hR
                                    refine WR.nil (WQ.any ?_)
                                    refine WA.one (i := 14) (by kernel_rfl) rfl ?_
                                    refine WR.step (Ex.addC rfl rfl hxn109) (Wn.none rfl) rfl rfl ?_
                                    refine WR.nil (WQ.any ?_)
                                    refine WA.one (i := 15) (by kernel_rfl) rfl ?_
                                    refine WR.step (Ex.convU8C Tryd.underlying3 Tryd.underlying5 rfl) (Wn.none rfl) rfl rfl ?_
                                    refine WR.nil (WQ.any ?_)
                                    refine WA.one (i := 16) (by kernel_rfl) rfl ?_
                                    refine WR.lit (enc := encB) xty22 ([(ub8 n109)] : List UInt8) H rfl (by rfl) (fun _ => rfl) rfl rfl (Wn.none rfl) rfl ?_
                                    intro v127 M w H hle hs127
                                    replace hp0 := hp0.mono hle
                                    replace hc115 := hc115.mono hle
                                    replace hc122 := hc122.mono hle
                                    refine WR.nil (WQ.any ?_)
                                    refine WA.one (i := 17) (by kernel_rfl) rfl ?_
                                    refine WR.appC (l := l77) xty22 rfl (fun _ => rfl) H rfl (fun _ => by repeat (first | exact Upd.head | apply Upd.tail)) rfl (hs127) hxl110 (Wn.none rfl) rfl ?_
                                    intro v128 w H
                                    refine WR.nil (WQ.any ?_)
                                    refine WA.one (i := 18) (by kernel_rfl) rfl ?_
                                    refine WR.step (Ex.assign rfl) (Wn.none rfl) rfl rfl ?_
                                    refine WR.nil (WQ.any ?_)
                                    refine WA.done (by kernel_rfl) ?_
                                    exact WQ.meetP [(0, _), (3, _), (5, _), (6, _), (7, _), (8, _), (9, _)] ⟨rfl, rfl, rfl, rfl, rfl, rfl, rfl, trivial⟩ ⟨_, _, rfl, H, hp0⟩
                                  ·
                                    refine WR.step (Ex.loadM H rfl hc122 Tryd.isAgg5) (Wn.none rfl) rfl rfl ?_
                                    refine WR.nil (WQ.any ?_)
                                    refine WA.one (i := 6) (by kernel_rfl) rfl ?_
                                    refine WR.call H (R_Hex_ct hx103) rfl trivial (Wn.none rfl) rfl ?_
                                    intro v117 M w H hle hR
                                    replace hp0 := hp0.mono hle
                                    replace hc115 := hc115.mono hle
                                    replace hc122 := hc122.mono hle
                                    obtain rfl := hR
                                    refine WR.nil (WQ.any ?_)
                                    refine WA.take (i := 7) rfl (by kernel_rfl) (by kernel_rfl) (by kernel_rfl) (fun _ => Ex.mulC rfl rfl hxn104) (Wn.none rfl) rfl rfl (fun _ _ => rfl) ?_
                                    refine WA.one (i := 13) (by kernel_rfl) rfl ?_
                                    refine WR.call H (R_Hex_ct hx108) rfl trivial (Wn.none rfl) rfl ?_
                                    intro v124 M w H hle hR
                                    replace hp0 := hp0.mono hle
                                    replace hc115 := hc115.mono hle
                                    replace hc122 := hc122.mono hle
                                    obtain rfl := hR
                                    refine WR.nil (WQ.any ?_)
                                    refine WA.one (i := 14) (by kernel_rfl) rfl ?_
                                    refine WR.step (Ex.addC rfl rfl hxn109) (Wn.none rfl) rfl rfl ?_
                                    refine WR.nil (WQ.any ?_)
                                    refine WA.one (i := 15) (by kernel_rfl) rfl ?_
                                    refine WR.step (Ex.convU8C Tryd.underlying3 Tryd.underlying5 rfl) (Wn.none rfl) rfl rfl ?_
                                    refine WR.nil (WQ.any ?_)
                                    refine WA.one (i := 16) (by kernel_rfl) rfl ?_
                                    refine WR.lit (enc := encB) xty22 ([(ub8 n109)] : List UInt8) H rfl (by rfl) (fun _ => rfl) rfl rfl (Wn.none rfl) rfl ?_
                                    intro v127 M w H hle hs127
                                    replace hp0 := hp0.mono hle
                                    replace hc115 := hc115.mono hle
                                    replace hc122 := hc122.mono hle
                                    refine WR.nil (WQ.any ?_)
                                    refine WA.one (i := 17) (by kernel_rfl) rfl ?_
                                    refine WR.appC (l := l77) xty22 rfl (fun _ => rfl) H rfl (fun _ => by repeat (first | exact Upd.head | apply Upd.tail)) rfl (hs127) hxl110 (Wn.none rfl) rfl ?_
                                    intro v128 w H
                                    refine WR.nil (WQ.any ?_)
                                    refine WA.one (i := 18) (by kernel_rfl) rfl ?_
                                    refine WR.step (Ex.assign rfl) (Wn.none rfl) rfl rfl ?_
                                    refine WR.nil (WQ.any ?_)
                                    refine WA.done (by kernel_rfl) ?_
                                    exact WQ.meetP [(0, _), (3, _), (5, _), (6, _), (7, _), (8, _), (9, _)] ⟨rfl, rfl, rfl, rfl, rfl, rfl, rfl, trivial⟩ ⟨_, _, rfl, H, hp0⟩
                              ·
                                refine WR.idxC Tryd.underlying22 Tryd.sizeOf5 (hp0) rfl rfl hxc106 (Wn.none rfl) rfl ?_
                                intro p122 hc122
                                refine WR.nil (WQ.any ?_)
                                refine WA.two (i := 5) (j := 12) (by kernel_rfl) rfl rfl ?_ ?_
                                ·
                                  refine WR.step (Ex.loadM H rfl hc115 Tryd.isAgg5) (Wn.none rfl) rfl rfl ?_
                                  refine WR.nil (WQ.any ?_)
                                  refine WA.two (i := 6) (j := 12) (by kernel_rfl) rfl rfl ?_ ?_
                                  ·
                                    refine WR.call H (R_Hex_ct hx103) rfl trivial (Wn.none rfl) rfl ?_
                                    intro v117 M w H hle hR
                                    replace hp0 := hp0.mono hle
                                    replace hc115 := hc115.mono hle
                                    replace hc122 := hc122.mono hle
                                    obtain rfl := hR
                                    refine WR.nil (WQ.any ?_)
                                    refine WA.take (i := 7) rfl (by kernel_rfl) (by kernel_rfl) (by kernel_rfl) (fun _ => Ex.mulC rfl rfl hxn104) (Wn.none rfl) rfl rfl (fun _ _ => rfl) ?_
                                    refine WA.one (i := 12) (by kernel_rfl) rfl ?_
                                    refine WR.step (Ex.loadM H rfl hc122 Tryd.isAgg5) (Wn.none rfl) rfl rfl ?_
                                    refine WR.nil (WQ.any ?_)
                                    refine WA.one (i := 13) (by kernel_rfl) rfl ?_
                                    refine WR.call H (R_Hex_ct hx108) rfl trivial (Wn.none rfl) rfl ?_
                                    intro v124 M w H hle hR
                                    replace hp0 := hp0.mono hle
                                    replace hc115 := hc115.mono hle
                                    replace hc122 := hc122.mono hle
                                    obtain rfl := hR
                                    refine WR.nil (WQ.any ?_)
                                    refine WA.one (i := 14) (by kernel_rfl) rfl ?_
                                    refine WR.step (Ex.addC rfl rfl hxn109) (Wn.none rfl) rfl rfl ?_
                                    refine WR.nil (WQ.any ?_)
                                    refine WA.one (i := 15) (by kernel_rfl) rfl ?_
                                    refine WR.step (Ex.convU8C Tryd.underlying3 Tryd.underlying5 rfl) (Wn.none rfl) rfl rfl ?_
                                    refine WR.nil (WQ.any ?_)
                                    refine WA.one (i := 16) (by kernel_rfl) rfl ?_
                                    refine WR.lit (enc := encB) xty22 ([(ub8 n109)] : List UInt8) H rfl (by rfl) (fun _ => rfl) rfl rfl (Wn.none rfl) rfl ?_
                                    intro v127 M w H hle hs127
                                    replace hp0 := hp0.mono hle
                                    replace hc115 := hc115.mono hle
                                    replace hc122 := hc122.mono hle
                                    refine WR.nil (WQ.any ?_)
                                    refine WA.one (i := 17) (by kernel_rfl) rfl ?_
                                    refine WR.appC (l := l77) xty22 rfl (fun _ => rfl) H rfl (fun _ => by repeat (first | exact Upd.head | apply Upd.tail)) rfl (hs127) hxl110 (Wn.none rfl) rfl ?_
                                    intro v128 w H
                                    refine WR.nil (WQ.any ?_)
                                    refine WA.one (i := 18) (by kernel_rfl) rfl ?_
                                    refine WR.step (Ex.assign rfl) (Wn.none rfl) rfl rfl ?_
                                    refine WR.nil (WQ.any ?_)
                                    refine WA.done (by kernel_rfl) ?_
                                    exact WQ.meetP [(0, _), (3, _), (5, _), (6, _), (7, _), (8, _), (9, _)] ⟨rfl, rfl, rfl, rfl, rfl, rfl, rfl, trivial⟩ ⟨_, _, rfl, H, hp0⟩
                                  ·
                                    refine WR.step (Ex.loadM H rfl hc122 Tryd.isAgg5) (Wn.none rfl) rfl rfl ?_
                                    refine WR.nil (WQ.any ?_)
                                    refine WA.one (i := 6) (by kernel_rfl) rfl ?_
                                    refine WR.call H (R_Hex_ct hx103) rfl trivial (Wn.none rfl) rfl ?_
                                    intro v117 M w H hle hR
                                    replace hp0 := hp0.mono hle
                                    replace hc115 := hc115.mono hle
                                    replace hc122 := hc122.mono hle
                                    obtain rfl := hR
                                    refine WR.nil (WQ.any ?_)
                                    refine WA.take (i := 7) rfl (by kernel_rfl) (by kernel_rfl) (by kernel_rfl) (fun _ => Ex.mulC rfl rfl hxn104) (Wn.none rfl) rfl rfl (fun _ _ => rfl) ?_
                                    refine WA.one (i := 13) (by kernel_rfl) rfl ?_
                                    refine WR.call H (R_Hex_ct hx108) rfl trivial (Wn.none rfl) rfl ?_
                                    intro v124 M w H hle hR
                                    replace hp0 := hp0.mono hle
                                    replace hc115 := hc115.mono hle
                                    replace hc122 := hc122.mono hle
                                    obtain rfl := hR
                                    refine WR.nil (WQ.any ?_)
                                    refine WA.one (i := 14) (by kernel_rfl) rfl ?_
                                    refine WR.step (Ex.addC rfl rfl hxn109) (Wn.none rfl) rfl rfl ?_
                                    refine WR.nil (WQ.any ?_)
                                    refine WA.one (i := 15) (by kernel_rfl) rfl ?_
                                    refine WR.step (Ex.convU8C Tryd.underlying3 Tryd.underlying5 rfl) (Wn.none rfl) rfl rfl ?_
                                    refine WR.nil (WQ.any ?_)
                                    refine WA.one (i := 16) (by kernel_rfl) rfl ?_
                                    refine WR.lit (enc := encB) xty22 ([(ub8 n109)] : List UInt8) H rfl (by rfl) (fun _ => rfl) rfl rfl (Wn.none rfl) rfl ?_
                                    intro v127 M w H hle hs127
                                    replace hp0 := hp0.mono hle
                                    replace hc115 := hc115.mono hle
                                    replace hc122 := hc122.mono hle
                                    refine WR.nil (WQ.any ?_)
                                    refine WA.one (i := 17) (by kernel_rfl) rfl ?_
                                    refine WR.appC (l := l77) xty22 rfl (fun _ => rfl) H rfl (fun _ => by repeat (first | exact Upd.head | apply Upd.tail)) rfl (hs127) hxl110 (Wn.none rfl) rfl ?_
                                    intro v128 w H
                                    refine WR.nil (WQ.any ?_)
                                    refine WA.one (i := 18) (by kernel_rfl) rfl ?_
                                    refine WR.step (Ex.assign rfl) (Wn.none rfl) rfl rfl ?_
                                    refine WR.nil (WQ.any ?_)
                                    refine WA.done (by kernel_rfl) ?_
                                    exact WQ.meetP [(0, _), (3, _), (5, _), (6, _), (7, _), (8, _), (9, _)] ⟨rfl, rfl, rfl, rfl, rfl, rfl, rfl, trivial⟩ ⟨_, _, rfl, H, hp0⟩
                                ·
                                  refine WR.step (Ex.loadM H rfl hc122 Tryd.isAgg5) (Wn.none rfl) rfl rfl ?_
                                  refine WR.nil (WQ.any ?_)
                                  refine WA.one (i := 5) (by kernel_rfl) rfl ?_
                                  refine WR.step (Ex.loadM H rfl hc115 Tryd.isAgg5) (Wn.none rfl) rfl rfl ?_
                                  refine WR.nil (WQ.any ?_)
                                  refine WA.one (i := 6) (by kernel_rfl) rfl ?_
                                  refine WR.call H (R_Hex_ct hx103) rfl trivial (Wn.none rfl) rfl ?_
                                  intro v117 M w H hle hR
                                  replace hp0 := hp0.mono hle
                                  replace hc115 := hc115.mono hle
                                  replace hc122 := hc122.mono hle
                                  obtain rfl := hR
                                  refine WR.nil (WQ.any ?_)
                                  refine WA.take (i := 7) rfl (by kernel_rfl) (by kernel_rfl) (by kernel_rfl) (fun _ => Ex.mulC rfl rfl hxn104) (Wn.none rfl) rfl rfl (fun _ _ => rfl) ?_
                                  refine WA.one (i := 13) (by kernel_rfl) rfl ?_
                                  refine WR.call H (R_Hex_ct hx108) rfl trivial (Wn.none rfl) rfl ?_
                                  intro v124 M w H hle hR
                                  replace hp0 := hp0.mono hle
                                  replace hc115 := hc115.mono hle
                                  replace hc122 := hc122.mono hle
                                  obtain rfl := hR
                                  refine WR.nil (WQ.any ?_)
                                  refine WA.one (i := 14) (by kernel_rfl) rfl ?_
                                  refine WR.step (Ex.addC rfl rfl hxn109) (Wn.none rfl) rfl rfl ?_
                                  refine WR.nil (WQ.any ?_)
                                  refine WA.one (i := 15) (by kernel_rfl) rfl ?_
                                  refine WR.step (Ex.convU8C Tryd.underlying3 Tryd.underlying5 rfl) (Wn.none rfl) rfl rfl ?_
                                  refine WR.nil (WQ.any ?_)
                                  refine WA.one (i := 16) (by kernel_rfl) rfl ?_
                                  refine WR.lit (enc := encB) xty22 ([(ub8 n109)] : List UInt8) H rfl (by rfl) (fun _ => rfl) rfl rfl (Wn.none rfl) rfl ?_
                                  intro v127 M w H hle hs127
                                  replace hp0 := hp0.mono hle
                                  replace hc115 := hc115.mono hle
                                  replace hc122 := hc122.mono hle
                                  refine WR.nil (WQ.any ?_)
                                  refine WA.one (i := 17) (by kernel_rfl) rfl ?_
                                  refine WR.appC (l := l77) xty22 rfl (fun _ => rfl) H rfl (fun _ => by repeat (first | exact Upd.head | apply Upd.tail)) rfl (hs127) hxl110 (Wn.none rfl) rfl ?_
                                  intro v128 w H
                                  refine WR.nil (WQ.any ?_)
                                  refine WA.one (i := 18) (by kernel_rfl) rfl ?_
                                  refine WR.step (Ex.assign rfl) (Wn.none rfl) rfl rfl ?_
                                  refine WR.nil (WQ.any ?_)
                                  refine WA.done (by kernel_rfl) ?_
                                  exact WQ.meetP [(0, _), (3, _), (5, _), (6, _), (7, _), (8, _), (9, _)] ⟨rfl, rfl, rfl, rfl, rfl, rfl, rfl, trivial⟩ ⟨_, _, rfl, H, hp0⟩
                            ·
                              refine WR.idxC Tryd.underlying22 Tryd.sizeOf5 (hp0) rfl rfl hxc106 (Wn.none rfl) rfl ?_
                              intro p122 hc122
                              refine WR.nil (WQ.any ?_)
                              refine WA.two (i := 4) (j := 12) (by kernel_rfl) rfl rfl ?_ ?_
                              ·
                                refine WR.idxC Tryd.underlying22 Tryd.sizeOf5 (hp0) rfl rfl hxc101 (Wn.none rfl) rfl ?_
                                intro p115 hc115
                                refine WR.nil (WQ.any ?_)
                                refine WA.two (i := 5) (j := 12) (by kernel_rfl) rfl rfl ?_ ?_
                                ·
                                  refine WR.step (Ex.loadM H rfl hc115 Tryd.isAgg5) (Wn.none rfl) rfl rfl ?_
                                  refine WR.nil (WQ.any ?_)
                                  refine WA.two (i := 6) (j := 12) (by kernel_rfl) rfl rfl ?_ ?_
                                  ·
                                    refine WR.call H (R_Hex_ct hx103) rfl trivial (Wn.none rfl) rfl ?_
                                    intro v117 M w H hle hR
                                    replace hp0 := hp0.mono hle
                                    replace hc122 := hc122.mono hle
                                    replace hc115 := hc115.mono hle
                                    obtain rfl := hR
                                    refine WR.nil (WQ.any ?_)
                                    refine WA.take (i := 7) rfl (by kernel_rfl) (by kernel_rfl) (by kernel_rfl) (fun _ => Ex.mulC rfl rfl hxn104) (Wn.none rfl) rfl rfl (fun _ _ => rfl) ?_
                                    refine WA.one (i := 12) (by kernel_rfl) rfl ?_
                                    refine WR.step (Ex.loadM H rfl hc122 Tryd.isAgg5) (Wn.none rfl) rfl rfl ?_
                                    refine WR.nil (WQ.any ?_)
                                    refine WA.one (i := 13) (by kernel_rfl) rfl ?_
                                    refine WR.call H (R_Hex_ct hx108) rfl trivial (Wn.none rfl) rfl ?_
                                    intro v124 M w H hle hR
                                    replace hp0 := hp0.mono hle
                                    replace hc122 := hc122.mono hle
                                    replace hc115 := hc115.mono hle
                                    obtain rfl := hR
                                    refine WR.nil (WQ.any ?_)
                                    refine WA.one (i := 14) (by kernel_rfl) rfl ?_
                                    refine WR.step (Ex.addC rfl rfl hxn109) (Wn.none rfl) rfl rfl ?_
                                    refine WR.nil (WQ.any ?_)
                                    refine WA.one (i := 15) (by kernel_rfl) rfl ?_
                                    refine WR.step (Ex.convU8C Tryd.underlying3 Tryd.underlying5 rfl) (Wn.none rfl) rfl rfl ?_
                                    refine WR.nil (WQ.any ?_)
                                    refine WA.one (i := 16) (by kernel_rfl) rfl ?_
                                    refine WR.lit (enc := encB) xty22 ([(ub8 n109)] : List UInt8) H rfl (by rfl) (fun _ => rfl) rfl rfl (Wn.none rfl) rfl ?_
                                    intro v127 M w H hle hs127
                                    replace hp0 := hp0.mono hle
                                    replace hc122 := hc122.mono hle
                                    replace hc115 := hc115.mono hle
                                    refine WR.nil (WQ.any ?_)
                                    refine WA.one (i := 17) (by kernel_rfl) rfl ?_
                                    refine WR.appC (l := l77) xty22 rfl (fun _ => rfl) H rfl (fun _ => by repeat (first | exact Upd.head | apply Upd.tail)) rfl (hs127) hxl110 (Wn.none rfl) rfl ?_
                                    intro v128 w H
                                    refine WR.nil (WQ.any ?_)
                                    refine WA.one (i := 18) (by kernel_rfl) rfl ?_
                                    refine WR.step (Ex.assign rfl) (Wn.none rfl) rfl rfl ?_
                                    refine WR.nil (WQ.any ?_)
                                    refine WA.done (by kernel_rfl) ?_
                                    exact WQ.meetP [(0, _), (3, _), (5, _), (6, _), (7, _), (8, _), (9, _)] ⟨rfl, rfl, rfl, rfl, rfl, rfl, rfl, trivial⟩ ⟨_, _, rfl, H, hp0⟩
                                  ·
                                    refine WR.step (Ex.loadM H rfl hc122 Tryd.isAgg5) (Wn.none rfl) rfl rfl ?_
                                    refine WR.nil (WQ.any ?_)
                                    refine WA.one (i := 6) (by kernel_rfl) rfl ?_
                                    refine WR.call H (R_Hex_ct hx103) rfl trivial (Wn.none rfl) rfl ?_
                                    intro v117 M w H hle hR
                                    replace hp0 := hp0.mono hle
                                    replace hc122 := hc122.mono hle
                                    replace hc115 := hc115.mono hle
                                    obtain rfl := hR
                                    refine WR.nil (WQ.any ?_)
                                    refine WA.take (i := 7) rfl (by kernel_rfl) (by kernel_rfl) (by kernel_rfl) (fun _ => Ex.mulC rfl rfl hxn104) (Wn.none rfl) rfl rfl (fun _ _ => rfl) ?_
                                    refine WA.one (i := 13) (by kernel_rfl) rfl ?_
                                    refine WR.call H (R_Hex_ct hx108) rfl trivial (Wn.none rfl) rfl ?_
                                    intro v124 M w H hle hR
                                    replace hp0 := hp0.mono hle
                                    replace hc122 := hc122.mono hle
                                    replace hc115 := hc115.mono hle
                                    obtain rfl := hR
                                    refine WR.nil (WQ.any ?_)
                                    refine WA.one (i := 14) (by kernel_rfl) rfl ?_
                                    refine WR.step (Ex.addC rfl rfl hxn109) (Wn.none rfl) rfl rfl ?_
                                    refine WR.nil (WQ.any ?_)
                                    refine WA.one (i := 15) (by kernel_rfl) rfl ?_
                                    refine WR.step (Ex.convU8C Tryd.underlying3 Tryd.underlying5 rfl) (Wn.none rfl) rfl rfl ?_
                                    refine WR.nil (WQ.any ?_)
                                    refine WA.one (i := 16) (by kernel_rfl) rfl ?_
                                    refine WR.lit (enc := encB) xty22 ([(ub8 n109)] : List UInt8) H rfl (by rfl) (fun _ => rfl) rfl rfl (Wn.none rfl) rfl ?_
                                    intro v127 M w H hle hs127
                                    replace hp0 := hp0.mono hle
                                    replace hc122 := hc122.mono hle
                                    replace hc115 := hc115.mono hle
                                    refine WR.nil (WQ.any ?_)
                                    refine WA.one (i := 17) (by kernel_rfl) rfl ?_
                                    refine WR.appC (l := l77) xty22 rfl (fun _ => rfl) H rfl (fun _ => by repeat (first | exact Upd.head | apply Upd.tail)) rfl (hs127) hxl110 (Wn.none rfl) rfl ?_
                                    intro v128 w H
                                    refine WR.nil (WQ.any ?_)
                                    refine WA.one (i := 18) (by kernel_rfl) rfl ?_
                                    refine WR.step (Ex.assign rfl) (Wn.none rfl) rfl rfl ?_
                                    refine WR.nil (WQ.any ?_)
                                    refine WA.done (by kernel_rfl) ?_
                                    exact WQ.meetP [(0, _), (3, _), (5, _), (6, _), (7, _), (8, _), (9, _)] ⟨rfl, rfl, rfl, rfl, rfl, rfl, rfl, trivial⟩ ⟨_, _, rfl, H, hp0⟩
                                ·
                                  refine WR.step (Ex.loadM H rfl hc122 Tryd.isAgg5) (Wn.none rfl) rfl rfl ?_
                                  refine WR.nil (WQ.any ?_)
                                  refine WA.one (i := 5) (by kernel_rfl) rfl ?_
                                  refine WR.step (Ex.loadM H rfl hc115 Tryd.isAgg5) (Wn.none rfl) rfl rfl ?_
                                  refine WR.nil (WQ.any ?_)
                                  refine WA.one (i := 6) (by kernel_rfl) rfl ?_
                                  refine WR.call H (R_Hex_ct hx103) rfl trivial (Wn.none rfl) rfl ?_
                                  intro v117 M w H hle hR
                                  replace hp0 := hp0.mono hle
                                  replace hc122 := hc122.mono hle
                                  replace hc115 := hc115.mono hle
                                  obtain rfl := hR
                                  refine WR.nil (WQ.any ?_)
                                  refine WA.take (i := 7) rfl (by kernel_rfl) (by kernel_rfl) (by kernel_rfl) (fun _ => Ex.mulC rfl rfl hxn104) (Wn.none rfl) rfl rfl (fun _ _ => rfl) ?_
                                  refine WA.one (i := 13) (by kernel_rfl) rfl ?_
                                  refine WR.call H (R_Hex_ct hx108) rfl trivial (Wn.none rfl) rfl ?_
                                  intro v124 M w H hle hR
                                  replace hp0 := hp0.mono hle
                                  replace hc122 := hc122.mono hle
                                  replace hc115 := hc115.mono hle
                                  obtain rfl := hR
                                  refine WR.nil (WQ.any ?_)
                                  refine WA.one (i := 14) (by kernel_rfl) rfl ?_
                                  refine WR.step (Ex.addC rfl rfl hxn109) (Wn.none rfl) rfl rfl ?_
                                  refine WR.nil (WQ.any ?_)
                                  refine WA.one (i := 15) (by kernel_rfl) rfl ?_
                                  refine WR.step (Ex.convU8C Tryd.underlying3 Tryd.underlying5 rfl) (Wn.none rfl) rfl rfl ?_
                                  refine WR.nil (WQ.any ?_)
                                  refine WA.one (i := 16) (by kernel_rfl) rfl ?_
                                  refine WR.lit (enc := encB) xty22 ([(ub8 n109)] : List UInt8) H rfl (by rfl) (fun _ => rfl) rfl rfl (Wn.none rfl) rfl ?_
                                  intro v127 M w H hle hs127
                                  replace hp0 := hp0.mono hle
                                  replace hc122 := hc122.mono hle
                                  replace hc115 := hc115.mono hle
                                  refine WR.nil (WQ.any ?_)
                                  refine WA.one (i := 17) (by kernel_rfl) rfl ?_
                                  refine WR.appC (l := l77) xty22 rfl (fun _ => rfl) H rfl (fun _ => by repeat (first | exact Upd.head | apply Upd.tail)) rfl (hs127) hxl110 (Wn.none rfl) rfl ?_
                                  intro v128 w H
                                  refine WR.nil (WQ.any ?_)
                                  refine WA.one (i := 18) (by kernel_rfl) rfl ?_
                                  refine WR.step (Ex.assign rfl) (Wn.none rfl) rfl rfl ?_
                                  refine WR.nil (WQ.any ?_)
                                  refine WA.done (by kernel_rfl) ?_
                                  exact WQ.meetP [(0, _), (3, _), (5, _), (6, _), (7, _), (8, _), (9, _)] ⟨rfl, rfl, rfl, rfl, rfl, rfl, rfl, trivial⟩ ⟨_, _, rfl, H, hp0⟩
                              ·
                                refine WR.step (Ex.loadM H rfl hc122 Tryd.isAgg5) (Wn.none rfl) rfl rfl ?_
                                refine WR.nil (WQ.any ?_)
                                refine WA.one (i := 4) (by kernel_rfl) rfl ?_
                                refine WR.idxC Tryd.underlying22 Tryd.sizeOf5 (hp0) rfl rfl hxc101 (Wn.none rfl) rfl ?_
                                intro p115 hc115
                                refine WR.nil (WQ.any ?_)
                                refine WA.one (i := 5) (by kernel_rfl) rfl ?_
                                refine WR.step (Ex.loadM H rfl hc115 Tryd.isAgg5) (Wn.none rfl) rfl rfl ?_
                                refine WR.nil (WQ.any ?_)
                                refine WA.one (i := 6) (by kernel_rfl) rfl ?_
                                refine WR.call H (R_Hex_ct hx103) rfl trivial (Wn.none rfl) rfl ?_
                                intro v117 M w H hle hR
                                replace hp0 := hp0.mono hle
                                replace hc122 := hc122.mono hle
                                replace hc115 := hc115.mono hle
                                obtain rfl := hR
                                refine WR.nil (WQ.any ?_)
                                refine WA.take (i := 7) rfl (by kernel_rfl) (by kernel_rfl) (by kernel_rfl) (fun _ => Ex.mulC rfl rfl hxn104) (Wn.none rfl) rfl rfl (fun _ _ => rfl) ?_
                                refine WA.one (i := 13) (by kernel_rfl) rfl ?_
                                refine WR.call H (R_Hex_ct hx108) rfl trivial (Wn.none rfl) rfl ?_
                                intro v124 M w H hle hR
                                replace hp0 := hp0.mono hle
                                replace hc122 := hc122.mono hle
                                replace hc115 := hc115.mono hle
                                obtain rfl := hR
                                refine WR.nil (WQ.any ?_)
                                refine WA.one (i := 14) (by kernel_rfl) rfl ?_
                                refine WR.step (Ex.addC rfl rfl hxn109) (Wn.none rfl) rfl rfl ?_
                                refine WR.nil (WQ.any ?_)
                                refine WA.one (i := 15) (by kernel_rfl) rfl ?_
                                refine WR.step (Ex.convU8C Tryd.underlying3 Tryd.underlying5 rfl) (Wn.none rfl) rfl rfl ?_
                                refine WR.nil (WQ.any ?_)
                                refine WA.one (i := 16) (by kernel_rfl) rfl ?_
                                refine WR.lit (enc := encB) xty22 ([(ub8 n109)] : List UInt8) H rfl (by rfl) (fun _ => rfl) rfl rfl (Wn.none rfl) rfl ?_
                                intro v127 M w H hle hs127
                                replace hp0 := hp0.mono hle
                                replace hc122 := hc122.mono hle
                                replace hc115 := hc115.mono hle
                                refine WR.nil (WQ.any ?_)
                                refine WA.one (i := 17) (by kernel_rfl) rfl ?_
                                refine WR.appC (l := l77) xty22 rfl (fun _ => rfl) H rfl (fun _ => by repeat (first | exact Upd.head | apply Upd.tail)) rfl (hs127) hxl110 (Wn.none rfl) rfl ?_
                                intro v128 w H
                                refine WR.nil (WQ.any ?_)
                                refine WA.one (i := 18) (by kernel_rfl) rfl ?_
                                refine WR.step (Ex.assign rfl) (Wn.none rfl) rfl rfl ?_
                                refine WR.nil (WQ.any ?_)
                                refine WA.done (by kernel_rfl) ?_
                                exact WQ.meetP [(0, _), (3, _), (5, _), (6, _), (7, _), (8, _), (9, _)] ⟨rfl, rfl, rfl, rfl, rfl, rfl, rfl, trivial⟩ ⟨_, _, rfl, H, hp0⟩
                          ·
                            rintro e w ⟨v111, M, rfl, H, hp0⟩
                            refine WQ.then ?_
                            obtain ⟨n112, hxn112, e72⟩ := bnd e72
                            refine WC.region ?_
                            refine WR.step (Ex.move rfl) (Wn.none rfl) rfl rfl ?_
                            refine WR.step (Ex.addC rfl rfl hxn112) (Wn.none rfl) rfl rfl ?_
                            refine WR.step (Ex.assign rfl) (Wn.none rfl) rfl rfl ?_
                            refine WR.nil ?_
                            refine WQ.inBlock ?_
                            refine WQ.then ?_
                            obtain ⟨n113, hxn113, e72⟩ := bnd e72
                            refine WC.region ?_
                            refine WR.step (Ex.move rfl) (Wn.none rfl) rfl rfl ?_
                            refine WR.step (Ex.addC rfl rfl hxn113) (Wn.none rfl) rfl rfl ?_
                            refine WR.step (Ex.assign rfl) (Wn.none rfl) rfl rfl ?_
                            refine WR.nil ?_
                            exact WQ.againP m80 [(0, _), (3, _), (5, _), (6, _), (7, _), (8, _), (9, _)] ⟨rfl, rfl, rfl, rfl, rfl, rfl, rfl, trivial⟩ ⟨_, _, _, _, rfl, H, hp0, e72⟩ (Nat.lt_succ_self _)
                        ·
                          rw [if_neg (by rw [hk99]; exact Bool.false_ne_true)] at e72
                          subst hk99
                          obtain ⟨c114, hxc114, e72⟩ := bnd e72
                          obtain ⟨l115, hxl115, e72⟩ := bnd e72
                          refine WC.region ?_
                          refine WR.step (Ex.move rfl) (Wn.none rfl) rfl rfl ?_
                          refine WR.step (Ex.move rfl) (Wn.none rfl) rfl rfl ?_
                          refine WR.step (Ex.move rfl) (Wn.none rfl) rfl rfl ?_
                          refine WR.idxC Tryd.underlying22 Tryd.sizeOf5 (hp0) rfl rfl hxc114 (Wn.none rfl) rfl ?_
                          intro p134 hc134
                          refine WR.step (Ex.loadM H rfl hc134 Tryd.isAgg5) (Wn.none rfl) rfl rfl ?_
                          refine WR.lit (enc := encB) xty22 ([c114] : List UInt8) H rfl (by rfl) (fun _ => rfl) rfl rfl (Wn.none rfl) rfl ?_
                          intro v136 M w H hle hs136
                          replace hp0 := hp0.mono hle
                          replace hc134 := hc134.mono hle
                          refine WR.appC (l := l77) xty22 rfl (fun _ => rfl) H rfl (fun _ => by repeat (first | exact Upd.head | apply Upd.tail)) rfl (hs136) hxl115 (Wn.none rfl) rfl ?_
                          intro v137 w H
                          refine WR.step (Ex.assign rfl) (Wn.none rfl) rfl rfl ?_
                          refine WR.nil ?_
                          refine WQ.inBlock ?_
                          refine WQ.then ?_
                          obtain ⟨n116, hxn116, e72⟩ := bnd e72
                          refine WC.region ?_
                          refine WR.step (Ex.move rfl) (Wn.none rfl) rfl rfl ?_
                          refine WR.step (Ex.addC rfl rfl hxn116) (Wn.none rfl) rfl rfl ?_
                          refine WR.step (Ex.assign rfl) (Wn.none rfl) rfl rfl ?_
                          refine WR.nil ?_
                          exact WQ.againP m80 [(0, _), (3, _), (5, _), (6, _), (7, _), (8, _), (9, _)] ⟨rfl, rfl, rfl, rfl, rfl, rfl, rfl, trivial⟩ ⟨_, _, _, _, rfl, H, hp0, e72⟩ (Nat.lt_succ_self _)
                    ·
                      replace hk81 : ¬ (n79 < n67) := of_decide_eq_false hk81
                      rw [if_neg hk81] at e72
                      refine WC.exit ?_
                      refine WQ.thenExit ?_
                      refine WQ.thenExit ?_
                      refine WQ.exitHere ?_
                      exact WQ.meetN [(0, _), (3, _), (5, _), (6, _), (8, _)] ⟨rfl, rfl, rfl, rfl, rfl, trivial⟩ ⟨_, _, _, rfl, H, hp0, e72⟩
                  ·
                    rintro e w ⟨l74, v75, M, rfl, H, hp0, q117⟩
                    obtain rfl := Option.some.inj q117
                    refine WQ.then ?_
                    refine WC.seq ?_
                    refine WC.seq ?_
                    obtain ⟨o118, e119, e2⟩ := bnd e2
                    refine WC.cutX (fun e w => ∃ (b120 : Bool) (M : Mem), e = [(0, vp0), (3, v75), (5, I n15), (6, I n37), (145, Value.bool b120)] ∧ St w0 M0 M [RowI 5 encB v75 l74] w ∧ Sl M encB vp0 p0 ∧ some b120 = some o118) [] ?_ ?_ (trivial)
                    ·
                      by_cases hk121 : n15 < (p0.length : Int)
                      ·
                        rw [if_pos hk121] at e119
                        refine WC.region ?_
                        refine WR.step (Ex.move rfl) (Wn.none rfl) rfl rfl ?_
                        refine WR.step (Ex.move rfl) (Wn.none rfl) rfl rfl ?_
                        refine WR.step (Ex.lenSl Tryd.underlying22 hp0 rfl) (Wn.none rfl) rfl rfl ?_
                        refine WR.stepE (v' := .bool true) (Ex.lss rfl rfl) (congrArg Value.bool (decide_eq_true hk121)) (Wn.none rfl) rfl rfl ?_
                        refine WR.step (Ex.move rfl) (Wn.none rfl) rfl rfl ?_
                        refine WR.step (Ex.move rfl) (Wn.some rfl rfl rfl) rfl rfl ?_
                        refine WR.step (Ex.not rfl) (Wn.some rfl rfl rfl) rfl rfl ?_
                        refine WR.step (Ex.pickT rfl rfl) (Wn.none rfl) rfl rfl ?_
                        refine WR.nil ?_
                        exact WQ.meetN [(0, _), (3, _), (5, _), (6, _), (145, _)] ⟨rfl, rfl, rfl, rfl, rfl, trivial⟩ ⟨_, _, rfl, H, hp0, e119⟩
                      ·
                        rw [if_neg hk121] at e119
                        refine WC.region ?_
                        refine WR.step (Ex.move rfl) (Wn.none rfl) rfl rfl ?_
                        refine WR.step (Ex.move rfl) (Wn.none rfl) rfl rfl ?_
                        refine WR.step (Ex.lenSl Tryd.underlying22 hp0 rfl) (Wn.none rfl) rfl rfl ?_
                        refine WR.stepE (v' := .bool false) (Ex.lss rfl rfl) (congrArg Value.bool (decide_eq_false hk121)) (Wn.none rfl) rfl rfl ?_
                        refine WR.step (Ex.move rfl) (Wn.none rfl) rfl rfl ?_
                        refine WR.skipG (b := false) rfl rfl rfl rfl rfl ?_
                        refine WR.skipG (b := false) rfl rfl rfl rfl rfl ?_
                        refine WR.step (Ex.pickF rfl rfl) (Wn.none rfl) rfl rfl ?_
                        refine WR.nil ?_
                        exact WQ.meetN [(0, _), (3, _), (5, _), (6, _), (145, _)] ⟨rfl, rfl, rfl, rfl, rfl, trivial⟩ ⟨_, _, rfl, H, hp0, e119⟩
                    ·
                      rintro e w ⟨b120, M, rfl, H, hp0, q122⟩
                      obtain rfl := Option.some.inj q122
                      refine WQ.then ?_
                      refine WC.condB rfl (fun hk123 => ?_) (fun hk123 => ?_)
                      ·
                        rw [if_pos hk123] at e2
                        subst hk123
                        obtain ⟨n124, hxn124, e2⟩ := bnd e2
                        obtain ⟨l125, hxl125, e2⟩ := bnd e2
                        obtain ⟨l126, hxl126, e2⟩ := bnd e2
                        refine WC.region ?_
                        refine WR.step (Ex.move rfl) (Wn.none rfl) rfl rfl ?_
                        refine WR.step (Ex.move rfl) (Wn.none rfl) rfl rfl ?_
                        refine WR.step (Ex.move rfl) (Wn.none rfl) rfl rfl ?_
                        refine WR.step (Ex.move rfl) (Wn.none rfl) rfl rfl ?_
                        refine WR.step (Ex.addC rfl rfl hxn124) (Wn.none rfl) rfl rfl ?_
                        refine WR.sliceC Tryd.underlying22 Tryd.sizeOf5 (hp0) rfl rfl rfl hxl125 (Wn.none rfl) rfl ?_
                        intro v151 hs151
                        refine WR.appC (l := l74) xty22 rfl (fun _ => rfl) H rfl (fun _ => by repeat (first | exact Upd.head | apply Upd.tail)) rfl (hs151) hxl126 (Wn.none rfl) rfl ?_
                        intro v152 w H
                        refine WR.step (Ex.assign rfl) (Wn.none rfl) rfl rfl ?_
                        refine WR.nil ?_
                        refine WQ.then ?_
                        obtain ⟨n127, hxn127, e2⟩ := bnd e2
                        refine WC.region ?_
                        refine WR.step (Ex.move rfl) (Wn.none rfl) rfl rfl ?_
                        refine WR.step (Ex.addC rfl rfl hxn127) (Wn.none rfl) rfl rfl ?_
                        refine WR.step (Ex.assign rfl) (Wn.none rfl) rfl rfl ?_
                        refine WR.nil ?_
                        refine WQ.inBlock ?_
                        exact WQ.againP m10 [(0, _), (3, _), (4, _)] ⟨rfl, rfl, rfl, trivial⟩ ⟨_, _, _, _, rfl, H, hp0, e2⟩ (Nat.lt_succ_self _)
                      ·
                        rw [if_neg (by rw [hk123]; exact Bool.false_ne_true)] at e2
                        subst hk123
                        refine WC.skip ?_
                        refine WQ.then ?_
                        obtain ⟨n128, hxn128, e2⟩ := bnd e2
                        refine WC.region ?_
                        refine WR.step (Ex.move rfl) (Wn.none rfl) rfl rfl ?_
                        refine WR.step (Ex.addC rfl rfl hxn128) (Wn.none rfl) rfl rfl ?_
                        refine WR.step (Ex.assign rfl) (Wn.none rfl) rfl rfl ?_
                        refine WR.nil ?_
                        refine WQ.inBlock ?_
                        exact WQ.againP m10 [(0, _), (3, _), (4, _)] ⟨rfl, rfl, rfl, trivial⟩ ⟨_, _, _, _, rfl, H, hp0, e2⟩ (Nat.lt_succ_self _)
    ·
      replace hk12 : ¬ (n9 < (p0.length : Int)) := of_decide_eq_false hk12
      rw [if_neg hk12] at e2
      refine WC.exit ?_
      refine WQ.thenExit ?_
      refine WQ.thenExit ?_
      refine WQ.exitHere ?_
      exact WQ.meetN [(3, _)] ⟨rfl, trivial⟩ ⟨_, _, _, rfl, H, e2⟩
  ·
    rintro e w ⟨l4, v5, M, rfl, H, q129⟩
    obtain rfl := Option.some.inj q129
    refine WQ.then ?_
    refine WC.seq ?_
    refine WC.region ?_
    refine WR.step (Ex.move rfl) (Wn.none rfl) rfl rfl ?_
    refine WR.step (Ex.assign rfl) (Wn.none rfl) rfl rfl ?_
    refine WR.nil ?_
    refine WQ.then ?_
    refine WC.ret ?_
    (repeat (first | refine WQ.thenRet ?_ | refine WQ.inBlockRet ?_ | refine WQ.cutRet ?_))
    obtain ⟨M, hle, hs130, H⟩ := H.freezeRow (v := v5) (enc := encB) (t := 5) (by repeat (first | exact Rem.head | apply Rem.tail))
    obtain rfl := Option.some.inj h
    exact WQ.ret1 rfl rfl H.ext hs130
theorem L_QuotedLenientMatchesSpec_ct {p0 : List UInt8} {vp0 : Value} {r : Bool} (h : L_QuotedLenientMatchesSpec p0 = some r) : Ct Tryd.prog 4 [vp0] (fun M => Sl M encB vp0 p0) (fun v M => v = Value.bool r) := by
  refine Ct.of Tryd.func4 (enters Tryd.func4 (by kernel_rfl) rfl) rfl rfl rfl ?_
  intro w0 M0 H hp
  have hp0 := hp
  unfold L_QuotedLenientMatchesSpec at h
  refine WC.seq ?_
  refine WC.region ?_
  refine WR.step (Ex.assign rfl) (Wn.none rfl) rfl rfl ?_
  refine WR.nil ?_
  refine WQ.then ?_
  refine WC.seq ?_
  refine WC.seq ?_
  obtain ⟨b1, hx2, h⟩ := bnd h
  refine WC.region ?_
  refine WR.call H (L_quotedExample_ct hx2) rfl trivial (Wn.none rfl) rfl ?_
  intro v5 M w H hle hR
  replace hp0 := hp0.mono hle
  obtain rfl := hR
  refine WR.step (Ex.not rfl) (Wn.none rfl) rfl rfl ?_
  refine WR.nil ?_
  refine WQ.then ?_
  refine WC.condB rfl (fun hk3 => ?_) (fun hk3 => ?_)
  ·
    replace hk3 : b1 = false := by simpa using hk3
    rw [if_neg (by rw [hk3]; exact Bool.false_ne_true)] at h
    subst hk3
    refine WC.seq ?_
    refine WC.region ?_
    refine WR.step (Ex.assign rfl) (Wn.none rfl) rfl rfl ?_
    refine WR.nil ?_
    refine WQ.then ?_
    refine WC.ret ?_
    (repeat (first | refine WQ.thenRet ?_ | refine WQ.inBlockRet ?_ | refine WQ.cutRet ?_))
    obtain rfl := Option.some.inj h
    exact WQ.ret1 rfl rfl H.ext rfl
  ·
    replace hk3 : b1 = true := by simpa using hk3
    rw [if_pos hk3] at h
    subst hk3
    refine WC.skip ?_
    refine WQ.then ?_
    refine WC.seq ?_
    obtain ⟨⟨l4, ⟨n5, n6⟩⟩, hx7, h⟩ := bnd h
    dsimp only at h
    refine WC.region ?_
    refine WR.step (Ex.move rfl) (Wn.none rfl) rfl rfl ?_
    refine WR.call H (quoted_Lenient_ct hx7) rfl (hp0) (Wn.none rfl) rfl ?_
    intro v9 M w H hle hR
    replace hp0 := hp0.mono hle
    try dsimp only at hR
    obtain ⟨x9_0, rfl, f9_0⟩ := hR
    refine WR.step (Ex.move rfl) (Wn.none rfl) rfl rfl ?_
    refine WR.step (Ex.extract rfl rfl) (Wn.none rfl) rfl rfl ?_
    refine WR.step (Ex.extract rfl rfl) (Wn.none rfl) rfl rfl ?_
    refine WR.alloc [_, _] H Tryd.zeroValue25 rfl (Wn.none rfl) rfl ?_
    intro b4 w H
    refine WR.step (Ex.assign rfl) (Wn.none rfl) rfl rfl ?_
    refine WR.store [_, _] H rfl rfl rfl (by repeat (first | exact Upd.head | apply Upd.tail)) Tryd.sizeOf25 rfl (by rfl) (by rfl) (Wn.none rfl) ?_
    intro w H
    refine WR.nil ?_
    refine WQ.then ?_
    refine WC.seq ?_
    refine WC.seq ?_
    refine WC.region ?_
    refine WR.step (Ex.move rfl) (Wn.none rfl) rfl rfl ?_
    refine WR.step (Ex.lenSl Tryd.underlying22 hp0 rfl) (Wn.none rfl) rfl rfl ?_
    refine WR.step (Ex.gtr rfl rfl) (Wn.none rfl) rfl rfl ?_
    refine WR.nil ?_
    refine WQ.then ?_
    refine WC.condB rfl (fun hk8 => ?_) (fun hk8 => ?_)
    ·
      replace hk8 : (48000 : Int) < (p0.length : Int) := of_decide_eq_true hk8
      rw [if_pos hk8] at h
      refine WC.seq ?_
      obtain ⟨o9, e10, h⟩ := bnd h
      refine WC.cutX (fun e w => ∃ (b11 : Bool) (M : Mem), e = [(2, Value.bool b11)] ∧ St w0 M0 M [] w ∧ some b11 = some o9) [] ?_ ?_ (trivial)
      ·
        obtain ⟨⟨n12, n13⟩, hx14, e10⟩ := bnd e10
        dsimp only at e10
        by_cases hk15 : n5 = n12 ∧ n6 = n13
        ·
          rw [if_pos hk15] at e10
          refine WC.draw (m := 9) rfl rfl H ?_
          intro w H
          refine WA.two (i := 0) (j := 1) (by kernel_rfl) rfl rfl ?_ ?_
          ·
            refine WR.step (Ex.loadAgg H rfl (by repeat (first | exact List.Mem.head _ | apply List.Mem.tail)) Tryd.isAgg25 Tryd.sizeOf25 (by rfl)) (Wn.none rfl) rfl rfl ?_
            refine WR.nil (WQ.any ?_)
            refine WA.one (i := 1) (by kernel_rfl) rfl ?_
            refine WR.call H (R_At_ct hx14) rfl trivial (Wn.none rfl) rfl ?_
            intro v16 M w H hle hR
            replace hp0 := hp0.mono hle
            replace f9_0 := f9_0.mono hle
            try dsimp only at hR
            obtain rfl := hR
            refine WR.nil (WQ.any ?_)
            refine WA.one (i := 2) (by kernel_rfl) rfl ?_
            refine WR.stepE (v' := .bool true) (Ex.eqlAgg rfl rfl (by kernel_rfl) (xeq25 n5 n12 n6 n13)) (congrArg Value.bool (decide_eq_true hk15)) (Wn.none rfl) rfl rfl ?_
            refine WR.nil (WQ.any ?_)
            refine WA.one (i := 3) (by kernel_rfl) rfl ?_
            refine WR.step (Ex.move rfl) (Wn.none rfl) rfl rfl ?_
            refine WR.nil (WQ.any ?_)
            refine WA.one (i := 4) (by kernel_rfl) rfl ?_
            refine WR.step (Ex.move rfl) (Wn.some rfl rfl rfl) rfl rfl ?_
            refine WR.nil (WQ.any ?_)
            refine WA.one (i := 5) (by kernel_rfl) rfl ?_
            refine WR.step (Ex.lenSl Tryd.underlying22 f9_0 rfl) (Wn.some rfl rfl rfl) rfl rfl ?_
            refine WR.nil (WQ.any ?_)
            refine WA.one (i := 6) (by kernel_rfl) rfl ?_
            refine WR.step (Ex.eql rfl rfl) (Wn.some rfl rfl rfl) rfl rfl ?_
            refine WR.nil (WQ.any ?_)
            refine WA.one (i := 7) (by kernel_rfl) rfl ?_
            refine WR.step (Ex.pickT rfl rfl) (Wn.none rfl) rfl rfl ?_
            refine WR.nil (WQ.any ?_)
            refine WA.one (i := 8) (by kernel_rfl) rfl ?_
            refine WR.step (Ex.assign rfl) (Wn.none rfl) rfl rfl ?_
            refine WR.nil (WQ.any ?_)
            refine WA.done (by kernel_rfl) ?_
            exact WQ.meetN [(2, _)] ⟨rfl, trivial⟩ ⟨_, _, rfl, (H.pick (L' := []) (by repeat (first | exact Pick.nil | refine Pick.cons (by repeat (first | exact Rem.head | apply Rem.tail)) ?_))), e10⟩
          ·
            refine WR.call H (R_At_ct hx14) rfl trivial (Wn.none rfl) rfl ?_
            intro v16 M w H hle hR
            replace hp0 := hp0.mono hle
            replace f9_0 := f9_0.mono hle
            try dsimp only at hR
            obtain rfl := hR
            refine WR.nil (WQ.any ?_)
            refine WA.one (i := 0) (by kernel_rfl) rfl ?_
            refine WR.step (Ex.loadAgg H rfl (by repeat (first | exact List.Mem.head _ | apply List.Mem.tail)) Tryd.isAgg25 Tryd.sizeOf25 (by rfl)) (Wn.none rfl) rfl rfl ?_
            refine WR.nil (WQ.any ?_)
            refine WA.one (i := 2) (by kernel_rfl) rfl ?_
            refine WR.stepE (v' := .bool true) (Ex.eqlAgg rfl rfl (by kernel_rfl) (xeq25 n5 n12 n6 n13)) (congrArg Value.bool (decide_eq_true hk15)) (Wn.none rfl) rfl rfl ?_
            refine WR.nil (WQ.any ?_)
            refine WA.one (i := 3) (by kernel_rfl) rfl ?_
            refine WR.step (Ex.move rfl) (Wn.none rfl) rfl rfl ?_
            refine WR.nil (WQ.any ?_)
            refine WA.one (i := 4) (by kernel_rfl) rfl ?_
            refine WR.step (Ex.move rfl) (Wn.some rfl rfl rfl) rfl rfl ?_
            refine WR.nil (WQ.any ?_)
            refine WA.one (i := 5) (by kernel_rfl) rfl ?_
            refine WR.step (Ex.lenSl Tryd.underlying22 f9_0 rfl) (Wn.some rfl rfl rfl) rfl rfl ?_
            refine WR.nil (WQ.any ?_)
            refine WA.one (i := 6) (by kernel_rfl) rfl ?_
            refine WR.step (Ex.eql rfl rfl) (Wn.some rfl rfl rfl) rfl rfl ?_
            refine WR.nil (WQ.any ?_)
            refine WA.one (i := 7) (by kernel_rfl) rfl ?_
            refine WR.step (Ex.pickT rfl rfl) (Wn.none rfl) rfl rfl ?_
            refine WR.nil (WQ.any ?_)
            refine WA.one (i := 8) (by kernel_rfl) rfl ?_
            refine WR.step (Ex.assign rfl) (Wn.none rfl) rfl rfl ?_
            refine WR.nil (WQ.any ?_)
            refine WA.done (by kernel_rfl) ?_
            exact WQ.meetN [(2, _)] ⟨rfl, trivial⟩ ⟨_, _, rfl, (H.pick (L' := []) (by repeat (first | exact Pick.nil | refine Pick.cons (by repeat (first | exact Rem.head | apply Rem.tail)) ?_))), e10⟩
        ·
          rw [if_neg hk15] at e10
          refine WC.draw (m := 9) rfl rfl H ?_
          intro w H
          refine WA.two (i := 0) (j := 1) (by kernel_rfl) rfl rfl ?_ ?_
          ·
            refine WR.step (Ex.loadAgg H rfl (by repeat (first | exact List.Mem.head _ | apply List.Mem.tail)) Tryd.isAgg25 Tryd.sizeOf25 (by rfl)) (Wn.none rfl) rfl rfl ?_
            refine WR.nil (WQ.any ?_)
            refine WA.one (i := 1) (by kernel_rfl) rfl ?_
            refine WR.call H (R_At_ct hx14) rfl trivial (Wn.none rfl) rfl ?_
            intro v16 M w H hle hR
            replace hp0 := hp0.mono hle
            replace f9_0 := f9_0.mono hle
            try dsimp only at hR
            obtain rfl := hR
            refine WR.nil (WQ.any ?_)
            refine WA.one (i := 2) (by kernel_rfl) rfl ?_
            refine WR.stepE (v' := .bool false) (Ex.eqlAgg rfl rfl (by kernel_rfl) (xeq25 n5 n12 n6 n13)) (congrArg Value.bool (decide_eq_false hk15)) (Wn.none rfl) rfl rfl ?_
            refine WR.nil (WQ.any ?_)
            refine WA.one (i := 3) (by kernel_rfl) rfl ?_
            refine WR.step (Ex.move rfl) (Wn.none rfl) rfl rfl ?_
            refine WR.nil (WQ.any ?_)
            refine WA.one (i := 4) (by kernel_rfl) rfl ?_
            refine WR.skipG (b := false) rfl rfl rfl rfl rfl ?_
            refine WR.nil (WQ.any ?_)
            refine WA.one (i := 5) (by kernel_rfl) rfl ?_
            refine WR.skipG (b := false) rfl rfl rfl rfl rfl ?_
            refine WR.nil (WQ.any ?_)
            refine WA.one (i := 6) (by kernel_rfl) rfl ?_
            refine WR.skipG (b := false) rfl rfl rfl rfl rfl ?_
            refine WR.nil (WQ.any ?_)
            refine WA.one (i := 7) (by kernel_rfl) rfl ?_
            refine WR.step (Ex.pickF rfl rfl) (Wn.none rfl) rfl rfl ?_
            refine WR.nil (WQ.any ?_)
            refine WA.one (i := 8) (by kernel_rfl) rfl ?_
            refine WR.step (Ex.assign rfl) (Wn.none rfl) rfl rfl ?_
            refine WR.nil (WQ.any ?_)
            refine WA.done (by kernel_rfl) ?_
            exact WQ.meetN [(2, _)] ⟨rfl, trivial⟩ ⟨_, _, rfl, (H.pick (L' := []) (by repeat (first | exact Pick.nil | refine Pick.cons (by repeat (first | exact Rem.head | apply Rem.tail)) ?_))), e10⟩
          ·
            refine WR.call H (R_At_ct hx14) rfl trivial (Wn.none rfl) rfl ?_
            intro v16 M w H hle hR
            replace hp0 := hp0.mono hle
            replace f9_0 := f9_0.mono hle
            try dsimp only at hR
            obtain rfl := hR
            refine WR.nil (WQ.any ?_)
            refine WA.one (i := 0) (by kernel_rfl) rfl ?_
            refine WR.step (Ex.loadAgg H rfl (by repeat (first | exact List.Mem.head _ | apply List.Mem.tail)) Tryd.isAgg25 Tryd.sizeOf25 (by rfl)) (Wn.none rfl) rfl rfl ?_
            refine WR.nil (WQ.any ?_)
            refine WA.one (i := 2) (by kernel_rfl) rfl ?_
            refine WR.stepE (v' := .bool false) (Ex.eqlAgg rfl rfl (by kernel_rfl) (xeq25 n5 n12 n6 n13)) (congrArg Value.bool (decide_eq_false hk15)) (Wn.none rfl) rfl rfl ?_
            refine WR.nil (WQ.any ?_)
            refine WA.one (i := 3) (by kernel_rfl) rfl ?_
            refine WR.step (Ex.move rfl) (Wn.none rfl) rfl rfl ?_
            refine WR.nil (WQ.any ?_)
            refine WA.one (i := 4) (by kernel_rfl) rfl ?_
            refine WR.skipG (b := false) rfl rfl rfl rfl rfl ?_
            refine WR.nil (WQ.any ?_)
            refine WA.one (i := 5) (by kernel_rfl) rfl ?_
            refine WR.skipG (b := false) rfl rfl rfl rfl rfl ?_
            refine WR.nil (WQ.any ?_)
            refine WA.one (i := 6) (by kernel_rfl) rfl ?_
            refine WR.skipG (b := false) rfl rfl rfl rfl rfl ?_
            refine WR.nil (WQ.any ?_)
            refine WA.one (i := 7) (by kernel_rfl) rfl ?_
            refine WR.step (Ex.pickF rfl rfl) (Wn.none rfl) rfl rfl ?_
            refine WR.nil (WQ.any ?_)
            refine WA.one (i := 8) (by kernel_rfl) rfl ?_
            refine WR.step (Ex.assign rfl) (Wn.none rfl) rfl rfl ?_
            refine WR.nil (WQ.any ?_)
            refine WA.done (by kernel_rfl) ?_
            exact WQ.meetN [(2, _)] ⟨rfl, trivial⟩ ⟨_, _, rfl, (H.pick (L' := []) (by repeat (first | exact Pick.nil | refine Pick.cons (by repeat (first | exact Rem.head | apply Rem.tail)) ?_))), e10⟩
      ·
        rintro e w ⟨b11, M, rfl, H, q16⟩
        obtain rfl := Option.some.inj q16
        refine WQ.then ?_
        refine WC.ret ?_
        (repeat (first | refine WQ.thenRet ?_ | refine WQ.inBlockRet ?_ | refine WQ.cutRet ?_))
        obtain rfl := Option.some.inj h
        exact WQ.ret1 rfl rfl H.ext rfl
    ·
      replace hk8 : ¬ ((48000 : Int) < (p0.length : Int)) := of_decide_eq_false hk8
      rw [if_neg hk8] at h
      refine WC.skip ?_
      refine WQ.then ?_
      refine WC.seq ?_
      obtain ⟨o17, e18, h⟩ := bnd h
      refine WC.cutX (fun e w => ∃ (b19 : Bool) (M : Mem), e = [(2, Value.bool b19)] ∧ St w0 M0 M [] w ∧ some b19 = some o17) [] ?_ ?_ (trivial)
      ·
        by_cases hk20 : n5 = (0 : Int)
        ·
          rw [if_pos hk20] at e18
          obtain ⟨l21, hx22, e18⟩ := bnd e18
          obtain ⟨b23, hx24, e18⟩ := bnd e18
          refine WC.region ?_
          refine WR.step (Ex.fieldAddr Tryd.underlying25 rfl Tryd.sizeOf3 (by decide) rfl) (Wn.none rfl) rfl rfl ?_
          refine WR.step (Ex.load1 H rfl (by repeat (first | exact List.Mem.head _ | apply List.Mem.tail)) Tryd.isAgg3 (by rfl)) (Wn.none rfl) rfl rfl ?_
          refine WR.stepE (v' := .bool true) (Ex.eql rfl rfl) (congrArg Value.bool (decide_eq_true hk20)) (Wn.none rfl) rfl rfl ?_
          refine WR.step (Ex.move rfl) (Wn.none rfl) rfl rfl ?_
          refine WR.step (Ex.move rfl) (Wn.some rfl rfl rfl) rfl rfl ?_
          refine WR.step (Ex.move rfl) (Wn.some rfl rfl rfl) rfl rfl ?_
          refine WR.call H (R_LooseQuoted_ct hx22) rfl (hp0) (Wn.some rfl rfl rfl) rfl ?_
          intro v29 M w H hle hR
          replace hp0 := hp0.mono hle
          replace f9_0 := f9_0.mono hle
          have f29_0 := hR
          refine WR.call H (R_Bytes_ct hx24) rfl ⟨f9_0, f29_0⟩ (Wn.some rfl rfl rfl) rfl ?_
          intro v30 M w H hle hR
          replace hp0 := hp0.mono hle
          replace f9_0 := f9_0.mono hle
          replace f29_0 := f29_0.mono hle
          obtain rfl := hR
          refine WR.step (Ex.pickT rfl rfl) (Wn.none rfl) rfl rfl ?_
          refine WR.step (Ex.assign rfl) (Wn.none rfl) rfl rfl ?_
          refine WR.nil ?_
          exact WQ.meetN [(2, _)] ⟨rfl, trivial⟩ ⟨_, _, rfl, (H.pick (L' := []) (by repeat (first | exact Pick.nil | refine Pick.cons (by repeat (first | exact Rem.head | apply Rem.tail)) ?_))), e18⟩
        ·
          rw [if_neg hk20] at e18
          refine WC.region ?_
          refine WR.step (Ex.fieldAddr Tryd.underlying25 rfl Tryd.sizeOf3 (by decide) rfl) (Wn.none rfl) rfl rfl ?_
          refine WR.step (Ex.load1 H rfl (by repeat (first | exact List.Mem.head _ | apply List.Mem.tail)) Tryd.isAgg3 (by rfl)) (Wn.none rfl) rfl rfl ?_
          refine WR.stepE (v' := .bool false) (Ex.eql rfl rfl) (congrArg Value.bool (decide_eq_false hk20)) (Wn.none rfl) rfl rfl ?_
          refine WR.step (Ex.move rfl) (Wn.none rfl) rfl rfl ?_
          refine WR.skipG (b := false) rfl rfl rfl rfl rfl ?_
          refine WR.skipG (b := false) rfl rfl rfl rfl rfl ?_
          refine WR.skipG (b := false) rfl rfl rfl rfl rfl ?_
          refine WR.skipG (b := false) rfl rfl rfl rfl rfl ?_
          refine WR.step (Ex.pickF rfl rfl) (Wn.none rfl) rfl rfl ?_
          refine WR.step (Ex.assign rfl) (Wn.none rfl) rfl rfl ?_
          refine WR.nil ?_
          exact WQ.meetN [(2, _)] ⟨rfl, trivial⟩ ⟨_, _, rfl, (H.pick (L' := []) (by repeat (first | exact Pick.nil | refine Pick.cons (by repeat (first | exact Rem.head | apply Rem.tail)) ?_))), e18⟩
      ·
        rintro e w ⟨b19, M, rfl, H, q25⟩
        obtain rfl := Option.some.inj q25
        refine WQ.then ?_
        refine WC.ret ?_
        (repeat (first | refine WQ.thenRet ?_ | refine WQ.inBlockRet ?_ | refine WQ.cutRet ?_))
        obtain rfl := Option.some.inj h
        exact WQ.ret1 rfl rfl H.ext rfl
theorem L_QuotedUnique_ct {p0 : List UInt8} {vp0 : Value} {r : Bool} (h : L_QuotedUnique p0 = some r) : Ct Tryd.prog 6 [vp0] (fun M => Sl M encB vp0 p0) (fun v M => v = Value.bool r) := by
  refine Ct.of Tryd.func6 (enters Tryd.func6 (by kernel_rfl) rfl) rfl rfl rfl ?_
  intro w0 M0 H hp
  have hp0 := hp
  unfold L_QuotedUnique at h
  refine WC.seq ?_
  refine WC.region ?_
  refine WR.step (Ex.assign rfl) (Wn.none rfl) rfl rfl ?_
  refine WR.nil ?_
  refine WQ.then ?_
  refine WC.seq ?_
  refine WC.seq ?_
  obtain ⟨b1, hx2, h⟩ := bnd h
  refine WC.region ?_
  refine WR.call H (L_quotedExample_ct hx2) rfl trivial (Wn.none rfl) rfl ?_
  intro v5 M w H hle hR
  replace hp0 := hp0.mono hle
  obtain rfl := hR
  refine WR.step (Ex.not rfl) (Wn.none rfl) rfl rfl ?_
  refine WR.nil ?_
  refine WQ.then ?_
  refine WC.condB rfl (fun hk3 => ?_) (fun hk3 => ?_)
  ·
    replace hk3 : b1 = false := by simpa using hk3
    rw [if_neg (by rw [hk3]; exact Bool.false_ne_true)] at h
    subst hk3
    refine WC.seq ?_
    refine WC.region ?_
    refine WR.step (Ex.assign rfl) (Wn.none rfl) rfl rfl ?_
    refine WR.nil ?_
    refine WQ.then ?_
    refine WC.ret ?_
    (repeat (first | refine WQ.thenRet ?_ | refine WQ.inBlockRet ?_ | refine WQ.cutRet ?_))
    obtain rfl := Option.some.inj h
    exact WQ.ret1 rfl rfl H.ext rfl
  ·
    replace hk3 : b1 = true := by simpa using hk3
    rw [if_pos hk3] at h
    subst hk3
    refine WC.skip ?_
    refine WQ.then ?_
    refine WC.seq ?_
    refine WC.seq ?_
    refine WC.region ?_
    refine WR.step (Ex.move rfl) (Wn.none rfl) rfl rfl ?_
    refine WR.step (Ex.lenSl Tryd.underlying22 hp0 rfl) (Wn.none rfl) rfl rfl ?_
    refine WR.step (Ex.gtr rfl rfl) (Wn.none rfl) rfl rfl ?_
    refine WR.nil ?_
    refine WQ.then ?_
    refine WC.condB rfl (fun hk4 => ?_) (fun hk4 => ?_)
    ·
      replace hk4 : (48000 : Int) < (p0.length : Int) := of_decide_eq_true hk4
      rw [if_pos hk4] at h
      refine WC.seq ?_
      refine WC.region ?_
      refine WR.step (Ex.assign rfl) (Wn.none rfl) rfl rfl ?_
      refine WR.nil ?_
      refine WQ.then ?_
      refine WC.ret ?_
      (repeat (first | refine WQ.thenRet ?_ | refine WQ.inBlockRet ?_ | refine WQ.cutRet ?_))
      obtain rfl := Option.some.inj h
      exact WQ.ret1 rfl rfl H.ext rfl
    ·
      replace hk4 : ¬ ((48000 : Int) < (p0.length : Int)) := of_decide_eq_false hk4
      rw [if_neg hk4] at h
      refine WC.skip ?_
      refine WQ.then ?_
      refine WC.seq ?_
      obtain ⟨⟨l5, ⟨n6, n7⟩⟩, hx8, h⟩ := bnd h
      dsimp only at h
      refine WC.region ?_
      refine WR.step (Ex.move rfl) (Wn.none rfl) rfl rfl ?_
      refine WR.call H (quoted_Decode_ct hx8) rfl (hp0) (Wn.none rfl) rfl ?_
      intro v12 M w H hle hR
      replace hp0 := hp0.mono hle
      try dsimp only at hR
      obtain ⟨x12_0, rfl, f12_0⟩ := hR
      refine WR.step (Ex.move rfl) (Wn.none rfl) rfl rfl ?_
      refine WR.step (Ex.extract rfl rfl) (Wn.none rfl) rfl rfl ?_
      refine WR.step (Ex.extract rfl rfl) (Wn.none rfl) rfl rfl ?_
      refine WR.alloc [_, _] H Tryd.zeroValue25 rfl (Wn.none rfl) rfl ?_
      intro b4 w H
      refine WR.step (Ex.assign rfl) (Wn.none rfl) rfl rfl ?_
      refine WR.store [_, _] H rfl rfl rfl (by repeat (first | exact Upd.head | apply Upd.tail)) Tryd.sizeOf25 rfl (by rfl) (by rfl) (Wn.none rfl) ?_
      intro w H
      refine WR.nil ?_
      refine WQ.then ?_
      refine WC.seq ?_
      refine WC.seq ?_
      refine WC.region ?_
      refine WR.step (Ex.fieldAddr Tryd.underlying25 rfl Tryd.sizeOf3 (by decide) rfl) (Wn.none rfl) rfl rfl ?_
      refine WR.step (Ex.load1 H rfl (by repeat (first | exact List.Mem.head _ | apply List.Mem.tail)) Tryd.isAgg3 (by rfl)) (Wn.none rfl) rfl rfl ?_
      refine WR.step (Ex.neqC rfl rfl) (Wn.none rfl) rfl rfl ?_
      refine WR.nil ?_
      refine WQ.then ?_
      refine WC.condB rfl (fun hk9 => ?_) (fun hk9 => ?_)
      ·
        replace hk9 : ¬ (n6 = (0 : Int)) := of_not_decide hk9
        rw [if_neg hk9] at h
        refine WC.seq ?_
        obtain ⟨o10, e11, h⟩ := bnd h
        refine WC.cutX (fun e w => ∃ (b12 : Bool) (M : Mem), e = [(2, Value.bool b12)] ∧ St w0 M0 M [] w ∧ some b12 = some o10) [] ?_ ?_ (trivial)
        ·
          obtain ⟨⟨n13, n14⟩, hx15, e11⟩ := bnd e11
          dsimp only at e11
          by_cases hk16 : n6 = n13 ∧ n7 = n14
          ·
            rw [if_pos hk16] at e11
            refine WC.draw (m := 9) rfl rfl H ?_
            intro w H
            refine WA.two (i := 0) (j := 1) (by kernel_rfl) rfl rfl ?_ ?_
            ·
              refine WR.step (Ex.loadAgg H rfl (by repeat (first | exact List.Mem.head _ | apply List.Mem.tail)) Tryd.isAgg25 Tryd.sizeOf25 (by rfl)) (Wn.none rfl) rfl rfl ?_
              refine WR.nil (WQ.any ?_)
              refine WA.one (i := 1) (by kernel_rfl) rfl ?_
              refine WR.call H (R_At_ct hx15) rfl trivial (Wn.none rfl) rfl ?_
              intro v19 M w H hle hR
              replace hp0 := hp0.mono hle
              replace f12_0 := f12_0.mono hle
              try dsimp only at hR
              obtain rfl := hR
              refine WR.nil (WQ.any ?_)
              refine WA.one (i := 2) (by kernel_rfl) rfl ?_
              refine WR.stepE (v' := .bool true) (Ex.eqlAgg rfl rfl (by kernel_rfl) (xeq25 n6 n13 n7 n14)) (congrArg Value.bool (decide_eq_true hk16)) (Wn.none rfl) rfl rfl ?_
              refine WR.nil (WQ.any ?_)
              refine WA.one (i := 3) (by kernel_rfl) rfl ?_
              refine WR.step (Ex.move rfl) (Wn.none rfl) rfl rfl ?_
              refine WR.nil (WQ.any ?_)
              refine WA.one (i := 4) (by kernel_rfl) rfl ?_
              refine WR.step (Ex.move rfl) (Wn.some rfl rfl rfl) rfl rfl ?_
              refine WR.nil (WQ.any ?_)
              refine WA.one (i := 5) (by kernel_rfl) rfl ?_
              refine WR.step (Ex.lenSl Tryd.underlying22 f12_0 rfl) (Wn.some rfl rfl rfl) rfl rfl ?_
              refine WR.nil (WQ.any ?_)
              refine WA.one (i := 6) (by kernel_rfl) rfl ?_
              refine WR.step (Ex.eql rfl rfl) (Wn.some rfl rfl rfl) rfl rfl ?_
              refine WR.nil (WQ.any ?_)
              refine WA.one (i := 7) (by kernel_rfl) rfl ?_
              refine WR.step (Ex.pickT rfl rfl) (Wn.none rfl) rfl rfl ?_
              refine WR.nil (WQ.any ?_)
              refine WA.one (i := 8) (by kernel_rfl) rfl ?_
              refine WR.step (Ex.assign rfl) (Wn.none rfl) rfl rfl ?_
              refine WR.nil (WQ.any ?_)
              refine WA.done (by kernel_rfl) ?_
              exact WQ.meetN [(2, _)] ⟨rfl, trivial⟩ ⟨_, _, rfl, (H.pick (L' := []) (by repeat (first | exact Pick.nil | refine Pick.cons (by repeat (first | exact Rem.head | apply Rem.tail)) ?_))), e11⟩
            ·
              refine WR.call H (R_At_ct hx15) rfl trivial (Wn.none rfl) rfl ?_
              intro v19 M w H hle hR
              replace hp0 := hp0.mono hle
              replace f12_0 := f12_0.mono hle
              try dsimp only at hR
              obtain rfl := hR
              refine WR.nil (WQ.any ?_)
              refine WA.one (i := 0) (by kernel_rfl) rfl ?_
              refine WR.step (Ex.loadAgg H rfl (by repeat (first | exact List.Mem.head _ | apply List.Mem.tail)) Tryd.isAgg25 Tryd.sizeOf25 (by rfl)) (Wn.none rfl) rfl rfl ?_
              refine WR.nil (WQ.any ?_)
              refine WA.one (i := 2) (by kernel_rfl) rfl ?_
              refine WR.stepE (v' := .bool true) (Ex.eqlAgg rfl rfl (by kernel_rfl) (xeq25 n6 n13 n7 n14)) (congrArg Value.bool (decide_eq_true hk16)) (Wn.none rfl) rfl rfl ?_
              refine WR.nil (WQ.any ?_)
              refine WA.one (i := 3) (by kernel_rfl) rfl ?_
              refine WR.step (Ex.move rfl) (Wn.none rfl) rfl rfl ?_
              refine WR.nil (WQ.any ?_)
              refine WA.one (i := 4) (by kernel_rfl) rfl ?_
              refine WR.step (Ex.move rfl) (Wn.some rfl rfl rfl) rfl rfl ?_
              refine WR.nil (WQ.any ?_)
              refine WA.one (i := 5) (by kernel_rfl) rfl ?_
              refine WR.step (Ex.lenSl Tryd.underlying22 f12_0 rfl) (Wn.some rfl rfl rfl) rfl rfl ?_
              refine WR.nil (WQ.any ?_)
              refine WA.one (i := 6) (by kernel_rfl) rfl ?_
              refine WR.step (Ex.eql rfl rfl) (Wn.some rfl rfl rfl) rfl rfl ?_
              refine WR.nil (WQ.any ?_)
              refine WA.one (i := 7) (by kernel_rfl) rfl ?_
              refine WR.step (Ex.pickT rfl rfl) (Wn.none rfl) rfl rfl ?_
              refine WR.nil (WQ.any ?_)
              refine WA.one (i := 8) (by kernel_rfl) rfl ?_
              refine WR.step (Ex.assign rfl) (Wn.none rfl) rfl rfl ?_
              refine WR.nil (WQ.any ?_)
              refine WA.done (by kernel_rfl) ?_
              exact WQ.meetN [(2, _)] ⟨rfl, trivial⟩ ⟨_, _, rfl, (H.pick (L' := []) (by repeat (first | exact Pick.nil | refine Pick.cons (by repeat (first | exact Rem.head | apply Rem.tail)) ?_))), e11⟩
          ·
            rw [if_neg hk16] at e11
            refine WC.draw (m := 9) rfl rfl H ?_
            intro w H
            refine WA.two (i := 0) (j := 1) (by kernel_rfl) rfl rfl ?_ ?_
            ·
              refine WR.step (Ex.loadAgg H rfl (by repeat (first | exact List.Mem.head _ | apply List.Mem.tail)) Tryd.isAgg25 Tryd.sizeOf25 (by rfl)) (Wn.none rfl) rfl rfl ?_
              refine WR.nil (WQ.any ?_)
              refine WA.one (i := 1) (by kernel_rfl) rfl ?_
              refine WR.call H (R_At_ct hx15) rfl trivial (Wn.none rfl) rfl ?_
              intro v19 M w H hle hR
              replace hp0 := hp0.mono hle
              replace f12_0 := f12_0.mono hle
              try dsimp only at hR
              obtain rfl := hR
              refine WR.nil (WQ.any ?_)
              refine WA.one (i := 2) (by kernel_rfl) rfl ?_
              refine WR.stepE (v' := .bool false) (Ex.eqlAgg rfl rfl (by kernel_rfl) (xeq25 n6 n13 n7 n14)) (congrArg Value.bool (decide_eq_false hk16)) (Wn.none rfl) rfl rfl ?_
              refine WR.nil (WQ.any ?_)
              refine WA.one (i := 3) (by kernel_rfl) rfl ?_
              refine WR.step (Ex.move rfl) (Wn.none rfl) rfl rfl ?_
              refine WR.nil (WQ.any ?_)
              refine WA.one (i := 4) (by kernel_rfl) rfl ?_
              refine WR.skipG (b := false) rfl rfl rfl rfl rfl ?_
              refine WR.nil (WQ.any ?_)
              refine WA.one (i := 5) (by kernel_rfl) rfl ?_
              refine WR.skipG (b := false) rfl rfl rfl rfl rfl ?_
              refine WR.nil (WQ.any ?_)
              refine WA.one (i := 6) (by kernel_rfl) rfl ?_
              refine WR.skipG (b := false) rfl rfl rfl rfl rfl ?_
              refine WR.nil (WQ.any ?_)
              refine WA.one (i := 7) (by kernel_rfl) rfl ?_
              refine WR.step (Ex.pickF rfl rfl) (Wn.none rfl) rfl rfl ?_
              refine WR.nil (WQ.any ?_)
              refine WA.one (i := 8) (by kernel_rfl) rfl ?_
              refine WR.step (Ex.assign rfl) (Wn.none rfl) rfl rfl ?_
              refine WR.nil (WQ.any ?_)
              refine WA.done (by kernel_rfl) ?_
              exact WQ.meetN [(2, _)] ⟨rfl, trivial⟩ ⟨_, _, rfl, (H.pick (L' := []) (by repeat (first | exact Pick.nil | refine Pick.cons (by repeat (first | exact Rem.head | apply Rem.tail)) ?_))), e11⟩
            ·
              refine WR.call H (R_At_ct hx15) rfl trivial (Wn.none rfl) rfl ?_
              intro v19 M w H hle hR
              replace hp0 := hp0.mono hle
              replace f12_0 := f12_0.mono hle
              try dsimp only at hR
              obtain rfl := hR
              refine WR.nil (WQ.any ?_)
              refine WA.one (i := 0) (by kernel_rfl) rfl ?_
              refine WR.step (Ex.loadAgg H rfl (by repeat (first | exact List.Mem.head _ | apply List.Mem.tail)) Tryd.isAgg25 Tryd.sizeOf25 (by rfl)) (Wn.none rfl) rfl rfl ?_
              refine WR.nil (WQ.any ?_)
              refine WA.one (i := 2) (by kernel_rfl) rfl ?_
              refine WR.stepE (v' := .bool false) (Ex.eqlAgg rfl rfl (by kernel_rfl) (xeq25 n6 n13 n7 n14)) (congrArg Value.bool (decide_eq_false hk16)) (Wn.none rfl) rfl rfl ?_
              refine WR.nil (WQ.any ?_)
              refine WA.one (i := 3) (by kernel_rfl) rfl ?_
              refine WR.step (Ex.move rfl) (Wn.none rfl) rfl rfl ?_
              refine WR.nil (WQ.any ?_)
              refine WA.one (i := 4) (by kernel_rfl) rfl ?_
              refine WR.skipG (b := false) rfl rfl rfl rfl rfl ?_
              refine WR.nil (WQ.any ?_)
              refine WA.one (i := 5) (by kernel_rfl) rfl ?_
              refine WR.skipG (b := false) rfl rfl rfl rfl rfl ?_
              refine WR.nil (WQ.any ?_)
              refine WA.one (i := 6) (by kernel_rfl) rfl ?_
              refine WR.skipG (b := false) rfl rfl rfl rfl rfl ?_
              refine WR.nil (WQ.any ?_)
              refine WA.one (i := 7) (by kernel_rfl) rfl ?_
              refine WR.step (Ex.pickF rfl rfl) (Wn.none rfl) rfl rfl ?_
              refine WR.nil (WQ.any ?_)
              refine WA.one (i := 8) (by kernel_rfl) rfl ?_
              refine WR.step (Ex.assign rfl) (Wn.none rfl) rfl rfl ?_
              refine WR.nil (WQ.any ?_)
              refine WA.done (by kernel_rfl) ?_
              exact WQ.meetN [(2, _)] ⟨rfl, trivial⟩ ⟨_, _, rfl, (H.pick (L' := []) (by repeat (first | exact Pick.nil | refine Pick.cons (by repeat (first | exact Rem.head | apply Rem.tail)) ?_))), e11⟩
        ·
          rintro e w ⟨b12, M, rfl, H, q17⟩
          obtain rfl := Option.some.inj q17
          refine WQ.then ?_
          refine WC.ret ?_
          (repeat (first | refine WQ.thenRet ?_ | refine WQ.inBlockRet ?_ | refine WQ.cutRet ?_))
          obtain rfl := Option.some.inj h
          exact WQ.ret1 rfl rfl H.ext rfl
      ·
        replace hk9 : n6 = (0 : Int) := of_not_decide' hk9
        rw [if_pos hk9] at h
        refine WC.skip ?_
        refine WQ.then ?_
        refine WC.seq ?_
        obtain ⟨l18, hx19, h⟩ := bnd h
        obtain ⟨b20, hx21, h⟩ := bnd h
        refine WC.region ?_
        refine WR.step (Ex.move rfl) (Wn.none rfl) rfl rfl ?_
        refine WR.call H (R_Quoted_ct hx19) rfl (f12_0) (Wn.none rfl) rfl ?_
        intro v27 M w H hle hR
        replace hp0 := hp0.mono hle
        replace f12_0 := f12_0.mono hle
        have f27_0 := hR
        refine WR.step (Ex.move rfl) (Wn.none rfl) rfl rfl ?_
        refine WR.call H (R_Bytes_ct hx21) rfl ⟨f27_0, hp0⟩ (Wn.none rfl) rfl ?_
        intro v29 M w H hle hR
        replace hp0 := hp0.mono hle
        replace f12_0 := f12_0.mono hle
        replace f27_0 := f27_0.mono hle
        obtain rfl := hR
        refine WR.step (Ex.assign rfl) (Wn.none rfl) rfl rfl ?_
        refine WR.nil ?_
        refine WQ.then ?_
        refine WC.ret ?_
        (repeat (first | refine WQ.thenRet ?_ | refine WQ.inBlockRet ?_ | refine WQ.cutRet ?_))
        obtain rfl := Option.some.inj h
        exact WQ.ret1 rfl rfl H.ext rfl
theorem L_QuotedLines_ct {p0 : List UInt8} {vp0 : Value} {r : Bool} (h : L_QuotedLines p0 = some r) : Ct Tryd.prog 7 [vp0] (fun M => Sl M encB vp0 p0) (fun v M => v = Value.bool r) := by
  refine Ct.of Tryd.func7 (enters Tryd.func7 (by kernel_rfl) rfl) rfl rfl rfl ?_
  intro w0 M0 H hp
  have hp0 := hp
  unfold L_QuotedLines at h
  refine WC.seq ?_
  refine WC.region ?_
  refine WR.step (Ex.assign rfl) (Wn.none rfl) rfl rfl ?_
  refine WR.nil ?_
  refine WQ.then ?_
  refine WC.seq ?_
  refine WC.seq ?_
  obtain ⟨b1, hx2, h⟩ := bnd h
  refine WC.region ?_
  refine WR.call H (L_quotedExample_ct hx2) rfl trivial (Wn.none rfl) rfl ?_
  intro v7 M w H hle hR
  replace hp0 := hp0.mono hle
  obtain rfl := hR
  refine WR.step (Ex.not rfl) (Wn.none rfl) rfl rfl ?_
  refine WR.nil ?_
  refine WQ.then ?_
  refine WC.condB rfl (fun hk3 => ?_) (fun hk3 => ?_)
  ·
    replace hk3 : b1 = false := by simpa using hk3
    rw [if_neg (by rw [hk3]; exact Bool.false_ne_true)] at h
    subst hk3
    refine WC.seq ?_
    refine WC.region ?_
    refine WR.step (Ex.assign rfl) (Wn.none rfl) rfl rfl ?_
    refine WR.nil ?_
    refine WQ.then ?_
    refine WC.ret ?_
    (repeat (first | refine WQ.thenRet ?_ | refine WQ.inBlockRet ?_ | refine WQ.cutRet ?_))
    obtain rfl := Option.some.inj h
    exact WQ.ret1 rfl rfl H.ext rfl
  ·
    replace hk3 : b1 = true := by simpa using hk3
    rw [if_pos hk3] at h
    subst hk3
    refine WC.skip ?_
    refine WQ.then ?_
    refine WC.seq ?_
    obtain ⟨⟨l4, ⟨n5, n6⟩⟩, hx7, h⟩ := bnd h
    dsimp only at h
    refine WC.region ?_
    refine WR.step (Ex.move rfl) (Wn.none rfl) rfl rfl ?_
    refine WR.call H (quoted_Encode_ct hx7) rfl (hp0) (Wn.none rfl) rfl ?_
    intro v11 M w H hle hR
    replace hp0 := hp0.mono hle
    try dsimp only at hR
    obtain ⟨x11_0, rfl, f11_0⟩ := hR
    refine WR.step (Ex.move rfl) (Wn.none rfl) rfl rfl ?_
    refine WR.step (Ex.extract rfl rfl) (Wn.none rfl) rfl rfl ?_
    refine WR.step (Ex.extract rfl rfl) (Wn.none rfl) rfl rfl ?_
    refine WR.alloc [_, _] H Tryd.zeroValue25 rfl (Wn.none rfl) rfl ?_
    intro b4 w H
    refine WR.step (Ex.assign rfl) (Wn.none rfl) rfl rfl ?_
    refine WR.store [_, _] H rfl rfl rfl (by repeat (first | exact Upd.head | apply Upd.tail)) Tryd.sizeOf25 rfl (by rfl) (by rfl) (Wn.none rfl) ?_
    intro w H
    refine WR.nil ?_
    refine WQ.then ?_
    refine WC.seq ?_
    refine WC.seq ?_
    refine WC.region ?_
    refine WR.step (Ex.fieldAddr Tryd.underlying25 rfl Tryd.sizeOf3 (by decide) rfl) (Wn.none rfl) rfl rfl ?_
    refine WR.step (Ex.load1 H rfl (by repeat (first | exact List.Mem.head _ | apply List.Mem.tail)) Tryd.isAgg3 (by rfl)) (Wn.none rfl) rfl rfl ?_
    refine WR.step (Ex.neqC rfl rfl) (Wn.none rfl) rfl rfl ?_
    refine WR.nil ?_
    refine WQ.then ?_
    refine WC.condB rfl (fun hk8 => ?_) (fun hk8 => ?_)
    ·
      replace hk8 : ¬ (n5 = (0 : Int)) := of_not_decide hk8
      rw [if_neg hk8] at h
      refine WC.seq ?_
      refine WC.region ?_
      refine WR.step (Ex.move rfl) (Wn.none rfl) rfl rfl ?_
      refine WR.step (Ex.lenSl Tryd.underlying22 f11_0 rfl) (Wn.none rfl) rfl rfl ?_
      refine WR.step (Ex.eql rfl rfl) (Wn.none rfl) rfl rfl ?_
      refine WR.step (Ex.assign rfl) (Wn.none rfl) rfl rfl ?_
      refine WR.nil ?_
      refine WQ.then ?_
      refine WC.ret ?_
      (repeat (first | refine WQ.thenRet ?_ | refine WQ.inBlockRet ?_ | refine WQ.cutRet ?_))
      obtain rfl := Option.some.inj h
      exact WQ.ret1 rfl rfl H.ext rfl
    ·
      replace hk8 : n5 = (0 : Int) := of_not_decide' hk8
      rw [if_pos hk8] at h
      refine WC.skip ?_
      refine WQ.then ?_
      refine WC.seq ?_
      refine WC.region ?_
      refine WR.step (Ex.assign rfl) (Wn.none rfl) rfl rfl ?_
      refine WR.nil ?_
      refine WQ.then ?_
      refine WC.seq ?_
      refine WC.seq ?_
      refine WC.region ?_
      refine WR.step (Ex.assign rfl) (Wn.none rfl) rfl rfl ?_
      refine WR.nil ?_
      refine WQ.then ?_
      obtain ⟨o9, e10, h⟩ := bnd h
      refine WC.cutX (fun e w => ∃  (M : Mem), e = [] ∧ St w0 M0 M [] w ∧ some (.inl ()) = some o9) [] ?_ ?_ (trivial)
      ·
        refine WC.block ?_
        refine WC.loopP (fun m e w => ∃ (n11 : Int) (n12 : Int) (M : Mem), e = [(3, x11_0), (5, I n11), (6, I n12)] ∧ St w0 M0 M [] w ∧ Sl M encB x11_0 l4 ∧ L_QuotedLines_L1 l4 m n11 n12 = some o9) FU [(3, _), (5, _), (6, _)] ⟨rfl, rfl, rfl, trivial⟩ ⟨_, _, _, rfl, (H.pick (L' := []) (by repeat (first | exact Pick.nil | refine Pick.cons (by repeat (first | exact Rem.head | apply Rem.tail)) ?_))), f11_0, e10⟩ ?_
        rintro m13 e w ⟨n11, n12, M, rfl, H, f11_0, e10⟩
        rcases m13 with _ | m13
        · rw [L_QuotedLines_L1] at e10; cases e10
        rw [L_QuotedLines_L1] at e10
        refine WC.seq ?_
        refine WC.seq ?_
        refine WC.region ?_
        refine WR.step (Ex.move rfl) (Wn.none rfl) rfl rfl ?_
        refine WR.step (Ex.move rfl) (Wn.none rfl) rfl rfl ?_
        refine WR.step (Ex.lenSl Tryd.underlying22 f11_0 rfl) (Wn.none rfl) rfl rfl ?_
        refine WR.step (Ex.leq rfl rfl) (Wn.none rfl) rfl rfl ?_
        refine WR.nil ?_
        refine WQ.then ?_
        refine WC.condB rfl (fun hk14 => ?_) (fun hk14 => ?_)
        ·
          replace hk14 : n12 ≤ (l4.length : Int) := of_decide_eq_true hk14
          rw [if_pos hk14] at e10
          refine WC.skip ?_
          refine WQ.then ?_
          refine WC.seq ?_
          refine WC.block ?_
          refine WC.seq ?_
          refine WC.seq ?_
          obtain ⟨o15, e16, e10⟩ := bnd e10
          refine WC.cutX (fun e w => ∃ (b17 : Bool) (M : Mem), e = [(3, x11_0), (5, I n11), (6, I n12), (34, Value.bool b17)] ∧ St w0 M0 M [] w ∧ Sl M encB x11_0 l4 ∧ some b17 = some o15) [] ?_ ?_ (trivial)
          ·
            by_cases hk18 : n12 = (l4.length : Int)
            ·
              rw [if_pos hk18] at e16
              refine WC.region ?_
              refine WR.step (Ex.move rfl) (Wn.none rfl) rfl rfl ?_
              refine WR.step (Ex.move rfl) (Wn.none rfl) rfl rfl ?_
              refine WR.step (Ex.lenSl Tryd.underlying22 f11_0 rfl) (Wn.none rfl) rfl rfl ?_
              refine WR.stepE (v' := .bool true) (Ex.eql rfl rfl) (congrArg Value.bool (decide_eq_true hk18)) (Wn.none rfl) rfl rfl ?_
              refine WR.step (Ex.move rfl) (Wn.none rfl) rfl rfl ?_
              refine WR.skipG (b := true) rfl rfl rfl rfl rfl ?_
              refine WR.skipG (b := true) rfl rfl rfl rfl rfl ?_
              refine WR.skipG (b := true) rfl rfl rfl rfl rfl ?_
              refine WR.step (Ex.pickT rfl rfl) (Wn.none rfl) rfl rfl ?_
              refine WR.nil ?_
              exact WQ.meetN [(3, _), (5, _), (6, _), (34, _)] ⟨rfl, rfl, rfl, rfl, trivial⟩ ⟨_, _, rfl, H, f11_0, e16⟩
            ·
              rw [if_neg hk18] at e16
              obtain ⟨b19, hx20, e16⟩ := bnd e16
              refine WC.region ?_
              refine WR.step (Ex.move rfl) (Wn.none rfl) rfl rfl ?_
              refine WR.step (Ex.move rfl) (Wn.none rfl) rfl rfl ?_
              refine WR.step (Ex.lenSl Tryd.underlying22 f11_0 rfl) (Wn.none rfl) rfl rfl ?_
              refine WR.stepE (v' := .bool false) (Ex.eql rfl rfl) (congrArg Value.bool (decide_eq_false hk18)) (Wn.none rfl) rfl rfl ?_
              refine WR.step (Ex.move rfl) (Wn.none rfl) rfl rfl ?_
              refine WR.step (Ex.move rfl) (Wn.some rfl rfl rfl) rfl rfl ?_
              refine WR.step (Ex.move rfl) (Wn.some rfl rfl rfl) rfl rfl ?_
              refine WR.call H (R_Crlf_ct hx20) rfl (f11_0) (Wn.some rfl rfl rfl) rfl ?_
              intro v33 M w H hle hR
              replace f11_0 := f11_0.mono hle
              obtain rfl := hR
              refine WR.step (Ex.pickF rfl rfl) (Wn.none rfl) rfl rfl ?_
              refine WR.nil ?_
              exact WQ.meetN [(3, _), (5, _), (6, _), (34, _)] ⟨rfl, rfl, rfl, rfl, trivial⟩ ⟨_, _, rfl, H, f11_0, e16⟩
          ·
            rintro e w ⟨b17, M, rfl, H, f11_0, q21⟩
            obtain rfl := Option.some.inj q21
            refine WQ.then ?_
            refine WC.condB rfl (fun hk22 => ?_) (fun hk22 => ?_)
            ·
              rw [if_pos hk22] at e10
              subst hk22
              refine WC.seq ?_
              refine WC.seq ?_
              obtain ⟨o23, e24, e10⟩ := bnd e10
              refine WC.cutX (fun e w => ∃ (b25 : Bool) (M : Mem), e = [(3, x11_0), (6, I n12), (48, Value.bool b25)] ∧ St w0 M0 M [] w ∧ Sl M encB x11_0 l4 ∧ some b25 = some o23) [] ?_ ?_ (trivial)
              ·
                by_cases hk26 : (76 : Int) < n11
                ·
                  rw [if_pos hk26] at e24
                  refine WC.region ?_
                  refine WR.step (Ex.move rfl) (Wn.none rfl) rfl rfl ?_
                  refine WR.stepE (v' := .bool true) (Ex.gtr rfl rfl) (congrArg Value.bool (decide_eq_true hk26)) (Wn.none rfl) rfl rfl ?_
                  refine WR.step (Ex.move rfl) (Wn.none rfl) rfl rfl ?_
                  refine WR.skipG (b := true) rfl rfl rfl rfl rfl ?_
                  refine WR.skipG (b := true) rfl rfl rfl rfl rfl ?_
                  refine WR.skipG (b := true) rfl rfl rfl rfl rfl ?_
                  refine WR.skipU rfl rfl rfl rfl rfl ?_
                  refine WR.skipU rfl rfl rfl rfl rfl ?_
                  refine WR.skipU rfl rfl rfl rfl rfl ?_
                  refine WR.skipU rfl rfl rfl rfl rfl ?_
                  refine WR.skipU rfl rfl rfl rfl rfl ?_
                  refine WR.skipU rfl rfl rfl rfl rfl ?_
                  refine WR.skipG (b := true) rfl rfl rfl rfl rfl ?_
                  refine WR.step (Ex.pickT rfl rfl) (Wn.none rfl) rfl rfl ?_
                  refine WR.nil ?_
                  exact WQ.meetN [(3, _), (6, _), (48, _)] ⟨rfl, rfl, rfl, trivial⟩ ⟨_, _, rfl, H, f11_0, e24⟩
                ·
                  rw [if_neg hk26] at e24
                  by_cases hk27 : (0 : Int) < n11
                  ·
                    rw [if_pos hk27] at e24
                    obtain ⟨n28, hxn28, e24⟩ := bnd e24
                    obtain ⟨c29, hxc29, e24⟩ := bnd e24
                    obtain ⟨b30, hx31, e24⟩ := bnd e24
                    refine WC.region ?_
                    refine WR.step (Ex.move rfl) (Wn.none rfl) rfl rfl ?_
                    refine WR.stepE (v' := .bool false) (Ex.gtr rfl rfl) (congrArg Value.bool (decide_eq_false hk26)) (Wn.none rfl) rfl rfl ?_
                    refine WR.step (Ex.move rfl) (Wn.none rfl) rfl rfl ?_
                    refine WR.step (Ex.move rfl) (Wn.some rfl rfl rfl) rfl rfl ?_
                    refine WR.stepE (v' := .bool true) (Ex.gtr rfl rfl) (congrArg Value.bool (decide_eq_true hk27)) (Wn.some rfl rfl rfl) rfl rfl ?_
                    refine WR.step (Ex.move rfl) (Wn.some rfl rfl rfl) rfl rfl ?_
                    refine WR.step (Ex.move rfl) (Wn.some rfl rfl rfl) rfl rfl ?_
                    refine WR.step (Ex.move rfl) (Wn.some rfl rfl rfl) rfl rfl ?_
                    refine WR.step (Ex.subC rfl rfl hxn28) (Wn.some rfl rfl rfl) rfl rfl ?_
                    refine WR.idxC Tryd.underlying22 Tryd.sizeOf5 (f11_0) rfl rfl hxc29 (Wn.some rfl rfl rfl) rfl ?_
                    intro p44 hc44
                    refine WR.step (Ex.loadM H rfl hc44 Tryd.isAgg5) (Wn.some rfl rfl rfl) rfl rfl ?_
                    refine WR.call H (R_Blank_ct hx31) rfl trivial (Wn.some rfl rfl rfl) rfl ?_
                    intro v46 M w H hle hR
                    replace f11_0 := f11_0.mono hle
                    replace hc44 := hc44.mono hle
                    obtain rfl := hR
                    refine WR.step (Ex.pickT rfl rfl) (Wn.some rfl rfl rfl) rfl rfl ?_
                    refine WR.step (Ex.pickF rfl rfl) (Wn.none rfl) rfl rfl ?_
                    refine WR.nil ?_
                    exact WQ.meetN [(3, _), (6, _), (48, _)] ⟨rfl, rfl, rfl, trivial⟩ ⟨_, _, rfl, H, f11_0, e24⟩
                  ·
                    rw [if_neg hk27] at e24
                    refine WC.region ?_
                    refine WR.step (Ex.move rfl) (Wn.none rfl) rfl rfl ?_
                    refine WR.stepE (v' := .bool false) (Ex.gtr rfl rfl) (congrArg Value.bool (decide_eq_false hk26)) (Wn.none rfl) rfl rfl ?_
                    refine WR.step (Ex.move rfl) (Wn.none rfl) rfl rfl ?_
                    refine WR.step (Ex.move rfl) (Wn.some rfl rfl rfl) rfl rfl ?_
                    refine WR.stepE (v' := .bool false) (Ex.gtr rfl rfl) (congrArg Value.bool (decide_eq_false hk27)) (Wn.some rfl rfl rfl) rfl rfl ?_
                    refine WR.step (Ex.move rfl) (Wn.some rfl rfl rfl) rfl rfl ?_
                    refine WR.skipG (b := false) rfl rfl rfl rfl rfl ?_
                    refine WR.skipG (b := false) rfl rfl rfl rfl rfl ?_
                    refine WR.skipG (b := false) rfl rfl rfl rfl rfl ?_
                    refine WR.skipG (b := false) rfl rfl rfl rfl rfl ?_
                    refine WR.skipG (b := false) rfl rfl rfl rfl rfl ?_
                    refine WR.skipG (b := false) rfl rfl rfl rfl rfl ?_
                    refine WR.step (Ex.pickF rfl rfl) (Wn.some rfl rfl rfl) rfl rfl ?_
                    refine WR.step (Ex.pickF rfl rfl) (Wn.none rfl) rfl rfl ?_
                    refine WR.nil ?_
                    exact WQ.meetN [(3, _), (6, _), (48, _)] ⟨rfl, rfl, rfl, trivial⟩ ⟨_, _, rfl, H, f11_0, e24⟩
              ·
                rintro e w ⟨b25, M, rfl, H, f11_0, q32⟩
                obtain rfl := Option.some.inj q32
                refine WQ.then ?_
                refine WC.condB rfl (fun hk33 => ?_) (fun hk33 => ?_)
                ·
                  rw [if_pos hk33] at e10
                  subst hk33
                  refine WC.seq ?_
                  refine WC.region ?_
                  refine WR.step (Ex.assign rfl) (Wn.none rfl) rfl rfl ?_
                  refine WR.nil ?_
                  refine WQ.then ?_
                  refine WC.ret ?_
                  (repeat (first | refine WQ.thenRet ?_ | refine WQ.inBlockRet ?_ | refine WQ.cutRet ?_))
                  obtain rfl := Option.some.inj e10
                  dsimp only at h
                  obtain rfl := Option.some.inj h
                  exact WQ.ret1 rfl rfl H.ext rfl
                ·
                  rw [if_neg (by rw [hk33]; exact Bool.false_ne_true)] at e10
                  subst hk33
                  refine WC.skip ?_
                  refine WQ.then ?_
                  refine WC.seq ?_
                  refine WC.region ?_
                  refine WR.step (Ex.assign rfl) (Wn.none rfl) rfl rfl ?_
                  refine WR.nil ?_
                  refine WQ.then ?_
                  refine WC.seq ?_
                  obtain ⟨n34, hxn34, e10⟩ := bnd e10
                  refine WC.region ?_
                  refine WR.step (Ex.move rfl) (Wn.none rfl) rfl rfl ?_
                  refine WR.step (Ex.addC rfl rfl hxn34) (Wn.none rfl) rfl rfl ?_
                  refine WR.step (Ex.assign rfl) (Wn.none rfl) rfl rfl ?_
                  refine WR.nil ?_
                  refine WQ.then ?_
                  refine WC.exit ?_
                  refine WQ.thenExit ?_
                  refine WQ.exitHere ?_
                  refine WQ.then ?_
                  obtain ⟨n35, hxn35, e10⟩ := bnd e10
                  refine WC.region ?_
                  refine WR.step (Ex.move rfl) (Wn.none rfl) rfl rfl ?_
                  refine WR.step (Ex.addC rfl rfl hxn35) (Wn.none rfl) rfl rfl ?_
                  refine WR.step (Ex.assign rfl) (Wn.none rfl) rfl rfl ?_
                  refine WR.nil ?_
                  exact WQ.againP m13 [(3, _), (5, _), (6, _)] ⟨rfl, rfl, rfl, trivial⟩ ⟨_, _, _, rfl, H, f11_0, e10⟩ (Nat.lt_succ_self _)
            ·
              rw [if_neg (by rw [hk22]; exact Bool.false_ne_true)] at e10
              subst hk22
              refine WC.skip ?_
              refine WQ.then ?_
              refine WC.seq ?_
              refine WC.seq ?_
              obtain ⟨o36, e37, e10⟩ := bnd e10
              refine WC.cutX (fun e w => ∃ (b38 : Bool) (M : Mem), e = [(3, x11_0), (5, I n11), (6, I n12), (64, Value.bool b38)] ∧ St w0 M0 M [] w ∧ Sl M encB x11_0 l4 ∧ some b38 = some o36) [] ?_ ?_ (trivial)
              ·
                obtain ⟨c39, hxc39, e37⟩ := bnd e37
                obtain ⟨b40, hx41, e37⟩ := bnd e37
                rcases b40 with _ | _
                ·
                  rw [if_neg Bool.false_ne_true] at e37
                  obtain ⟨c42, hxc42, e37⟩ := bnd e37
                  refine WC.region ?_
                  refine WR.step (Ex.move rfl) (Wn.none rfl) rfl rfl ?_
                  refine WR.step (Ex.move rfl) (Wn.none rfl) rfl rfl ?_
                  refine WR.idxC Tryd.underlying22 Tryd.sizeOf5 (f11_0) rfl rfl hxc39 (Wn.none rfl) rfl ?_
                  intro p53 hc53
                  refine WR.step (Ex.loadM H rfl hc53 Tryd.isAgg5) (Wn.none rfl) rfl rfl ?_
                  refine WR.step (Ex.convB Tryd.underlying5 Tryd.underlying3 rfl) (Wn.none rfl) rfl rfl ?_
                  refine WR.call H (R_In_ct hx41) rfl trivial (Wn.none rfl) rfl ?_
                  intro v56 M w H hle hR
                  replace f11_0 := f11_0.mono hle
                  replace hc53 := hc53.mono hle
                  obtain rfl := hR
                  refine WR.step (Ex.not rfl) (Wn.none rfl) rfl rfl ?_
                  refine WR.step (Ex.move rfl) (Wn.none rfl) rfl rfl ?_
                  refine WR.step (Ex.move rfl) (Wn.some rfl rfl rfl) rfl rfl ?_
                  refine WR.step (Ex.move rfl) (Wn.some rfl rfl rfl) rfl rfl ?_
                  refine WR.idxC Tryd.underlying22 Tryd.sizeOf5 (f11_0) rfl rfl hxc42 (Wn.some rfl rfl rfl) rfl ?_
                  intro p61 hc61
                  refine WR.step (Ex.loadM H rfl hc61 Tryd.isAgg5) (Wn.some rfl rfl rfl) rfl rfl ?_
                  refine WR.step (Ex.neqB (c := c42) (d := 9) rfl rfl) (Wn.some rfl rfl rfl) rfl rfl ?_
                  refine WR.step (Ex.pickT rfl rfl) (Wn.none rfl) rfl rfl ?_
                  refine WR.nil ?_
                  exact WQ.meetN [(3, _), (5, _), (6, _), (64, _)] ⟨rfl, rfl, rfl, rfl, trivial⟩ ⟨_, _, rfl, H, f11_0, e37⟩
                ·
                  rw [if_pos rfl] at e37
                  refine WC.region ?_
                  refine WR.step (Ex.move rfl) (Wn.none rfl) rfl rfl ?_
                  refine WR.step (Ex.move rfl) (Wn.none rfl) rfl rfl ?_
                  refine WR.idxC Tryd.underlying22 Tryd.sizeOf5 (f11_0) rfl rfl hxc39 (Wn.none rfl) rfl ?_
                  intro p53 hc53
                  refine WR.step (Ex.loadM H rfl hc53 Tryd.isAgg5) (Wn.none rfl) rfl rfl ?_
                  refine WR.step (Ex.convB Tryd.underlying5 Tryd.underlying3 rfl) (Wn.none rfl) rfl rfl ?_
                  refine WR.call H (R_In_ct hx41) rfl trivial (Wn.none rfl) rfl ?_
                  intro v56 M w H hle hR
                  replace f11_0 := f11_0.mono hle
                  replace hc53 := hc53.mono hle
                  obtain rfl := hR
                  refine WR.step (Ex.not rfl) (Wn.none rfl) rfl rfl ?_
                  refine WR.step (Ex.move rfl) (Wn.none rfl) rfl rfl ?_
                  refine WR.skipG (b := false) rfl rfl rfl rfl rfl ?_
                  refine WR.skipG (b := false) rfl rfl rfl rfl rfl ?_
                  refine WR.skipG (b := false) rfl rfl rfl rfl rfl ?_
                  refine WR.skipG (b := false) rfl rfl rfl rfl rfl ?_
                  refine WR.skipG (b := false) rfl rfl rfl rfl rfl ?_
                  refine WR.step (Ex.pickF rfl rfl) (Wn.none rfl) rfl rfl ?_
                  refine WR.nil ?_
                  exact WQ.meetN [(3, _), (5, _), (6, _), (64, _)] ⟨rfl, rfl, rfl, rfl, trivial⟩ ⟨_, _, rfl, H, f11_0, e37⟩
              ·
                rintro e w ⟨b38, M, rfl, H, f11_0, q43⟩
                obtain rfl := Option.some.inj q43
                refine WQ.then ?_
                refine WC.condB rfl (fun hk44 => ?_) (fun hk44 => ?_)
                ·
                  rw [if_pos hk44] at e10
                  subst hk44
                  refine WC.seq ?_
                  refine WC.region ?_
                  refine WR.step (Ex.assign rfl) (Wn.none rfl) rfl rfl ?_
                  refine WR.nil ?_
                  refine WQ.then ?_
                  refine WC.ret ?_
                  (repeat (first | refine WQ.thenRet ?_ | refine WQ.inBlockRet ?_ | refine WQ.cutRet ?_))
                  obtain rfl := Option.some.inj e10
                  dsimp only at h
                  obtain rfl := Option.some.inj h
                  exact WQ.ret1 rfl rfl H.ext rfl
                ·
                  rw [if_neg (by rw [hk44]; exact Bool.false_ne_true)] at e10
                  subst hk44
                  refine WC.skip ?_
                  refine WQ.then ?_
                  obtain ⟨n45, hxn45, e10⟩ := bnd e10
                  refine WC.region ?_
                  refine WR.step (Ex.move rfl) (Wn.none rfl) rfl rfl ?_
                  refine WR.step (Ex.addC rfl rfl hxn45) (Wn.none rfl) rfl rfl ?_
                  refine WR.step (Ex.assign rfl) (Wn.none rfl) rfl rfl ?_
                  refine WR.nil ?_
                  refine WQ.inBlock ?_
                  refine WQ.then ?_
                  obtain ⟨n46, hxn46, e10⟩ := bnd e10
                  refine WC.region ?_
                  refine WR.step (Ex.move rfl) (Wn.none rfl) rfl rfl ?_
                  refine WR.step (Ex.addC rfl rfl hxn46) (Wn.none rfl) rfl rfl ?_
                  refine WR.step (Ex.assign rfl) (Wn.none rfl) rfl rfl ?_
                  refine WR.nil ?_
                  exact WQ.againP m13 [(3, _), (5, _), (6, _)] ⟨rfl, rfl, rfl, trivial⟩ ⟨_, _, _, rfl, H, f11_0, e10⟩ (Nat.lt_succ_self _)
        ·
          replace hk14 : ¬ (n12 ≤ (l4.length : Int)) := of_decide_eq_false hk14
          rw [if_neg hk14] at e10
          refine WC.exit ?_
          refine WQ.thenExit ?_
          refine WQ.thenExit ?_
          refine WQ.exitHere ?_
          exact WQ.meetN [] trivial ⟨_, rfl, H, e10⟩
      ·
        rintro e w ⟨M, rfl, H, q47⟩
        obtain rfl := Option.some.inj q47
        dsimp only at h
        refine WQ.then ?_
        refine WC.seq ?_
        refine WC.region ?_
        refine WR.step (Ex.assign rfl) (Wn.none rfl) rfl rfl ?_
        refine WR.nil ?_
        refine WQ.then ?_
        refine WC.ret ?_
        (repeat (first | refine WQ.thenRet ?_ | refine WQ.inBlockRet ?_ | refine WQ.cutRet ?_))
        obtain rfl := Option.some.inj h
        exact WQ.ret1 rfl rfl H.ext rfl
end Go.Proofs.YtolmifddbjdepaaDoor
