/-
  small functions: walks over the program's own operations, written by a program of this repository (wip/tools/gen.py) out of a plan.
-/
import Derived.Test.YtgkpcfgbbgpihaaHeap
import Derived.Test.YtgkpcfgbbgpihaaRows
import Derived.KernelRfl
namespace Go.Proofs.Ytgkpcfgbbgpihaa
open Go Go.RowKit Go.Ph

theorem ty22 : ElemTy Try.prog 22 5 (.int .u8 0) 1 1 := ElemTy.mk' Try.underlying22 (by kernel_rfl) rfl (by decide)
theorem ty42 : ElemTy Try.prog 42 3 (.int .i64 0) 1 8 := ElemTy.mk' Try.underlying42 (by kernel_rfl) rfl (by decide)
theorem places25 : ∀ {fs : Array Field}, Try.prog.underlying 25 = some (.struct fs) → ∀ w, (fs.mapM fun f => do pure (f.offset, ← sizeOf f.type) : Sem (Array (Nat × Nat))).run Try.prog w = .ok #[(0, 1), (1, 1)] w := by
  intro fs h w
  rw [Try.underlying25] at h
  cases h
  simp
theorem eq25 (a0 b0 : Int) (a1 b1 : Int) (w : World) : (Op.equalIn 10000 25 (.agg #[.int .i64 a0, .int .i64 a1]) (.agg #[.int .i64 b0, .int .i64 b1])).run Try.prog w = .ok (decide (a0 = b0 ∧ a1 = b1)) w := by
  rw [run_equalIn_struct w 9999 25 _ _ (by rw [Program.fieldsOf, Try.underlying25]) (by kernel_rfl)]
  rw [Program.fieldsOf, Try.underlying25]
  by_cases h0 : a0 = b0 <;> by_cases h1 : a1 = b1 <;> simp [Op.eqFields, part, h0, h1, Try.isAgg3, run_equalIn_int _ _ _ _ _ _ _ Try.underlying3]
abbrev fault (c i : Int) : Value := .agg #[I c, I i]
theorem fault_spec (c i : Int) : Ct Try.prog 17 [I c, I i] (fun _ => True) (fun r _ => r = fault c i) := by
  refine Ct.of Try.func17 (enters Try.func17 (by kernel_rfl) rfl) rfl rfl rfl ?_
  intro w0 M0 H hp
  refine WC.seq ?_
  refine WC.region ?_
  refine WR.alloc [_, _] H Try.zeroValue25 rfl (Wn.none rfl) rfl ?_
  intro b4 w H
  refine WR.nil ?_
  refine WQ.then ?_
  refine WC.seq ?_
  refine WC.region ?_
  refine WR.step (Ex.move rfl) (Wn.none rfl) rfl rfl ?_
  refine WR.step (Ex.move rfl) (Wn.none rfl) rfl rfl ?_
  refine WR.step (Ex.build [_, _] Try.underlying25 Try.zeroValue25 (places25 Try.underlying25) rfl rfl) (Wn.none rfl) rfl rfl ?_
  refine WR.store [_, _] H rfl rfl rfl (by repeat (first | exact Upd.head | apply Upd.tail)) Try.sizeOf25 rfl (by rfl) (by rfl) (Wn.none rfl) ?_
  intro w H
  refine WR.nil ?_
  refine WQ.then ?_
  refine WC.ret ?_
  (repeat (first | refine WQ.thenRet ?_ | refine WQ.inBlockRet ?_))
  refine WQ.ret1 rfl ⟨_, rfl, H.loadAgg (by repeat (first | exact List.Mem.head _ | apply List.Mem.tail)) Try.isAgg25 Try.sizeOf25 (by rfl)⟩ H.ext ?_
  exact rfl

theorem at_spec (c i : Int) : Ct Try.prog 10 [I c, I i] (fun _ => True) (fun r _ => r = fault c i) := by
  refine Ct.of Try.func10 (enters Try.func10 (by kernel_rfl) rfl) rfl rfl rfl ?_
  intro w0 M0 H hp
  refine WC.seq ?_
  refine WC.region ?_
  refine WR.alloc [_, _] H Try.zeroValue25 rfl (Wn.none rfl) rfl ?_
  intro b4 w H
  refine WR.nil ?_
  refine WQ.then ?_
  refine WC.seq ?_
  refine WC.region ?_
  refine WR.step (Ex.move rfl) (Wn.none rfl) rfl rfl ?_
  refine WR.step (Ex.move rfl) (Wn.none rfl) rfl rfl ?_
  refine WR.step (Ex.build [_, _] Try.underlying25 Try.zeroValue25 (places25 Try.underlying25) rfl rfl) (Wn.none rfl) rfl rfl ?_
  refine WR.store [_, _] H rfl rfl rfl (by repeat (first | exact Upd.head | apply Upd.tail)) Try.sizeOf25 rfl (by rfl) (by rfl) (Wn.none rfl) ?_
  intro w H
  refine WR.nil ?_
  refine WQ.then ?_
  refine WC.ret ?_
  (repeat (first | refine WQ.thenRet ?_ | refine WQ.inBlockRet ?_))
  refine WQ.ret1 rfl ⟨_, rfl, H.loadAgg (by repeat (first | exact List.Mem.head _ | apply List.Mem.tail)) Try.isAgg25 Try.sizeOf25 (by rfl)⟩ H.ext ?_
  exact rfl

theorem none_spec  : Ct Try.prog 19 [] (fun _ => True) (fun r _ => r = fault 0 0) := by
  refine Ct.of Try.func19 (enters Try.func19 (by kernel_rfl) rfl) rfl rfl rfl ?_
  intro w0 M0 H hp
  refine WC.seq ?_
  refine WC.region ?_
  refine WR.alloc [_, _] H Try.zeroValue25 rfl (Wn.none rfl) rfl ?_
  intro b0 w H
  refine WR.nil ?_
  refine WQ.then ?_
  refine WC.seq ?_
  refine WC.region ?_
  refine WR.step (Ex.build [_, _] Try.underlying25 Try.zeroValue25 (places25 Try.underlying25) rfl rfl) (Wn.none rfl) rfl rfl ?_
  refine WR.store [_, _] H rfl rfl rfl (by repeat (first | exact Upd.head | apply Upd.tail)) Try.sizeOf25 rfl (by rfl) (by rfl) (Wn.none rfl) ?_
  intro w H
  refine WR.nil ?_
  refine WQ.then ?_
  refine WC.ret ?_
  (repeat (first | refine WQ.thenRet ?_ | refine WQ.inBlockRet ?_))
  refine WQ.ret1 rfl ⟨_, rfl, H.loadAgg (by repeat (first | exact List.Mem.head _ | apply List.Mem.tail)) Try.isAgg25 Try.sizeOf25 (by rfl)⟩ H.ext ?_
  exact rfl

theorem failed_spec (c i : Int) : Ct Try.prog 24 [fault c i] (fun _ => True) (fun r _ => r = .bool (decide (c ≠ 0))) := by
  refine Ct.of Try.func24 (enters Try.func24 (by kernel_rfl) rfl) rfl rfl rfl ?_
  intro w0 M0 H hp
  refine WC.seq ?_
  refine WC.region ?_
  refine WR.box [_, _] H rfl rfl (Wn.none rfl) rfl ?_
  intro b1 w H
  refine WR.step (Ex.assign rfl) (Wn.none rfl) rfl rfl ?_
  refine WR.nil ?_
  refine WQ.then ?_
  refine WC.seq ?_
  refine WC.region ?_
  refine WR.step (Ex.fieldAddr Try.underlying25 rfl Try.sizeOf3 (by decide) rfl) (Wn.none rfl) rfl rfl ?_
  first | refine WR.step (Ex.loadM H rfl (by assumption) Try.isAgg3) (Wn.none rfl) rfl rfl ?_ | refine WR.step (Ex.load1 H rfl (by repeat (first | exact List.Mem.head _ | apply List.Mem.tail)) Try.isAgg3 (by rfl)) (Wn.none rfl) rfl rfl ?_
  refine WR.step (Ex.neq rfl rfl) (Wn.none rfl) rfl rfl ?_
  refine WR.step (Ex.assign rfl) (Wn.none rfl) rfl rfl ?_
  refine WR.nil ?_
  refine WQ.then ?_
  refine WC.ret ?_
  (repeat (first | refine WQ.thenRet ?_ | refine WQ.inBlockRet ?_))
  refine WQ.ret1 rfl rfl H.ext ?_
  exact rfl

theorem in_spec (n lo hi : Int) : Ct Try.prog 16 [I n, I lo, I hi] (fun _ => True) (fun r _ => r = .bool (decide (lo ≤ n ∧ n ≤ hi))) := by
  refine Ct.of Try.func16 (enters Try.func16 (by kernel_rfl) rfl) rfl rfl rfl ?_
  intro w0 M0 H hp
  refine WC.seq ?_
  refine WC.region ?_
  refine WR.step (Ex.assign rfl) (Wn.none rfl) rfl rfl ?_
  refine WR.nil ?_
  refine WQ.then ?_
  refine WC.seq ?_
  refine WC.region ?_
  refine WR.step (Ex.move rfl) (Wn.none rfl) rfl rfl ?_
  refine WR.step (Ex.move rfl) (Wn.none rfl) rfl rfl ?_
  refine WR.split (Ex.geq rfl rfl) (Wn.none rfl) rfl rfl (fun h1_2 => ?_) (fun h1_2 => ?_)
  ·
    refine WR.step (Ex.move rfl) (Wn.none rfl) rfl rfl ?_
    refine WR.step (Ex.move rfl) (Wn.some rfl rfl rfl) rfl rfl ?_
    refine WR.step (Ex.move rfl) (Wn.some rfl rfl rfl) rfl rfl ?_
    refine WR.step (Ex.leq rfl rfl) (Wn.some rfl rfl rfl) rfl rfl ?_
    refine WR.step (Ex.pickT rfl rfl) (Wn.none rfl) rfl rfl ?_
    refine WR.step (Ex.assign rfl) (Wn.none rfl) rfl rfl ?_
    refine WR.nil ?_
    refine WQ.then ?_
    refine WC.ret ?_
    (repeat (first | refine WQ.thenRet ?_ | refine WQ.inBlockRet ?_))
    refine WQ.ret1 rfl rfl H.ext ?_
    exact (by simp [h1_2])
  ·
    refine WR.step (Ex.move rfl) (Wn.none rfl) rfl rfl ?_
    refine WR.skipG (b := false) rfl rfl rfl rfl rfl ?_
    refine WR.skipG (b := false) rfl rfl rfl rfl rfl ?_
    refine WR.skipG (b := false) rfl rfl rfl rfl rfl ?_
    refine WR.step (Ex.pickF rfl rfl) (Wn.none rfl) rfl rfl ?_
    refine WR.step (Ex.assign rfl) (Wn.none rfl) rfl rfl ?_
    refine WR.nil ?_
    refine WQ.then ?_
    refine WC.ret ?_
    (repeat (first | refine WQ.thenRet ?_ | refine WQ.inBlockRet ?_))
    refine WQ.ret1 rfl rfl H.ext ?_
    exact (by simp [h1_2])

theorem bytes_spec (a b : Value) (l m : List UInt8) : Ct Try.prog 11 [a, b] (fun M => Bs M a l ∧ Bs M b m) (fun r _ => r = .bool (decide (l = m))) := by
  refine Ct.of Try.func11 (enters Try.func11 (by kernel_rfl) rfl) rfl rfl rfl ?_
  intro w0 M0 H hp
  obtain ⟨ha, hb⟩ := hp
  refine WC.seq ?_
  refine WC.region ?_
  refine WR.step (Ex.assign rfl) (Wn.none rfl) rfl rfl ?_
  refine WR.nil ?_
  refine WQ.then ?_
  refine WC.seq ?_
  refine WC.region ?_
  refine WR.step (Ex.move rfl) (Wn.none rfl) rfl rfl ?_
  refine WR.step (Ex.toStr Try.underlying22 Try.underlying5 Try.underlying9 H (by assumption) rfl) (Wn.none rfl) rfl rfl ?_
  refine WR.step (Ex.move rfl) (Wn.none rfl) rfl rfl ?_
  refine WR.step (Ex.toStr Try.underlying22 Try.underlying5 Try.underlying9 H (by assumption) rfl) (Wn.none rfl) rfl rfl ?_
  refine WR.step (Ex.strEql rfl rfl) (Wn.none rfl) rfl rfl ?_
  refine WR.step (Ex.assign rfl) (Wn.none rfl) rfl rfl ?_
  refine WR.nil ?_
  refine WQ.then ?_
  refine WC.ret ?_
  (repeat (first | refine WQ.thenRet ?_ | refine WQ.inBlockRet ?_))
  refine WQ.ret1 rfl rfl H.ext ?_
  exact rfl

end Go.Proofs.Ytgkpcfgbbgpihaa
