/-
  quoted: small functions: walks over the program's own operations, written by a program of this repository (wip/tools/gen.py) out of a plan.
-/
import Derived.Test.YtolmifddbjdepaaDoorConv
import Derived.Test.YtolmifddbjdepaaDoorDraw
import Derived.Test.YtolmifddbjdepaaDoorSet
import Derived.Test.YtolmifddbjdepaaDoorRows
import Derived.Test.YtolmifddbjdepaaDoorQp
import Derived.KernelRfl
set_option linter.unusedVariables false
set_option linter.unusedSimpArgs false
namespace Go.Proofs.YtolmifddbjdepaaDoor
open Go Go.RowKit Go.Ph

theorem ty22 : ElemTy Tryd.prog 22 5 (.int .u8 0) 1 1 := ElemTy.mk' Tryd.underlying22 (by kernel_rfl) rfl (by decide)
theorem ty35 : ElemTy Tryd.prog 35 9 (.string ⟨#[]⟩) 1 16 := ElemTy.mk' Tryd.underlying35 (by kernel_rfl) rfl (by decide)
theorem ty59 : ElemTy Tryd.prog 59 3 (.int .i64 0) 1 8 := ElemTy.mk' Tryd.underlying59 (by kernel_rfl) rfl (by decide)
theorem places25 : ∀ {fs : Array Field}, Tryd.prog.underlying 25 = some (.struct fs) → ∀ w, (fs.mapM fun f => do pure (f.offset, ← sizeOf f.type) : Sem (Array (Nat × Nat))).run Tryd.prog w = .ok #[(0, 1), (1, 1)] w := by
  intro fs h w
  rw [Tryd.underlying25] at h
  cases h
  simp
theorem places111 : ∀ {fs : Array Field}, Tryd.prog.underlying 111 = some (.struct fs) → ∀ w, (fs.mapM fun f => do pure (f.offset, ← sizeOf f.type) : Sem (Array (Nat × Nat))).run Tryd.prog w = .ok #[(0, 1), (1, 1)] w := by
  intro fs h w
  rw [Tryd.underlying111] at h
  cases h
  simp
theorem eq25 (a0 b0 : Int) (a1 b1 : Int) (w : World) : (Op.equalIn 10000 25 (.agg #[.int .i64 a0, .int .i64 a1]) (.agg #[.int .i64 b0, .int .i64 b1])).run Tryd.prog w = .ok (decide (a0 = b0 ∧ a1 = b1)) w := by
  rw [run_equalIn_struct w 9999 25 _ _ (by rw [Program.fieldsOf, Tryd.underlying25]) (by kernel_rfl)]
  rw [Program.fieldsOf, Tryd.underlying25]
  by_cases h0 : a0 = b0 <;> by_cases h1 : a1 = b1 <;> simp [Op.eqFields, part, h0, h1, Tryd.isAgg3, run_equalIn_int _ _ _ _ _ _ _ Tryd.underlying3]
abbrev fault (c i : Int) : Value := .agg #[I c, I i]
theorem fault_spec (c i : Int) : Ct Tryd.prog 33 [I c, I i] (fun _ => True) (fun r _ => r = fault c i) := by
  refine Ct.of Tryd.func33 (enters Tryd.func33 (by kernel_rfl) rfl) rfl rfl rfl ?_
  intro w0 M0 H hp
  refine WC.seq ?_
  refine WC.region ?_
  refine WR.alloc [_, _] H Tryd.zeroValue25 rfl (Wn.none rfl) rfl ?_
  intro b4 w H
  refine WR.nil ?_
  refine WQ.then ?_
  refine WC.seq ?_
  refine WC.region ?_
  refine WR.step (Ex.move rfl) (Wn.none rfl) rfl rfl ?_
  refine WR.step (Ex.move rfl) (Wn.none rfl) rfl rfl ?_
  refine WR.step (Ex.build [_, _] Tryd.underlying25 Tryd.zeroValue25 (places25 Tryd.underlying25) rfl rfl) (Wn.none rfl) rfl rfl ?_
  refine WR.store [_, _] H rfl rfl rfl (by repeat (first | exact Upd.head | apply Upd.tail)) Tryd.sizeOf25 rfl (by rfl) (by rfl) (Wn.none rfl) ?_
  intro w H
  refine WR.nil ?_
  refine WQ.then ?_
  refine WC.ret ?_
  (repeat (first | refine WQ.thenRet ?_ | refine WQ.inBlockRet ?_))
  refine WQ.ret1 rfl ⟨_, rfl, H.loadAgg (by repeat (first | exact List.Mem.head _ | apply List.Mem.tail)) Tryd.isAgg25 Tryd.sizeOf25 (by rfl)⟩ H.ext ?_
  exact rfl

theorem at_spec (c i : Int) : Ct Tryd.prog 14 [I c, I i] (fun _ => True) (fun r _ => r = fault c i) := by
  refine Ct.of Tryd.func14 (enters Tryd.func14 (by kernel_rfl) rfl) rfl rfl rfl ?_
  intro w0 M0 H hp
  refine WC.seq ?_
  refine WC.region ?_
  refine WR.alloc [_, _] H Tryd.zeroValue25 rfl (Wn.none rfl) rfl ?_
  intro b4 w H
  refine WR.nil ?_
  refine WQ.then ?_
  refine WC.seq ?_
  refine WC.region ?_
  refine WR.step (Ex.move rfl) (Wn.none rfl) rfl rfl ?_
  refine WR.step (Ex.move rfl) (Wn.none rfl) rfl rfl ?_
  refine WR.step (Ex.build [_, _] Tryd.underlying25 Tryd.zeroValue25 (places25 Tryd.underlying25) rfl rfl) (Wn.none rfl) rfl rfl ?_
  refine WR.store [_, _] H rfl rfl rfl (by repeat (first | exact Upd.head | apply Upd.tail)) Tryd.sizeOf25 rfl (by rfl) (by rfl) (Wn.none rfl) ?_
  intro w H
  refine WR.nil ?_
  refine WQ.then ?_
  refine WC.ret ?_
  (repeat (first | refine WQ.thenRet ?_ | refine WQ.inBlockRet ?_))
  refine WQ.ret1 rfl ⟨_, rfl, H.loadAgg (by repeat (first | exact List.Mem.head _ | apply List.Mem.tail)) Tryd.isAgg25 Tryd.sizeOf25 (by rfl)⟩ H.ext ?_
  exact rfl

theorem none_spec  : Ct Tryd.prog 36 [] (fun _ => True) (fun r _ => r = fault 0 0) := by
  refine Ct.of Tryd.func36 (enters Tryd.func36 (by kernel_rfl) rfl) rfl rfl rfl ?_
  intro w0 M0 H hp
  refine WC.seq ?_
  refine WC.region ?_
  refine WR.alloc [_, _] H Tryd.zeroValue25 rfl (Wn.none rfl) rfl ?_
  intro b0 w H
  refine WR.nil ?_
  refine WQ.then ?_
  refine WC.seq ?_
  refine WC.region ?_
  refine WR.step (Ex.build [_, _] Tryd.underlying25 Tryd.zeroValue25 (places25 Tryd.underlying25) rfl rfl) (Wn.none rfl) rfl rfl ?_
  refine WR.store [_, _] H rfl rfl rfl (by repeat (first | exact Upd.head | apply Upd.tail)) Tryd.sizeOf25 rfl (by rfl) (by rfl) (Wn.none rfl) ?_
  intro w H
  refine WR.nil ?_
  refine WQ.then ?_
  refine WC.ret ?_
  (repeat (first | refine WQ.thenRet ?_ | refine WQ.inBlockRet ?_))
  refine WQ.ret1 rfl ⟨_, rfl, H.loadAgg (by repeat (first | exact List.Mem.head _ | apply List.Mem.tail)) Tryd.isAgg25 Tryd.sizeOf25 (by rfl)⟩ H.ext ?_
  exact rfl

theorem failed_spec (c i : Int) : Ct Tryd.prog 44 [fault c i] (fun _ => True) (fun r _ => r = .bool (decide (c ≠ 0))) := by
  refine Ct.of Tryd.func44 (enters Tryd.func44 (by kernel_rfl) rfl) rfl rfl rfl ?_
  intro w0 M0 H hp
  refine WC.seq ?_
  refine WC.region ?_
  refine WR.box [_, _] H rfl rfl (Wn.none rfl) rfl ?_
  intro b1 w H
  refine WR.step (Ex.assign rfl) (Wn.none rfl) rfl rfl ?_
  refine WR.nil ?_
  refine WQ.then ?_
  refine WC.seq ?_
  refine WC.region ?_
  refine WR.step (Ex.fieldAddr Tryd.underlying25 rfl Tryd.sizeOf3 (by decide) rfl) (Wn.none rfl) rfl rfl ?_
  first | refine WR.step (Ex.loadM H rfl (by assumption) Tryd.isAgg3) (Wn.none rfl) rfl rfl ?_ | refine WR.step (Ex.load1 H rfl (by repeat (first | exact List.Mem.head _ | apply List.Mem.tail)) Tryd.isAgg3 (by rfl)) (Wn.none rfl) rfl rfl ?_
  refine WR.step (Ex.neq rfl rfl) (Wn.none rfl) rfl rfl ?_
  refine WR.step (Ex.assign rfl) (Wn.none rfl) rfl rfl ?_
  refine WR.nil ?_
  refine WQ.then ?_
  refine WC.ret ?_
  (repeat (first | refine WQ.thenRet ?_ | refine WQ.inBlockRet ?_))
  refine WQ.ret1 rfl rfl H.ext ?_
  exact rfl

theorem in_spec (n lo hi : Int) : Ct Tryd.prog 22 [I n, I lo, I hi] (fun _ => True) (fun r _ => r = .bool (decide (lo ≤ n ∧ n ≤ hi))) := by
  refine Ct.of Tryd.func22 (enters Tryd.func22 (by kernel_rfl) rfl) rfl rfl rfl ?_
  intro w0 M0 H hp
  refine WC.seq ?_
  refine WC.region ?_
  refine WR.step (Ex.assign rfl) (Wn.none rfl) rfl rfl ?_
  refine WR.nil ?_
  refine WQ.then ?_
  refine WC.seq ?_
  refine WC.region ?_
  refine WR.step (Ex.move rfl) (Wn.none rfl) rfl rfl ?_
  refine WR.step (Ex.move rfl) (Wn.none rfl) rfl rfl ?_
  refine WR.split (Ex.geq rfl rfl) (Wn.none rfl) rfl rfl (fun h1_2 => ?_) (fun h1_2 => ?_)
  ·
    refine WR.step (Ex.move rfl) (Wn.none rfl) rfl rfl ?_
    refine WR.step (Ex.move rfl) (Wn.some rfl rfl rfl) rfl rfl ?_
    refine WR.step (Ex.move rfl) (Wn.some rfl rfl rfl) rfl rfl ?_
    refine WR.step (Ex.leq rfl rfl) (Wn.some rfl rfl rfl) rfl rfl ?_
    refine WR.step (Ex.pickT rfl rfl) (Wn.none rfl) rfl rfl ?_
    refine WR.step (Ex.assign rfl) (Wn.none rfl) rfl rfl ?_
    refine WR.nil ?_
    refine WQ.then ?_
    refine WC.ret ?_
    (repeat (first | refine WQ.thenRet ?_ | refine WQ.inBlockRet ?_))
    refine WQ.ret1 rfl rfl H.ext ?_
    exact (by simp [h1_2])
  ·
    refine WR.step (Ex.move rfl) (Wn.none rfl) rfl rfl ?_
    refine WR.skipG (b := false) rfl rfl rfl rfl rfl ?_
    refine WR.skipG (b := false) rfl rfl rfl rfl rfl ?_
    refine WR.skipG (b := false) rfl rfl rfl rfl rfl ?_
    refine WR.step (Ex.pickF rfl rfl) (Wn.none rfl) rfl rfl ?_
    refine WR.step (Ex.assign rfl) (Wn.none rfl) rfl rfl ?_
    refine WR.nil ?_
    refine WQ.then ?_
    refine WC.ret ?_
    (repeat (first | refine WQ.thenRet ?_ | refine WQ.inBlockRet ?_))
    refine WQ.ret1 rfl rfl H.ext ?_
    exact (by simp [h1_2])

theorem bytes_spec (a b : Value) (l m : List UInt8) : Ct Tryd.prog 15 [a, b] (fun M => Bs M a l ∧ Bs M b m) (fun r _ => r = .bool (decide (l = m))) := by
  refine Ct.of Tryd.func15 (enters Tryd.func15 (by kernel_rfl) rfl) rfl rfl rfl ?_
  intro w0 M0 H hp
  obtain ⟨ha, hb⟩ := hp
  refine WC.seq ?_
  refine WC.region ?_
  refine WR.step (Ex.assign rfl) (Wn.none rfl) rfl rfl ?_
  refine WR.nil ?_
  refine WQ.then ?_
  refine WC.seq ?_
  refine WC.region ?_
  refine WR.step (Ex.move rfl) (Wn.none rfl) rfl rfl ?_
  refine WR.step (Ex.toStr Tryd.underlying22 Tryd.underlying5 Tryd.underlying9 H (by assumption) rfl) (Wn.none rfl) rfl rfl ?_
  refine WR.step (Ex.move rfl) (Wn.none rfl) rfl rfl ?_
  refine WR.step (Ex.toStr Tryd.underlying22 Tryd.underlying5 Tryd.underlying9 H (by assumption) rfl) (Wn.none rfl) rfl rfl ?_
  refine WR.step (Ex.strEql rfl rfl) (Wn.none rfl) rfl rfl ?_
  refine WR.step (Ex.assign rfl) (Wn.none rfl) rfl rfl ?_
  refine WR.nil ?_
  refine WQ.then ?_
  refine WC.ret ?_
  (repeat (first | refine WQ.thenRet ?_ | refine WQ.inBlockRet ?_))
  refine WQ.ret1 rfl rfl H.ext ?_
  exact rfl

open Go.Ph.Qp Go.Ph.Chs
abbrev encN (n : Nat) : Value := I (n : Int)
theorem dig_at (n : Nat) : ([48, 49, 50, 51, 52, 53, 54, 55, 56, 57, 65, 66, 67, 68, 69, 70] : List UInt8)[n % 16]? = some (dig n) := by
  have h : n % 16 < 16 := Nat.mod_lt _ (by decide)
  unfold dig
  rw [List.getD_eq_getElem?_getD]
  show digs[n % 16]? = _
  rw [List.getElem?_eq_getElem (show n % 16 < digs.length from h)]; rfl

theorem blank_spec (c : UInt8) : Ct Tryd.prog 51 [encB c] (fun _ => True) (fun r _ => r = .bool (decide (bl c))) := by
  refine Ct.of Tryd.func51 (enters Tryd.func51 (by kernel_rfl) rfl) rfl rfl rfl ?_
  intro w0 M0 H hp
  refine WC.seq ?_
  refine WC.region ?_
  refine WR.step (Ex.assign rfl) (Wn.none rfl) rfl rfl ?_
  refine WR.nil ?_
  refine WQ.then ?_
  refine WC.seq ?_
  refine WC.region ?_
  refine WR.step (Ex.move rfl) (Wn.none rfl) rfl rfl ?_
  refine WR.split (Ex.eql rfl rfl) (Wn.none rfl) rfl rfl (fun h1_1 => ?_) (fun h1_1 => ?_)
  ·
    refine WR.step (Ex.move rfl) (Wn.none rfl) rfl rfl ?_
    refine WR.skipG (b := true) rfl rfl rfl rfl rfl ?_
    refine WR.skipG (b := true) rfl rfl rfl rfl rfl ?_
    refine WR.step (Ex.pickT rfl rfl) (Wn.none rfl) rfl rfl ?_
    refine WR.step (Ex.assign rfl) (Wn.none rfl) rfl rfl ?_
    refine WR.nil ?_
    refine WQ.then ?_
    refine WC.ret ?_
    (repeat (first | refine WQ.thenRet ?_ | refine WQ.inBlockRet ?_))
    refine WQ.ret1 rfl rfl H.ext ?_
    refine congrArg Value.bool ?_
    exact (decide_eq_true (show c.toNat = 32 ∨ c.toNat = 9 by omega)).symm
  ·
    refine WR.step (Ex.move rfl) (Wn.none rfl) rfl rfl ?_
    refine WR.step (Ex.move rfl) (Wn.some rfl rfl rfl) rfl rfl ?_
    refine WR.step (Ex.eql rfl rfl) (Wn.some rfl rfl rfl) rfl rfl ?_
    refine WR.step (Ex.pickF rfl rfl) (Wn.none rfl) rfl rfl ?_
    refine WR.step (Ex.assign rfl) (Wn.none rfl) rfl rfl ?_
    refine WR.nil ?_
    refine WQ.then ?_
    refine WC.ret ?_
    (repeat (first | refine WQ.thenRet ?_ | refine WQ.inBlockRet ?_))
    refine WQ.ret1 rfl rfl H.ext ?_
    refine congrArg Value.bool ?_
    exact decide_eq_decide.2 (show _ ↔ (c.toNat = 32 ∨ c.toNat = 9) by omega)

theorem rblank_spec (c : UInt8) : Ct Tryd.prog 21 [encB c] (fun _ => True) (fun r _ => r = .bool (decide (bl c))) := by
  refine Ct.of Tryd.func21 (enters Tryd.func21 (by kernel_rfl) rfl) rfl rfl rfl ?_
  intro w0 M0 H hp
  refine WC.seq ?_
  refine WC.region ?_
  refine WR.step (Ex.assign rfl) (Wn.none rfl) rfl rfl ?_
  refine WR.nil ?_
  refine WQ.then ?_
  refine WC.seq ?_
  refine WC.region ?_
  refine WR.step (Ex.move rfl) (Wn.none rfl) rfl rfl ?_
  refine WR.split (Ex.eql rfl rfl) (Wn.none rfl) rfl rfl (fun h1_1 => ?_) (fun h1_1 => ?_)
  ·
    refine WR.step (Ex.move rfl) (Wn.none rfl) rfl rfl ?_
    refine WR.skipG (b := true) rfl rfl rfl rfl rfl ?_
    refine WR.skipG (b := true) rfl rfl rfl rfl rfl ?_
    refine WR.step (Ex.pickT rfl rfl) (Wn.none rfl) rfl rfl ?_
    refine WR.step (Ex.assign rfl) (Wn.none rfl) rfl rfl ?_
    refine WR.nil ?_
    refine WQ.then ?_
    refine WC.ret ?_
    (repeat (first | refine WQ.thenRet ?_ | refine WQ.inBlockRet ?_))
    refine WQ.ret1 rfl rfl H.ext ?_
    refine congrArg Value.bool ?_
    exact (decide_eq_true (show c.toNat = 32 ∨ c.toNat = 9 by omega)).symm
  ·
    refine WR.step (Ex.move rfl) (Wn.none rfl) rfl rfl ?_
    refine WR.step (Ex.move rfl) (Wn.some rfl rfl rfl) rfl rfl ?_
    refine WR.step (Ex.eql rfl rfl) (Wn.some rfl rfl rfl) rfl rfl ?_
    refine WR.step (Ex.pickF rfl rfl) (Wn.none rfl) rfl rfl ?_
    refine WR.step (Ex.assign rfl) (Wn.none rfl) rfl rfl ?_
    refine WR.nil ?_
    refine WQ.then ?_
    refine WC.ret ?_
    (repeat (first | refine WQ.thenRet ?_ | refine WQ.inBlockRet ?_))
    refine WQ.ret1 rfl rfl H.ext ?_
    refine congrArg Value.bool ?_
    exact decide_eq_decide.2 (show _ ↔ (c.toNat = 32 ∨ c.toNat = 9) by omega)

theorem digit_spec (m : Nat) (hm : m < 256) : Ct Tryd.prog 55 [.int .u8 (m : Int)] (fun _ => True) (fun r _ => r = encB (dig m)) := by
  refine Ct.of Tryd.func55 (enters Tryd.func55 (by kernel_rfl) rfl) rfl rfl rfl ?_
  intro w0 M0 H hp
  refine WC.seq ?_
  refine WC.region ?_
  refine WR.step (Ex.assign rfl) (Wn.none rfl) rfl rfl ?_
  refine WR.nil ?_
  refine WQ.then ?_
  refine WC.seq ?_
  refine WC.region ?_
  refine WR.step (Ex.move rfl) (Wn.none rfl) rfl rfl ?_
  refine WR.stepE (v' := .int .u8 ((m % 16 : Nat) : Int)) (Ex.andK (m := m) (s := 15) rfl rfl (by first | decide | (show _ < 256; omega) | (show _ < 4294967296; omega) | (show _ < 18446744073709551616; omega)) (by first | decide | (show _ < 256; omega) | (show _ < 4294967296; omega) | (show _ < 18446744073709551616; omega))) (congrArg (Value.int .u8) (by rw [Nat.and_two_pow_sub_one_eq_mod m 4]; exact u8_in (by omega))) (Wn.none rfl) rfl rfl ?_
  refine WR.step (Ex.idxStr Tryd.underlying9 rfl rfl (dig_at m)) (Wn.none rfl) rfl rfl ?_
  refine WR.step (Ex.assign rfl) (Wn.none rfl) rfl rfl ?_
  refine WR.nil ?_
  refine WQ.then ?_
  refine WC.ret ?_
  (repeat (first | refine WQ.thenRet ?_ | refine WQ.inBlockRet ?_))
  refine WQ.ret1 rfl rfl H.ext ?_
  exact rfl

theorem take_two {l : List UInt8} {a b : UInt8} (ha : l[0]? = some a) (hb : l[1]? = some b) : l.take 2 = [a, b] := by
  match l, ha, hb with
  | x :: y :: r, ha, hb => simp at ha hb; rw [ha, hb]; rfl

theorem line_spec (v : Value) (l : List UInt8) : Ct Tryd.prog 34 [v] (fun M => Bs M v l) (fun r _ => r = .bool (decide (lineAt l))) := by
  refine Ct.of Tryd.func34 (enters Tryd.func34 (by kernel_rfl) rfl) rfl rfl rfl ?_
  intro w0 M0 H hp
  refine WC.seq ?_
  refine WC.region ?_
  refine WR.step (Ex.assign rfl) (Wn.none rfl) rfl rfl ?_
  refine WR.nil ?_
  refine WQ.then ?_
  refine WC.seq ?_
  refine WC.region ?_
  refine WR.step (Ex.move rfl) (Wn.none rfl) rfl rfl ?_
  first | refine WR.step (Ex.lenSl Tryd.underlying22 (by assumption) rfl) (Wn.none rfl) rfl rfl ?_ | refine WR.step (Ex.lenRow Tryd.underlying22 H (by repeat (first | exact List.Mem.head _ | apply List.Mem.tail)) rfl) (Wn.none rfl) rfl rfl ?_ | refine WR.step (Ex.lenSlice Tryd.underlying22 rfl) (Wn.none rfl) rfl rfl ?_
  refine WR.split (Ex.geq rfl rfl) (Wn.none rfl) rfl rfl (fun h1_2 => ?_) (fun h1_2 => ?_)
  ·
    obtain ⟨a, ha⟩ : ∃ a, l[0]? = some a := ⟨_, List.getElem?_eq_getElem (by omega)⟩
    obtain ⟨b, hb⟩ : ∃ b, l[1]? = some b := ⟨_, List.getElem?_eq_getElem (by omega)⟩
    have htk : l.take 2 = [a, b] := take_two ha hb
    refine WR.step (Ex.move rfl) (Wn.none rfl) rfl rfl ?_
    refine WR.step (Ex.move rfl) (Wn.some rfl rfl rfl) rfl rfl ?_
    refine WR.idxSl Tryd.underlying22 Tryd.sizeOf5 (by assumption) rfl rfl (ha) (Wn.some rfl rfl rfl) rfl ?_
    intro p8 hc8
    first | refine WR.step (Ex.loadM H rfl (by assumption) Tryd.isAgg5) (Wn.some rfl rfl rfl) rfl rfl ?_ | refine WR.step (Ex.load1 H rfl (by repeat (first | exact List.Mem.head _ | apply List.Mem.tail)) Tryd.isAgg5 (by rfl)) (Wn.some rfl rfl rfl) rfl rfl ?_
    refine WR.split (Ex.eql rfl rfl) (Wn.some rfl rfl rfl) rfl rfl (fun h1_7 => ?_) (fun h1_7 => ?_)
    ·
      refine WR.step (Ex.pickT rfl rfl) (Wn.none rfl) rfl rfl ?_
      refine WR.step (Ex.move rfl) (Wn.none rfl) rfl rfl ?_
      refine WR.step (Ex.move rfl) (Wn.some rfl rfl rfl) rfl rfl ?_
      refine WR.idxSl Tryd.underlying22 Tryd.sizeOf5 (by assumption) rfl rfl (hb) (Wn.some rfl rfl rfl) rfl ?_
      intro p14 hc14
      first | refine WR.step (Ex.loadM H rfl (by assumption) Tryd.isAgg5) (Wn.some rfl rfl rfl) rfl rfl ?_ | refine WR.step (Ex.load1 H rfl (by repeat (first | exact List.Mem.head _ | apply List.Mem.tail)) Tryd.isAgg5 (by rfl)) (Wn.some rfl rfl rfl) rfl rfl ?_
      refine WR.step (Ex.eql rfl rfl) (Wn.some rfl rfl rfl) rfl rfl ?_
      refine WR.step (Ex.pickT rfl rfl) (Wn.none rfl) rfl rfl ?_
      refine WR.step (Ex.assign rfl) (Wn.none rfl) rfl rfl ?_
      refine WR.nil ?_
      refine WQ.then ?_
      refine WC.ret ?_
      (repeat (first | refine WQ.thenRet ?_ | refine WQ.inBlockRet ?_))
      refine WQ.ret1 rfl rfl H.ext ?_
      refine congrArg Value.bool ?_
      refine decide_eq_decide.2 ?_
      rw [show lineAt l = (l.take 2 = [13, 10]) from rfl, htk]
      constructor
      · intro h
        have h1 : a = 13 := UInt8.toNat_inj.1 (show a.toNat = 13 by omega)
        have h2 : b = 10 := UInt8.toNat_inj.1 (show b.toNat = 10 by omega)
        rw [h1, h2]
      · intro h
        cases h
        rfl
    ·
      refine WR.step (Ex.pickT rfl rfl) (Wn.none rfl) rfl rfl ?_
      refine WR.step (Ex.move rfl) (Wn.none rfl) rfl rfl ?_
      refine WR.skipG (b := false) rfl rfl rfl rfl rfl ?_
      refine WR.skipG (b := false) rfl rfl rfl rfl rfl ?_
      refine WR.skipG (b := false) rfl rfl rfl rfl rfl ?_
      refine WR.skipG (b := false) rfl rfl rfl rfl rfl ?_
      refine WR.step (Ex.pickF rfl rfl) (Wn.none rfl) rfl rfl ?_
      refine WR.step (Ex.assign rfl) (Wn.none rfl) rfl rfl ?_
      refine WR.nil ?_
      refine WQ.then ?_
      refine WC.ret ?_
      (repeat (first | refine WQ.thenRet ?_ | refine WQ.inBlockRet ?_))
      refine WQ.ret1 rfl rfl H.ext ?_
      refine congrArg Value.bool ?_
      exact (decide_eq_false (fun h => by have h : l.take 2 = [13, 10] := h; rw [htk] at h; cases h; exact h1_7 rfl)).symm
  ·
    refine WR.step (Ex.move rfl) (Wn.none rfl) rfl rfl ?_
    refine WR.skipG (b := false) rfl rfl rfl rfl rfl ?_
    refine WR.skipG (b := false) rfl rfl rfl rfl rfl ?_
    refine WR.skipG (b := false) rfl rfl rfl rfl rfl ?_
    refine WR.skipG (b := false) rfl rfl rfl rfl rfl ?_
    refine WR.step (Ex.pickF rfl rfl) (Wn.none rfl) rfl rfl ?_
    refine WR.step (Ex.move rfl) (Wn.none rfl) rfl rfl ?_
    refine WR.skipG (b := false) rfl rfl rfl rfl rfl ?_
    refine WR.skipG (b := false) rfl rfl rfl rfl rfl ?_
    refine WR.skipG (b := false) rfl rfl rfl rfl rfl ?_
    refine WR.skipG (b := false) rfl rfl rfl rfl rfl ?_
    refine WR.step (Ex.pickF rfl rfl) (Wn.none rfl) rfl rfl ?_
    refine WR.step (Ex.assign rfl) (Wn.none rfl) rfl rfl ?_
    refine WR.nil ?_
    refine WQ.then ?_
    refine WC.ret ?_
    (repeat (first | refine WQ.thenRet ?_ | refine WQ.inBlockRet ?_))
    refine WQ.ret1 rfl rfl H.ext ?_
    refine congrArg Value.bool ?_
    exact (decide_eq_false (fun h => by have := congrArg List.length h; rw [List.length_take] at this; simp at this; omega)).symm

theorem sign_spec (c : UInt8) (v : Value) (l : List UInt8) : Ct Tryd.prog 35 [encB c, v] (fun M => Bs M v l) (fun r M => Bs M r (sg c l)) := by
  refine Ct.of Tryd.func35 (enters Tryd.func35 (by kernel_rfl) rfl) rfl rfl rfl ?_
  intro w0 M0 H hp
  have hclt := c.toNat_lt
  refine WC.seq ?_
  refine WC.region ?_
  refine WR.step (Ex.assign rfl) (Wn.none rfl) rfl rfl ?_
  refine WR.nil ?_
  refine WQ.then ?_
  refine WC.seq ?_
  refine WC.region ?_
  refine WR.step (Ex.move rfl) (Wn.none rfl) rfl rfl ?_
  first | refine WR.step (Ex.lenSl Tryd.underlying22 (by assumption) rfl) (Wn.none rfl) rfl rfl ?_ | refine WR.step (Ex.lenRow Tryd.underlying22 H (by repeat (first | exact List.Mem.head _ | apply List.Mem.tail)) rfl) (Wn.none rfl) rfl rfl ?_ | refine WR.step (Ex.lenSlice Tryd.underlying22 rfl) (Wn.none rfl) rfl rfl ?_
  refine WR.split (Ex.eql rfl rfl) (Wn.none rfl) rfl rfl (fun h1_2 => ?_) (fun h1_2 => ?_)
  ·
    have hend : l = [] ∨ lineAt l := .inl (List.eq_nil_of_length_eq_zero (by omega))
    refine WR.step (Ex.move rfl) (Wn.none rfl) rfl rfl ?_
    refine WR.skipG (b := true) rfl rfl rfl rfl rfl ?_
    refine WR.skipG (b := true) rfl rfl rfl rfl rfl ?_
    refine WR.step (Ex.pickT rfl rfl) (Wn.none rfl) rfl rfl ?_
    refine WR.step (Ex.assign rfl) (Wn.none rfl) rfl rfl ?_
    refine WR.nil ?_
    refine WQ.then ?_
    refine WC.seq ?_
    refine WC.seq ?_
    refine WC.region ?_
    refine WR.step (Ex.move rfl) (Wn.none rfl) rfl rfl ?_
    refine WR.split (Ex.geq rfl rfl) (Wn.none rfl) rfl rfl (fun h2_1 => ?_) (fun h2_1 => ?_)
    ·
      refine WR.step (Ex.move rfl) (Wn.none rfl) rfl rfl ?_
      refine WR.step (Ex.move rfl) (Wn.some rfl rfl rfl) rfl rfl ?_
      refine WR.split (Ex.leq rfl rfl) (Wn.some rfl rfl rfl) rfl rfl (fun h2_4 => ?_) (fun h2_4 => ?_)
      ·
        refine WR.step (Ex.pickT rfl rfl) (Wn.none rfl) rfl rfl ?_
        refine WR.step (Ex.move rfl) (Wn.none rfl) rfl rfl ?_
        refine WR.step (Ex.move rfl) (Wn.some rfl rfl rfl) rfl rfl ?_
        refine WR.split (Ex.neq rfl rfl) (Wn.some rfl rfl rfl) rfl rfl (fun h2_8 => ?_) (fun h2_8 => ?_)
        ·
          refine WR.step (Ex.pickT rfl rfl) (Wn.none rfl) rfl rfl ?_
          refine WR.step (Ex.move rfl) (Wn.none rfl) rfl rfl ?_
          refine WR.skipG (b := true) rfl rfl rfl rfl rfl ?_
          refine WR.skipG (b := true) rfl rfl rfl rfl rfl ?_
          refine WR.skipG (b := true) rfl rfl rfl rfl rfl ?_
          refine WR.skipU rfl rfl rfl rfl rfl ?_
          refine WR.skipU rfl rfl rfl rfl rfl ?_
          refine WR.skipG (b := true) rfl rfl rfl rfl rfl ?_
          refine WR.step (Ex.pickT rfl rfl) (Wn.none rfl) rfl rfl ?_
          refine WR.nil ?_
          refine WQ.then ?_
          refine WC.condT rfl ?_
          refine WC.seq ?_
          refine WC.region ?_
          refine WR.step (Ex.move rfl) (Wn.none rfl) rfl rfl ?_
          refine WR.lit (enc := encB) ty22 [_] H rfl (by rfl) (fun _ => rfl) rfl rfl (Wn.none rfl) rfl ?_
          intro v32 M w H hle hl32
          replace hp := hp.mono hle
          refine WR.step (Ex.assign rfl) (Wn.none rfl) rfl rfl ?_
          refine WR.nil ?_
          refine WQ.then ?_
          refine WC.ret ?_
          (repeat (first | refine WQ.thenRet ?_ | refine WQ.inBlockRet ?_))
          refine WQ.ret1 rfl rfl H.ext ?_
          refine ?_
          unfold sg
          rw [if_pos (by first | exact .inl (by omega) | exact .inr ⟨by assumption, hend⟩)]
          exact hl32
        ·
          refine WR.step (Ex.pickT rfl rfl) (Wn.none rfl) rfl rfl ?_
          refine WR.step (Ex.move rfl) (Wn.none rfl) rfl rfl ?_
          refine WR.step (Ex.move rfl) (Wn.some rfl rfl rfl) rfl rfl ?_
          refine WR.callB H (blank_spec _) rfl (trivial) (Wn.some rfl rfl rfl) rfl (fun h2_12 => ?_) (fun h2_12 => ?_)
          ·
            intro M w H hle
            replace hp := hp.mono hle
            refine WR.step (Ex.move rfl) (Wn.some rfl rfl rfl) rfl rfl ?_
            refine WR.step (Ex.move rfl) (Wn.some rfl rfl rfl) rfl rfl ?_
            refine WR.step (Ex.notT rfl) (Wn.some rfl rfl rfl) rfl rfl ?_
            refine WR.step (Ex.pickT rfl rfl) (Wn.some rfl rfl rfl) rfl rfl ?_
            refine WR.step (Ex.pickF rfl rfl) (Wn.none rfl) rfl rfl ?_
            refine WR.nil ?_
            refine WQ.then ?_
            refine WC.condF rfl ?_
            refine WC.skip ?_
            refine WQ.then ?_
            refine WC.seq ?_
            refine WC.region ?_
            refine WR.step (Ex.move rfl) (Wn.none rfl) rfl rfl ?_
            refine WR.step (Ex.shrN (m := c.toNat) (s := 4) rfl rfl (by first | (show _ ≤ 64; omega) | (show _ ≤ 8; omega) | decide)) (Wn.none rfl) rfl rfl ?_
            refine WR.call H (digit_spec (c.toNat / 2 ^ 4) (by omega)) rfl (trivial) (Wn.none rfl) rfl ?_
            intro v35 M w H hle hr35
            replace hp := hp.mono hle
            obtain rfl := hr35
            refine WR.step (Ex.move rfl) (Wn.none rfl) rfl rfl ?_
            refine WR.call H (digit_spec c.toNat (by omega)) rfl (trivial) (Wn.none rfl) rfl ?_
            intro v37 M w H hle hr37
            replace hp := hp.mono hle
            obtain rfl := hr37
            refine WR.lit (enc := encB) ty22 [61, dig (c.toNat / 2 ^ 4), dig c.toNat] H rfl (by rfl) (fun _ => rfl) rfl rfl (Wn.none rfl) rfl ?_
            intro v38 M w H hle hl38
            replace hp := hp.mono hle
            refine WR.step (Ex.assign rfl) (Wn.none rfl) rfl rfl ?_
            refine WR.nil ?_
            refine WQ.then ?_
            refine WC.ret ?_
            (repeat (first | refine WQ.thenRet ?_ | refine WQ.inBlockRet ?_))
            refine WQ.ret1 rfl rfl H.ext ?_
            refine ?_
            unfold sg hex
            rw [if_neg (by
              intro h
              rcases h with h | h
              · omega
              · first | exact absurd h.1 (by assumption) | exact h.2 hend)]
            exact hl38
          ·
            intro M w H hle
            replace hp := hp.mono hle
            refine WR.step (Ex.move rfl) (Wn.some rfl rfl rfl) rfl rfl ?_
            refine WR.skipG (b := false) rfl rfl rfl rfl rfl ?_
            refine WR.skipG (b := false) rfl rfl rfl rfl rfl ?_
            refine WR.step (Ex.pickF rfl rfl) (Wn.some rfl rfl rfl) rfl rfl ?_
            refine WR.step (Ex.pickF rfl rfl) (Wn.none rfl) rfl rfl ?_
            refine WR.nil ?_
            refine WQ.then ?_
            refine WC.condF rfl ?_
            refine WC.skip ?_
            refine WQ.then ?_
            refine WC.seq ?_
            refine WC.region ?_
            refine WR.step (Ex.move rfl) (Wn.none rfl) rfl rfl ?_
            refine WR.step (Ex.shrN (m := c.toNat) (s := 4) rfl rfl (by first | (show _ ≤ 64; omega) | (show _ ≤ 8; omega) | decide)) (Wn.none rfl) rfl rfl ?_
            refine WR.call H (digit_spec (c.toNat / 2 ^ 4) (by omega)) rfl (trivial) (Wn.none rfl) rfl ?_
            intro v35 M w H hle hr35
            replace hp := hp.mono hle
            obtain rfl := hr35
            refine WR.step (Ex.move rfl) (Wn.none rfl) rfl rfl ?_
            refine WR.call H (digit_spec c.toNat (by omega)) rfl (trivial) (Wn.none rfl) rfl ?_
            intro v37 M w H hle hr37
            replace hp := hp.mono hle
            obtain rfl := hr37
            refine WR.lit (enc := encB) ty22 [61, dig (c.toNat / 2 ^ 4), dig c.toNat] H rfl (by rfl) (fun _ => rfl) rfl rfl (Wn.none rfl) rfl ?_
            intro v38 M w H hle hl38
            replace hp := hp.mono hle
            refine WR.step (Ex.assign rfl) (Wn.none rfl) rfl rfl ?_
            refine WR.nil ?_
            refine WQ.then ?_
            refine WC.ret ?_
            (repeat (first | refine WQ.thenRet ?_ | refine WQ.inBlockRet ?_))
            refine WQ.ret1 rfl rfl H.ext ?_
            refine ?_
            unfold sg hex
            rw [if_neg (by
              intro h
              rcases h with h | h
              · omega
              · first | exact absurd h.1 (by assumption) | exact h.2 hend)]
            exact hl38
      ·
        refine WR.step (Ex.pickT rfl rfl) (Wn.none rfl) rfl rfl ?_
        refine WR.step (Ex.move rfl) (Wn.none rfl) rfl rfl ?_
        refine WR.skipG (b := false) rfl rfl rfl rfl rfl ?_
        refine WR.skipG (b := false) rfl rfl rfl rfl rfl ?_
        refine WR.step (Ex.pickF rfl rfl) (Wn.none rfl) rfl rfl ?_
        refine WR.step (Ex.move rfl) (Wn.none rfl) rfl rfl ?_
        refine WR.step (Ex.move rfl) (Wn.some rfl rfl rfl) rfl rfl ?_
        refine WR.callB H (blank_spec _) rfl (trivial) (Wn.some rfl rfl rfl) rfl (fun h2_12 => ?_) (fun h2_12 => ?_)
        ·
          intro M w H hle
          replace hp := hp.mono hle
          refine WR.step (Ex.move rfl) (Wn.some rfl rfl rfl) rfl rfl ?_
          refine WR.step (Ex.move rfl) (Wn.some rfl rfl rfl) rfl rfl ?_
          refine WR.step (Ex.notT rfl) (Wn.some rfl rfl rfl) rfl rfl ?_
          refine WR.step (Ex.pickT rfl rfl) (Wn.some rfl rfl rfl) rfl rfl ?_
          refine WR.step (Ex.pickF rfl rfl) (Wn.none rfl) rfl rfl ?_
          refine WR.nil ?_
          refine WQ.then ?_
          refine WC.condF rfl ?_
          refine WC.skip ?_
          refine WQ.then ?_
          refine WC.seq ?_
          refine WC.region ?_
          refine WR.step (Ex.move rfl) (Wn.none rfl) rfl rfl ?_
          refine WR.step (Ex.shrN (m := c.toNat) (s := 4) rfl rfl (by first | (show _ ≤ 64; omega) | (show _ ≤ 8; omega) | decide)) (Wn.none rfl) rfl rfl ?_
          refine WR.call H (digit_spec (c.toNat / 2 ^ 4) (by omega)) rfl (trivial) (Wn.none rfl) rfl ?_
          intro v35 M w H hle hr35
          replace hp := hp.mono hle
          obtain rfl := hr35
          refine WR.step (Ex.move rfl) (Wn.none rfl) rfl rfl ?_
          refine WR.call H (digit_spec c.toNat (by omega)) rfl (trivial) (Wn.none rfl) rfl ?_
          intro v37 M w H hle hr37
          replace hp := hp.mono hle
          obtain rfl := hr37
          refine WR.lit (enc := encB) ty22 [61, dig (c.toNat / 2 ^ 4), dig c.toNat] H rfl (by rfl) (fun _ => rfl) rfl rfl (Wn.none rfl) rfl ?_
          intro v38 M w H hle hl38
          replace hp := hp.mono hle
          refine WR.step (Ex.assign rfl) (Wn.none rfl) rfl rfl ?_
          refine WR.nil ?_
          refine WQ.then ?_
          refine WC.ret ?_
          (repeat (first | refine WQ.thenRet ?_ | refine WQ.inBlockRet ?_))
          refine WQ.ret1 rfl rfl H.ext ?_
          refine ?_
          unfold sg hex
          rw [if_neg (by
            intro h
            rcases h with h | h
            · omega
            · first | exact absurd h.1 (by assumption) | exact h.2 hend)]
          exact hl38
        ·
          intro M w H hle
          replace hp := hp.mono hle
          refine WR.step (Ex.move rfl) (Wn.some rfl rfl rfl) rfl rfl ?_
          refine WR.skipG (b := false) rfl rfl rfl rfl rfl ?_
          refine WR.skipG (b := false) rfl rfl rfl rfl rfl ?_
          refine WR.step (Ex.pickF rfl rfl) (Wn.some rfl rfl rfl) rfl rfl ?_
          refine WR.step (Ex.pickF rfl rfl) (Wn.none rfl) rfl rfl ?_
          refine WR.nil ?_
          refine WQ.then ?_
          refine WC.condF rfl ?_
          refine WC.skip ?_
          refine WQ.then ?_
          refine WC.seq ?_
          refine WC.region ?_
          refine WR.step (Ex.move rfl) (Wn.none rfl) rfl rfl ?_
          refine WR.step (Ex.shrN (m := c.toNat) (s := 4) rfl rfl (by first | (show _ ≤ 64; omega) | (show _ ≤ 8; omega) | decide)) (Wn.none rfl) rfl rfl ?_
          refine WR.call H (digit_spec (c.toNat / 2 ^ 4) (by omega)) rfl (trivial) (Wn.none rfl) rfl ?_
          intro v35 M w H hle hr35
          replace hp := hp.mono hle
          obtain rfl := hr35
          refine WR.step (Ex.move rfl) (Wn.none rfl) rfl rfl ?_
          refine WR.call H (digit_spec c.toNat (by omega)) rfl (trivial) (Wn.none rfl) rfl ?_
          intro v37 M w H hle hr37
          replace hp := hp.mono hle
          obtain rfl := hr37
          refine WR.lit (enc := encB) ty22 [61, dig (c.toNat / 2 ^ 4), dig c.toNat] H rfl (by rfl) (fun _ => rfl) rfl rfl (Wn.none rfl) rfl ?_
          intro v38 M w H hle hl38
          replace hp := hp.mono hle
          refine WR.step (Ex.assign rfl) (Wn.none rfl) rfl rfl ?_
          refine WR.nil ?_
          refine WQ.then ?_
          refine WC.ret ?_
          (repeat (first | refine WQ.thenRet ?_ | refine WQ.inBlockRet ?_))
          refine WQ.ret1 rfl rfl H.ext ?_
          refine ?_
          unfold sg hex
          rw [if_neg (by
            intro h
            rcases h with h | h
            · omega
            · first | exact absurd h.1 (by assumption) | exact h.2 hend)]
          exact hl38
    ·
      refine WR.step (Ex.move rfl) (Wn.none rfl) rfl rfl ?_
      refine WR.skipG (b := false) rfl rfl rfl rfl rfl ?_
      refine WR.skipG (b := false) rfl rfl rfl rfl rfl ?_
      refine WR.step (Ex.pickF rfl rfl) (Wn.none rfl) rfl rfl ?_
      refine WR.step (Ex.move rfl) (Wn.none rfl) rfl rfl ?_
      refine WR.skipG (b := false) rfl rfl rfl rfl rfl ?_
      refine WR.skipG (b := false) rfl rfl rfl rfl rfl ?_
      refine WR.step (Ex.pickF rfl rfl) (Wn.none rfl) rfl rfl ?_
      refine WR.step (Ex.move rfl) (Wn.none rfl) rfl rfl ?_
      refine WR.step (Ex.move rfl) (Wn.some rfl rfl rfl) rfl rfl ?_
      refine WR.callB H (blank_spec _) rfl (trivial) (Wn.some rfl rfl rfl) rfl (fun h2_12 => ?_) (fun h2_12 => ?_)
      ·
        intro M w H hle
        replace hp := hp.mono hle
        refine WR.step (Ex.move rfl) (Wn.some rfl rfl rfl) rfl rfl ?_
        refine WR.step (Ex.move rfl) (Wn.some rfl rfl rfl) rfl rfl ?_
        refine WR.step (Ex.notT rfl) (Wn.some rfl rfl rfl) rfl rfl ?_
        refine WR.step (Ex.pickT rfl rfl) (Wn.some rfl rfl rfl) rfl rfl ?_
        refine WR.step (Ex.pickF rfl rfl) (Wn.none rfl) rfl rfl ?_
        refine WR.nil ?_
        refine WQ.then ?_
        refine WC.condF rfl ?_
        refine WC.skip ?_
        refine WQ.then ?_
        refine WC.seq ?_
        refine WC.region ?_
        refine WR.step (Ex.move rfl) (Wn.none rfl) rfl rfl ?_
        refine WR.step (Ex.shrN (m := c.toNat) (s := 4) rfl rfl (by first | (show _ ≤ 64; omega) | (show _ ≤ 8; omega) | decide)) (Wn.none rfl) rfl rfl ?_
        refine WR.call H (digit_spec (c.toNat / 2 ^ 4) (by omega)) rfl (trivial) (Wn.none rfl) rfl ?_
        intro v35 M w H hle hr35
        replace hp := hp.mono hle
        obtain rfl := hr35
        refine WR.step (Ex.move rfl) (Wn.none rfl) rfl rfl ?_
        refine WR.call H (digit_spec c.toNat (by omega)) rfl (trivial) (Wn.none rfl) rfl ?_
        intro v37 M w H hle hr37
        replace hp := hp.mono hle
        obtain rfl := hr37
        refine WR.lit (enc := encB) ty22 [61, dig (c.toNat / 2 ^ 4), dig c.toNat] H rfl (by rfl) (fun _ => rfl) rfl rfl (Wn.none rfl) rfl ?_
        intro v38 M w H hle hl38
        replace hp := hp.mono hle
        refine WR.step (Ex.assign rfl) (Wn.none rfl) rfl rfl ?_
        refine WR.nil ?_
        refine WQ.then ?_
        refine WC.ret ?_
        (repeat (first | refine WQ.thenRet ?_ | refine WQ.inBlockRet ?_))
        refine WQ.ret1 rfl rfl H.ext ?_
        refine ?_
        unfold sg hex
        rw [if_neg (by
          intro h
          rcases h with h | h
          · omega
          · first | exact absurd h.1 (by assumption) | exact h.2 hend)]
        exact hl38
      ·
        intro M w H hle
        replace hp := hp.mono hle
        refine WR.step (Ex.move rfl) (Wn.some rfl rfl rfl) rfl rfl ?_
        refine WR.skipG (b := false) rfl rfl rfl rfl rfl ?_
        refine WR.skipG (b := false) rfl rfl rfl rfl rfl ?_
        refine WR.step (Ex.pickF rfl rfl) (Wn.some rfl rfl rfl) rfl rfl ?_
        refine WR.step (Ex.pickF rfl rfl) (Wn.none rfl) rfl rfl ?_
        refine WR.nil ?_
        refine WQ.then ?_
        refine WC.condF rfl ?_
        refine WC.skip ?_
        refine WQ.then ?_
        refine WC.seq ?_
        refine WC.region ?_
        refine WR.step (Ex.move rfl) (Wn.none rfl) rfl rfl ?_
        refine WR.step (Ex.shrN (m := c.toNat) (s := 4) rfl rfl (by first | (show _ ≤ 64; omega) | (show _ ≤ 8; omega) | decide)) (Wn.none rfl) rfl rfl ?_
        refine WR.call H (digit_spec (c.toNat / 2 ^ 4) (by omega)) rfl (trivial) (Wn.none rfl) rfl ?_
        intro v35 M w H hle hr35
        replace hp := hp.mono hle
        obtain rfl := hr35
        refine WR.step (Ex.move rfl) (Wn.none rfl) rfl rfl ?_
        refine WR.call H (digit_spec c.toNat (by omega)) rfl (trivial) (Wn.none rfl) rfl ?_
        intro v37 M w H hle hr37
        replace hp := hp.mono hle
        obtain rfl := hr37
        refine WR.lit (enc := encB) ty22 [61, dig (c.toNat / 2 ^ 4), dig c.toNat] H rfl (by rfl) (fun _ => rfl) rfl rfl (Wn.none rfl) rfl ?_
        intro v38 M w H hle hl38
        replace hp := hp.mono hle
        refine WR.step (Ex.assign rfl) (Wn.none rfl) rfl rfl ?_
        refine WR.nil ?_
        refine WQ.then ?_
        refine WC.ret ?_
        (repeat (first | refine WQ.thenRet ?_ | refine WQ.inBlockRet ?_))
        refine WQ.ret1 rfl rfl H.ext ?_
        refine ?_
        unfold sg hex
        rw [if_neg (by
          intro h
          rcases h with h | h
          · omega
          · first | exact absurd h.1 (by assumption) | exact h.2 hend)]
        exact hl38
  ·
    refine WR.step (Ex.move rfl) (Wn.none rfl) rfl rfl ?_
    refine WR.step (Ex.move rfl) (Wn.some rfl rfl rfl) rfl rfl ?_
    refine WR.callB H (line_spec _ _) rfl (by assumption) (Wn.some rfl rfl rfl) rfl (fun h1_5 => ?_) (fun h1_5 => ?_)
    ·
      intro M w H hle
      replace hp := hp.mono hle
      have hend : l = [] ∨ lineAt l := .inr h1_5
      refine WR.step (Ex.pickF rfl rfl) (Wn.none rfl) rfl rfl ?_
      refine WR.step (Ex.assign rfl) (Wn.none rfl) rfl rfl ?_
      refine WR.nil ?_
      refine WQ.then ?_
      refine WC.seq ?_
      refine WC.seq ?_
      refine WC.region ?_
      refine WR.step (Ex.move rfl) (Wn.none rfl) rfl rfl ?_
      refine WR.split (Ex.geq rfl rfl) (Wn.none rfl) rfl rfl (fun h2_1 => ?_) (fun h2_1 => ?_)
      ·
        refine WR.step (Ex.move rfl) (Wn.none rfl) rfl rfl ?_
        refine WR.step (Ex.move rfl) (Wn.some rfl rfl rfl) rfl rfl ?_
        refine WR.split (Ex.leq rfl rfl) (Wn.some rfl rfl rfl) rfl rfl (fun h2_4 => ?_) (fun h2_4 => ?_)
        ·
          refine WR.step (Ex.pickT rfl rfl) (Wn.none rfl) rfl rfl ?_
          refine WR.step (Ex.move rfl) (Wn.none rfl) rfl rfl ?_
          refine WR.step (Ex.move rfl) (Wn.some rfl rfl rfl) rfl rfl ?_
          refine WR.split (Ex.neq rfl rfl) (Wn.some rfl rfl rfl) rfl rfl (fun h2_8 => ?_) (fun h2_8 => ?_)
          ·
            refine WR.step (Ex.pickT rfl rfl) (Wn.none rfl) rfl rfl ?_
            refine WR.step (Ex.move rfl) (Wn.none rfl) rfl rfl ?_
            refine WR.skipG (b := true) rfl rfl rfl rfl rfl ?_
            refine WR.skipG (b := true) rfl rfl rfl rfl rfl ?_
            refine WR.skipG (b := true) rfl rfl rfl rfl rfl ?_
            refine WR.skipU rfl rfl rfl rfl rfl ?_
            refine WR.skipU rfl rfl rfl rfl rfl ?_
            refine WR.skipG (b := true) rfl rfl rfl rfl rfl ?_
            refine WR.step (Ex.pickT rfl rfl) (Wn.none rfl) rfl rfl ?_
            refine WR.nil ?_
            refine WQ.then ?_
            refine WC.condT rfl ?_
            refine WC.seq ?_
            refine WC.region ?_
            refine WR.step (Ex.move rfl) (Wn.none rfl) rfl rfl ?_
            refine WR.lit (enc := encB) ty22 [_] H rfl (by rfl) (fun _ => rfl) rfl rfl (Wn.none rfl) rfl ?_
            intro v32 M w H hle hl32
            replace hp := hp.mono hle
            refine WR.step (Ex.assign rfl) (Wn.none rfl) rfl rfl ?_
            refine WR.nil ?_
            refine WQ.then ?_
            refine WC.ret ?_
            (repeat (first | refine WQ.thenRet ?_ | refine WQ.inBlockRet ?_))
            refine WQ.ret1 rfl rfl H.ext ?_
            refine ?_
            unfold sg
            rw [if_pos (by first | exact .inl (by omega) | exact .inr ⟨by assumption, hend⟩)]
            exact hl32
          ·
            refine WR.step (Ex.pickT rfl rfl) (Wn.none rfl) rfl rfl ?_
            refine WR.step (Ex.move rfl) (Wn.none rfl) rfl rfl ?_
            refine WR.step (Ex.move rfl) (Wn.some rfl rfl rfl) rfl rfl ?_
            refine WR.callB H (blank_spec _) rfl (trivial) (Wn.some rfl rfl rfl) rfl (fun h2_12 => ?_) (fun h2_12 => ?_)
            ·
              intro M w H hle
              replace hp := hp.mono hle
              refine WR.step (Ex.move rfl) (Wn.some rfl rfl rfl) rfl rfl ?_
              refine WR.step (Ex.move rfl) (Wn.some rfl rfl rfl) rfl rfl ?_
              refine WR.step (Ex.notT rfl) (Wn.some rfl rfl rfl) rfl rfl ?_
              refine WR.step (Ex.pickT rfl rfl) (Wn.some rfl rfl rfl) rfl rfl ?_
              refine WR.step (Ex.pickF rfl rfl) (Wn.none rfl) rfl rfl ?_
              refine WR.nil ?_
              refine WQ.then ?_
              refine WC.condF rfl ?_
              refine WC.skip ?_
              refine WQ.then ?_
              refine WC.seq ?_
              refine WC.region ?_
              refine WR.step (Ex.move rfl) (Wn.none rfl) rfl rfl ?_
              refine WR.step (Ex.shrN (m := c.toNat) (s := 4) rfl rfl (by first | (show _ ≤ 64; omega) | (show _ ≤ 8; omega) | decide)) (Wn.none rfl) rfl rfl ?_
              refine WR.call H (digit_spec (c.toNat / 2 ^ 4) (by omega)) rfl (trivial) (Wn.none rfl) rfl ?_
              intro v35 M w H hle hr35
              replace hp := hp.mono hle
              obtain rfl := hr35
              refine WR.step (Ex.move rfl) (Wn.none rfl) rfl rfl ?_
              refine WR.call H (digit_spec c.toNat (by omega)) rfl (trivial) (Wn.none rfl) rfl ?_
              intro v37 M w H hle hr37
              replace hp := hp.mono hle
              obtain rfl := hr37
              refine WR.lit (enc := encB) ty22 [61, dig (c.toNat / 2 ^ 4), dig c.toNat] H rfl (by rfl) (fun _ => rfl) rfl rfl (Wn.none rfl) rfl ?_
              intro v38 M w H hle hl38
              replace hp := hp.mono hle
              refine WR.step (Ex.assign rfl) (Wn.none rfl) rfl rfl ?_
              refine WR.nil ?_
              refine WQ.then ?_
              refine WC.ret ?_
              (repeat (first | refine WQ.thenRet ?_ | refine WQ.inBlockRet ?_))
              refine WQ.ret1 rfl rfl H.ext ?_
              refine ?_
              unfold sg hex
              rw [if_neg (by
                intro h
                rcases h with h | h
                · omega
                · first | exact absurd h.1 (by assumption) | exact h.2 hend)]
              exact hl38
            ·
              intro M w H hle
              replace hp := hp.mono hle
              refine WR.step (Ex.move rfl) (Wn.some rfl rfl rfl) rfl rfl ?_
              refine WR.skipG (b := false) rfl rfl rfl rfl rfl ?_
              refine WR.skipG (b := false) rfl rfl rfl rfl rfl ?_
              refine WR.step (Ex.pickF rfl rfl) (Wn.some rfl rfl rfl) rfl rfl ?_
              refine WR.step (Ex.pickF rfl rfl) (Wn.none rfl) rfl rfl ?_
              refine WR.nil ?_
              refine WQ.then ?_
              refine WC.condF rfl ?_
              refine WC.skip ?_
              refine WQ.then ?_
              refine WC.seq ?_
              refine WC.region ?_
              refine WR.step (Ex.move rfl) (Wn.none rfl) rfl rfl ?_
              refine WR.step (Ex.shrN (m := c.toNat) (s := 4) rfl rfl (by first | (show _ ≤ 64; omega) | (show _ ≤ 8; omega) | decide)) (Wn.none rfl) rfl rfl ?_
              refine WR.call H (digit_spec (c.toNat / 2 ^ 4) (by omega)) rfl (trivial) (Wn.none rfl) rfl ?_
              intro v35 M w H hle hr35
              replace hp := hp.mono hle
              obtain rfl := hr35
              refine WR.step (Ex.move rfl) (Wn.none rfl) rfl rfl ?_
              refine WR.call H (digit_spec c.toNat (by omega)) rfl (trivial) (Wn.none rfl) rfl ?_
              intro v37 M w H hle hr37
              replace hp := hp.mono hle
              obtain rfl := hr37
              refine WR.lit (enc := encB) ty22 [61, dig (c.toNat / 2 ^ 4), dig c.toNat] H rfl (by rfl) (fun _ => rfl) rfl rfl (Wn.none rfl) rfl ?_
              intro v38 M w H hle hl38
              replace hp := hp.mono hle
              refine WR.step (Ex.assign rfl) (Wn.none rfl) rfl rfl ?_
              refine WR.nil ?_
              refine WQ.then ?_
              refine WC.ret ?_
              (repeat (first | refine WQ.thenRet ?_ | refine WQ.inBlockRet ?_))
              refine WQ.ret1 rfl rfl H.ext ?_
              refine ?_
              unfold sg hex
              rw [if_neg (by
                intro h
                rcases h with h | h
                · omega
                · first | exact absurd h.1 (by assumption) | exact h.2 hend)]
              exact hl38
        ·
          refine WR.step (Ex.pickT rfl rfl) (Wn.none rfl) rfl rfl ?_
          refine WR.step (Ex.move rfl) (Wn.none rfl) rfl rfl ?_
          refine WR.skipG (b := false) rfl rfl rfl rfl rfl ?_
          refine WR.skipG (b := false) rfl rfl rfl rfl rfl ?_
          refine WR.step (Ex.pickF rfl rfl) (Wn.none rfl) rfl rfl ?_
          refine WR.step (Ex.move rfl) (Wn.none rfl) rfl rfl ?_
          refine WR.step (Ex.move rfl) (Wn.some rfl rfl rfl) rfl rfl ?_
          refine WR.callB H (blank_spec _) rfl (trivial) (Wn.some rfl rfl rfl) rfl (fun h2_12 => ?_) (fun h2_12 => ?_)
          ·
            intro M w H hle
            replace hp := hp.mono hle
            refine WR.step (Ex.move rfl) (Wn.some rfl rfl rfl) rfl rfl ?_
            refine WR.step (Ex.move rfl) (Wn.some rfl rfl rfl) rfl rfl ?_
            refine WR.step (Ex.notT rfl) (Wn.some rfl rfl rfl) rfl rfl ?_
            refine WR.step (Ex.pickT rfl rfl) (Wn.some rfl rfl rfl) rfl rfl ?_
            refine WR.step (Ex.pickF rfl rfl) (Wn.none rfl) rfl rfl ?_
            refine WR.nil ?_
            refine WQ.then ?_
            refine WC.condF rfl ?_
            refine WC.skip ?_
            refine WQ.then ?_
            refine WC.seq ?_
            refine WC.region ?_
            refine WR.step (Ex.move rfl) (Wn.none rfl) rfl rfl ?_
            refine WR.step (Ex.shrN (m := c.toNat) (s := 4) rfl rfl (by first | (show _ ≤ 64; omega) | (show _ ≤ 8; omega) | decide)) (Wn.none rfl) rfl rfl ?_
            refine WR.call H (digit_spec (c.toNat / 2 ^ 4) (by omega)) rfl (trivial) (Wn.none rfl) rfl ?_
            intro v35 M w H hle hr35
            replace hp := hp.mono hle
            obtain rfl := hr35
            refine WR.step (Ex.move rfl) (Wn.none rfl) rfl rfl ?_
            refine WR.call H (digit_spec c.toNat (by omega)) rfl (trivial) (Wn.none rfl) rfl ?_
            intro v37 M w H hle hr37
            replace hp := hp.mono hle
            obtain rfl := hr37
            refine WR.lit (enc := encB) ty22 [61, dig (c.toNat / 2 ^ 4), dig c.toNat] H rfl (by rfl) (fun _ => rfl) rfl rfl (Wn.none rfl) rfl ?_
            intro v38 M w H hle hl38
            replace hp := hp.mono hle
            refine WR.step (Ex.assign rfl) (Wn.none rfl) rfl rfl ?_
            refine WR.nil ?_
            refine WQ.then ?_
            refine WC.ret ?_
            (repeat (first | refine WQ.thenRet ?_ | refine WQ.inBlockRet ?_))
            refine WQ.ret1 rfl rfl H.ext ?_
            refine ?_
            unfold sg hex
            rw [if_neg (by
              intro h
              rcases h with h | h
              · omega
              · first | exact absurd h.1 (by assumption) | exact h.2 hend)]
            exact hl38
          ·
            intro M w H hle
            replace hp := hp.mono hle
            refine WR.step (Ex.move rfl) (Wn.some rfl rfl rfl) rfl rfl ?_
            refine WR.skipG (b := false) rfl rfl rfl rfl rfl ?_
            refine WR.skipG (b := false) rfl rfl rfl rfl rfl ?_
            refine WR.step (Ex.pickF rfl rfl) (Wn.some rfl rfl rfl) rfl rfl ?_
            refine WR.step (Ex.pickF rfl rfl) (Wn.none rfl) rfl rfl ?_
            refine WR.nil ?_
            refine WQ.then ?_
            refine WC.condF rfl ?_
            refine WC.skip ?_
            refine WQ.then ?_
            refine WC.seq ?_
            refine WC.region ?_
            refine WR.step (Ex.move rfl) (Wn.none rfl) rfl rfl ?_
            refine WR.step (Ex.shrN (m := c.toNat) (s := 4) rfl rfl (by first | (show _ ≤ 64; omega) | (show _ ≤ 8; omega) | decide)) (Wn.none rfl) rfl rfl ?_
            refine WR.call H (digit_spec (c.toNat / 2 ^ 4) (by omega)) rfl (trivial) (Wn.none rfl) rfl ?_
            intro v35 M w H hle hr35
            replace hp := hp.mono hle
            obtain rfl := hr35
            refine WR.step (Ex.move rfl) (Wn.none rfl) rfl rfl ?_
            refine WR.call H (digit_spec c.toNat (by omega)) rfl (trivial) (Wn.none rfl) rfl ?_
            intro v37 M w H hle hr37
            replace hp := hp.mono hle
            obtain rfl := hr37
            refine WR.lit (enc := encB) ty22 [61, dig (c.toNat / 2 ^ 4), dig c.toNat] H rfl (by rfl) (fun _ => rfl) rfl rfl (Wn.none rfl) rfl ?_
            intro v38 M w H hle hl38
            replace hp := hp.mono hle
            refine WR.step (Ex.assign rfl) (Wn.none rfl) rfl rfl ?_
            refine WR.nil ?_
            refine WQ.then ?_
            refine WC.ret ?_
            (repeat (first | refine WQ.thenRet ?_ | refine WQ.inBlockRet ?_))
            refine WQ.ret1 rfl rfl H.ext ?_
            refine ?_
            unfold sg hex
            rw [if_neg (by
              intro h
              rcases h with h | h
              · omega
              · first | exact absurd h.1 (by assumption) | exact h.2 hend)]
            exact hl38
      ·
        refine WR.step (Ex.move rfl) (Wn.none rfl) rfl rfl ?_
        refine WR.skipG (b := false) rfl rfl rfl rfl rfl ?_
        refine WR.skipG (b := false) rfl rfl rfl rfl rfl ?_
        refine WR.step (Ex.pickF rfl rfl) (Wn.none rfl) rfl rfl ?_
        refine WR.step (Ex.move rfl) (Wn.none rfl) rfl rfl ?_
        refine WR.skipG (b := false) rfl rfl rfl rfl rfl ?_
        refine WR.skipG (b := false) rfl rfl rfl rfl rfl ?_
        refine WR.step (Ex.pickF rfl rfl) (Wn.none rfl) rfl rfl ?_
        refine WR.step (Ex.move rfl) (Wn.none rfl) rfl rfl ?_
        refine WR.step (Ex.move rfl) (Wn.some rfl rfl rfl) rfl rfl ?_
        refine WR.callB H (blank_spec _) rfl (trivial) (Wn.some rfl rfl rfl) rfl (fun h2_12 => ?_) (fun h2_12 => ?_)
        ·
          intro M w H hle
          replace hp := hp.mono hle
          refine WR.step (Ex.move rfl) (Wn.some rfl rfl rfl) rfl rfl ?_
          refine WR.step (Ex.move rfl) (Wn.some rfl rfl rfl) rfl rfl ?_
          refine WR.step (Ex.notT rfl) (Wn.some rfl rfl rfl) rfl rfl ?_
          refine WR.step (Ex.pickT rfl rfl) (Wn.some rfl rfl rfl) rfl rfl ?_
          refine WR.step (Ex.pickF rfl rfl) (Wn.none rfl) rfl rfl ?_
          refine WR.nil ?_
          refine WQ.then ?_
          refine WC.condF rfl ?_
          refine WC.skip ?_
          refine WQ.then ?_
          refine WC.seq ?_
          refine WC.region ?_
          refine WR.step (Ex.move rfl) (Wn.none rfl) rfl rfl ?_
          refine WR.step (Ex.shrN (m := c.toNat) (s := 4) rfl rfl (by first | (show _ ≤ 64; omega) | (show _ ≤ 8; omega) | decide)) (Wn.none rfl) rfl rfl ?_
          refine WR.call H (digit_spec (c.toNat / 2 ^ 4) (by omega)) rfl (trivial) (Wn.none rfl) rfl ?_
          intro v35 M w H hle hr35
          replace hp := hp.mono hle
          obtain rfl := hr35
          refine WR.step (Ex.move rfl) (Wn.none rfl) rfl rfl ?_
          refine WR.call H (digit_spec c.toNat (by omega)) rfl (trivial) (Wn.none rfl) rfl ?_
          intro v37 M w H hle hr37
          replace hp := hp.mono hle
          obtain rfl := hr37
          refine WR.lit (enc := encB) ty22 [61, dig (c.toNat / 2 ^ 4), dig c.toNat] H rfl (by rfl) (fun _ => rfl) rfl rfl (Wn.none rfl) rfl ?_
          intro v38 M w H hle hl38
          replace hp := hp.mono hle
          refine WR.step (Ex.assign rfl) (Wn.none rfl) rfl rfl ?_
          refine WR.nil ?_
          refine WQ.then ?_
          refine WC.ret ?_
          (repeat (first | refine WQ.thenRet ?_ | refine WQ.inBlockRet ?_))
          refine WQ.ret1 rfl rfl H.ext ?_
          refine ?_
          unfold sg hex
          rw [if_neg (by
            intro h
            rcases h with h | h
            · omega
            · first | exact absurd h.1 (by assumption) | exact h.2 hend)]
          exact hl38
        ·
          intro M w H hle
          replace hp := hp.mono hle
          refine WR.step (Ex.move rfl) (Wn.some rfl rfl rfl) rfl rfl ?_
          refine WR.skipG (b := false) rfl rfl rfl rfl rfl ?_
          refine WR.skipG (b := false) rfl rfl rfl rfl rfl ?_
          refine WR.step (Ex.pickF rfl rfl) (Wn.some rfl rfl rfl) rfl rfl ?_
          refine WR.step (Ex.pickF rfl rfl) (Wn.none rfl) rfl rfl ?_
          refine WR.nil ?_
          refine WQ.then ?_
          refine WC.condF rfl ?_
          refine WC.skip ?_
          refine WQ.then ?_
          refine WC.seq ?_
          refine WC.region ?_
          refine WR.step (Ex.move rfl) (Wn.none rfl) rfl rfl ?_
          refine WR.step (Ex.shrN (m := c.toNat) (s := 4) rfl rfl (by first | (show _ ≤ 64; omega) | (show _ ≤ 8; omega) | decide)) (Wn.none rfl) rfl rfl ?_
          refine WR.call H (digit_spec (c.toNat / 2 ^ 4) (by omega)) rfl (trivial) (Wn.none rfl) rfl ?_
          intro v35 M w H hle hr35
          replace hp := hp.mono hle
          obtain rfl := hr35
          refine WR.step (Ex.move rfl) (Wn.none rfl) rfl rfl ?_
          refine WR.call H (digit_spec c.toNat (by omega)) rfl (trivial) (Wn.none rfl) rfl ?_
          intro v37 M w H hle hr37
          replace hp := hp.mono hle
          obtain rfl := hr37
          refine WR.lit (enc := encB) ty22 [61, dig (c.toNat / 2 ^ 4), dig c.toNat] H rfl (by rfl) (fun _ => rfl) rfl rfl (Wn.none rfl) rfl ?_
          intro v38 M w H hle hl38
          replace hp := hp.mono hle
          refine WR.step (Ex.assign rfl) (Wn.none rfl) rfl rfl ?_
          refine WR.nil ?_
          refine WQ.then ?_
          refine WC.ret ?_
          (repeat (first | refine WQ.thenRet ?_ | refine WQ.inBlockRet ?_))
          refine WQ.ret1 rfl rfl H.ext ?_
          refine ?_
          unfold sg hex
          rw [if_neg (by
            intro h
            rcases h with h | h
            · omega
            · first | exact absurd h.1 (by assumption) | exact h.2 hend)]
          exact hl38
    ·
      intro M w H hle
      replace hp := hp.mono hle
      have hend : ¬ (l = [] ∨ lineAt l) := by
        intro h
        rcases h with h | h
        · subst h; exact h1_2 rfl
        · exact h1_5 h
      refine WR.step (Ex.pickF rfl rfl) (Wn.none rfl) rfl rfl ?_
      refine WR.step (Ex.assign rfl) (Wn.none rfl) rfl rfl ?_
      refine WR.nil ?_
      refine WQ.then ?_
      refine WC.seq ?_
      refine WC.seq ?_
      refine WC.region ?_
      refine WR.step (Ex.move rfl) (Wn.none rfl) rfl rfl ?_
      refine WR.split (Ex.geq rfl rfl) (Wn.none rfl) rfl rfl (fun h2_1 => ?_) (fun h2_1 => ?_)
      ·
        refine WR.step (Ex.move rfl) (Wn.none rfl) rfl rfl ?_
        refine WR.step (Ex.move rfl) (Wn.some rfl rfl rfl) rfl rfl ?_
        refine WR.split (Ex.leq rfl rfl) (Wn.some rfl rfl rfl) rfl rfl (fun h2_4 => ?_) (fun h2_4 => ?_)
        ·
          refine WR.step (Ex.pickT rfl rfl) (Wn.none rfl) rfl rfl ?_
          refine WR.step (Ex.move rfl) (Wn.none rfl) rfl rfl ?_
          refine WR.step (Ex.move rfl) (Wn.some rfl rfl rfl) rfl rfl ?_
          refine WR.split (Ex.neq rfl rfl) (Wn.some rfl rfl rfl) rfl rfl (fun h2_8 => ?_) (fun h2_8 => ?_)
          ·
            refine WR.step (Ex.pickT rfl rfl) (Wn.none rfl) rfl rfl ?_
            refine WR.step (Ex.move rfl) (Wn.none rfl) rfl rfl ?_
            refine WR.skipG (b := true) rfl rfl rfl rfl rfl ?_
            refine WR.skipG (b := true) rfl rfl rfl rfl rfl ?_
            refine WR.skipG (b := true) rfl rfl rfl rfl rfl ?_
            refine WR.skipU rfl rfl rfl rfl rfl ?_
            refine WR.skipU rfl rfl rfl rfl rfl ?_
            refine WR.skipG (b := true) rfl rfl rfl rfl rfl ?_
            refine WR.step (Ex.pickT rfl rfl) (Wn.none rfl) rfl rfl ?_
            refine WR.nil ?_
            refine WQ.then ?_
            refine WC.condT rfl ?_
            refine WC.seq ?_
            refine WC.region ?_
            refine WR.step (Ex.move rfl) (Wn.none rfl) rfl rfl ?_
            refine WR.lit (enc := encB) ty22 [_] H rfl (by rfl) (fun _ => rfl) rfl rfl (Wn.none rfl) rfl ?_
            intro v32 M w H hle hl32
            replace hp := hp.mono hle
            refine WR.step (Ex.assign rfl) (Wn.none rfl) rfl rfl ?_
            refine WR.nil ?_
            refine WQ.then ?_
            refine WC.ret ?_
            (repeat (first | refine WQ.thenRet ?_ | refine WQ.inBlockRet ?_))
            refine WQ.ret1 rfl rfl H.ext ?_
            refine ?_
            unfold sg
            rw [if_pos (by first | exact .inl (by omega) | exact .inr ⟨by assumption, hend⟩)]
            exact hl32
          ·
            refine WR.step (Ex.pickT rfl rfl) (Wn.none rfl) rfl rfl ?_
            refine WR.step (Ex.move rfl) (Wn.none rfl) rfl rfl ?_
            refine WR.step (Ex.move rfl) (Wn.some rfl rfl rfl) rfl rfl ?_
            refine WR.callB H (blank_spec _) rfl (trivial) (Wn.some rfl rfl rfl) rfl (fun h2_12 => ?_) (fun h2_12 => ?_)
            ·
              intro M w H hle
              replace hp := hp.mono hle
              refine WR.step (Ex.move rfl) (Wn.some rfl rfl rfl) rfl rfl ?_
              refine WR.step (Ex.move rfl) (Wn.some rfl rfl rfl) rfl rfl ?_
              refine WR.step (Ex.notF rfl) (Wn.some rfl rfl rfl) rfl rfl ?_
              refine WR.step (Ex.pickT rfl rfl) (Wn.some rfl rfl rfl) rfl rfl ?_
              refine WR.step (Ex.pickF rfl rfl) (Wn.none rfl) rfl rfl ?_
              refine WR.nil ?_
              refine WQ.then ?_
              refine WC.condT rfl ?_
              refine WC.seq ?_
              refine WC.region ?_
              refine WR.step (Ex.move rfl) (Wn.none rfl) rfl rfl ?_
              refine WR.lit (enc := encB) ty22 [_] H rfl (by rfl) (fun _ => rfl) rfl rfl (Wn.none rfl) rfl ?_
              intro v32 M w H hle hl32
              replace hp := hp.mono hle
              refine WR.step (Ex.assign rfl) (Wn.none rfl) rfl rfl ?_
              refine WR.nil ?_
              refine WQ.then ?_
              refine WC.ret ?_
              (repeat (first | refine WQ.thenRet ?_ | refine WQ.inBlockRet ?_))
              refine WQ.ret1 rfl rfl H.ext ?_
              refine ?_
              unfold sg
              rw [if_pos (by first | exact .inl (by omega) | exact .inr ⟨by assumption, hend⟩)]
              exact hl32
            ·
              intro M w H hle
              replace hp := hp.mono hle
              refine WR.step (Ex.move rfl) (Wn.some rfl rfl rfl) rfl rfl ?_
              refine WR.skipG (b := false) rfl rfl rfl rfl rfl ?_
              refine WR.skipG (b := false) rfl rfl rfl rfl rfl ?_
              refine WR.step (Ex.pickF rfl rfl) (Wn.some rfl rfl rfl) rfl rfl ?_
              refine WR.step (Ex.pickF rfl rfl) (Wn.none rfl) rfl rfl ?_
              refine WR.nil ?_
              refine WQ.then ?_
              refine WC.condF rfl ?_
              refine WC.skip ?_
              refine WQ.then ?_
              refine WC.seq ?_
              refine WC.region ?_
              refine WR.step (Ex.move rfl) (Wn.none rfl) rfl rfl ?_
              refine WR.step (Ex.shrN (m := c.toNat) (s := 4) rfl rfl (by first | (show _ ≤ 64; omega) | (show _ ≤ 8; omega) | decide)) (Wn.none rfl) rfl rfl ?_
              refine WR.call H (digit_spec (c.toNat / 2 ^ 4) (by omega)) rfl (trivial) (Wn.none rfl) rfl ?_
              intro v35 M w H hle hr35
              replace hp := hp.mono hle
              obtain rfl := hr35
              refine WR.step (Ex.move rfl) (Wn.none rfl) rfl rfl ?_
              refine WR.call H (digit_spec c.toNat (by omega)) rfl (trivial) (Wn.none rfl) rfl ?_
              intro v37 M w H hle hr37
              replace hp := hp.mono hle
              obtain rfl := hr37
              refine WR.lit (enc := encB) ty22 [61, dig (c.toNat / 2 ^ 4), dig c.toNat] H rfl (by rfl) (fun _ => rfl) rfl rfl (Wn.none rfl) rfl ?_
              intro v38 M w H hle hl38
              replace hp := hp.mono hle
              refine WR.step (Ex.assign rfl) (Wn.none rfl) rfl rfl ?_
              refine WR.nil ?_
              refine WQ.then ?_
              refine WC.ret ?_
              (repeat (first | refine WQ.thenRet ?_ | refine WQ.inBlockRet ?_))
              refine WQ.ret1 rfl rfl H.ext ?_
              refine ?_
              unfold sg hex
              rw [if_neg (by
                intro h
                rcases h with h | h
                · omega
                · first | exact absurd h.1 (by assumption) | exact h.2 hend)]
              exact hl38
        ·
          refine WR.step (Ex.pickT rfl rfl) (Wn.none rfl) rfl rfl ?_
          refine WR.step (Ex.move rfl) (Wn.none rfl) rfl rfl ?_
          refine WR.skipG (b := false) rfl rfl rfl rfl rfl ?_
          refine WR.skipG (b := false) rfl rfl rfl rfl rfl ?_
          refine WR.step (Ex.pickF rfl rfl) (Wn.none rfl) rfl rfl ?_
          refine WR.step (Ex.move rfl) (Wn.none rfl) rfl rfl ?_
          refine WR.step (Ex.move rfl) (Wn.some rfl rfl rfl) rfl rfl ?_
          refine WR.callB H (blank_spec _) rfl (trivial) (Wn.some rfl rfl rfl) rfl (fun h2_12 => ?_) (fun h2_12 => ?_)
          ·
            intro M w H hle
            replace hp := hp.mono hle
            refine WR.step (Ex.move rfl) (Wn.some rfl rfl rfl) rfl rfl ?_
            refine WR.step (Ex.move rfl) (Wn.some rfl rfl rfl) rfl rfl ?_
            refine WR.step (Ex.notF rfl) (Wn.some rfl rfl rfl) rfl rfl ?_
            refine WR.step (Ex.pickT rfl rfl) (Wn.some rfl rfl rfl) rfl rfl ?_
            refine WR.step (Ex.pickF rfl rfl) (Wn.none rfl) rfl rfl ?_
            refine WR.nil ?_
            refine WQ.then ?_
            refine WC.condT rfl ?_
            refine WC.seq ?_
            refine WC.region ?_
            refine WR.step (Ex.move rfl) (Wn.none rfl) rfl rfl ?_
            refine WR.lit (enc := encB) ty22 [_] H rfl (by rfl) (fun _ => rfl) rfl rfl (Wn.none rfl) rfl ?_
            intro v32 M w H hle hl32
            replace hp := hp.mono hle
            refine WR.step (Ex.assign rfl) (Wn.none rfl) rfl rfl ?_
            refine WR.nil ?_
            refine WQ.then ?_
            refine WC.ret ?_
            (repeat (first | refine WQ.thenRet ?_ | refine WQ.inBlockRet ?_))
            refine WQ.ret1 rfl rfl H.ext ?_
            refine ?_
            unfold sg
            rw [if_pos (by first | exact .inl (by omega) | exact .inr ⟨by assumption, hend⟩)]
            exact hl32
          ·
            intro M w H hle
            replace hp := hp.mono hle
            refine WR.step (Ex.move rfl) (Wn.some rfl rfl rfl) rfl rfl ?_
            refine WR.skipG (b := false) rfl rfl rfl rfl rfl ?_
            refine WR.skipG (b := false) rfl rfl rfl rfl rfl ?_
            refine WR.step (Ex.pickF rfl rfl) (Wn.some rfl rfl rfl) rfl rfl ?_
            refine WR.step (Ex.pickF rfl rfl) (Wn.none rfl) rfl rfl ?_
            refine WR.nil ?_
            refine WQ.then ?_
            refine WC.condF rfl ?_
            refine WC.skip ?_
            refine WQ.then ?_
            refine WC.seq ?_
            refine WC.region ?_
            refine WR.step (Ex.move rfl) (Wn.none rfl) rfl rfl ?_
            refine WR.step (Ex.shrN (m := c.toNat) (s := 4) rfl rfl (by first | (show _ ≤ 64; omega) | (show _ ≤ 8; omega) | decide)) (Wn.none rfl) rfl rfl ?_
            refine WR.call H (digit_spec (c.toNat / 2 ^ 4) (by omega)) rfl (trivial) (Wn.none rfl) rfl ?_
            intro v35 M w H hle hr35
            replace hp := hp.mono hle
            obtain rfl := hr35
            refine WR.step (Ex.move rfl) (Wn.none rfl) rfl rfl ?_
            refine WR.call H (digit_spec c.toNat (by omega)) rfl (trivial) (Wn.none rfl) rfl ?_
            intro v37 M w H hle hr37
            replace hp := hp.mono hle
            obtain rfl := hr37
            refine WR.lit (enc := encB) ty22 [61, dig (c.toNat / 2 ^ 4), dig c.toNat] H rfl (by rfl) (fun _ => rfl) rfl rfl (Wn.none rfl) rfl ?_
            intro v38 M w H hle hl38
            replace hp := hp.mono hle
            refine WR.step (Ex.assign rfl) (Wn.none rfl) rfl rfl ?_
            refine WR.nil ?_
            refine WQ.then ?_
            refine WC.ret ?_
            (repeat (first | refine WQ.thenRet ?_ | refine WQ.inBlockRet ?_))
            refine WQ.ret1 rfl rfl H.ext ?_
            refine ?_
            unfold sg hex
            rw [if_neg (by
              intro h
              rcases h with h | h
              · omega
              · first | exact absurd h.1 (by assumption) | exact h.2 hend)]
            exact hl38
      ·
        refine WR.step (Ex.move rfl) (Wn.none rfl) rfl rfl ?_
        refine WR.skipG (b := false) rfl rfl rfl rfl rfl ?_
        refine WR.skipG (b := false) rfl rfl rfl rfl rfl ?_
        refine WR.step (Ex.pickF rfl rfl) (Wn.none rfl) rfl rfl ?_
        refine WR.step (Ex.move rfl) (Wn.none rfl) rfl rfl ?_
        refine WR.skipG (b := false) rfl rfl rfl rfl rfl ?_
        refine WR.skipG (b := false) rfl rfl rfl rfl rfl ?_
        refine WR.step (Ex.pickF rfl rfl) (Wn.none rfl) rfl rfl ?_
        refine WR.step (Ex.move rfl) (Wn.none rfl) rfl rfl ?_
        refine WR.step (Ex.move rfl) (Wn.some rfl rfl rfl) rfl rfl ?_
        refine WR.callB H (blank_spec _) rfl (trivial) (Wn.some rfl rfl rfl) rfl (fun h2_12 => ?_) (fun h2_12 => ?_)
        ·
          intro M w H hle
          replace hp := hp.mono hle
          refine WR.step (Ex.move rfl) (Wn.some rfl rfl rfl) rfl rfl ?_
          refine WR.step (Ex.move rfl) (Wn.some rfl rfl rfl) rfl rfl ?_
          refine WR.step (Ex.notF rfl) (Wn.some rfl rfl rfl) rfl rfl ?_
          refine WR.step (Ex.pickT rfl rfl) (Wn.some rfl rfl rfl) rfl rfl ?_
          refine WR.step (Ex.pickF rfl rfl) (Wn.none rfl) rfl rfl ?_
          refine WR.nil ?_
          refine WQ.then ?_
          refine WC.condT rfl ?_
          refine WC.seq ?_
          refine WC.region ?_
          refine WR.step (Ex.move rfl) (Wn.none rfl) rfl rfl ?_
          refine WR.lit (enc := encB) ty22 [_] H rfl (by rfl) (fun _ => rfl) rfl rfl (Wn.none rfl) rfl ?_
          intro v32 M w H hle hl32
          replace hp := hp.mono hle
          refine WR.step (Ex.assign rfl) (Wn.none rfl) rfl rfl ?_
          refine WR.nil ?_
          refine WQ.then ?_
          refine WC.ret ?_
          (repeat (first | refine WQ.thenRet ?_ | refine WQ.inBlockRet ?_))
          refine WQ.ret1 rfl rfl H.ext ?_
          refine ?_
          unfold sg
          rw [if_pos (by first | exact .inl (by omega) | exact .inr ⟨by assumption, hend⟩)]
          exact hl32
        ·
          intro M w H hle
          replace hp := hp.mono hle
          refine WR.step (Ex.move rfl) (Wn.some rfl rfl rfl) rfl rfl ?_
          refine WR.skipG (b := false) rfl rfl rfl rfl rfl ?_
          refine WR.skipG (b := false) rfl rfl rfl rfl rfl ?_
          refine WR.step (Ex.pickF rfl rfl) (Wn.some rfl rfl rfl) rfl rfl ?_
          refine WR.step (Ex.pickF rfl rfl) (Wn.none rfl) rfl rfl ?_
          refine WR.nil ?_
          refine WQ.then ?_
          refine WC.condF rfl ?_
          refine WC.skip ?_
          refine WQ.then ?_
          refine WC.seq ?_
          refine WC.region ?_
          refine WR.step (Ex.move rfl) (Wn.none rfl) rfl rfl ?_
          refine WR.step (Ex.shrN (m := c.toNat) (s := 4) rfl rfl (by first | (show _ ≤ 64; omega) | (show _ ≤ 8; omega) | decide)) (Wn.none rfl) rfl rfl ?_
          refine WR.call H (digit_spec (c.toNat / 2 ^ 4) (by omega)) rfl (trivial) (Wn.none rfl) rfl ?_
          intro v35 M w H hle hr35
          replace hp := hp.mono hle
          obtain rfl := hr35
          refine WR.step (Ex.move rfl) (Wn.none rfl) rfl rfl ?_
          refine WR.call H (digit_spec c.toNat (by omega)) rfl (trivial) (Wn.none rfl) rfl ?_
          intro v37 M w H hle hr37
          replace hp := hp.mono hle
          obtain rfl := hr37
          refine WR.lit (enc := encB) ty22 [61, dig (c.toNat / 2 ^ 4), dig c.toNat] H rfl (by rfl) (fun _ => rfl) rfl rfl (Wn.none rfl) rfl ?_
          intro v38 M w H hle hl38
          replace hp := hp.mono hle
          refine WR.step (Ex.assign rfl) (Wn.none rfl) rfl rfl ?_
          refine WR.nil ?_
          refine WQ.then ?_
          refine WC.ret ?_
          (repeat (first | refine WQ.thenRet ?_ | refine WQ.inBlockRet ?_))
          refine WQ.ret1 rfl rfl H.ext ?_
          refine ?_
          unfold sg hex
          rw [if_neg (by
            intro h
            rcases h with h | h
            · omega
            · first | exact absurd h.1 (by assumption) | exact h.2 hend)]
          exact hl38

end Go.Proofs.YtolmifddbjdepaaDoor
