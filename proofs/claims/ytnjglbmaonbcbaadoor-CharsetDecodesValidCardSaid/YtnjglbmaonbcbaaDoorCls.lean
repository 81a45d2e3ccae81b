/-
  characters and their classes: walks over the program's own operations, written by a program of this repository (wip/tools/gen.py) out of a plan.
-/
import Derived.Test.YtnjglbmaonbcbaaDoorStr
import Derived.Test.YtnjglbmaonbcbaaDoorDraw
import Derived.Test.YtnjglbmaonbcbaaDoorRows
import Derived.Test.YtnjglbmaonbcbaaDoorGrPlain
import Derived.Test.YtnjglbmaonbcbaaDoorShelf
import Derived.KernelRfl
set_option linter.unusedVariables false
set_option linter.unusedSimpArgs false
namespace Go.Proofs.YtnjglbmaonbcbaaDoor
open Go Go.RowKit Go.Ph

theorem ty24 : ElemTy Tryd.prog 24 9 (.string ⟨#[]⟩) 1 16 := ElemTy.mk' Tryd.underlying24 (by kernel_rfl) rfl (by decide)
theorem ty34 : ElemTy Tryd.prog 34 5 (.int .u8 0) 1 1 := ElemTy.mk' Tryd.underlying34 (by kernel_rfl) rfl (by decide)
theorem ty49 : ElemTy Tryd.prog 49 3 (.int .i64 0) 1 8 := ElemTy.mk' Tryd.underlying49 (by kernel_rfl) rfl (by decide)
theorem ty64 : ElemTy Tryd.prog 64 21 (.int .i32 0) 1 4 := ElemTy.mk' Tryd.underlying64 (by kernel_rfl) rfl (by decide)
theorem places28 : ∀ {fs : Array Field}, Tryd.prog.underlying 28 = some (.struct fs) → ∀ w, (fs.mapM fun f => do pure (f.offset, ← sizeOf f.type) : Sem (Array (Nat × Nat))).run Tryd.prog w = .ok #[(0, 1), (1, 1)] w := by
  intro fs h w
  rw [Tryd.underlying28] at h
  cases h
  simp
theorem places61 : ∀ {fs : Array Field}, Tryd.prog.underlying 61 = some (.struct fs) → ∀ w, (fs.mapM fun f => do pure (f.offset, ← sizeOf f.type) : Sem (Array (Nat × Nat))).run Tryd.prog w = .ok #[(0, 1), (1, 1), (2, 1)] w := by
  intro fs h w
  rw [Tryd.underlying61] at h
  cases h
  simp
theorem places68 : ∀ {fs : Array Field}, Tryd.prog.underlying 68 = some (.struct fs) → ∀ w, (fs.mapM fun f => do pure (f.offset, ← sizeOf f.type) : Sem (Array (Nat × Nat))).run Tryd.prog w = .ok #[(0, 1), (1, 1), (2, 1)] w := by
  intro fs h w
  rw [Tryd.underlying68] at h
  cases h
  simp
theorem places78 : ∀ {fs : Array Field}, Tryd.prog.underlying 78 = some (.struct fs) → ∀ w, (fs.mapM fun f => do pure (f.offset, ← sizeOf f.type) : Sem (Array (Nat × Nat))).run Tryd.prog w = .ok #[(0, 1), (1, 1)] w := by
  intro fs h w
  rw [Tryd.underlying78] at h
  cases h
  simp
theorem places85 : ∀ {fs : Array Field}, Tryd.prog.underlying 85 = some (.struct fs) → ∀ w, (fs.mapM fun f => do pure (f.offset, ← sizeOf f.type) : Sem (Array (Nat × Nat))).run Tryd.prog w = .ok #[(0, 1), (1, 1), (2, 1)] w := by
  intro fs h w
  rw [Tryd.underlying85] at h
  cases h
  simp
theorem eq28 (a0 b0 : Int) (a1 b1 : Int) (w : World) : (Op.equalIn 10000 28 (.agg #[.int .i64 a0, .int .i64 a1]) (.agg #[.int .i64 b0, .int .i64 b1])).run Tryd.prog w = .ok (decide (a0 = b0 ∧ a1 = b1)) w := by
  rw [run_equalIn_struct w 9999 28 _ _ (by rw [Program.fieldsOf, Tryd.underlying28]) (by kernel_rfl)]
  rw [Program.fieldsOf, Tryd.underlying28]
  by_cases h0 : a0 = b0 <;> by_cases h1 : a1 = b1 <;> simp [Op.eqFields, part, h0, h1, Tryd.isAgg3, run_equalIn_int _ _ _ _ _ _ _ Tryd.underlying3]
abbrev fault (c i : Int) : Value := .agg #[I c, I i]
theorem fault_spec (c i : Int) : Ct Tryd.prog 36 [I c, I i] (fun _ => True) (fun r _ => r = fault c i) := by
  refine Ct.of Tryd.func36 (enters Tryd.func36 (by kernel_rfl) rfl) rfl rfl rfl ?_
  intro w0 M0 H hp
  refine WC.seq ?_
  refine WC.region ?_
  refine WR.alloc [_, _] H Tryd.zeroValue28 rfl (Wn.none rfl) rfl ?_
  intro b4 w H
  refine WR.nil ?_
  refine WQ.then ?_
  refine WC.seq ?_
  refine WC.region ?_
  refine WR.step (Ex.move rfl) (Wn.none rfl) rfl rfl ?_
  refine WR.step (Ex.move rfl) (Wn.none rfl) rfl rfl ?_
  refine WR.step (Ex.build [_, _] Tryd.underlying28 Tryd.zeroValue28 (places28 Tryd.underlying28) rfl rfl) (Wn.none rfl) rfl rfl ?_
  refine WR.store [_, _] H rfl rfl rfl (by repeat (first | exact Upd.head | apply Upd.tail)) Tryd.sizeOf28 rfl (by rfl) (by rfl) (Wn.none rfl) ?_
  intro w H
  refine WR.nil ?_
  refine WQ.then ?_
  refine WC.ret ?_
  (repeat (first | refine WQ.thenRet ?_ | refine WQ.inBlockRet ?_))
  refine WQ.ret1 rfl ⟨_, rfl, H.loadAgg (by repeat (first | exact List.Mem.head _ | apply List.Mem.tail)) Tryd.isAgg28 Tryd.sizeOf28 (by rfl)⟩ H.ext ?_
  exact rfl

theorem at_spec (c i : Int) : Ct Tryd.prog 18 [I c, I i] (fun _ => True) (fun r _ => r = fault c i) := by
  refine Ct.of Tryd.func18 (enters Tryd.func18 (by kernel_rfl) rfl) rfl rfl rfl ?_
  intro w0 M0 H hp
  refine WC.seq ?_
  refine WC.region ?_
  refine WR.alloc [_, _] H Tryd.zeroValue28 rfl (Wn.none rfl) rfl ?_
  intro b4 w H
  refine WR.nil ?_
  refine WQ.then ?_
  refine WC.seq ?_
  refine WC.region ?_
  refine WR.step (Ex.move rfl) (Wn.none rfl) rfl rfl ?_
  refine WR.step (Ex.move rfl) (Wn.none rfl) rfl rfl ?_
  refine WR.step (Ex.build [_, _] Tryd.underlying28 Tryd.zeroValue28 (places28 Tryd.underlying28) rfl rfl) (Wn.none rfl) rfl rfl ?_
  refine WR.store [_, _] H rfl rfl rfl (by repeat (first | exact Upd.head | apply Upd.tail)) Tryd.sizeOf28 rfl (by rfl) (by rfl) (Wn.none rfl) ?_
  intro w H
  refine WR.nil ?_
  refine WQ.then ?_
  refine WC.ret ?_
  (repeat (first | refine WQ.thenRet ?_ | refine WQ.inBlockRet ?_))
  refine WQ.ret1 rfl ⟨_, rfl, H.loadAgg (by repeat (first | exact List.Mem.head _ | apply List.Mem.tail)) Tryd.isAgg28 Tryd.sizeOf28 (by rfl)⟩ H.ext ?_
  exact rfl

theorem none_spec  : Ct Tryd.prog 37 [] (fun _ => True) (fun r _ => r = fault 0 0) := by
  refine Ct.of Tryd.func37 (enters Tryd.func37 (by kernel_rfl) rfl) rfl rfl rfl ?_
  intro w0 M0 H hp
  refine WC.seq ?_
  refine WC.region ?_
  refine WR.alloc [_, _] H Tryd.zeroValue28 rfl (Wn.none rfl) rfl ?_
  intro b0 w H
  refine WR.nil ?_
  refine WQ.then ?_
  refine WC.seq ?_
  refine WC.region ?_
  refine WR.step (Ex.build [_, _] Tryd.underlying28 Tryd.zeroValue28 (places28 Tryd.underlying28) rfl rfl) (Wn.none rfl) rfl rfl ?_
  refine WR.store [_, _] H rfl rfl rfl (by repeat (first | exact Upd.head | apply Upd.tail)) Tryd.sizeOf28 rfl (by rfl) (by rfl) (Wn.none rfl) ?_
  intro w H
  refine WR.nil ?_
  refine WQ.then ?_
  refine WC.ret ?_
  (repeat (first | refine WQ.thenRet ?_ | refine WQ.inBlockRet ?_))
  refine WQ.ret1 rfl ⟨_, rfl, H.loadAgg (by repeat (first | exact List.Mem.head _ | apply List.Mem.tail)) Tryd.isAgg28 Tryd.sizeOf28 (by rfl)⟩ H.ext ?_
  exact rfl

theorem in_spec (n lo hi : Int) : Ct Tryd.prog 39 [I n, I lo, I hi] (fun _ => True) (fun r _ => r = .bool (decide (lo ≤ n ∧ n ≤ hi))) := by
  refine Ct.of Tryd.func39 (enters Tryd.func39 (by kernel_rfl) rfl) rfl rfl rfl ?_
  intro w0 M0 H hp
  refine WC.seq ?_
  refine WC.region ?_
  refine WR.step (Ex.assign rfl) (Wn.none rfl) rfl rfl ?_
  refine WR.nil ?_
  refine WQ.then ?_
  refine WC.seq ?_
  refine WC.region ?_
  refine WR.step (Ex.move rfl) (Wn.none rfl) rfl rfl ?_
  refine WR.step (Ex.move rfl) (Wn.none rfl) rfl rfl ?_
  refine WR.split (Ex.geq rfl rfl) (Wn.none rfl) rfl rfl (fun h1_2 => ?_) (fun h1_2 => ?_)
  ·
    refine WR.step (Ex.move rfl) (Wn.none rfl) rfl rfl ?_
    refine WR.step (Ex.move rfl) (Wn.some rfl rfl rfl) rfl rfl ?_
    refine WR.step (Ex.move rfl) (Wn.some rfl rfl rfl) rfl rfl ?_
    refine WR.step (Ex.leq rfl rfl) (Wn.some rfl rfl rfl) rfl rfl ?_
    refine WR.step (Ex.pickT rfl rfl) (Wn.none rfl) rfl rfl ?_
    refine WR.step (Ex.assign rfl) (Wn.none rfl) rfl rfl ?_
    refine WR.nil ?_
    refine WQ.then ?_
    refine WC.ret ?_
    (repeat (first | refine WQ.thenRet ?_ | refine WQ.inBlockRet ?_))
    refine WQ.ret1 rfl rfl H.ext ?_
    exact (by simp [h1_2])
  ·
    refine WR.step (Ex.move rfl) (Wn.none rfl) rfl rfl ?_
    refine WR.skipG (b := false) rfl rfl rfl rfl rfl ?_
    refine WR.skipG (b := false) rfl rfl rfl rfl rfl ?_
    refine WR.skipG (b := false) rfl rfl rfl rfl rfl ?_
    refine WR.step (Ex.pickF rfl rfl) (Wn.none rfl) rfl rfl ?_
    refine WR.step (Ex.assign rfl) (Wn.none rfl) rfl rfl ?_
    refine WR.nil ?_
    refine WQ.then ?_
    refine WC.ret ?_
    (repeat (first | refine WQ.thenRet ?_ | refine WQ.inBlockRet ?_))
    refine WQ.ret1 rfl rfl H.ext ?_
    exact (by simp [h1_2])

theorem bytes_spec (a b : Value) (l m : List UInt8) : Ct Tryd.prog 28 [a, b] (fun M => Bs M a l ∧ Bs M b m) (fun r _ => r = .bool (decide (l = m))) := by
  refine Ct.of Tryd.func28 (enters Tryd.func28 (by kernel_rfl) rfl) rfl rfl rfl ?_
  intro w0 M0 H hp
  obtain ⟨ha, hb⟩ := hp
  refine WC.seq ?_
  refine WC.region ?_
  refine WR.step (Ex.assign rfl) (Wn.none rfl) rfl rfl ?_
  refine WR.nil ?_
  refine WQ.then ?_
  refine WC.seq ?_
  refine WC.region ?_
  refine WR.step (Ex.move rfl) (Wn.none rfl) rfl rfl ?_
  refine WR.step (Ex.toStr Tryd.underlying34 Tryd.underlying5 Tryd.underlying9 H (by assumption) rfl) (Wn.none rfl) rfl rfl ?_
  refine WR.step (Ex.move rfl) (Wn.none rfl) rfl rfl ?_
  refine WR.step (Ex.toStr Tryd.underlying34 Tryd.underlying5 Tryd.underlying9 H (by assumption) rfl) (Wn.none rfl) rfl rfl ?_
  refine WR.step (Ex.strEql rfl rfl) (Wn.none rfl) rfl rfl ?_
  refine WR.step (Ex.assign rfl) (Wn.none rfl) rfl rfl ?_
  refine WR.nil ?_
  refine WQ.then ?_
  refine WC.ret ?_
  (repeat (first | refine WQ.thenRet ?_ | refine WQ.inBlockRet ?_))
  refine WQ.ret1 rfl rfl H.ext ?_
  exact rfl

/-- the tables of unicode/utf8, as the memory holds them -/
def Tabs (M : Mem) : Prop := ∀ w, Ag M w → Lib.Utf8Tabs 0 1 w
theorem Tabs.mono {M M' : Mem} (h : Tabs M) (hl : M.le M') : Tabs M' := fun w ha => h w (fun b o hb => ha b o (hl b o hb))
theorem decodeGo_list (l : List UInt8) (hl : l ≠ []) : Lib.decodeGo ⟨l.toArray⟩ = Utf.dr l := by
  have h1 : l.length ≠ 0 := fun h => hl (List.eq_nil_of_length_eq_zero h)
  unfold Lib.decodeGo
  rw [size_mk, if_neg h1, decode_list, List.drop_zero]
theorem decode_spec (l : List UInt8) (hl : l ≠ []) : Ct Tryd.prog 58 [S l] (fun M => Tabs M) (fun r _ => r = .tuple #[.int .i32 ((Utf.dr l).1 : Int), .int .i64 ((Utf.dr l).2 : Int)]) := by
  refine ⟨enters Tryd.func58 (by kernel_rfl) rfl, fun w M ha hp => ?_⟩
  refine (Tryd.utf8_DecodeRuneInString ⟨l.toArray⟩ w (hp w ha)).mono fun e w' ⟨he, hb⟩ => ⟨_, M, he, ⟨BelowX.of hb _, Mem.le.refl M, fun b o hbo => ?_, fun _ _ => rfl⟩, ?_⟩
  · have h1 := ha b o hbo
    rw [hb.block b (Array.getElem?_eq_some_iff.1 h1).1]; exact h1
  · rw [decodeGo_list l hl]

open Go.Ph.Gr Go.Ph.Utf
abbrev encN (n : Nat) : Value := I (n : Int)
abbrev encSp (s : Int × Int × Int) : List Value := [.int .i32 s.1, .int .i32 s.2.1, I s.2.2]
abbrev chV (n : Int) (size : Nat) : Value := .agg #[I (cls n), .bool (decide (n < 0)), encN size]

theorem inSp_spec (c : Int) (v : Value) (sp : List (Int × Int × Int)) : Ct Tryd.prog 61 [.int .i32 c, v] (fun M => SlS M 3 encSp v sp) (fun r _ => r = .tuple #[I (inSp c sp).1, .bool (inSp c sp).2]) := by
  refine Ct.of Tryd.func61 (enters Tryd.func61 (by kernel_rfl) rfl) rfl rfl rfl ?_
  intro w0 M0 H hp
  refine WC.seq ?_
  refine WC.region ?_
  refine WR.step (Ex.assign rfl) (Wn.none rfl) rfl rfl ?_
  refine WR.step (Ex.assign rfl) (Wn.none rfl) rfl rfl ?_
  refine WR.nil ?_
  refine WQ.then ?_
  refine WC.seq ?_
  refine WC.seq ?_
  refine WC.region ?_
  refine WR.step (Ex.move rfl) (Wn.none rfl) rfl rfl ?_
  refine WR.step (Ex.lenSlS Tryd.underlying89 (by assumption) rfl) (Wn.none rfl) rfl rfl ?_
  refine WR.step (Ex.move rfl) (Wn.none rfl) rfl rfl ?_
  refine WR.nil ?_
  refine WQ.then ?_
  refine WC.block ?_
  refine WC.loop1 (fun (k : Nat) => [(0, .int .i32 c), (8, v), (9, I (sp.length : Int)), (10, I (k : Int))]) (fun (k : Nat) w => k ≤ sp.length ∧ inSp c sp = inSp c (sp.drop k) ∧ St w0 M0 M0 [] w) (fun (k : Nat) => sp.length - k) (0) ⟨rfl, rfl, rfl, rfl, trivial⟩ (⟨by omega, rfl, H⟩) ?_
  intro k w
  rintro ⟨hk, hin, H⟩
  have hshort : sp.length ≤ maxLen := by obtain ⟨_, A, c, _, h1, h2, _⟩ := hp; omega
  simp only [maxLen] at hshort
  refine WC.seq ?_
  refine WC.region ?_
  refine WR.split (Ex.lss rfl rfl) (Wn.none rfl) rfl rfl (fun h2_0 => ?_) (fun h2_0 => ?_)
  ·
    obtain ⟨⟨x0, x1, x2⟩, hx⟩ : ∃ x, sp[k]? = some x := ⟨_, List.getElem?_eq_getElem (by omega)⟩
    have hdrop : sp.drop k = (x0, x1, x2) :: sp.drop (k + 1) := by
      obtain ⟨h1, h2⟩ := List.getElem?_eq_some_iff.1 hx
      rw [List.drop_eq_getElem_cons h1, h2]
    refine WR.nil ?_
    refine WQ.then ?_
    refine WC.seq ?_
    refine WC.condT rfl ?_
    refine WC.skip ?_
    refine WQ.then ?_
    refine WC.seq ?_
    refine WC.block ?_
    refine WC.seq ?_
    refine WC.region ?_
    refine WR.idxSlS Tryd.underlying89 Tryd.sizeOf85 (by assumption) rfl rfl (hx) (Wn.none rfl) rfl ?_
    intro b12 o12 hc12
    first | refine WR.step (Ex.loadAgg H rfl (by repeat (first | exact List.Mem.head _ | apply List.Mem.tail)) Tryd.isAgg85 Tryd.sizeOf85 (by rfl)) (Wn.none rfl) rfl rfl ?_ | refine WR.step (Ex.loadAggM H rfl (by assumption) Tryd.isAgg85 Tryd.sizeOf85 (by rfl)) (Wn.none rfl) rfl rfl ?_
    refine WR.alloc [_, _, _] H Tryd.zeroValue85 rfl (Wn.none rfl) rfl ?_
    intro b7 w H
    refine WR.store [_, _, _] H rfl rfl rfl (by repeat (first | exact Upd.head | apply Upd.tail)) Tryd.sizeOf85 rfl (by rfl) (by rfl) (Wn.none rfl) ?_
    intro w H
    refine WR.nil ?_
    refine WQ.then ?_
    refine WC.seq ?_
    refine WC.region ?_
    refine WR.step (Ex.move rfl) (Wn.none rfl) rfl rfl ?_
    refine WR.step (Ex.fieldAddr Tryd.underlying85 rfl Tryd.sizeOf21 (by decide) rfl) (Wn.none rfl) rfl rfl ?_
    first | refine WR.step (Ex.loadM H rfl (by assumption) Tryd.isAgg21) (Wn.none rfl) rfl rfl ?_ | refine WR.step (Ex.load1 H rfl (by repeat (first | exact List.Mem.head _ | apply List.Mem.tail)) Tryd.isAgg21 (by rfl)) (Wn.none rfl) rfl rfl ?_
    refine WR.split (Ex.geq rfl rfl) (Wn.none rfl) rfl rfl (fun h4_3 => ?_) (fun h4_3 => ?_)
    ·
      refine WR.step (Ex.move rfl) (Wn.none rfl) rfl rfl ?_
      refine WR.step (Ex.move rfl) (Wn.some rfl rfl rfl) rfl rfl ?_
      refine WR.step (Ex.fieldAddr Tryd.underlying85 rfl Tryd.sizeOf21 (by decide) rfl) (Wn.some rfl rfl rfl) rfl rfl ?_
      first | refine WR.step (Ex.loadM H rfl (by assumption) Tryd.isAgg21) (Wn.some rfl rfl rfl) rfl rfl ?_ | refine WR.step (Ex.load1 H rfl (by repeat (first | exact List.Mem.head _ | apply List.Mem.tail)) Tryd.isAgg21 (by rfl)) (Wn.some rfl rfl rfl) rfl rfl ?_
      refine WR.split (Ex.leq rfl rfl) (Wn.some rfl rfl rfl) rfl rfl (fun h4_8 => ?_) (fun h4_8 => ?_)
      ·
        have hres : inSp c sp = (x2, true) := by rw [hin, hdrop, inSp, if_pos ⟨h4_3, h4_8⟩]
        refine WR.step (Ex.pickT rfl rfl) (Wn.none rfl) rfl rfl ?_
        refine WR.nil ?_
        refine WQ.then ?_
        refine WC.condT rfl ?_
        refine WC.seq ?_
        refine WC.region ?_
        refine WR.step (Ex.fieldAddr Tryd.underlying85 rfl Tryd.sizeOf3 (by decide) rfl) (Wn.none rfl) rfl rfl ?_
        first | refine WR.step (Ex.loadM H rfl (by assumption) Tryd.isAgg3) (Wn.none rfl) rfl rfl ?_ | refine WR.step (Ex.load1 H rfl (by repeat (first | exact List.Mem.head _ | apply List.Mem.tail)) Tryd.isAgg3 (by rfl)) (Wn.none rfl) rfl rfl ?_
        refine WR.step (Ex.assign rfl) (Wn.none rfl) rfl rfl ?_
        refine WR.step (Ex.assign rfl) (Wn.none rfl) rfl rfl ?_
        refine WR.nil ?_
        refine WQ.then ?_
        refine WC.ret ?_
        (repeat (first | refine WQ.thenRet ?_ | refine WQ.inBlockRet ?_))
        refine WQ.ret2 rfl rfl rfl H.ext ?_
        exact by rw [hres]
      ·
        have hnext : inSp c (sp.drop k) = inSp c (sp.drop (k + 1)) := by rw [hdrop, inSp, if_neg (fun h => h4_8 h.2)]
        refine WR.step (Ex.pickT rfl rfl) (Wn.none rfl) rfl rfl ?_
        refine WR.nil ?_
        refine WQ.then ?_
        refine WC.condF rfl ?_
        refine WC.skip ?_
        refine WQ.inBlock ?_
        refine WQ.then ?_
        refine WC.region ?_
        refine WR.step (Ex.add64 rfl rfl (by omega)) (Wn.none rfl) rfl rfl ?_
        refine WR.step (Ex.move rfl) (Wn.none rfl) rfl rfl ?_
        refine WR.nil ?_
        refine WQ.again1 (k + 1) ⟨rfl, rfl, rfl, rfl, trivial⟩ ?_ ?_
        · exact ⟨by omega, hin.trans hnext, H.drop (List.nil_sublist _)⟩
        · omega
    ·
      have hnext : inSp c (sp.drop k) = inSp c (sp.drop (k + 1)) := by rw [hdrop, inSp, if_neg (fun h => h4_3 h.1)]
      refine WR.step (Ex.move rfl) (Wn.none rfl) rfl rfl ?_
      refine WR.skipG (b := false) rfl rfl rfl rfl rfl ?_
      refine WR.skipG (b := false) rfl rfl rfl rfl rfl ?_
      refine WR.skipG (b := false) rfl rfl rfl rfl rfl ?_
      refine WR.skipG (b := false) rfl rfl rfl rfl rfl ?_
      refine WR.step (Ex.pickF rfl rfl) (Wn.none rfl) rfl rfl ?_
      refine WR.nil ?_
      refine WQ.then ?_
      refine WC.condF rfl ?_
      refine WC.skip ?_
      refine WQ.inBlock ?_
      refine WQ.then ?_
      refine WC.region ?_
      refine WR.step (Ex.add64 rfl rfl (by omega)) (Wn.none rfl) rfl rfl ?_
      refine WR.step (Ex.move rfl) (Wn.none rfl) rfl rfl ?_
      refine WR.nil ?_
      refine WQ.again1 (k + 1) ⟨rfl, rfl, rfl, rfl, trivial⟩ ?_ ?_
      · exact ⟨by omega, hin.trans hnext, H.drop (List.nil_sublist _)⟩
      · omega
  ·
    have hres : inSp c sp = (0, false) := by rw [hin, List.drop_eq_nil_of_le (by omega)]; rfl
    refine WR.nil ?_
    refine WQ.then ?_
    refine WC.seq ?_
    refine WC.condF rfl ?_
    refine WC.exit ?_
    refine WQ.thenExit ?_
    refine WQ.thenExit ?_
    refine WQ.exitHere ?_
    refine WQ.then ?_
    refine WC.seq ?_
    refine WC.region ?_
    refine WR.step (Ex.assign rfl) (Wn.none rfl) rfl rfl ?_
    refine WR.step (Ex.assign rfl) (Wn.none rfl) rfl rfl ?_
    refine WR.nil ?_
    refine WQ.then ?_
    refine WC.ret ?_
    (repeat (first | refine WQ.thenRet ?_ | refine WQ.inBlockRet ?_))
    refine WQ.ret2 rfl rfl rfl H.ext ?_
    exact by rw [hres]

theorem classOf_spec (c : Int) : Ct Tryd.prog 59 [.int .i32 c] (fun _ => True) (fun r _ => r = I (cls c)) := by
  refine Ct.of Tryd.func59 (enters Tryd.func59 (by kernel_rfl) rfl) rfl rfl rfl ?_
  intro w0 M0 H hp
  refine WC.seq ?_
  refine WC.region ?_
  refine WR.step (Ex.assign rfl) (Wn.none rfl) rfl rfl ?_
  refine WR.nil ?_
  refine WQ.then ?_
  refine WC.seq ?_
  refine WC.region ?_
  refine WR.step (Ex.build [_, _, _] Tryd.underlying85 Tryd.zeroValue85 (places85 Tryd.underlying85) rfl rfl) (Wn.none rfl) rfl rfl ?_
  refine WR.step (Ex.build [_, _, _] Tryd.underlying85 Tryd.zeroValue85 (places85 Tryd.underlying85) rfl rfl) (Wn.none rfl) rfl rfl ?_
  refine WR.step (Ex.build [_, _, _] Tryd.underlying85 Tryd.zeroValue85 (places85 Tryd.underlying85) rfl rfl) (Wn.none rfl) rfl rfl ?_
  refine WR.step (Ex.build [_, _, _] Tryd.underlying85 Tryd.zeroValue85 (places85 Tryd.underlying85) rfl rfl) (Wn.none rfl) rfl rfl ?_
  refine WR.step (Ex.build [_, _, _] Tryd.underlying85 Tryd.zeroValue85 (places85 Tryd.underlying85) rfl rfl) (Wn.none rfl) rfl rfl ?_
  refine WR.step (Ex.build [_, _, _] Tryd.underlying85 Tryd.zeroValue85 (places85 Tryd.underlying85) rfl rfl) (Wn.none rfl) rfl rfl ?_
  refine WR.step (Ex.build [_, _, _] Tryd.underlying85 Tryd.zeroValue85 (places85 Tryd.underlying85) rfl rfl) (Wn.none rfl) rfl rfl ?_
  refine WR.step (Ex.build [_, _, _] Tryd.underlying85 Tryd.zeroValue85 (places85 Tryd.underlying85) rfl rfl) (Wn.none rfl) rfl rfl ?_
  refine WR.step (Ex.build [_, _, _] Tryd.underlying85 Tryd.zeroValue85 (places85 Tryd.underlying85) rfl rfl) (Wn.none rfl) rfl rfl ?_
  refine WR.step (Ex.build [_, _, _] Tryd.underlying85 Tryd.zeroValue85 (places85 Tryd.underlying85) rfl rfl) (Wn.none rfl) rfl rfl ?_
  refine WR.step (Ex.build [_, _, _] Tryd.underlying85 Tryd.zeroValue85 (places85 Tryd.underlying85) rfl rfl) (Wn.none rfl) rfl rfl ?_
  refine WR.step (Ex.build [_, _, _] Tryd.underlying85 Tryd.zeroValue85 (places85 Tryd.underlying85) rfl rfl) (Wn.none rfl) rfl rfl ?_
  refine WR.step (Ex.build [_, _, _] Tryd.underlying85 Tryd.zeroValue85 (places85 Tryd.underlying85) rfl rfl) (Wn.none rfl) rfl rfl ?_
  refine WR.step (Ex.build [_, _, _] Tryd.underlying85 Tryd.zeroValue85 (places85 Tryd.underlying85) rfl rfl) (Wn.none rfl) rfl rfl ?_
  refine WR.step (Ex.build [_, _, _] Tryd.underlying85 Tryd.zeroValue85 (places85 Tryd.underlying85) rfl rfl) (Wn.none rfl) rfl rfl ?_
  refine WR.step (Ex.build [_, _, _] Tryd.underlying85 Tryd.zeroValue85 (places85 Tryd.underlying85) rfl rfl) (Wn.none rfl) rfl rfl ?_
  refine WR.step (Ex.buildArr (clsTab.flatMap encSp) Tryd.underlying93 Tryd.zeroValue93 Tryd.sizeOf85 rfl (by kernel_rfl)) (Wn.none rfl) rfl rfl ?_
  refine WR.alloc [_, _, _, _, _, _, _, _, _, _, _, _, _, _, _, _, _, _, _, _, _, _, _, _, _, _, _, _, _, _, _, _, _, _, _, _, _, _, _, _, _, _, _, _, _, _, _, _] H Tryd.zeroValue93 rfl (Wn.none rfl) rfl ?_
  intro b3 w H
  refine WR.store (clsTab.flatMap encSp) H rfl rfl rfl (by repeat (first | exact Upd.head | apply Upd.tail)) Tryd.sizeOf93 rfl rfl rfl (Wn.none rfl) ?_
  intro w H
  obtain ⟨M, hle, hM, H⟩ := H.freezeBlk (by repeat (first | exact Rem.head | apply Rem.tail))
  have ht : SlS M 3 encSp (.slice (some ⟨b3, 0, none⟩) 16 16) clsTab := SlS.ofBlk (l := clsTab) (fun _ => rfl) (by decide) hM
  refine WR.nil ?_
  refine WQ.then ?_
  refine WC.seq ?_
  refine WC.region ?_
  refine WR.step (Ex.move rfl) (Wn.none rfl) rfl rfl ?_
  refine WR.step (Ex.sliceArr Tryd.underlying93 Tryd.sizeOf85 rfl) (Wn.none rfl) rfl rfl ?_
  refine WR.call H (inSp_spec _ _ clsTab) rfl (ht) (Wn.none rfl) rfl ?_
  intro v26 M w H hle hr26
  obtain rfl := hr26
  refine WR.step (Ex.move rfl) (Wn.none rfl) rfl rfl ?_
  refine WR.step (Ex.extract rfl rfl) (Wn.none rfl) rfl rfl ?_
  refine WR.step (Ex.extract rfl rfl) (Wn.none rfl) rfl rfl ?_
  refine WR.step (Ex.assign rfl) (Wn.none rfl) rfl rfl ?_
  refine WR.step (Ex.assign rfl) (Wn.none rfl) rfl rfl ?_
  refine WR.nil ?_
  refine WQ.then ?_
  refine WC.seq ?_
  refine WC.region ?_
  refine WR.step (Ex.move rfl) (Wn.none rfl) rfl rfl ?_
  refine WR.step (Ex.assign rfl) (Wn.none rfl) rfl rfl ?_
  refine WR.nil ?_
  refine WQ.then ?_
  refine WC.ret ?_
  (repeat (first | refine WQ.thenRet ?_ | refine WQ.inBlockRet ?_))
  refine WQ.ret1 rfl rfl H.ext ?_
  exact by rw [inSp_cls]

theorem wide_spec (c : Int) : Ct Tryd.prog 48 [.int .i32 c] (fun _ => True) (fun r _ => r = .bool (wid c)) := by
  refine Ct.of Tryd.func48 (enters Tryd.func48 (by kernel_rfl) rfl) rfl rfl rfl ?_
  intro w0 M0 H hp
  refine WC.seq ?_
  refine WC.region ?_
  refine WR.step (Ex.assign rfl) (Wn.none rfl) rfl rfl ?_
  refine WR.nil ?_
  refine WQ.then ?_
  refine WC.seq ?_
  refine WC.region ?_
  refine WR.step (Ex.build [_, _, _] Tryd.underlying85 Tryd.zeroValue85 (places85 Tryd.underlying85) rfl rfl) (Wn.none rfl) rfl rfl ?_
  refine WR.step (Ex.build [_, _, _] Tryd.underlying85 Tryd.zeroValue85 (places85 Tryd.underlying85) rfl rfl) (Wn.none rfl) rfl rfl ?_
  refine WR.step (Ex.build [_, _, _] Tryd.underlying85 Tryd.zeroValue85 (places85 Tryd.underlying85) rfl rfl) (Wn.none rfl) rfl rfl ?_
  refine WR.step (Ex.build [_, _, _] Tryd.underlying85 Tryd.zeroValue85 (places85 Tryd.underlying85) rfl rfl) (Wn.none rfl) rfl rfl ?_
  refine WR.step (Ex.build [_, _, _] Tryd.underlying85 Tryd.zeroValue85 (places85 Tryd.underlying85) rfl rfl) (Wn.none rfl) rfl rfl ?_
  refine WR.step (Ex.build [_, _, _] Tryd.underlying85 Tryd.zeroValue85 (places85 Tryd.underlying85) rfl rfl) (Wn.none rfl) rfl rfl ?_
  refine WR.step (Ex.build [_, _, _] Tryd.underlying85 Tryd.zeroValue85 (places85 Tryd.underlying85) rfl rfl) (Wn.none rfl) rfl rfl ?_
  refine WR.step (Ex.build [_, _, _] Tryd.underlying85 Tryd.zeroValue85 (places85 Tryd.underlying85) rfl rfl) (Wn.none rfl) rfl rfl ?_
  refine WR.step (Ex.build [_, _, _] Tryd.underlying85 Tryd.zeroValue85 (places85 Tryd.underlying85) rfl rfl) (Wn.none rfl) rfl rfl ?_
  refine WR.step (Ex.buildArr (widTab.flatMap encSp) Tryd.underlying86 Tryd.zeroValue86 Tryd.sizeOf85 rfl (by kernel_rfl)) (Wn.none rfl) rfl rfl ?_
  refine WR.alloc [_, _, _, _, _, _, _, _, _, _, _, _, _, _, _, _, _, _, _, _, _, _, _, _, _, _, _] H Tryd.zeroValue86 rfl (Wn.none rfl) rfl ?_
  intro b3 w H
  refine WR.store (widTab.flatMap encSp) H rfl rfl rfl (by repeat (first | exact Upd.head | apply Upd.tail)) Tryd.sizeOf86 rfl rfl rfl (Wn.none rfl) ?_
  intro w H
  obtain ⟨M, hle, hM, H⟩ := H.freezeBlk (by repeat (first | exact Rem.head | apply Rem.tail))
  have ht : SlS M 3 encSp (.slice (some ⟨b3, 0, none⟩) 9 9) widTab := SlS.ofBlk (l := widTab) (fun _ => rfl) (by decide) hM
  refine WR.nil ?_
  refine WQ.then ?_
  refine WC.seq ?_
  refine WC.region ?_
  refine WR.step (Ex.move rfl) (Wn.none rfl) rfl rfl ?_
  refine WR.step (Ex.sliceArr Tryd.underlying86 Tryd.sizeOf85 rfl) (Wn.none rfl) rfl rfl ?_
  refine WR.call H (inSp_spec _ _ widTab) rfl (ht) (Wn.none rfl) rfl ?_
  intro v19 M w H hle hr19
  obtain rfl := hr19
  refine WR.step (Ex.move rfl) (Wn.none rfl) rfl rfl ?_
  refine WR.step (Ex.extract rfl rfl) (Wn.none rfl) rfl rfl ?_
  refine WR.step (Ex.extract rfl rfl) (Wn.none rfl) rfl rfl ?_
  refine WR.step (Ex.assign rfl) (Wn.none rfl) rfl rfl ?_
  refine WR.step (Ex.assign rfl) (Wn.none rfl) rfl rfl ?_
  refine WR.nil ?_
  refine WQ.then ?_
  refine WC.seq ?_
  refine WC.region ?_
  refine WR.step (Ex.move rfl) (Wn.none rfl) rfl rfl ?_
  refine WR.step (Ex.assign rfl) (Wn.none rfl) rfl rfl ?_
  refine WR.nil ?_
  refine WQ.then ?_
  refine WC.ret ?_
  (repeat (first | refine WQ.thenRet ?_ | refine WQ.inBlockRet ?_))
  refine WQ.ret1 rfl rfl H.ext ?_
  exact by rw [inSp_wid]

theorem first_spec (l : List UInt8) (hl : l ≠ []) : Ct Tryd.prog 46 [S l] (fun M => Tabs M) (fun r _ => r = chV (rune l).1 (rune l).2) := by
  refine Ct.of Tryd.func46 (enters Tryd.func46 (by kernel_rfl) rfl) rfl rfl rfl ?_
  intro w0 M0 H hp
  refine WC.seq ?_
  refine WC.region ?_
  refine WR.alloc [_, _, _] H Tryd.zeroValue68 rfl (Wn.none rfl) rfl ?_
  intro b2 w H
  refine WR.nil ?_
  refine WQ.then ?_
  refine WC.seq ?_
  refine WC.region ?_
  refine WR.step (Ex.move rfl) (Wn.none rfl) rfl rfl ?_
  refine WR.call H (decode_spec _ hl) rfl (by assumption) (Wn.none rfl) rfl ?_
  intro v7 M w H hle hr7
  replace hp := hp.mono hle
  obtain rfl := hr7
  refine WR.step (Ex.move rfl) (Wn.none rfl) rfl rfl ?_
  refine WR.step (Ex.extract rfl rfl) (Wn.none rfl) rfl rfl ?_
  refine WR.step (Ex.extract rfl rfl) (Wn.none rfl) rfl rfl ?_
  refine WR.step (Ex.assign rfl) (Wn.none rfl) rfl rfl ?_
  refine WR.step (Ex.assign rfl) (Wn.none rfl) rfl rfl ?_
  refine WR.nil ?_
  refine WQ.then ?_
  refine WC.seq ?_
  refine WC.seq ?_
  refine WC.region ?_
  refine WR.step (Ex.move rfl) (Wn.none rfl) rfl rfl ?_
  refine WR.split (Ex.eql rfl rfl) (Wn.none rfl) rfl rfl (fun h2_1 => ?_) (fun h2_1 => ?_)
  ·
    refine WR.step (Ex.move rfl) (Wn.none rfl) rfl rfl ?_
    refine WR.step (Ex.move rfl) (Wn.some rfl rfl rfl) rfl rfl ?_
    refine WR.split (Ex.eql rfl rfl) (Wn.some rfl rfl rfl) rfl rfl (fun h2_4 => ?_) (fun h2_4 => ?_)
    ·
      have hb := first_bad l h2_1 h2_4
      refine WR.step (Ex.pickT rfl rfl) (Wn.none rfl) rfl rfl ?_
      refine WR.nil ?_
      refine WQ.then ?_
      refine WC.condT rfl ?_
      refine WC.seq ?_
      refine WC.region ?_
      refine WR.step (Ex.build [_, _, _] Tryd.underlying68 Tryd.zeroValue68 (places68 Tryd.underlying68) rfl rfl) (Wn.none rfl) rfl rfl ?_
      refine WR.store [_, _, _] H rfl rfl rfl (by repeat (first | exact Upd.head | apply Upd.tail)) Tryd.sizeOf68 rfl (by rfl) (by rfl) (Wn.none rfl) ?_
      intro w H
      refine WR.nil ?_
      refine WQ.then ?_
      refine WC.ret ?_
      (repeat (first | refine WQ.thenRet ?_ | refine WQ.inBlockRet ?_))
      refine WQ.ret1 rfl ⟨_, rfl, H.loadAgg (by repeat (first | exact List.Mem.head _ | apply List.Mem.tail)) Tryd.isAgg68 Tryd.sizeOf68 (by rfl)⟩ H.ext ?_
      exact by rw [hb]; rfl
    ·
      have ho := first_ok l (fun h => h2_4 h.2)
      refine WR.step (Ex.pickT rfl rfl) (Wn.none rfl) rfl rfl ?_
      refine WR.nil ?_
      refine WQ.then ?_
      refine WC.condF rfl ?_
      refine WC.skip ?_
      refine WQ.then ?_
      refine WC.seq ?_
      refine WC.region ?_
      refine WR.step (Ex.move rfl) (Wn.none rfl) rfl rfl ?_
      refine WR.call H (classOf_spec _) rfl (trivial) (Wn.none rfl) rfl ?_
      intro v18 M w H hle hr18
      replace hp := hp.mono hle
      obtain rfl := hr18
      refine WR.step (Ex.move rfl) (Wn.none rfl) rfl rfl ?_
      refine WR.step (Ex.build [_, _, _] Tryd.underlying68 Tryd.zeroValue68 (places68 Tryd.underlying68) rfl rfl) (Wn.none rfl) rfl rfl ?_
      refine WR.store [_, _, _] H rfl rfl rfl (by repeat (first | exact Upd.head | apply Upd.tail)) Tryd.sizeOf68 rfl (by rfl) (by rfl) (Wn.none rfl) ?_
      intro w H
      refine WR.nil ?_
      refine WQ.then ?_
      refine WC.ret ?_
      (repeat (first | refine WQ.thenRet ?_ | refine WQ.inBlockRet ?_))
      refine WQ.ret1 rfl ⟨_, rfl, H.loadAgg (by repeat (first | exact List.Mem.head _ | apply List.Mem.tail)) Tryd.isAgg68 Tryd.sizeOf68 (by rfl)⟩ H.ext ?_
      exact by rw [ho.2.1, ho.2.2, show chV (rune l).1 (rune l).2 = .agg #[I (cls (rune l).1), .bool false, encN (rune l).2] by rw [chV, decide_eq_false (by omega)]]; rfl
  ·
    have ho := first_ok l (fun h => h2_1 h.1)
    refine WR.step (Ex.move rfl) (Wn.none rfl) rfl rfl ?_
    refine WR.skipG (b := false) rfl rfl rfl rfl rfl ?_
    refine WR.skipG (b := false) rfl rfl rfl rfl rfl ?_
    refine WR.step (Ex.pickF rfl rfl) (Wn.none rfl) rfl rfl ?_
    refine WR.nil ?_
    refine WQ.then ?_
    refine WC.condF rfl ?_
    refine WC.skip ?_
    refine WQ.then ?_
    refine WC.seq ?_
    refine WC.region ?_
    refine WR.step (Ex.move rfl) (Wn.none rfl) rfl rfl ?_
    refine WR.call H (classOf_spec _) rfl (trivial) (Wn.none rfl) rfl ?_
    intro v18 M w H hle hr18
    replace hp := hp.mono hle
    obtain rfl := hr18
    refine WR.step (Ex.move rfl) (Wn.none rfl) rfl rfl ?_
    refine WR.step (Ex.build [_, _, _] Tryd.underlying68 Tryd.zeroValue68 (places68 Tryd.underlying68) rfl rfl) (Wn.none rfl) rfl rfl ?_
    refine WR.store [_, _, _] H rfl rfl rfl (by repeat (first | exact Upd.head | apply Upd.tail)) Tryd.sizeOf68 rfl (by rfl) (by rfl) (Wn.none rfl) ?_
    intro w H
    refine WR.nil ?_
    refine WQ.then ?_
    refine WC.ret ?_
    (repeat (first | refine WQ.thenRet ?_ | refine WQ.inBlockRet ?_))
    refine WQ.ret1 rfl ⟨_, rfl, H.loadAgg (by repeat (first | exact List.Mem.head _ | apply List.Mem.tail)) Tryd.isAgg68 Tryd.sizeOf68 (by rfl)⟩ H.ext ?_
    exact by rw [ho.2.1, ho.2.2, show chV (rune l).1 (rune l).2 = .agg #[I (cls (rune l).1), .bool false, encN (rune l).2] by rw [chV, decide_eq_false (by omega)]]; rfl

theorem hard_spec (k : Int) : Ct Tryd.prog 60 [I k] (fun _ => True) (fun r _ => r = .bool (decide (1 ≤ k ∧ k ≤ 3))) := by
  refine Ct.of Tryd.func60 (enters Tryd.func60 (by kernel_rfl) rfl) rfl rfl rfl ?_
  intro w0 M0 H hp
  refine WC.seq ?_
  refine WC.region ?_
  refine WR.step (Ex.assign rfl) (Wn.none rfl) rfl rfl ?_
  refine WR.nil ?_
  refine WQ.then ?_
  refine WC.seq ?_
  refine WC.region ?_
  refine WR.step (Ex.move rfl) (Wn.none rfl) rfl rfl ?_
  refine WR.split (Ex.eql rfl rfl) (Wn.none rfl) rfl rfl (fun h1_1 => ?_) (fun h1_1 => ?_)
  ·
    refine WR.step (Ex.move rfl) (Wn.none rfl) rfl rfl ?_
    refine WR.skipG (b := true) rfl rfl rfl rfl rfl ?_
    refine WR.skipG (b := true) rfl rfl rfl rfl rfl ?_
    refine WR.step (Ex.pickT rfl rfl) (Wn.none rfl) rfl rfl ?_
    refine WR.step (Ex.move rfl) (Wn.none rfl) rfl rfl ?_
    refine WR.skipG (b := true) rfl rfl rfl rfl rfl ?_
    refine WR.skipG (b := true) rfl rfl rfl rfl rfl ?_
    refine WR.step (Ex.pickT rfl rfl) (Wn.none rfl) rfl rfl ?_
    refine WR.step (Ex.assign rfl) (Wn.none rfl) rfl rfl ?_
    refine WR.nil ?_
    refine WQ.then ?_
    refine WC.ret ?_
    (repeat (first | refine WQ.thenRet ?_ | refine WQ.inBlockRet ?_))
    refine WQ.ret1 rfl rfl H.ext ?_
    refine congrArg Value.bool ?_
    first | rfl | exact (decide_eq_true (by omega)).symm | exact (decide_eq_false (by omega)).symm | exact decide_eq_decide.2 (by omega) | (exfalso; omega)
  ·
    refine WR.step (Ex.move rfl) (Wn.none rfl) rfl rfl ?_
    refine WR.step (Ex.move rfl) (Wn.some rfl rfl rfl) rfl rfl ?_
    refine WR.split (Ex.eql rfl rfl) (Wn.some rfl rfl rfl) rfl rfl (fun h1_4 => ?_) (fun h1_4 => ?_)
    ·
      refine WR.step (Ex.pickF rfl rfl) (Wn.none rfl) rfl rfl ?_
      refine WR.step (Ex.move rfl) (Wn.none rfl) rfl rfl ?_
      refine WR.skipG (b := true) rfl rfl rfl rfl rfl ?_
      refine WR.skipG (b := true) rfl rfl rfl rfl rfl ?_
      refine WR.step (Ex.pickT rfl rfl) (Wn.none rfl) rfl rfl ?_
      refine WR.step (Ex.assign rfl) (Wn.none rfl) rfl rfl ?_
      refine WR.nil ?_
      refine WQ.then ?_
      refine WC.ret ?_
      (repeat (first | refine WQ.thenRet ?_ | refine WQ.inBlockRet ?_))
      refine WQ.ret1 rfl rfl H.ext ?_
      refine congrArg Value.bool ?_
      first | rfl | exact (decide_eq_true (by omega)).symm | exact (decide_eq_false (by omega)).symm | exact decide_eq_decide.2 (by omega) | (exfalso; omega)
    ·
      refine WR.step (Ex.pickF rfl rfl) (Wn.none rfl) rfl rfl ?_
      refine WR.step (Ex.move rfl) (Wn.none rfl) rfl rfl ?_
      refine WR.step (Ex.move rfl) (Wn.some rfl rfl rfl) rfl rfl ?_
      refine WR.step (Ex.eql rfl rfl) (Wn.some rfl rfl rfl) rfl rfl ?_
      refine WR.step (Ex.pickF rfl rfl) (Wn.none rfl) rfl rfl ?_
      refine WR.step (Ex.assign rfl) (Wn.none rfl) rfl rfl ?_
      refine WR.nil ?_
      refine WQ.then ?_
      refine WC.ret ?_
      (repeat (first | refine WQ.thenRet ?_ | refine WQ.inBlockRet ?_))
      refine WQ.ret1 rfl rfl H.ext ?_
      refine congrArg Value.bool ?_
      first | rfl | exact (decide_eq_true (by omega)).symm | exact (decide_eq_false (by omega)).symm | exact decide_eq_decide.2 (by omega) | (exfalso; omega)

theorem con_eq (a b : Int) (fl : Nat) : con a b fl = if a < 0 ∨ b < 0 then false else contC (cls a) (cls b) (fl : Int) := rfl

set_option maxHeartbeats 1000000 in
theorem cont_spec (a b : Int) (sa sb fl : Nat) : Ct Tryd.prog 47 [chV a sa, chV b sb, encN fl] (fun _ => True) (fun r _ => r = .bool (con a b fl)) := by
  refine Ct.of Tryd.func47 (enters Tryd.func47 (by kernel_rfl) rfl) rfl rfl rfl ?_
  intro w0 M0 H hp
  refine WC.seq ?_
  refine WC.region ?_
  refine WR.box [_, _, _] H rfl rfl (Wn.none rfl) rfl ?_
  intro b3 w H
  refine WR.box [_, _, _] H rfl rfl (Wn.none rfl) rfl ?_
  intro b4 w H
  refine WR.step (Ex.assign rfl) (Wn.none rfl) rfl rfl ?_
  refine WR.nil ?_
  refine WQ.then ?_
  refine WC.seq ?_
  refine WC.region ?_
  refine WR.step (Ex.assign rfl) (Wn.none rfl) rfl rfl ?_
  refine WR.nil ?_
  refine WQ.then ?_
  refine WC.seq ?_
  refine WC.block ?_
  refine WC.seq ?_
  refine WC.region ?_
  refine WR.step (Ex.fieldAddr Tryd.underlying68 rfl Tryd.sizeOf4 (by decide) rfl) (Wn.none rfl) rfl rfl ?_
  refine WR.splitB (Ex.load1 H rfl (by repeat (first | exact List.Mem.head _ | apply List.Mem.tail)) Tryd.isAgg4 (by rfl)) (Wn.none rfl) rfl rfl (fun h2_1 => ?_) (fun h2_1 => ?_)
  ·
    replace h2_1 := of_decide_eq_true h2_1
    refine WR.step (Ex.move rfl) (Wn.none rfl) rfl rfl ?_
    refine WR.skipG (b := true) rfl rfl rfl rfl rfl ?_
    refine WR.skipG (b := true) rfl rfl rfl rfl rfl ?_
    refine WR.step (Ex.pickT rfl rfl) (Wn.none rfl) rfl rfl ?_
    refine WR.step (Ex.assign rfl) (Wn.none rfl) rfl rfl ?_
    refine WR.nil ?_
    refine WQ.then ?_
    refine WC.condT rfl ?_
    refine WC.seq ?_
    refine WC.region ?_
    refine WR.step (Ex.assign rfl) (Wn.none rfl) rfl rfl ?_
    refine WR.nil ?_
    refine WQ.then ?_
    refine WC.ret ?_
    (repeat (first | refine WQ.thenRet ?_ | refine WQ.inBlockRet ?_))
    refine WQ.ret1 rfl rfl H.ext ?_
    refine congrArg Value.bool ?_
    rw [con_eq, if_pos (by omega)]
  ·
    replace h2_1 := of_decide_eq_false h2_1
    refine WR.step (Ex.move rfl) (Wn.none rfl) rfl rfl ?_
    refine WR.step (Ex.fieldAddr Tryd.underlying68 rfl Tryd.sizeOf4 (by decide) rfl) (Wn.some rfl rfl rfl) rfl rfl ?_
    refine WR.splitB (Ex.load1 H rfl (by repeat (first | exact List.Mem.head _ | apply List.Mem.tail)) Tryd.isAgg4 (by rfl)) (Wn.some rfl rfl rfl) rfl rfl (fun h2_4 => ?_) (fun h2_4 => ?_)
    ·
      replace h2_4 := of_decide_eq_true h2_4
      refine WR.step (Ex.pickF rfl rfl) (Wn.none rfl) rfl rfl ?_
      refine WR.step (Ex.assign rfl) (Wn.none rfl) rfl rfl ?_
      refine WR.nil ?_
      refine WQ.then ?_
      refine WC.condT rfl ?_
      refine WC.seq ?_
      refine WC.region ?_
      refine WR.step (Ex.assign rfl) (Wn.none rfl) rfl rfl ?_
      refine WR.nil ?_
      refine WQ.then ?_
      refine WC.ret ?_
      (repeat (first | refine WQ.thenRet ?_ | refine WQ.inBlockRet ?_))
      refine WQ.ret1 rfl rfl H.ext ?_
      refine congrArg Value.bool ?_
      rw [con_eq, if_pos (by omega)]
    ·
      replace h2_4 := of_decide_eq_false h2_4
      refine WR.step (Ex.pickF rfl rfl) (Wn.none rfl) rfl rfl ?_
      refine WR.step (Ex.assign rfl) (Wn.none rfl) rfl rfl ?_
      refine WR.nil ?_
      refine WQ.then ?_
      refine WC.condF rfl ?_
      refine WC.seq ?_
      refine WC.region ?_
      refine WR.step (Ex.fieldAddr Tryd.underlying68 rfl Tryd.sizeOf3 (by decide) rfl) (Wn.none rfl) rfl rfl ?_
      first | refine WR.step (Ex.loadM H rfl (by assumption) Tryd.isAgg3) (Wn.none rfl) rfl rfl ?_ | refine WR.step (Ex.load1 H rfl (by repeat (first | exact List.Mem.head _ | apply List.Mem.tail)) Tryd.isAgg3 (by rfl)) (Wn.none rfl) rfl rfl ?_
      refine WR.split (Ex.eql rfl rfl) (Wn.none rfl) rfl rfl (fun h4_2 => ?_) (fun h4_2 => ?_)
      ·
        refine WR.step (Ex.move rfl) (Wn.none rfl) rfl rfl ?_
        refine WR.step (Ex.fieldAddr Tryd.underlying68 rfl Tryd.sizeOf3 (by decide) rfl) (Wn.some rfl rfl rfl) rfl rfl ?_
        first | refine WR.step (Ex.loadM H rfl (by assumption) Tryd.isAgg3) (Wn.some rfl rfl rfl) rfl rfl ?_ | refine WR.step (Ex.load1 H rfl (by repeat (first | exact List.Mem.head _ | apply List.Mem.tail)) Tryd.isAgg3 (by rfl)) (Wn.some rfl rfl rfl) rfl rfl ?_
        refine WR.split (Ex.eql rfl rfl) (Wn.some rfl rfl rfl) rfl rfl (fun h4_6 => ?_) (fun h4_6 => ?_)
        ·
          refine WR.step (Ex.pickT rfl rfl) (Wn.none rfl) rfl rfl ?_
          refine WR.step (Ex.assign rfl) (Wn.none rfl) rfl rfl ?_
          refine WR.nil ?_
          refine WQ.then ?_
          refine WC.condT rfl ?_
          refine WC.seq ?_
          refine WC.region ?_
          refine WR.step (Ex.assign rfl) (Wn.none rfl) rfl rfl ?_
          refine WR.nil ?_
          refine WQ.then ?_
          refine WC.ret ?_
          (repeat (first | refine WQ.thenRet ?_ | refine WQ.inBlockRet ?_))
          refine WQ.ret1 rfl rfl H.ext ?_
          refine congrArg Value.bool ?_
          rw [con_eq, if_neg (by omega)]
          unfold contC
          rw [if_pos (by omega)]
        ·
          refine WR.step (Ex.pickT rfl rfl) (Wn.none rfl) rfl rfl ?_
          refine WR.step (Ex.assign rfl) (Wn.none rfl) rfl rfl ?_
          refine WR.nil ?_
          refine WQ.then ?_
          refine WC.condF rfl ?_
          refine WC.seq ?_
          refine WC.region ?_
          refine WR.step (Ex.move rfl) (Wn.none rfl) rfl rfl ?_
          refine WR.step (Ex.fieldAddr Tryd.underlying68 rfl Tryd.sizeOf3 (by decide) rfl) (Wn.none rfl) rfl rfl ?_
          first | refine WR.step (Ex.loadM H rfl (by assumption) Tryd.isAgg3) (Wn.none rfl) rfl rfl ?_ | refine WR.step (Ex.load1 H rfl (by repeat (first | exact List.Mem.head _ | apply List.Mem.tail)) Tryd.isAgg3 (by rfl)) (Wn.none rfl) rfl rfl ?_
          by_cases h6_3 : 1 ≤ cls a ∧ cls a ≤ 3
          ·
            refine WR.callV (cap := []) H (Ct.mono (hard_spec _) (R' := fun r _ => r = .bool true) (fun _ _ h => h.trans (congrArg Value.bool (decide_eq_true h6_3)))) rfl rfl (trivial) (Wn.none rfl) rfl ?_
            intro v28 M w H hle hr28
            obtain rfl := hr28
            refine WR.step (Ex.move rfl) (Wn.none rfl) rfl rfl ?_
            refine WR.skipG (b := true) rfl rfl rfl rfl rfl ?_
            refine WR.skipG (b := true) rfl rfl rfl rfl rfl ?_
            refine WR.skipG (b := true) rfl rfl rfl rfl rfl ?_
            refine WR.skipG (b := true) rfl rfl rfl rfl rfl ?_
            refine WR.step (Ex.pickT rfl rfl) (Wn.none rfl) rfl rfl ?_
            refine WR.step (Ex.assign rfl) (Wn.none rfl) rfl rfl ?_
            refine WR.nil ?_
            refine WQ.then ?_
            refine WC.condT rfl ?_
            refine WC.seq ?_
            refine WC.region ?_
            refine WR.step (Ex.assign rfl) (Wn.none rfl) rfl rfl ?_
            refine WR.nil ?_
            refine WQ.then ?_
            refine WC.ret ?_
            (repeat (first | refine WQ.thenRet ?_ | refine WQ.inBlockRet ?_))
            refine WQ.ret1 rfl rfl H.ext ?_
            refine congrArg Value.bool ?_
            rw [con_eq, if_neg (by omega)]
            unfold contC
            rw [if_neg (by omega)]
            rw [if_pos (by omega)]
          ·
            refine WR.callV (cap := []) H (Ct.mono (hard_spec _) (R' := fun r _ => r = .bool false) (fun _ _ h => h.trans (congrArg Value.bool (decide_eq_false h6_3)))) rfl rfl (trivial) (Wn.none rfl) rfl ?_
            intro v28 M w H hle hr28
            obtain rfl := hr28
            refine WR.step (Ex.move rfl) (Wn.none rfl) rfl rfl ?_
            refine WR.step (Ex.move rfl) (Wn.some rfl rfl rfl) rfl rfl ?_
            refine WR.step (Ex.fieldAddr Tryd.underlying68 rfl Tryd.sizeOf3 (by decide) rfl) (Wn.some rfl rfl rfl) rfl rfl ?_
            first | refine WR.step (Ex.loadM H rfl (by assumption) Tryd.isAgg3) (Wn.some rfl rfl rfl) rfl rfl ?_ | refine WR.step (Ex.load1 H rfl (by repeat (first | exact List.Mem.head _ | apply List.Mem.tail)) Tryd.isAgg3 (by rfl)) (Wn.some rfl rfl rfl) rfl rfl ?_
            by_cases h6_8 : 1 ≤ cls b ∧ cls b ≤ 3
            ·
              refine WR.callV (cap := []) H (Ct.mono (hard_spec _) (R' := fun r _ => r = .bool true) (fun _ _ h => h.trans (congrArg Value.bool (decide_eq_true h6_8)))) rfl rfl (trivial) (Wn.some rfl rfl rfl) rfl ?_
              intro v33 M w H hle hr33
              obtain rfl := hr33
              refine WR.step (Ex.pickF rfl rfl) (Wn.none rfl) rfl rfl ?_
              refine WR.step (Ex.assign rfl) (Wn.none rfl) rfl rfl ?_
              refine WR.nil ?_
              refine WQ.then ?_
              refine WC.condT rfl ?_
              refine WC.seq ?_
              refine WC.region ?_
              refine WR.step (Ex.assign rfl) (Wn.none rfl) rfl rfl ?_
              refine WR.nil ?_
              refine WQ.then ?_
              refine WC.ret ?_
              (repeat (first | refine WQ.thenRet ?_ | refine WQ.inBlockRet ?_))
              refine WQ.ret1 rfl rfl H.ext ?_
              refine congrArg Value.bool ?_
              rw [con_eq, if_neg (by omega)]
              unfold contC
              rw [if_neg (by omega)]
              rw [if_pos (by omega)]
            ·
              refine WR.callV (cap := []) H (Ct.mono (hard_spec _) (R' := fun r _ => r = .bool false) (fun _ _ h => h.trans (congrArg Value.bool (decide_eq_false h6_8)))) rfl rfl (trivial) (Wn.some rfl rfl rfl) rfl ?_
              intro v33 M w H hle hr33
              obtain rfl := hr33
              refine WR.step (Ex.pickF rfl rfl) (Wn.none rfl) rfl rfl ?_
              refine WR.step (Ex.assign rfl) (Wn.none rfl) rfl rfl ?_
              refine WR.nil ?_
              refine WQ.then ?_
              refine WC.condF rfl ?_
              refine WC.seq ?_
              refine WC.region ?_
              refine WR.step (Ex.fieldAddr Tryd.underlying68 rfl Tryd.sizeOf3 (by decide) rfl) (Wn.none rfl) rfl rfl ?_
              first | refine WR.step (Ex.loadM H rfl (by assumption) Tryd.isAgg3) (Wn.none rfl) rfl rfl ?_ | refine WR.step (Ex.load1 H rfl (by repeat (first | exact List.Mem.head _ | apply List.Mem.tail)) Tryd.isAgg3 (by rfl)) (Wn.none rfl) rfl rfl ?_
              refine WR.split (Ex.eql rfl rfl) (Wn.none rfl) rfl rfl (fun h8_2 => ?_) (fun h8_2 => ?_)
              ·
                refine WR.step (Ex.move rfl) (Wn.none rfl) rfl rfl ?_
                refine WR.skipG (b := true) rfl rfl rfl rfl rfl ?_
                refine WR.skipG (b := true) rfl rfl rfl rfl rfl ?_
                refine WR.skipG (b := true) rfl rfl rfl rfl rfl ?_
                refine WR.step (Ex.pickT rfl rfl) (Wn.none rfl) rfl rfl ?_
                refine WR.step (Ex.assign rfl) (Wn.none rfl) rfl rfl ?_
                refine WR.nil ?_
                refine WQ.then ?_
                refine WC.condT rfl ?_
                refine WC.seq ?_
                refine WC.region ?_
                refine WR.step (Ex.assign rfl) (Wn.none rfl) rfl rfl ?_
                refine WR.nil ?_
                refine WQ.then ?_
                refine WC.ret ?_
                (repeat (first | refine WQ.thenRet ?_ | refine WQ.inBlockRet ?_))
                refine WQ.ret1 rfl rfl H.ext ?_
                refine congrArg Value.bool ?_
                rw [con_eq, if_neg (by omega)]
                unfold contC
                rw [if_neg (by omega)]
                rw [if_neg (by omega)]
                rw [if_pos (by omega)]
              ·
                refine WR.step (Ex.move rfl) (Wn.none rfl) rfl rfl ?_
                refine WR.step (Ex.fieldAddr Tryd.underlying68 rfl Tryd.sizeOf3 (by decide) rfl) (Wn.some rfl rfl rfl) rfl rfl ?_
                first | refine WR.step (Ex.loadM H rfl (by assumption) Tryd.isAgg3) (Wn.some rfl rfl rfl) rfl rfl ?_ | refine WR.step (Ex.load1 H rfl (by repeat (first | exact List.Mem.head _ | apply List.Mem.tail)) Tryd.isAgg3 (by rfl)) (Wn.some rfl rfl rfl) rfl rfl ?_
                refine WR.split (Ex.eql rfl rfl) (Wn.some rfl rfl rfl) rfl rfl (fun h8_6 => ?_) (fun h8_6 => ?_)
                ·
                  refine WR.step (Ex.pickF rfl rfl) (Wn.none rfl) rfl rfl ?_
                  refine WR.step (Ex.assign rfl) (Wn.none rfl) rfl rfl ?_
                  refine WR.nil ?_
                  refine WQ.then ?_
                  refine WC.condT rfl ?_
                  refine WC.seq ?_
                  refine WC.region ?_
                  refine WR.step (Ex.assign rfl) (Wn.none rfl) rfl rfl ?_
                  refine WR.nil ?_
                  refine WQ.then ?_
                  refine WC.ret ?_
                  (repeat (first | refine WQ.thenRet ?_ | refine WQ.inBlockRet ?_))
                  refine WQ.ret1 rfl rfl H.ext ?_
                  refine congrArg Value.bool ?_
                  rw [con_eq, if_neg (by omega)]
                  unfold contC
                  rw [if_neg (by omega)]
                  rw [if_neg (by omega)]
                  rw [if_pos (by omega)]
                ·
                  refine WR.step (Ex.pickF rfl rfl) (Wn.none rfl) rfl rfl ?_
                  refine WR.step (Ex.assign rfl) (Wn.none rfl) rfl rfl ?_
                  refine WR.nil ?_
                  refine WQ.then ?_
                  refine WC.condF rfl ?_
                  refine WC.seq ?_
                  refine WC.region ?_
                  refine WR.step (Ex.fieldAddr Tryd.underlying68 rfl Tryd.sizeOf3 (by decide) rfl) (Wn.none rfl) rfl rfl ?_
                  first | refine WR.step (Ex.loadM H rfl (by assumption) Tryd.isAgg3) (Wn.none rfl) rfl rfl ?_ | refine WR.step (Ex.load1 H rfl (by repeat (first | exact List.Mem.head _ | apply List.Mem.tail)) Tryd.isAgg3 (by rfl)) (Wn.none rfl) rfl rfl ?_
                  refine WR.split (Ex.eql rfl rfl) (Wn.none rfl) rfl rfl (fun h10_2 => ?_) (fun h10_2 => ?_)
                  ·
                    refine WR.step (Ex.assign rfl) (Wn.none rfl) rfl rfl ?_
                    refine WR.nil ?_
                    refine WQ.then ?_
                    refine WC.condT rfl ?_
                    refine WC.seq ?_
                    refine WC.region ?_
                    refine WR.step (Ex.fieldAddr Tryd.underlying68 rfl Tryd.sizeOf3 (by decide) rfl) (Wn.none rfl) rfl rfl ?_
                    first | refine WR.step (Ex.loadM H rfl (by assumption) Tryd.isAgg3) (Wn.none rfl) rfl rfl ?_ | refine WR.step (Ex.load1 H rfl (by repeat (first | exact List.Mem.head _ | apply List.Mem.tail)) Tryd.isAgg3 (by rfl)) (Wn.none rfl) rfl rfl ?_
                    refine WR.step (Ex.eql rfl rfl) (Wn.none rfl) rfl rfl ?_
                    refine WR.step (Ex.assign rfl) (Wn.none rfl) rfl rfl ?_
                    refine WR.nil ?_
                    refine WQ.then ?_
                    refine WC.ret ?_
                    (repeat (first | refine WQ.thenRet ?_ | refine WQ.inBlockRet ?_))
                    refine WQ.ret1 rfl rfl H.ext ?_
                    refine congrArg Value.bool ?_
                    rw [con_eq, if_neg (by omega)]
                    unfold contC
                    rw [if_neg (by omega)]
                    rw [if_neg (by omega)]
                    rw [if_neg (by omega)]
                    rw [if_pos (by omega)]
                  ·
                    refine WR.step (Ex.assign rfl) (Wn.none rfl) rfl rfl ?_
                    refine WR.nil ?_
                    refine WQ.then ?_
                    refine WC.condF rfl ?_
                    refine WC.seq ?_
                    refine WC.region ?_
                    refine WR.step (Ex.fieldAddr Tryd.underlying68 rfl Tryd.sizeOf3 (by decide) rfl) (Wn.none rfl) rfl rfl ?_
                    first | refine WR.step (Ex.loadM H rfl (by assumption) Tryd.isAgg3) (Wn.none rfl) rfl rfl ?_ | refine WR.step (Ex.load1 H rfl (by repeat (first | exact List.Mem.head _ | apply List.Mem.tail)) Tryd.isAgg3 (by rfl)) (Wn.none rfl) rfl rfl ?_
                    refine WR.split (Ex.eql rfl rfl) (Wn.none rfl) rfl rfl (fun h12_2 => ?_) (fun h12_2 => ?_)
                    ·
                      refine WR.step (Ex.assign rfl) (Wn.none rfl) rfl rfl ?_
                      refine WR.nil ?_
                      refine WQ.then ?_
                      refine WC.condT rfl ?_
                      refine WC.seq ?_
                      refine WC.region ?_
                      refine WR.step (Ex.move rfl) (Wn.none rfl) rfl rfl ?_
                      refine WR.step (Ex.rem64 rfl rfl (by first | omega | exact ⟨Int.natCast_nonneg _, by decide⟩)) (Wn.none rfl) rfl rfl ?_
                      refine WR.step (Ex.eql rfl rfl) (Wn.none rfl) rfl rfl ?_
                      refine WR.step (Ex.assign rfl) (Wn.none rfl) rfl rfl ?_
                      refine WR.nil ?_
                      refine WQ.then ?_
                      refine WC.ret ?_
                      (repeat (first | refine WQ.thenRet ?_ | refine WQ.inBlockRet ?_))
                      refine WQ.ret1 rfl rfl H.ext ?_
                      refine congrArg Value.bool ?_
                      rw [con_eq, if_neg (by omega)]
                      unfold contC
                      rw [if_neg (by omega)]
                      rw [if_neg (by omega)]
                      rw [if_neg (by omega)]
                      rw [if_neg (by omega)]
                      rw [if_pos (by omega)]
                    ·
                      refine WR.step (Ex.assign rfl) (Wn.none rfl) rfl rfl ?_
                      refine WR.nil ?_
                      refine WQ.then ?_
                      refine WC.condF rfl ?_
                      refine WC.skip ?_
                      refine WQ.inBlock ?_
                      refine WQ.then ?_
                      refine WC.seq ?_
                      refine WC.region ?_
                      refine WR.step (Ex.fieldAddr Tryd.underlying68 rfl Tryd.sizeOf3 (by decide) rfl) (Wn.none rfl) rfl rfl ?_
                      first | refine WR.step (Ex.loadM H rfl (by assumption) Tryd.isAgg3) (Wn.none rfl) rfl rfl ?_ | refine WR.step (Ex.load1 H rfl (by repeat (first | exact List.Mem.head _ | apply List.Mem.tail)) Tryd.isAgg3 (by rfl)) (Wn.none rfl) rfl rfl ?_
                      refine WR.split (Ex.eql rfl rfl) (Wn.none rfl) rfl rfl (fun h14_2 => ?_) (fun h14_2 => ?_)
                      ·
                        refine WR.step (Ex.move rfl) (Wn.none rfl) rfl rfl ?_
                        refine WR.step (Ex.fieldAddr Tryd.underlying68 rfl Tryd.sizeOf3 (by decide) rfl) (Wn.some rfl rfl rfl) rfl rfl ?_
                        first | refine WR.step (Ex.loadM H rfl (by assumption) Tryd.isAgg3) (Wn.some rfl rfl rfl) rfl rfl ?_ | refine WR.step (Ex.load1 H rfl (by repeat (first | exact List.Mem.head _ | apply List.Mem.tail)) Tryd.isAgg3 (by rfl)) (Wn.some rfl rfl rfl) rfl rfl ?_
                        refine WR.split (Ex.eql rfl rfl) (Wn.some rfl rfl rfl) rfl rfl (fun h14_6 => ?_) (fun h14_6 => ?_)
                        ·
                          refine WR.step (Ex.move rfl) (Wn.some rfl rfl rfl) rfl rfl ?_
                          refine WR.skipG (b := true) rfl rfl rfl rfl rfl ?_
                          refine WR.skipG (b := true) rfl rfl rfl rfl rfl ?_
                          refine WR.skipG (b := true) rfl rfl rfl rfl rfl ?_
                          refine WR.step (Ex.pickT rfl rfl) (Wn.some rfl rfl rfl) rfl rfl ?_
                          refine WR.step (Ex.pickT rfl rfl) (Wn.none rfl) rfl rfl ?_
                          refine WR.step (Ex.move rfl) (Wn.none rfl) rfl rfl ?_
                          refine WR.skipG (b := true) rfl rfl rfl rfl rfl ?_
                          refine WR.skipG (b := true) rfl rfl rfl rfl rfl ?_
                          refine WR.skipG (b := true) rfl rfl rfl rfl rfl ?_
                          refine WR.skipG (b := true) rfl rfl rfl rfl rfl ?_
                          refine WR.skipU rfl rfl rfl rfl rfl ?_
                          refine WR.skipU rfl rfl rfl rfl rfl ?_
                          refine WR.skipU rfl rfl rfl rfl rfl ?_
                          refine WR.skipU rfl rfl rfl rfl rfl ?_
                          refine WR.skipU rfl rfl rfl rfl rfl ?_
                          refine WR.skipU rfl rfl rfl rfl rfl ?_
                          refine WR.skipU rfl rfl rfl rfl rfl ?_
                          refine WR.skipU rfl rfl rfl rfl rfl ?_
                          refine WR.skipG (b := true) rfl rfl rfl rfl rfl ?_
                          refine WR.step (Ex.pickT rfl rfl) (Wn.none rfl) rfl rfl ?_
                          refine WR.step (Ex.move rfl) (Wn.none rfl) rfl rfl ?_
                          refine WR.skipG (b := true) rfl rfl rfl rfl rfl ?_
                          refine WR.skipG (b := true) rfl rfl rfl rfl rfl ?_
                          refine WR.skipG (b := true) rfl rfl rfl rfl rfl ?_
                          refine WR.skipG (b := true) rfl rfl rfl rfl rfl ?_
                          refine WR.skipU rfl rfl rfl rfl rfl ?_
                          refine WR.skipU rfl rfl rfl rfl rfl ?_
                          refine WR.skipU rfl rfl rfl rfl rfl ?_
                          refine WR.skipG (b := true) rfl rfl rfl rfl rfl ?_
                          refine WR.step (Ex.pickT rfl rfl) (Wn.none rfl) rfl rfl ?_
                          refine WR.step (Ex.assign rfl) (Wn.none rfl) rfl rfl ?_
                          refine WR.nil ?_
                          refine WQ.then ?_
                          refine WC.ret ?_
                          (repeat (first | refine WQ.thenRet ?_ | refine WQ.inBlockRet ?_))
                          refine WQ.ret1 rfl rfl H.ext ?_
                          refine congrArg Value.bool ?_
                          rw [con_eq, if_neg (by omega)]
                          unfold contC
                          rw [if_neg (by omega)]
                          rw [if_neg (by omega)]
                          rw [if_neg (by omega)]
                          rw [if_neg (by omega)]
                          rw [if_neg (by omega)]
                          first | rfl | exact (decide_eq_true (by omega)).symm | exact (decide_eq_false (by omega)).symm | exact decide_eq_decide.2 (by omega) | (exfalso; omega)
                        ·
                          refine WR.step (Ex.move rfl) (Wn.some rfl rfl rfl) rfl rfl ?_
                          refine WR.step (Ex.fieldAddr Tryd.underlying68 rfl Tryd.sizeOf3 (by decide) rfl) (Wn.some rfl rfl rfl) rfl rfl ?_
                          first | refine WR.step (Ex.loadM H rfl (by assumption) Tryd.isAgg3) (Wn.some rfl rfl rfl) rfl rfl ?_ | refine WR.step (Ex.load1 H rfl (by repeat (first | exact List.Mem.head _ | apply List.Mem.tail)) Tryd.isAgg3 (by rfl)) (Wn.some rfl rfl rfl) rfl rfl ?_
                          refine WR.split (Ex.eql rfl rfl) (Wn.some rfl rfl rfl) rfl rfl (fun h14_10 => ?_) (fun h14_10 => ?_)
                          ·
                            refine WR.step (Ex.pickF rfl rfl) (Wn.some rfl rfl rfl) rfl rfl ?_
                            refine WR.step (Ex.pickT rfl rfl) (Wn.none rfl) rfl rfl ?_
                            refine WR.step (Ex.move rfl) (Wn.none rfl) rfl rfl ?_
                            refine WR.skipG (b := true) rfl rfl rfl rfl rfl ?_
                            refine WR.skipG (b := true) rfl rfl rfl rfl rfl ?_
                            refine WR.skipG (b := true) rfl rfl rfl rfl rfl ?_
                            refine WR.skipG (b := true) rfl rfl rfl rfl rfl ?_
                            refine WR.skipU rfl rfl rfl rfl rfl ?_
                            refine WR.skipU rfl rfl rfl rfl rfl ?_
                            refine WR.skipU rfl rfl rfl rfl rfl ?_
                            refine WR.skipU rfl rfl rfl rfl rfl ?_
                            refine WR.skipU rfl rfl rfl rfl rfl ?_
                            refine WR.skipU rfl rfl rfl rfl rfl ?_
                            refine WR.skipU rfl rfl rfl rfl rfl ?_
                            refine WR.skipU rfl rfl rfl rfl rfl ?_
                            refine WR.skipG (b := true) rfl rfl rfl rfl rfl ?_
                            refine WR.step (Ex.pickT rfl rfl) (Wn.none rfl) rfl rfl ?_
                            refine WR.step (Ex.move rfl) (Wn.none rfl) rfl rfl ?_
                            refine WR.skipG (b := true) rfl rfl rfl rfl rfl ?_
                            refine WR.skipG (b := true) rfl rfl rfl rfl rfl ?_
                            refine WR.skipG (b := true) rfl rfl rfl rfl rfl ?_
                            refine WR.skipG (b := true) rfl rfl rfl rfl rfl ?_
                            refine WR.skipU rfl rfl rfl rfl rfl ?_
                            refine WR.skipU rfl rfl rfl rfl rfl ?_
                            refine WR.skipU rfl rfl rfl rfl rfl ?_
                            refine WR.skipG (b := true) rfl rfl rfl rfl rfl ?_
                            refine WR.step (Ex.pickT rfl rfl) (Wn.none rfl) rfl rfl ?_
                            refine WR.step (Ex.assign rfl) (Wn.none rfl) rfl rfl ?_
                            refine WR.nil ?_
                            refine WQ.then ?_
                            refine WC.ret ?_
                            (repeat (first | refine WQ.thenRet ?_ | refine WQ.inBlockRet ?_))
                            refine WQ.ret1 rfl rfl H.ext ?_
                            refine congrArg Value.bool ?_
                            rw [con_eq, if_neg (by omega)]
                            unfold contC
                            rw [if_neg (by omega)]
                            rw [if_neg (by omega)]
                            rw [if_neg (by omega)]
                            rw [if_neg (by omega)]
                            rw [if_neg (by omega)]
                            first | rfl | exact (decide_eq_true (by omega)).symm | exact (decide_eq_false (by omega)).symm | exact decide_eq_decide.2 (by omega) | (exfalso; omega)
                          ·
                            refine WR.step (Ex.pickF rfl rfl) (Wn.some rfl rfl rfl) rfl rfl ?_
                            refine WR.step (Ex.pickT rfl rfl) (Wn.none rfl) rfl rfl ?_
                            refine WR.step (Ex.move rfl) (Wn.none rfl) rfl rfl ?_
                            refine WR.step (Ex.fieldAddr Tryd.underlying68 rfl Tryd.sizeOf3 (by decide) rfl) (Wn.some rfl rfl rfl) rfl rfl ?_
                            first | refine WR.step (Ex.loadM H rfl (by assumption) Tryd.isAgg3) (Wn.some rfl rfl rfl) rfl rfl ?_ | refine WR.step (Ex.load1 H rfl (by repeat (first | exact List.Mem.head _ | apply List.Mem.tail)) Tryd.isAgg3 (by rfl)) (Wn.some rfl rfl rfl) rfl rfl ?_
                            refine WR.split (Ex.eql rfl rfl) (Wn.some rfl rfl rfl) rfl rfl (fun h14_16 => ?_) (fun h14_16 => ?_)
                            ·
                              refine WR.step (Ex.move rfl) (Wn.some rfl rfl rfl) rfl rfl ?_
                              refine WR.step (Ex.fieldAddr Tryd.underlying68 rfl Tryd.sizeOf3 (by decide) rfl) (Wn.some rfl rfl rfl) rfl rfl ?_
                              first | refine WR.step (Ex.loadM H rfl (by assumption) Tryd.isAgg3) (Wn.some rfl rfl rfl) rfl rfl ?_ | refine WR.step (Ex.load1 H rfl (by repeat (first | exact List.Mem.head _ | apply List.Mem.tail)) Tryd.isAgg3 (by rfl)) (Wn.some rfl rfl rfl) rfl rfl ?_
                              refine WR.split (Ex.eql rfl rfl) (Wn.some rfl rfl rfl) rfl rfl (fun h14_20 => ?_) (fun h14_20 => ?_)
                              ·
                                refine WR.step (Ex.move rfl) (Wn.some rfl rfl rfl) rfl rfl ?_
                                refine WR.skipG (b := true) rfl rfl rfl rfl rfl ?_
                                refine WR.skipG (b := true) rfl rfl rfl rfl rfl ?_
                                refine WR.skipG (b := true) rfl rfl rfl rfl rfl ?_
                                refine WR.step (Ex.pickT rfl rfl) (Wn.some rfl rfl rfl) rfl rfl ?_
                                refine WR.step (Ex.pickT rfl rfl) (Wn.some rfl rfl rfl) rfl rfl ?_
                                refine WR.step (Ex.pickF rfl rfl) (Wn.none rfl) rfl rfl ?_
                                refine WR.step (Ex.move rfl) (Wn.none rfl) rfl rfl ?_
                                refine WR.skipG (b := true) rfl rfl rfl rfl rfl ?_
                                refine WR.skipG (b := true) rfl rfl rfl rfl rfl ?_
                                refine WR.skipG (b := true) rfl rfl rfl rfl rfl ?_
                                refine WR.skipG (b := true) rfl rfl rfl rfl rfl ?_
                                refine WR.skipU rfl rfl rfl rfl rfl ?_
                                refine WR.skipU rfl rfl rfl rfl rfl ?_
                                refine WR.skipU rfl rfl rfl rfl rfl ?_
                                refine WR.skipG (b := true) rfl rfl rfl rfl rfl ?_
                                refine WR.step (Ex.pickT rfl rfl) (Wn.none rfl) rfl rfl ?_
                                refine WR.step (Ex.assign rfl) (Wn.none rfl) rfl rfl ?_
                                refine WR.nil ?_
                                refine WQ.then ?_
                                refine WC.ret ?_
                                (repeat (first | refine WQ.thenRet ?_ | refine WQ.inBlockRet ?_))
                                refine WQ.ret1 rfl rfl H.ext ?_
                                refine congrArg Value.bool ?_
                                rw [con_eq, if_neg (by omega)]
                                unfold contC
                                rw [if_neg (by omega)]
                                rw [if_neg (by omega)]
                                rw [if_neg (by omega)]
                                rw [if_neg (by omega)]
                                rw [if_neg (by omega)]
                                first | rfl | exact (decide_eq_true (by omega)).symm | exact (decide_eq_false (by omega)).symm | exact decide_eq_decide.2 (by omega) | (exfalso; omega)
                              ·
                                refine WR.step (Ex.move rfl) (Wn.some rfl rfl rfl) rfl rfl ?_
                                refine WR.step (Ex.fieldAddr Tryd.underlying68 rfl Tryd.sizeOf3 (by decide) rfl) (Wn.some rfl rfl rfl) rfl rfl ?_
                                first | refine WR.step (Ex.loadM H rfl (by assumption) Tryd.isAgg3) (Wn.some rfl rfl rfl) rfl rfl ?_ | refine WR.step (Ex.load1 H rfl (by repeat (first | exact List.Mem.head _ | apply List.Mem.tail)) Tryd.isAgg3 (by rfl)) (Wn.some rfl rfl rfl) rfl rfl ?_
                                refine WR.split (Ex.eql rfl rfl) (Wn.some rfl rfl rfl) rfl rfl (fun h14_24 => ?_) (fun h14_24 => ?_)
                                ·
                                  refine WR.step (Ex.pickF rfl rfl) (Wn.some rfl rfl rfl) rfl rfl ?_
                                  refine WR.step (Ex.pickT rfl rfl) (Wn.some rfl rfl rfl) rfl rfl ?_
                                  refine WR.step (Ex.pickF rfl rfl) (Wn.none rfl) rfl rfl ?_
                                  refine WR.step (Ex.move rfl) (Wn.none rfl) rfl rfl ?_
                                  refine WR.skipG (b := true) rfl rfl rfl rfl rfl ?_
                                  refine WR.skipG (b := true) rfl rfl rfl rfl rfl ?_
                                  refine WR.skipG (b := true) rfl rfl rfl rfl rfl ?_
                                  refine WR.skipG (b := true) rfl rfl rfl rfl rfl ?_
                                  refine WR.skipU rfl rfl rfl rfl rfl ?_
                                  refine WR.skipU rfl rfl rfl rfl rfl ?_
                                  refine WR.skipU rfl rfl rfl rfl rfl ?_
                                  refine WR.skipG (b := true) rfl rfl rfl rfl rfl ?_
                                  refine WR.step (Ex.pickT rfl rfl) (Wn.none rfl) rfl rfl ?_
                                  refine WR.step (Ex.assign rfl) (Wn.none rfl) rfl rfl ?_
                                  refine WR.nil ?_
                                  refine WQ.then ?_
                                  refine WC.ret ?_
                                  (repeat (first | refine WQ.thenRet ?_ | refine WQ.inBlockRet ?_))
                                  refine WQ.ret1 rfl rfl H.ext ?_
                                  refine congrArg Value.bool ?_
                                  rw [con_eq, if_neg (by omega)]
                                  unfold contC
                                  rw [if_neg (by omega)]
                                  rw [if_neg (by omega)]
                                  rw [if_neg (by omega)]
                                  rw [if_neg (by omega)]
                                  rw [if_neg (by omega)]
                                  first | rfl | exact (decide_eq_true (by omega)).symm | exact (decide_eq_false (by omega)).symm | exact decide_eq_decide.2 (by omega) | (exfalso; omega)
                                ·
                                  refine WR.step (Ex.pickF rfl rfl) (Wn.some rfl rfl rfl) rfl rfl ?_
                                  refine WR.step (Ex.pickT rfl rfl) (Wn.some rfl rfl rfl) rfl rfl ?_
                                  refine WR.step (Ex.pickF rfl rfl) (Wn.none rfl) rfl rfl ?_
                                  refine WR.step (Ex.move rfl) (Wn.none rfl) rfl rfl ?_
                                  refine WR.step (Ex.fieldAddr Tryd.underlying68 rfl Tryd.sizeOf3 (by decide) rfl) (Wn.some rfl rfl rfl) rfl rfl ?_
                                  first | refine WR.step (Ex.loadM H rfl (by assumption) Tryd.isAgg3) (Wn.some rfl rfl rfl) rfl rfl ?_ | refine WR.step (Ex.load1 H rfl (by repeat (first | exact List.Mem.head _ | apply List.Mem.tail)) Tryd.isAgg3 (by rfl)) (Wn.some rfl rfl rfl) rfl rfl ?_
                                  refine WR.split (Ex.eql rfl rfl) (Wn.some rfl rfl rfl) rfl rfl (fun h14_31 => ?_) (fun h14_31 => ?_)
                                  ·
                                    refine WR.step (Ex.move rfl) (Wn.some rfl rfl rfl) rfl rfl ?_
                                    refine WR.step (Ex.fieldAddr Tryd.underlying68 rfl Tryd.sizeOf3 (by decide) rfl) (Wn.some rfl rfl rfl) rfl rfl ?_
                                    first | refine WR.step (Ex.loadM H rfl (by assumption) Tryd.isAgg3) (Wn.some rfl rfl rfl) rfl rfl ?_ | refine WR.step (Ex.load1 H rfl (by repeat (first | exact List.Mem.head _ | apply List.Mem.tail)) Tryd.isAgg3 (by rfl)) (Wn.some rfl rfl rfl) rfl rfl ?_
                                    refine WR.step (Ex.eql rfl rfl) (Wn.some rfl rfl rfl) rfl rfl ?_
                                    refine WR.step (Ex.pickT rfl rfl) (Wn.some rfl rfl rfl) rfl rfl ?_
                                    refine WR.step (Ex.pickF rfl rfl) (Wn.none rfl) rfl rfl ?_
                                    refine WR.step (Ex.assign rfl) (Wn.none rfl) rfl rfl ?_
                                    refine WR.nil ?_
                                    refine WQ.then ?_
                                    refine WC.ret ?_
                                    (repeat (first | refine WQ.thenRet ?_ | refine WQ.inBlockRet ?_))
                                    refine WQ.ret1 rfl rfl H.ext ?_
                                    refine congrArg Value.bool ?_
                                    rw [con_eq, if_neg (by omega)]
                                    unfold contC
                                    rw [if_neg (by omega)]
                                    rw [if_neg (by omega)]
                                    rw [if_neg (by omega)]
                                    rw [if_neg (by omega)]
                                    rw [if_neg (by omega)]
                                    first | rfl | exact (decide_eq_true (by omega)).symm | exact (decide_eq_false (by omega)).symm | exact decide_eq_decide.2 (by omega) | (exfalso; omega)
                                  ·
                                    refine WR.step (Ex.move rfl) (Wn.some rfl rfl rfl) rfl rfl ?_
                                    refine WR.skipG (b := false) rfl rfl rfl rfl rfl ?_
                                    refine WR.skipG (b := false) rfl rfl rfl rfl rfl ?_
                                    refine WR.skipG (b := false) rfl rfl rfl rfl rfl ?_
                                    refine WR.step (Ex.pickF rfl rfl) (Wn.some rfl rfl rfl) rfl rfl ?_
                                    refine WR.step (Ex.pickF rfl rfl) (Wn.none rfl) rfl rfl ?_
                                    refine WR.step (Ex.assign rfl) (Wn.none rfl) rfl rfl ?_
                                    refine WR.nil ?_
                                    refine WQ.then ?_
                                    refine WC.ret ?_
                                    (repeat (first | refine WQ.thenRet ?_ | refine WQ.inBlockRet ?_))
                                    refine WQ.ret1 rfl rfl H.ext ?_
                                    refine congrArg Value.bool ?_
                                    rw [con_eq, if_neg (by omega)]
                                    unfold contC
                                    rw [if_neg (by omega)]
                                    rw [if_neg (by omega)]
                                    rw [if_neg (by omega)]
                                    rw [if_neg (by omega)]
                                    rw [if_neg (by omega)]
                                    first | rfl | exact (decide_eq_true (by omega)).symm | exact (decide_eq_false (by omega)).symm | exact decide_eq_decide.2 (by omega) | (exfalso; omega)
                            ·
                              refine WR.step (Ex.move rfl) (Wn.some rfl rfl rfl) rfl rfl ?_
                              refine WR.skipG (b := false) rfl rfl rfl rfl rfl ?_
                              refine WR.skipG (b := false) rfl rfl rfl rfl rfl ?_
                              refine WR.skipG (b := false) rfl rfl rfl rfl rfl ?_
                              refine WR.skipG (b := false) rfl rfl rfl rfl rfl ?_
                              refine WR.skipU rfl rfl rfl rfl rfl ?_
                              refine WR.skipU rfl rfl rfl rfl rfl ?_
                              refine WR.skipU rfl rfl rfl rfl rfl ?_
                              refine WR.skipG (b := false) rfl rfl rfl rfl rfl ?_
                              refine WR.step (Ex.pickF rfl rfl) (Wn.some rfl rfl rfl) rfl rfl ?_
                              refine WR.step (Ex.pickF rfl rfl) (Wn.none rfl) rfl rfl ?_
                              refine WR.step (Ex.move rfl) (Wn.none rfl) rfl rfl ?_
                              refine WR.step (Ex.fieldAddr Tryd.underlying68 rfl Tryd.sizeOf3 (by decide) rfl) (Wn.some rfl rfl rfl) rfl rfl ?_
                              first | refine WR.step (Ex.loadM H rfl (by assumption) Tryd.isAgg3) (Wn.some rfl rfl rfl) rfl rfl ?_ | refine WR.step (Ex.load1 H rfl (by repeat (first | exact List.Mem.head _ | apply List.Mem.tail)) Tryd.isAgg3 (by rfl)) (Wn.some rfl rfl rfl) rfl rfl ?_
                              refine WR.split (Ex.eql rfl rfl) (Wn.some rfl rfl rfl) rfl rfl (fun h14_31 => ?_) (fun h14_31 => ?_)
                              ·
                                refine WR.step (Ex.move rfl) (Wn.some rfl rfl rfl) rfl rfl ?_
                                refine WR.step (Ex.fieldAddr Tryd.underlying68 rfl Tryd.sizeOf3 (by decide) rfl) (Wn.some rfl rfl rfl) rfl rfl ?_
                                first | refine WR.step (Ex.loadM H rfl (by assumption) Tryd.isAgg3) (Wn.some rfl rfl rfl) rfl rfl ?_ | refine WR.step (Ex.load1 H rfl (by repeat (first | exact List.Mem.head _ | apply List.Mem.tail)) Tryd.isAgg3 (by rfl)) (Wn.some rfl rfl rfl) rfl rfl ?_
                                refine WR.step (Ex.eql rfl rfl) (Wn.some rfl rfl rfl) rfl rfl ?_
                                refine WR.step (Ex.pickT rfl rfl) (Wn.some rfl rfl rfl) rfl rfl ?_
                                refine WR.step (Ex.pickF rfl rfl) (Wn.none rfl) rfl rfl ?_
                                refine WR.step (Ex.assign rfl) (Wn.none rfl) rfl rfl ?_
                                refine WR.nil ?_
                                refine WQ.then ?_
                                refine WC.ret ?_
                                (repeat (first | refine WQ.thenRet ?_ | refine WQ.inBlockRet ?_))
                                refine WQ.ret1 rfl rfl H.ext ?_
                                refine congrArg Value.bool ?_
                                rw [con_eq, if_neg (by omega)]
                                unfold contC
                                rw [if_neg (by omega)]
                                rw [if_neg (by omega)]
                                rw [if_neg (by omega)]
                                rw [if_neg (by omega)]
                                rw [if_neg (by omega)]
                                first | rfl | exact (decide_eq_true (by omega)).symm | exact (decide_eq_false (by omega)).symm | exact decide_eq_decide.2 (by omega) | (exfalso; omega)
                              ·
                                refine WR.step (Ex.move rfl) (Wn.some rfl rfl rfl) rfl rfl ?_
                                refine WR.skipG (b := false) rfl rfl rfl rfl rfl ?_
                                refine WR.skipG (b := false) rfl rfl rfl rfl rfl ?_
                                refine WR.skipG (b := false) rfl rfl rfl rfl rfl ?_
                                refine WR.step (Ex.pickF rfl rfl) (Wn.some rfl rfl rfl) rfl rfl ?_
                                refine WR.step (Ex.pickF rfl rfl) (Wn.none rfl) rfl rfl ?_
                                refine WR.step (Ex.assign rfl) (Wn.none rfl) rfl rfl ?_
                                refine WR.nil ?_
                                refine WQ.then ?_
                                refine WC.ret ?_
                                (repeat (first | refine WQ.thenRet ?_ | refine WQ.inBlockRet ?_))
                                refine WQ.ret1 rfl rfl H.ext ?_
                                refine congrArg Value.bool ?_
                                rw [con_eq, if_neg (by omega)]
                                unfold contC
                                rw [if_neg (by omega)]
                                rw [if_neg (by omega)]
                                rw [if_neg (by omega)]
                                rw [if_neg (by omega)]
                                rw [if_neg (by omega)]
                                first | rfl | exact (decide_eq_true (by omega)).symm | exact (decide_eq_false (by omega)).symm | exact decide_eq_decide.2 (by omega) | (exfalso; omega)
                      ·
                        refine WR.step (Ex.move rfl) (Wn.none rfl) rfl rfl ?_
                        refine WR.skipG (b := false) rfl rfl rfl rfl rfl ?_
                        refine WR.skipG (b := false) rfl rfl rfl rfl rfl ?_
                        refine WR.skipG (b := false) rfl rfl rfl rfl rfl ?_
                        refine WR.skipG (b := false) rfl rfl rfl rfl rfl ?_
                        refine WR.skipU rfl rfl rfl rfl rfl ?_
                        refine WR.skipU rfl rfl rfl rfl rfl ?_
                        refine WR.skipU rfl rfl rfl rfl rfl ?_
                        refine WR.skipG (b := false) rfl rfl rfl rfl rfl ?_
                        refine WR.step (Ex.pickF rfl rfl) (Wn.none rfl) rfl rfl ?_
                        refine WR.step (Ex.move rfl) (Wn.none rfl) rfl rfl ?_
                        refine WR.step (Ex.fieldAddr Tryd.underlying68 rfl Tryd.sizeOf3 (by decide) rfl) (Wn.some rfl rfl rfl) rfl rfl ?_
                        first | refine WR.step (Ex.loadM H rfl (by assumption) Tryd.isAgg3) (Wn.some rfl rfl rfl) rfl rfl ?_ | refine WR.step (Ex.load1 H rfl (by repeat (first | exact List.Mem.head _ | apply List.Mem.tail)) Tryd.isAgg3 (by rfl)) (Wn.some rfl rfl rfl) rfl rfl ?_
                        refine WR.split (Ex.eql rfl rfl) (Wn.some rfl rfl rfl) rfl rfl (fun h14_16 => ?_) (fun h14_16 => ?_)
                        ·
                          refine WR.step (Ex.move rfl) (Wn.some rfl rfl rfl) rfl rfl ?_
                          refine WR.step (Ex.fieldAddr Tryd.underlying68 rfl Tryd.sizeOf3 (by decide) rfl) (Wn.some rfl rfl rfl) rfl rfl ?_
                          first | refine WR.step (Ex.loadM H rfl (by assumption) Tryd.isAgg3) (Wn.some rfl rfl rfl) rfl rfl ?_ | refine WR.step (Ex.load1 H rfl (by repeat (first | exact List.Mem.head _ | apply List.Mem.tail)) Tryd.isAgg3 (by rfl)) (Wn.some rfl rfl rfl) rfl rfl ?_
                          refine WR.split (Ex.eql rfl rfl) (Wn.some rfl rfl rfl) rfl rfl (fun h14_20 => ?_) (fun h14_20 => ?_)
                          ·
                            refine WR.step (Ex.move rfl) (Wn.some rfl rfl rfl) rfl rfl ?_
                            refine WR.skipG (b := true) rfl rfl rfl rfl rfl ?_
                            refine WR.skipG (b := true) rfl rfl rfl rfl rfl ?_
                            refine WR.skipG (b := true) rfl rfl rfl rfl rfl ?_
                            refine WR.step (Ex.pickT rfl rfl) (Wn.some rfl rfl rfl) rfl rfl ?_
                            refine WR.step (Ex.pickT rfl rfl) (Wn.some rfl rfl rfl) rfl rfl ?_
                            refine WR.step (Ex.pickF rfl rfl) (Wn.none rfl) rfl rfl ?_
                            refine WR.step (Ex.move rfl) (Wn.none rfl) rfl rfl ?_
                            refine WR.skipG (b := true) rfl rfl rfl rfl rfl ?_
                            refine WR.skipG (b := true) rfl rfl rfl rfl rfl ?_
                            refine WR.skipG (b := true) rfl rfl rfl rfl rfl ?_
                            refine WR.skipG (b := true) rfl rfl rfl rfl rfl ?_
                            refine WR.skipU rfl rfl rfl rfl rfl ?_
                            refine WR.skipU rfl rfl rfl rfl rfl ?_
                            refine WR.skipU rfl rfl rfl rfl rfl ?_
                            refine WR.skipG (b := true) rfl rfl rfl rfl rfl ?_
                            refine WR.step (Ex.pickT rfl rfl) (Wn.none rfl) rfl rfl ?_
                            refine WR.step (Ex.assign rfl) (Wn.none rfl) rfl rfl ?_
                            refine WR.nil ?_
                            refine WQ.then ?_
                            refine WC.ret ?_
                            (repeat (first | refine WQ.thenRet ?_ | refine WQ.inBlockRet ?_))
                            refine WQ.ret1 rfl rfl H.ext ?_
                            refine congrArg Value.bool ?_
                            rw [con_eq, if_neg (by omega)]
                            unfold contC
                            rw [if_neg (by omega)]
                            rw [if_neg (by omega)]
                            rw [if_neg (by omega)]
                            rw [if_neg (by omega)]
                            rw [if_neg (by omega)]
                            first | rfl | exact (decide_eq_true (by omega)).symm | exact (decide_eq_false (by omega)).symm | exact decide_eq_decide.2 (by omega) | (exfalso; omega)
                          ·
                            refine WR.step (Ex.move rfl) (Wn.some rfl rfl rfl) rfl rfl ?_
                            refine WR.step (Ex.fieldAddr Tryd.underlying68 rfl Tryd.sizeOf3 (by decide) rfl) (Wn.some rfl rfl rfl) rfl rfl ?_
                            first | refine WR.step (Ex.loadM H rfl (by assumption) Tryd.isAgg3) (Wn.some rfl rfl rfl) rfl rfl ?_ | refine WR.step (Ex.load1 H rfl (by repeat (first | exact List.Mem.head _ | apply List.Mem.tail)) Tryd.isAgg3 (by rfl)) (Wn.some rfl rfl rfl) rfl rfl ?_
                            refine WR.split (Ex.eql rfl rfl) (Wn.some rfl rfl rfl) rfl rfl (fun h14_24 => ?_) (fun h14_24 => ?_)
                            ·
                              refine WR.step (Ex.pickF rfl rfl) (Wn.some rfl rfl rfl) rfl rfl ?_
                              refine WR.step (Ex.pickT rfl rfl) (Wn.some rfl rfl rfl) rfl rfl ?_
                              refine WR.step (Ex.pickF rfl rfl) (Wn.none rfl) rfl rfl ?_
                              refine WR.step (Ex.move rfl) (Wn.none rfl) rfl rfl ?_
                              refine WR.skipG (b := true) rfl rfl rfl rfl rfl ?_
                              refine WR.skipG (b := true) rfl rfl rfl rfl rfl ?_
                              refine WR.skipG (b := true) rfl rfl rfl rfl rfl ?_
                              refine WR.skipG (b := true) rfl rfl rfl rfl rfl ?_
                              refine WR.skipU rfl rfl rfl rfl rfl ?_
                              refine WR.skipU rfl rfl rfl rfl rfl ?_
                              refine WR.skipU rfl rfl rfl rfl rfl ?_
                              refine WR.skipG (b := true) rfl rfl rfl rfl rfl ?_
                              refine WR.step (Ex.pickT rfl rfl) (Wn.none rfl) rfl rfl ?_
                              refine WR.step (Ex.assign rfl) (Wn.none rfl) rfl rfl ?_
                              refine WR.nil ?_
                              refine WQ.then ?_
                              refine WC.ret ?_
                              (repeat (first | refine WQ.thenRet ?_ | refine WQ.inBlockRet ?_))
                              refine WQ.ret1 rfl rfl H.ext ?_
                              refine congrArg Value.bool ?_
                              rw [con_eq, if_neg (by omega)]
                              unfold contC
                              rw [if_neg (by omega)]
                              rw [if_neg (by omega)]
                              rw [if_neg (by omega)]
                              rw [if_neg (by omega)]
                              rw [if_neg (by omega)]
                              first | rfl | exact (decide_eq_true (by omega)).symm | exact (decide_eq_false (by omega)).symm | exact decide_eq_decide.2 (by omega) | (exfalso; omega)
                            ·
                              refine WR.step (Ex.pickF rfl rfl) (Wn.some rfl rfl rfl) rfl rfl ?_
                              refine WR.step (Ex.pickT rfl rfl) (Wn.some rfl rfl rfl) rfl rfl ?_
                              refine WR.step (Ex.pickF rfl rfl) (Wn.none rfl) rfl rfl ?_
                              refine WR.step (Ex.move rfl) (Wn.none rfl) rfl rfl ?_
                              refine WR.step (Ex.fieldAddr Tryd.underlying68 rfl Tryd.sizeOf3 (by decide) rfl) (Wn.some rfl rfl rfl) rfl rfl ?_
                              first | refine WR.step (Ex.loadM H rfl (by assumption) Tryd.isAgg3) (Wn.some rfl rfl rfl) rfl rfl ?_ | refine WR.step (Ex.load1 H rfl (by repeat (first | exact List.Mem.head _ | apply List.Mem.tail)) Tryd.isAgg3 (by rfl)) (Wn.some rfl rfl rfl) rfl rfl ?_
                              refine WR.split (Ex.eql rfl rfl) (Wn.some rfl rfl rfl) rfl rfl (fun h14_31 => ?_) (fun h14_31 => ?_)
                              ·
                                refine WR.step (Ex.move rfl) (Wn.some rfl rfl rfl) rfl rfl ?_
                                refine WR.step (Ex.fieldAddr Tryd.underlying68 rfl Tryd.sizeOf3 (by decide) rfl) (Wn.some rfl rfl rfl) rfl rfl ?_
                                first | refine WR.step (Ex.loadM H rfl (by assumption) Tryd.isAgg3) (Wn.some rfl rfl rfl) rfl rfl ?_ | refine WR.step (Ex.load1 H rfl (by repeat (first | exact List.Mem.head _ | apply List.Mem.tail)) Tryd.isAgg3 (by rfl)) (Wn.some rfl rfl rfl) rfl rfl ?_
                                refine WR.step (Ex.eql rfl rfl) (Wn.some rfl rfl rfl) rfl rfl ?_
                                refine WR.step (Ex.pickT rfl rfl) (Wn.some rfl rfl rfl) rfl rfl ?_
                                refine WR.step (Ex.pickF rfl rfl) (Wn.none rfl) rfl rfl ?_
                                refine WR.step (Ex.assign rfl) (Wn.none rfl) rfl rfl ?_
                                refine WR.nil ?_
                                refine WQ.then ?_
                                refine WC.ret ?_
                                (repeat (first | refine WQ.thenRet ?_ | refine WQ.inBlockRet ?_))
                                refine WQ.ret1 rfl rfl H.ext ?_
                                refine congrArg Value.bool ?_
                                rw [con_eq, if_neg (by omega)]
                                unfold contC
                                rw [if_neg (by omega)]
                                rw [if_neg (by omega)]
                                rw [if_neg (by omega)]
                                rw [if_neg (by omega)]
                                rw [if_neg (by omega)]
                                first | rfl | exact (decide_eq_true (by omega)).symm | exact (decide_eq_false (by omega)).symm | exact decide_eq_decide.2 (by omega) | (exfalso; omega)
                              ·
                                refine WR.step (Ex.move rfl) (Wn.some rfl rfl rfl) rfl rfl ?_
                                refine WR.skipG (b := false) rfl rfl rfl rfl rfl ?_
                                refine WR.skipG (b := false) rfl rfl rfl rfl rfl ?_
                                refine WR.skipG (b := false) rfl rfl rfl rfl rfl ?_
                                refine WR.step (Ex.pickF rfl rfl) (Wn.some rfl rfl rfl) rfl rfl ?_
                                refine WR.step (Ex.pickF rfl rfl) (Wn.none rfl) rfl rfl ?_
                                refine WR.step (Ex.assign rfl) (Wn.none rfl) rfl rfl ?_
                                refine WR.nil ?_
                                refine WQ.then ?_
                                refine WC.ret ?_
                                (repeat (first | refine WQ.thenRet ?_ | refine WQ.inBlockRet ?_))
                                refine WQ.ret1 rfl rfl H.ext ?_
                                refine congrArg Value.bool ?_
                                rw [con_eq, if_neg (by omega)]
                                unfold contC
                                rw [if_neg (by omega)]
                                rw [if_neg (by omega)]
                                rw [if_neg (by omega)]
                                rw [if_neg (by omega)]
                                rw [if_neg (by omega)]
                                first | rfl | exact (decide_eq_true (by omega)).symm | exact (decide_eq_false (by omega)).symm | exact decide_eq_decide.2 (by omega) | (exfalso; omega)
                        ·
                          refine WR.step (Ex.move rfl) (Wn.some rfl rfl rfl) rfl rfl ?_
                          refine WR.skipG (b := false) rfl rfl rfl rfl rfl ?_
                          refine WR.skipG (b := false) rfl rfl rfl rfl rfl ?_
                          refine WR.skipG (b := false) rfl rfl rfl rfl rfl ?_
                          refine WR.skipG (b := false) rfl rfl rfl rfl rfl ?_
                          refine WR.skipU rfl rfl rfl rfl rfl ?_
                          refine WR.skipU rfl rfl rfl rfl rfl ?_
                          refine WR.skipU rfl rfl rfl rfl rfl ?_
                          refine WR.skipG (b := false) rfl rfl rfl rfl rfl ?_
                          refine WR.step (Ex.pickF rfl rfl) (Wn.some rfl rfl rfl) rfl rfl ?_
                          refine WR.step (Ex.pickF rfl rfl) (Wn.none rfl) rfl rfl ?_
                          refine WR.step (Ex.move rfl) (Wn.none rfl) rfl rfl ?_
                          refine WR.step (Ex.fieldAddr Tryd.underlying68 rfl Tryd.sizeOf3 (by decide) rfl) (Wn.some rfl rfl rfl) rfl rfl ?_
                          first | refine WR.step (Ex.loadM H rfl (by assumption) Tryd.isAgg3) (Wn.some rfl rfl rfl) rfl rfl ?_ | refine WR.step (Ex.load1 H rfl (by repeat (first | exact List.Mem.head _ | apply List.Mem.tail)) Tryd.isAgg3 (by rfl)) (Wn.some rfl rfl rfl) rfl rfl ?_
                          refine WR.split (Ex.eql rfl rfl) (Wn.some rfl rfl rfl) rfl rfl (fun h14_31 => ?_) (fun h14_31 => ?_)
                          ·
                            refine WR.step (Ex.move rfl) (Wn.some rfl rfl rfl) rfl rfl ?_
                            refine WR.step (Ex.fieldAddr Tryd.underlying68 rfl Tryd.sizeOf3 (by decide) rfl) (Wn.some rfl rfl rfl) rfl rfl ?_
                            first | refine WR.step (Ex.loadM H rfl (by assumption) Tryd.isAgg3) (Wn.some rfl rfl rfl) rfl rfl ?_ | refine WR.step (Ex.load1 H rfl (by repeat (first | exact List.Mem.head _ | apply List.Mem.tail)) Tryd.isAgg3 (by rfl)) (Wn.some rfl rfl rfl) rfl rfl ?_
                            refine WR.step (Ex.eql rfl rfl) (Wn.some rfl rfl rfl) rfl rfl ?_
                            refine WR.step (Ex.pickT rfl rfl) (Wn.some rfl rfl rfl) rfl rfl ?_
                            refine WR.step (Ex.pickF rfl rfl) (Wn.none rfl) rfl rfl ?_
                            refine WR.step (Ex.assign rfl) (Wn.none rfl) rfl rfl ?_
                            refine WR.nil ?_
                            refine WQ.then ?_
                            refine WC.ret ?_
                            (repeat (first | refine WQ.thenRet ?_ | refine WQ.inBlockRet ?_))
                            refine WQ.ret1 rfl rfl H.ext ?_
                            refine congrArg Value.bool ?_
                            rw [con_eq, if_neg (by omega)]
                            unfold contC
                            rw [if_neg (by omega)]
                            rw [if_neg (by omega)]
                            rw [if_neg (by omega)]
                            rw [if_neg (by omega)]
                            rw [if_neg (by omega)]
                            first | rfl | exact (decide_eq_true (by omega)).symm | exact (decide_eq_false (by omega)).symm | exact decide_eq_decide.2 (by omega) | (exfalso; omega)
                          ·
                            refine WR.step (Ex.move rfl) (Wn.some rfl rfl rfl) rfl rfl ?_
                            refine WR.skipG (b := false) rfl rfl rfl rfl rfl ?_
                            refine WR.skipG (b := false) rfl rfl rfl rfl rfl ?_
                            refine WR.skipG (b := false) rfl rfl rfl rfl rfl ?_
                            refine WR.step (Ex.pickF rfl rfl) (Wn.some rfl rfl rfl) rfl rfl ?_
                            refine WR.step (Ex.pickF rfl rfl) (Wn.none rfl) rfl rfl ?_
                            refine WR.step (Ex.assign rfl) (Wn.none rfl) rfl rfl ?_
                            refine WR.nil ?_
                            refine WQ.then ?_
                            refine WC.ret ?_
                            (repeat (first | refine WQ.thenRet ?_ | refine WQ.inBlockRet ?_))
                            refine WQ.ret1 rfl rfl H.ext ?_
                            refine congrArg Value.bool ?_
                            rw [con_eq, if_neg (by omega)]
                            unfold contC
                            rw [if_neg (by omega)]
                            rw [if_neg (by omega)]
                            rw [if_neg (by omega)]
                            rw [if_neg (by omega)]
                            rw [if_neg (by omega)]
                            first | rfl | exact (decide_eq_true (by omega)).symm | exact (decide_eq_false (by omega)).symm | exact decide_eq_decide.2 (by omega) | (exfalso; omega)
      ·
        refine WR.step (Ex.move rfl) (Wn.none rfl) rfl rfl ?_
        refine WR.skipG (b := false) rfl rfl rfl rfl rfl ?_
        refine WR.skipG (b := false) rfl rfl rfl rfl rfl ?_
        refine WR.skipG (b := false) rfl rfl rfl rfl rfl ?_
        refine WR.step (Ex.pickF rfl rfl) (Wn.none rfl) rfl rfl ?_
        refine WR.step (Ex.assign rfl) (Wn.none rfl) rfl rfl ?_
        refine WR.nil ?_
        refine WQ.then ?_
        refine WC.condF rfl ?_
        refine WC.seq ?_
        refine WC.region ?_
        refine WR.step (Ex.move rfl) (Wn.none rfl) rfl rfl ?_
        refine WR.step (Ex.fieldAddr Tryd.underlying68 rfl Tryd.sizeOf3 (by decide) rfl) (Wn.none rfl) rfl rfl ?_
        first | refine WR.step (Ex.loadM H rfl (by assumption) Tryd.isAgg3) (Wn.none rfl) rfl rfl ?_ | refine WR.step (Ex.load1 H rfl (by repeat (first | exact List.Mem.head _ | apply List.Mem.tail)) Tryd.isAgg3 (by rfl)) (Wn.none rfl) rfl rfl ?_
        by_cases h6_3 : 1 ≤ cls a ∧ cls a ≤ 3
        ·
          refine WR.callV (cap := []) H (Ct.mono (hard_spec _) (R' := fun r _ => r = .bool true) (fun _ _ h => h.trans (congrArg Value.bool (decide_eq_true h6_3)))) rfl rfl (trivial) (Wn.none rfl) rfl ?_
          intro v28 M w H hle hr28
          obtain rfl := hr28
          refine WR.step (Ex.move rfl) (Wn.none rfl) rfl rfl ?_
          refine WR.skipG (b := true) rfl rfl rfl rfl rfl ?_
          refine WR.skipG (b := true) rfl rfl rfl rfl rfl ?_
          refine WR.skipG (b := true) rfl rfl rfl rfl rfl ?_
          refine WR.skipG (b := true) rfl rfl rfl rfl rfl ?_
          refine WR.step (Ex.pickT rfl rfl) (Wn.none rfl) rfl rfl ?_
          refine WR.step (Ex.assign rfl) (Wn.none rfl) rfl rfl ?_
          refine WR.nil ?_
          refine WQ.then ?_
          refine WC.condT rfl ?_
          refine WC.seq ?_
          refine WC.region ?_
          refine WR.step (Ex.assign rfl) (Wn.none rfl) rfl rfl ?_
          refine WR.nil ?_
          refine WQ.then ?_
          refine WC.ret ?_
          (repeat (first | refine WQ.thenRet ?_ | refine WQ.inBlockRet ?_))
          refine WQ.ret1 rfl rfl H.ext ?_
          refine congrArg Value.bool ?_
          rw [con_eq, if_neg (by omega)]
          unfold contC
          rw [if_neg (by omega)]
          rw [if_pos (by omega)]
        ·
          refine WR.callV (cap := []) H (Ct.mono (hard_spec _) (R' := fun r _ => r = .bool false) (fun _ _ h => h.trans (congrArg Value.bool (decide_eq_false h6_3)))) rfl rfl (trivial) (Wn.none rfl) rfl ?_
          intro v28 M w H hle hr28
          obtain rfl := hr28
          refine WR.step (Ex.move rfl) (Wn.none rfl) rfl rfl ?_
          refine WR.step (Ex.move rfl) (Wn.some rfl rfl rfl) rfl rfl ?_
          refine WR.step (Ex.fieldAddr Tryd.underlying68 rfl Tryd.sizeOf3 (by decide) rfl) (Wn.some rfl rfl rfl) rfl rfl ?_
          first | refine WR.step (Ex.loadM H rfl (by assumption) Tryd.isAgg3) (Wn.some rfl rfl rfl) rfl rfl ?_ | refine WR.step (Ex.load1 H rfl (by repeat (first | exact List.Mem.head _ | apply List.Mem.tail)) Tryd.isAgg3 (by rfl)) (Wn.some rfl rfl rfl) rfl rfl ?_
          by_cases h6_8 : 1 ≤ cls b ∧ cls b ≤ 3
          ·
            refine WR.callV (cap := []) H (Ct.mono (hard_spec _) (R' := fun r _ => r = .bool true) (fun _ _ h => h.trans (congrArg Value.bool (decide_eq_true h6_8)))) rfl rfl (trivial) (Wn.some rfl rfl rfl) rfl ?_
            intro v33 M w H hle hr33
            obtain rfl := hr33
            refine WR.step (Ex.pickF rfl rfl) (Wn.none rfl) rfl rfl ?_
            refine WR.step (Ex.assign rfl) (Wn.none rfl) rfl rfl ?_
            refine WR.nil ?_
            refine WQ.then ?_
            refine WC.condT rfl ?_
            refine WC.seq ?_
            refine WC.region ?_
            refine WR.step (Ex.assign rfl) (Wn.none rfl) rfl rfl ?_
            refine WR.nil ?_
            refine WQ.then ?_
            refine WC.ret ?_
            (repeat (first | refine WQ.thenRet ?_ | refine WQ.inBlockRet ?_))
            refine WQ.ret1 rfl rfl H.ext ?_
            refine congrArg Value.bool ?_
            rw [con_eq, if_neg (by omega)]
            unfold contC
            rw [if_neg (by omega)]
            rw [if_pos (by omega)]
          ·
            refine WR.callV (cap := []) H (Ct.mono (hard_spec _) (R' := fun r _ => r = .bool false) (fun _ _ h => h.trans (congrArg Value.bool (decide_eq_false h6_8)))) rfl rfl (trivial) (Wn.some rfl rfl rfl) rfl ?_
            intro v33 M w H hle hr33
            obtain rfl := hr33
            refine WR.step (Ex.pickF rfl rfl) (Wn.none rfl) rfl rfl ?_
            refine WR.step (Ex.assign rfl) (Wn.none rfl) rfl rfl ?_
            refine WR.nil ?_
            refine WQ.then ?_
            refine WC.condF rfl ?_
            refine WC.seq ?_
            refine WC.region ?_
            refine WR.step (Ex.fieldAddr Tryd.underlying68 rfl Tryd.sizeOf3 (by decide) rfl) (Wn.none rfl) rfl rfl ?_
            first | refine WR.step (Ex.loadM H rfl (by assumption) Tryd.isAgg3) (Wn.none rfl) rfl rfl ?_ | refine WR.step (Ex.load1 H rfl (by repeat (first | exact List.Mem.head _ | apply List.Mem.tail)) Tryd.isAgg3 (by rfl)) (Wn.none rfl) rfl rfl ?_
            refine WR.split (Ex.eql rfl rfl) (Wn.none rfl) rfl rfl (fun h8_2 => ?_) (fun h8_2 => ?_)
            ·
              refine WR.step (Ex.move rfl) (Wn.none rfl) rfl rfl ?_
              refine WR.skipG (b := true) rfl rfl rfl rfl rfl ?_
              refine WR.skipG (b := true) rfl rfl rfl rfl rfl ?_
              refine WR.skipG (b := true) rfl rfl rfl rfl rfl ?_
              refine WR.step (Ex.pickT rfl rfl) (Wn.none rfl) rfl rfl ?_
              refine WR.step (Ex.assign rfl) (Wn.none rfl) rfl rfl ?_
              refine WR.nil ?_
              refine WQ.then ?_
              refine WC.condT rfl ?_
              refine WC.seq ?_
              refine WC.region ?_
              refine WR.step (Ex.assign rfl) (Wn.none rfl) rfl rfl ?_
              refine WR.nil ?_
              refine WQ.then ?_
              refine WC.ret ?_
              (repeat (first | refine WQ.thenRet ?_ | refine WQ.inBlockRet ?_))
              refine WQ.ret1 rfl rfl H.ext ?_
              refine congrArg Value.bool ?_
              rw [con_eq, if_neg (by omega)]
              unfold contC
              rw [if_neg (by omega)]
              rw [if_neg (by omega)]
              rw [if_pos (by omega)]
            ·
              refine WR.step (Ex.move rfl) (Wn.none rfl) rfl rfl ?_
              refine WR.step (Ex.fieldAddr Tryd.underlying68 rfl Tryd.sizeOf3 (by decide) rfl) (Wn.some rfl rfl rfl) rfl rfl ?_
              first | refine WR.step (Ex.loadM H rfl (by assumption) Tryd.isAgg3) (Wn.some rfl rfl rfl) rfl rfl ?_ | refine WR.step (Ex.load1 H rfl (by repeat (first | exact List.Mem.head _ | apply List.Mem.tail)) Tryd.isAgg3 (by rfl)) (Wn.some rfl rfl rfl) rfl rfl ?_
              refine WR.split (Ex.eql rfl rfl) (Wn.some rfl rfl rfl) rfl rfl (fun h8_6 => ?_) (fun h8_6 => ?_)
              ·
                refine WR.step (Ex.pickF rfl rfl) (Wn.none rfl) rfl rfl ?_
                refine WR.step (Ex.assign rfl) (Wn.none rfl) rfl rfl ?_
                refine WR.nil ?_
                refine WQ.then ?_
                refine WC.condT rfl ?_
                refine WC.seq ?_
                refine WC.region ?_
                refine WR.step (Ex.assign rfl) (Wn.none rfl) rfl rfl ?_
                refine WR.nil ?_
                refine WQ.then ?_
                refine WC.ret ?_
                (repeat (first | refine WQ.thenRet ?_ | refine WQ.inBlockRet ?_))
                refine WQ.ret1 rfl rfl H.ext ?_
                refine congrArg Value.bool ?_
                rw [con_eq, if_neg (by omega)]
                unfold contC
                rw [if_neg (by omega)]
                rw [if_neg (by omega)]
                rw [if_pos (by omega)]
              ·
                refine WR.step (Ex.pickF rfl rfl) (Wn.none rfl) rfl rfl ?_
                refine WR.step (Ex.assign rfl) (Wn.none rfl) rfl rfl ?_
                refine WR.nil ?_
                refine WQ.then ?_
                refine WC.condF rfl ?_
                refine WC.seq ?_
                refine WC.region ?_
                refine WR.step (Ex.fieldAddr Tryd.underlying68 rfl Tryd.sizeOf3 (by decide) rfl) (Wn.none rfl) rfl rfl ?_
                first | refine WR.step (Ex.loadM H rfl (by assumption) Tryd.isAgg3) (Wn.none rfl) rfl rfl ?_ | refine WR.step (Ex.load1 H rfl (by repeat (first | exact List.Mem.head _ | apply List.Mem.tail)) Tryd.isAgg3 (by rfl)) (Wn.none rfl) rfl rfl ?_
                refine WR.split (Ex.eql rfl rfl) (Wn.none rfl) rfl rfl (fun h10_2 => ?_) (fun h10_2 => ?_)
                ·
                  refine WR.step (Ex.assign rfl) (Wn.none rfl) rfl rfl ?_
                  refine WR.nil ?_
                  refine WQ.then ?_
                  refine WC.condT rfl ?_
                  refine WC.seq ?_
                  refine WC.region ?_
                  refine WR.step (Ex.fieldAddr Tryd.underlying68 rfl Tryd.sizeOf3 (by decide) rfl) (Wn.none rfl) rfl rfl ?_
                  first | refine WR.step (Ex.loadM H rfl (by assumption) Tryd.isAgg3) (Wn.none rfl) rfl rfl ?_ | refine WR.step (Ex.load1 H rfl (by repeat (first | exact List.Mem.head _ | apply List.Mem.tail)) Tryd.isAgg3 (by rfl)) (Wn.none rfl) rfl rfl ?_
                  refine WR.step (Ex.eql rfl rfl) (Wn.none rfl) rfl rfl ?_
                  refine WR.step (Ex.assign rfl) (Wn.none rfl) rfl rfl ?_
                  refine WR.nil ?_
                  refine WQ.then ?_
                  refine WC.ret ?_
                  (repeat (first | refine WQ.thenRet ?_ | refine WQ.inBlockRet ?_))
                  refine WQ.ret1 rfl rfl H.ext ?_
                  refine congrArg Value.bool ?_
                  rw [con_eq, if_neg (by omega)]
                  unfold contC
                  rw [if_neg (by omega)]
                  rw [if_neg (by omega)]
                  rw [if_neg (by omega)]
                  rw [if_pos (by omega)]
                ·
                  refine WR.step (Ex.assign rfl) (Wn.none rfl) rfl rfl ?_
                  refine WR.nil ?_
                  refine WQ.then ?_
                  refine WC.condF rfl ?_
                  refine WC.seq ?_
                  refine WC.region ?_
                  refine WR.step (Ex.fieldAddr Tryd.underlying68 rfl Tryd.sizeOf3 (by decide) rfl) (Wn.none rfl) rfl rfl ?_
                  first | refine WR.step (Ex.loadM H rfl (by assumption) Tryd.isAgg3) (Wn.none rfl) rfl rfl ?_ | refine WR.step (Ex.load1 H rfl (by repeat (first | exact List.Mem.head _ | apply List.Mem.tail)) Tryd.isAgg3 (by rfl)) (Wn.none rfl) rfl rfl ?_
                  refine WR.split (Ex.eql rfl rfl) (Wn.none rfl) rfl rfl (fun h12_2 => ?_) (fun h12_2 => ?_)
                  ·
                    refine WR.step (Ex.assign rfl) (Wn.none rfl) rfl rfl ?_
                    refine WR.nil ?_
                    refine WQ.then ?_
                    refine WC.condT rfl ?_
                    refine WC.seq ?_
                    refine WC.region ?_
                    refine WR.step (Ex.move rfl) (Wn.none rfl) rfl rfl ?_
                    refine WR.step (Ex.rem64 rfl rfl (by first | omega | exact ⟨Int.natCast_nonneg _, by decide⟩)) (Wn.none rfl) rfl rfl ?_
                    refine WR.step (Ex.eql rfl rfl) (Wn.none rfl) rfl rfl ?_
                    refine WR.step (Ex.assign rfl) (Wn.none rfl) rfl rfl ?_
                    refine WR.nil ?_
                    refine WQ.then ?_
                    refine WC.ret ?_
                    (repeat (first | refine WQ.thenRet ?_ | refine WQ.inBlockRet ?_))
                    refine WQ.ret1 rfl rfl H.ext ?_
                    refine congrArg Value.bool ?_
                    rw [con_eq, if_neg (by omega)]
                    unfold contC
                    rw [if_neg (by omega)]
                    rw [if_neg (by omega)]
                    rw [if_neg (by omega)]
                    rw [if_neg (by omega)]
                    rw [if_pos (by omega)]
                  ·
                    refine WR.step (Ex.assign rfl) (Wn.none rfl) rfl rfl ?_
                    refine WR.nil ?_
                    refine WQ.then ?_
                    refine WC.condF rfl ?_
                    refine WC.skip ?_
                    refine WQ.inBlock ?_
                    refine WQ.then ?_
                    refine WC.seq ?_
                    refine WC.region ?_
                    refine WR.step (Ex.fieldAddr Tryd.underlying68 rfl Tryd.sizeOf3 (by decide) rfl) (Wn.none rfl) rfl rfl ?_
                    first | refine WR.step (Ex.loadM H rfl (by assumption) Tryd.isAgg3) (Wn.none rfl) rfl rfl ?_ | refine WR.step (Ex.load1 H rfl (by repeat (first | exact List.Mem.head _ | apply List.Mem.tail)) Tryd.isAgg3 (by rfl)) (Wn.none rfl) rfl rfl ?_
                    refine WR.split (Ex.eql rfl rfl) (Wn.none rfl) rfl rfl (fun h14_2 => ?_) (fun h14_2 => ?_)
                    ·
                      refine WR.step (Ex.move rfl) (Wn.none rfl) rfl rfl ?_
                      refine WR.step (Ex.fieldAddr Tryd.underlying68 rfl Tryd.sizeOf3 (by decide) rfl) (Wn.some rfl rfl rfl) rfl rfl ?_
                      first | refine WR.step (Ex.loadM H rfl (by assumption) Tryd.isAgg3) (Wn.some rfl rfl rfl) rfl rfl ?_ | refine WR.step (Ex.load1 H rfl (by repeat (first | exact List.Mem.head _ | apply List.Mem.tail)) Tryd.isAgg3 (by rfl)) (Wn.some rfl rfl rfl) rfl rfl ?_
                      refine WR.split (Ex.eql rfl rfl) (Wn.some rfl rfl rfl) rfl rfl (fun h14_6 => ?_) (fun h14_6 => ?_)
                      ·
                        refine WR.step (Ex.move rfl) (Wn.some rfl rfl rfl) rfl rfl ?_
                        refine WR.skipG (b := true) rfl rfl rfl rfl rfl ?_
                        refine WR.skipG (b := true) rfl rfl rfl rfl rfl ?_
                        refine WR.skipG (b := true) rfl rfl rfl rfl rfl ?_
                        refine WR.step (Ex.pickT rfl rfl) (Wn.some rfl rfl rfl) rfl rfl ?_
                        refine WR.step (Ex.pickT rfl rfl) (Wn.none rfl) rfl rfl ?_
                        refine WR.step (Ex.move rfl) (Wn.none rfl) rfl rfl ?_
                        refine WR.skipG (b := true) rfl rfl rfl rfl rfl ?_
                        refine WR.skipG (b := true) rfl rfl rfl rfl rfl ?_
                        refine WR.skipG (b := true) rfl rfl rfl rfl rfl ?_
                        refine WR.skipG (b := true) rfl rfl rfl rfl rfl ?_
                        refine WR.skipU rfl rfl rfl rfl rfl ?_
                        refine WR.skipU rfl rfl rfl rfl rfl ?_
                        refine WR.skipU rfl rfl rfl rfl rfl ?_
                        refine WR.skipU rfl rfl rfl rfl rfl ?_
                        refine WR.skipU rfl rfl rfl rfl rfl ?_
                        refine WR.skipU rfl rfl rfl rfl rfl ?_
                        refine WR.skipU rfl rfl rfl rfl rfl ?_
                        refine WR.skipU rfl rfl rfl rfl rfl ?_
                        refine WR.skipG (b := true) rfl rfl rfl rfl rfl ?_
                        refine WR.step (Ex.pickT rfl rfl) (Wn.none rfl) rfl rfl ?_
                        refine WR.step (Ex.move rfl) (Wn.none rfl) rfl rfl ?_
                        refine WR.skipG (b := true) rfl rfl rfl rfl rfl ?_
                        refine WR.skipG (b := true) rfl rfl rfl rfl rfl ?_
                        refine WR.skipG (b := true) rfl rfl rfl rfl rfl ?_
                        refine WR.skipG (b := true) rfl rfl rfl rfl rfl ?_
                        refine WR.skipU rfl rfl rfl rfl rfl ?_
                        refine WR.skipU rfl rfl rfl rfl rfl ?_
                        refine WR.skipU rfl rfl rfl rfl rfl ?_
                        refine WR.skipG (b := true) rfl rfl rfl rfl rfl ?_
                        refine WR.step (Ex.pickT rfl rfl) (Wn.none rfl) rfl rfl ?_
                        refine WR.step (Ex.assign rfl) (Wn.none rfl) rfl rfl ?_
                        refine WR.nil ?_
                        refine WQ.then ?_
                        refine WC.ret ?_
                        (repeat (first | refine WQ.thenRet ?_ | refine WQ.inBlockRet ?_))
                        refine WQ.ret1 rfl rfl H.ext ?_
                        refine congrArg Value.bool ?_
                        rw [con_eq, if_neg (by omega)]
                        unfold contC
                        rw [if_neg (by omega)]
                        rw [if_neg (by omega)]
                        rw [if_neg (by omega)]
                        rw [if_neg (by omega)]
                        rw [if_neg (by omega)]
                        first | rfl | exact (decide_eq_true (by omega)).symm | exact (decide_eq_false (by omega)).symm | exact decide_eq_decide.2 (by omega) | (exfalso; omega)
                      ·
                        refine WR.step (Ex.move rfl) (Wn.some rfl rfl rfl) rfl rfl ?_
                        refine WR.step (Ex.fieldAddr Tryd.underlying68 rfl Tryd.sizeOf3 (by decide) rfl) (Wn.some rfl rfl rfl) rfl rfl ?_
                        first | refine WR.step (Ex.loadM H rfl (by assumption) Tryd.isAgg3) (Wn.some rfl rfl rfl) rfl rfl ?_ | refine WR.step (Ex.load1 H rfl (by repeat (first | exact List.Mem.head _ | apply List.Mem.tail)) Tryd.isAgg3 (by rfl)) (Wn.some rfl rfl rfl) rfl rfl ?_
                        refine WR.split (Ex.eql rfl rfl) (Wn.some rfl rfl rfl) rfl rfl (fun h14_10 => ?_) (fun h14_10 => ?_)
                        ·
                          refine WR.step (Ex.pickF rfl rfl) (Wn.some rfl rfl rfl) rfl rfl ?_
                          refine WR.step (Ex.pickT rfl rfl) (Wn.none rfl) rfl rfl ?_
                          refine WR.step (Ex.move rfl) (Wn.none rfl) rfl rfl ?_
                          refine WR.skipG (b := true) rfl rfl rfl rfl rfl ?_
                          refine WR.skipG (b := true) rfl rfl rfl rfl rfl ?_
                          refine WR.skipG (b := true) rfl rfl rfl rfl rfl ?_
                          refine WR.skipG (b := true) rfl rfl rfl rfl rfl ?_
                          refine WR.skipU rfl rfl rfl rfl rfl ?_
                          refine WR.skipU rfl rfl rfl rfl rfl ?_
                          refine WR.skipU rfl rfl rfl rfl rfl ?_
                          refine WR.skipU rfl rfl rfl rfl rfl ?_
                          refine WR.skipU rfl rfl rfl rfl rfl ?_
                          refine WR.skipU rfl rfl rfl rfl rfl ?_
                          refine WR.skipU rfl rfl rfl rfl rfl ?_
                          refine WR.skipU rfl rfl rfl rfl rfl ?_
                          refine WR.skipG (b := true) rfl rfl rfl rfl rfl ?_
                          refine WR.step (Ex.pickT rfl rfl) (Wn.none rfl) rfl rfl ?_
                          refine WR.step (Ex.move rfl) (Wn.none rfl) rfl rfl ?_
                          refine WR.skipG (b := true) rfl rfl rfl rfl rfl ?_
                          refine WR.skipG (b := true) rfl rfl rfl rfl rfl ?_
                          refine WR.skipG (b := true) rfl rfl rfl rfl rfl ?_
                          refine WR.skipG (b := true) rfl rfl rfl rfl rfl ?_
                          refine WR.skipU rfl rfl rfl rfl rfl ?_
                          refine WR.skipU rfl rfl rfl rfl rfl ?_
                          refine WR.skipU rfl rfl rfl rfl rfl ?_
                          refine WR.skipG (b := true) rfl rfl rfl rfl rfl ?_
                          refine WR.step (Ex.pickT rfl rfl) (Wn.none rfl) rfl rfl ?_
                          refine WR.step (Ex.assign rfl) (Wn.none rfl) rfl rfl ?_
                          refine WR.nil ?_
                          refine WQ.then ?_
                          refine WC.ret ?_
                          (repeat (first | refine WQ.thenRet ?_ | refine WQ.inBlockRet ?_))
                          refine WQ.ret1 rfl rfl H.ext ?_
                          refine congrArg Value.bool ?_
                          rw [con_eq, if_neg (by omega)]
                          unfold contC
                          rw [if_neg (by omega)]
                          rw [if_neg (by omega)]
                          rw [if_neg (by omega)]
                          rw [if_neg (by omega)]
                          rw [if_neg (by omega)]
                          first | rfl | exact (decide_eq_true (by omega)).symm | exact (decide_eq_false (by omega)).symm | exact decide_eq_decide.2 (by omega) | (exfalso; omega)
                        ·
                          refine WR.step (Ex.pickF rfl rfl) (Wn.some rfl rfl rfl) rfl rfl ?_
                          refine WR.step (Ex.pickT rfl rfl) (Wn.none rfl) rfl rfl ?_
                          refine WR.step (Ex.move rfl) (Wn.none rfl) rfl rfl ?_
                          refine WR.step (Ex.fieldAddr Tryd.underlying68 rfl Tryd.sizeOf3 (by decide) rfl) (Wn.some rfl rfl rfl) rfl rfl ?_
                          first | refine WR.step (Ex.loadM H rfl (by assumption) Tryd.isAgg3) (Wn.some rfl rfl rfl) rfl rfl ?_ | refine WR.step (Ex.load1 H rfl (by repeat (first | exact List.Mem.head _ | apply List.Mem.tail)) Tryd.isAgg3 (by rfl)) (Wn.some rfl rfl rfl) rfl rfl ?_
                          refine WR.split (Ex.eql rfl rfl) (Wn.some rfl rfl rfl) rfl rfl (fun h14_16 => ?_) (fun h14_16 => ?_)
                          ·
                            refine WR.step (Ex.move rfl) (Wn.some rfl rfl rfl) rfl rfl ?_
                            refine WR.step (Ex.fieldAddr Tryd.underlying68 rfl Tryd.sizeOf3 (by decide) rfl) (Wn.some rfl rfl rfl) rfl rfl ?_
                            first | refine WR.step (Ex.loadM H rfl (by assumption) Tryd.isAgg3) (Wn.some rfl rfl rfl) rfl rfl ?_ | refine WR.step (Ex.load1 H rfl (by repeat (first | exact List.Mem.head _ | apply List.Mem.tail)) Tryd.isAgg3 (by rfl)) (Wn.some rfl rfl rfl) rfl rfl ?_
                            refine WR.split (Ex.eql rfl rfl) (Wn.some rfl rfl rfl) rfl rfl (fun h14_20 => ?_) (fun h14_20 => ?_)
                            ·
                              refine WR.step (Ex.move rfl) (Wn.some rfl rfl rfl) rfl rfl ?_
                              refine WR.skipG (b := true) rfl rfl rfl rfl rfl ?_
                              refine WR.skipG (b := true) rfl rfl rfl rfl rfl ?_
                              refine WR.skipG (b := true) rfl rfl rfl rfl rfl ?_
                              refine WR.step (Ex.pickT rfl rfl) (Wn.some rfl rfl rfl) rfl rfl ?_
                              refine WR.step (Ex.pickT rfl rfl) (Wn.some rfl rfl rfl) rfl rfl ?_
                              refine WR.step (Ex.pickF rfl rfl) (Wn.none rfl) rfl rfl ?_
                              refine WR.step (Ex.move rfl) (Wn.none rfl) rfl rfl ?_
                              refine WR.skipG (b := true) rfl rfl rfl rfl rfl ?_
                              refine WR.skipG (b := true) rfl rfl rfl rfl rfl ?_
                              refine WR.skipG (b := true) rfl rfl rfl rfl rfl ?_
                              refine WR.skipG (b := true) rfl rfl rfl rfl rfl ?_
                              refine WR.skipU rfl rfl rfl rfl rfl ?_
                              refine WR.skipU rfl rfl rfl rfl rfl ?_
                              refine WR.skipU rfl rfl rfl rfl rfl ?_
                              refine WR.skipG (b := true) rfl rfl rfl rfl rfl ?_
                              refine WR.step (Ex.pickT rfl rfl) (Wn.none rfl) rfl rfl ?_
                              refine WR.step (Ex.assign rfl) (Wn.none rfl) rfl rfl ?_
                              refine WR.nil ?_
                              refine WQ.then ?_
                              refine WC.ret ?_
                              (repeat (first | refine WQ.thenRet ?_ | refine WQ.inBlockRet ?_))
                              refine WQ.ret1 rfl rfl H.ext ?_
                              refine congrArg Value.bool ?_
                              rw [con_eq, if_neg (by omega)]
                              unfold contC
                              rw [if_neg (by omega)]
                              rw [if_neg (by omega)]
                              rw [if_neg (by omega)]
                              rw [if_neg (by omega)]
                              rw [if_neg (by omega)]
                              first | rfl | exact (decide_eq_true (by omega)).symm | exact (decide_eq_false (by omega)).symm | exact decide_eq_decide.2 (by omega) | (exfalso; omega)
                            ·
                              refine WR.step (Ex.move rfl) (Wn.some rfl rfl rfl) rfl rfl ?_
                              refine WR.step (Ex.fieldAddr Tryd.underlying68 rfl Tryd.sizeOf3 (by decide) rfl) (Wn.some rfl rfl rfl) rfl rfl ?_
                              first | refine WR.step (Ex.loadM H rfl (by assumption) Tryd.isAgg3) (Wn.some rfl rfl rfl) rfl rfl ?_ | refine WR.step (Ex.load1 H rfl (by repeat (first | exact List.Mem.head _ | apply List.Mem.tail)) Tryd.isAgg3 (by rfl)) (Wn.some rfl rfl rfl) rfl rfl ?_
                              refine WR.split (Ex.eql rfl rfl) (Wn.some rfl rfl rfl) rfl rfl (fun h14_24 => ?_) (fun h14_24 => ?_)
                              ·
                                refine WR.step (Ex.pickF rfl rfl) (Wn.some rfl rfl rfl) rfl rfl ?_
                                refine WR.step (Ex.pickT rfl rfl) (Wn.some rfl rfl rfl) rfl rfl ?_
                                refine WR.step (Ex.pickF rfl rfl) (Wn.none rfl) rfl rfl ?_
                                refine WR.step (Ex.move rfl) (Wn.none rfl) rfl rfl ?_
                                refine WR.skipG (b := true) rfl rfl rfl rfl rfl ?_
                                refine WR.skipG (b := true) rfl rfl rfl rfl rfl ?_
                                refine WR.skipG (b := true) rfl rfl rfl rfl rfl ?_
                                refine WR.skipG (b := true) rfl rfl rfl rfl rfl ?_
                                refine WR.skipU rfl rfl rfl rfl rfl ?_
                                refine WR.skipU rfl rfl rfl rfl rfl ?_
                                refine WR.skipU rfl rfl rfl rfl rfl ?_
                                refine WR.skipG (b := true) rfl rfl rfl rfl rfl ?_
                                refine WR.step (Ex.pickT rfl rfl) (Wn.none rfl) rfl rfl ?_
                                refine WR.step (Ex.assign rfl) (Wn.none rfl) rfl rfl ?_
                                refine WR.nil ?_
                                refine WQ.then ?_
                                refine WC.ret ?_
                                (repeat (first | refine WQ.thenRet ?_ | refine WQ.inBlockRet ?_))
                                refine WQ.ret1 rfl rfl H.ext ?_
                                refine congrArg Value.bool ?_
                                rw [con_eq, if_neg (by omega)]
                                unfold contC
                                rw [if_neg (by omega)]
                                rw [if_neg (by omega)]
                                rw [if_neg (by omega)]
                                rw [if_neg (by omega)]
                                rw [if_neg (by omega)]
                                first | rfl | exact (decide_eq_true (by omega)).symm | exact (decide_eq_false (by omega)).symm | exact decide_eq_decide.2 (by omega) | (exfalso; omega)
                              ·
                                refine WR.step (Ex.pickF rfl rfl) (Wn.some rfl rfl rfl) rfl rfl ?_
                                refine WR.step (Ex.pickT rfl rfl) (Wn.some rfl rfl rfl) rfl rfl ?_
                                refine WR.step (Ex.pickF rfl rfl) (Wn.none rfl) rfl rfl ?_
                                refine WR.step (Ex.move rfl) (Wn.none rfl) rfl rfl ?_
                                refine WR.step (Ex.fieldAddr Tryd.underlying68 rfl Tryd.sizeOf3 (by decide) rfl) (Wn.some rfl rfl rfl) rfl rfl ?_
                                first | refine WR.step (Ex.loadM H rfl (by assumption) Tryd.isAgg3) (Wn.some rfl rfl rfl) rfl rfl ?_ | refine WR.step (Ex.load1 H rfl (by repeat (first | exact List.Mem.head _ | apply List.Mem.tail)) Tryd.isAgg3 (by rfl)) (Wn.some rfl rfl rfl) rfl rfl ?_
                                refine WR.split (Ex.eql rfl rfl) (Wn.some rfl rfl rfl) rfl rfl (fun h14_31 => ?_) (fun h14_31 => ?_)
                                ·
                                  refine WR.step (Ex.move rfl) (Wn.some rfl rfl rfl) rfl rfl ?_
                                  refine WR.step (Ex.fieldAddr Tryd.underlying68 rfl Tryd.sizeOf3 (by decide) rfl) (Wn.some rfl rfl rfl) rfl rfl ?_
                                  first | refine WR.step (Ex.loadM H rfl (by assumption) Tryd.isAgg3) (Wn.some rfl rfl rfl) rfl rfl ?_ | refine WR.step (Ex.load1 H rfl (by repeat (first | exact List.Mem.head _ | apply List.Mem.tail)) Tryd.isAgg3 (by rfl)) (Wn.some rfl rfl rfl) rfl rfl ?_
                                  refine WR.step (Ex.eql rfl rfl) (Wn.some rfl rfl rfl) rfl rfl ?_
                                  refine WR.step (Ex.pickT rfl rfl) (Wn.some rfl rfl rfl) rfl rfl ?_
                                  refine WR.step (Ex.pickF rfl rfl) (Wn.none rfl) rfl rfl ?_
                                  refine WR.step (Ex.assign rfl) (Wn.none rfl) rfl rfl ?_
                                  refine WR.nil ?_
                                  refine WQ.then ?_
                                  refine WC.ret ?_
                                  (repeat (first | refine WQ.thenRet ?_ | refine WQ.inBlockRet ?_))
                                  refine WQ.ret1 rfl rfl H.ext ?_
                                  refine congrArg Value.bool ?_
                                  rw [con_eq, if_neg (by omega)]
                                  unfold contC
                                  rw [if_neg (by omega)]
                                  rw [if_neg (by omega)]
                                  rw [if_neg (by omega)]
                                  rw [if_neg (by omega)]
                                  rw [if_neg (by omega)]
                                  first | rfl | exact (decide_eq_true (by omega)).symm | exact (decide_eq_false (by omega)).symm | exact decide_eq_decide.2 (by omega) | (exfalso; omega)
                                ·
                                  refine WR.step (Ex.move rfl) (Wn.some rfl rfl rfl) rfl rfl ?_
                                  refine WR.skipG (b := false) rfl rfl rfl rfl rfl ?_
                                  refine WR.skipG (b := false) rfl rfl rfl rfl rfl ?_
                                  refine WR.skipG (b := false) rfl rfl rfl rfl rfl ?_
                                  refine WR.step (Ex.pickF rfl rfl) (Wn.some rfl rfl rfl) rfl rfl ?_
                                  refine WR.step (Ex.pickF rfl rfl) (Wn.none rfl) rfl rfl ?_
                                  refine WR.step (Ex.assign rfl) (Wn.none rfl) rfl rfl ?_
                                  refine WR.nil ?_
                                  refine WQ.then ?_
                                  refine WC.ret ?_
                                  (repeat (first | refine WQ.thenRet ?_ | refine WQ.inBlockRet ?_))
                                  refine WQ.ret1 rfl rfl H.ext ?_
                                  refine congrArg Value.bool ?_
                                  rw [con_eq, if_neg (by omega)]
                                  unfold contC
                                  rw [if_neg (by omega)]
                                  rw [if_neg (by omega)]
                                  rw [if_neg (by omega)]
                                  rw [if_neg (by omega)]
                                  rw [if_neg (by omega)]
                                  first | rfl | exact (decide_eq_true (by omega)).symm | exact (decide_eq_false (by omega)).symm | exact decide_eq_decide.2 (by omega) | (exfalso; omega)
                          ·
                            refine WR.step (Ex.move rfl) (Wn.some rfl rfl rfl) rfl rfl ?_
                            refine WR.skipG (b := false) rfl rfl rfl rfl rfl ?_
                            refine WR.skipG (b := false) rfl rfl rfl rfl rfl ?_
                            refine WR.skipG (b := false) rfl rfl rfl rfl rfl ?_
                            refine WR.skipG (b := false) rfl rfl rfl rfl rfl ?_
                            refine WR.skipU rfl rfl rfl rfl rfl ?_
                            refine WR.skipU rfl rfl rfl rfl rfl ?_
                            refine WR.skipU rfl rfl rfl rfl rfl ?_
                            refine WR.skipG (b := false) rfl rfl rfl rfl rfl ?_
                            refine WR.step (Ex.pickF rfl rfl) (Wn.some rfl rfl rfl) rfl rfl ?_
                            refine WR.step (Ex.pickF rfl rfl) (Wn.none rfl) rfl rfl ?_
                            refine WR.step (Ex.move rfl) (Wn.none rfl) rfl rfl ?_
                            refine WR.step (Ex.fieldAddr Tryd.underlying68 rfl Tryd.sizeOf3 (by decide) rfl) (Wn.some rfl rfl rfl) rfl rfl ?_
                            first | refine WR.step (Ex.loadM H rfl (by assumption) Tryd.isAgg3) (Wn.some rfl rfl rfl) rfl rfl ?_ | refine WR.step (Ex.load1 H rfl (by repeat (first | exact List.Mem.head _ | apply List.Mem.tail)) Tryd.isAgg3 (by rfl)) (Wn.some rfl rfl rfl) rfl rfl ?_
                            refine WR.split (Ex.eql rfl rfl) (Wn.some rfl rfl rfl) rfl rfl (fun h14_31 => ?_) (fun h14_31 => ?_)
                            ·
                              refine WR.step (Ex.move rfl) (Wn.some rfl rfl rfl) rfl rfl ?_
                              refine WR.step (Ex.fieldAddr Tryd.underlying68 rfl Tryd.sizeOf3 (by decide) rfl) (Wn.some rfl rfl rfl) rfl rfl ?_
                              first | refine WR.step (Ex.loadM H rfl (by assumption) Tryd.isAgg3) (Wn.some rfl rfl rfl) rfl rfl ?_ | refine WR.step (Ex.load1 H rfl (by repeat (first | exact List.Mem.head _ | apply List.Mem.tail)) Tryd.isAgg3 (by rfl)) (Wn.some rfl rfl rfl) rfl rfl ?_
                              refine WR.step (Ex.eql rfl rfl) (Wn.some rfl rfl rfl) rfl rfl ?_
                              refine WR.step (Ex.pickT rfl rfl) (Wn.some rfl rfl rfl) rfl rfl ?_
                              refine WR.step (Ex.pickF rfl rfl) (Wn.none rfl) rfl rfl ?_
                              refine WR.step (Ex.assign rfl) (Wn.none rfl) rfl rfl ?_
                              refine WR.nil ?_
                              refine WQ.then ?_
                              refine WC.ret ?_
                              (repeat (first | refine WQ.thenRet ?_ | refine WQ.inBlockRet ?_))
                              refine WQ.ret1 rfl rfl H.ext ?_
                              refine congrArg Value.bool ?_
                              rw [con_eq, if_neg (by omega)]
                              unfold contC
                              rw [if_neg (by omega)]
                              rw [if_neg (by omega)]
                              rw [if_neg (by omega)]
                              rw [if_neg (by omega)]
                              rw [if_neg (by omega)]
                              first | rfl | exact (decide_eq_true (by omega)).symm | exact (decide_eq_false (by omega)).symm | exact decide_eq_decide.2 (by omega) | (exfalso; omega)
                            ·
                              refine WR.step (Ex.move rfl) (Wn.some rfl rfl rfl) rfl rfl ?_
                              refine WR.skipG (b := false) rfl rfl rfl rfl rfl ?_
                              refine WR.skipG (b := false) rfl rfl rfl rfl rfl ?_
                              refine WR.skipG (b := false) rfl rfl rfl rfl rfl ?_
                              refine WR.step (Ex.pickF rfl rfl) (Wn.some rfl rfl rfl) rfl rfl ?_
                              refine WR.step (Ex.pickF rfl rfl) (Wn.none rfl) rfl rfl ?_
                              refine WR.step (Ex.assign rfl) (Wn.none rfl) rfl rfl ?_
                              refine WR.nil ?_
                              refine WQ.then ?_
                              refine WC.ret ?_
                              (repeat (first | refine WQ.thenRet ?_ | refine WQ.inBlockRet ?_))
                              refine WQ.ret1 rfl rfl H.ext ?_
                              refine congrArg Value.bool ?_
                              rw [con_eq, if_neg (by omega)]
                              unfold contC
                              rw [if_neg (by omega)]
                              rw [if_neg (by omega)]
                              rw [if_neg (by omega)]
                              rw [if_neg (by omega)]
                              rw [if_neg (by omega)]
                              first | rfl | exact (decide_eq_true (by omega)).symm | exact (decide_eq_false (by omega)).symm | exact decide_eq_decide.2 (by omega) | (exfalso; omega)
                    ·
                      refine WR.step (Ex.move rfl) (Wn.none rfl) rfl rfl ?_
                      refine WR.skipG (b := false) rfl rfl rfl rfl rfl ?_
                      refine WR.skipG (b := false) rfl rfl rfl rfl rfl ?_
                      refine WR.skipG (b := false) rfl rfl rfl rfl rfl ?_
                      refine WR.skipG (b := false) rfl rfl rfl rfl rfl ?_
                      refine WR.skipU rfl rfl rfl rfl rfl ?_
                      refine WR.skipU rfl rfl rfl rfl rfl ?_
                      refine WR.skipU rfl rfl rfl rfl rfl ?_
                      refine WR.skipG (b := false) rfl rfl rfl rfl rfl ?_
                      refine WR.step (Ex.pickF rfl rfl) (Wn.none rfl) rfl rfl ?_
                      refine WR.step (Ex.move rfl) (Wn.none rfl) rfl rfl ?_
                      refine WR.step (Ex.fieldAddr Tryd.underlying68 rfl Tryd.sizeOf3 (by decide) rfl) (Wn.some rfl rfl rfl) rfl rfl ?_
                      first | refine WR.step (Ex.loadM H rfl (by assumption) Tryd.isAgg3) (Wn.some rfl rfl rfl) rfl rfl ?_ | refine WR.step (Ex.load1 H rfl (by repeat (first | exact List.Mem.head _ | apply List.Mem.tail)) Tryd.isAgg3 (by rfl)) (Wn.some rfl rfl rfl) rfl rfl ?_
                      refine WR.split (Ex.eql rfl rfl) (Wn.some rfl rfl rfl) rfl rfl (fun h14_16 => ?_) (fun h14_16 => ?_)
                      ·
                        refine WR.step (Ex.move rfl) (Wn.some rfl rfl rfl) rfl rfl ?_
                        refine WR.step (Ex.fieldAddr Tryd.underlying68 rfl Tryd.sizeOf3 (by decide) rfl) (Wn.some rfl rfl rfl) rfl rfl ?_
                        first | refine WR.step (Ex.loadM H rfl (by assumption) Tryd.isAgg3) (Wn.some rfl rfl rfl) rfl rfl ?_ | refine WR.step (Ex.load1 H rfl (by repeat (first | exact List.Mem.head _ | apply List.Mem.tail)) Tryd.isAgg3 (by rfl)) (Wn.some rfl rfl rfl) rfl rfl ?_
                        refine WR.split (Ex.eql rfl rfl) (Wn.some rfl rfl rfl) rfl rfl (fun h14_20 => ?_) (fun h14_20 => ?_)
                        ·
                          refine WR.step (Ex.move rfl) (Wn.some rfl rfl rfl) rfl rfl ?_
                          refine WR.skipG (b := true) rfl rfl rfl rfl rfl ?_
                          refine WR.skipG (b := true) rfl rfl rfl rfl rfl ?_
                          refine WR.skipG (b := true) rfl rfl rfl rfl rfl ?_
                          refine WR.step (Ex.pickT rfl rfl) (Wn.some rfl rfl rfl) rfl rfl ?_
                          refine WR.step (Ex.pickT rfl rfl) (Wn.some rfl rfl rfl) rfl rfl ?_
                          refine WR.step (Ex.pickF rfl rfl) (Wn.none rfl) rfl rfl ?_
                          refine WR.step (Ex.move rfl) (Wn.none rfl) rfl rfl ?_
                          refine WR.skipG (b := true) rfl rfl rfl rfl rfl ?_
                          refine WR.skipG (b := true) rfl rfl rfl rfl rfl ?_
                          refine WR.skipG (b := true) rfl rfl rfl rfl rfl ?_
                          refine WR.skipG (b := true) rfl rfl rfl rfl rfl ?_
                          refine WR.skipU rfl rfl rfl rfl rfl ?_
                          refine WR.skipU rfl rfl rfl rfl rfl ?_
                          refine WR.skipU rfl rfl rfl rfl rfl ?_
                          refine WR.skipG (b := true) rfl rfl rfl rfl rfl ?_
                          refine WR.step (Ex.pickT rfl rfl) (Wn.none rfl) rfl rfl ?_
                          refine WR.step (Ex.assign rfl) (Wn.none rfl) rfl rfl ?_
                          refine WR.nil ?_
                          refine WQ.then ?_
                          refine WC.ret ?_
                          (repeat (first | refine WQ.thenRet ?_ | refine WQ.inBlockRet ?_))
                          refine WQ.ret1 rfl rfl H.ext ?_
                          refine congrArg Value.bool ?_
                          rw [con_eq, if_neg (by omega)]
                          unfold contC
                          rw [if_neg (by omega)]
                          rw [if_neg (by omega)]
                          rw [if_neg (by omega)]
                          rw [if_neg (by omega)]
                          rw [if_neg (by omega)]
                          first | rfl | exact (decide_eq_true (by omega)).symm | exact (decide_eq_false (by omega)).symm | exact decide_eq_decide.2 (by omega) | (exfalso; omega)
                        ·
                          refine WR.step (Ex.move rfl) (Wn.some rfl rfl rfl) rfl rfl ?_
                          refine WR.step (Ex.fieldAddr Tryd.underlying68 rfl Tryd.sizeOf3 (by decide) rfl) (Wn.some rfl rfl rfl) rfl rfl ?_
                          first | refine WR.step (Ex.loadM H rfl (by assumption) Tryd.isAgg3) (Wn.some rfl rfl rfl) rfl rfl ?_ | refine WR.step (Ex.load1 H rfl (by repeat (first | exact List.Mem.head _ | apply List.Mem.tail)) Tryd.isAgg3 (by rfl)) (Wn.some rfl rfl rfl) rfl rfl ?_
                          refine WR.split (Ex.eql rfl rfl) (Wn.some rfl rfl rfl) rfl rfl (fun h14_24 => ?_) (fun h14_24 => ?_)
                          ·
                            refine WR.step (Ex.pickF rfl rfl) (Wn.some rfl rfl rfl) rfl rfl ?_
                            refine WR.step (Ex.pickT rfl rfl) (Wn.some rfl rfl rfl) rfl rfl ?_
                            refine WR.step (Ex.pickF rfl rfl) (Wn.none rfl) rfl rfl ?_
                            refine WR.step (Ex.move rfl) (Wn.none rfl) rfl rfl ?_
                            refine WR.skipG (b := true) rfl rfl rfl rfl rfl ?_
                            refine WR.skipG (b := true) rfl rfl rfl rfl rfl ?_
                            refine WR.skipG (b := true) rfl rfl rfl rfl rfl ?_
                            refine WR.skipG (b := true) rfl rfl rfl rfl rfl ?_
                            refine WR.skipU rfl rfl rfl rfl rfl ?_
                            refine WR.skipU rfl rfl rfl rfl rfl ?_
                            refine WR.skipU rfl rfl rfl rfl rfl ?_
                            refine WR.skipG (b := true) rfl rfl rfl rfl rfl ?_
                            refine WR.step (Ex.pickT rfl rfl) (Wn.none rfl) rfl rfl ?_
                            refine WR.step (Ex.assign rfl) (Wn.none rfl) rfl rfl ?_
                            refine WR.nil ?_
                            refine WQ.then ?_
                            refine WC.ret ?_
                            (repeat (first | refine WQ.thenRet ?_ | refine WQ.inBlockRet ?_))
                            refine WQ.ret1 rfl rfl H.ext ?_
                            refine congrArg Value.bool ?_
                            rw [con_eq, if_neg (by omega)]
                            unfold contC
                            rw [if_neg (by omega)]
                            rw [if_neg (by omega)]
                            rw [if_neg (by omega)]
                            rw [if_neg (by omega)]
                            rw [if_neg (by omega)]
                            first | rfl | exact (decide_eq_true (by omega)).symm | exact (decide_eq_false (by omega)).symm | exact decide_eq_decide.2 (by omega) | (exfalso; omega)
                          ·
                            refine WR.step (Ex.pickF rfl rfl) (Wn.some rfl rfl rfl) rfl rfl ?_
                            refine WR.step (Ex.pickT rfl rfl) (Wn.some rfl rfl rfl) rfl rfl ?_
                            refine WR.step (Ex.pickF rfl rfl) (Wn.none rfl) rfl rfl ?_
                            refine WR.step (Ex.move rfl) (Wn.none rfl) rfl rfl ?_
                            refine WR.step (Ex.fieldAddr Tryd.underlying68 rfl Tryd.sizeOf3 (by decide) rfl) (Wn.some rfl rfl rfl) rfl rfl ?_
                            first | refine WR.step (Ex.loadM H rfl (by assumption) Tryd.isAgg3) (Wn.some rfl rfl rfl) rfl rfl ?_ | refine WR.step (Ex.load1 H rfl (by repeat (first | exact List.Mem.head _ | apply List.Mem.tail)) Tryd.isAgg3 (by rfl)) (Wn.some rfl rfl rfl) rfl rfl ?_
                            refine WR.split (Ex.eql rfl rfl) (Wn.some rfl rfl rfl) rfl rfl (fun h14_31 => ?_) (fun h14_31 => ?_)
                            ·
                              refine WR.step (Ex.move rfl) (Wn.some rfl rfl rfl) rfl rfl ?_
                              refine WR.step (Ex.fieldAddr Tryd.underlying68 rfl Tryd.sizeOf3 (by decide) rfl) (Wn.some rfl rfl rfl) rfl rfl ?_
                              first | refine WR.step (Ex.loadM H rfl (by assumption) Tryd.isAgg3) (Wn.some rfl rfl rfl) rfl rfl ?_ | refine WR.step (Ex.load1 H rfl (by repeat (first | exact List.Mem.head _ | apply List.Mem.tail)) Tryd.isAgg3 (by rfl)) (Wn.some rfl rfl rfl) rfl rfl ?_
                              refine WR.step (Ex.eql rfl rfl) (Wn.some rfl rfl rfl) rfl rfl ?_
                              refine WR.step (Ex.pickT rfl rfl) (Wn.some rfl rfl rfl) rfl rfl ?_
                              refine WR.step (Ex.pickF rfl rfl) (Wn.none rfl) rfl rfl ?_
                              refine WR.step (Ex.assign rfl) (Wn.none rfl) rfl rfl ?_
                              refine WR.nil ?_
                              refine WQ.then ?_
                              refine WC.ret ?_
                              (repeat (first | refine WQ.thenRet ?_ | refine WQ.inBlockRet ?_))
                              refine WQ.ret1 rfl rfl H.ext ?_
                              refine congrArg Value.bool ?_
                              rw [con_eq, if_neg (by omega)]
                              unfold contC
                              rw [if_neg (by omega)]
                              rw [if_neg (by omega)]
                              rw [if_neg (by omega)]
                              rw [if_neg (by omega)]
                              rw [if_neg (by omega)]
                              first | rfl | exact (decide_eq_true (by omega)).symm | exact (decide_eq_false (by omega)).symm | exact decide_eq_decide.2 (by omega) | (exfalso; omega)
                            ·
                              refine WR.step (Ex.move rfl) (Wn.some rfl rfl rfl) rfl rfl ?_
                              refine WR.skipG (b := false) rfl rfl rfl rfl rfl ?_
                              refine WR.skipG (b := false) rfl rfl rfl rfl rfl ?_
                              refine WR.skipG (b := false) rfl rfl rfl rfl rfl ?_
                              refine WR.step (Ex.pickF rfl rfl) (Wn.some rfl rfl rfl) rfl rfl ?_
                              refine WR.step (Ex.pickF rfl rfl) (Wn.none rfl) rfl rfl ?_
                              refine WR.step (Ex.assign rfl) (Wn.none rfl) rfl rfl ?_
                              refine WR.nil ?_
                              refine WQ.then ?_
                              refine WC.ret ?_
                              (repeat (first | refine WQ.thenRet ?_ | refine WQ.inBlockRet ?_))
                              refine WQ.ret1 rfl rfl H.ext ?_
                              refine congrArg Value.bool ?_
                              rw [con_eq, if_neg (by omega)]
                              unfold contC
                              rw [if_neg (by omega)]
                              rw [if_neg (by omega)]
                              rw [if_neg (by omega)]
                              rw [if_neg (by omega)]
                              rw [if_neg (by omega)]
                              first | rfl | exact (decide_eq_true (by omega)).symm | exact (decide_eq_false (by omega)).symm | exact decide_eq_decide.2 (by omega) | (exfalso; omega)
                      ·
                        refine WR.step (Ex.move rfl) (Wn.some rfl rfl rfl) rfl rfl ?_
                        refine WR.skipG (b := false) rfl rfl rfl rfl rfl ?_
                        refine WR.skipG (b := false) rfl rfl rfl rfl rfl ?_
                        refine WR.skipG (b := false) rfl rfl rfl rfl rfl ?_
                        refine WR.skipG (b := false) rfl rfl rfl rfl rfl ?_
                        refine WR.skipU rfl rfl rfl rfl rfl ?_
                        refine WR.skipU rfl rfl rfl rfl rfl ?_
                        refine WR.skipU rfl rfl rfl rfl rfl ?_
                        refine WR.skipG (b := false) rfl rfl rfl rfl rfl ?_
                        refine WR.step (Ex.pickF rfl rfl) (Wn.some rfl rfl rfl) rfl rfl ?_
                        refine WR.step (Ex.pickF rfl rfl) (Wn.none rfl) rfl rfl ?_
                        refine WR.step (Ex.move rfl) (Wn.none rfl) rfl rfl ?_
                        refine WR.step (Ex.fieldAddr Tryd.underlying68 rfl Tryd.sizeOf3 (by decide) rfl) (Wn.some rfl rfl rfl) rfl rfl ?_
                        first | refine WR.step (Ex.loadM H rfl (by assumption) Tryd.isAgg3) (Wn.some rfl rfl rfl) rfl rfl ?_ | refine WR.step (Ex.load1 H rfl (by repeat (first | exact List.Mem.head _ | apply List.Mem.tail)) Tryd.isAgg3 (by rfl)) (Wn.some rfl rfl rfl) rfl rfl ?_
                        refine WR.split (Ex.eql rfl rfl) (Wn.some rfl rfl rfl) rfl rfl (fun h14_31 => ?_) (fun h14_31 => ?_)
                        ·
                          refine WR.step (Ex.move rfl) (Wn.some rfl rfl rfl) rfl rfl ?_
                          refine WR.step (Ex.fieldAddr Tryd.underlying68 rfl Tryd.sizeOf3 (by decide) rfl) (Wn.some rfl rfl rfl) rfl rfl ?_
                          first | refine WR.step (Ex.loadM H rfl (by assumption) Tryd.isAgg3) (Wn.some rfl rfl rfl) rfl rfl ?_ | refine WR.step (Ex.load1 H rfl (by repeat (first | exact List.Mem.head _ | apply List.Mem.tail)) Tryd.isAgg3 (by rfl)) (Wn.some rfl rfl rfl) rfl rfl ?_
                          refine WR.step (Ex.eql rfl rfl) (Wn.some rfl rfl rfl) rfl rfl ?_
                          refine WR.step (Ex.pickT rfl rfl) (Wn.some rfl rfl rfl) rfl rfl ?_
                          refine WR.step (Ex.pickF rfl rfl) (Wn.none rfl) rfl rfl ?_
                          refine WR.step (Ex.assign rfl) (Wn.none rfl) rfl rfl ?_
                          refine WR.nil ?_
                          refine WQ.then ?_
                          refine WC.ret ?_
                          (repeat (first | refine WQ.thenRet ?_ | refine WQ.inBlockRet ?_))
                          refine WQ.ret1 rfl rfl H.ext ?_
                          refine congrArg Value.bool ?_
                          rw [con_eq, if_neg (by omega)]
                          unfold contC
                          rw [if_neg (by omega)]
                          rw [if_neg (by omega)]
                          rw [if_neg (by omega)]
                          rw [if_neg (by omega)]
                          rw [if_neg (by omega)]
                          first | rfl | exact (decide_eq_true (by omega)).symm | exact (decide_eq_false (by omega)).symm | exact decide_eq_decide.2 (by omega) | (exfalso; omega)
                        ·
                          refine WR.step (Ex.move rfl) (Wn.some rfl rfl rfl) rfl rfl ?_
                          refine WR.skipG (b := false) rfl rfl rfl rfl rfl ?_
                          refine WR.skipG (b := false) rfl rfl rfl rfl rfl ?_
                          refine WR.skipG (b := false) rfl rfl rfl rfl rfl ?_
                          refine WR.step (Ex.pickF rfl rfl) (Wn.some rfl rfl rfl) rfl rfl ?_
                          refine WR.step (Ex.pickF rfl rfl) (Wn.none rfl) rfl rfl ?_
                          refine WR.step (Ex.assign rfl) (Wn.none rfl) rfl rfl ?_
                          refine WR.nil ?_
                          refine WQ.then ?_
                          refine WC.ret ?_
                          (repeat (first | refine WQ.thenRet ?_ | refine WQ.inBlockRet ?_))
                          refine WQ.ret1 rfl rfl H.ext ?_
                          refine congrArg Value.bool ?_
                          rw [con_eq, if_neg (by omega)]
                          unfold contC
                          rw [if_neg (by omega)]
                          rw [if_neg (by omega)]
                          rw [if_neg (by omega)]
                          rw [if_neg (by omega)]
                          rw [if_neg (by omega)]
                          first | rfl | exact (decide_eq_true (by omega)).symm | exact (decide_eq_false (by omega)).symm | exact decide_eq_decide.2 (by omega) | (exfalso; omega)

end Go.Proofs.YtnjglbmaonbcbaaDoor
