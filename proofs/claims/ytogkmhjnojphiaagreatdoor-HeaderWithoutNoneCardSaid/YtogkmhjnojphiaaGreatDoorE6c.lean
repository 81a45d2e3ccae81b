/-
  Hct1, Hct2, Hct3, Hct4: own texts of this repository (wip/tpl, wip/plans), merged and shaken by wip/tools/pack.py.
-/
import Derived.Test.YtogkmhjnojphiaaGreatDoorProg
import Derived.KernelRfl
import Derived.Test.YtogkmhjnojphiaaGreatDoorE6b
set_option maxRecDepth 100000
section
set_option maxRecDepth 100000
set_option linter.unusedVariables false
set_option linter.unusedSimpArgs false
namespace Go.Proofs.YtogkmhjnojphiaaGreatDoor
open Go Go.RowKit Go.Ph Go.Ph.Pl Go.Ph.Pf
abbrev xenc50 (x : (List UInt8 × List UInt8)) : List Value := [S x.1, S x.2]
theorem xty43 : ElemTy Tryz.prog 43 9 (.string ⟨#[]⟩) 1 16 := ElemTy.mk' Tryz.underlying43 (by kernel_rfl) rfl (by decide)
theorem xplaces24 : ∀ {fs : Array Field}, Tryz.prog.underlying 24 = some (.struct fs) → ∀ w, (fs.mapM fun f => do pure (f.offset, ← sizeOf f.type) : Sem (Array (Nat × Nat))).run Tryz.prog w = .ok #[(0, 1), (1, 1)] w := by
  intro fs h w
  rw [Tryz.underlying24] at h
  cases h
  simp
def FnT76 (M : Mem) (v : Value) (g : (UInt8 → Option Bool)) : Prop := ∀ (a0 : UInt8) (r : Bool), g a0 = some r → FnV Tryz.prog M v [encB a0] (fun v M => v = Value.bool r)
theorem FnT76.mono {M M' : Mem} {v : Value} {g : (UInt8 → Option Bool)} (h : FnT76 M v g) (hl : M.le M') : FnT76 M' v g := fun a0 r hr => (h a0 r hr).mono hl
theorem xty31 : ElemTy Tryz.prog 31 50 (.agg #[.string ⟨#[]⟩, .string ⟨#[]⟩]) 2 32 := ElemTy.mk' Tryz.underlying31 (by kernel_rfl) rfl (by decide)
theorem xone50 : ∀ (a : (List UInt8 × List UInt8)), ∀ u ∈ xenc50 a, u.oneCell' = true := by
  intro a u hu
  simp only [xenc50, List.mem_cons, List.not_mem_nil, or_false] at hu
  rcases hu with rfl | rfl <;> rfl
theorem xty30 : ElemTy Tryz.prog 30 5 (.int .u8 0) 1 1 := ElemTy.mk' Tryz.underlying30 (by kernel_rfl) rfl (by decide)
theorem xplaces50 : ∀ {fs : Array Field}, Tryz.prog.underlying 50 = some (.struct fs) → ∀ w, (fs.mapM fun f => do pure (f.offset, ← sizeOf f.type) : Sem (Array (Nat × Nat))).run Tryz.prog w = .ok #[(0, 1), (1, 1)] w := by
  intro fs h w
  rw [Tryz.underlying50] at h
  cases h
  simp
theorem xeq50 (a0 b0 : List UInt8) (a1 b1 : List UInt8) (w : World) : (Op.equalIn 10000 50 (.agg #[S a0, S a1]) (.agg #[S b0, S b1])).run Tryz.prog w = .ok (decide (a0 = b0 ∧ a1 = b1)) w := by
  rw [run_equalIn_struct w 9999 50 _ _ (by rw [Program.fieldsOf, Tryz.underlying50]) (by kernel_rfl)]
  rw [Program.fieldsOf, Tryz.underlying50]
  by_cases h0 : a0 = b0
  rotate_left
  · simp [Op.eqFields, part, h0, Tryz.isAgg9, run_equalIn_string _ _ _ _ _ Tryz.underlying9]
  by_cases h1 : a1 = b1
  rotate_left
  · simp [Op.eqFields, part, h0, h1, Tryz.isAgg9, run_equalIn_string _ _ _ _ _ Tryz.underlying9]
  simp [Op.eqFields, part, h0, h1, Tryz.isAgg9, run_equalIn_string _ _ _ _ _ Tryz.underlying9]
theorem bytesOf_nats (l : List UInt8) : Lib.bytesOf (l.map fun u => (u.toNat : Int)) = l := by
  unfold Lib.bytesOf
  rw [List.map_map]
  conv => rhs; rw [← List.map_id l]
  apply List.map_congr_left
  intro u _
  simp
theorem indexByte_ixB (l : List UInt8) (c : UInt8) : Lib.indexByte l c = ixB l c := by
  unfold ixB
  induction l with
  | nil => simp [Lib.indexByte]
  | cons b l ih =>
    simp only [Lib.indexByte, List.idxOf_cons, List.length_cons]
    by_cases h : b = c
    · subst h; simp
    · have h' : (b == c) = false := by simpa using h
      rw [h', ih]
      simp only [Bool.false_eq_true, if_false, cond_false]
      by_cases hl : l.idxOf c < l.length
      · have h1 : l.idxOf c + 1 < l.length + 1 := by omega
        have h2 : ¬ (((l.idxOf c : Int) == -1) = true) := by simp only [beq_iff_eq]; omega
        simp only [hl, h1, if_true, h2, if_false, Bool.false_eq_true]
        omega
      · have h1 : ¬ (l.idxOf c + 1 < l.length + 1) := by omega
        simp only [hl, h1, if_false]
        rfl
theorem basic_Same_ct {p0 : List UInt8} {p1 : List UInt8} {r : Bool} (h : basic_Same p0 p1 = some r) : Ct Tryz.prog 68 [S p0, S p1] (fun M => True) (fun v M => v = Value.bool r) := by
  unfold basic_Same at h
  split at h
  case isFalse => cases h
  rename_i hb
  cases h
  exact same_spec p0 p1 hb.1 hb.2
theorem R_Alike_ct {p0 : List UInt8} {p1 : List UInt8} {r : Bool} (h : R_Alike p0 p1 = some r) : Ct Tryz.prog 31 [S p0, S p1] (fun M => True) (fun v M => v = Value.bool r) := by
  unfold R_Alike at h
  split at h
  case isFalse => cases h
  rename_i hb
  cases h
  exact alike_spec p0 p1 hb.1 hb.2
theorem strings_IndexByte_ct {p0 : List UInt8} {p1 : UInt8} {r : Int} (h : strings_IndexByte p0 p1 = some r) : Ct Tryz.prog 193 [S p0, encB p1] (fun M => True) (fun v M => v = I r) := by
  cases h
  refine ⟨enters Tryz.func193 (by kernel_rfl) rfl, fun w M ha hp => ?_⟩
  exact (Tryz.strings_IndexByte ⟨p0.toArray⟩ (p1.toNat : Int) w).mono fun e w' ⟨he, hw⟩ => ⟨_, M, he, by subst hw; exact Ext.refl ha, by rw [← indexByte_ixB]; simp⟩
theorem bytes_IndexByte_ct {p0 : List UInt8} {p1 : UInt8} {vp0 : Value} {r : Int} (h : bytes_IndexByte p0 p1 = some r) : Ct Tryz.prog 102 [vp0, encB p1] (fun M => Sl M encB vp0 p0) (fun v M => v = I r) := by
  cases h
  refine ⟨enters Tryz.func102 (by kernel_rfl) rfl, fun w M ha hp => ?_⟩
  obtain ⟨A, cp, rfl, hc, hn⟩ := Sl.cells hp ha
  have hcv : ((p1.toNat : Int)).toNat.toUInt8 = p1 := by simp
  cases A with
  | none =>
    obtain ⟨rfl, rfl⟩ := hn rfl
    exact (Tryz.bytes_IndexByte_nil (p1.toNat : Int) w).mono fun e w' ⟨he, hw⟩ => ⟨_, M, he, by subst hw; exact Ext.refl ha, rfl⟩
  | some ad =>
    refine (Tryz.bytes_IndexByte_at ad p0.length cp (p0.map fun u => (u.toNat : Int)) (p1.toNat : Int) w (by simp) (fun i hi => ?_)).mono fun e w' ⟨he, hw⟩ => ⟨_, M, he, by subst hw; exact Ext.refl ha, ?_⟩
    · have := hc ad rfl i (encB p0[i]) (by simp [hi])
      rw [this]
      simp [hi]
    · rw [bytesOf_nats, hcv, indexByte_ixB]
theorem stringslite_Index_ct {p0 : List UInt8} {p1 : List UInt8} {r : Int} (h : stringslite_Index p0 p1 = some r) : Ct Tryz.prog 153 [S p0, S p1] (fun M => GlF (fun w => ∃ m, w.cell? ⟨2, 0, none⟩ = some (.int .i64 m)) M) (fun v M => v = I r) := by
  unfold stringslite_Index at h
  split at h
  case isFalse => cases h
  rename_i hb
  cases h
  refine ⟨enters Tryz.func153 (by kernel_rfl) rfl, fun w M ha hp => ?_⟩
  obtain ⟨m, hm⟩ := hp w ha
  exact (Tryz.stringslite_Index ⟨p0.toArray⟩ ⟨p1.toArray⟩ m w (by simpa [ByteArray.size] using hb) hm).mono fun e w' ⟨he, hw⟩ => ⟨_, M, he, by subst hw; exact Ext.refl ha, rfl⟩
theorem strings_Replacer_build_ct {p0 : List (List UInt8)} {bp0 : Nat} {vp0 : Value} {r : (List UInt8 × List (List UInt8))} (h : strings_Replacer_build p0 = some r) : CtX Tryz.prog 150 [ptr bp0 0] [.blk bp0 (.cells #[Value.int .u32 0, Value.int .i32 1, Value.int .u32 0, Value.nilIface, vp0] 139)] (fun M => Sl M encS vp0 p0) (fun v M its => ∃ b0_, v = (Value.iface 204 (ptr b0_ 0)) ∧ PtM M b0_ (.cells (List.map encB r.1).toArray 203) ∧ its = [.blk bp0 (.cells #[Value.int .u32 0, Value.int .i32 1, Value.int .u32 0, Value.nilIface, vp0] 139)]) := by
  refine CtX.of Tryz.func150 (enters Tryz.func150 (by kernel_rfl) rfl) rfl rfl rfl ?_
  intro w0 M0 H hp
  have hp0 := hp
  unfold strings_Replacer_build at h
  refine SQ (RG (AS rfl rfl (NL (TN (SQ (RG (MV rfl rfl (ST (Ex.nilCheckP rfl) rfl (ST (Ex.fieldAddr Tryz.underlying139 rfl Tryz.sizeOf43 (by decide) rfl) rfl (ST (Ex.load1 H rfl (by repeat (first | exact List.Mem.head _ | apply List.Mem.tail)) Tryz.isAgg43 (by rfl)) rfl ?_))))))))))
  refine AS rfl rfl (NL (TN (SQ (SQ ?_))))
  obtain ⟨o1, e2, h⟩ := bnd h
  refine WC.cutX (fun e w => ∃ (b3 : Bool) (M : Mem), e = [(3, vp0), (28, Value.bool b3)] ∧ StX (feet [.blk bp0 (.cells #[Value.int .u32 0, Value.int .i32 1, Value.int .u32 0, Value.nilIface, vp0] 139)]) w0 M0 M [.blk bp0 (.cells #[Value.int .u32 0, Value.int .i32 1, Value.int .u32 0, Value.nilIface, vp0] 139)] w ∧ Sl M encS vp0 p0 ∧ some b3 = some o1) [] ?_ ?_ (trivial)
  ·
   refine RG (MV rfl rfl (ST (Ex.lenSl Tryz.underlying43 hp0 rfl) rfl ?_))
   by_cases hk4 : (p0.length : Int) = (2 : Int)
   ·
    rw [if_pos hk4] at e2
    obtain ⟨a5, hxa5, e2⟩ := bnd e2
    obtain ⟨b24, o24, ha24, hc24⟩ := hp0.atC hxa5
    refine WR.stepE (v' := .bool true) (Ex.eql rfl rfl) (congrArg Value.bool (decide_eq_true hk4)) (Wn.none rfl) rfl rfl (MV rfl rfl (SG (Ex.move rfl) rfl rfl rfl (SG (Ex.idxAt ha24 Tryz.underlying43 Tryz.sizeOf9 rfl rfl) rfl rfl rfl (SG (Ex.loadM H rfl hc24 Tryz.isAgg9) rfl rfl rfl (SG (Ex.lenStr Tryz.underlying9 rfl) rfl rfl rfl (SG (Ex.gtr rfl rfl) rfl rfl rfl (PT rfl rfl rfl (NL ?_))))))))
    exact WQ.meetN [(3, _), (28, _)] ⟨rfl, rfl, trivial⟩ ⟨_, _, rfl, H, hp0, e2⟩
   ·
    rw [if_neg hk4] at e2
    refine WR.stepE (v' := .bool false) (Ex.eql rfl rfl) (congrArg Value.bool (decide_eq_false hk4)) (Wn.none rfl) rfl rfl (MV rfl rfl (WR.skipN 5 rfl rfl (PF rfl rfl rfl (NL ?_))))
    exact WQ.meetN [(3, _), (28, _)] ⟨rfl, rfl, trivial⟩ ⟨_, _, rfl, H, hp0, e2⟩
  ·
   rintro e w ⟨b3, M, rfl, H, hp0, q6⟩
   obtain rfl := Option.some.inj q6
   refine TN ?_
   refine WC.condB rfl (fun hk7 => ?_) (fun hk7 => ?_)
   ·
    subst hk7
    rw [if_pos rfl] at h
    cases h
   ·
    subst hk7
    rw [if_neg Bool.false_ne_true] at h
    refine SK (TN (SQ (RG (AS rfl rfl (NL (TN (SQ (SQ (RG (AS rfl rfl (NL (TN ?_))))))))))))
    obtain ⟨o10, e11, h⟩ := bnd h
    refine WC.cutX (fun e w => ∃ (b12 : Bool) (M : Mem), e = [(3, vp0), (4, Value.bool b12)] ∧ StX (feet [.blk bp0 (.cells #[Value.int .u32 0, Value.int .i32 1, Value.int .u32 0, Value.nilIface, vp0] 139)]) w0 M0 M [.blk bp0 (.cells #[Value.int .u32 0, Value.int .i32 1, Value.int .u32 0, Value.nilIface, vp0] 139)] w ∧ Sl M encS vp0 p0 ∧ some (.inl b12) = some o10) [] ?_ ?_ (trivial)
    ·
     refine BL (WC.loopP (fun m e w => ∃ (b13 : Bool) (n14 : Int) (M : Mem), e = [(3, vp0), (4, Value.bool b13), (5, I n14)] ∧ StX (feet [.blk bp0 (.cells #[Value.int .u32 0, Value.int .i32 1, Value.int .u32 0, Value.nilIface, vp0] 139)]) w0 M0 M [.blk bp0 (.cells #[Value.int .u32 0, Value.int .i32 1, Value.int .u32 0, Value.nilIface, vp0] 139)] w ∧ Sl M encS vp0 p0 ∧ strings_Replacer_build_L1 p0 m b13 n14 = some o10) FU [(3, _), (4, _), (5, _)] ⟨rfl, rfl, rfl, trivial⟩ ⟨_, _, _, rfl, H, hp0, e11⟩ ?_)
     rintro m15 e w ⟨b13, n14, M, rfl, H, hp0, e11⟩
     rcases m15 with _ | m15
     · rw [strings_Replacer_build_L1] at e11; cases e11
     rw [strings_Replacer_build_L1] at e11
     refine SQ (SQ (RG (MV rfl rfl (MV rfl rfl (ST (Ex.lenSl Tryz.underlying43 hp0 rfl) rfl (ST (Ex.lss rfl rfl) rfl (NL (TN ?_))))))))
     refine WC.condB rfl (fun hk16 => ?_) (fun hk16 => ?_)
     ·
      replace hk16 : n14 < (p0.length : Int) := of_decide_eq_true hk16
      rw [if_pos hk16] at e11
      refine SK (TN (SQ (BL (SQ (SQ ?_)))))
      obtain ⟨a17, hxa17, e11⟩ := bnd e11
      obtain ⟨b45, o45, ha45, hc45⟩ := hp0.atC hxa17
      refine RG (MV rfl rfl (MV rfl rfl (ST (Ex.idxAt ha45 Tryz.underlying43 Tryz.sizeOf9 rfl rfl) rfl (ST (Ex.loadM H rfl hc45 Tryz.isAgg9) rfl (ST (Ex.lenStr Tryz.underlying9 rfl) rfl (ST (Ex.neqC rfl rfl) rfl (NL (TN ?_))))))))
      refine WC.condB rfl (fun hk18 => ?_) (fun hk18 => ?_)
      ·
       replace hk18 : ¬ ((a17.length : Int) = (1 : Int)) := of_not_decide hk18
       rw [if_neg hk18] at e11
       cases e11
      ·
       replace hk18 : (a17.length : Int) = (1 : Int) := of_not_decide' hk18
       rw [if_pos hk18] at e11
       refine SK (TN (SQ ?_))
       obtain ⟨n19, hxn19, e11⟩ := bnd e11
       obtain ⟨a20, hxa20, e11⟩ := bnd e11
       obtain ⟨b55, o55, ha55, hc55⟩ := hp0.atC hxa20
       refine RG (MV rfl rfl (MV rfl rfl (ST (Ex.addC rfl rfl hxn19) rfl (ST (Ex.idxAt ha55 Tryz.underlying43 Tryz.sizeOf9 rfl rfl) rfl (ST (Ex.loadM H rfl hc55 Tryz.isAgg9) rfl (ST (Ex.lenStr Tryz.underlying9 rfl) rfl (ST (Ex.neqC rfl rfl) rfl (NL (TN ?_)))))))))
       refine WC.condB rfl (fun hk21 => ?_) (fun hk21 => ?_)
       ·
        replace hk21 : ¬ ((a20.length : Int) = (1 : Int)) := of_not_decide hk21
        rw [if_neg hk21] at e11
        refine RG (AS rfl rfl (NL (IB (TN ?_))))
        obtain ⟨n22, hxn22, e11⟩ := bnd e11
        refine RG (MV rfl rfl (ST (Ex.addC rfl rfl hxn22) rfl (AS rfl rfl (NL ?_))))
        exact WQ.againP m15 [(3, _), (4, _), (5, _)] ⟨rfl, rfl, rfl, trivial⟩ ⟨_, _, _, rfl, H, hp0, e11⟩ (Nat.lt_succ_self _)
       ·
        replace hk21 : (a20.length : Int) = (1 : Int) := of_not_decide' hk21
        rw [if_pos hk21] at e11
        refine SK (IB (TN ?_))
        obtain ⟨n23, hxn23, e11⟩ := bnd e11
        refine RG (MV rfl rfl (ST (Ex.addC rfl rfl hxn23) rfl (AS rfl rfl (NL ?_))))
        exact WQ.againP m15 [(3, _), (4, _), (5, _)] ⟨rfl, rfl, rfl, trivial⟩ ⟨_, _, _, rfl, H, hp0, e11⟩ (Nat.lt_succ_self _)
     ·
      replace hk16 : ¬ (n14 < (p0.length : Int)) := of_decide_eq_false hk16
      rw [if_neg hk16] at e11
      refine WC.exit (WQ.thenExit (WQ.thenExit (WQ.exitHere ?_)))
      exact WQ.meetN [(3, _), (4, _)] ⟨rfl, rfl, trivial⟩ ⟨_, _, rfl, H, hp0, e11⟩
    ·
     rintro e w ⟨b12, M, rfl, H, hp0, q24⟩
     obtain rfl := Option.some.inj q24
     try dsimp only at h
     refine TN (SQ (SQ (RG (MV rfl rfl (NL (TN ?_))))))
     refine WC.condB rfl (fun hk25 => ?_) (fun hk25 => ?_)
     ·
      subst hk25
      rw [if_pos rfl] at h
      refine SQ ?_
      obtain ⟨l26, hxl26, h⟩ := bnd h
      obtain ⟨l27, hxl27, h⟩ := bnd h
      refine RG (ST (Ex.buildArr [encB 0, encB 0, encB 0, encB 0, encB 0, encB 0, encB 0, encB 0, encB 0, encB 0, encB 0, encB 0, encB 0, encB 0, encB 0, encB 0, encB 0, encB 0, encB 0, encB 0, encB 0, encB 0, encB 0, encB 0, encB 0, encB 0, encB 0, encB 0, encB 0, encB 0, encB 0, encB 0, encB 0, encB 0, encB 0, encB 0, encB 0, encB 0, encB 0, encB 0, encB 0, encB 0, encB 0, encB 0, encB 0, encB 0, encB 0, encB 0, encB 0, encB 0, encB 0, encB 0, encB 0, encB 0, encB 0, encB 0, encB 0, encB 0, encB 0, encB 0, encB 0, encB 0, encB 0, encB 0, encB 0, encB 0, encB 0, encB 0, encB 0, encB 0, encB 0, encB 0, encB 0, encB 0, encB 0, encB 0, encB 0, encB 0, encB 0, encB 0, encB 0, encB 0, encB 0, encB 0, encB 0, encB 0, encB 0, encB 0, encB 0, encB 0, encB 0, encB 0, encB 0, encB 0, encB 0, encB 0, encB 0, encB 0, encB 0, encB 0, encB 0, encB 0, encB 0, encB 0, encB 0, encB 0, encB 0, encB 0, encB 0, encB 0, encB 0, encB 0, encB 0, encB 0, encB 0, encB 0, encB 0, encB 0, encB 0, encB 0, encB 0, encB 0, encB 0, encB 0, encB 0, encB 0, encB 0, encB 0, encB 0, encB 0, encB 0, encB 0, encB 0, encB 0, encB 0, encB 0, encB 0, encB 0, encB 0, encB 0, encB 0, encB 0, encB 0, encB 0, encB 0, encB 0, encB 0, encB 0, encB 0, encB 0, encB 0, encB 0, encB 0, encB 0, encB 0, encB 0, encB 0, encB 0, encB 0, encB 0, encB 0, encB 0, encB 0, encB 0, encB 0, encB 0, encB 0, encB 0, encB 0, encB 0, encB 0, encB 0, encB 0, encB 0, encB 0, encB 0, encB 0, encB 0, encB 0, encB 0, encB 0, encB 0, encB 0, encB 0, encB 0, encB 0, encB 0, encB 0, encB 0, encB 0, encB 0, encB 0, encB 0, encB 0, encB 0, encB 0, encB 0, encB 0, encB 0, encB 0, encB 0, encB 0, encB 0, encB 0, encB 0, encB 0, encB 0, encB 0, encB 0, encB 0, encB 0, encB 0, encB 0, encB 0, encB 0, encB 0, encB 0, encB 0, encB 0, encB 0, encB 0, encB 0, encB 0, encB 0, encB 0, encB 0, encB 0, encB 0, encB 0, encB 0, encB 0, encB 0, encB 0, encB 0, encB 0, encB 0, encB 0, encB 0, encB 0, encB 0, encB 0, encB 0, encB 0, encB 0, encB 0, encB 0, encB 0, encB 0, encB 0, encB 0, encB 0, encB 0, encB 0, encB 0, encB 0, encB 0] Tryz.underlying203 Tryz.zeroValue203 Tryz.sizeOf5 rfl (by kernel_rfl)) rfl ?_)
      refine WR.alloc (List.map encB (List.replicate 256 0 : List UInt8)) H Tryz.zeroValue203 (by kernel_rfl) (Wn.none rfl) rfl ?_
      intro b6 w H
      refine WR.storeA (l2 := ([0, 0, 0, 0, 0, 0, 0, 0, 0, 0, 0, 0, 0, 0, 0, 0, 0, 0, 0, 0, 0, 0, 0, 0, 0, 0, 0, 0, 0, 0, 0, 0, 0, 0, 0, 0, 0, 0, 0, 0, 0, 0, 0, 0, 0, 0, 0, 0, 0, 0, 0, 0, 0, 0, 0, 0, 0, 0, 0, 0, 0, 0, 0, 0, 0, 0, 0, 0, 0, 0, 0, 0, 0, 0, 0, 0, 0, 0, 0, 0, 0, 0, 0, 0, 0, 0, 0, 0, 0, 0, 0, 0, 0, 0, 0, 0, 0, 0, 0, 0, 0, 0, 0, 0, 0, 0, 0, 0, 0, 0, 0, 0, 0, 0, 0, 0, 0, 0, 0, 0, 0, 0, 0, 0, 0, 0, 0, 0, 0, 0, 0, 0, 0, 0, 0, 0, 0, 0, 0, 0, 0, 0, 0, 0, 0, 0, 0, 0, 0, 0, 0, 0, 0, 0, 0, 0, 0, 0, 0, 0, 0, 0, 0, 0, 0, 0, 0, 0, 0, 0, 0, 0, 0, 0, 0, 0, 0, 0, 0, 0, 0, 0, 0, 0, 0, 0, 0, 0, 0, 0, 0, 0, 0, 0, 0, 0, 0, 0, 0, 0, 0, 0, 0, 0, 0, 0, 0, 0, 0, 0, 0, 0, 0, 0, 0, 0, 0, 0, 0, 0, 0, 0, 0, 0, 0, 0, 0, 0, 0, 0, 0, 0, 0, 0, 0, 0, 0, 0, 0, 0, 0, 0, 0, 0, 0, 0, 0, 0, 0, 0, 0, 0, 0, 0, 0, 0] : List UInt8)) H rfl rfl (fun _ => rfl) (fun _ => by repeat first | exact .head | apply Upd.tail) hxl26 hxl27 Tryz.sizeOf203 (Wn.none rfl) ?_
      intro w H
      refine NL (TN (SQ (SQ (RG (MV rfl rfl (NL (TN ?_)))))))
      obtain ⟨o28, e29, h⟩ := bnd h
      refine WC.cutX (fun e w => ∃ (l30 : List UInt8) (M : Mem), e = [(3, vp0), (6, ptr b6 0)] ∧ StX (feet [.blk bp0 (.cells #[Value.int .u32 0, Value.int .i32 1, Value.int .u32 0, Value.nilIface, vp0] 139)]) w0 M0 M [.blk b6 (.cells (List.map encB l30).toArray 203), .blk bp0 (.cells #[Value.int .u32 0, Value.int .i32 1, Value.int .u32 0, Value.nilIface, vp0] 139)] w ∧ Sl M encS vp0 p0 ∧ some l30 = some o28) [] ?_ ?_ (trivial)
      ·
       refine BL (WC.loopP (fun m e w => ∃ (l31 : List UInt8) (n32 : Int) (M : Mem), e = [(3, vp0), (6, ptr b6 0), (61, I n32)] ∧ StX (feet [.blk bp0 (.cells #[Value.int .u32 0, Value.int .i32 1, Value.int .u32 0, Value.nilIface, vp0] 139)]) w0 M0 M [.blk b6 (.cells (List.map encB l31).toArray 203), .blk bp0 (.cells #[Value.int .u32 0, Value.int .i32 1, Value.int .u32 0, Value.nilIface, vp0] 139)] w ∧ Sl M encS vp0 p0 ∧ strings_Replacer_build_L2  m l31 n32 = some o28) FU [(3, _), (6, _), (61, _)] ⟨rfl, rfl, rfl, trivial⟩ ⟨_, _, _, rfl, H, hp0, e29⟩ ?_)
       rintro m33 e w ⟨l31, n32, M, rfl, H, hp0, e29⟩
       rcases m33 with _ | m33
       · rw [strings_Replacer_build_L2] at e29; cases e29
       rw [strings_Replacer_build_L2] at e29
       refine SQ (RG (ST (Ex.lss rfl rfl) rfl (NL (TN (SQ ?_)))))
       refine WC.condB rfl (fun hk34 => ?_) (fun hk34 => ?_)
       ·
        replace hk34 : n32 < (256 : Int) := of_decide_eq_true hk34
        rw [if_pos hk34] at e29
        refine SK (TN (SQ (BL (SQ (RG (MV rfl rfl (AS rfl rfl (NL (TN ?_)))))))))
        obtain ⟨c35, hxc35, e29⟩ := bnd e29
        obtain ⟨l36, hxl36, e29⟩ := bnd e29
        refine RG (MV rfl rfl (MV rfl rfl (ST (Ex.convU8C Tryz.underlying3 Tryz.underlying5 rfl) rfl (ST (Ex.idxArrC (l := l31) Tryz.underlying203 Tryz.sizeOf5 rfl rfl hxc35) rfl (WR.storeArr (a := (ub8 n32)) H rfl rfl ⟨rfl, rfl⟩ (fun _ => by repeat first | exact .head | apply Upd.tail) hxl36 Tryz.sizeOf5 (Wn.none rfl) ?_)))))
        intro w H
        refine NL (IB (TN ?_))
        obtain ⟨n37, hxn37, e29⟩ := bnd e29
        refine RG (ST (Ex.addC rfl rfl hxn37) rfl (MV rfl rfl (NL ?_)))
        exact WQ.againP m33 [(3, _), (6, _), (61, _)] ⟨rfl, rfl, rfl, trivial⟩ ⟨_, _, _, rfl, H, hp0, e29⟩ (Nat.lt_succ_self _)
       ·
        replace hk34 : ¬ (n32 < (256 : Int)) := of_decide_eq_false hk34
        rw [if_neg hk34] at e29
        refine WC.exit (WQ.thenExit (WQ.thenExit (WQ.exitHere ?_)))
        exact WQ.meetN [(3, _), (6, _)] ⟨rfl, rfl, trivial⟩ ⟨_, _, rfl, H, hp0, e29⟩
      ·
       rintro e w ⟨l30, M, rfl, H, hp0, q38⟩
       obtain rfl := Option.some.inj q38
       refine TN (SQ (SQ ?_))
       obtain ⟨n39, hxn39, h⟩ := bnd h
       refine RG (MV rfl rfl (ST (Ex.lenSl Tryz.underlying43 hp0 rfl) rfl (ST (Ex.subC rfl rfl hxn39) rfl (AS rfl rfl (NL (TN ?_))))))
       obtain ⟨o40, e41, h⟩ := bnd h
       refine WC.cutX (fun e w => ∃ (l42 : List UInt8) (M : Mem), e = [(6, ptr b6 0)] ∧ StX (feet [.blk bp0 (.cells #[Value.int .u32 0, Value.int .i32 1, Value.int .u32 0, Value.nilIface, vp0] 139)]) w0 M0 M [.blk b6 (.cells (List.map encB l42).toArray 203), .blk bp0 (.cells #[Value.int .u32 0, Value.int .i32 1, Value.int .u32 0, Value.nilIface, vp0] 139)] w ∧ Sl M encS vp0 p0 ∧ some l42 = some o40) [] ?_ ?_ (trivial)
       ·
        refine BL (WC.loopP (fun m e w => ∃ (l43 : List UInt8) (n44 : Int) (M : Mem), e = [(3, vp0), (6, ptr b6 0), (8, I n44)] ∧ StX (feet [.blk bp0 (.cells #[Value.int .u32 0, Value.int .i32 1, Value.int .u32 0, Value.nilIface, vp0] 139)]) w0 M0 M [.blk b6 (.cells (List.map encB l43).toArray 203), .blk bp0 (.cells #[Value.int .u32 0, Value.int .i32 1, Value.int .u32 0, Value.nilIface, vp0] 139)] w ∧ Sl M encS vp0 p0 ∧ strings_Replacer_build_L3 p0 m l43 n44 = some o40) FU [(3, _), (6, _), (8, _)] ⟨rfl, rfl, rfl, trivial⟩ ⟨_, _, _, rfl, H, hp0, e41⟩ ?_)
        rintro m45 e w ⟨l43, n44, M, rfl, H, hp0, e41⟩
        rcases m45 with _ | m45
        · rw [strings_Replacer_build_L3] at e41; cases e41
        rw [strings_Replacer_build_L3] at e41
        refine SQ (SQ (RG (MV rfl rfl (ST (Ex.geq rfl rfl) rfl (NL (TN ?_))))))
        refine WC.condB rfl (fun hk46 => ?_) (fun hk46 => ?_)
        ·
         replace hk46 : (0 : Int) ≤ n44 := of_decide_eq_true hk46
         rw [if_pos hk46] at e41
         refine SK (TN (SQ (BL (SQ ?_))))
         obtain ⟨a47, hxa47, e41⟩ := bnd e41
         obtain ⟨b78, o78, ha78, hc78⟩ := hp0.atC hxa47
         obtain ⟨c48, hxc48, e41⟩ := bnd e41
         refine RG (MV rfl rfl (MV rfl rfl (ST (Ex.idxAt ha78 Tryz.underlying43 Tryz.sizeOf9 rfl rfl) rfl (ST (Ex.loadM H rfl hc78 Tryz.isAgg9) rfl (ST (Ex.idxStrC Tryz.underlying9 rfl rfl hxc48) rfl (AS rfl rfl (NL (TN (SQ ?_)))))))))
         obtain ⟨n49, hxn49, e41⟩ := bnd e41
         obtain ⟨a50, hxa50, e41⟩ := bnd e41
         obtain ⟨b84, o84, ha84, hc84⟩ := hp0.atC hxa50
         obtain ⟨c51, hxc51, e41⟩ := bnd e41
         refine RG (MV rfl rfl (MV rfl rfl (ST (Ex.addC rfl rfl hxn49) rfl (ST (Ex.idxAt ha84 Tryz.underlying43 Tryz.sizeOf9 rfl rfl) rfl (ST (Ex.loadM H rfl hc84 Tryz.isAgg9) rfl (ST (Ex.idxStrC Tryz.underlying9 rfl rfl hxc51) rfl (AS rfl rfl (NL (TN ?_)))))))))
         obtain ⟨c52, hxc52, e41⟩ := bnd e41
         obtain ⟨l53, hxl53, e41⟩ := bnd e41
         refine RG (MV rfl rfl (MV rfl rfl (ST (Ex.idxArrC (l := l43) Tryz.underlying203 Tryz.sizeOf5 rfl rfl hxc52) rfl (WR.storeArr (a := c51) H rfl rfl ⟨rfl, rfl⟩ (fun _ => by repeat first | exact .head | apply Upd.tail) hxl53 Tryz.sizeOf5 (Wn.none rfl) ?_))))
         intro w H
         refine NL (IB (TN ?_))
         obtain ⟨n54, hxn54, e41⟩ := bnd e41
         refine RG (MV rfl rfl (ST (Ex.subC rfl rfl hxn54) rfl (AS rfl rfl (NL ?_))))
         exact WQ.againP m45 [(3, _), (6, _), (8, _)] ⟨rfl, rfl, rfl, trivial⟩ ⟨_, _, _, rfl, H, hp0, e41⟩ (Nat.lt_succ_self _)
        ·
         replace hk46 : ¬ ((0 : Int) ≤ n44) := of_decide_eq_false hk46
         rw [if_neg hk46] at e41
         refine WC.exit (WQ.thenExit (WQ.thenExit (WQ.exitHere ?_)))
         exact WQ.meetN [(6, _)] ⟨rfl, trivial⟩ ⟨_, _, rfl, H, hp0, e41⟩
       ·
        rintro e w ⟨l42, M, rfl, H, hp0, q55⟩
        obtain rfl := Option.some.inj q55
        refine TN (SQ (RG (ST (Ex.makeIface Tryz.underlying204 rfl) rfl (AS rfl rfl (NL (TN (RT ?_)))))))
        obtain ⟨M, hle, hb56, H⟩ := H.freezeVarN (b := b6) (by repeat first | exact .head | apply Rem.tail) ⟨⟨_, (by repeat (first | exact List.Mem.head _ | apply List.Mem.tail))⟩, trivial⟩
        replace hp0 := hp0.mono hle
        obtain rfl := Option.some.inj h
        exact WQ.retX1 (its := [.blk bp0 (.cells #[Value.int .u32 0, Value.int .i32 1, Value.int .u32 0, Value.nilIface, vp0] 139)]) rfl rfl H (by repeat (first | exact Pick.nil | refine Pick.cons (by repeat first | exact .head | apply Rem.tail) ?_)) ⟨_, rfl, hb56, rfl⟩
     ·
      subst hk25
      rw [if_neg Bool.false_ne_true] at h
      cases h
theorem htab (c : UInt8) : (tabR.map encB)[0 + c.toNat * 1]? = some (encB (rpb c)) := by
  have := c.toNat_lt
  rw [Nat.zero_add, Nat.mul_one]
  unfold tabR
  rw [List.getElem?_map, List.getElem?_map, List.getElem?_range (by omega)]
  simp
theorem rep_put {s : List UInt8} {k : Nat} (hk : k < s.length) : idx ((s.take k).map rpb ++ s.drop k) (k : Int) = some s[k] ∧ put ((s.take k).map rpb ++ s.drop k) (k : Int) (rpb s[k]) = some ((s.take (k + 1)).map rpb ++ s.drop (k + 1)) ∧ (rpb s[k] = s[k] → (s.take (k + 1)).map rpb ++ s.drop (k + 1) = (s.take k).map rpb ++ s.drop k) := by
  have hlen : ((s.take k).map rpb).length = k := by rw [List.length_map, List.length_take]; omega
  have hd := List.drop_eq_getElem_cons hk
  have hll : ((s.take k).map rpb ++ s.drop k).length = s.length := by rw [List.length_append, hlen, List.length_drop]; omega
  refine ⟨?_, ?_, fun h => ?_⟩
  · rw [idx_nat, List.getElem?_append_right (by omega), hlen, Nat.sub_self, hd]; rfl
  · rw [put_ok (by omega) (by omega), Int.toNat_natCast, List.set_append_right _ _ (by omega), hlen, Nat.sub_self, hd, List.set_cons_zero, List.take_succ_eq_append_getElem hk, List.map_append, List.append_assoc]; rfl
  · rw [List.take_succ_eq_append_getElem hk, List.map_append, List.append_assoc, hd]
    show _ ++ (rpb s[k] :: _) = _
    rw [h]; rfl
theorem repB_ct {s : List UInt8} {b2 : Nat} {T : TypeId} (hs : s.length ≤ 1000000) : Ct Tryz.prog 243 [ptr b2 0, S s] (fun M => PtM M b2 (.cells (tabR.map encB).toArray T)) (fun v M => v = S (s.map rpb)) := by
  refine Ct.of Tryz.func243 (enters Tryz.func243 (by kernel_rfl) rfl) rfl rfl rfl ?_
  intro w0 M0 H hp1
  refine SQ (RG (AS rfl rfl (NL (TN (SQ (RG (AS rfl rfl (NL (TN (SQ (SQ (RG (AS rfl rfl (NL (TN ?_)))))))))))))))
  refine WC.cutX (fun e w => ∃ (vb : Value) (M : Mem), e = [(1, S s), (5, vb)] ∧ ((vb = .slice none 0 0 ∧ s.map rpb = s ∧ St w0 M0 M [] w) ∨ ∃ gb cap, vb = .slice (some ⟨gb, 0, none⟩) s.length cap ∧ SOK M (s.map rpb) s.length cap ∧ St w0 M0 M [SRow gb cap 5 (s.map rpb)] w)) [] ?_ ?_ (trivial)
  · refine WC.block ?_
    refine WC.loopP (fun m e w => ∃ (k : Nat) (vb : Value) (M : Mem), e = [(0, ptr b2 0), (1, S s), (5, vb), (6, I (k : Int))] ∧ k ≤ s.length ∧ s.length - k < m ∧ PtM M b2 (.cells (tabR.map encB).toArray T) ∧ ((vb = .slice none 0 0 ∧ (s.take k).map rpb = s.take k ∧ St w0 M0 M [] w) ∨ ∃ gb cap, vb = .slice (some ⟨gb, 0, none⟩) s.length cap ∧ SOK M ((s.take k).map rpb ++ s.drop k) s.length cap ∧ St w0 M0 M [SRow gb cap 5 ((s.take k).map rpb ++ s.drop k)] w)) FU [(0, _), (1, _), (5, _), (6, _)] ⟨rfl, rfl, rfl, rfl, trivial⟩ ⟨0, _, _, rfl, Nat.zero_le _, by unfold FU; omega, hp1, .inl ⟨rfl, rfl, H⟩⟩ ?_
    rintro m e w ⟨k, vb, M, rfl, hk, hm, hp1, hph⟩
    obtain ⟨m, rfl⟩ : ∃ q, m = q + 1 := ⟨m - 1, by omega⟩
    rcases hph with ⟨rfl, hid, H⟩ | ⟨gb, cap, rfl, hok, H⟩
    · -- nothing is copied yet
      refine SQ (SQ (RG (MV rfl rfl (MV rfl rfl (ST (Ex.lenStr Tryz.underlying9 rfl) rfl (ST (Ex.lss rfl rfl) rfl (NL (TN ?_))))))))
      refine WC.condB rfl (fun hk5 => ?_) (fun hk5 => ?_)
      · have hlt : k < s.length := by have := of_decide_eq_true hk5; omega
        have hidx : idx s (k : Int) = some s[k] := by rw [idx_nat]; exact List.getElem?_eq_getElem hlt
        obtain ⟨hat, hput, hsame⟩ := rep_put hlt
        refine SK (TN (SQ (BL (SQ (RG (MV rfl rfl (MV rfl rfl (ST (Ex.idxStrC Tryz.underlying9 rfl rfl hidx) rfl (AS rfl rfl (NL (TN (SQ (RG (MV rfl rfl (MV rfl rfl (ST (Ex.nilCheckP rfl) rfl (ST (Ex.idxArr (i := s[k].toNat) Tryz.underlying203 Tryz.sizeOf5 rfl rfl (s[k].toNat_lt)) rfl (ST (Ex.loadM H rfl (hp1.cell (htab s[k])) Tryz.isAgg5) rfl (MV rfl rfl (ST (Ex.neqB rfl rfl) rfl (NL (TN ?_))))))))))))))))))))))
        refine WC.condB rfl (fun hk9 => ?_) (fun hk9 => ?_)
        · refine WC.seq ?_
          refine SQ (RG (MV rfl rfl (ST (Ex.eqlNilS Tryz.underlying30 rfl) rfl (NL (TN (CT rfl (RG (MV rfl rfl (WR.toBytesC H Tryz.underlying9 Tryz.underlying30 Tryz.underlying5 rfl (toB_ok (by omega)) (Wn.none rfl) rfl ?_)))))))))
          intro gb cap w hok H
          refine AS rfl rfl (NL (TN ?_))
          have hs0 : s = (s.take k).map rpb ++ s.drop k := by rw [hid, List.take_append_drop]
          replace hok : SOK M ((s.take k).map rpb ++ s.drop k) s.length cap := by rw [← hs0]; exact hok
          replace H : St w0 M0 M [SRow gb cap 5 ((s.take k).map rpb ++ s.drop k)] w := by rw [← hs0]; exact H
          refine RG (MV rfl rfl (MV rfl rfl (MV rfl rfl (MV rfl rfl (ST (Ex.nilCheckP rfl) rfl (ST (Ex.idxArr (i := s[k].toNat) Tryz.underlying203 Tryz.sizeOf5 rfl rfl (s[k].toNat_lt)) rfl (ST (Ex.loadM H rfl (hp1.cell (htab s[k])) Tryz.isAgg5) rfl (ST (Ex.idxSC (i := (k : Int)) Tryz.underlying30 Tryz.sizeOf5 hok rfl rfl hat) rfl (WR.storeSC (i := (k : Int)) H rfl rfl hok (fun _ => Upd.head) hput Tryz.sizeOf5 (Wn.none rfl) ?_)))))))))
          intro w hok H
          refine NL (IB (TN (RG (MV rfl rfl (ST (Ex.addC rfl rfl (chk_succ (by omega))) rfl ?_)))))
          refine AS rfl rfl (NL ?_)
          exact WQ.againP m [(0, _), (1, _), (5, _), (6, _)] ⟨rfl, rfl, rfl, rfl, trivial⟩ ⟨k + 1, _, M, rfl, by omega, by omega, hp1, .inr ⟨gb, cap, rfl, hok, H⟩⟩ (Nat.lt_succ_self _)
        · have hsm : rpb s[k] = s[k] := by simpa using hk9
          refine SK (IB (TN (RG (MV rfl rfl (ST (Ex.addC rfl rfl (chk_succ (by omega))) rfl ?_)))))
          refine AS rfl rfl (NL ?_)
          exact WQ.againP m [(0, _), (1, _), (5, _), (6, _)] ⟨rfl, rfl, rfl, rfl, trivial⟩ ⟨k + 1, _, M, rfl, by omega, by omega, hp1, .inl ⟨rfl, by rw [List.take_succ_eq_append_getElem hlt, List.map_append, hid]; simp [hsm], H.pick (by repeat (first | exact Pick.nil | refine Pick.cons (by repeat first | exact .head | apply Rem.tail) ?_))⟩⟩ (Nat.lt_succ_self _)
      · have hge : k = s.length := by have := of_decide_eq_false hk5; omega
        refine WC.exit (WQ.thenExit (WQ.thenExit (WQ.exitHere ?_)))
        exact WQ.meetN [(1, _), (5, _)] ⟨rfl, rfl, trivial⟩ ⟨_, _, rfl, .inl ⟨rfl, by rw [hge, List.take_length] at hid; exact hid, H⟩⟩
    · -- the copy
      refine SQ (SQ (RG (MV rfl rfl (MV rfl rfl (ST (Ex.lenStr Tryz.underlying9 rfl) rfl (ST (Ex.lss rfl rfl) rfl (NL (TN ?_))))))))
      refine WC.condB rfl (fun hk5 => ?_) (fun hk5 => ?_)
      · have hlt : k < s.length := by have := of_decide_eq_true hk5; omega
        have hidx : idx s (k : Int) = some s[k] := by rw [idx_nat]; exact List.getElem?_eq_getElem hlt
        obtain ⟨hat, hput, hsame⟩ := rep_put hlt
        refine SK (TN (SQ (BL (SQ (RG (MV rfl rfl (MV rfl rfl (ST (Ex.idxStrC Tryz.underlying9 rfl rfl hidx) rfl (AS rfl rfl (NL (TN (SQ (RG (MV rfl rfl (MV rfl rfl (ST (Ex.nilCheckP rfl) rfl (ST (Ex.idxArr (i := s[k].toNat) Tryz.underlying203 Tryz.sizeOf5 rfl rfl (s[k].toNat_lt)) rfl (ST (Ex.loadM H rfl (hp1.cell (htab s[k])) Tryz.isAgg5) rfl (MV rfl rfl (ST (Ex.neqB rfl rfl) rfl (NL (TN ?_))))))))))))))))))))))
        refine WC.condB rfl (fun hk9 => ?_) (fun hk9 => ?_)
        · refine WC.seq ?_
          refine SQ (RG (MV rfl rfl (ST (Ex.eqlNilS Tryz.underlying30 rfl) rfl (NL (TN (CF rfl (SK (TN (RG (MV rfl rfl (MV rfl rfl (MV rfl rfl (MV rfl rfl (ST (Ex.nilCheckP rfl) rfl (ST (Ex.idxArr (i := s[k].toNat) Tryz.underlying203 Tryz.sizeOf5 rfl rfl (s[k].toNat_lt)) rfl (ST (Ex.loadM H rfl (hp1.cell (htab s[k])) Tryz.isAgg5) rfl (ST (Ex.idxSC (i := (k : Int)) Tryz.underlying30 Tryz.sizeOf5 hok rfl rfl hat) rfl (WR.storeSC (i := (k : Int)) H rfl rfl hok (fun _ => Upd.head) hput Tryz.sizeOf5 (Wn.none rfl) ?_))))))))))))))))))
          intro w hok H
          refine NL (IB (TN (RG (MV rfl rfl (ST (Ex.addC rfl rfl (chk_succ (by omega))) rfl ?_)))))
          refine AS rfl rfl (NL ?_)
          exact WQ.againP m [(0, _), (1, _), (5, _), (6, _)] ⟨rfl, rfl, rfl, rfl, trivial⟩ ⟨k + 1, _, M, rfl, by omega, by omega, hp1, .inr ⟨gb, cap, rfl, hok, H⟩⟩ (Nat.lt_succ_self _)
        · have hsm : rpb s[k] = s[k] := by simpa using hk9
          refine SK (IB (TN (RG (MV rfl rfl (ST (Ex.addC rfl rfl (chk_succ (by omega))) rfl ?_)))))
          refine AS rfl rfl (NL ?_)
          rw [← hsame hsm] at hok H
          exact WQ.againP m [(0, _), (1, _), (5, _), (6, _)] ⟨rfl, rfl, rfl, rfl, trivial⟩ ⟨k + 1, _, M, rfl, by omega, by omega, hp1, .inr ⟨gb, cap, rfl, hok, H⟩⟩ (Nat.lt_succ_self _)
      · have hge : k = s.length := by have := of_decide_eq_false hk5; omega
        refine WC.exit (WQ.thenExit (WQ.thenExit (WQ.exitHere ?_)))
        rw [hge, List.take_length, List.drop_length, List.append_nil] at hok H
        exact WQ.meetN [(1, _), (5, _)] ⟨rfl, rfl, trivial⟩ ⟨_, _, rfl, .inr ⟨gb, cap, rfl, hok, H⟩⟩
  · rintro e w ⟨vb, M, rfl, hph⟩
    refine TN (SQ (SQ ?_))
    rcases hph with ⟨rfl, hid, H⟩ | ⟨gb, cap, rfl, hok, H⟩
    · refine WC.region ?_
      refine MV rfl rfl (ST (Ex.eqlNilS Tryz.underlying30 rfl) rfl (NL (TN (CT rfl (SQ (RG (MV rfl rfl (AS rfl rfl (NL (TN (RT ?_)))))))))))
      exact WQ.ret1 rfl rfl H.ext (by rw [hid])
    · refine WC.region ?_
      refine MV rfl rfl (ST (Ex.eqlNilS Tryz.underlying30 rfl) rfl (NL (TN (CF rfl (SK (TN (SQ (RG (MV rfl rfl (ST (Ex.toStrS Tryz.underlying30 Tryz.underlying5 Tryz.underlying9 H (List.Mem.head _) (by rw [List.length_map]) rfl) rfl ?_))))))))))
      refine AS rfl rfl (NL (TN (RT ?_)))
      exact WQ.ret1 rfl rfl H.ext rfl
def RplM (M : Mem) (x : Array Value) : Prop := (∃ v, x = #[Value.int .u32 0, Value.int .i32 0, Value.int .u32 0, Value.nilIface, v] ∧ Sl M encS v [[0], [32], [13], [32]]) ∨ ∃ b2, x = #[Value.int .u32 1, Value.int .i32 0, Value.int .u32 0, Value.iface 204 (ptr b2 0), Value.slice none 0 0] ∧ PtM M b2 (.cells (tabR.map encB).toArray 203)
theorem RplM.mono {M M' : Mem} {x : Array Value} (h : RplM M x) (hl : M.le M') : RplM M' x := by
  rcases h with ⟨v, h1, h2⟩ | ⟨b2, h1, h2⟩
  · exact .inl ⟨v, h1, h2.mono hl⟩
  · exact .inr ⟨b2, h1, h2.mono hl⟩
theorem rplBuilt : strings_Replacer_build [[0], [32], [13], [32]] = some (tabR, [[0], [32], [13], [32]]) := by decide +kernel
theorem buildOnce_ct {b : Nat} {v : Value} : CtX Tryz.prog 114 [ptr b 0] [.blk b (.cells #[Value.int .u32 0, Value.int .i32 1, Value.int .u32 0, Value.nilIface, v] 139)] (fun M => Sl M encS v [[0], [32], [13], [32]]) (fun r M its => r = .tuple #[] ∧ ∃ b2, PtM M b2 (.cells (tabR.map encB).toArray 203) ∧ its = [.blk b (.cells #[Value.int .u32 0, Value.int .i32 1, Value.int .u32 0, Value.iface 204 (ptr b2 0), Value.slice none 0 0] 139)]) := by
  refine CtX.of Tryz.func114 (enters Tryz.func114 (by kernel_rfl) rfl) rfl rfl rfl ?_
  intro w0 M0 H hp
  refine SQ (RG (MV rfl rfl (MV rfl rfl (WR.callX (A := [.blk b (.cells #[Value.int .u32 0, Value.int .i32 1, Value.int .u32 0, Value.nilIface, v] 139)]) (B := []) H (strings_Replacer_build_ct rplBuilt) (.left (Spl.all _)) rfl hp (Wn.none rfl) rfl ?_))))
  intro v4 M w its H hle hR
  obtain ⟨b2, rfl, hb2, rfl⟩ := hR
  simp only [List.cons_append, List.nil_append] at H
  refine ST (Ex.nilCheckP rfl) rfl (ST (Ex.fieldAddr Tryz.underlying139 rfl Tryz.sizeOf137 (by decide) rfl) rfl (WR.putV [Value.int .u32 0, Value.int .i32 1, Value.int .u32 0, Value.iface 204 (ptr b2 0), v] H rfl rfl ⟨rfl, rfl⟩ Upd.head rfl Tryz.sizeOf137 (show (3 : Nat) < 5 from by decide) (Wn.none rfl) ?_))
  intro w H
  refine NL (TN (RG (MV rfl rfl (ST (Ex.nilCheckP rfl) rfl (ST (Ex.fieldAddr Tryz.underlying139 rfl Tryz.sizeOf43 (by decide) rfl) rfl (WR.putV [Value.int .u32 0, Value.int .i32 1, Value.int .u32 0, Value.iface 204 (ptr b2 0), Value.slice none 0 0] H rfl rfl ⟨rfl, rfl⟩ Upd.head rfl Tryz.sizeOf43 (show (4 : Nat) < 5 from by decide) (Wn.none rfl) ?_))))))
  intro w H
  refine NL ?_
  exact WQ.endX0 rfl H (by repeat (first | exact Pick.nil | refine Pick.cons (by repeat first | exact .head | apply Rem.tail) ?_)) ⟨rfl, b2, hb2, rfl⟩
theorem onceDo_ct {b : Nat} {x : Array Value} : CtX Tryz.prog 113 [ptr b 0, .func (.func 114) #[ptr b 0] #[]] [.blk b (.cells x 139)] (fun M => RplM M x) (fun r M its => r = .tuple #[] ∧ ∃ b2, PtM M b2 (.cells (tabR.map encB).toArray 203) ∧ its = [.blk b (.cells #[Value.int .u32 1, Value.int .i32 0, Value.int .u32 0, Value.iface 204 (ptr b2 0), Value.slice none 0 0] 139)]) := by
  refine ⟨enters Tryz.func113 (by kernel_rfl) rfl, fun w M H hp => ?_⟩
  rcases hp with ⟨v, rfl, hs⟩ | ⟨b2, rfl, hb2⟩
  · have H1 : StX (feet [.blk b (.cells #[Value.int .u32 0, Value.int .i32 0, Value.int .u32 0, Value.nilIface, v] 139)]) w M M [.blk b (.cells #[Value.int .u32 0, Value.int .i32 1, Value.int .u32 0, Value.nilIface, v] 139)] (w.setCell ⟨b, 1, none⟩ (.int .i32 1)) := H.setC (o := 1) (v := .int .i32 1) Upd.head
    refine (oFirst b w (fun w2 => ∃ M2 b2, StX (feet [.blk b (.cells #[Value.int .u32 0, Value.int .i32 0, Value.int .u32 0, Value.nilIface, v] 139)]) w M M2 [.blk b (.cells #[Value.int .u32 0, Value.int .i32 1, Value.int .u32 0, Value.iface 204 (ptr b2 0), Value.slice none 0 0] 139)] w2 ∧ PtM M2 b2 (.cells (tabR.map encB).toArray 203)) (H.cellOf (o := 0) (List.Mem.head _) rfl) (H.cellOf (o := 1) (List.Mem.head _) rfl) (H.thawOf (List.Mem.head _)) (H.thawOf (List.Mem.head _)) ?_ ?_).mono ?_
    · refine (buildOnce_ct.calls _ M (H1.hand (Spl.whole _)) hs).mono ?_
      rintro e w2 ⟨r, M2, its, rfl, h2, rfl, b2, hb2, rfl⟩
      exact ⟨rfl, M2, b2, H1.back (Spl.whole _) h2, hb2⟩
    · rintro w2 ⟨M2, b2, h2, _⟩
      exact ⟨h2.cellOf (o := 0) (List.Mem.head _) rfl, h2.cellOf (o := 1) (List.Mem.head _) rfl, h2.thawOf (List.Mem.head _), h2.thawOf (List.Mem.head _)⟩
    · rintro e w' ⟨rfl, w2, ⟨M2, b2, h2, hb2⟩, rfl⟩
      have h3 : StX (feet [.blk b (.cells #[Value.int .u32 0, Value.int .i32 0, Value.int .u32 0, Value.nilIface, v] 139)]) w M M2 [.blk b (.cells #[Value.int .u32 1, Value.int .i32 1, Value.int .u32 0, Value.iface 204 (ptr b2 0), Value.slice none 0 0] 139)] (w2.drew.setCell ⟨b, 0, none⟩ (.int .u32 1)) := h2.drew.setC (o := 0) (v := .int .u32 1) Upd.head
      have h4 : StX (feet [.blk b (.cells #[Value.int .u32 0, Value.int .i32 0, Value.int .u32 0, Value.nilIface, v] 139)]) w M M2 [.blk b (.cells #[Value.int .u32 1, Value.int .i32 0, Value.int .u32 0, Value.iface 204 (ptr b2 0), Value.slice none 0 0] 139)] ((w2.drew.setCell ⟨b, 0, none⟩ (.int .u32 1)).setCell ⟨b, 1, none⟩ (.int .i32 0)) := h3.setC (o := 1) (v := .int .i32 0) Upd.head
      exact ⟨_, M2, _, rfl, h4, rfl, b2, hb2, rfl⟩
  · refine (oAgain ⟨b, 0, none⟩ 1 (by decide) _ w (H.cellOf (o := 0) (List.Mem.head _) rfl)).mono ?_
    rintro e w' ⟨rfl, rfl⟩
    exact ⟨_, M, _, rfl, H, rfl, b2, hb2, rfl⟩
theorem methR (b2 : Nat) : MethAt Tryz.prog 204 (ptr b2 0) "Replace" 243 (ptr b2 0) := fun w => by kernel_rfl
theorem strings_Replacer_Replace_ct {p0 : List UInt8} {b : Nat} {x : Array Value} {r : List UInt8} (h : strings_Replacer_Replace p0 = some r) : CtX Tryz.prog 61 [ptr b 0, S p0] [.blk b (.cells x 139)] (fun M => RplM M x) (fun v M its => ∃ x', v = S r ∧ RplM M x' ∧ its = [.blk b (.cells x' 139)]) := by
  unfold strings_Replacer_Replace at h
  split at h
  case isFalse => cases h
  rename_i hs
  cases h
  refine CtX.of Tryz.func61 (enters Tryz.func61 (by kernel_rfl) rfl) rfl rfl rfl ?_
  intro w0 M0 H hp
  refine SQ (RG (AS rfl rfl (NL (TN (SQ (RG (MV rfl rfl (ST (Ex.nilCheckP rfl) rfl (ST (Ex.fieldAddr Tryz.underlying139 rfl Tryz.sizeOf135 (by decide) rfl) rfl (MV rfl rfl (ST (Ex.makeFuncF (vs := [ptr b 0]) rfl) rfl (WR.callX (A := [.blk b (.cells x 139)]) (B := []) H (onceDo_ct (b := b) (x := x)) (.left (Spl.all _)) rfl hp (Wn.none rfl) rfl ?_))))))))))))
  intro v10 M w its H hle hR
  obtain ⟨rfl, b2, hb2, rfl⟩ := hR
  simp only [List.cons_append, List.nil_append] at H
  refine NL (TN (SQ (RG (MV rfl rfl (ST (Ex.nilCheckP rfl) rfl (ST (Ex.fieldAddr Tryz.underlying139 rfl Tryz.sizeOf137 (by decide) rfl) rfl (ST (Ex.load1 H rfl (List.Mem.head _) Tryz.isAgg137 (by rfl)) rfl ?_)))))))
  refine MV rfl rfl (WR.callI H (repB_ct hs) (methR b2) rfl rfl hb2 (Wn.none rfl) rfl ?_)
  intro v16 M w H hle hR
  obtain rfl := hR
  refine AS rfl rfl (NL (TN (RT ?_)))
  exact WQ.retX1 (its := [.blk b (.cells #[Value.int .u32 1, Value.int .i32 0, Value.int .u32 0, Value.iface 204 (ptr b2 0), Value.slice none 0 0] 139)]) rfl rfl H (by repeat (first | exact Pick.nil | refine Pick.cons (by repeat first | exact .head | apply Rem.tail) ?_)) ⟨_, rfl, .inr ⟨b2, rfl, hb2.mono hle⟩, rfl⟩
theorem xplacesR : ∀ {fs : Array Field}, Tryz.prog.underlying 139 = some (.struct fs) → ∀ w, (fs.mapM fun f => do pure (f.offset, ← sizeOf f.type) : Sem (Array (Nat × Nat))).run Tryz.prog w = .ok #[(0, 3), (3, 1), (4, 1)] w := by
  intro fs h w
  rw [Tryz.underlying139] at h
  cases h
  simp
theorem strings_NewReplacer_ct {p0 : List (List UInt8)} {vp0 : Value} {r : Unit} (h : strings_NewReplacer p0 = some r) : CtX Tryz.prog 59 [vp0] [] (fun M => Sl M encS vp0 p0) (fun v M its => ∃ b x, v = ptr b 0 ∧ RplM M x ∧ its = [.blk b (.cells x 139)]) := by
  unfold strings_NewReplacer at h
  split at h
  case isFalse => cases h
  rename_i hl
  subst hl
  refine CtX.of Tryz.func59 (enters Tryz.func59 (by kernel_rfl) rfl) rfl rfl rfl ?_
  intro w0 M0 H hp0
  refine SQ (RG (AS rfl rfl (NL (TN (SQ (SQ (RG (MV rfl rfl (ST (Ex.lenSl Tryz.underlying43 hp0 rfl) rfl (ST (Ex.remC (a := 4) (b := 2) (z := 0) rfl rfl rfl) rfl (WR.stepF (Ex.eql rfl rfl) (by decide) (Wn.none rfl) rfl rfl (NL (TN (CF rfl (SK (TN (SQ (RG (MV rfl rfl ?_)))))))))))))))))))
  replace H := H.newRow 9 encS
  refine WR.appC (l := []) xty43 rfl (fun _ => rfl) H rfl (fun _ => by repeat first | exact .head | apply Upd.tail) rfl hp0 (l3 := [[0], [32], [13], [32]]) rfl (Wn.none rfl) rfl ?_
  intro v9 w H
  obtain ⟨M, hle, hs, H1⟩ := H.freezeRowN (v := v9) (enc := encS) (t := 9) (by repeat first | exact .head | apply Rem.tail) trivial
  have hs2 := hs
  obtain ⟨A9, c9, rfl, -⟩ := hs2
  refine ST (Ex.build [Value.int .u32 0, Value.int .i32 0, Value.int .u32 0, Value.nilIface, .slice A9 4 c9] Tryz.underlying139 Tryz.zeroValue139 (xplacesR Tryz.underlying139) rfl (by kernel_rfl)) rfl (WR.box [Value.int .u32 0, Value.int .i32 0, Value.int .u32 0, Value.nilIface, .slice A9 4 c9] H1 rfl rfl (Wn.none rfl) rfl ?_)
  intro b11 w H2
  refine AS rfl rfl (NL (TN (RT ?_)))
  exact WQ.retX1 (its := [.blk b11 (.cells #[Value.int .u32 0, Value.int .i32 0, Value.int .u32 0, Value.nilIface, .slice A9 4 c9] 139)]) rfl rfl H2 (by repeat (first | exact Pick.nil | refine Pick.cons (by repeat first | exact .head | apply Rem.tail) ?_)) ⟨b11, _, rfl, .inl ⟨_, rfl, hs⟩, rfl⟩
theorem basic_Fault_ct {p0 : Int} {p1 : Int} {r : (Int × Int)} (h : basic_Fault p0 p1 = some r) : Ct Tryz.prog 37 [I p0, I p1] (fun M => True) (fun v M => v = Value.agg #[I r.1, I r.2]) := by
  refine Ct.of Tryz.func37 (enters Tryz.func37 (by kernel_rfl) rfl) rfl rfl rfl ?_
  intro w0 M0 H hp
  unfold basic_Fault at h
  refine SQ (RG (WR.alloc [_, _] H Tryz.zeroValue24 rfl (Wn.none rfl) rfl ?_))
  intro b4 w H
  refine NL (TN (SQ (RG (MV rfl rfl (MV rfl rfl (ST (Ex.build [I p0, I p1] Tryz.underlying24 Tryz.zeroValue24 (xplaces24 Tryz.underlying24) rfl rfl) rfl (WR.store [_, _] H rfl rfl rfl (by repeat first | exact .head | apply Upd.tail) Tryz.sizeOf24 rfl (by rfl) (by rfl) (Wn.none rfl) ?_)))))))
  intro w H
  refine NL (TN (RT ?_))
  obtain rfl := Option.some.inj h
  exact WQ.ret1 rfl ⟨_, rfl, H.loadAgg (by repeat (first | exact List.Mem.head _ | apply List.Mem.tail)) Tryz.isAgg24 Tryz.sizeOf24 (by rfl)⟩ H.ext rfl
theorem basic_All_ct {p0 : List UInt8} {p1 : (UInt8 → Option Bool)} {vp1 : Value} {r : Bool} (h : basic_All p0 p1 = some r) : Ct Tryz.prog 118 [S p0, vp1] (fun M => FnT76 M vp1 p1) (fun v M => v = Value.bool r) := by
  refine Ct.of Tryz.func118 (enters Tryz.func118 (by kernel_rfl) rfl) rfl rfl rfl ?_
  intro w0 M0 H hp
  have hp1 := hp
  unfold basic_All at h
  refine SQ (RG (AS rfl rfl (NL (TN (SQ (SQ (RG (MV rfl rfl (ST (Ex.lenStr Tryz.underlying9 rfl) rfl (MV rfl rfl (NL (TN ?_))))))))))))
  obtain ⟨o1, e2, h⟩ := bnd h
  refine WC.cutX (fun e w => ∃  (M : Mem), e = [] ∧ St w0 M0 M [] w ∧ some (.inl ()) = some o1) [] ?_ ?_ (trivial)
  ·
   refine BL (WC.loopP (fun m e w => ∃ (n3 : Int) (M : Mem), e = [(0, S p0), (1, vp1), (7, I (p0.length : Int)), (8, I n3)] ∧ St w0 M0 M [] w ∧ FnT76 M vp1 p1 ∧ basic_All_L1 p0 p1 m n3 = some o1) FU [(0, _), (1, _), (7, _), (8, _)] ⟨rfl, rfl, rfl, rfl, trivial⟩ ⟨_, _, rfl, H, hp1, e2⟩ ?_)
   rintro m4 e w ⟨n3, M, rfl, H, hp1, e2⟩
   rcases m4 with _ | m4
   · rw [basic_All_L1] at e2; cases e2
   rw [basic_All_L1] at e2
   refine SQ (RG (ST (Ex.lss rfl rfl) rfl (NL (TN (SQ ?_)))))
   refine WC.condB rfl (fun hk5 => ?_) (fun hk5 => ?_)
   ·
    replace hk5 : n3 < (p0.length : Int) := of_decide_eq_true hk5
    rw [if_pos hk5] at e2
    refine SK (TN (SQ (BL (SQ (RG (MV rfl rfl (AS rfl rfl (NL (TN (SQ ?_))))))))))
    obtain ⟨c6, hxc6, e2⟩ := bnd e2
    obtain ⟨b7, hx8, e2⟩ := bnd e2
    refine RG (MV rfl rfl (MV rfl rfl (MV rfl rfl (ST (Ex.idxStrC Tryz.underlying9 rfl rfl hxc6) rfl (WR.callF H (hp1 _ _ hx8) rfl rfl (Wn.none rfl) rfl ?_)))))
    intro v15 M w H hle hR
    replace hp1 := hp1.mono hle
    obtain rfl := hR
    refine ST (Ex.not rfl) rfl (NL (TN ?_))
    refine WC.condB rfl (fun hk9 => ?_) (fun hk9 => ?_)
    ·
     replace hk9 : b7 = false := by simpa using hk9
     subst hk9
     rw [if_neg Bool.false_ne_true] at e2
     refine SQ (RG (AS rfl rfl (NL (TN (RT ?_)))))
     obtain rfl := Option.some.inj e2
     try dsimp only at h
     obtain rfl := Option.some.inj h
     exact WQ.ret1 rfl rfl H.ext rfl
    ·
     replace hk9 : b7 = true := by simpa using hk9
     subst hk9
     rw [if_pos rfl] at e2
     refine SK (IB (TN ?_))
     obtain ⟨n10, hxn10, e2⟩ := bnd e2
     refine RG (ST (Ex.addC rfl rfl hxn10) rfl (MV rfl rfl (NL ?_)))
     exact WQ.againP m4 [(0, _), (1, _), (7, _), (8, _)] ⟨rfl, rfl, rfl, rfl, trivial⟩ ⟨_, _, rfl, H, hp1, e2⟩ (Nat.lt_succ_self _)
   ·
    replace hk5 : ¬ (n3 < (p0.length : Int)) := of_decide_eq_false hk5
    rw [if_neg hk5] at e2
    refine WC.exit (WQ.thenExit (WQ.thenExit (WQ.exitHere ?_)))
    exact WQ.meetN [] trivial ⟨_, rfl, H, e2⟩
  ·
   rintro e w ⟨M, rfl, H, q11⟩
   obtain rfl := Option.some.inj q11
   try dsimp only at h
   refine TN (SQ (RG (AS rfl rfl (NL (TN (RT ?_))))))
   obtain rfl := Option.some.inj h
   exact WQ.ret1 rfl rfl H.ext rfl
theorem fold_name_1_ct {p0 : UInt8} {r : Bool} (h : fold_name_1 p0 = some r) : Ct Tryz.prog 119 [encB p0] (fun M => True) (fun v M => v = Value.bool r) := by
  refine Ct.of Tryz.func119 (enters Tryz.func119 (by kernel_rfl) rfl) rfl rfl rfl ?_
  intro w0 M0 H hp
  unfold fold_name_1 at h
  refine SQ (RG (AS rfl rfl (NL (TN (SQ ?_)))))
  obtain ⟨o1, e2, h⟩ := bnd h
  refine WC.cutX (fun e w => ∃ (b3 : Bool) (M : Mem), e = [(2, Value.bool b3)] ∧ St w0 M0 M [] w ∧ some b3 = some o1) [] ?_ ?_ (trivial)
  ·
   by_cases hk4 : 33 ≤ p0.toNat
   ·
    rw [if_pos hk4] at e2
    refine RG (MV rfl rfl (WR.stepE (v' := .bool true) (Ex.geqB (i := p0.toNat) (j := 33) rfl rfl) (congrArg Value.bool (decide_eq_true hk4)) (Wn.none rfl) rfl rfl ?_))
    by_cases hk5 : p0.toNat ≤ 126
    ·
     rw [if_pos hk5] at e2
     refine MV rfl rfl (SG (Ex.move rfl) rfl rfl rfl (WR.stepE (v' := .bool true) (Ex.leqB (i := p0.toNat) (j := 126) rfl rfl) (congrArg Value.bool (decide_eq_true hk5)) (Wn.some rfl rfl rfl) rfl rfl (PT rfl rfl rfl (MV rfl rfl (SG (Ex.move rfl) rfl rfl rfl (SG (Ex.neqB (c := p0) (d := 58) rfl rfl) rfl rfl rfl (PT rfl rfl rfl (AS rfl rfl (NL ?_)))))))))
     exact WQ.meetN [(2, _)] ⟨rfl, trivial⟩ ⟨_, _, rfl, H, e2⟩
    ·
     rw [if_neg hk5] at e2
     refine MV rfl rfl (SG (Ex.move rfl) rfl rfl rfl (WR.stepE (v' := .bool false) (Ex.leqB (i := p0.toNat) (j := 126) rfl rfl) (congrArg Value.bool (decide_eq_false hk5)) (Wn.some rfl rfl rfl) rfl rfl (PT rfl rfl rfl (MV rfl rfl (GF rfl rfl rfl (GF rfl rfl rfl (PF rfl rfl rfl (AS rfl rfl (NL ?_)))))))))
     exact WQ.meetN [(2, _)] ⟨rfl, trivial⟩ ⟨_, _, rfl, H, e2⟩
   ·
    rw [if_neg hk4] at e2
    refine RG (MV rfl rfl (WR.stepE (v' := .bool false) (Ex.geqB (i := p0.toNat) (j := 33) rfl rfl) (congrArg Value.bool (decide_eq_false hk4)) (Wn.none rfl) rfl rfl (MV rfl rfl (GF rfl rfl rfl (GF rfl rfl rfl (PF rfl rfl rfl (MV rfl rfl (GF rfl rfl rfl (GF rfl rfl rfl (PF rfl rfl rfl (AS rfl rfl (NL ?_))))))))))))
    exact WQ.meetN [(2, _)] ⟨rfl, trivial⟩ ⟨_, _, rfl, H, e2⟩
  ·
   rintro e w ⟨b3, M, rfl, H, q6⟩
   obtain rfl := Option.some.inj q6
   refine TN (RT ?_)
   obtain rfl := Option.some.inj h
   exact WQ.ret1 rfl rfl H.ext rfl
theorem fold_name_ct {p0 : List UInt8} {r : Bool} (h : fold_name p0 = some r) : Ct Tryz.prog 73 [S p0] (fun M => True) (fun v M => v = Value.bool r) := by
  refine Ct.of Tryz.func73 (enters Tryz.func73 (by kernel_rfl) rfl) rfl rfl rfl ?_
  intro w0 M0 H hp
  unfold fold_name at h
  refine SQ (RG (AS rfl rfl (NL (TN (SQ ?_)))))
  obtain ⟨o1, e2, h⟩ := bnd h
  refine WC.cutX (fun e w => ∃ (b3 : Bool) (M : Mem), e = [(2, Value.bool b3)] ∧ St w0 M0 M [] w ∧ some b3 = some o1) [] ?_ ?_ (trivial)
  ·
   by_cases hk4 : p0 = []
   ·
    rw [if_pos hk4] at e2
    refine RG (MV rfl rfl (WR.stepE (v' := .bool false) (Ex.strNeqC rfl rfl) (congrArg Value.bool (by rw [decide_eq_true hk4]; rfl)) (Wn.none rfl) rfl rfl ?_))
    refine MV rfl rfl (WR.skipN 3 rfl rfl (PF rfl rfl rfl (MV rfl rfl (GF rfl rfl rfl (GF rfl rfl rfl (PF rfl rfl rfl (AS rfl rfl (NL ?_))))))))
    exact WQ.meetN [(2, _)] ⟨rfl, trivial⟩ ⟨_, _, rfl, H, e2⟩
   ·
    rw [if_neg hk4] at e2
    refine RG (MV rfl rfl (WR.stepE (v' := .bool true) (Ex.strNeqC rfl rfl) (congrArg Value.bool (by rw [decide_eq_false hk4]; rfl)) (Wn.none rfl) rfl rfl ?_))
    by_cases hk5 : (p0.length : Int) ≤ (60 : Int)
    ·
     rw [if_pos hk5] at e2
     obtain ⟨b6, hx7, e2⟩ := bnd e2
     refine MV rfl rfl (SG (Ex.move rfl) rfl rfl rfl (SG (Ex.lenStr Tryz.underlying9 rfl) rfl rfl rfl (WR.stepE (v' := .bool true) (Ex.leq rfl rfl) (congrArg Value.bool (decide_eq_true hk5)) (Wn.some rfl rfl rfl) rfl rfl (PT rfl rfl rfl (MV rfl rfl (SG (Ex.move rfl) rfl rfl rfl (WR.call H (basic_All_ct hx7) rfl ((fun _ _ h => FnV.of (fold_name_1_ct h) (fun _ _ => trivial))) (Wn.some rfl rfl rfl) rfl ?_)))))))
     intro v12 M w H hle hR
     obtain rfl := hR
     refine PT rfl rfl rfl (AS rfl rfl (NL ?_))
     exact WQ.meetN [(2, _)] ⟨rfl, trivial⟩ ⟨_, _, rfl, H, e2⟩
    ·
     rw [if_neg hk5] at e2
     refine MV rfl rfl (SG (Ex.move rfl) rfl rfl rfl (SG (Ex.lenStr Tryz.underlying9 rfl) rfl rfl rfl (WR.stepE (v' := .bool false) (Ex.leq rfl rfl) (congrArg Value.bool (decide_eq_false hk5)) (Wn.some rfl rfl rfl) rfl rfl (PT rfl rfl rfl (MV rfl rfl (GF rfl rfl rfl (GF rfl rfl rfl (PF rfl rfl rfl (AS rfl rfl (NL ?_))))))))))
     exact WQ.meetN [(2, _)] ⟨rfl, trivial⟩ ⟨_, _, rfl, H, e2⟩
  ·
   rintro e w ⟨b3, M, rfl, H, q8⟩
   obtain rfl := Option.some.inj q8
   refine TN (RT ?_)
   obtain rfl := Option.some.inj h
   exact WQ.ret1 rfl rfl H.ext rfl
theorem utf8_ValidRune_ct {p0 : Int} {r : Bool} (h : utf8_ValidRune p0 = some r) : Ct Tryz.prog 194 [Value.int .i32 p0] (fun M => True) (fun v M => v = Value.bool r) := by
  refine Ct.of Tryz.func194 (enters Tryz.func194 (by kernel_rfl) rfl) rfl rfl rfl ?_
  intro w0 M0 H hp
  unfold utf8_ValidRune at h
  refine SQ (RG (AS rfl rfl (NL (TN (SQ (BL (SQ ?_)))))))
  obtain ⟨o1, e2, h⟩ := bnd h
  refine WC.cutX (fun e w => ∃ (b3 : Bool) (M : Mem), e = [(0, Value.int .i32 p0), (3, Value.bool b3)] ∧ St w0 M0 M [] w ∧ some b3 = some o1) [] ?_ ?_ (trivial)
  ·
   by_cases hk4 : (0 : Int) ≤ p0
   ·
    rw [if_pos hk4] at e2
    refine RG (MV rfl rfl (WR.stepE (v' := .bool true) (Ex.leq rfl rfl) (congrArg Value.bool (decide_eq_true hk4)) (Wn.none rfl) rfl rfl (MV rfl rfl (SG (Ex.move rfl) rfl rfl rfl (SG (Ex.lss rfl rfl) rfl rfl rfl (PT rfl rfl rfl (AS rfl rfl (NL ?_))))))))
    exact WQ.meetN [(0, _), (3, _)] ⟨rfl, rfl, trivial⟩ ⟨_, _, rfl, H, e2⟩
   ·
    rw [if_neg hk4] at e2
    refine RG (MV rfl rfl (WR.stepE (v' := .bool false) (Ex.leq rfl rfl) (congrArg Value.bool (decide_eq_false hk4)) (Wn.none rfl) rfl rfl (MV rfl rfl (GF rfl rfl rfl (GF rfl rfl rfl (PF rfl rfl rfl (AS rfl rfl (NL ?_))))))))
    exact WQ.meetN [(0, _), (3, _)] ⟨rfl, rfl, trivial⟩ ⟨_, _, rfl, H, e2⟩
  ·
   rintro e w ⟨b3, M, rfl, H, q5⟩
   obtain rfl := Option.some.inj q5
   refine TN ?_
   refine WC.condB rfl (fun hk6 => ?_) (fun hk6 => ?_)
   ·
    subst hk6
    rw [if_pos rfl] at h
    refine SQ (RG (AS rfl rfl (NL (TN (RT ?_)))))
    obtain rfl := Option.some.inj h
    exact WQ.ret1 rfl rfl H.ext rfl
   ·
    subst hk6
    rw [if_neg Bool.false_ne_true] at h
    refine SQ ?_
    obtain ⟨o7, e8, h⟩ := bnd h
    refine WC.cutX (fun e w => ∃ (b9 : Bool) (M : Mem), e = [(10, Value.bool b9)] ∧ St w0 M0 M [] w ∧ some b9 = some o7) [] ?_ ?_ (trivial)
    ·
     by_cases hk10 : (57343 : Int) < p0
     ·
      rw [if_pos hk10] at e8
      refine RG (MV rfl rfl (WR.stepE (v' := .bool true) (Ex.lss rfl rfl) (congrArg Value.bool (decide_eq_true hk10)) (Wn.none rfl) rfl rfl (MV rfl rfl (SG (Ex.move rfl) rfl rfl rfl (SG (Ex.leq rfl rfl) rfl rfl rfl (PT rfl rfl rfl (AS rfl rfl (NL ?_))))))))
      exact WQ.meetN [(10, _)] ⟨rfl, trivial⟩ ⟨_, _, rfl, H, e8⟩
     ·
      rw [if_neg hk10] at e8
      refine RG (MV rfl rfl (WR.stepE (v' := .bool false) (Ex.lss rfl rfl) (congrArg Value.bool (decide_eq_false hk10)) (Wn.none rfl) rfl rfl (MV rfl rfl (GF rfl rfl rfl (GF rfl rfl rfl (PF rfl rfl rfl (AS rfl rfl (NL ?_))))))))
      exact WQ.meetN [(10, _)] ⟨rfl, trivial⟩ ⟨_, _, rfl, H, e8⟩
    ·
     rintro e w ⟨b9, M, rfl, H, q11⟩
     obtain rfl := Option.some.inj q11
     refine TN ?_
     refine WC.condB rfl (fun hk12 => ?_) (fun hk12 => ?_)
     ·
      subst hk12
      rw [if_pos rfl] at h
      refine SQ (RG (AS rfl rfl (NL (TN (RT ?_)))))
      obtain rfl := Option.some.inj h
      exact WQ.ret1 rfl rfl H.ext rfl
     ·
      subst hk12
      rw [if_neg Bool.false_ne_true] at h
      refine SK (IB (TN (SQ (RG (AS rfl rfl (NL (TN (RT ?_))))))))
      obtain rfl := Option.some.inj h
      exact WQ.ret1 rfl rfl H.ext rfl
theorem strings_IndexRune_ct {p0 : List UInt8} {p1 : Int} {r : Int} (h : strings_IndexRune p0 p1 = some r) : Ct Tryz.prog 171 [S p0, Value.int .i32 p1] (fun M => True) (fun v M => v = I r) := by
  refine Ct.of Tryz.func171 (enters Tryz.func171 (by kernel_rfl) rfl) rfl rfl rfl ?_
  intro w0 M0 H hp
  unfold strings_IndexRune at h
  refine SQ (RG (AS rfl rfl (NL (TN (BL (SQ ?_))))))
  obtain ⟨o1, e2, h⟩ := bnd h
  refine WC.cutX (fun e w => ∃ (b3 : Bool) (M : Mem), e = [(0, S p0), (1, Value.int .i32 p1), (160, Value.bool b3)] ∧ St w0 M0 M [] w ∧ some b3 = some o1) [] ?_ ?_ (trivial)
  ·
   by_cases hk4 : (0 : Int) ≤ p1
   ·
    rw [if_pos hk4] at e2
    refine RG (MV rfl rfl (WR.stepE (v' := .bool true) (Ex.leq rfl rfl) (congrArg Value.bool (decide_eq_true hk4)) (Wn.none rfl) rfl rfl (MV rfl rfl (SG (Ex.move rfl) rfl rfl rfl (SG (Ex.lss rfl rfl) rfl rfl rfl (PT rfl rfl rfl (AS rfl rfl (NL ?_))))))))
    exact WQ.meetN [(0, _), (1, _), (160, _)] ⟨rfl, rfl, rfl, trivial⟩ ⟨_, _, rfl, H, e2⟩
   ·
    rw [if_neg hk4] at e2
    refine RG (MV rfl rfl (WR.stepE (v' := .bool false) (Ex.leq rfl rfl) (congrArg Value.bool (decide_eq_false hk4)) (Wn.none rfl) rfl rfl (MV rfl rfl (GF rfl rfl rfl (GF rfl rfl rfl (PF rfl rfl rfl (AS rfl rfl (NL ?_))))))))
    exact WQ.meetN [(0, _), (1, _), (160, _)] ⟨rfl, rfl, rfl, trivial⟩ ⟨_, _, rfl, H, e2⟩
  ·
   rintro e w ⟨b3, M, rfl, H, q5⟩
   obtain rfl := Option.some.inj q5
   refine TN ?_
   refine WC.condB rfl (fun hk6 => ?_) (fun hk6 => ?_)
   ·
    subst hk6
    rw [if_pos rfl] at h
    refine SQ ?_
    obtain ⟨n7, hx8, h⟩ := bnd h
    refine RG (MV rfl rfl (MV rfl rfl (ST (Ex.convU8C Tryz.underlying21 Tryz.underlying5 rfl) rfl (WR.call H (strings_IndexByte_ct hx8) rfl trivial (Wn.none rfl) rfl ?_))))
    intro v170 M w H hle hR
    obtain rfl := hR
    refine AS rfl rfl (NL (TN (RT ?_)))
    obtain rfl := Option.some.inj h
    exact WQ.ret1 rfl rfl H.ext rfl
   ·
    subst hk6
    rw [if_neg Bool.false_ne_true] at h
    refine SQ (RG (MV rfl rfl (ST (Ex.eql rfl rfl) rfl (AS rfl rfl (NL (TN ?_))))))
    refine WC.condB rfl (fun hk9 => ?_) (fun hk9 => ?_)
    ·
     replace hk9 : p1 = (65533 : Int) := of_decide_eq_true hk9
     rw [if_pos hk9] at h
     refine SQ (SQ (RG (MV rfl rfl (WR.rangeStr H Tryz.underlying9 rfl (Wn.none rfl) rfl ?_))))
     intro b175 w H
     refine NL (TN ?_)
     obtain ⟨o10, e11, h⟩ := bnd h
     refine WC.cutX (fun e w => ∃  (M : Mem), e = [] ∧ St w0 M0 M [] w ∧ some (.inl ()) = some o10) [] ?_ ?_ (trivial)
     ·
      refine BL (WC.loopP (fun m e w => ∃ (ps12 : Nat) (M : Mem), e = [(175, ptr b175 0)] ∧ St w0 M0 M [.blk b175 (.stringIter ⟨((p0) : List UInt8).toArray⟩ ps12)] w ∧ strings_IndexRune_L1 p0 m ps12 = some o10) FU [(175, _)] ⟨rfl, trivial⟩ ⟨_, _, rfl, H, e11⟩ ?_)
      rintro m13 e w ⟨ps12, M, rfl, H, e11⟩
      rcases m13 with _ | m13
      · rw [strings_IndexRune_L1] at e11; cases e11
      rw [strings_IndexRune_L1] at e11
      refine SQ ?_
      by_cases hk14 : ps12 < p0.length
      ·
       rw [if_pos hk14] at e11
       refine RG (WR.nextT H hk14 rfl (by repeat first | exact .head | apply Upd.tail) (Wn.none rfl) rfl ?_)
       intro w H
       refine ST (Ex.extract rfl rfl) rfl (NL (TN (SQ (CT rfl (SK (TN (BL (SQ (RG (ST (Ex.extract rfl rfl) rfl (ST (Ex.extract rfl rfl) rfl (AS rfl rfl (AS rfl rfl (NL (TN (SQ (RG (MV rfl rfl (ST (Ex.eql rfl rfl) rfl (NL (TN ?_)))))))))))))))))))))
       refine WC.condB rfl (fun hk15 => ?_) (fun hk15 => ?_)
       ·
        replace hk15 : ((Utf.dr (p0.drop ps12)).1 : Int) = (65533 : Int) := of_decide_eq_true hk15
        rw [if_pos hk15] at e11
        refine SQ (RG (MV rfl rfl (AS rfl rfl (NL (TN (RT ?_))))))
        obtain rfl := Option.some.inj e11
        try dsimp only at h
        obtain rfl := Option.some.inj h
        exact WQ.ret1 rfl rfl H.ext rfl
       ·
        replace hk15 : ¬ (((Utf.dr (p0.drop ps12)).1 : Int) = (65533 : Int)) := of_decide_eq_false hk15
        rw [if_neg hk15] at e11
        refine SK (IB ?_)
        exact WQ.againP m13 [(175, _)] ⟨rfl, trivial⟩ ⟨_, _, rfl, H, e11⟩ (Nat.lt_succ_self _)
      ·
       rw [if_neg hk14] at e11
       refine RG (WR.nextF H (Nat.le_of_not_lt hk14) rfl (by repeat (first | exact List.Mem.head _ | apply List.Mem.tail)) (Wn.none rfl) rfl ?_)
       refine ST (Ex.extract rfl rfl) rfl (NL (TN (SQ (CF rfl (WC.exit (WQ.thenExit (WQ.thenExit (WQ.exitHere ?_))))))))
       exact WQ.meetN [] trivial ⟨_, rfl, (H.pick (L' := []) (by repeat (first | exact Pick.nil | refine Pick.cons (by repeat first | exact .head | apply Rem.tail) ?_))), e11⟩
     ·
      rintro e w ⟨M, rfl, H, q16⟩
      obtain rfl := Option.some.inj q16
      try dsimp only at h
      refine TN (SQ (RG (AS rfl rfl (NL (TN (RT ?_))))))
      obtain rfl := Option.some.inj h
      exact WQ.ret1 rfl rfl H.ext rfl
    ·
     replace hk9 : ¬ (p1 = (65533 : Int)) := of_decide_eq_false hk9
     rw [if_neg hk9] at h
     refine SQ ?_
     obtain ⟨b19, hx20, h⟩ := bnd h
     refine RG (MV rfl rfl (WR.call H (utf8_ValidRune_ct hx20) rfl trivial (Wn.none rfl) rfl ?_))
     intro v185 M w H hle hR
     obtain rfl := hR
     refine ST (Ex.not rfl) rfl (AS rfl rfl (NL (TN ?_)))
     refine WC.condB rfl (fun hk21 => ?_) (fun hk21 => ?_)
     ·
      replace hk21 : b19 = false := by simpa using hk21
      subst hk21
      rw [if_neg Bool.false_ne_true] at h
      refine SQ (RG (AS rfl rfl (NL (TN (RT ?_)))))
      obtain rfl := Option.some.inj h
      exact WQ.ret1 rfl rfl H.ext rfl
     ·
      replace hk21 : b19 = true := by simpa using hk21
      subst hk21
      rw [if_pos rfl] at h
      refine WC.scope (SQ (RG (MV rfl rfl (ST (Ex.runeStr Tryz.underlying21 Tryz.underlying9 rfl) rfl (AS rfl rfl (NL (TN (SQ ?_))))))))
      obtain ⟨n22, hxn22, h⟩ := bnd h
      refine RG (MV rfl rfl (ST (Ex.lenStr Tryz.underlying9 rfl) rfl (ST (Ex.subC rfl rfl hxn22) rfl (AS rfl rfl (NL (TN (SQ (RG (MV rfl rfl (AS rfl rfl (NL (TN (SQ (RG (AS rfl rfl (NL (TN (SQ ?_))))))))))))))))))
      obtain ⟨o23, e24, h⟩ := bnd h
      refine WC.cutX (fun e w => ∃  (M : Mem), e = [] ∧ St w0 M0 M [] w ∧ some (.inl ()) = some o23) [] ?_ ?_ (trivial)
      ·
       refine BL (WC.loopP (fun m e w => ∃ (n25 : Int) (M : Mem), e = [(0, S p0), (7, S (Chs.utf8 p1)), (8, I n22), (9, I n25)] ∧ St w0 M0 M [] w ∧ strings_IndexRune_L2 p0 p1 n22 m n25 = some o23) FU [(0, _), (7, _), (8, _), (9, _)] ⟨rfl, rfl, rfl, rfl, trivial⟩ ⟨_, _, rfl, H, e24⟩ ?_)
       rintro m26 e w ⟨n25, M, rfl, H, e24⟩
       rcases m26 with _ | m26
       · rw [strings_IndexRune_L2] at e24; cases e24
       rw [strings_IndexRune_L2] at e24
       refine SQ (SQ (RG (MV rfl rfl (MV rfl rfl (ST (Ex.lenStr Tryz.underlying9 rfl) rfl (ST (Ex.lss rfl rfl) rfl (NL (TN ?_))))))))
       refine WC.condB rfl (fun hk27 => ?_) (fun hk27 => ?_)
       ·
        replace hk27 : n25 < (p0.length : Int) := of_decide_eq_true hk27
        rw [if_pos hk27] at e24
        refine SK (TN (BL (WC.scope (SQ (SQ ?_)))))
        obtain ⟨c28, hxc28, e24⟩ := bnd e24
        obtain ⟨c29, hxc29, e24⟩ := bnd e24
        refine WC.draw (m := 7) rfl rfl H ?_
        intro w H
        refine WA.take (i := 0) rfl (by kernel_rfl) (by kernel_rfl) (by kernel_rfl) (fun _ => Ex.move rfl) (Wn.none rfl) rfl rfl (fun _ _ => rfl) (WA.take (i := 1) rfl (by kernel_rfl) (by kernel_rfl) (by kernel_rfl) (fun _ => Ex.move rfl) (Wn.none rfl) rfl rfl (fun _ _ => rfl) (WA.take (i := 2) rfl (by kernel_rfl) (by kernel_rfl) (by kernel_rfl) (fun _ => Ex.idxStrC Tryz.underlying9 rfl rfl hxc28) (Wn.none rfl) rfl rfl (fun _ _ => rfl) (WA.take (i := 3) rfl (by kernel_rfl) (by kernel_rfl) (by kernel_rfl) (fun _ => Ex.move rfl) (Wn.none rfl) rfl rfl (fun _ _ => rfl) (WA.seq (fuel := 0) [4, 5, 6] rfl (by kernel_rfl) (MV rfl rfl (ST (Ex.idxStrC Tryz.underlying9 rfl rfl hxc29) rfl (ST (Ex.neqB (c := c28) (d := c29) rfl rfl) rfl (NA (WA.done (by kernel_rfl) (TN ?_))))))))))
        obtain ⟨o30, e31, e24⟩ := bnd e24
        refine WC.cutX (fun e w => ∃ (n32 : Int) (M : Mem), e = [(0, S p0), (7, S (Chs.utf8 p1)), (8, I n22), (9, I n32)] ∧ St w0 M0 M [] w ∧ some (.inl n32) = some o30) [] ?_ ?_ (trivial)
        ·
         refine WC.condB rfl (fun hk33 => ?_) (fun hk33 => ?_)
         ·
          replace hk33 : ¬ (c28 = c29) := of_not_decide hk33
          rw [if_neg hk33] at e31
          refine SQ ?_
          obtain ⟨n34, hxn34, e31⟩ := bnd e31
          obtain ⟨s35, hxs35, e31⟩ := bnd e31
          obtain ⟨c36, hxc36, e31⟩ := bnd e31
          obtain ⟨n37, hx38, e31⟩ := bnd e31
          refine WC.draw (m := 9) rfl rfl H ?_
          intro w H
          refine WA.take (i := 0) rfl (by kernel_rfl) (by kernel_rfl) (by kernel_rfl) (fun _ => Ex.move rfl) (Wn.none rfl) rfl rfl (fun _ _ => rfl) (WA.take (i := 1) rfl (by kernel_rfl) (by kernel_rfl) (by kernel_rfl) (fun _ => Ex.move rfl) (Wn.none rfl) rfl rfl (fun _ _ => rfl) (WA.take (i := 2) rfl (by kernel_rfl) (by kernel_rfl) (by kernel_rfl) (fun _ => Ex.addC rfl rfl hxn34) (Wn.none rfl) rfl rfl (fun _ _ => rfl) (WA.take (i := 3) rfl (by kernel_rfl) (by kernel_rfl) (by kernel_rfl) (fun _ => Ex.sliceL Tryz.underlying9 rfl rfl hxs35) (Wn.none rfl) rfl rfl (fun _ _ => rfl) (WA.take (i := 4) rfl (by kernel_rfl) (by kernel_rfl) (by kernel_rfl) (fun _ => Ex.move rfl) (Wn.none rfl) rfl rfl (fun _ _ => rfl) (WA.seq (fuel := 0) [5, 6, 7, 8] rfl (by kernel_rfl) (MV rfl rfl (ST (Ex.idxStrC Tryz.underlying9 rfl rfl hxc36) rfl (WR.call H (strings_IndexByte_ct hx38) rfl trivial (Wn.none rfl) rfl ?_))))))))
          intro v41 M w H hle hR
          obtain rfl := hR
          refine AS rfl rfl (NA (WA.done (by kernel_rfl) (TN (SQ (SQ (RG (MV rfl rfl (ST (Ex.lss rfl rfl) rfl (NL (TN ?_))))))))))
          refine WC.condB rfl (fun hk39 => ?_) (fun hk39 => ?_)
          ·
           replace hk39 : n37 < (0 : Int) := of_decide_eq_true hk39
           rw [if_pos hk39] at e31
           refine SQ (RG (AS rfl rfl (NL (TN (RT ?_)))))
           obtain rfl := Option.some.inj e31
           try dsimp only at e24
           obtain rfl := Option.some.inj e24
           try dsimp only at h
           obtain rfl := Option.some.inj h
           exact WQ.ret1 rfl rfl H.ext rfl
          ·
           replace hk39 : ¬ (n37 < (0 : Int)) := of_decide_eq_false hk39
           rw [if_neg hk39] at e31
           refine SK (TN ?_)
           obtain ⟨n40, hxn40, e31⟩ := bnd e31
           obtain ⟨n41, hxn41, e31⟩ := bnd e31
           refine RG (MV rfl rfl (MV rfl rfl (ST (Ex.addC rfl rfl hxn40) rfl (ST (Ex.addC rfl rfl hxn41) rfl (AS rfl rfl (NL ?_))))))
           exact WQ.meetN [(0, _), (7, _), (8, _), (9, _)] ⟨rfl, rfl, rfl, rfl, trivial⟩ ⟨_, _, rfl, H, e31⟩
         ·
          replace hk33 : c28 = c29 := of_not_decide' hk33
          rw [if_pos hk33] at e31
          refine SK ?_
          exact WQ.meetN [(0, _), (7, _), (8, _), (9, _)] ⟨rfl, rfl, rfl, rfl, trivial⟩ ⟨_, _, rfl, H, e31⟩
        ·
         rintro e w ⟨n32, M, rfl, H, q42⟩
         obtain rfl := Option.some.inj q42
         try dsimp only at e24
         refine TN (SQ (SQ (RG (AS rfl rfl (NL (TN ?_))))))
         obtain ⟨o43, e44, e24⟩ := bnd e24
         refine WC.cutX (fun e w => ∃  (M : Mem), e = [(8, I n22), (9, I n32)] ∧ St w0 M0 M [] w ∧ some () = some o43) [] ?_ ?_ (trivial)
         ·
          refine BL (WC.loopP (fun m e w => ∃ (n45 : Int) (M : Mem), e = [(0, S p0), (7, S (Chs.utf8 p1)), (8, I n22), (9, I n32), (12, I n45)] ∧ St w0 M0 M [] w ∧ strings_IndexRune_L3 p0 p1 n22 n32 m n45 = some o43) FU [(0, _), (7, _), (8, _), (9, _), (12, _)] ⟨rfl, rfl, rfl, rfl, rfl, trivial⟩ ⟨_, _, rfl, H, e44⟩ ?_)
          rintro m46 e w ⟨n45, M, rfl, H, e44⟩
          rcases m46 with _ | m46
          · rw [strings_IndexRune_L3] at e44; cases e44
          rw [strings_IndexRune_L3] at e44
          refine SQ (SQ (RG (MV rfl rfl (MV rfl rfl (ST (Ex.lenStr Tryz.underlying9 rfl) rfl (ST (Ex.lss rfl rfl) rfl (NL (TN ?_))))))))
          refine WC.condB rfl (fun hk47 => ?_) (fun hk47 => ?_)
          ·
           replace hk47 : n45 < ((Chs.utf8 p1).length : Int) := of_decide_eq_true hk47
           rw [if_pos hk47] at e44
           refine SK (TN (SQ (BL (SQ ?_))))
           obtain ⟨n48, hxn48, e44⟩ := bnd e44
           obtain ⟨c49, hxc49, e44⟩ := bnd e44
           obtain ⟨n50, hxn50, e44⟩ := bnd e44
           obtain ⟨c51, hxc51, e44⟩ := bnd e44
           refine WC.draw (m := 11) rfl rfl H ?_
           intro w H
           refine WA.take (i := 0) rfl (by kernel_rfl) (by kernel_rfl) (by kernel_rfl) (fun _ => Ex.move rfl) (Wn.none rfl) rfl rfl (fun _ _ => rfl) (WA.take (i := 1) rfl (by kernel_rfl) (by kernel_rfl) (by kernel_rfl) (fun _ => Ex.move rfl) (Wn.none rfl) rfl rfl (fun _ _ => rfl) (WA.take (i := 2) rfl (by kernel_rfl) (by kernel_rfl) (by kernel_rfl) (fun _ => Ex.move rfl) (Wn.none rfl) rfl rfl (fun _ _ => rfl) (WA.take (i := 3) rfl (by kernel_rfl) (by kernel_rfl) (by kernel_rfl) (fun _ => Ex.subC rfl rfl hxn48) (Wn.none rfl) rfl rfl (fun _ _ => rfl) (WA.take (i := 4) rfl (by kernel_rfl) (by kernel_rfl) (by kernel_rfl) (fun _ => Ex.idxStrC Tryz.underlying9 rfl rfl hxc49) (Wn.none rfl) rfl rfl (fun _ _ => rfl) (WA.take (i := 5) rfl (by kernel_rfl) (by kernel_rfl) (by kernel_rfl) (fun _ => Ex.move rfl) (Wn.none rfl) rfl rfl (fun _ _ => rfl) (WA.take (i := 6) rfl (by kernel_rfl) (by kernel_rfl) (by kernel_rfl) (fun _ => Ex.move rfl) (Wn.none rfl) rfl rfl (fun _ _ => rfl) ?_))))))
           refine WA.seq (fuel := 0) [7, 8, 9, 10] rfl (by kernel_rfl) (MV rfl rfl (ST (Ex.subC rfl rfl hxn50) rfl (ST (Ex.idxStrC Tryz.underlying9 rfl rfl hxc51) rfl (ST (Ex.neqB (c := c49) (d := c51) rfl rfl) rfl (NA (WA.done (by kernel_rfl) (TN ?_)))))))
           refine WC.condB rfl (fun hk52 => ?_) (fun hk52 => ?_)
           ·
            replace hk52 : ¬ (c49 = c51) := of_not_decide hk52
            rw [if_neg hk52] at e44
            cases e44
           ·
            replace hk52 : c49 = c51 := of_not_decide' hk52
            rw [if_pos hk52] at e44
            refine SK (IB (TN ?_))
            obtain ⟨n53, hxn53, e44⟩ := bnd e44
            refine RG (MV rfl rfl (ST (Ex.addC rfl rfl hxn53) rfl (AS rfl rfl (NL ?_))))
            exact WQ.againP m46 [(0, _), (7, _), (8, _), (9, _), (12, _)] ⟨rfl, rfl, rfl, rfl, rfl, trivial⟩ ⟨_, _, rfl, H, e44⟩ (Nat.lt_succ_self _)
          ·
           replace hk47 : ¬ (n45 < ((Chs.utf8 p1).length : Int)) := of_decide_eq_false hk47
           rw [if_neg hk47] at e44
           refine WC.exit (WQ.thenExit (WQ.thenExit (WQ.exitHere ?_)))
           exact WQ.meetN [(8, _), (9, _)] ⟨rfl, rfl, trivial⟩ ⟨_, rfl, H, e44⟩
         ·
          rintro e w ⟨M, rfl, H, q54⟩
          obtain rfl := Option.some.inj q54
          try dsimp only at e24
          refine TN (SQ (SQ ?_))
          obtain ⟨n55, hxn55, e24⟩ := bnd e24
          refine RG (MV rfl rfl (MV rfl rfl (ST (Ex.subC rfl rfl hxn55) rfl (AS rfl rfl (NL (TN (RT ?_)))))))
          obtain rfl := Option.some.inj e24
          try dsimp only at h
          obtain rfl := Option.some.inj h
          exact WQ.ret1 rfl rfl H.ext rfl
       ·
        replace hk27 : ¬ (n25 < (p0.length : Int)) := of_decide_eq_false hk27
        rw [if_neg hk27] at e24
        refine WC.exit (WQ.thenExit (WQ.thenExit (WQ.exitHere ?_)))
        exact WQ.meetN [] trivial ⟨_, rfl, H, e24⟩
      ·
       rintro e w ⟨M, rfl, H, q58⟩
       obtain rfl := Option.some.inj q58
       try dsimp only at h
       refine TN (SQ (SQ (RG (AS rfl rfl (NL (TN (RT ?_)))))))
       obtain rfl := Option.some.inj h
       exact WQ.ret1 rfl rfl H.ext rfl
theorem strings_shouldUseASCIISet_ct {p0 : Int} {r : Bool} (h : strings_shouldUseASCIISet p0 = some r) : Ct Tryz.prog 179 [I p0] (fun M => True) (fun v M => v = Value.bool r) := by
  refine Ct.of Tryz.func179 (enters Tryz.func179 (by kernel_rfl) rfl) rfl rfl rfl ?_
  intro w0 M0 H hp
  unfold strings_shouldUseASCIISet at h
  refine SQ (RG (AS rfl rfl (NL (TN (SQ (RG (MV rfl rfl (ST (Ex.gtr rfl rfl) rfl (AS rfl rfl (NL (TN (RT ?_))))))))))))
  obtain rfl := Option.some.inj h
  exact WQ.ret1 rfl rfl H.ext rfl
theorem strings_makeASCIISet_ct {p0 : List UInt8} {r : (List Bool × Bool)} (h : strings_makeASCIISet p0 = some r) : Ct Tryz.prog 108 [S p0] (fun M => True) (fun v M => v = Value.tuple #[Value.agg (List.map encBo r.1).toArray, Value.bool r.2]) := by
  refine Ct.of Tryz.func108 (enters Tryz.func108 (by kernel_rfl) rfl) rfl rfl rfl ?_
  intro w0 M0 H hp
  unfold strings_makeASCIISet at h
  refine SQ (RG (WR.alloc (List.map encBo (List.replicate 256 false : List Bool)) H Tryz.zeroValue142 (by kernel_rfl) (Wn.none rfl) rfl ?_))
  intro b2 w H
  refine AS rfl rfl (NL (TN (SQ (SQ (RG (AS rfl rfl (NL (TN ?_))))))))
  obtain ⟨o1, e2, h⟩ := bnd h
  refine WC.cutX (fun e w => ∃ (l3 : List Bool) (M : Mem), e = [(2, ptr b2 0)] ∧ St w0 M0 M [.blk b2 (.cells (List.map encBo l3).toArray 142)] w ∧ some (.inl l3) = some o1) [] ?_ ?_ (trivial)
  ·
   refine BL (WC.loopP (fun m e w => ∃ (l4 : List Bool) (n5 : Int) (M : Mem), e = [(0, S p0), (2, ptr b2 0), (4, I n5)] ∧ St w0 M0 M [.blk b2 (.cells (List.map encBo l4).toArray 142)] w ∧ strings_makeASCIISet_L1 p0 m l4 n5 = some o1) FU [(0, _), (2, _), (4, _)] ⟨rfl, rfl, rfl, trivial⟩ ⟨_, _, _, rfl, H, e2⟩ ?_)
   rintro m6 e w ⟨l4, n5, M, rfl, H, e2⟩
   rcases m6 with _ | m6
   · rw [strings_makeASCIISet_L1] at e2; cases e2
   rw [strings_makeASCIISet_L1] at e2
   refine SQ (SQ (RG (MV rfl rfl (MV rfl rfl (ST (Ex.lenStr Tryz.underlying9 rfl) rfl (ST (Ex.lss rfl rfl) rfl (NL (TN ?_))))))))
   refine WC.condB rfl (fun hk7 => ?_) (fun hk7 => ?_)
   ·
    replace hk7 : n5 < (p0.length : Int) := of_decide_eq_true hk7
    rw [if_pos hk7] at e2
    refine SK (TN (SQ (BL (SQ ?_))))
    obtain ⟨c8, hxc8, e2⟩ := bnd e2
    refine RG (MV rfl rfl (MV rfl rfl (ST (Ex.idxStrC Tryz.underlying9 rfl rfl hxc8) rfl (AS rfl rfl (NL (TN (SQ (SQ (RG (MV rfl rfl (ST (Ex.geqB (i := c8.toNat) (j := 128) rfl rfl) rfl (NL (TN ?_)))))))))))))
    refine WC.condB rfl (fun hk9 => ?_) (fun hk9 => ?_)
    ·
     replace hk9 : 128 ≤ c8.toNat := of_decide_eq_true hk9
     rw [if_pos hk9] at e2
     refine SQ ?_
     obtain ⟨l10, hxl10, e2⟩ := bnd e2
     obtain ⟨l11, hxl11, e2⟩ := bnd e2
     obtain ⟨l12, hxl12, e2⟩ := bnd e2
     refine RG (ST (Ex.loadAggA H rfl (by repeat (first | exact List.Mem.head _ | apply List.Mem.tail)) Tryz.isAgg142 Tryz.sizeOf142 hxl10) rfl ?_)
     refine WR.storeA (l2 := l10) H rfl rfl (fun _ => rfl) (fun _ => by repeat first | exact .head | apply Upd.tail) hxl11 hxl12 Tryz.sizeOf142 (Wn.none rfl) ?_
     intro w H
     refine AS rfl rfl (NL (TN (RT ?_)))
     obtain ⟨l13, hxl13, e2⟩ := bnd e2
     obtain rfl := Option.some.inj e2
     try dsimp only at h
     obtain rfl := Option.some.inj h
     exact WQ.ret2 rfl ⟨_, rfl, H.loadAggA (by repeat (first | exact List.Mem.head _ | apply List.Mem.tail)) Tryz.isAgg142 Tryz.sizeOf142 hxl13⟩ rfl H.ext rfl
    ·
     replace hk9 : ¬ (128 ≤ c8.toNat) := of_decide_eq_false hk9
     rw [if_neg hk9] at e2
     refine SK (TN ?_)
     obtain ⟨a14, hxa14, e2⟩ := bnd e2
     obtain ⟨l15, hxl15, e2⟩ := bnd e2
     refine RG (MV rfl rfl (ST (Ex.idxArrC (l := l4) Tryz.underlying142 Tryz.sizeOf4 rfl rfl hxa14) rfl (WR.storeArr (a := true) H rfl rfl ⟨rfl, rfl⟩ (fun _ => by repeat first | exact .head | apply Upd.tail) hxl15 Tryz.sizeOf4 (Wn.none rfl) ?_)))
     intro w H
     refine NL (IB (TN ?_))
     obtain ⟨n16, hxn16, e2⟩ := bnd e2
     refine RG (MV rfl rfl (ST (Ex.addC rfl rfl hxn16) rfl (AS rfl rfl (NL ?_))))
     exact WQ.againP m6 [(0, _), (2, _), (4, _)] ⟨rfl, rfl, rfl, trivial⟩ ⟨_, _, _, rfl, H, e2⟩ (Nat.lt_succ_self _)
   ·
    replace hk7 : ¬ (n5 < (p0.length : Int)) := of_decide_eq_false hk7
    rw [if_neg hk7] at e2
    refine WC.exit (WQ.thenExit (WQ.thenExit (WQ.exitHere ?_)))
    exact WQ.meetN [(2, _)] ⟨rfl, trivial⟩ ⟨_, _, rfl, H, e2⟩
  ·
   rintro e w ⟨l3, M, rfl, H, q17⟩
   obtain rfl := Option.some.inj q17
   try dsimp only at h
   refine TN (SQ ?_)
   obtain ⟨l18, hxl18, h⟩ := bnd h
   obtain ⟨l19, hxl19, h⟩ := bnd h
   obtain ⟨l20, hxl20, h⟩ := bnd h
   refine RG (ST (Ex.loadAggA H rfl (by repeat (first | exact List.Mem.head _ | apply List.Mem.tail)) Tryz.isAgg142 Tryz.sizeOf142 hxl18) rfl ?_)
   refine WR.storeA (l2 := l18) H rfl rfl (fun _ => rfl) (fun _ => by repeat first | exact .head | apply Upd.tail) hxl19 hxl20 Tryz.sizeOf142 (Wn.none rfl) ?_
   intro w H
   refine AS rfl rfl (NL (TN (RT ?_)))
   obtain ⟨l21, hxl21, h⟩ := bnd h
   obtain rfl := Option.some.inj h
   exact WQ.ret2 rfl ⟨_, rfl, H.loadAggA (by repeat (first | exact List.Mem.head _ | apply List.Mem.tail)) Tryz.isAgg142 Tryz.sizeOf142 hxl21⟩ rfl H.ext rfl
theorem strings_asciiSet_contains_ct {p0 : List Bool} {p1 : UInt8} {bp0 : Nat} {r : Bool} (h : strings_asciiSet_contains p0 p1 = some r) : Ct Tryz.prog 144 [ptr bp0 0, encB p1] (fun M => PtM M bp0 (.cells (List.map encBo p0).toArray 142)) (fun v M => v = Value.bool r) := by
  refine Ct.of Tryz.func144 (enters Tryz.func144 (by kernel_rfl) rfl) rfl rfl rfl ?_
  intro w0 M0 H hp
  have hp0 := hp
  unfold strings_asciiSet_contains at h
  refine SQ (RG (AS rfl rfl (NL (TN (SQ ?_)))))
  obtain ⟨a1, hxa1, h⟩ := bnd h
  refine RG (MV rfl rfl (MV rfl rfl (ST (Ex.nilCheckP rfl) rfl (ST (Ex.idxArrC (l := p0) Tryz.underlying142 Tryz.sizeOf4 rfl rfl hxa1) rfl (ST (Ex.loadArrM H rfl hp0 hxa1 Tryz.isAgg4) rfl (AS rfl rfl (NL (TN (RT ?_)))))))))
  obtain rfl := Option.some.inj h
  exact WQ.ret1 rfl rfl H.ext rfl
theorem strings_IndexAny_ct {p0 : List UInt8} {p1 : List UInt8} {r : Int} (h : strings_IndexAny p0 p1 = some r) : Ct Tryz.prog 152 [S p0, S p1] (fun M => True) (fun v M => v = I r) := by
  refine Ct.of Tryz.func152 (enters Tryz.func152 (by kernel_rfl) rfl) rfl rfl rfl ?_
  intro w0 M0 H hp
  unfold strings_IndexAny at h
  refine SQ (RG (AS rfl rfl (NL (TN (SQ (SQ (RG (MV rfl rfl (ST (Ex.strEql rfl rfl) rfl (NL (TN ?_)))))))))))
  refine WC.condB rfl (fun hk1 => ?_) (fun hk1 => ?_)
  ·
   replace hk1 : p1 = [] := of_decide_eq_true hk1
   rw [if_pos hk1] at h
   refine SQ (RG (AS rfl rfl (NL (TN (RT ?_)))))
   obtain rfl := Option.some.inj h
   exact WQ.ret1 rfl rfl H.ext rfl
  ·
   replace hk1 : ¬ (p1 = []) := of_decide_eq_false hk1
   rw [if_neg hk1] at h
   refine SK (TN (SQ (SQ (RG (MV rfl rfl (ST (Ex.lenStr Tryz.underlying9 rfl) rfl (ST (Ex.eql rfl rfl) rfl (NL (TN ?_)))))))))
   refine WC.condB rfl (fun hk2 => ?_) (fun hk2 => ?_)
   ·
    replace hk2 : (p1.length : Int) = (1 : Int) := of_decide_eq_true hk2
    rw [if_pos hk2] at h
    refine SQ ?_
    obtain ⟨c3, hxc3, h⟩ := bnd h
    refine RG (MV rfl rfl (ST (Ex.idxStrC Tryz.underlying9 rfl rfl hxc3) rfl (ST (Ex.conv Tryz.underlying5 Tryz.underlying21 rfl) rfl (AS rfl rfl (NL (TN (SQ (SQ (RG (MV rfl rfl (ST (Ex.geq rfl rfl) rfl (NL (TN ?_)))))))))))))
    obtain ⟨o4, e5, h⟩ := bnd h
    refine WC.cutX (fun e w => ∃ (n6 : Int) (M : Mem), e = [(0, S p0), (5, Value.int .i32 n6)] ∧ St w0 M0 M [] w ∧ some n6 = some o4) [] ?_ ?_ (trivial)
    ·
     refine WC.condB rfl (fun hk7 => ?_) (fun hk7 => ?_)
     ·
      replace hk7 : (128 : Int) ≤ (IntKind.i32.wrap (c3.toNat : Int)) := of_decide_eq_true hk7
      rw [if_pos hk7] at e5
      refine RG (AS rfl rfl (NL ?_))
      exact WQ.meetN [(0, _), (5, _)] ⟨rfl, rfl, trivial⟩ ⟨_, _, rfl, H, e5⟩
     ·
      replace hk7 : ¬ ((128 : Int) ≤ (IntKind.i32.wrap (c3.toNat : Int))) := of_decide_eq_false hk7
      rw [if_neg hk7] at e5
      refine SK ?_
      exact WQ.meetN [(0, _), (5, _)] ⟨rfl, rfl, trivial⟩ ⟨_, _, rfl, H, e5⟩
    ·
     rintro e w ⟨n6, M, rfl, H, q8⟩
     obtain rfl := Option.some.inj q8
     refine TN (SQ ?_)
     obtain ⟨n9, hx10, h⟩ := bnd h
     refine RG (MV rfl rfl (MV rfl rfl (WR.call H (strings_IndexRune_ct hx10) rfl trivial (Wn.none rfl) rfl ?_)))
     intro v23 M w H hle hR
     obtain rfl := hR
     refine AS rfl rfl (NL (TN (RT ?_)))
     obtain rfl := Option.some.inj h
     exact WQ.ret1 rfl rfl H.ext rfl
   ·
    replace hk2 : ¬ ((p1.length : Int) = (1 : Int)) := of_decide_eq_false hk2
    rw [if_neg hk2] at h
    refine SK (TN (SQ (SQ ?_)))
    obtain ⟨b11, hx12, h⟩ := bnd h
    refine RG (MV rfl rfl (ST (Ex.lenStr Tryz.underlying9 rfl) rfl (WR.call H (strings_shouldUseASCIISet_ct hx12) rfl trivial (Wn.none rfl) rfl ?_)))
    intro v26 M w H hle hR
    obtain rfl := hR
    refine NL (TN ?_)
    obtain ⟨o13, e14, h⟩ := bnd h
    refine WC.cutX (fun e w => ∃  (M : Mem), e = [(0, S p0), (1, S p1)] ∧ St w0 M0 M [] w ∧ some (.inl ()) = some o13) [] ?_ ?_ (trivial)
    ·
     refine WC.condB rfl (fun hk15 => ?_) (fun hk15 => ?_)
     ·
      subst hk15
      rw [if_pos rfl] at e14
      refine SQ ?_
      obtain ⟨⟨n16, b17⟩, hx18, e14⟩ := bnd e14
      try dsimp only at e14
      obtain ⟨l19, hxl19, e14⟩ := bnd e14
      obtain ⟨l20, hxl20, e14⟩ := bnd e14
      refine RG (MV rfl rfl (WR.call H (strings_makeASCIISet_ct hx18) rfl trivial (Wn.none rfl) rfl ?_))
      intro v29 M w H hle hR
      try dsimp only at hR
      obtain rfl := hR
      refine MV rfl rfl (ST (Ex.extract rfl rfl) rfl (ST (Ex.extract rfl rfl) rfl (WR.alloc (List.map encBo (List.replicate 256 false : List Bool)) H Tryz.zeroValue142 (by kernel_rfl) (Wn.none rfl) rfl ?_)))
      intro b6 w H
      refine WR.storeA (l2 := n16) H rfl rfl (fun _ => rfl) (fun _ => by repeat first | exact .head | apply Upd.tail) hxl19 hxl20 Tryz.sizeOf142 (Wn.none rfl) ?_
      intro w H
      refine AS rfl rfl (NL (TN (SQ (RG (MV rfl rfl (NL (TN ?_)))))))
      refine WC.condB rfl (fun hk21 => ?_) (fun hk21 => ?_)
      ·
       subst hk21
       rw [if_pos rfl] at e14
       refine SQ (SQ (RG (AS rfl rfl (NL (TN ?_)))))
       obtain ⟨o22, e23, e14⟩ := bnd e14
       refine WC.cutX (fun e w => ∃  (M : Mem), e = [] ∧ St w0 M0 M [] w ∧ some (.inl ()) = some o22) [] ?_ ?_ (trivial)
       ·
        refine BL ?_
        obtain ⟨M, hle, hb24, H⟩ := H.freezeVar (b := b6) (by repeat first | exact .head | apply Rem.tail)
        refine WC.loopP (fun m e w => ∃ (n25 : Int) (M : Mem), e = [(0, S p0), (6, ptr b6 0), (8, I n25)] ∧ St w0 M0 M [] w ∧ PtM M b6 (.cells (List.map encBo n16).toArray 142) ∧ strings_IndexAny_L1 p0 n16 m n25 = some o22) FU [(0, _), (6, _), (8, _)] ⟨rfl, rfl, rfl, trivial⟩ ⟨_, _, rfl, H, hb24, e23⟩ ?_
        rintro m26 e w ⟨n25, M, rfl, H, hb24, e23⟩
        rcases m26 with _ | m26
        · rw [strings_IndexAny_L1] at e23; cases e23
        rw [strings_IndexAny_L1] at e23
        refine SQ (SQ (RG (MV rfl rfl (MV rfl rfl (ST (Ex.lenStr Tryz.underlying9 rfl) rfl (ST (Ex.lss rfl rfl) rfl (NL (TN ?_))))))))
        refine WC.condB rfl (fun hk27 => ?_) (fun hk27 => ?_)
        ·
         replace hk27 : n25 < (p0.length : Int) := of_decide_eq_true hk27
         rw [if_pos hk27] at e23
         refine SK (TN (SQ (BL (SQ ?_))))
         obtain ⟨c28, hxc28, e23⟩ := bnd e23
         obtain ⟨b29, hx30, e23⟩ := bnd e23
         refine RG (MV rfl rfl (MV rfl rfl (ST (Ex.idxStrC Tryz.underlying9 rfl rfl hxc28) rfl (WR.call H (strings_asciiSet_contains_ct hx30) rfl (hb24) (Wn.none rfl) rfl ?_))))
         intro v42 M w H hle hR
         replace hb24 := hb24.mono hle
         obtain rfl := hR
         refine NL (TN ?_)
         refine WC.condB rfl (fun hk31 => ?_) (fun hk31 => ?_)
         ·
          subst hk31
          rw [if_pos rfl] at e23
          refine SQ (RG (MV rfl rfl (AS rfl rfl (NL (TN (RT ?_))))))
          obtain rfl := Option.some.inj e23
          try dsimp only at e14
          obtain rfl := Option.some.inj e14
          try dsimp only at h
          obtain rfl := Option.some.inj h
          exact WQ.ret1 rfl rfl H.ext rfl
         ·
          subst hk31
          rw [if_neg Bool.false_ne_true] at e23
          refine SK (IB (TN ?_))
          obtain ⟨n32, hxn32, e23⟩ := bnd e23
          refine RG (MV rfl rfl (ST (Ex.addC rfl rfl hxn32) rfl (AS rfl rfl (NL ?_))))
          exact WQ.againP m26 [(0, _), (6, _), (8, _)] ⟨rfl, rfl, rfl, trivial⟩ ⟨_, _, rfl, H, hb24, e23⟩ (Nat.lt_succ_self _)
        ·
         replace hk27 : ¬ (n25 < (p0.length : Int)) := of_decide_eq_false hk27
         rw [if_neg hk27] at e23
         refine WC.exit (WQ.thenExit (WQ.thenExit (WQ.exitHere ?_)))
         exact WQ.meetN [] trivial ⟨_, rfl, H, e23⟩
       ·
        rintro e w ⟨M, rfl, H, q33⟩
        obtain rfl := Option.some.inj q33
        try dsimp only at e14
        refine TN (SQ (RG (AS rfl rfl (NL (TN (RT ?_))))))
        obtain rfl := Option.some.inj e14
        try dsimp only at h
        obtain rfl := Option.some.inj h
        exact WQ.ret1 rfl rfl H.ext rfl
      ·
       subst hk21
       rw [if_neg Bool.false_ne_true] at e14
       refine SK ?_
       exact WQ.meetN [(0, _), (1, _)] ⟨rfl, rfl, trivial⟩ ⟨_, rfl, (H.pick (L' := []) (by repeat (first | exact Pick.nil | refine Pick.cons (by repeat first | exact .head | apply Rem.tail) ?_))), e14⟩
     ·
      subst hk15
      rw [if_neg Bool.false_ne_true] at e14
      refine SK ?_
      exact WQ.meetN [(0, _), (1, _)] ⟨rfl, rfl, trivial⟩ ⟨_, rfl, H, e14⟩
    ·
     rintro e w ⟨M, rfl, H, q36⟩
     obtain rfl := Option.some.inj q36
     try dsimp only at h
     refine TN (SQ (SQ (RG (MV rfl rfl (WR.rangeStr H Tryz.underlying9 rfl (Wn.none rfl) rfl ?_)))))
     intro b45 w H
     refine NL (TN ?_)
     obtain ⟨o37, e38, h⟩ := bnd h
     refine WC.cutX (fun e w => ∃  (M : Mem), e = [] ∧ St w0 M0 M [] w ∧ some (.inl ()) = some o37) [] ?_ ?_ (trivial)
     ·
      refine BL (WC.loopP (fun m e w => ∃ (ps39 : Nat) (M : Mem), e = [(1, S p1), (45, ptr b45 0)] ∧ St w0 M0 M [.blk b45 (.stringIter ⟨((p0) : List UInt8).toArray⟩ ps39)] w ∧ strings_IndexAny_L2 p0 p1 m ps39 = some o37) FU [(1, _), (45, _)] ⟨rfl, rfl, trivial⟩ ⟨_, _, rfl, H, e38⟩ ?_)
      rintro m40 e w ⟨ps39, M, rfl, H, e38⟩
      rcases m40 with _ | m40
      · rw [strings_IndexAny_L2] at e38; cases e38
      rw [strings_IndexAny_L2] at e38
      refine SQ ?_
      by_cases hk41 : ps39 < p0.length
      ·
       rw [if_pos hk41] at e38
       refine RG (WR.nextT H hk41 rfl (by repeat first | exact .head | apply Upd.tail) (Wn.none rfl) rfl ?_)
       intro w H
       refine ST (Ex.extract rfl rfl) rfl (NL (TN (SQ (CT rfl (SK (TN (BL (SQ (RG (ST (Ex.extract rfl rfl) rfl (ST (Ex.extract rfl rfl) rfl (AS rfl rfl (AS rfl rfl (NL (TN (SQ ?_))))))))))))))))
       obtain ⟨n42, hx43, e38⟩ := bnd e38
       refine RG (MV rfl rfl (MV rfl rfl (WR.call H (strings_IndexRune_ct hx43) rfl trivial (Wn.none rfl) rfl ?_)))
       intro v52 M w H hle hR
       obtain rfl := hR
       refine ST (Ex.geq rfl rfl) rfl (NL (TN ?_))
       refine WC.condB rfl (fun hk44 => ?_) (fun hk44 => ?_)
       ·
        replace hk44 : (0 : Int) ≤ n42 := of_decide_eq_true hk44
        rw [if_pos hk44] at e38
        refine SQ (RG (MV rfl rfl (AS rfl rfl (NL (TN (RT ?_))))))
        obtain rfl := Option.some.inj e38
        try dsimp only at h
        obtain rfl := Option.some.inj h
        exact WQ.ret1 rfl rfl H.ext rfl
       ·
        replace hk44 : ¬ ((0 : Int) ≤ n42) := of_decide_eq_false hk44
        rw [if_neg hk44] at e38
        refine SK (IB ?_)
        exact WQ.againP m40 [(1, _), (45, _)] ⟨rfl, rfl, trivial⟩ ⟨_, _, rfl, H, e38⟩ (Nat.lt_succ_self _)
      ·
       rw [if_neg hk41] at e38
       refine RG (WR.nextF H (Nat.le_of_not_lt hk41) rfl (by repeat (first | exact List.Mem.head _ | apply List.Mem.tail)) (Wn.none rfl) rfl ?_)
       refine ST (Ex.extract rfl rfl) rfl (NL (TN (SQ (CF rfl (WC.exit (WQ.thenExit (WQ.thenExit (WQ.exitHere ?_))))))))
       exact WQ.meetN [] trivial ⟨_, rfl, (H.pick (L' := []) (by repeat (first | exact Pick.nil | refine Pick.cons (by repeat first | exact .head | apply Rem.tail) ?_))), e38⟩
     ·
      rintro e w ⟨M, rfl, H, q45⟩
      obtain rfl := Option.some.inj q45
      try dsimp only at h
      refine TN (SQ (RG (AS rfl rfl (NL (TN (RT ?_))))))
      obtain rfl := Option.some.inj h
      exact WQ.ret1 rfl rfl H.ext rfl
theorem strings_ContainsAny_ct {p0 : List UInt8} {p1 : List UInt8} {r : Bool} (h : strings_ContainsAny p0 p1 = some r) : Ct Tryz.prog 120 [S p0, S p1] (fun M => True) (fun v M => v = Value.bool r) := by
  refine Ct.of Tryz.func120 (enters Tryz.func120 (by kernel_rfl) rfl) rfl rfl rfl ?_
  intro w0 M0 H hp
  unfold strings_ContainsAny at h
  refine SQ (RG (AS rfl rfl (NL (TN (SQ ?_)))))
  obtain ⟨n1, hx2, h⟩ := bnd h
  refine RG (MV rfl rfl (MV rfl rfl (WR.call H (strings_IndexAny_ct hx2) rfl trivial (Wn.none rfl) rfl ?_)))
  intro v7 M w H hle hR
  obtain rfl := hR
  refine ST (Ex.geq rfl rfl) rfl (AS rfl rfl (NL (TN (RT ?_))))
  obtain rfl := Option.some.inj h
  exact WQ.ret1 rfl rfl H.ext rfl
theorem fold_ends_ct {p0 : List UInt8} {r : Bool} (h : fold_ends p0 = some r) : Ct Tryz.prog 76 [S p0] (fun M => True) (fun v M => v = Value.bool r) := by
  refine Ct.of Tryz.func76 (enters Tryz.func76 (by kernel_rfl) rfl) rfl rfl rfl ?_
  intro w0 M0 H hp
  unfold fold_ends at h
  refine SQ (RG (AS rfl rfl (NL (TN (SQ ?_)))))
  obtain ⟨b1, hx2, h⟩ := bnd h
  refine RG (MV rfl rfl (WR.call H (strings_ContainsAny_ct hx2) rfl trivial (Wn.none rfl) rfl ?_))
  intro v4 M w H hle hR
  obtain rfl := hR
  refine AS rfl rfl (NL (TN (RT ?_)))
  obtain rfl := Option.some.inj h
  exact WQ.ret1 rfl rfl H.ext rfl
theorem basic_Blank_ct {p0 : UInt8} {r : Bool} (h : basic_Blank p0 = some r) : Ct Tryz.prog 52 [encB p0] (fun M => True) (fun v M => v = Value.bool r) := by
  refine Ct.of Tryz.func52 (enters Tryz.func52 (by kernel_rfl) rfl) rfl rfl rfl ?_
  intro w0 M0 H hp
  unfold basic_Blank at h
  refine SQ (RG (AS rfl rfl (NL (TN (SQ ?_)))))
  obtain ⟨o1, e2, h⟩ := bnd h
  refine WC.cutX (fun e w => ∃ (b3 : Bool) (M : Mem), e = [(2, Value.bool b3)] ∧ St w0 M0 M [] w ∧ some b3 = some o1) [] ?_ ?_ (trivial)
  ·
   by_cases hk4 : p0 = 32
   ·
    rw [if_pos hk4] at e2
    refine RG (MV rfl rfl (WR.stepE (v' := .bool true) (Ex.eqlB (c := p0) (d := 32) rfl rfl) (congrArg Value.bool (decide_eq_true hk4)) (Wn.none rfl) rfl rfl (MV rfl rfl (GT rfl rfl rfl (GT rfl rfl rfl (PT rfl rfl rfl (AS rfl rfl (NL ?_))))))))
    exact WQ.meetN [(2, _)] ⟨rfl, trivial⟩ ⟨_, _, rfl, H, e2⟩
   ·
    rw [if_neg hk4] at e2
    refine RG (MV rfl rfl (WR.stepE (v' := .bool false) (Ex.eqlB (c := p0) (d := 32) rfl rfl) (congrArg Value.bool (decide_eq_false hk4)) (Wn.none rfl) rfl rfl (MV rfl rfl (SG (Ex.move rfl) rfl rfl rfl (SG (Ex.eqlB (c := p0) (d := 9) rfl rfl) rfl rfl rfl (PF rfl rfl rfl (AS rfl rfl (NL ?_))))))))
    exact WQ.meetN [(2, _)] ⟨rfl, trivial⟩ ⟨_, _, rfl, H, e2⟩
  ·
   rintro e w ⟨b3, M, rfl, H, q5⟩
   obtain rfl := Option.some.inj q5
   refine TN (RT ?_)
   obtain rfl := Option.some.inj h
   exact WQ.ret1 rfl rfl H.ext rfl
theorem fold_value_ct {p0 : List UInt8} {r : Bool} (h : fold_value p0 = some r) : Ct Tryz.prog 74 [S p0] (fun M => True) (fun v M => v = Value.bool r) := by
  refine Ct.of Tryz.func74 (enters Tryz.func74 (by kernel_rfl) rfl) rfl rfl rfl ?_
  intro w0 M0 H hp
  unfold fold_value at h
  refine SQ (RG (AS rfl rfl (NL (TN (SQ ?_)))))
  obtain ⟨o1, e2, h⟩ := bnd h
  refine WC.cutX (fun e w => ∃ (b3 : Bool) (M : Mem), e = [(2, Value.bool b3)] ∧ St w0 M0 M [] w ∧ some b3 = some o1) [] ?_ ?_ (trivial)
  ·
   obtain ⟨b4, hx5, e2⟩ := bnd e2
   refine RG (MV rfl rfl (WR.call H (fold_ends_ct hx5) rfl trivial (Wn.none rfl) rfl ?_))
   intro v4 M w H hle hR
   obtain rfl := hR
   refine ST (Ex.not rfl) rfl (MV rfl rfl ?_)
   rcases b4 with _ | _
   ·
    rw [if_neg Bool.false_ne_true] at e2
    by_cases hk6 : p0 = []
    ·
     rw [if_pos hk6] at e2
     refine SG (Ex.move rfl) rfl rfl rfl (WR.stepE (v' := .bool true) (Ex.strEql rfl rfl) (congrArg Value.bool (decide_eq_true hk6)) (Wn.some rfl rfl rfl) rfl rfl (SG (Ex.move rfl) rfl rfl rfl (WR.skipN 13 rfl rfl (SG (Ex.pickT rfl rfl) rfl rfl rfl (PT rfl rfl rfl (AS rfl rfl (NL ?_)))))))
     exact WQ.meetN [(2, _)] ⟨rfl, trivial⟩ ⟨_, _, rfl, H, e2⟩
    ·
     rw [if_neg hk6] at e2
     obtain ⟨c7, hxc7, e2⟩ := bnd e2
     obtain ⟨b8, hx9, e2⟩ := bnd e2
     refine SG (Ex.move rfl) rfl rfl rfl (WR.stepE (v' := .bool false) (Ex.strEql rfl rfl) (congrArg Value.bool (decide_eq_false hk6)) (Wn.some rfl rfl rfl) rfl rfl ?_)
     rcases b8 with _ | _
     ·
      rw [if_neg Bool.false_ne_true] at e2
      obtain ⟨n10, hxn10, e2⟩ := bnd e2
      obtain ⟨c11, hxc11, e2⟩ := bnd e2
      obtain ⟨b12, hx13, e2⟩ := bnd e2
      refine SG (Ex.move rfl) rfl rfl rfl (SG (Ex.move rfl) rfl rfl rfl (SG (Ex.idxStrC Tryz.underlying9 rfl rfl hxc7) rfl rfl rfl (WR.call H (basic_Blank_ct hx9) rfl trivial (Wn.some rfl rfl rfl) rfl ?_)))
      intro v12 M w H hle hR
      obtain rfl := hR
      refine SG (Ex.not rfl) rfl rfl rfl (SG (Ex.move rfl) rfl rfl rfl (SG (Ex.move rfl) rfl rfl rfl (SG (Ex.move rfl) rfl rfl rfl (SG (Ex.lenStr Tryz.underlying9 rfl) rfl rfl rfl (SG (Ex.subC rfl rfl hxn10) rfl rfl rfl (SG (Ex.idxStrC Tryz.underlying9 rfl rfl hxc11) rfl rfl rfl (WR.call H (basic_Blank_ct hx13) rfl trivial (Wn.some rfl rfl rfl) rfl ?_)))))))
      intro v20 M w H hle hR
      obtain rfl := hR
      refine SG (Ex.not rfl) rfl rfl rfl (SG (Ex.pickT rfl rfl) rfl rfl rfl (SG (Ex.pickF rfl rfl) rfl rfl rfl (PT rfl rfl rfl (AS rfl rfl (NL ?_)))))
      exact WQ.meetN [(2, _)] ⟨rfl, trivial⟩ ⟨_, _, rfl, H, e2⟩
     ·
      rw [if_pos rfl] at e2
      refine SG (Ex.move rfl) rfl rfl rfl (SG (Ex.move rfl) rfl rfl rfl (SG (Ex.idxStrC Tryz.underlying9 rfl rfl hxc7) rfl rfl rfl (WR.call H (basic_Blank_ct hx9) rfl trivial (Wn.some rfl rfl rfl) rfl ?_)))
      intro v12 M w H hle hR
      obtain rfl := hR
      refine SG (Ex.not rfl) rfl rfl rfl (SG (Ex.move rfl) rfl rfl rfl (WR.skipN 7 rfl rfl (SG (Ex.pickF rfl rfl) rfl rfl rfl (SG (Ex.pickF rfl rfl) rfl rfl rfl (PT rfl rfl rfl (AS rfl rfl (NL ?_)))))))
      exact WQ.meetN [(2, _)] ⟨rfl, trivial⟩ ⟨_, _, rfl, H, e2⟩
   ·
    rw [if_pos rfl] at e2
    refine WR.skipN 17 rfl rfl (PF rfl rfl rfl (AS rfl rfl (NL ?_)))
    exact WQ.meetN [(2, _)] ⟨rfl, trivial⟩ ⟨_, _, rfl, H, e2⟩
  ·
   rintro e w ⟨b3, M, rfl, H, q14⟩
   obtain rfl := Option.some.inj q14
   refine TN (RT ?_)
   obtain rfl := Option.some.inj h
   exact WQ.ret1 rfl rfl H.ext rfl
theorem fold_point_ct {p0 : List UInt8} {p1 : Int} {r : Int} (h : fold_point p0 p1 = some r) : Ct Tryz.prog 75 [S p0, I p1] (fun M => True) (fun v M => v = I r) := by
  refine Ct.of Tryz.func75 (enters Tryz.func75 (by kernel_rfl) rfl) rfl rfl rfl ?_
  intro w0 M0 H hp
  unfold fold_point at h
  refine SQ (RG (AS rfl rfl (NL (TN (SQ (RG (AS rfl rfl (NL (TN (SQ (SQ (RG (MV rfl rfl (ST (Ex.max2 rfl rfl) rfl (AS rfl rfl (NL (TN ?_)))))))))))))))))
  obtain ⟨o1, e2, h⟩ := bnd h
  refine WC.cutX (fun e w => ∃ (n3 : Int) (M : Mem), e = [(5, I n3)] ∧ St w0 M0 M [] w ∧ some n3 = some o1) [] ?_ ?_ (trivial)
  ·
   refine BL (WC.loopP (fun m e w => ∃ (n4 : Int) (n5 : Int) (M : Mem), e = [(0, S p0), (5, I n4), (6, I n5)] ∧ St w0 M0 M [] w ∧ fold_point_L1 p0 m n4 n5 = some o1) FU [(0, _), (5, _), (6, _)] ⟨rfl, rfl, rfl, trivial⟩ ⟨_, _, _, rfl, H, e2⟩ ?_)
   rintro m6 e w ⟨n4, n5, M, rfl, H, e2⟩
   rcases m6 with _ | m6
   · rw [fold_point_L1] at e2; cases e2
   rw [fold_point_L1] at e2
   refine SQ (SQ (RG (MV rfl rfl (MV rfl rfl (ST (Ex.lenStr Tryz.underlying9 rfl) rfl (ST (Ex.lss rfl rfl) rfl (NL (TN ?_))))))))
   refine WC.condB rfl (fun hk7 => ?_) (fun hk7 => ?_)
   ·
    replace hk7 : n5 < (p0.length : Int) := of_decide_eq_true hk7
    rw [if_pos hk7] at e2
    refine SK (TN (SQ (BL (SQ (SQ ?_)))))
    obtain ⟨o8, e9, e2⟩ := bnd e2
    refine WC.cutX (fun e w => ∃ (b10 : Bool) (M : Mem), e = [(0, S p0), (5, I n4), (6, I n5), (26, Value.bool b10)] ∧ St w0 M0 M [] w ∧ some b10 = some o8) [] ?_ ?_ (trivial)
    ·
     obtain ⟨c11, hxc11, e9⟩ := bnd e9
     obtain ⟨b12, hx13, e9⟩ := bnd e9
     refine RG (MV rfl rfl (MV rfl rfl (ST (Ex.idxStrC Tryz.underlying9 rfl rfl hxc11) rfl (WR.call H (basic_Blank_ct hx13) rfl trivial (Wn.none rfl) rfl ?_))))
     intro v18 M w H hle hR
     obtain rfl := hR
     refine ST (Ex.not rfl) rfl (MV rfl rfl ?_)
     rcases b12 with _ | _
     ·
      rw [if_neg Bool.false_ne_true] at e9
      refine WR.skipN 5 rfl rfl (PT rfl rfl rfl (NL ?_))
      exact WQ.meetN [(0, _), (5, _), (6, _), (26, _)] ⟨rfl, rfl, rfl, rfl, trivial⟩ ⟨_, _, rfl, H, e9⟩
     ·
      rw [if_pos rfl] at e9
      obtain ⟨n14, hxn14, e9⟩ := bnd e9
      obtain ⟨c15, hxc15, e9⟩ := bnd e9
      obtain ⟨b16, hx17, e9⟩ := bnd e9
      refine SG (Ex.move rfl) rfl rfl rfl (SG (Ex.move rfl) rfl rfl rfl (SG (Ex.subC rfl rfl hxn14) rfl rfl rfl (SG (Ex.idxStrC Tryz.underlying9 rfl rfl hxc15) rfl rfl rfl (WR.call H (basic_Blank_ct hx17) rfl trivial (Wn.some rfl rfl rfl) rfl ?_))))
      intro v25 M w H hle hR
      obtain rfl := hR
      refine PF rfl rfl rfl (NL ?_)
      exact WQ.meetN [(0, _), (5, _), (6, _), (26, _)] ⟨rfl, rfl, rfl, rfl, trivial⟩ ⟨_, _, rfl, H, e9⟩
    ·
     rintro e w ⟨b10, M, rfl, H, q18⟩
     obtain rfl := Option.some.inj q18
     refine TN ?_
     refine WC.condB rfl (fun hk19 => ?_) (fun hk19 => ?_)
     ·
      subst hk19
      rw [if_pos rfl] at e2
      refine WC.exit (WQ.thenExit (WQ.exitHere (TN ?_)))
      obtain ⟨n20, hxn20, e2⟩ := bnd e2
      refine RG (MV rfl rfl (ST (Ex.addC rfl rfl hxn20) rfl (AS rfl rfl (NL ?_))))
      exact WQ.againP m6 [(0, _), (5, _), (6, _)] ⟨rfl, rfl, rfl, trivial⟩ ⟨_, _, _, rfl, H, e2⟩ (Nat.lt_succ_self _)
     ·
      subst hk19
      rw [if_neg Bool.false_ne_true] at e2
      refine SK (TN (SQ (SQ ?_)))
      obtain ⟨o21, e22, e2⟩ := bnd e2
      refine WC.cutX (fun e w => ∃ (b23 : Bool) (M : Mem), e = [(0, S p0), (5, I n4), (6, I n5), (32, Value.bool b23)] ∧ St w0 M0 M [] w ∧ some b23 = some o21) [] ?_ ?_ (trivial)
      ·
       by_cases hk24 : (0 : Int) < n4
       ·
        rw [if_pos hk24] at e22
        refine RG (MV rfl rfl (WR.stepE (v' := .bool true) (Ex.gtr rfl rfl) (congrArg Value.bool (decide_eq_true hk24)) (Wn.none rfl) rfl rfl (MV rfl rfl (SG (Ex.move rfl) rfl rfl rfl (SG (Ex.gtr rfl rfl) rfl rfl rfl (PT rfl rfl rfl (NL ?_)))))))
        exact WQ.meetN [(0, _), (5, _), (6, _), (32, _)] ⟨rfl, rfl, rfl, rfl, trivial⟩ ⟨_, _, rfl, H, e22⟩
       ·
        rw [if_neg hk24] at e22
        refine RG (MV rfl rfl (WR.stepE (v' := .bool false) (Ex.gtr rfl rfl) (congrArg Value.bool (decide_eq_false hk24)) (Wn.none rfl) rfl rfl (MV rfl rfl (GF rfl rfl rfl (GF rfl rfl rfl (PF rfl rfl rfl (NL ?_)))))))
        exact WQ.meetN [(0, _), (5, _), (6, _), (32, _)] ⟨rfl, rfl, rfl, rfl, trivial⟩ ⟨_, _, rfl, H, e22⟩
      ·
       rintro e w ⟨b23, M, rfl, H, q25⟩
       obtain rfl := Option.some.inj q25
       refine TN ?_
       refine WC.condB rfl (fun hk26 => ?_) (fun hk26 => ?_)
       ·
        subst hk26
        rw [if_pos rfl] at e2
        refine WC.exit (WQ.thenExit (WQ.exitOut rfl (WQ.thenExit (WQ.thenExit (WQ.exitHere ?_)))))
        exact WQ.meetN [(5, _)] ⟨rfl, trivial⟩ ⟨_, _, rfl, H, e2⟩
       ·
        subst hk26
        rw [if_neg Bool.false_ne_true] at e2
        refine SK (TN (RG (MV rfl rfl (AS rfl rfl (NL (IB (TN ?_)))))))
        obtain ⟨n27, hxn27, e2⟩ := bnd e2
        refine RG (MV rfl rfl (ST (Ex.addC rfl rfl hxn27) rfl (AS rfl rfl (NL ?_))))
        exact WQ.againP m6 [(0, _), (5, _), (6, _)] ⟨rfl, rfl, rfl, trivial⟩ ⟨_, _, _, rfl, H, e2⟩ (Nat.lt_succ_self _)
   ·
    replace hk7 : ¬ (n5 < (p0.length : Int)) := of_decide_eq_false hk7
    rw [if_neg hk7] at e2
    refine WC.exit (WQ.thenExit (WQ.thenExit (WQ.exitHere ?_)))
    exact WQ.meetN [(5, _)] ⟨rfl, trivial⟩ ⟨_, _, rfl, H, e2⟩
  ·
   rintro e w ⟨n3, M, rfl, H, q28⟩
   obtain rfl := Option.some.inj q28
   refine TN (SQ (RG (MV rfl rfl (AS rfl rfl (NL (TN (RT ?_)))))))
   obtain rfl := Option.some.inj h
   exact WQ.ret1 rfl rfl H.ext rfl
theorem basic_None_ct  {r : (Int × Int)} (h : basic_None = some r) : Ct Tryz.prog 40 [] (fun M => True) (fun v M => v = Value.agg #[I r.1, I r.2]) := by
  refine Ct.of Tryz.func40 (enters Tryz.func40 (by kernel_rfl) rfl) rfl rfl rfl ?_
  intro w0 M0 H hp
  unfold basic_None at h
  refine SQ (RG (WR.alloc [_, _] H Tryz.zeroValue24 rfl (Wn.none rfl) rfl ?_))
  intro b0 w H
  refine NL (TN (SQ (RG (ST (Ex.build [I 0, I 0] Tryz.underlying24 Tryz.zeroValue24 (xplaces24 Tryz.underlying24) rfl rfl) rfl (WR.store [_, _] H rfl rfl rfl (by repeat first | exact .head | apply Upd.tail) Tryz.sizeOf24 rfl (by rfl) (by rfl) (Wn.none rfl) ?_)))))
  intro w H
  refine NL (TN (RT ?_))
  obtain rfl := Option.some.inj h
  exact WQ.ret1 rfl ⟨_, rfl, H.loadAgg (by repeat (first | exact List.Mem.head _ | apply List.Mem.tail)) Tryz.isAgg24 Tryz.sizeOf24 (by rfl)⟩ H.ext rfl
theorem fold_Fold_ct {p0 : List UInt8} {p1 : List UInt8} {r : (List (List UInt8) × (Int × Int))} (h : fold_Fold p0 p1 = some r) : Ct Tryz.prog 35 [S p0, S p1] (fun M => True) (fun v M => ∃ x0, v = Value.tuple #[x0, Value.agg #[I r.2.1, I r.2.2]] ∧ Sl M encS x0 r.1) := by
  refine Ct.of Tryz.func35 (enters Tryz.func35 (by kernel_rfl) rfl) rfl rfl rfl ?_
  intro w0 M0 H hp
  unfold fold_Fold at h
  refine SQ (RG (AS rfl rfl (WR.alloc [_, _] H Tryz.zeroValue24 rfl (Wn.none rfl) rfl ?_)))
  intro b5 w H
  refine NL (TN (SQ (BL (SQ ?_))))
  obtain ⟨b1, hx2, h⟩ := bnd h
  refine RG (MV rfl rfl (WR.call H (fold_name_ct hx2) rfl trivial (Wn.none rfl) rfl ?_))
  intro v14 M w H hle hR
  obtain rfl := hR
  refine ST (Ex.not rfl) rfl (AS rfl rfl (NL (TN ?_)))
  refine WC.condB rfl (fun hk3 => ?_) (fun hk3 => ?_)
  ·
   replace hk3 : b1 = false := by simpa using hk3
   subst hk3
   rw [if_neg Bool.false_ne_true] at h
   refine SQ ?_
   obtain ⟨⟨n4, n5⟩, hx6, h⟩ := bnd h
   try dsimp only at h
   refine RG (WR.call H (basic_Fault_ct hx6) rfl trivial (Wn.none rfl) rfl ?_)
   intro v16 M w H hle hR
   try dsimp only at hR
   obtain rfl := hR
   refine AS rfl rfl (WR.store [_, _] H rfl rfl rfl (by repeat first | exact .head | apply Upd.tail) Tryz.sizeOf24 rfl (by rfl) (by rfl) (Wn.none rfl) ?_)
   intro w H
   refine NL (TN (RT ?_))
   obtain rfl := Option.some.inj h
   exact WQ.ret2 rfl rfl ⟨_, rfl, H.loadAgg (by repeat (first | exact List.Mem.head _ | apply List.Mem.tail)) Tryz.isAgg24 Tryz.sizeOf24 (by rfl)⟩ H.ext (⟨_, rfl, Sl.nil _ _⟩)
  ·
   replace hk3 : b1 = true := by simpa using hk3
   subst hk3
   rw [if_pos rfl] at h
   refine SQ (RG (MV rfl rfl (ST (Ex.lenStr Tryz.underlying9 rfl) rfl (ST (Ex.gtr rfl rfl) rfl (AS rfl rfl (NL (TN ?_)))))))
   refine WC.condB rfl (fun hk7 => ?_) (fun hk7 => ?_)
   ·
    replace hk7 : (4000 : Int) < (p1.length : Int) := of_decide_eq_true hk7
    rw [if_pos hk7] at h
    refine SQ ?_
    obtain ⟨⟨n8, n9⟩, hx10, h⟩ := bnd h
    try dsimp only at h
    refine RG (WR.call H (basic_Fault_ct hx10) rfl trivial (Wn.none rfl) rfl ?_)
    intro v21 M w H hle hR
    try dsimp only at hR
    obtain rfl := hR
    refine AS rfl rfl (WR.store [_, _] H rfl rfl rfl (by repeat first | exact .head | apply Upd.tail) Tryz.sizeOf24 rfl (by rfl) (by rfl) (Wn.none rfl) ?_)
    intro w H
    refine NL (TN (RT ?_))
    obtain rfl := Option.some.inj h
    exact WQ.ret2 rfl rfl ⟨_, rfl, H.loadAgg (by repeat (first | exact List.Mem.head _ | apply List.Mem.tail)) Tryz.isAgg24 Tryz.sizeOf24 (by rfl)⟩ H.ext (⟨_, rfl, Sl.nil _ _⟩)
   ·
    replace hk7 : ¬ ((4000 : Int) < (p1.length : Int)) := of_decide_eq_false hk7
    rw [if_neg hk7] at h
    refine SQ ?_
    obtain ⟨b11, hx12, h⟩ := bnd h
    refine RG (MV rfl rfl (WR.call H (fold_value_ct hx12) rfl trivial (Wn.none rfl) rfl ?_))
    intro v24 M w H hle hR
    obtain rfl := hR
    refine ST (Ex.not rfl) rfl (AS rfl rfl (NL (TN ?_)))
    refine WC.condB rfl (fun hk13 => ?_) (fun hk13 => ?_)
    ·
     replace hk13 : b11 = false := by simpa using hk13
     subst hk13
     rw [if_neg Bool.false_ne_true] at h
     refine SQ ?_
     obtain ⟨⟨n14, n15⟩, hx16, h⟩ := bnd h
     try dsimp only at h
     refine RG (WR.call H (basic_Fault_ct hx16) rfl trivial (Wn.none rfl) rfl ?_)
     intro v26 M w H hle hR
     try dsimp only at hR
     obtain rfl := hR
     refine AS rfl rfl (WR.store [_, _] H rfl rfl rfl (by repeat first | exact .head | apply Upd.tail) Tryz.sizeOf24 rfl (by rfl) (by rfl) (Wn.none rfl) ?_)
     intro w H
     refine NL (TN (RT ?_))
     obtain rfl := Option.some.inj h
     exact WQ.ret2 rfl rfl ⟨_, rfl, H.loadAgg (by repeat (first | exact List.Mem.head _ | apply List.Mem.tail)) Tryz.isAgg24 Tryz.sizeOf24 (by rfl)⟩ H.ext (⟨_, rfl, Sl.nil _ _⟩)
    ·
     replace hk13 : b11 = true := by simpa using hk13
     subst hk13
     rw [if_pos rfl] at h
     refine SK (IB (TN (SQ ?_)))
     obtain ⟨s17, hxs17, h⟩ := bnd h
     obtain ⟨s18, hxs18, h⟩ := bnd h
     obtain ⟨n19, hxn19, h⟩ := bnd h
     refine RG (MV rfl rfl (ST (Ex.strAddC rfl rfl hxs17) rfl (MV rfl rfl (ST (Ex.strAddC rfl rfl hxs18) rfl (MV rfl rfl (ST (Ex.lenStr Tryz.underlying9 rfl) rfl (ST (Ex.addC rfl rfl hxn19) rfl (AS rfl rfl (AS rfl rfl (NL (TN (SQ (RG (AS rfl rfl (NL (TN (SQ ?_)))))))))))))))))
     obtain ⟨o20, e21, h⟩ := bnd h
     refine WC.cutX (fun e w => ∃ (s22 : List UInt8) (l24 : List (List UInt8)) (v25 : Value) (M : Mem), e = [(5, ptr b5 0), (6, S s22), (8, v25)] ∧ St w0 M0 M [.blk b5 (.cells #[I 0, I 0] 24), RowI 9 encS v25 l24] w ∧ some (s22, l24) = some o20) [] ?_ ?_ (trivial)
     ·
      refine BL ?_
      replace H := H.newRow 9 encS
      refine WC.loopP (fun m e w => ∃ (s26 : List UInt8) (n27 : Int) (l29 : List (List UInt8)) (v30 : Value) (M : Mem), e = [(5, ptr b5 0), (6, S s26), (7, I n27), (8, v30)] ∧ St w0 M0 M [.blk b5 (.cells #[I 0, I 0] 24), RowI 9 encS v30 l29] w ∧ fold_Fold_L1  m s26 n27 l29 = some o20) FU [(5, _), (6, _), (7, _), (8, _)] ⟨rfl, rfl, rfl, rfl, trivial⟩ ⟨_, _, _, _, _, rfl, (H.pick (L' := [.blk b5 (.cells #[I 0, I 0] 24), RowI 9 encS (Value.slice none 0 0) []]) (by repeat (first | exact Pick.nil | refine Pick.cons (by repeat first | exact .head | apply Rem.tail) ?_))), e21⟩ ?_
      rintro m31 e w ⟨s26, n27, l29, v30, M, rfl, H, e21⟩
      rcases m31 with _ | m31
      · rw [fold_Fold_L1] at e21; cases e21
      rw [fold_Fold_L1] at e21
      refine SQ (SQ (RG (MV rfl rfl (ST (Ex.lenStr Tryz.underlying9 rfl) rfl (ST (Ex.gtr rfl rfl) rfl (NL (TN ?_)))))))
      refine WC.condB rfl (fun hk33 => ?_) (fun hk33 => ?_)
      ·
       replace hk33 : (78 : Int) < (s26.length : Int) := of_decide_eq_true hk33
       rw [if_pos hk33] at e21
       refine SK (TN (BL (SQ ?_)))
       obtain ⟨n34, hx35, e21⟩ := bnd e21
       refine RG (MV rfl rfl (MV rfl rfl (WR.call H (fold_point_ct hx35) rfl trivial (Wn.none rfl) rfl ?_)))
       intro v39 M w H hle hR
       obtain rfl := hR
       refine AS rfl rfl (NL (TN (SQ (SQ (RG (MV rfl rfl (ST (Ex.eql rfl rfl) rfl (NL (TN ?_)))))))))
       refine WC.condB rfl (fun hk36 => ?_) (fun hk36 => ?_)
       ·
        replace hk36 : n34 = (0 : Int) := of_decide_eq_true hk36
        rw [if_pos hk36] at e21
        refine WC.exit (WQ.thenExit (WQ.exitOut rfl (WQ.thenExit (WQ.exitHere ?_))))
        exact WQ.meetN [(5, _), (6, _), (8, _)] ⟨rfl, rfl, rfl, trivial⟩ ⟨_, _, _, _, rfl, H, e21⟩
       ·
        replace hk36 : ¬ (n34 = (0 : Int)) := of_decide_eq_false hk36
        rw [if_neg hk36] at e21
        refine SK (TN (SQ ?_))
        obtain ⟨s37, hxs37, e21⟩ := bnd e21
        obtain ⟨l38, hxl38, e21⟩ := bnd e21
        refine RG (MV rfl rfl (MV rfl rfl (MV rfl rfl (ST (Ex.sliceH Tryz.underlying9 rfl rfl hxs37) rfl (WR.lit (enc := encS) xty43 ([s37] : List (List UInt8)) H rfl (by rfl) (fun _ => rfl) rfl rfl (Wn.none rfl) rfl ?_)))))
        intro v46 M w H hle hs46
        refine WR.appC (l := l29) xty43 rfl (fun _ => rfl) H rfl (fun _ => by repeat first | exact .head | apply Upd.tail) rfl (hs46) hxl38 (Wn.none rfl) rfl ?_
        intro v47 w H
        refine AS rfl rfl (NL (TN ?_))
        obtain ⟨s39, hxs39, e21⟩ := bnd e21
        refine RG (MV rfl rfl (MV rfl rfl (ST (Ex.sliceL Tryz.underlying9 rfl rfl hxs39) rfl (AS rfl rfl (AS rfl rfl (NL (IB ?_)))))))
        exact WQ.againP m31 [(5, _), (6, _), (7, _), (8, _)] ⟨rfl, rfl, rfl, rfl, trivial⟩ ⟨_, _, _, _, _, rfl, H, e21⟩ (Nat.lt_succ_self _)
      ·
       replace hk33 : ¬ ((78 : Int) < (s26.length : Int)) := of_decide_eq_false hk33
       rw [if_neg hk33] at e21
       refine WC.exit (WQ.thenExit (WQ.thenExit (WQ.exitHere ?_)))
       exact WQ.meetN [(5, _), (6, _), (8, _)] ⟨rfl, rfl, rfl, trivial⟩ ⟨_, _, _, _, rfl, H, e21⟩
     ·
      rintro e w ⟨s22, l24, v25, M, rfl, H, q40⟩
      obtain rfl := Option.some.inj q40
      try dsimp only at h
      refine TN (SQ ?_)
      obtain ⟨l41, hxl41, h⟩ := bnd h
      refine RG (MV rfl rfl (MV rfl rfl (WR.lit (enc := encS) xty43 ([s22] : List (List UInt8)) H rfl (by rfl) (fun _ => rfl) rfl rfl (Wn.none rfl) rfl ?_)))
      intro v53 M w H hle hs53
      refine WR.appC (l := l24) xty43 rfl (fun _ => rfl) H rfl (fun _ => by repeat first | exact .head | apply Upd.tail) rfl (hs53) hxl41 (Wn.none rfl) rfl ?_
      intro v54 w H
      refine AS rfl rfl (NL (TN (SQ (SQ (RG (MV rfl rfl (ST (Ex.lenRow (l := l41) Tryz.underlying43 H (by repeat (first | exact List.Mem.head _ | apply List.Mem.tail)) rfl) rfl ?_)))))))
      refine MV rfl rfl (NL (TN ?_))
      obtain ⟨o42, e43, h⟩ := bnd h
      refine WC.cutX (fun e w => ∃ (n44 : Int) (n45 : Int) (M : Mem), e = [(5, ptr b5 0), (8, v54)] ∧ St w0 M0 M [.blk b5 (.cells #[I n44, I n45] 24), RowI 9 encS v54 l41] w ∧ some (.inl (n44, n45)) = some o42) [] ?_ ?_ (trivial)
      ·
       refine BL (WC.loopP (fun m e w => ∃ (n46 : Int) (n47 : Int) (n48 : Int) (M : Mem), e = [(5, ptr b5 0), (8, v54), (55, v54), (56, I (l41.length : Int)), (57, I n48)] ∧ St w0 M0 M [.blk b5 (.cells #[I n46, I n47] 24), RowI 9 encS v54 l41] w ∧ fold_Fold_L2 l41 m n46 n47 n48 = some o42) FU [(5, _), (8, _), (55, _), (56, _), (57, _)] ⟨rfl, rfl, rfl, rfl, rfl, trivial⟩ ⟨_, _, _, _, rfl, H, e43⟩ ?_)
       rintro m49 e w ⟨n46, n47, n48, M, rfl, H, e43⟩
       rcases m49 with _ | m49
       · rw [fold_Fold_L2] at e43; cases e43
       rw [fold_Fold_L2] at e43
       refine SQ (RG (ST (Ex.lss rfl rfl) rfl (NL (TN (SQ ?_)))))
       refine WC.condB rfl (fun hk50 => ?_) (fun hk50 => ?_)
       ·
        replace hk50 : n48 < (l41.length : Int) := of_decide_eq_true hk50
        rw [if_pos hk50] at e43
        refine SK (TN (SQ (BL (SQ ?_))))
        obtain ⟨a51, hxa51, e43⟩ := bnd e43
        refine RG (MV rfl rfl (WR.idxRowC (l := l41) H Tryz.underlying43 Tryz.sizeOf9 (by repeat (first | exact List.Mem.head _ | apply List.Mem.tail)) rfl rfl hxa51 (Wn.none rfl) rfl ?_))
        intro g60 hg60
        refine ST (Ex.loadRowC H rfl hg60 (by repeat (first | exact List.Mem.head _ | apply List.Mem.tail)) hxa51 Tryz.isAgg9) rfl ?_
        refine AS rfl rfl (AS rfl rfl (NL (TN (SQ (RG (MV rfl rfl (ST (Ex.lenStr Tryz.underlying9 rfl) rfl (ST (Ex.gtr rfl rfl) rfl (NL (TN ?_))))))))))
        refine WC.condB rfl (fun hk52 => ?_) (fun hk52 => ?_)
        ·
         replace hk52 : (998 : Int) < (a51.length : Int) := of_decide_eq_true hk52
         rw [if_pos hk52] at e43
         refine SQ ?_
         obtain ⟨⟨n53, n54⟩, hx55, e43⟩ := bnd e43
         try dsimp only at e43
         refine RG (MV rfl rfl (WR.call H (basic_Fault_ct hx55) rfl trivial (Wn.none rfl) rfl ?_))
         intro v66 M w H hle hR
         try dsimp only at hR
         obtain rfl := hR
         refine AS rfl rfl (WR.store [_, _] H rfl rfl rfl (by repeat first | exact .head | apply Upd.tail) Tryz.sizeOf24 rfl (by rfl) (by rfl) (Wn.none rfl) ?_)
         intro w H
         refine NL (TN (RT ?_))
         obtain rfl := Option.some.inj e43
         try dsimp only at h
         obtain rfl := Option.some.inj h
         exact WQ.ret2 rfl rfl ⟨_, rfl, H.loadAgg (by repeat (first | exact List.Mem.head _ | apply List.Mem.tail)) Tryz.isAgg24 Tryz.sizeOf24 (by rfl)⟩ H.ext (⟨_, rfl, Sl.nil _ _⟩)
        ·
         replace hk52 : ¬ ((998 : Int) < (a51.length : Int)) := of_decide_eq_false hk52
         rw [if_neg hk52] at e43
         refine SK (IB (TN ?_))
         obtain ⟨n56, hxn56, e43⟩ := bnd e43
         refine RG (ST (Ex.addC rfl rfl hxn56) rfl (MV rfl rfl (NL ?_)))
         exact WQ.againP m49 [(5, _), (8, _), (55, _), (56, _), (57, _)] ⟨rfl, rfl, rfl, rfl, rfl, trivial⟩ ⟨_, _, _, _, rfl, H, e43⟩ (Nat.lt_succ_self _)
       ·
        replace hk50 : ¬ (n48 < (l41.length : Int)) := of_decide_eq_false hk50
        rw [if_neg hk50] at e43
        refine WC.exit (WQ.thenExit (WQ.thenExit (WQ.exitHere ?_)))
        exact WQ.meetN [(5, _), (8, _)] ⟨rfl, rfl, trivial⟩ ⟨_, _, _, rfl, H, e43⟩
      ·
       rintro e w ⟨n44, n45, M, rfl, H, q57⟩
       obtain rfl := Option.some.inj q57
       try dsimp only at h
       refine TN (SQ ?_)
       obtain ⟨⟨n58, n59⟩, hx60, h⟩ := bnd h
       try dsimp only at h
       refine RG (MV rfl rfl (WR.call H (basic_None_ct hx60) rfl trivial (Wn.none rfl) rfl ?_))
       intro v69 M w H hle hR
       try dsimp only at hR
       obtain rfl := hR
       refine AS rfl rfl (WR.store [_, _] H rfl rfl rfl (by repeat first | exact .head | apply Upd.tail) Tryz.sizeOf24 rfl (by rfl) (by rfl) (Wn.none rfl) ?_)
       intro w H
       refine NL (TN (RT ?_))
       obtain ⟨M, hle, hs61, H⟩ := H.freezeRow (v := v54) (enc := encS) (t := 9) (by repeat first | exact .head | apply Rem.tail)
       obtain rfl := Option.some.inj h
       exact WQ.ret2 rfl rfl ⟨_, rfl, H.loadAgg (by repeat (first | exact List.Mem.head _ | apply List.Mem.tail)) Tryz.isAgg24 Tryz.sizeOf24 (by rfl)⟩ H.ext (⟨_, rfl, hs61⟩)
theorem basic_Failed_ct {p0 : (Int × Int)} {r : Bool} (h : basic_Failed p0 = some r) : Ct Tryz.prog 64 [Value.agg #[I p0.1, I p0.2]] (fun M => True) (fun v M => v = Value.bool r) := by
  refine Ct.of Tryz.func64 (enters Tryz.func64 (by kernel_rfl) rfl) rfl rfl rfl ?_
  intro w0 M0 H hp
  unfold basic_Failed at h
  refine SQ (RG (WR.box [_, _] H rfl rfl (Wn.none rfl) rfl ?_))
  intro b1 w H
  refine AS rfl rfl (NL (TN (SQ (RG (ST (Ex.fieldAddr Tryz.underlying24 rfl Tryz.sizeOf3 (by decide) rfl) rfl (ST (Ex.load1 H rfl (by repeat (first | exact List.Mem.head _ | apply List.Mem.tail)) Tryz.isAgg3 (by rfl)) rfl ?_))))))
  refine ST (Ex.neqC rfl rfl) rfl (AS rfl rfl (NL (TN (RT ?_))))
  obtain rfl := Option.some.inj h
  exact WQ.ret1 rfl rfl H.ext rfl
theorem header_Validate_ct {p0 : List (List UInt8 × List UInt8)} {vp0 : Value} {r : (Int × Int)} (h : header_Validate p0 = some r) : Ct Tryz.prog 25 [vp0] (fun M => SlS M 2 xenc50 vp0 p0) (fun v M => v = Value.agg #[I r.1, I r.2]) := by
  refine Ct.of Tryz.func25 (enters Tryz.func25 (by kernel_rfl) rfl) rfl rfl rfl ?_
  intro w0 M0 H hp
  have hp0 := hp
  unfold header_Validate at h
  refine SQ (RG (WR.alloc [_, _] H Tryz.zeroValue24 rfl (Wn.none rfl) rfl ?_))
  intro b2 w H
  refine NL (TN (SQ (SQ (RG (MV rfl rfl (ST (Ex.lenSlS Tryz.underlying31 hp0 rfl) rfl (ST (Ex.gtr rfl rfl) rfl (NL (TN ?_)))))))))
  refine WC.condB rfl (fun hk1 => ?_) (fun hk1 => ?_)
  ·
   replace hk1 : (60 : Int) < (p0.length : Int) := of_decide_eq_true hk1
   rw [if_pos hk1] at h
   refine SQ ?_
   obtain ⟨⟨n2, n3⟩, hx4, h⟩ := bnd h
   try dsimp only at h
   refine RG (WR.call H (basic_Fault_ct hx4) rfl trivial (Wn.none rfl) rfl ?_)
   intro v10 M w H hle hR
   replace hp0 := hp0.mono hle
   try dsimp only at hR
   obtain rfl := hR
   refine WR.store [_, _] H rfl rfl rfl (by repeat first | exact .head | apply Upd.tail) Tryz.sizeOf24 rfl (by rfl) (by rfl) (Wn.none rfl) ?_
   intro w H
   refine NL (TN (RT ?_))
   obtain rfl := Option.some.inj h
   exact WQ.ret1 rfl ⟨_, rfl, H.loadAgg (by repeat (first | exact List.Mem.head _ | apply List.Mem.tail)) Tryz.isAgg24 Tryz.sizeOf24 (by rfl)⟩ H.ext rfl
  ·
   replace hk1 : ¬ ((60 : Int) < (p0.length : Int)) := of_decide_eq_false hk1
   rw [if_neg hk1] at h
   refine SK (TN (SQ (SQ (RG (MV rfl rfl (ST (Ex.lenSlS Tryz.underlying31 hp0 rfl) rfl (MV rfl rfl (NL (TN ?_)))))))))
   obtain ⟨o5, e6, h⟩ := bnd h
   refine WC.cutX (fun e w => ∃ (n7 : Int) (n8 : Int) (M : Mem), e = [(2, ptr b2 0)] ∧ St w0 M0 M [.blk b2 (.cells #[I n7, I n8] 24)] w ∧ some (.inl (n7, n8)) = some o5) [] ?_ ?_ (trivial)
   ·
    refine BL (WC.loopP (fun m e w => ∃ (n9 : Int) (n10 : Int) (n11 : Int) (M : Mem), e = [(2, ptr b2 0), (11, vp0), (12, I (p0.length : Int)), (13, I n11)] ∧ St w0 M0 M [.blk b2 (.cells #[I n9, I n10] 24)] w ∧ SlS M 2 xenc50 vp0 p0 ∧ header_Validate_L1 p0 m n9 n10 n11 = some o5) FU [(2, _), (11, _), (12, _), (13, _)] ⟨rfl, rfl, rfl, rfl, trivial⟩ ⟨_, _, _, _, rfl, H, hp0, e6⟩ ?_)
    rintro m12 e w ⟨n9, n10, n11, M, rfl, H, hp0, e6⟩
    rcases m12 with _ | m12
    · rw [header_Validate_L1] at e6; cases e6
    rw [header_Validate_L1] at e6
    refine SQ (RG (ST (Ex.lss rfl rfl) rfl (NL (TN (SQ ?_)))))
    refine WC.condB rfl (fun hk13 => ?_) (fun hk13 => ?_)
    ·
     replace hk13 : n11 < (p0.length : Int) := of_decide_eq_true hk13
     rw [if_pos hk13] at e6
     refine SK (TN (SQ (BL (SQ ?_))))
     obtain ⟨a14, hxa14, e6⟩ := bnd e6
     obtain ⟨b16, o16, ha16, hc16⟩ := hp0.atC hxa14
     refine RG (MV rfl rfl (ST (Ex.idxAt ha16 Tryz.underlying31 Tryz.sizeOf50 rfl rfl) rfl (ST (Ex.loadAggM H rfl hc16 Tryz.isAgg50 Tryz.sizeOf50 (by rfl)) rfl ?_)))
     refine WR.alloc [_, _] H Tryz.zeroValue50 rfl (Wn.none rfl) rfl ?_
     intro b4 w H
     refine AS rfl rfl (WR.store [_, _] H rfl rfl rfl (by repeat first | exact .head | apply Upd.tail) Tryz.sizeOf50 rfl (by rfl) (by rfl) (Wn.none rfl) ?_)
     intro w H
     refine NL (TN (SQ ?_))
     obtain ⟨⟨l15, ⟨n16, n17⟩⟩, hx18, e6⟩ := bnd e6
     try dsimp only at e6
     refine RG (ST (Ex.fieldAddr Tryz.underlying50 rfl Tryz.sizeOf9 (by decide) rfl) rfl (ST (Ex.load1 H rfl (by repeat (first | exact List.Mem.head _ | apply List.Mem.tail)) Tryz.isAgg9 (by rfl)) rfl ?_))
     refine ST (Ex.fieldAddr Tryz.underlying50 rfl Tryz.sizeOf9 (by decide) rfl) rfl (ST (Ex.load1 H rfl (by repeat (first | exact List.Mem.head _ | apply List.Mem.tail)) Tryz.isAgg9 (by rfl)) rfl ?_)
     refine WR.call H (fold_Fold_ct hx18) rfl trivial (Wn.none rfl) rfl ?_
     intro v23 M w H hle hR
     replace hp0 := hp0.mono hle
     replace hc16 := hc16.mono hle
     try dsimp only at hR
     obtain ⟨x23_0, rfl, f23_0⟩ := hR
     refine MV rfl rfl (ST (Ex.extract rfl rfl) rfl (ST (Ex.extract rfl rfl) rfl (WR.alloc [_, _] H Tryz.zeroValue24 rfl (Wn.none rfl) rfl ?_)))
     intro b6 w H
     refine AS rfl rfl (WR.store [_, _] H rfl rfl rfl (by repeat first | exact .head | apply Upd.tail) Tryz.sizeOf24 rfl (by rfl) (by rfl) (Wn.none rfl) ?_)
     intro w H
     refine NL (TN (SQ ?_))
     obtain ⟨b19, hx20, e6⟩ := bnd e6
     refine RG (ST (Ex.loadAgg H rfl (by repeat (first | exact List.Mem.head _ | apply List.Mem.tail)) Tryz.isAgg24 Tryz.sizeOf24 (by rfl)) rfl ?_)
     refine WR.call H (basic_Failed_ct hx20) rfl trivial (Wn.none rfl) rfl ?_
     intro v27 M w H hle hR
     replace hp0 := hp0.mono hle
     replace hc16 := hc16.mono hle
     replace f23_0 := f23_0.mono hle
     obtain rfl := hR
     refine NL (TN ?_)
     refine WC.condB rfl (fun hk21 => ?_) (fun hk21 => ?_)
     ·
      subst hk21
      rw [if_pos rfl] at e6
      refine SQ ?_
      obtain ⟨⟨n22, n23⟩, hx24, e6⟩ := bnd e6
      try dsimp only at e6
      refine RG (ST (Ex.fieldAddr Tryz.underlying24 rfl Tryz.sizeOf3 (by decide) rfl) rfl (ST (Ex.load1 H rfl (by repeat (first | exact List.Mem.head _ | apply List.Mem.tail)) Tryz.isAgg3 (by rfl)) rfl ?_))
      refine MV rfl rfl (WR.call H (basic_Fault_ct hx24) rfl trivial (Wn.none rfl) rfl ?_)
      intro v31 M w H hle hR
      replace hp0 := hp0.mono hle
      replace hc16 := hc16.mono hle
      replace f23_0 := f23_0.mono hle
      try dsimp only at hR
      obtain rfl := hR
      refine WR.store [_, _] H rfl rfl rfl (by repeat first | exact .head | apply Upd.tail) Tryz.sizeOf24 rfl (by rfl) (by rfl) (Wn.none rfl) ?_
      intro w H
      refine NL (TN (RT ?_))
      obtain rfl := Option.some.inj e6
      try dsimp only at h
      obtain rfl := Option.some.inj h
      exact WQ.ret1 rfl ⟨_, rfl, H.loadAgg (by repeat (first | exact List.Mem.head _ | apply List.Mem.tail)) Tryz.isAgg24 Tryz.sizeOf24 (by rfl)⟩ H.ext rfl
     ·
      subst hk21
      rw [if_neg Bool.false_ne_true] at e6
      refine SK (IB (TN ?_))
      obtain ⟨n25, hxn25, e6⟩ := bnd e6
      refine RG (ST (Ex.addC rfl rfl hxn25) rfl (MV rfl rfl (NL ?_)))
      exact WQ.againP m12 [(2, _), (11, _), (12, _), (13, _)] ⟨rfl, rfl, rfl, rfl, trivial⟩ ⟨_, _, _, _, rfl, (H.pick (L' := [.blk b2 (.cells #[I n9, I n10] 24)]) (by repeat (first | exact Pick.nil | refine Pick.cons (by repeat first | exact .head | apply Rem.tail) ?_))), hp0, e6⟩ (Nat.lt_succ_self _)
    ·
     replace hk13 : ¬ (n11 < (p0.length : Int)) := of_decide_eq_false hk13
     rw [if_neg hk13] at e6
     refine WC.exit (WQ.thenExit (WQ.thenExit (WQ.exitHere ?_)))
     exact WQ.meetN [(2, _)] ⟨rfl, trivial⟩ ⟨_, _, _, rfl, H, e6⟩
   ·
    rintro e w ⟨n7, n8, M, rfl, H, q26⟩
    obtain rfl := Option.some.inj q26
    try dsimp only at h
    refine TN (SQ ?_)
    obtain ⟨⟨n27, n28⟩, hx29, h⟩ := bnd h
    try dsimp only at h
    refine RG (WR.call H (basic_None_ct hx29) rfl trivial (Wn.none rfl) rfl ?_)
    intro v33 M w H hle hR
    try dsimp only at hR
    obtain rfl := hR
    refine WR.store [_, _] H rfl rfl rfl (by repeat first | exact .head | apply Upd.tail) Tryz.sizeOf24 rfl (by rfl) (by rfl) (Wn.none rfl) ?_
    intro w H
    refine NL (TN (RT ?_))
    obtain rfl := Option.some.inj h
    exact WQ.ret1 rfl ⟨_, rfl, H.loadAgg (by repeat (first | exact List.Mem.head _ | apply List.Mem.tail)) Tryz.isAgg24 Tryz.sizeOf24 (by rfl)⟩ H.ext rfl
theorem header_name_ct {p0 : List UInt8} {r : Bool} (h : header_name p0 = some r) : Ct Tryz.prog 105 [S p0] (fun M => True) (fun v M => v = Value.bool r) := by
  refine Ct.of Tryz.func105 (enters Tryz.func105 (by kernel_rfl) rfl) rfl rfl rfl ?_
  intro w0 M0 H hp
  unfold header_name at h
  refine SQ (RG (AS rfl rfl (NL (TN (SQ ?_)))))
  obtain ⟨⟨l1, ⟨n2, n3⟩⟩, hx4, h⟩ := bnd h
  try dsimp only at h
  refine RG (MV rfl rfl (WR.call H (fold_Fold_ct hx4) rfl trivial (Wn.none rfl) rfl ?_))
  intro v7 M w H hle hR
  try dsimp only at hR
  obtain ⟨x7_0, rfl, f7_0⟩ := hR
  refine MV rfl rfl (ST (Ex.extract rfl rfl) rfl (ST (Ex.extract rfl rfl) rfl (WR.alloc [_, _] H Tryz.zeroValue24 rfl (Wn.none rfl) rfl ?_)))
  intro b4 w H
  refine AS rfl rfl (WR.store [_, _] H rfl rfl rfl (by repeat first | exact .head | apply Upd.tail) Tryz.sizeOf24 rfl (by rfl) (by rfl) (Wn.none rfl) ?_)
  intro w H
  refine NL (TN (SQ ?_))
  obtain ⟨b5, hx6, h⟩ := bnd h
  refine RG (ST (Ex.loadAgg H rfl (by repeat (first | exact List.Mem.head _ | apply List.Mem.tail)) Tryz.isAgg24 Tryz.sizeOf24 (by rfl)) rfl ?_)
  refine WR.call H (basic_Failed_ct hx6) rfl trivial (Wn.none rfl) rfl ?_
  intro v11 M w H hle hR
  replace f7_0 := f7_0.mono hle
  obtain rfl := hR
  refine ST (Ex.not rfl) rfl (AS rfl rfl (NL (TN (RT ?_))))
  obtain rfl := Option.some.inj h
  exact WQ.ret1 rfl rfl H.ext rfl
theorem header_valid_ct {p0 : List (List UInt8 × List UInt8)} {p1 : List UInt8} {vp0 : Value} {r : (Int × Int)} (h : header_valid p0 p1 = some r) : Ct Tryz.prog 67 [vp0, S p1] (fun M => SlS M 2 xenc50 vp0 p0) (fun v M => v = Value.agg #[I r.1, I r.2]) := by
  refine Ct.of Tryz.func67 (enters Tryz.func67 (by kernel_rfl) rfl) rfl rfl rfl ?_
  intro w0 M0 H hp
  have hp0 := hp
  unfold header_valid at h
  refine SQ (RG (WR.alloc [_, _] H Tryz.zeroValue24 rfl (Wn.none rfl) rfl ?_))
  intro b4 w H
  refine NL (TN (SQ (SQ ?_)))
  obtain ⟨⟨n1, n2⟩, hx3, h⟩ := bnd h
  try dsimp only at h
  refine RG (MV rfl rfl (WR.call H (header_Validate_ct hx3) rfl (hp0) (Wn.none rfl) rfl ?_))
  intro v7 M w H hle hR
  replace hp0 := hp0.mono hle
  try dsimp only at hR
  obtain rfl := hR
  refine WR.alloc [_, _] H Tryz.zeroValue24 rfl (Wn.none rfl) rfl ?_
  intro b5 w H
  refine WR.store [_, _] H rfl rfl rfl (by repeat first | exact .head | apply Upd.tail) Tryz.sizeOf24 rfl (by rfl) (by rfl) (Wn.none rfl) ?_
  intro w H
  refine NL (TN (SQ ?_))
  obtain ⟨b4, hx5, h⟩ := bnd h
  refine RG (ST (Ex.loadAgg H rfl (by repeat (first | exact List.Mem.head _ | apply List.Mem.tail)) Tryz.isAgg24 Tryz.sizeOf24 (by rfl)) rfl ?_)
  refine WR.call H (basic_Failed_ct hx5) rfl trivial (Wn.none rfl) rfl ?_
  intro v9 M w H hle hR
  replace hp0 := hp0.mono hle
  obtain rfl := hR
  refine NL (TN ?_)
  refine WC.condB rfl (fun hk6 => ?_) (fun hk6 => ?_)
  ·
   subst hk6
   rw [if_pos rfl] at h
   refine SQ (RG (ST (Ex.loadAgg H rfl (by repeat (first | exact List.Mem.head _ | apply List.Mem.tail)) Tryz.isAgg24 Tryz.sizeOf24 (by rfl)) rfl ?_))
   refine WR.store [_, _] H rfl rfl rfl (by repeat first | exact .head | apply Upd.tail) Tryz.sizeOf24 rfl (by rfl) (by rfl) (Wn.none rfl) ?_
   intro w H
   refine NL (TN (RT ?_))
   obtain rfl := Option.some.inj h
   exact WQ.ret1 rfl ⟨_, rfl, H.loadAgg (by repeat (first | exact List.Mem.head _ | apply List.Mem.tail)) Tryz.isAgg24 Tryz.sizeOf24 (by rfl)⟩ H.ext rfl
  ·
   subst hk6
   rw [if_neg Bool.false_ne_true] at h
   refine SK (TN (SQ (SQ ?_)))
   obtain ⟨b7, hx8, h⟩ := bnd h
   refine RG (MV rfl rfl (WR.call H (header_name_ct hx8) rfl trivial (Wn.none rfl) rfl ?_))
   intro v12 M w H hle hR
   replace hp0 := hp0.mono hle
   obtain rfl := hR
   refine ST (Ex.not rfl) rfl (NL (TN ?_))
   refine WC.condB rfl (fun hk9 => ?_) (fun hk9 => ?_)
   ·
    replace hk9 : b7 = false := by simpa using hk9
    subst hk9
    rw [if_neg Bool.false_ne_true] at h
    refine SQ ?_
    obtain ⟨⟨n10, n11⟩, hx12, h⟩ := bnd h
    try dsimp only at h
    refine RG (WR.call H (basic_Fault_ct hx12) rfl trivial (Wn.none rfl) rfl ?_)
    intro v14 M w H hle hR
    replace hp0 := hp0.mono hle
    try dsimp only at hR
    obtain rfl := hR
    refine WR.store [_, _] H rfl rfl rfl (by repeat first | exact .head | apply Upd.tail) Tryz.sizeOf24 rfl (by rfl) (by rfl) (Wn.none rfl) ?_
    intro w H
    refine NL (TN (RT ?_))
    obtain rfl := Option.some.inj h
    exact WQ.ret1 rfl ⟨_, rfl, H.loadAgg (by repeat (first | exact List.Mem.head _ | apply List.Mem.tail)) Tryz.isAgg24 Tryz.sizeOf24 (by rfl)⟩ H.ext rfl
   ·
    replace hk9 : b7 = true := by simpa using hk9
    subst hk9
    rw [if_pos rfl] at h
    refine SK (TN (SQ ?_))
    obtain ⟨⟨n13, n14⟩, hx15, h⟩ := bnd h
    try dsimp only at h
    refine RG (WR.call H (basic_None_ct hx15) rfl trivial (Wn.none rfl) rfl ?_)
    intro v15 M w H hle hR
    replace hp0 := hp0.mono hle
    try dsimp only at hR
    obtain rfl := hR
    refine WR.store [_, _] H rfl rfl rfl (by repeat first | exact .head | apply Upd.tail) Tryz.sizeOf24 rfl (by rfl) (by rfl) (Wn.none rfl) ?_
    intro w H
    refine NL (TN (RT ?_))
    obtain rfl := Option.some.inj h
    exact WQ.ret1 rfl ⟨_, rfl, H.loadAgg (by repeat (first | exact List.Mem.head _ | apply List.Mem.tail)) Tryz.isAgg24 Tryz.sizeOf24 (by rfl)⟩ H.ext rfl
theorem header_Without_1_ct {p0 : (List UInt8 × List UInt8)} {p1 : List UInt8} {bp1 : Nat} {r : Bool} (h : header_Without_1 p0 p1 = some r) : Ct Tryz.prog 71 [Value.agg #[S p0.1, S p0.2], ptr bp1 0] (fun M => PtM M bp1 (.cells #[S p1] 9)) (fun v M => v = Value.bool r) := by
  refine Ct.of Tryz.func71 (enters Tryz.func71 (by kernel_rfl) rfl) rfl rfl rfl ?_
  intro w0 M0 H hp
  have hp1 := hp
  unfold header_Without_1 at h
  refine SQ (RG (WR.box [_, _] H rfl rfl (Wn.none rfl) rfl ?_))
  intro b2 w H
  refine AS rfl rfl (NL (TN (SQ ?_)))
  obtain ⟨b1, hx2, h⟩ := bnd h
  refine RG (ST (Ex.fieldAddr Tryz.underlying50 rfl Tryz.sizeOf9 (by decide) rfl) rfl (ST (Ex.load1 H rfl (by repeat (first | exact List.Mem.head _ | apply List.Mem.tail)) Tryz.isAgg9 (by rfl)) rfl ?_))
  refine ST (Ex.loadM H rfl (hp1.cell (j := 0) rfl) Tryz.isAgg9) rfl (WR.call H (basic_Same_ct hx2) rfl trivial (Wn.none rfl) rfl ?_)
  intro v7 M w H hle hR
  replace hp1 := hp1.mono hle
  obtain rfl := hR
  refine AS rfl rfl (NL (TN (RT ?_)))
  obtain rfl := Option.some.inj h
  exact WQ.ret1 rfl rfl H.ext rfl
end Go.Proofs.YtogkmhjnojphiaaGreatDoor
end
section
set_option maxRecDepth 100000
set_option linter.unusedVariables false
set_option linter.unusedSimpArgs false
namespace Go.Proofs.YtogkmhjnojphiaaGreatDoor
open Go Go.RowKit Go.Ph Go.Ph.Pl Go.Ph.Pf
theorem clone_ct {p0 r : List (List UInt8 × List UInt8)} {vp0 : Value} (h : app 32 [] p0 = some r) : CtO Tryz.prog 70 [vp0] (fun M => SlS M 2 xenc50 vp0 p0) (fun v M its => its = [RowS 50 2 xenc50 v r]) := by
  refine CtO.of Tryz.func70 (enters Tryz.func70 (by kernel_rfl) rfl) rfl rfl rfl ?_
  intro w0 M0 H hp0
  refine SQ (RG (AS rfl rfl (NL (TN (SQ (SQ ?_))))))
  rcases SlS.nilOr hp0 with ⟨rfl, rfl⟩ | ⟨a, c, rfl⟩
  · refine WC.region ?_
    refine MV rfl rfl (ST (Ex.eqlNilS Tryz.underlying31 rfl) rfl (NL (TN (CT rfl (SQ (RG (AS rfl rfl (NL (TN (RT ?_))))))))))
    obtain ⟨_, rfl⟩ := app_some h
    exact WQ.ret1O rfl rfl (H.newRowS 50 2 xenc50) (List.Sublist.refl _) rfl
  · refine WC.region ?_
    refine MV rfl rfl (ST (Ex.eqlNilS Tryz.underlying31 rfl) rfl (NL (TN (CF rfl (SK ?_)))))
    (repeat (first | refine WQ.then ?_))
    refine SQ (RG (WR.litE xty31 xenc50 H (Wn.none rfl) rfl ?_))
    intro v5 w H
    refine MV rfl rfl (WR.appSC (l := []) xty31 rfl xone50 H rfl (fun _ => by repeat first | exact .head | apply Upd.tail) rfl hp0 h (Wn.none rfl) rfl ?_)
    intro v7 w H
    refine AS rfl rfl (NL (TN (RT ?_)))
    exact WQ.ret1O rfl rfl H (List.Sublist.refl _) rfl
def FnF (M : Mem) (v : Value) (g : (List UInt8 × List UInt8) → Option Bool) : Prop := ∀ a0 r, g a0 = some r → FnV Tryz.prog M v [.agg (xenc50 a0).toArray] (fun v M => v = Value.bool r)
theorem FnF.mono {M M' : Mem} {v : Value} {g : (List UInt8 × List UInt8) → Option Bool} (h : FnF M v g) (hl : M.le M') : FnF M' v g := fun a0 r hr => (h a0 r hr).mono hl
theorem idxFunc_ct {p0 : List (List UInt8 × List UInt8)} {p1 : (List UInt8 × List UInt8) → Option Bool} {vp0 vp1 : Value} {r : Int} (h : idxFunc p0 p1 = some r) : CtX Tryz.prog 117 [vp0, vp1] [RowS 50 2 xenc50 vp0 p0] (fun M => FnF M vp1 p1) (fun v M its => v = I r ∧ its = [RowS 50 2 xenc50 vp0 p0]) := by
  refine CtX.of Tryz.func117 (enters Tryz.func117 (by kernel_rfl) rfl) rfl rfl rfl ?_
  intro w0 M0 H hp1
  unfold idxFunc at h
  refine SQ (RG (AS rfl rfl (NL (TN (SQ (SQ (RG (MV rfl rfl (ST (Ex.lenRowS Tryz.underlying31 H (List.Mem.head _) rfl) rfl (MV rfl rfl (NL (TN ?_))))))))))))
  obtain ⟨o1, e2, h⟩ := bnd h
  refine WC.cutX (fun e w => ∃  (M : Mem), e = [] ∧ StX (feet [RowS 50 2 xenc50 vp0 p0]) w0 M0 M [RowS 50 2 xenc50 vp0 p0] w ∧ some (.inl ()) = some o1) [] ?_ ?_ (trivial)
  ·
   refine BL (WC.loopP (fun m e w => ∃ (n3 : Int) (M : Mem), e = [(0, vp0), (1, vp1), (7, I (p0.length : Int)), (8, I n3)] ∧ StX (feet [RowS 50 2 xenc50 vp0 p0]) w0 M0 M [RowS 50 2 xenc50 vp0 p0] w ∧ FnF M vp1 p1 ∧ idxL p0 p1 m n3 = some o1) FU [(0, _), (1, _), (7, _), (8, _)] ⟨rfl, rfl, rfl, rfl, trivial⟩ ⟨_, _, rfl, H, hp1, e2⟩ ?_)
   rintro m4 e w ⟨n3, M, rfl, H, hp1, e2⟩
   rcases m4 with _ | m4
   · rw [idxL] at e2; cases e2
   rw [idxL] at e2
   refine SQ (RG (ST (Ex.lss rfl rfl) rfl (NL (TN (SQ ?_)))))
   refine WC.condB rfl (fun hk5 => ?_) (fun hk5 => ?_)
   ·
    replace hk5 : n3 < (p0.length : Int) := of_decide_eq_true hk5
    rw [if_pos hk5] at e2
    refine SK (TN (SQ (BL (SQ (RG (MV rfl rfl (AS rfl rfl (NL (TN (SQ ?_))))))))))
    obtain ⟨c6, hxc6, e2⟩ := bnd e2
    obtain ⟨b7, hx8, e2⟩ := bnd e2
    refine RG (MV rfl rfl (MV rfl rfl (MV rfl rfl (WR.idxRowSC H Tryz.underlying31 Tryz.sizeOf50 (List.Mem.head _) rfl rfl hxc6 (Wn.none rfl) rfl ?_))))
    intro gb hgb
    refine ST (Ex.loadRowA H rfl hgb (List.Mem.head _) (fun _ => rfl) hxc6 Tryz.isAgg50 Tryz.sizeOf50) rfl (WR.callF H (hp1 _ _ hx8) rfl rfl (Wn.none rfl) rfl ?_)
    intro v15 M w H hle hR
    replace hp1 := hp1.mono hle
    obtain rfl := hR
    refine NL (TN ?_)
    refine WC.condB rfl (fun hk9 => ?_) (fun hk9 => ?_)
    ·
     subst hk9
     rw [if_pos rfl] at e2
     refine SQ (RG (MV rfl rfl (AS rfl rfl (NL (TN (RT ?_))))))
     obtain rfl := Option.some.inj e2
     try dsimp only at h
     obtain rfl := Option.some.inj h
     exact WQ.retX1 (its := [RowS 50 2 xenc50 vp0 p0]) rfl rfl H (by repeat (first | exact Pick.nil | refine Pick.cons (by repeat first | exact .head | apply Rem.tail) ?_)) ⟨rfl, rfl⟩
    ·
     subst hk9
     rw [if_neg Bool.false_ne_true] at e2
     refine SK (IB (TN ?_))
     obtain ⟨n10, hxn10, e2⟩ := bnd e2
     refine RG (ST (Ex.addC rfl rfl hxn10) rfl (MV rfl rfl (NL ?_)))
     exact WQ.againP m4 [(0, _), (1, _), (7, _), (8, _)] ⟨rfl, rfl, rfl, rfl, trivial⟩ ⟨_, _, rfl, H, hp1, e2⟩ (Nat.lt_succ_self _)
   ·
    replace hk5 : ¬ (n3 < (p0.length : Int)) := of_decide_eq_false hk5
    rw [if_neg hk5] at e2
    refine WC.exit (WQ.thenExit (WQ.thenExit (WQ.exitHere ?_)))
    exact WQ.meetN [] trivial ⟨_, rfl, H, e2⟩
  ·
   rintro e w ⟨M, rfl, H, q11⟩
   obtain rfl := Option.some.inj q11
   try dsimp only at h
   refine TN (SQ (RG (AS rfl rfl (NL (TN (RT ?_))))))
   obtain rfl := Option.some.inj h
   exact WQ.retX1 (its := [RowS 50 2 xenc50 vp0 p0]) rfl rfl H (by repeat (first | exact Pick.nil | refine Pick.cons (by repeat first | exact .head | apply Rem.tail) ?_)) ⟨rfl, rfl⟩
theorem xh0 : ∀ x : (List UInt8 × List UInt8), (xenc50 x).length = 2 := fun _ => rfl
theorem xz50 : ∀ u ∈ (Value.agg #[.string ⟨#[]⟩, .string ⟨#[]⟩]).cells.toList, u.oneCell' = true := by
  intro u hu
  have : u ∈ [Value.string ⟨#[]⟩, Value.string ⟨#[]⟩] := hu
  simp only [List.mem_cons, List.not_mem_nil, or_false] at this
  rcases this with rfl | rfl <;> rfl
theorem delFunc_ct {p0 r : List (List UInt8 × List UInt8)} {p1 : (List UInt8 × List UInt8) → Option Bool} {vp0 vp1 : Value} (h : delFunc p0 p1 = some r) : CtX Tryz.prog 69 [vp0, vp1] [RowS 50 2 xenc50 vp0 p0] (fun M => FnF M vp1 p1) (fun v M its => its = [RowS 50 2 xenc50 v r]) := by
  refine CtX.of Tryz.func69 (enters Tryz.func69 (by kernel_rfl) rfl) rfl rfl rfl ?_
  intro w0 M0 H hp1
  unfold delFunc at h
  obtain ⟨i0, hi0, h⟩ := bnd h
  refine SQ (RG (AS rfl rfl (NL (TN (SQ (RG (MV rfl rfl (MV rfl rfl (WR.callX H (idxFunc_ct hi0) (.left (Spl.all _)) rfl hp1 (Wn.none rfl) rfl ?_)))))))))
  intro v10 M w its H hle hR
  obtain ⟨rfl, rfl⟩ := hR
  replace H : StX (feet [RowS 50 2 xenc50 vp0 p0]) w0 M0 M [RowS 50 2 xenc50 vp0 p0] w := H
  replace hp1 := hp1.mono hle
  refine AS rfl rfl (NL (TN (SQ (SQ (RG (MV rfl rfl (ST (Ex.eql rfl rfl) rfl (NL (TN ?_)))))))))
  refine WC.condB rfl (fun hk1 => ?_) (fun hk1 => ?_)
  · replace hk1 : i0 = -1 := of_decide_eq_true hk1
    rw [if_pos hk1] at h
    refine SQ (RG (MV rfl rfl (AS rfl rfl (NL (TN (RT ?_))))))
    obtain rfl := Option.some.inj h
    exact WQ.retX1 (its := [RowS 50 2 xenc50 vp0 p0]) rfl rfl H (by repeat (first | exact Pick.nil | refine Pick.cons (by repeat first | exact .head | apply Rem.tail) ?_)) rfl
  · replace hk1 : ¬ i0 = -1 := of_decide_eq_false hk1
    rw [if_neg hk1] at h
    refine SK (TN (SQ (SQ ?_)))
    obtain ⟨j0, hxj0, h⟩ := bnd h
    refine RG (MV rfl rfl (ST (Ex.addC rfl rfl hxj0) rfl (AS rfl rfl (NL (TN ?_)))))
    obtain ⟨o1, e2, h⟩ := bnd h
    refine WC.cutX (fun e w => ∃ (q : List (List UInt8 × List UInt8)) (i : Int) (M : Mem), e = [(0, vp0), (5, I i)] ∧ StX (feet [RowS 50 2 xenc50 vp0 p0]) w0 M0 M [RowS 50 2 xenc50 vp0 q] w ∧ some (q, i) = some o1) [] ?_ ?_ (trivial)
    · refine WC.block ?_
      refine WC.loopP (fun m e w => ∃ (q : List (List UInt8 × List UInt8)) (i j : Int) (M : Mem), e = [(0, vp0), (1, vp1), (5, I i), (6, I j)] ∧ StX (feet [RowS 50 2 xenc50 vp0 p0]) w0 M0 M [RowS 50 2 xenc50 vp0 q] w ∧ FnF M vp1 p1 ∧ delL p1 m q i j = some o1) FU [(0, _), (1, _), (5, _), (6, _)] ⟨rfl, rfl, rfl, rfl, trivial⟩ ⟨_, _, _, _, rfl, H, hp1, e2⟩ ?_
      rintro m4 e w ⟨q, i, j, M, rfl, H, hp1, e2⟩
      rcases m4 with _ | m4
      · rw [delL] at e2; cases e2
      rw [delL] at e2
      refine SQ (SQ (RG (MV rfl rfl (MV rfl rfl (ST (Ex.lenRowS Tryz.underlying31 H (List.Mem.head _) rfl) rfl (ST (Ex.lss rfl rfl) rfl (NL (TN ?_))))))))
      refine WC.condB rfl (fun hk5 => ?_) (fun hk5 => ?_)
      · replace hk5 : j < (q.length : Int) := of_decide_eq_true hk5
        rw [if_pos hk5] at e2
        refine SK (TN (SQ (BL (SQ ?_))))
        obtain ⟨c6, hxc6, e2⟩ := bnd e2
        obtain ⟨b7, hx8, e2⟩ := bnd e2
        refine RG (MV rfl rfl (MV rfl rfl (WR.idxRowSC H Tryz.underlying31 Tryz.sizeOf50 (List.Mem.head _) rfl rfl hxc6 (Wn.none rfl) rfl ?_)))
        intro gb hgb
        refine ST (Ex.loadRowA H rfl hgb (List.Mem.head _) (fun _ => rfl) hxc6 Tryz.isAgg50 Tryz.sizeOf50) rfl (WR.alloc [_, _] H Tryz.zeroValue50 rfl (Wn.none rfl) rfl ?_)
        intro b9 w H
        refine WR.store [_, _] H rfl rfl rfl (by repeat first | exact .head | apply Upd.tail) Tryz.sizeOf50 rfl (by rfl) (by rfl) (Wn.none rfl) ?_
        intro w H
        refine NL (TN (SQ (RG (MV rfl rfl (ST (Ex.loadAgg H rfl (by repeat (first | exact List.Mem.head _ | apply List.Mem.tail)) Tryz.isAgg50 Tryz.sizeOf50 (by rfl)) rfl ?_)))))
        refine WR.callF H (hp1 _ _ hx8) rfl rfl (Wn.none rfl) rfl ?_
        intro v15 M w H hle hR
        replace hp1 := hp1.mono hle
        obtain rfl := hR
        refine ST (Ex.not rfl) rfl (NL (TN ?_))
        refine WC.condB rfl (fun hk9 => ?_) (fun hk9 => ?_)
        · replace hk9 : b7 = false := by simpa using hk9
          subst hk9
          rw [if_neg Bool.false_ne_true] at e2
          obtain ⟨q2, hxq2, e2⟩ := bnd e2
          obtain ⟨i2, hxi2, e2⟩ := bnd e2
          refine SQ (RG (MV rfl rfl (MV rfl rfl (ST (Ex.loadAgg H rfl (by repeat (first | exact List.Mem.head _ | apply List.Mem.tail)) Tryz.isAgg50 Tryz.sizeOf50 (by rfl)) rfl ?_))))
          have hq0 := put_some hxq2
          have hxi : idx q i = some (q[i.toNat]'(by omega)) := by
            obtain ⟨k, hk⟩ := Int.eq_ofNat_of_zero_le hq0.1.1
            subst hk
            rw [idx_nat]; exact List.getElem?_eq_getElem _
          refine WR.idxRowSC H Tryz.underlying31 Tryz.sizeOf50 (by repeat (first | exact List.Mem.head _ | apply List.Mem.tail)) rfl rfl hxi (Wn.none rfl) rfl ?_
          intro gb2 hgb2
          refine WR.storeRowAC (a' := c6) H rfl rfl (xone50 _) hgb2 (fun _ => by repeat first | exact .head | apply Upd.tail) (fun _ => rfl) hxq2 Tryz.sizeOf50 (Wn.none rfl) ?_
          intro w H
          refine NL (TN (RG (MV rfl rfl (ST (Ex.addC rfl rfl hxi2) rfl (AS rfl rfl (NL (IB (TN ?_))))))))
          obtain ⟨j2, hxj2, e2⟩ := bnd e2
          refine RG (MV rfl rfl (ST (Ex.addC rfl rfl hxj2) rfl (AS rfl rfl (NL ?_))))
          exact WQ.againP m4 [(0, _), (1, _), (5, _), (6, _)] ⟨rfl, rfl, rfl, rfl, trivial⟩ ⟨_, _, _, _, rfl, (H.pick (L' := [RowS 50 2 xenc50 vp0 q2]) (by repeat (first | exact Pick.nil | refine Pick.cons (by repeat first | exact .head | apply Rem.tail) ?_))), hp1, e2⟩ (Nat.lt_succ_self _)
        · replace hk9 : b7 = true := by simpa using hk9
          subst hk9
          rw [if_pos rfl] at e2
          refine SK (IB (TN ?_))
          obtain ⟨j2, hxj2, e2⟩ := bnd e2
          refine RG (MV rfl rfl (ST (Ex.addC rfl rfl hxj2) rfl (AS rfl rfl (NL ?_))))
          exact WQ.againP m4 [(0, _), (1, _), (5, _), (6, _)] ⟨rfl, rfl, rfl, rfl, trivial⟩ ⟨_, _, _, _, rfl, (H.pick (L' := [RowS 50 2 xenc50 vp0 q]) (by repeat (first | exact Pick.nil | refine Pick.cons (by repeat first | exact .head | apply Rem.tail) ?_))), hp1, e2⟩ (Nat.lt_succ_self _)
      · replace hk5 : ¬ (j < (q.length : Int)) := of_decide_eq_false hk5
        rw [if_neg hk5] at e2
        refine WC.exit (WQ.thenExit (WQ.thenExit (WQ.exitHere ?_)))
        exact WQ.meetN [(0, _), (5, _)] ⟨rfl, rfl, trivial⟩ ⟨_, _, _, rfl, H, e2⟩
    · rintro e w ⟨q, i, M, rfl, H, q11⟩
      obtain rfl := Option.some.inj q11
      try dsimp only at h
      refine TN ?_
      obtain ⟨⟨c0, c1, c2⟩, rfl⟩ := cut_some h
      obtain ⟨k, rfl⟩ := Int.eq_ofNat_of_zero_le c1
      have hk : k ≤ q.length := by omega
      have hrow := H.rowOf (List.Mem.head _)
      refine SQ (RG (MV rfl rfl (MV rfl rfl ?_)))
      rcases hrow.2 with ⟨hv, hn⟩ | ⟨gb, cap, cur, hv, hb0, hg, d1, d3, d2, d4⟩
      · subst hv
        have hq : q = [] := List.eq_nil_of_length_eq_zero hn
        subst hq
        obtain rfl : k = 0 := by simpa using hk
        refine ST (Ex.sliceRow (kk := 2) (i := 0) (j := 0) Tryz.underlying31 Tryz.sizeOf50 rfl (Nat.le_refl _) (Nat.le_refl _) (Nat.le_refl _) (.inl ⟨_, rfl, rfl⟩) (.inr ⟨rfl, rfl⟩)) rfl (WR.stepN (Ex.clearNil Tryz.underlying31 rfl) (Wn.none rfl) rfl (NL (TN (SQ (RG (MV rfl rfl (MV rfl rfl (ST (Ex.sliceRow (kk := 2) (i := 0) (j := 0) Tryz.underlying31 Tryz.sizeOf50 rfl (Nat.le_refl _) (Nat.le_refl _) (Nat.le_refl _) (.inr ⟨rfl, rfl⟩) (.inl ⟨_, rfl, rfl⟩)) rfl (AS rfl rfl (NL (TN (RT ?_))))))))))))
        exact WQ.retX1 (its := [RowS 50 2 xenc50 (.slice none 0 0) []]) rfl rfl H (by repeat (first | exact Pick.nil | refine Pick.cons (by repeat first | exact .head | apply Rem.tail) ?_)) rfl
      · subst hv
        refine ST (Ex.sliceRow (kk := 2) (i := k) (j := q.length) Tryz.underlying31 Tryz.sizeOf50 rfl d1 hk (Nat.le_refl _) (.inl ⟨_, rfl, rfl⟩) (.inr ⟨rfl, rfl⟩)) rfl (WR.clearTail (q := q) (i := k) xty31 xz50 xh0 H hk (fun _ => Upd.head) rfl (fun hlt => by rw [if_neg (by omega)]; simp [Addr.add]; omega) (Wn.none rfl) ?_)
        intro w H
        refine NL (TN (SQ (RG (MV rfl rfl (MV rfl rfl (ST (Ex.sliceRow (kk := 2) (i := 0) (j := k) Tryz.underlying31 Tryz.sizeOf50 rfl d1 (Nat.zero_le _) hk (.inr ⟨rfl, rfl⟩) (.inl ⟨_, rfl, rfl⟩)) rfl (AS rfl rfl (NL (TN (RT ?_))))))))))
        have e1 : (Value.slice (if cap = 0 then some ⟨gb, 0, none⟩ else (some (⟨gb, 0, none⟩ : Addr)).map (fun a => a.add (0 * 2))) (k - 0) (cap - 0)) = .slice (some ⟨gb, 0, none⟩) k cap := by
          split <;> simp [Addr.add]
        rw [e1]
        exact WQ.retX1 (its := [RowS 50 2 xenc50 (.slice (some ⟨gb, 0, none⟩) k cap) (q.take k)]) rfl rfl H (by repeat (first | exact Pick.nil | refine Pick.cons (by repeat first | exact .head | apply Rem.tail) ?_)) (by rw [Int.toNat_natCast]; rfl)
theorem header_Without_ct {p0 : List (List UInt8 × List UInt8)} {p1 : List UInt8} {vp0 : Value} {r : (List (List UInt8 × List UInt8) × (Int × Int))} (h : header_Without p0 p1 = some r) : Ct Tryz.prog 29 [vp0, S p1] (fun M => SlS M 2 xenc50 vp0 p0) (fun v M => ∃ x0, v = Value.tuple #[x0, Value.agg #[I r.2.1, I r.2.2]] ∧ SlS M 2 xenc50 x0 r.1) := by
  refine Ct.of Tryz.func29 (enters Tryz.func29 (by kernel_rfl) rfl) rfl rfl rfl ?_
  intro w0 M0 H hp
  have hp0 := hp
  unfold header_Without at h
  refine SQ (RG (WR.box [_] H rfl rfl (Wn.none rfl) rfl ?_))
  intro b3 w H
  refine AS rfl rfl (WR.alloc [_, _] H Tryz.zeroValue24 rfl (Wn.none rfl) rfl ?_)
  intro b5 w H
  refine NL (TN (SQ (SQ ?_)))
  obtain ⟨⟨n1, n2⟩, hx3, h⟩ := bnd h
  try dsimp only at h
  refine RG (MV rfl rfl (ST (Ex.load1 H rfl (by repeat (first | exact List.Mem.head _ | apply List.Mem.tail)) Tryz.isAgg9 (by rfl)) rfl ?_))
  refine WR.call H (header_valid_ct hx3) rfl (hp0) (Wn.none rfl) rfl ?_
  intro v9 M w H hle hR
  replace hp0 := hp0.mono hle
  try dsimp only at hR
  obtain rfl := hR
  refine WR.alloc [_, _] H Tryz.zeroValue24 rfl (Wn.none rfl) rfl ?_
  intro b6 w H
  refine WR.store [_, _] H rfl rfl rfl (by repeat first | exact .head | apply Upd.tail) Tryz.sizeOf24 rfl (by rfl) (by rfl) (Wn.none rfl) ?_
  intro w H
  refine NL (TN (SQ ?_))
  obtain ⟨b4, hx5, h⟩ := bnd h
  refine RG (ST (Ex.loadAgg H rfl (by repeat (first | exact List.Mem.head _ | apply List.Mem.tail)) Tryz.isAgg24 Tryz.sizeOf24 (by rfl)) rfl ?_)
  refine WR.call H (basic_Failed_ct hx5) rfl trivial (Wn.none rfl) rfl ?_
  intro v11 M w H hle hR
  replace hp0 := hp0.mono hle
  obtain rfl := hR
  refine NL (TN ?_)
  refine WC.condB rfl (fun hk6 => ?_) (fun hk6 => ?_)
  ·
   subst hk6
   rw [if_pos rfl] at h
   refine SQ (WC.draw (m := 3) rfl rfl H ?_)
   intro w H
   refine WA.take (i := 1) rfl (by kernel_rfl) (by kernel_rfl) (by kernel_rfl) (fun _ => Ex.assign rfl) (Wn.none rfl) rfl rfl (fun _ _ => rfl) (WA.seq (fuel := 0) [0, 2] rfl (by kernel_rfl) (ST (Ex.loadAgg H rfl (by repeat (first | exact List.Mem.head _ | apply List.Mem.tail)) Tryz.isAgg24 Tryz.sizeOf24 (by rfl)) rfl ?_))
   refine WR.store [_, _] H rfl rfl rfl (by repeat first | exact .head | apply Upd.tail) Tryz.sizeOf24 rfl (by rfl) (by rfl) (Wn.none rfl) ?_
   intro w H
   refine NA (WA.done (by kernel_rfl) (TN (RT ?_)))
   obtain rfl := Option.some.inj h
   exact WQ.ret2 rfl rfl ⟨_, rfl, H.loadAgg (by repeat (first | exact List.Mem.head _ | apply List.Mem.tail)) Tryz.isAgg24 Tryz.sizeOf24 (by rfl)⟩ H.ext (⟨_, rfl, SlS.nil _ _ (fun _ => rfl)⟩)
  ·
   subst hk6
   rw [if_neg Bool.false_ne_true] at h
   refine SK (TN (SQ ?_))
   obtain ⟨lc, hlc, h⟩ := bnd h
   obtain ⟨ld, hld, h⟩ := bnd h
   obtain ⟨⟨n7, n8⟩, hxn, h⟩ := bnd h
   try dsimp only at h
   obtain ⟨M, hle, hp1, H⟩ := H.freezeVar (cs := #[S p1]) (b := b3) (t := 9) (by repeat first | exact .head | apply Rem.tail)
   replace hp0 := hp0.mono hle
   refine RG (MV rfl rfl (WR.callO H (clone_ct hlc) rfl hp0 (Wn.none rfl) rfl ?_))
   intro v14 M w its H hle hR
   replace hp0 := hp0.mono hle
   replace hp1 := hp1.mono hle
   subst hR
   refine ST (Ex.makeFunc rfl) rfl ?_
   have hfn : FnF M (.func (.func 71) #[] #[ptr b3 0]) (fun x => header_Without_1 x p1) := fun a0 r0 hr0 => FnV.ofCap [ptr b3 0] (header_Without_1_ct (bp1 := b3) hr0) (fun M' hl => hp1.mono hl)
   refine WR.callX H (delFunc_ct hld) (.left (Spl.all _)) rfl hfn (Wn.none rfl) rfl ?_
   intro v16 M w its H hle hR
   replace hp0 := hp0.mono hle
   subst hR
   refine WR.call H (basic_None_ct hxn) rfl trivial (Wn.none rfl) rfl ?_
   intro v17 M w H hle hR
   try dsimp only at hR
   obtain rfl := hR
   refine AS rfl rfl (WR.store [_, _] H rfl rfl rfl (by repeat first | exact .head | apply Upd.tail) Tryz.sizeOf24 rfl (by rfl) (by rfl) (Wn.none rfl) ?_)
   intro w H
   refine NL (TN (RT ?_))
   obtain ⟨M, hle, hs30, H⟩ := H.freezeRowS (v := v16) (enc := xenc50) (t := 50) (by repeat first | exact .head | apply Rem.tail) xh0
   obtain rfl := Option.some.inj h
   exact WQ.ret2 rfl rfl ⟨_, rfl, H.loadAgg (by repeat (first | exact List.Mem.head _ | apply List.Mem.tail)) Tryz.isAgg24 Tryz.sizeOf24 (by rfl)⟩ H.ext (⟨_, rfl, hs30⟩)
theorem bytes_Equal_ct {p0 : List UInt8} {p1 : List UInt8} {vp0 : Value} {vp1 : Value} {r : Bool} (h : bytes_Equal p0 p1 = some r) : Ct Tryz.prog 169 [vp0, vp1] (fun M => Sl M encB vp0 p0 ∧ Sl M encB vp1 p1) (fun v M => v = Value.bool r) := by
  refine Ct.of Tryz.func169 (enters Tryz.func169 (by kernel_rfl) rfl) rfl rfl rfl ?_
  intro w0 M0 H hp
  obtain ⟨hp0, hp1⟩ := hp
  unfold bytes_Equal at h
  refine SQ (RG (AS rfl rfl (NL (TN (SQ (RG (MV rfl rfl (ST (Ex.toStr Tryz.underlying30 Tryz.underlying5 Tryz.underlying9 H (hp0) rfl) rfl (MV rfl rfl (ST (Ex.toStr Tryz.underlying30 Tryz.underlying5 Tryz.underlying9 H (hp1) rfl) rfl (ST (Ex.strEql rfl rfl) rfl (AS rfl rfl (NL (TN (RT ?_)))))))))))))))
  obtain rfl := Option.some.inj h
  exact WQ.ret1 rfl rfl H.ext rfl
theorem bytes_HasSuffix_ct {p0 : List UInt8} {p1 : List UInt8} {vp0 : Value} {vp1 : Value} {r : Bool} (h : bytes_HasSuffix p0 p1 = some r) : Ct Tryz.prog 143 [vp0, vp1] (fun M => Sl M encB vp0 p0 ∧ Sl M encB vp1 p1) (fun v M => v = Value.bool r) := by
  refine Ct.of Tryz.func143 (enters Tryz.func143 (by kernel_rfl) rfl) rfl rfl rfl ?_
  intro w0 M0 H hp
  obtain ⟨hp0, hp1⟩ := hp
  unfold bytes_HasSuffix at h
  refine SQ (RG (AS rfl rfl (NL (TN (SQ ?_)))))
  obtain ⟨o1, e2, h⟩ := bnd h
  refine WC.cutX (fun e w => ∃ (b3 : Bool) (M : Mem), e = [(4, Value.bool b3)] ∧ St w0 M0 M [] w ∧ some b3 = some o1) [] ?_ ?_ (trivial)
  ·
   refine RG (MV rfl rfl (ST (Ex.lenSl Tryz.underlying30 hp0 rfl) rfl (MV rfl rfl (ST (Ex.lenSl Tryz.underlying30 hp1 rfl) rfl ?_))))
   by_cases hk4 : (p1.length : Int) ≤ (p0.length : Int)
   ·
    rw [if_pos hk4] at e2
    obtain ⟨n5, hxn5, e2⟩ := bnd e2
    obtain ⟨l6, hxl6, e2⟩ := bnd e2
    obtain ⟨b7, hx8, e2⟩ := bnd e2
    refine WR.stepE (v' := .bool true) (Ex.geq rfl rfl) (congrArg Value.bool (decide_eq_true hk4)) (Wn.none rfl) rfl rfl (MV rfl rfl (SG (Ex.move rfl) rfl rfl rfl (SG (Ex.move rfl) rfl rfl rfl (SG (Ex.lenSl Tryz.underlying30 hp0 rfl) rfl rfl rfl (SG (Ex.move rfl) rfl rfl rfl (SG (Ex.lenSl Tryz.underlying30 hp1 rfl) rfl rfl rfl (SG (Ex.subC rfl rfl hxn5) rfl rfl rfl (WR.sliceL Tryz.underlying30 Tryz.sizeOf5 (hp0) rfl rfl hxl6 (Wn.some rfl rfl rfl) rfl ?_))))))))
    intro v17 hs17
    refine SG (Ex.move rfl) rfl rfl rfl (WR.call H (bytes_Equal_ct hx8) rfl ⟨hs17, hp1⟩ (Wn.some rfl rfl rfl) rfl ?_)
    intro v19 M w H hle hR
    replace hp0 := hp0.mono hle
    replace hp1 := hp1.mono hle
    replace hs17 := hs17.mono hle
    obtain rfl := hR
    refine PT rfl rfl rfl (AS rfl rfl (NL ?_))
    exact WQ.meetN [(4, _)] ⟨rfl, trivial⟩ ⟨_, _, rfl, H, e2⟩
   ·
    rw [if_neg hk4] at e2
    refine WR.stepE (v' := .bool false) (Ex.geq rfl rfl) (congrArg Value.bool (decide_eq_false hk4)) (Wn.none rfl) rfl rfl (MV rfl rfl (WR.skipN 9 rfl rfl (PF rfl rfl rfl (AS rfl rfl (NL ?_)))))
    exact WQ.meetN [(4, _)] ⟨rfl, trivial⟩ ⟨_, _, rfl, H, e2⟩
  ·
   rintro e w ⟨b3, M, rfl, H, q9⟩
   obtain rfl := Option.some.inj q9
   refine TN (RT ?_)
   obtain rfl := Option.some.inj h
   exact WQ.ret1 rfl rfl H.ext rfl
theorem bytes_TrimSuffix_ct {p0 : List UInt8} {p1 : List UInt8} {vp0 : Value} {vp1 : Value} {r : List UInt8} (h : bytes_TrimSuffix p0 p1 = some r) : Ct Tryz.prog 103 [vp0, vp1] (fun M => Sl M encB vp0 p0 ∧ Sl M encB vp1 p1) (fun v M => Sl M encB v r) := by
  refine Ct.of Tryz.func103 (enters Tryz.func103 (by kernel_rfl) rfl) rfl rfl rfl ?_
  intro w0 M0 H hp
  obtain ⟨hp0, hp1⟩ := hp
  unfold bytes_TrimSuffix at h
  refine SQ (RG (AS rfl rfl (NL (TN (SQ (SQ ?_))))))
  obtain ⟨b1, hx2, h⟩ := bnd h
  refine RG (MV rfl rfl (MV rfl rfl (WR.call H (bytes_HasSuffix_ct hx2) rfl ⟨hp0, hp1⟩ (Wn.none rfl) rfl ?_)))
  intro v7 M w H hle hR
  replace hp0 := hp0.mono hle
  replace hp1 := hp1.mono hle
  obtain rfl := hR
  refine NL (TN ?_)
  refine WC.condB rfl (fun hk3 => ?_) (fun hk3 => ?_)
  ·
   subst hk3
   rw [if_pos rfl] at h
   refine SQ ?_
   obtain ⟨n4, hxn4, h⟩ := bnd h
   obtain ⟨l5, hxl5, h⟩ := bnd h
   refine RG (MV rfl rfl (MV rfl rfl (ST (Ex.lenSl Tryz.underlying30 hp0 rfl) rfl (MV rfl rfl (ST (Ex.lenSl Tryz.underlying30 hp1 rfl) rfl (ST (Ex.subC rfl rfl hxn4) rfl (WR.sliceH Tryz.underlying30 Tryz.sizeOf5 (hp0) rfl rfl hxl5 (Wn.none rfl) rfl ?_)))))))
   intro v14 hs14
   refine AS rfl rfl (NL (TN (RT ?_)))
   obtain rfl := Option.some.inj h
   exact WQ.ret1 rfl rfl H.ext hs14
  ·
   subst hk3
   rw [if_neg Bool.false_ne_true] at h
   refine SK (TN (SQ (RG (MV rfl rfl (AS rfl rfl (NL (TN (RT ?_))))))))
   obtain rfl := Option.some.inj h
   exact WQ.ret1 rfl rfl H.ext hp0
theorem header_line_ct {p0 : List UInt8} {vp0 : Value} {r : (List UInt8 × Int)} (h : header_line p0 = some r) : Ct Tryz.prog 57 [vp0] (fun M => Sl M encB vp0 p0) (fun v M => v = Value.tuple #[S r.1, I r.2]) := by
  refine Ct.of Tryz.func57 (enters Tryz.func57 (by kernel_rfl) rfl) rfl rfl rfl ?_
  intro w0 M0 H hp
  have hp0 := hp
  unfold header_line at h
  refine SQ (RG (AS rfl rfl (AS rfl rfl (NL (TN (SQ ?_))))))
  obtain ⟨n1, hx2, h⟩ := bnd h
  refine RG (MV rfl rfl (WR.call H (bytes_IndexByte_ct hx2) rfl (hp0) (Wn.none rfl) rfl ?_))
  intro v6 M w H hle hR
  replace hp0 := hp0.mono hle
  obtain rfl := hR
  refine AS rfl rfl (NL (TN (SQ (SQ (RG (MV rfl rfl (ST (Ex.lss rfl rfl) rfl (NL (TN ?_)))))))))
  refine WC.condB rfl (fun hk3 => ?_) (fun hk3 => ?_)
  ·
   replace hk3 : n1 < (0 : Int) := of_decide_eq_true hk3
   rw [if_pos hk3] at h
   refine SQ (RG (MV rfl rfl (ST (Ex.toStr Tryz.underlying30 Tryz.underlying5 Tryz.underlying9 H (hp0) rfl) rfl (MV rfl rfl (ST (Ex.lenSl Tryz.underlying30 hp0 rfl) rfl (AS rfl rfl (AS rfl rfl (NL (TN (RT ?_))))))))))
   obtain rfl := Option.some.inj h
   exact WQ.ret2 rfl rfl rfl H.ext rfl
  ·
   replace hk3 : ¬ (n1 < (0 : Int)) := of_decide_eq_false hk3
   rw [if_neg hk3] at h
   refine SK (TN (SQ ?_))
   obtain ⟨l4, hxl4, h⟩ := bnd h
   obtain ⟨l5, hx6, h⟩ := bnd h
   obtain ⟨n7, hxn7, h⟩ := bnd h
   refine RG (MV rfl rfl (MV rfl rfl (WR.sliceH Tryz.underlying30 Tryz.sizeOf5 (hp0) rfl rfl hxl4 (Wn.none rfl) rfl ?_)))
   intro v15 hs15
   refine WR.litC xty30 Tryz.underlying5 ([13] : List UInt8) H rfl (by rfl) rfl rfl (Wn.none rfl) rfl (fun _ => Wn.none rfl) rfl ?_
   intro v17 M w H hle hs17
   replace hp0 := hp0.mono hle
   replace hs15 := hs15.mono hle
   refine WR.call H (bytes_TrimSuffix_ct hx6) rfl ⟨hs15, hs17⟩ (Wn.none rfl) rfl ?_
   intro v18 M w H hle hR
   replace hp0 := hp0.mono hle
   replace hs15 := hs15.mono hle
   replace hs17 := hs17.mono hle
   have f18_0 := hR
   refine ST (Ex.toStr Tryz.underlying30 Tryz.underlying5 Tryz.underlying9 H (f18_0) rfl) rfl (MV rfl rfl (ST (Ex.addC rfl rfl hxn7) rfl (AS rfl rfl (AS rfl rfl (NL (TN (RT ?_)))))))
   obtain rfl := Option.some.inj h
   exact WQ.ret2 rfl rfl rfl H.ext rfl
theorem stringslite_Cut_ct {p0 : List UInt8} {p1 : List UInt8} {r : (List UInt8 × List UInt8 × Bool)} (h : stringslite_Cut p0 p1 = some r) : Ct Tryz.prog 121 [S p0, S p1] (fun M => GlF (fun w => ∃ m, w.cell? ⟨2, 0, none⟩ = some (.int .i64 m)) M) (fun v M => v = Value.tuple #[S r.1, S r.2.1, Value.bool r.2.2]) := by
  refine Ct.of Tryz.func121 (enters Tryz.func121 (by kernel_rfl) rfl) rfl rfl rfl ?_
  intro w0 M0 H hp
  have hg_maxl := hp
  unfold stringslite_Cut at h
  refine SQ (RG (AS rfl rfl (AS rfl rfl (AS rfl rfl (NL (TN (SQ (SQ ?_))))))))
  obtain ⟨n1, hx2, h⟩ := bnd h
  refine RG (MV rfl rfl (MV rfl rfl (WR.call H (stringslite_Index_ct hx2) rfl (hg_maxl) (Wn.none rfl) rfl ?_)))
  intro v10 M w H hle hR
  replace hg_maxl := hg_maxl.mono hle
  obtain rfl := hR
  refine AS rfl rfl (NL (TN (SQ (RG (MV rfl rfl (ST (Ex.geq rfl rfl) rfl (NL (TN ?_))))))))
  refine WC.condB rfl (fun hk3 => ?_) (fun hk3 => ?_)
  ·
   replace hk3 : (0 : Int) ≤ n1 := of_decide_eq_true hk3
   rw [if_pos hk3] at h
   refine SQ ?_
   obtain ⟨s4, hxs4, h⟩ := bnd h
   obtain ⟨n5, hxn5, h⟩ := bnd h
   obtain ⟨s6, hxs6, h⟩ := bnd h
   refine WC.draw (m := 12) rfl rfl H ?_
   intro w H
   refine WA.take (i := 0) rfl (by kernel_rfl) (by kernel_rfl) (by kernel_rfl) (fun _ => Ex.move rfl) (Wn.none rfl) rfl rfl (fun _ _ => rfl) (WA.take (i := 1) rfl (by kernel_rfl) (by kernel_rfl) (by kernel_rfl) (fun _ => Ex.move rfl) (Wn.none rfl) rfl rfl (fun _ _ => rfl) (WA.take (i := 2) rfl (by kernel_rfl) (by kernel_rfl) (by kernel_rfl) (fun _ => Ex.sliceH Tryz.underlying9 rfl rfl hxs4) (Wn.none rfl) rfl rfl (fun _ _ => rfl) (WA.take (i := 3) rfl (by kernel_rfl) (by kernel_rfl) (by kernel_rfl) (fun _ => Ex.move rfl) (Wn.none rfl) rfl rfl (fun _ _ => rfl) (WA.take (i := 4) rfl (by kernel_rfl) (by kernel_rfl) (by kernel_rfl) (fun _ => Ex.move rfl) (Wn.none rfl) rfl rfl (fun _ _ => rfl) (WA.take (i := 5) rfl (by kernel_rfl) (by kernel_rfl) (by kernel_rfl) (fun _ => Ex.move rfl) (Wn.none rfl) rfl rfl (fun _ _ => rfl) (WA.take (i := 6) rfl (by kernel_rfl) (by kernel_rfl) (by kernel_rfl) (fun _ => Ex.lenStr Tryz.underlying9 rfl) (Wn.none rfl) rfl rfl (fun _ _ => rfl) ?_))))))
   refine WA.take (i := 7) rfl (by kernel_rfl) (by kernel_rfl) (by kernel_rfl) (fun _ => Ex.addC rfl rfl hxn5) (Wn.none rfl) rfl rfl (fun _ _ => rfl) (WA.take (i := 8) rfl (by kernel_rfl) (by kernel_rfl) (by kernel_rfl) (fun _ => Ex.sliceL Tryz.underlying9 rfl rfl hxs6) (Wn.none rfl) rfl rfl (fun _ _ => rfl) (WA.seq (fuel := 0) [9, 10, 11] rfl (by kernel_rfl) (AS rfl rfl (AS rfl rfl (AS rfl rfl (NA (WA.done (by kernel_rfl) (TN (RT ?_)))))))))
   obtain rfl := Option.some.inj h
   exact WQ.ret3 rfl rfl rfl rfl H.ext rfl
  ·
   replace hk3 : ¬ ((0 : Int) ≤ n1) := of_decide_eq_false hk3
   rw [if_neg hk3] at h
   refine SK (TN (SQ (RG (MV rfl rfl (AS rfl rfl (AS rfl rfl (AS rfl rfl (NL (TN (RT ?_))))))))))
   obtain rfl := Option.some.inj h
   exact WQ.ret3 rfl rfl rfl rfl H.ext rfl
theorem strings_Cut_ct {p0 : List UInt8} {p1 : List UInt8} {r : (List UInt8 × List UInt8 × Bool)} (h : strings_Cut p0 p1 = some r) : Ct Tryz.prog 77 [S p0, S p1] (fun M => GlF (fun w => ∃ m, w.cell? ⟨2, 0, none⟩ = some (.int .i64 m)) M) (fun v M => v = Value.tuple #[S r.1, S r.2.1, Value.bool r.2.2]) := by
  refine Ct.of Tryz.func77 (enters Tryz.func77 (by kernel_rfl) rfl) rfl rfl rfl ?_
  intro w0 M0 H hp
  have hg_maxl := hp
  unfold strings_Cut at h
  refine SQ (RG (AS rfl rfl (AS rfl rfl (AS rfl rfl (NL (TN (SQ ?_)))))))
  obtain ⟨⟨s1, s2, b3⟩, hx4, h⟩ := bnd h
  try dsimp only at h
  refine RG (MV rfl rfl (MV rfl rfl (WR.call H (stringslite_Cut_ct hx4) rfl (hg_maxl) (Wn.none rfl) rfl ?_)))
  intro v9 M w H hle hR
  replace hg_maxl := hg_maxl.mono hle
  try dsimp only at hR
  obtain rfl := hR
  refine ST (Ex.extract rfl rfl) rfl (ST (Ex.extract rfl rfl) rfl (ST (Ex.extract rfl rfl) rfl (AS rfl rfl (AS rfl rfl (AS rfl rfl (NL (TN (RT ?_))))))))
  obtain rfl := Option.some.inj h
  exact WQ.ret3 rfl rfl rfl rfl H.ext rfl
theorem strings_trimRightByte_ct {p0 : List UInt8} {p1 : UInt8} {r : List UInt8} (h : strings_trimRightByte p0 p1 = some r) : Ct Tryz.prog 107 [S p0, encB p1] (fun M => True) (fun v M => v = S r) := by
  refine Ct.of Tryz.func107 (enters Tryz.func107 (by kernel_rfl) rfl) rfl rfl rfl ?_
  intro w0 M0 H hp
  unfold strings_trimRightByte at h
  refine SQ (RG (AS rfl rfl (NL (TN (SQ ?_)))))
  obtain ⟨o1, e2, h⟩ := bnd h
  refine WC.cutX (fun e w => ∃ (s3 : List UInt8) (M : Mem), e = [(0, S s3)] ∧ St w0 M0 M [] w ∧ some s3 = some o1) [] ?_ ?_ (trivial)
  ·
   refine BL (WC.loopP (fun m e w => ∃ (s4 : List UInt8) (M : Mem), e = [(0, S s4), (1, encB p1)] ∧ St w0 M0 M [] w ∧ strings_trimRightByte_L1 p1 m s4 = some o1) FU [(0, _), (1, _)] ⟨rfl, rfl, trivial⟩ ⟨_, _, rfl, H, e2⟩ ?_)
   rintro m5 e w ⟨s4, M, rfl, H, e2⟩
   rcases m5 with _ | m5
   · rw [strings_trimRightByte_L1] at e2; cases e2
   rw [strings_trimRightByte_L1] at e2
   refine SQ (SQ ?_)
   obtain ⟨o6, e7, e2⟩ := bnd e2
   refine WC.cutX (fun e w => ∃ (b8 : Bool) (M : Mem), e = [(0, S s4), (1, encB p1), (16, Value.bool b8)] ∧ St w0 M0 M [] w ∧ some b8 = some o6) [] ?_ ?_ (trivial)
   ·
    refine RG (MV rfl rfl (ST (Ex.lenStr Tryz.underlying9 rfl) rfl ?_))
    by_cases hk9 : (0 : Int) < (s4.length : Int)
    ·
     rw [if_pos hk9] at e7
     obtain ⟨n10, hxn10, e7⟩ := bnd e7
     obtain ⟨c11, hxc11, e7⟩ := bnd e7
     refine WR.stepE (v' := .bool true) (Ex.gtr rfl rfl) (congrArg Value.bool (decide_eq_true hk9)) (Wn.none rfl) rfl rfl (MV rfl rfl (SG (Ex.move rfl) rfl rfl rfl (SG (Ex.move rfl) rfl rfl rfl (SG (Ex.lenStr Tryz.underlying9 rfl) rfl rfl rfl (SG (Ex.subC rfl rfl hxn10) rfl rfl rfl (SG (Ex.idxStrC Tryz.underlying9 rfl rfl hxc11) rfl rfl rfl (SG (Ex.move rfl) rfl rfl rfl (SG (Ex.eqlB (c := c11) (d := p1) rfl rfl) rfl rfl rfl (PT rfl rfl rfl (NL ?_))))))))))
     exact WQ.meetN [(0, _), (1, _), (16, _)] ⟨rfl, rfl, rfl, trivial⟩ ⟨_, _, rfl, H, e7⟩
    ·
     rw [if_neg hk9] at e7
     refine WR.stepE (v' := .bool false) (Ex.gtr rfl rfl) (congrArg Value.bool (decide_eq_false hk9)) (Wn.none rfl) rfl rfl (MV rfl rfl (WR.skipN 7 rfl rfl (PF rfl rfl rfl (NL ?_))))
     exact WQ.meetN [(0, _), (1, _), (16, _)] ⟨rfl, rfl, rfl, trivial⟩ ⟨_, _, rfl, H, e7⟩
   ·
    rintro e w ⟨b8, M, rfl, H, q12⟩
    obtain rfl := Option.some.inj q12
    refine TN ?_
    refine WC.condB rfl (fun hk13 => ?_) (fun hk13 => ?_)
    ·
     subst hk13
     rw [if_pos rfl] at e2
     refine SK (TN (BL ?_))
     obtain ⟨n14, hxn14, e2⟩ := bnd e2
     obtain ⟨s15, hxs15, e2⟩ := bnd e2
     refine RG (MV rfl rfl (MV rfl rfl (ST (Ex.lenStr Tryz.underlying9 rfl) rfl (ST (Ex.subC rfl rfl hxn14) rfl (ST (Ex.sliceH Tryz.underlying9 rfl rfl hxs15) rfl (AS rfl rfl (NL (IB ?_))))))))
     exact WQ.againP m5 [(0, _), (1, _)] ⟨rfl, rfl, trivial⟩ ⟨_, _, rfl, H, e2⟩ (Nat.lt_succ_self _)
    ·
     subst hk13
     rw [if_neg Bool.false_ne_true] at e2
     refine WC.exit (WQ.thenExit (WQ.thenExit (WQ.exitHere ?_)))
     exact WQ.meetN [(0, _)] ⟨rfl, trivial⟩ ⟨_, _, rfl, H, e2⟩
  ·
   rintro e w ⟨s3, M, rfl, H, q16⟩
   obtain rfl := Option.some.inj q16
   refine TN (SQ (RG (MV rfl rfl (AS rfl rfl (NL (TN (RT ?_)))))))
   obtain rfl := Option.some.inj h
   exact WQ.ret1 rfl rfl H.ext rfl
theorem strings_trimRightASCII_ct {p0 : List UInt8} {p1 : List Bool} {bp1 : Nat} {r : List UInt8} (h : strings_trimRightASCII p0 p1 = some r) : Ct Tryz.prog 110 [S p0, ptr bp1 0] (fun M => PtM M bp1 (.cells (List.map encBo p1).toArray 142)) (fun v M => v = S r) := by
  refine Ct.of Tryz.func110 (enters Tryz.func110 (by kernel_rfl) rfl) rfl rfl rfl ?_
  intro w0 M0 H hp
  have hp1 := hp
  unfold strings_trimRightASCII at h
  refine SQ (RG (AS rfl rfl (NL (TN (SQ ?_)))))
  obtain ⟨o1, e2, h⟩ := bnd h
  refine WC.cutX (fun e w => ∃ (s3 : List UInt8) (M : Mem), e = [(0, S s3)] ∧ St w0 M0 M [] w ∧ some s3 = some o1) [] ?_ ?_ (trivial)
  ·
   refine BL (WC.loopP (fun m e w => ∃ (s4 : List UInt8) (M : Mem), e = [(0, S s4), (1, ptr bp1 0)] ∧ St w0 M0 M [] w ∧ PtM M bp1 (.cells (List.map encBo p1).toArray 142) ∧ strings_trimRightASCII_L1 p1 m s4 = some o1) FU [(0, _), (1, _)] ⟨rfl, rfl, trivial⟩ ⟨_, _, rfl, H, hp1, e2⟩ ?_)
   rintro m5 e w ⟨s4, M, rfl, H, hp1, e2⟩
   rcases m5 with _ | m5
   · rw [strings_trimRightASCII_L1] at e2; cases e2
   rw [strings_trimRightASCII_L1] at e2
   refine SQ (SQ (RG (MV rfl rfl (ST (Ex.lenStr Tryz.underlying9 rfl) rfl (ST (Ex.gtr rfl rfl) rfl (NL (TN ?_)))))))
   refine WC.condB rfl (fun hk6 => ?_) (fun hk6 => ?_)
   ·
    replace hk6 : (0 : Int) < (s4.length : Int) := of_decide_eq_true hk6
    rw [if_pos hk6] at e2
    refine SK (TN (BL (SQ (SQ ?_))))
    obtain ⟨n7, hxn7, e2⟩ := bnd e2
    obtain ⟨c8, hxc8, e2⟩ := bnd e2
    obtain ⟨b9, hx10, e2⟩ := bnd e2
    refine RG (MV rfl rfl (MV rfl rfl (MV rfl rfl (ST (Ex.lenStr Tryz.underlying9 rfl) rfl (ST (Ex.subC rfl rfl hxn7) rfl (ST (Ex.idxStrC Tryz.underlying9 rfl rfl hxc8) rfl (WR.call H (strings_asciiSet_contains_ct hx10) rfl (hp1) (Wn.none rfl) rfl ?_)))))))
    intro v14 M w H hle hR
    replace hp1 := hp1.mono hle
    obtain rfl := hR
    refine ST (Ex.not rfl) rfl (NL (TN ?_))
    refine WC.condB rfl (fun hk11 => ?_) (fun hk11 => ?_)
    ·
     replace hk11 : b9 = false := by simpa using hk11
     subst hk11
     rw [if_neg Bool.false_ne_true] at e2
     refine WC.exit (WQ.thenExit (WQ.exitOut rfl (WQ.thenExit (WQ.exitHere ?_))))
     exact WQ.meetN [(0, _)] ⟨rfl, trivial⟩ ⟨_, _, rfl, H, e2⟩
    ·
     replace hk11 : b9 = true := by simpa using hk11
     subst hk11
     rw [if_pos rfl] at e2
     refine SK (TN ?_)
     obtain ⟨n12, hxn12, e2⟩ := bnd e2
     obtain ⟨s13, hxs13, e2⟩ := bnd e2
     refine RG (MV rfl rfl (MV rfl rfl (ST (Ex.lenStr Tryz.underlying9 rfl) rfl (ST (Ex.subC rfl rfl hxn12) rfl (ST (Ex.sliceH Tryz.underlying9 rfl rfl hxs13) rfl (AS rfl rfl (NL (IB ?_))))))))
     exact WQ.againP m5 [(0, _), (1, _)] ⟨rfl, rfl, trivial⟩ ⟨_, _, rfl, H, hp1, e2⟩ (Nat.lt_succ_self _)
   ·
    replace hk6 : ¬ ((0 : Int) < (s4.length : Int)) := of_decide_eq_false hk6
    rw [if_neg hk6] at e2
    refine WC.exit (WQ.thenExit (WQ.thenExit (WQ.exitHere ?_)))
    exact WQ.meetN [(0, _)] ⟨rfl, trivial⟩ ⟨_, _, rfl, H, e2⟩
  ·
   rintro e w ⟨s3, M, rfl, H, q14⟩
   obtain rfl := Option.some.inj q14
   refine TN (SQ (RG (MV rfl rfl (AS rfl rfl (NL (TN (RT ?_)))))))
   obtain rfl := Option.some.inj h
   exact WQ.ret1 rfl rfl H.ext rfl
theorem strings_TrimRight_ct {p0 : List UInt8} {p1 : List UInt8} {r : List UInt8} (h : strings_TrimRight p0 p1 = some r) : Ct Tryz.prog 104 [S p0, S p1] (fun M => True) (fun v M => v = S r) := by
  refine Ct.of Tryz.func104 (enters Tryz.func104 (by kernel_rfl) rfl) rfl rfl rfl ?_
  intro w0 M0 H hp
  unfold strings_TrimRight at h
  refine SQ (RG (AS rfl rfl (NL (TN (SQ (SQ ?_))))))
  obtain ⟨o1, e2, h⟩ := bnd h
  refine WC.cutX (fun e w => ∃ (b3 : Bool) (M : Mem), e = [(0, S p0), (1, S p1), (12, Value.bool b3)] ∧ St w0 M0 M [] w ∧ some b3 = some o1) [] ?_ ?_ (trivial)
  ·
   by_cases hk4 : p0 = []
   ·
    rw [if_pos hk4] at e2
    refine RG (MV rfl rfl (WR.stepE (v' := .bool true) (Ex.strEql rfl rfl) (congrArg Value.bool (decide_eq_true hk4)) (Wn.none rfl) rfl rfl (MV rfl rfl (GT rfl rfl rfl (GT rfl rfl rfl (PT rfl rfl rfl (NL ?_)))))))
    exact WQ.meetN [(0, _), (1, _), (12, _)] ⟨rfl, rfl, rfl, trivial⟩ ⟨_, _, rfl, H, e2⟩
   ·
    rw [if_neg hk4] at e2
    refine RG (MV rfl rfl (WR.stepE (v' := .bool false) (Ex.strEql rfl rfl) (congrArg Value.bool (decide_eq_false hk4)) (Wn.none rfl) rfl rfl (MV rfl rfl (SG (Ex.move rfl) rfl rfl rfl (SG (Ex.strEql rfl rfl) rfl rfl rfl (PF rfl rfl rfl (NL ?_)))))))
    exact WQ.meetN [(0, _), (1, _), (12, _)] ⟨rfl, rfl, rfl, trivial⟩ ⟨_, _, rfl, H, e2⟩
  ·
   rintro e w ⟨b3, M, rfl, H, q5⟩
   obtain rfl := Option.some.inj q5
   refine TN ?_
   refine WC.condB rfl (fun hk6 => ?_) (fun hk6 => ?_)
   ·
    subst hk6
    rw [if_pos rfl] at h
    refine SQ (RG (MV rfl rfl (AS rfl rfl (NL (TN (RT ?_))))))
    obtain rfl := Option.some.inj h
    exact WQ.ret1 rfl rfl H.ext rfl
   ·
    subst hk6
    rw [if_neg Bool.false_ne_true] at h
    refine SK (TN (SQ (SQ ?_)))
    obtain ⟨o7, e8, h⟩ := bnd h
    refine WC.cutX (fun e w => ∃ (b9 : Bool) (M : Mem), e = [(0, S p0), (1, S p1), (21, Value.bool b9)] ∧ St w0 M0 M [] w ∧ some b9 = some o7) [] ?_ ?_ (trivial)
    ·
     refine RG (MV rfl rfl (ST (Ex.lenStr Tryz.underlying9 rfl) rfl ?_))
     by_cases hk10 : (p1.length : Int) = (1 : Int)
     ·
      rw [if_pos hk10] at e8
      obtain ⟨c11, hxc11, e8⟩ := bnd e8
      refine WR.stepE (v' := .bool true) (Ex.eql rfl rfl) (congrArg Value.bool (decide_eq_true hk10)) (Wn.none rfl) rfl rfl (MV rfl rfl (SG (Ex.move rfl) rfl rfl rfl (SG (Ex.idxStrC Tryz.underlying9 rfl rfl hxc11) rfl rfl rfl (SG (Ex.lssB (i := c11.toNat) (j := 128) rfl rfl) rfl rfl rfl (PT rfl rfl rfl (NL ?_))))))
      exact WQ.meetN [(0, _), (1, _), (21, _)] ⟨rfl, rfl, rfl, trivial⟩ ⟨_, _, rfl, H, e8⟩
     ·
      rw [if_neg hk10] at e8
      refine WR.stepE (v' := .bool false) (Ex.eql rfl rfl) (congrArg Value.bool (decide_eq_false hk10)) (Wn.none rfl) rfl rfl (MV rfl rfl (WR.skipN 3 rfl rfl (PF rfl rfl rfl (NL ?_))))
      exact WQ.meetN [(0, _), (1, _), (21, _)] ⟨rfl, rfl, rfl, trivial⟩ ⟨_, _, rfl, H, e8⟩
    ·
     rintro e w ⟨b9, M, rfl, H, q12⟩
     obtain rfl := Option.some.inj q12
     refine TN ?_
     refine WC.condB rfl (fun hk13 => ?_) (fun hk13 => ?_)
     ·
      subst hk13
      rw [if_pos rfl] at h
      refine SQ ?_
      obtain ⟨c14, hxc14, h⟩ := bnd h
      obtain ⟨s15, hx16, h⟩ := bnd h
      refine RG (MV rfl rfl (MV rfl rfl (ST (Ex.idxStrC Tryz.underlying9 rfl rfl hxc14) rfl (WR.call H (strings_trimRightByte_ct hx16) rfl trivial (Wn.none rfl) rfl ?_))))
      intro v25 M w H hle hR
      obtain rfl := hR
      refine AS rfl rfl (NL (TN (RT ?_)))
      obtain rfl := Option.some.inj h
      exact WQ.ret1 rfl rfl H.ext rfl
     ·
      subst hk13
      rw [if_neg Bool.false_ne_true] at h
      refine SK (TN (SQ (SQ ?_)))
      obtain ⟨⟨n17, b18⟩, hx19, h⟩ := bnd h
      try dsimp only at h
      obtain ⟨l20, hxl20, h⟩ := bnd h
      obtain ⟨l21, hxl21, h⟩ := bnd h
      refine RG (MV rfl rfl (WR.call H (strings_makeASCIISet_ct hx19) rfl trivial (Wn.none rfl) rfl ?_))
      intro v28 M w H hle hR
      try dsimp only at hR
      obtain rfl := hR
      refine MV rfl rfl (ST (Ex.extract rfl rfl) rfl (ST (Ex.extract rfl rfl) rfl (WR.alloc (List.map encBo (List.replicate 256 false : List Bool)) H Tryz.zeroValue142 (by kernel_rfl) (Wn.none rfl) rfl ?_)))
      intro b5 w H
      refine WR.storeA (l2 := n17) H rfl rfl (fun _ => rfl) (fun _ => by repeat first | exact .head | apply Upd.tail) hxl20 hxl21 Tryz.sizeOf142 (Wn.none rfl) ?_
      intro w H
      refine AS rfl rfl (NL (TN (SQ (RG (MV rfl rfl (NL (TN ?_)))))))
      refine WC.condB rfl (fun hk22 => ?_) (fun hk22 => ?_)
      ·
       subst hk22
       rw [if_pos rfl] at h
       refine SQ ?_
       obtain ⟨s24, hx25, h⟩ := bnd h
       refine RG (MV rfl rfl ?_)
       obtain ⟨M, hle, hb23, H⟩ := H.freezeVar (b := b5) (by repeat first | exact .head | apply Rem.tail)
       refine WR.call H (strings_trimRightASCII_ct hx25) rfl (hb23) (Wn.none rfl) rfl ?_
       intro v33 M w H hle hR
       replace hb23 := hb23.mono hle
       obtain rfl := hR
       refine AS rfl rfl (NL (TN (RT ?_)))
       obtain rfl := Option.some.inj h
       exact WQ.ret1 rfl rfl H.ext rfl
      ·
       subst hk22
       rw [if_neg Bool.false_ne_true] at h
       cases h
theorem header_begins_ct {p0 : List UInt8} {r : ((List UInt8 × List UInt8) × Bool)} (h : header_begins p0 = some r) : Ct Tryz.prog 58 [S p0] (fun M => GlF (fun w => ∃ m, w.cell? ⟨2, 0, none⟩ = some (.int .i64 m)) M) (fun v M => v = Value.tuple #[Value.agg #[S r.1.1, S r.1.2], Value.bool r.2]) := by
  refine Ct.of Tryz.func58 (enters Tryz.func58 (by kernel_rfl) rfl) rfl rfl rfl ?_
  intro w0 M0 H hp
  have hg_maxl := hp
  unfold header_begins at h
  refine SQ (RG (WR.alloc [_, _] H Tryz.zeroValue50 rfl (Wn.none rfl) rfl ?_))
  intro b2 w H
  refine AS rfl rfl (NL (TN (SQ ?_)))
  obtain ⟨⟨s1, s2, b3⟩, hx4, h⟩ := bnd h
  try dsimp only at h
  refine RG (MV rfl rfl (WR.call H (strings_Cut_ct hx4) rfl (hg_maxl) (Wn.none rfl) rfl ?_))
  intro v9 M w H hle hR
  replace hg_maxl := hg_maxl.mono hle
  try dsimp only at hR
  obtain rfl := hR
  refine MV rfl rfl (ST (Ex.extract rfl rfl) rfl (ST (Ex.extract rfl rfl) rfl (ST (Ex.extract rfl rfl) rfl (AS rfl rfl (AS rfl rfl (AS rfl rfl (NL (TN (SQ ?_)))))))))
  obtain ⟨s5, hx6, h⟩ := bnd h
  refine RG (MV rfl rfl (WR.call H (strings_TrimRight_ct hx6) rfl trivial (Wn.none rfl) rfl ?_))
  intro v14 M w H hle hR
  replace hg_maxl := hg_maxl.mono hle
  obtain rfl := hR
  refine AS rfl rfl (NL (TN (SQ ?_)))
  obtain ⟨o7, e8, h⟩ := bnd h
  refine WC.cutX (fun e w => ∃ (s9 : List UInt8) (s10 : List UInt8) (b11 : Bool) (M : Mem), e = [(2, ptr b2 0), (3, Value.bool b11)] ∧ St w0 M0 M [.blk b2 (.cells #[S s9, S s10] 50)] w ∧ GlF (fun w => ∃ m, w.cell? ⟨2, 0, none⟩ = some (.int .i64 m)) M ∧ some (s9, s10, b11) = some o7) [] ?_ ?_ (trivial)
  ·
   refine RG (MV rfl rfl (MV rfl rfl (ST (Ex.build [S s5, S s2] Tryz.underlying50 Tryz.zeroValue50 (xplaces50 Tryz.underlying50) rfl rfl) rfl (MV rfl rfl (MV rfl rfl ?_)))))
   rcases b3 with _ | _
   ·
    rw [if_neg Bool.false_ne_true] at e8
    refine GF rfl rfl rfl (GF rfl rfl rfl (PF rfl rfl rfl (WR.store [_, _] H rfl rfl rfl (by repeat first | exact .head | apply Upd.tail) Tryz.sizeOf50 rfl (by rfl) (by rfl) (Wn.none rfl) ?_)))
    intro w H
    refine AS rfl rfl (NL ?_)
    exact WQ.meetN [(2, _), (3, _)] ⟨rfl, rfl, trivial⟩ ⟨_, _, _, _, rfl, H, hg_maxl, e8⟩
   ·
    rw [if_pos rfl] at e8
    obtain ⟨b12, hx13, e8⟩ := bnd e8
    refine SG (Ex.move rfl) rfl rfl rfl (WR.call H (header_name_ct hx13) rfl trivial (Wn.some rfl rfl rfl) rfl ?_)
    intro v21 M w H hle hR
    replace hg_maxl := hg_maxl.mono hle
    obtain rfl := hR
    refine PT rfl rfl rfl (WR.store [_, _] H rfl rfl rfl (by repeat first | exact .head | apply Upd.tail) Tryz.sizeOf50 rfl (by rfl) (by rfl) (Wn.none rfl) ?_)
    intro w H
    refine AS rfl rfl (NL ?_)
    exact WQ.meetN [(2, _), (3, _)] ⟨rfl, rfl, trivial⟩ ⟨_, _, _, _, rfl, H, hg_maxl, e8⟩
  ·
   rintro e w ⟨s9, s10, b11, M, rfl, H, hg_maxl, q14⟩
   obtain rfl := Option.some.inj q14
   try dsimp only at h
   refine TN (RT ?_)
   obtain rfl := Option.some.inj h
   exact WQ.ret2 rfl ⟨_, rfl, H.loadAgg (by repeat (first | exact List.Mem.head _ | apply List.Mem.tail)) Tryz.isAgg50 Tryz.sizeOf50 (by rfl)⟩ rfl H.ext rfl
theorem strings_trimLeftByte_ct {p0 : List UInt8} {p1 : UInt8} {r : List UInt8} (h : strings_trimLeftByte p0 p1 = some r) : Ct Tryz.prog 106 [S p0, encB p1] (fun M => True) (fun v M => v = S r) := by
  refine Ct.of Tryz.func106 (enters Tryz.func106 (by kernel_rfl) rfl) rfl rfl rfl ?_
  intro w0 M0 H hp
  unfold strings_trimLeftByte at h
  refine SQ (RG (AS rfl rfl (NL (TN (SQ ?_)))))
  obtain ⟨o1, e2, h⟩ := bnd h
  refine WC.cutX (fun e w => ∃ (s3 : List UInt8) (M : Mem), e = [(0, S s3)] ∧ St w0 M0 M [] w ∧ some s3 = some o1) [] ?_ ?_ (trivial)
  ·
   refine BL (WC.loopP (fun m e w => ∃ (s4 : List UInt8) (M : Mem), e = [(0, S s4), (1, encB p1)] ∧ St w0 M0 M [] w ∧ strings_trimLeftByte_L1 p1 m s4 = some o1) FU [(0, _), (1, _)] ⟨rfl, rfl, trivial⟩ ⟨_, _, rfl, H, e2⟩ ?_)
   rintro m5 e w ⟨s4, M, rfl, H, e2⟩
   rcases m5 with _ | m5
   · rw [strings_trimLeftByte_L1] at e2; cases e2
   rw [strings_trimLeftByte_L1] at e2
   refine SQ (SQ ?_)
   obtain ⟨o6, e7, e2⟩ := bnd e2
   refine WC.cutX (fun e w => ∃ (b8 : Bool) (M : Mem), e = [(0, S s4), (1, encB p1), (13, Value.bool b8)] ∧ St w0 M0 M [] w ∧ some b8 = some o6) [] ?_ ?_ (trivial)
   ·
    refine RG (MV rfl rfl (ST (Ex.lenStr Tryz.underlying9 rfl) rfl ?_))
    by_cases hk9 : (0 : Int) < (s4.length : Int)
    ·
     rw [if_pos hk9] at e7
     obtain ⟨c10, hxc10, e7⟩ := bnd e7
     refine WR.stepE (v' := .bool true) (Ex.gtr rfl rfl) (congrArg Value.bool (decide_eq_true hk9)) (Wn.none rfl) rfl rfl (MV rfl rfl (SG (Ex.move rfl) rfl rfl rfl (SG (Ex.idxStrC Tryz.underlying9 rfl rfl hxc10) rfl rfl rfl (SG (Ex.move rfl) rfl rfl rfl (SG (Ex.eqlB (c := c10) (d := p1) rfl rfl) rfl rfl rfl (PT rfl rfl rfl (NL ?_)))))))
     exact WQ.meetN [(0, _), (1, _), (13, _)] ⟨rfl, rfl, rfl, trivial⟩ ⟨_, _, rfl, H, e7⟩
    ·
     rw [if_neg hk9] at e7
     refine WR.stepE (v' := .bool false) (Ex.gtr rfl rfl) (congrArg Value.bool (decide_eq_false hk9)) (Wn.none rfl) rfl rfl (MV rfl rfl (WR.skipN 4 rfl rfl (PF rfl rfl rfl (NL ?_))))
     exact WQ.meetN [(0, _), (1, _), (13, _)] ⟨rfl, rfl, rfl, trivial⟩ ⟨_, _, rfl, H, e7⟩
   ·
    rintro e w ⟨b8, M, rfl, H, q11⟩
    obtain rfl := Option.some.inj q11
    refine TN ?_
    refine WC.condB rfl (fun hk12 => ?_) (fun hk12 => ?_)
    ·
     subst hk12
     rw [if_pos rfl] at e2
     refine SK (TN (BL ?_))
     obtain ⟨s13, hxs13, e2⟩ := bnd e2
     refine RG (MV rfl rfl (ST (Ex.sliceL Tryz.underlying9 rfl rfl hxs13) rfl (AS rfl rfl (NL (IB ?_)))))
     exact WQ.againP m5 [(0, _), (1, _)] ⟨rfl, rfl, trivial⟩ ⟨_, _, rfl, H, e2⟩ (Nat.lt_succ_self _)
    ·
     subst hk12
     rw [if_neg Bool.false_ne_true] at e2
     refine WC.exit (WQ.thenExit (WQ.thenExit (WQ.exitHere ?_)))
     exact WQ.meetN [(0, _)] ⟨rfl, trivial⟩ ⟨_, _, rfl, H, e2⟩
  ·
   rintro e w ⟨s3, M, rfl, H, q14⟩
   obtain rfl := Option.some.inj q14
   refine TN (SQ (RG (MV rfl rfl (AS rfl rfl (NL (TN (RT ?_)))))))
   obtain rfl := Option.some.inj h
   exact WQ.ret1 rfl rfl H.ext rfl
theorem strings_trimLeftASCII_ct {p0 : List UInt8} {p1 : List Bool} {bp1 : Nat} {r : List UInt8} (h : strings_trimLeftASCII p0 p1 = some r) : Ct Tryz.prog 109 [S p0, ptr bp1 0] (fun M => PtM M bp1 (.cells (List.map encBo p1).toArray 142)) (fun v M => v = S r) := by
  refine Ct.of Tryz.func109 (enters Tryz.func109 (by kernel_rfl) rfl) rfl rfl rfl ?_
  intro w0 M0 H hp
  have hp1 := hp
  unfold strings_trimLeftASCII at h
  refine SQ (RG (AS rfl rfl (NL (TN (SQ ?_)))))
  obtain ⟨o1, e2, h⟩ := bnd h
  refine WC.cutX (fun e w => ∃ (s3 : List UInt8) (M : Mem), e = [(0, S s3)] ∧ St w0 M0 M [] w ∧ some s3 = some o1) [] ?_ ?_ (trivial)
  ·
   refine BL (WC.loopP (fun m e w => ∃ (s4 : List UInt8) (M : Mem), e = [(0, S s4), (1, ptr bp1 0)] ∧ St w0 M0 M [] w ∧ PtM M bp1 (.cells (List.map encBo p1).toArray 142) ∧ strings_trimLeftASCII_L1 p1 m s4 = some o1) FU [(0, _), (1, _)] ⟨rfl, rfl, trivial⟩ ⟨_, _, rfl, H, hp1, e2⟩ ?_)
   rintro m5 e w ⟨s4, M, rfl, H, hp1, e2⟩
   rcases m5 with _ | m5
   · rw [strings_trimLeftASCII_L1] at e2; cases e2
   rw [strings_trimLeftASCII_L1] at e2
   refine SQ (SQ (RG (MV rfl rfl (ST (Ex.lenStr Tryz.underlying9 rfl) rfl (ST (Ex.gtr rfl rfl) rfl (NL (TN ?_)))))))
   refine WC.condB rfl (fun hk6 => ?_) (fun hk6 => ?_)
   ·
    replace hk6 : (0 : Int) < (s4.length : Int) := of_decide_eq_true hk6
    rw [if_pos hk6] at e2
    refine SK (TN (BL (SQ (SQ ?_))))
    obtain ⟨c7, hxc7, e2⟩ := bnd e2
    obtain ⟨b8, hx9, e2⟩ := bnd e2
    refine RG (MV rfl rfl (MV rfl rfl (ST (Ex.idxStrC Tryz.underlying9 rfl rfl hxc7) rfl (WR.call H (strings_asciiSet_contains_ct hx9) rfl (hp1) (Wn.none rfl) rfl ?_))))
    intro v11 M w H hle hR
    replace hp1 := hp1.mono hle
    obtain rfl := hR
    refine ST (Ex.not rfl) rfl (NL (TN ?_))
    refine WC.condB rfl (fun hk10 => ?_) (fun hk10 => ?_)
    ·
     replace hk10 : b8 = false := by simpa using hk10
     subst hk10
     rw [if_neg Bool.false_ne_true] at e2
     refine WC.exit (WQ.thenExit (WQ.exitOut rfl (WQ.thenExit (WQ.exitHere ?_))))
     exact WQ.meetN [(0, _)] ⟨rfl, trivial⟩ ⟨_, _, rfl, H, e2⟩
    ·
     replace hk10 : b8 = true := by simpa using hk10
     subst hk10
     rw [if_pos rfl] at e2
     refine SK (TN ?_)
     obtain ⟨s11, hxs11, e2⟩ := bnd e2
     refine RG (MV rfl rfl (ST (Ex.sliceL Tryz.underlying9 rfl rfl hxs11) rfl (AS rfl rfl (NL (IB ?_)))))
     exact WQ.againP m5 [(0, _), (1, _)] ⟨rfl, rfl, trivial⟩ ⟨_, _, rfl, H, hp1, e2⟩ (Nat.lt_succ_self _)
   ·
    replace hk6 : ¬ ((0 : Int) < (s4.length : Int)) := of_decide_eq_false hk6
    rw [if_neg hk6] at e2
    refine WC.exit (WQ.thenExit (WQ.thenExit (WQ.exitHere ?_)))
    exact WQ.meetN [(0, _)] ⟨rfl, trivial⟩ ⟨_, _, rfl, H, e2⟩
  ·
   rintro e w ⟨s3, M, rfl, H, q12⟩
   obtain rfl := Option.some.inj q12
   refine TN (SQ (RG (MV rfl rfl (AS rfl rfl (NL (TN (RT ?_)))))))
   obtain rfl := Option.some.inj h
   exact WQ.ret1 rfl rfl H.ext rfl
theorem strings_Trim_ct {p0 : List UInt8} {p1 : List UInt8} {r : List UInt8} (h : strings_Trim p0 p1 = some r) : Ct Tryz.prog 60 [S p0, S p1] (fun M => True) (fun v M => v = S r) := by
  refine Ct.of Tryz.func60 (enters Tryz.func60 (by kernel_rfl) rfl) rfl rfl rfl ?_
  intro w0 M0 H hp
  unfold strings_Trim at h
  refine SQ (RG (AS rfl rfl (NL (TN (SQ (SQ ?_))))))
  obtain ⟨o1, e2, h⟩ := bnd h
  refine WC.cutX (fun e w => ∃ (b3 : Bool) (M : Mem), e = [(0, S p0), (1, S p1), (12, Value.bool b3)] ∧ St w0 M0 M [] w ∧ some b3 = some o1) [] ?_ ?_ (trivial)
  ·
   by_cases hk4 : p0 = []
   ·
    rw [if_pos hk4] at e2
    refine RG (MV rfl rfl (WR.stepE (v' := .bool true) (Ex.strEql rfl rfl) (congrArg Value.bool (decide_eq_true hk4)) (Wn.none rfl) rfl rfl (MV rfl rfl (GT rfl rfl rfl (GT rfl rfl rfl (PT rfl rfl rfl (NL ?_)))))))
    exact WQ.meetN [(0, _), (1, _), (12, _)] ⟨rfl, rfl, rfl, trivial⟩ ⟨_, _, rfl, H, e2⟩
   ·
    rw [if_neg hk4] at e2
    refine RG (MV rfl rfl (WR.stepE (v' := .bool false) (Ex.strEql rfl rfl) (congrArg Value.bool (decide_eq_false hk4)) (Wn.none rfl) rfl rfl (MV rfl rfl (SG (Ex.move rfl) rfl rfl rfl (SG (Ex.strEql rfl rfl) rfl rfl rfl (PF rfl rfl rfl (NL ?_)))))))
    exact WQ.meetN [(0, _), (1, _), (12, _)] ⟨rfl, rfl, rfl, trivial⟩ ⟨_, _, rfl, H, e2⟩
  ·
   rintro e w ⟨b3, M, rfl, H, q5⟩
   obtain rfl := Option.some.inj q5
   refine TN ?_
   refine WC.condB rfl (fun hk6 => ?_) (fun hk6 => ?_)
   ·
    subst hk6
    rw [if_pos rfl] at h
    refine SQ (RG (MV rfl rfl (AS rfl rfl (NL (TN (RT ?_))))))
    obtain rfl := Option.some.inj h
    exact WQ.ret1 rfl rfl H.ext rfl
   ·
    subst hk6
    rw [if_neg Bool.false_ne_true] at h
    refine SK (TN (SQ (SQ ?_)))
    obtain ⟨o7, e8, h⟩ := bnd h
    refine WC.cutX (fun e w => ∃ (b9 : Bool) (M : Mem), e = [(0, S p0), (1, S p1), (21, Value.bool b9)] ∧ St w0 M0 M [] w ∧ some b9 = some o7) [] ?_ ?_ (trivial)
    ·
     refine RG (MV rfl rfl (ST (Ex.lenStr Tryz.underlying9 rfl) rfl ?_))
     by_cases hk10 : (p1.length : Int) = (1 : Int)
     ·
      rw [if_pos hk10] at e8
      obtain ⟨c11, hxc11, e8⟩ := bnd e8
      refine WR.stepE (v' := .bool true) (Ex.eql rfl rfl) (congrArg Value.bool (decide_eq_true hk10)) (Wn.none rfl) rfl rfl (MV rfl rfl (SG (Ex.move rfl) rfl rfl rfl (SG (Ex.idxStrC Tryz.underlying9 rfl rfl hxc11) rfl rfl rfl (SG (Ex.lssB (i := c11.toNat) (j := 128) rfl rfl) rfl rfl rfl (PT rfl rfl rfl (NL ?_))))))
      exact WQ.meetN [(0, _), (1, _), (21, _)] ⟨rfl, rfl, rfl, trivial⟩ ⟨_, _, rfl, H, e8⟩
     ·
      rw [if_neg hk10] at e8
      refine WR.stepE (v' := .bool false) (Ex.eql rfl rfl) (congrArg Value.bool (decide_eq_false hk10)) (Wn.none rfl) rfl rfl (MV rfl rfl (WR.skipN 3 rfl rfl (PF rfl rfl rfl (NL ?_))))
      exact WQ.meetN [(0, _), (1, _), (21, _)] ⟨rfl, rfl, rfl, trivial⟩ ⟨_, _, rfl, H, e8⟩
    ·
     rintro e w ⟨b9, M, rfl, H, q12⟩
     obtain rfl := Option.some.inj q12
     refine TN ?_
     refine WC.condB rfl (fun hk13 => ?_) (fun hk13 => ?_)
     ·
      subst hk13
      rw [if_pos rfl] at h
      refine SQ ?_
      obtain ⟨c14, hxc14, h⟩ := bnd h
      obtain ⟨s15, hx16, h⟩ := bnd h
      obtain ⟨c17, hxc17, h⟩ := bnd h
      obtain ⟨s18, hx19, h⟩ := bnd h
      refine WC.draw (m := 8) rfl rfl H ?_
      intro w H
      refine WA.take (i := 0) rfl (by kernel_rfl) (by kernel_rfl) (by kernel_rfl) (fun _ => Ex.move rfl) (Wn.none rfl) rfl rfl (fun _ _ => rfl) (WA.take (i := 1) rfl (by kernel_rfl) (by kernel_rfl) (by kernel_rfl) (fun _ => Ex.move rfl) (Wn.none rfl) rfl rfl (fun _ _ => rfl) (WA.take (i := 2) rfl (by kernel_rfl) (by kernel_rfl) (by kernel_rfl) (fun _ => Ex.idxStrC Tryz.underlying9 rfl rfl hxc14) (Wn.none rfl) rfl rfl (fun _ _ => rfl) (WA.take (i := 4) rfl (by kernel_rfl) (by kernel_rfl) (by kernel_rfl) (fun _ => Ex.move rfl) (Wn.none rfl) rfl rfl (fun _ _ => rfl) (WA.take (i := 5) rfl (by kernel_rfl) (by kernel_rfl) (by kernel_rfl) (fun _ => Ex.idxStrC Tryz.underlying9 rfl rfl hxc17) (Wn.none rfl) rfl rfl (fun _ _ => rfl) (WA.seq (fuel := 0) [3, 6, 7] rfl (by kernel_rfl) (WR.call H (strings_trimRightByte_ct hx16) rfl trivial (Wn.none rfl) rfl ?_))))))
      intro v25 M w H hle hR
      obtain rfl := hR
      refine WR.call H (strings_trimLeftByte_ct hx19) rfl trivial (Wn.none rfl) rfl ?_
      intro v28 M w H hle hR
      obtain rfl := hR
      refine AS rfl rfl (NA (WA.done (by kernel_rfl) (TN (RT ?_))))
      obtain rfl := Option.some.inj h
      exact WQ.ret1 rfl rfl H.ext rfl
     ·
      subst hk13
      rw [if_neg Bool.false_ne_true] at h
      refine SK (TN (SQ (SQ ?_)))
      obtain ⟨⟨n20, b21⟩, hx22, h⟩ := bnd h
      try dsimp only at h
      obtain ⟨l23, hxl23, h⟩ := bnd h
      obtain ⟨l24, hxl24, h⟩ := bnd h
      refine RG (MV rfl rfl (WR.call H (strings_makeASCIISet_ct hx22) rfl trivial (Wn.none rfl) rfl ?_))
      intro v31 M w H hle hR
      try dsimp only at hR
      obtain rfl := hR
      refine MV rfl rfl (ST (Ex.extract rfl rfl) rfl (ST (Ex.extract rfl rfl) rfl (WR.alloc (List.map encBo (List.replicate 256 false : List Bool)) H Tryz.zeroValue142 (by kernel_rfl) (Wn.none rfl) rfl ?_)))
      intro b5 w H
      refine WR.storeA (l2 := n20) H rfl rfl (fun _ => rfl) (fun _ => by repeat first | exact .head | apply Upd.tail) hxl23 hxl24 Tryz.sizeOf142 (Wn.none rfl) ?_
      intro w H
      refine AS rfl rfl (NL (TN (SQ (RG (MV rfl rfl (NL (TN ?_)))))))
      refine WC.condB rfl (fun hk25 => ?_) (fun hk25 => ?_)
      ·
       subst hk25
       rw [if_pos rfl] at h
       refine SQ ?_
       obtain ⟨s27, hx28, h⟩ := bnd h
       obtain ⟨s29, hx30, h⟩ := bnd h
       refine RG (MV rfl rfl ?_)
       obtain ⟨M, hle, hb26, H⟩ := H.freezeVar (b := b5) (by repeat first | exact .head | apply Rem.tail)
       refine WR.call H (strings_trimRightASCII_ct hx28) rfl (hb26) (Wn.none rfl) rfl ?_
       intro v36 M w H hle hR
       replace hb26 := hb26.mono hle
       obtain rfl := hR
       refine WR.call H (strings_trimLeftASCII_ct hx30) rfl (hb26) (Wn.none rfl) rfl ?_
       intro v37 M w H hle hR
       replace hb26 := hb26.mono hle
       obtain rfl := hR
       refine AS rfl rfl (NL (TN (RT ?_)))
       obtain rfl := Option.some.inj h
       exact WQ.ret1 rfl rfl H.ext rfl
      ·
       subst hk25
       rw [if_neg Bool.false_ne_true] at h
       cases h
theorem header_Read_ct {p0 : List UInt8} {vp0 : Value} {r : (List (List UInt8 × List UInt8) × Int × (Int × Int))} (h : header_Read p0 = some r) : Ct Tryz.prog 20 [vp0] (fun M => GlF (fun w => ∃ m, w.cell? ⟨2, 0, none⟩ = some (.int .i64 m)) M ∧ Sl M encB vp0 p0) (fun v M => ∃ x0, v = Value.tuple #[x0, I r.2.1, Value.agg #[I r.2.2.1, I r.2.2.2]] ∧ SlS M 2 xenc50 x0 r.1) := by
  refine Ct.of Tryz.func20 (enters Tryz.func20 (by kernel_rfl) rfl) rfl rfl rfl ?_
  intro w0 M0 H hp
  obtain ⟨hg_maxl, hp0⟩ := hp
  unfold header_Read at h
  refine SQ (RG (AS rfl rfl (AS rfl rfl (WR.alloc [_, _] H Tryz.zeroValue24 rfl (Wn.none rfl) rfl ?_))))
  intro b4 w H
  refine NL (TN (SQ (SQ (RG (MV rfl rfl (ST (Ex.lenSl Tryz.underlying30 hp0 rfl) rfl (ST (Ex.gtr rfl rfl) rfl (NL (TN ?_)))))))))
  refine WC.condB rfl (fun hk1 => ?_) (fun hk1 => ?_)
  ·
   replace hk1 : (12000 : Int) < (p0.length : Int) := of_decide_eq_true hk1
   rw [if_pos hk1] at h
   refine SQ ?_
   obtain ⟨⟨n2, n3⟩, hx4, h⟩ := bnd h
   try dsimp only at h
   refine RG (WR.call H (basic_Fault_ct hx4) rfl trivial (Wn.none rfl) rfl ?_)
   intro v17 M w H hle hR
   replace hg_maxl := hg_maxl.mono hle
   replace hp0 := hp0.mono hle
   try dsimp only at hR
   obtain rfl := hR
   refine AS rfl rfl (AS rfl rfl (WR.store [_, _] H rfl rfl rfl (by repeat first | exact .head | apply Upd.tail) Tryz.sizeOf24 rfl (by rfl) (by rfl) (Wn.none rfl) ?_))
   intro w H
   refine NL (TN (RT ?_))
   obtain rfl := Option.some.inj h
   exact WQ.ret3 rfl rfl rfl ⟨_, rfl, H.loadAgg (by repeat (first | exact List.Mem.head _ | apply List.Mem.tail)) Tryz.isAgg24 Tryz.sizeOf24 (by rfl)⟩ H.ext (⟨_, rfl, (SlS.nil _ _ (fun _ => rfl))⟩)
  ·
   replace hk1 : ¬ ((12000 : Int) < (p0.length : Int)) := of_decide_eq_false hk1
   rw [if_neg hk1] at h
   refine SK (TN (SQ (RG (AS rfl rfl (NL (TN (SQ (RG (AS rfl rfl (NL (TN (SQ ?_))))))))))))
   obtain ⟨o5, e6, h⟩ := bnd h
   refine WC.cutX (fun e w => ∃ (l8 : List (List UInt8 × List UInt8)) (v9 : Value) (n10 : Int) (M : Mem), e = [(4, ptr b4 0), (5, v9), (6, I n10)] ∧ St w0 M0 M [.blk b4 (.cells #[I 0, I 0] 24), RowS 50 2 xenc50 v9 l8] w ∧ GlF (fun w => ∃ m, w.cell? ⟨2, 0, none⟩ = some (.int .i64 m)) M ∧ some (l8, n10) = some o5) [] ?_ ?_ (trivial)
   ·
    refine BL ?_
    replace H := H.newRowS 50 2 xenc50
    refine WC.loopP (fun m e w => ∃ (l12 : List (List UInt8 × List UInt8)) (v13 : Value) (n14 : Int) (M : Mem), e = [(0, vp0), (4, ptr b4 0), (5, v13), (6, I n14)] ∧ St w0 M0 M [.blk b4 (.cells #[I 0, I 0] 24), RowS 50 2 xenc50 v13 l12] w ∧ GlF (fun w => ∃ m, w.cell? ⟨2, 0, none⟩ = some (.int .i64 m)) M ∧ Sl M encB vp0 p0 ∧ header_Read_L1 p0 m l12 n14 = some o5) FU [(0, _), (4, _), (5, _), (6, _)] ⟨rfl, rfl, rfl, rfl, trivial⟩ ⟨_, _, _, _, rfl, (H.pick (L' := [.blk b4 (.cells #[I 0, I 0] 24), RowS 50 2 xenc50 (Value.slice none 0 0) []]) (by repeat (first | exact Pick.nil | refine Pick.cons (by repeat first | exact .head | apply Rem.tail) ?_))), hg_maxl, hp0, e6⟩ ?_
    rintro m15 e w ⟨l12, v13, n14, M, rfl, H, hg_maxl, hp0, e6⟩
    rcases m15 with _ | m15
    · rw [header_Read_L1] at e6; cases e6
    rw [header_Read_L1] at e6
    refine SQ (SQ (RG (MV rfl rfl (MV rfl rfl (ST (Ex.lenSl Tryz.underlying30 hp0 rfl) rfl (ST (Ex.lss rfl rfl) rfl (NL (TN ?_))))))))
    refine WC.condB rfl (fun hk17 => ?_) (fun hk17 => ?_)
    ·
     replace hk17 : n14 < (p0.length : Int) := of_decide_eq_true hk17
     rw [if_pos hk17] at e6
     refine SK (TN (BL (SQ ?_)))
     obtain ⟨l18, hxl18, e6⟩ := bnd e6
     obtain ⟨⟨s19, n20⟩, hx21, e6⟩ := bnd e6
     try dsimp only at e6
     refine RG (MV rfl rfl (MV rfl rfl (WR.sliceL Tryz.underlying30 Tryz.sizeOf5 (hp0) rfl rfl hxl18 (Wn.none rfl) rfl ?_)))
     intro v25 hs25
     refine WR.call H (header_line_ct hx21) rfl (hs25) (Wn.none rfl) rfl ?_
     intro v26 M w H hle hR
     replace hg_maxl := hg_maxl.mono hle
     replace hp0 := hp0.mono hle
     replace hs25 := hs25.mono hle
     try dsimp only at hR
     obtain rfl := hR
     refine MV rfl rfl (ST (Ex.extract rfl rfl) rfl (ST (Ex.extract rfl rfl) rfl (AS rfl rfl (AS rfl rfl (NL (TN (SQ (SQ (RG (MV rfl rfl (ST (Ex.strEql rfl rfl) rfl (NL (TN ?_)))))))))))))
     refine WC.condB rfl (fun hk22 => ?_) (fun hk22 => ?_)
     ·
      replace hk22 : s19 = [] := of_decide_eq_true hk22
      rw [if_pos hk22] at e6
      refine SQ ?_
      obtain ⟨n23, hxn23, e6⟩ := bnd e6
      refine RG (MV rfl rfl (MV rfl rfl (ST (Ex.addC rfl rfl hxn23) rfl (AS rfl rfl (NL (TN (WC.exit (WQ.thenExit (WQ.exitOut rfl (WQ.thenExit (WQ.exitHere ?_)))))))))))
      exact WQ.meetN [(4, _), (5, _), (6, _)] ⟨rfl, rfl, rfl, trivial⟩ ⟨_, _, _, _, rfl, H, hg_maxl, e6⟩
     ·
      replace hk22 : ¬ (s19 = []) := of_decide_eq_false hk22
      rw [if_neg hk22] at e6
      refine SK (TN (SQ (SQ ?_)))
      obtain ⟨o24, e25, e6⟩ := bnd e6
      refine WC.cutX (fun e w => ∃ (b26 : Bool) (M : Mem), e = [(0, vp0), (4, ptr b4 0), (5, v13), (6, I n14), (7, S s19), (8, I n20), (41, Value.bool b26)] ∧ St w0 M0 M [.blk b4 (.cells #[I 0, I 0] 24), RowS 50 2 xenc50 v13 l12] w ∧ GlF (fun w => ∃ m, w.cell? ⟨2, 0, none⟩ = some (.int .i64 m)) M ∧ Sl M encB vp0 p0 ∧ some b26 = some o24) [] ?_ ?_ (trivial)
      ·
       obtain ⟨c27, hxc27, e25⟩ := bnd e25
       obtain ⟨b28, hx29, e25⟩ := bnd e25
       refine RG (MV rfl rfl (ST (Ex.idxStrC Tryz.underlying9 rfl rfl hxc27) rfl (WR.call H (basic_Blank_ct hx29) rfl trivial (Wn.none rfl) rfl ?_)))
       intro v36 M w H hle hR
       replace hg_maxl := hg_maxl.mono hle
       replace hp0 := hp0.mono hle
       replace hs25 := hs25.mono hle
       obtain rfl := hR
       refine MV rfl rfl ?_
       rcases b28 with _ | _
       ·
        rw [if_neg Bool.false_ne_true] at e25
        refine WR.skipN 3 rfl rfl (PF rfl rfl rfl (NL ?_))
        exact WQ.meetN [(0, _), (4, _), (5, _), (6, _), (7, _), (8, _), (41, _)] ⟨rfl, rfl, rfl, rfl, rfl, rfl, rfl, trivial⟩ ⟨_, _, rfl, H, hg_maxl, hp0, e25⟩
       ·
        rw [if_pos rfl] at e25
        refine SG (Ex.move rfl) rfl rfl rfl (SG (Ex.lenRowS (l := l12) Tryz.underlying31 H (by repeat (first | exact List.Mem.head _ | apply List.Mem.tail)) rfl) rfl rfl rfl ?_)
        refine SG (Ex.gtr rfl rfl) rfl rfl rfl (PT rfl rfl rfl (NL ?_))
        exact WQ.meetN [(0, _), (4, _), (5, _), (6, _), (7, _), (8, _), (41, _)] ⟨rfl, rfl, rfl, rfl, rfl, rfl, rfl, trivial⟩ ⟨_, _, rfl, H, hg_maxl, hp0, e25⟩
      ·
       rintro e w ⟨b26, M, rfl, H, hg_maxl, hp0, q30⟩
       obtain rfl := Option.some.inj q30
       refine TN ?_
       refine WC.condB rfl (fun hk31 => ?_) (fun hk31 => ?_)
       ·
        subst hk31
        rw [if_pos rfl] at e6
        refine SQ ?_
        obtain ⟨n32, hxn32, e6⟩ := bnd e6
        obtain ⟨a33, hxa33, e6⟩ := bnd e6
        obtain ⟨s34, hxs34, e6⟩ := bnd e6
        obtain ⟨a35, hxa35, e6⟩ := bnd e6
        obtain ⟨l36, hxl36, e6⟩ := bnd e6
        refine RG (MV rfl rfl (MV rfl rfl (ST (Ex.lenRowS (l := l12) Tryz.underlying31 H (by repeat (first | exact List.Mem.head _ | apply List.Mem.tail)) rfl) rfl ?_)))
        refine ST (Ex.subC rfl rfl hxn32) rfl (WR.idxRowSC (l := l12) H Tryz.underlying31 Tryz.sizeOf50 (by repeat (first | exact List.Mem.head _ | apply List.Mem.tail)) rfl rfl hxa33 (Wn.none rfl) rfl ?_)
        intro g46 hg46
        refine ST (Ex.fieldAddr Tryz.underlying50 rfl Tryz.sizeOf9 (by decide) rfl) rfl (ST (Ex.loadRowF (j := 1) H rfl hg46 (by repeat (first | exact List.Mem.head _ | apply List.Mem.tail)) (fun _ => rfl) hxa33 rfl Tryz.isAgg9) rfl ?_)
        refine MV rfl rfl (ST (Ex.strAddC rfl rfl hxs34) rfl (WR.idxRowSC (l := l12) H Tryz.underlying31 Tryz.sizeOf50 (by repeat (first | exact List.Mem.head _ | apply List.Mem.tail)) rfl rfl hxa35 (Wn.none rfl) rfl ?_))
        intro g51 hg51
        refine ST (Ex.fieldAddr Tryz.underlying50 rfl Tryz.sizeOf9 (by decide) rfl) rfl (WR.storeRowFC (j := 1) (a := a35) (a' := (a35.1, s34)) H rfl rfl ⟨rfl, rfl⟩ hg51 (fun _ => by repeat first | exact .head | apply Upd.tail) (fun _ => rfl) hxa35 hxl36 rfl rfl Tryz.sizeOf9 (Wn.none rfl) ?_)
        intro w H
        refine NL (TN (SQ ?_))
        obtain ⟨n37, hxn37, e6⟩ := bnd e6
        refine RG (MV rfl rfl (MV rfl rfl (ST (Ex.addC rfl rfl hxn37) rfl (AS rfl rfl (NL (TN (WC.exit (WQ.thenExit (WQ.exitHere ?_)))))))))
        exact WQ.againP m15 [(0, _), (4, _), (5, _), (6, _)] ⟨rfl, rfl, rfl, rfl, trivial⟩ ⟨_, _, _, _, rfl, H, hg_maxl, hp0, e6⟩ (Nat.lt_succ_self _)
       ·
        subst hk31
        rw [if_neg Bool.false_ne_true] at e6
        refine SK (TN (SQ ?_))
        obtain ⟨⟨⟨s38, s39⟩, b40⟩, hx41, e6⟩ := bnd e6
        try dsimp only at e6
        refine RG (MV rfl rfl (WR.call H (header_begins_ct hx41) rfl (hg_maxl) (Wn.none rfl) rfl ?_))
        intro v58 M w H hle hR
        replace hg_maxl := hg_maxl.mono hle
        replace hp0 := hp0.mono hle
        try dsimp only at hR
        obtain rfl := hR
        refine MV rfl rfl (ST (Ex.extract rfl rfl) rfl (ST (Ex.extract rfl rfl) rfl (WR.alloc [_, _] H Tryz.zeroValue50 rfl (Wn.none rfl) rfl ?_)))
        intro b9 w H
        refine WR.store [_, _] H rfl rfl rfl (by repeat first | exact .head | apply Upd.tail) Tryz.sizeOf50 rfl (by rfl) (by rfl) (Wn.none rfl) ?_
        intro w H
        refine AS rfl rfl (NL (TN (SQ (SQ (RG (MV rfl rfl (ST (Ex.not rfl) rfl (NL (TN ?_)))))))))
        refine WC.condB rfl (fun hk42 => ?_) (fun hk42 => ?_)
        ·
         replace hk42 : b40 = false := by simpa using hk42
         subst hk42
         rw [if_neg Bool.false_ne_true] at e6
         refine WC.exit (WQ.thenExit (WQ.exitOut rfl (WQ.thenExit (WQ.exitHere ?_))))
         exact WQ.meetN [(4, _), (5, _), (6, _)] ⟨rfl, rfl, rfl, trivial⟩ ⟨_, _, _, _, rfl, (H.pick (L' := [.blk b4 (.cells #[I 0, I 0] 24), RowS 50 2 xenc50 v13 l12]) (by repeat (first | exact Pick.nil | refine Pick.cons (by repeat first | exact .head | apply Rem.tail) ?_))), hg_maxl, e6⟩
        ·
         replace hk42 : b40 = true := by simpa using hk42
         subst hk42
         rw [if_pos rfl] at e6
         refine SK (TN (SQ ?_))
         obtain ⟨l43, hxl43, e6⟩ := bnd e6
         refine RG (MV rfl rfl (ST (Ex.loadAgg H rfl (by repeat (first | exact List.Mem.head _ | apply List.Mem.tail)) Tryz.isAgg50 Tryz.sizeOf50 (by rfl)) rfl ?_))
         refine WR.litS (enc := xenc50) xty31 ([(s38, s39)] : List (List UInt8 × List UInt8)) H (fun _ => rfl) rfl (by kernel_rfl) rfl rfl rfl (Wn.none rfl) rfl ?_
         intro v65 M w H hle hs65
         replace hg_maxl := hg_maxl.mono hle
         replace hp0 := hp0.mono hle
         refine WR.appSC (l := l12) xty31 rfl xone50 H rfl (fun _ => by repeat first | exact .head | apply Upd.tail) rfl (hs65) hxl43 (Wn.none rfl) rfl ?_
         intro v66 w H
         refine AS rfl rfl (NL (TN ?_))
         obtain ⟨n44, hxn44, e6⟩ := bnd e6
         refine RG (MV rfl rfl (MV rfl rfl (ST (Ex.addC rfl rfl hxn44) rfl (AS rfl rfl (NL (IB ?_))))))
         exact WQ.againP m15 [(0, _), (4, _), (5, _), (6, _)] ⟨rfl, rfl, rfl, rfl, trivial⟩ ⟨_, _, _, _, rfl, (H.pick (L' := [.blk b4 (.cells #[I 0, I 0] 24), RowS 50 2 xenc50 v66 l43]) (by repeat (first | exact Pick.nil | refine Pick.cons (by repeat first | exact .head | apply Rem.tail) ?_))), hg_maxl, hp0, e6⟩ (Nat.lt_succ_self _)
    ·
     replace hk17 : ¬ (n14 < (p0.length : Int)) := of_decide_eq_false hk17
     rw [if_neg hk17] at e6
     refine WC.exit (WQ.thenExit (WQ.thenExit (WQ.exitHere ?_)))
     exact WQ.meetN [(4, _), (5, _), (6, _)] ⟨rfl, rfl, rfl, trivial⟩ ⟨_, _, _, _, rfl, H, hg_maxl, e6⟩
   ·
    rintro e w ⟨l8, v9, n10, M, rfl, H, hg_maxl, q45⟩
    obtain rfl := Option.some.inj q45
    try dsimp only at h
    refine TN (SQ (SQ (RG (MV rfl rfl (ST (Ex.lenRowS (l := l8) Tryz.underlying31 H (by repeat (first | exact List.Mem.head _ | apply List.Mem.tail)) rfl) rfl ?_)))))
    refine ST (Ex.gtr rfl rfl) rfl (NL (TN ?_))
    refine WC.condB rfl (fun hk46 => ?_) (fun hk46 => ?_)
    ·
     replace hk46 : (60 : Int) < (l8.length : Int) := of_decide_eq_true hk46
     rw [if_pos hk46] at h
     refine SQ ?_
     obtain ⟨⟨n47, n48⟩, hx49, h⟩ := bnd h
     try dsimp only at h
     refine RG (WR.call H (basic_Fault_ct hx49) rfl trivial (Wn.none rfl) rfl ?_)
     intro v73 M w H hle hR
     replace hg_maxl := hg_maxl.mono hle
     try dsimp only at hR
     obtain rfl := hR
     refine AS rfl rfl (AS rfl rfl (WR.store [_, _] H rfl rfl rfl (by repeat first | exact .head | apply Upd.tail) Tryz.sizeOf24 rfl (by rfl) (by rfl) (Wn.none rfl) ?_))
     intro w H
     refine NL (TN (RT ?_))
     obtain rfl := Option.some.inj h
     exact WQ.ret3 rfl rfl rfl ⟨_, rfl, H.loadAgg (by repeat (first | exact List.Mem.head _ | apply List.Mem.tail)) Tryz.isAgg24 Tryz.sizeOf24 (by rfl)⟩ H.ext (⟨_, rfl, (SlS.nil _ _ (fun _ => rfl))⟩)
    ·
     replace hk46 : ¬ ((60 : Int) < (l8.length : Int)) := of_decide_eq_false hk46
     rw [if_neg hk46] at h
     refine SK (TN (SQ ?_))
     obtain ⟨_, hx50, h⟩ := bnd h
     refine RG (WR.lit (enc := encS) xty43 ([[0], [32], [13], [32]] : List (List UInt8)) H rfl (by rfl) (fun _ => rfl) rfl rfl (Wn.none rfl) rfl ?_)
     intro v74 M w H hle hs74
     replace hg_maxl := hg_maxl.mono hle
     refine WR.callX (A := []) (B := [.blk b4 (.cells #[I 0, I 0] 24), RowS 50 2 xenc50 v9 l8]) H (strings_NewReplacer_ct hx50) (Spl.all _) rfl (hs74) (Wn.none rfl) rfl ?_
     intro v75 M w its H hle hR
     replace hg_maxl := hg_maxl.mono hle
     replace hs74 := hs74.mono hle
     obtain ⟨b75, x75, rfl, hr75, rfl⟩ := hR
     simp only [List.cons_append, List.nil_append] at H
     refine AS rfl rfl (NL (TN (SQ (SQ (RG (MV rfl rfl (ST (Ex.lenRowS (l := l8) Tryz.underlying31 H (by repeat (first | exact List.Mem.head _ | apply List.Mem.tail)) rfl) rfl ?_)))))))
     refine MV rfl rfl (NL (TN ?_))
     obtain ⟨o51, e52, h⟩ := bnd h
     refine WC.cutX (fun e w => ∃ (n53 : Int) (n54 : Int) (l55 : List (List UInt8 × List UInt8)) (M : Mem), e = [(4, ptr b4 0), (5, v9), (6, I n10)] ∧ St w0 M0 M [.blk b4 (.cells #[I n53, I n54] 24), RowS 50 2 xenc50 v9 l55] w ∧ GlF (fun w => ∃ m, w.cell? ⟨2, 0, none⟩ = some (.int .i64 m)) M ∧ some (.inl (n53, n54, l55)) = some o51) [] ?_ ?_ (trivial)
     ·
      refine BL ?_
      refine WC.loopP (fun m e w => ∃ (n56 : Int) (n57 : Int) (l58 : List (List UInt8 × List UInt8)) (v59 : Array Value) (n61 : Int) (M : Mem), e = [(4, ptr b4 0), (5, v9), (6, I n10), (11, ptr b75 0), (77, I (l8.length : Int)), (78, I n61)] ∧ St w0 M0 M [.blk b4 (.cells #[I n56, I n57] 24), RowS 50 2 xenc50 v9 l58, .blk b75 (.cells v59 139)] w ∧ GlF (fun w => ∃ m, w.cell? ⟨2, 0, none⟩ = some (.int .i64 m)) M ∧ RplM M v59 ∧ header_Read_L2 l8 m n56 n57 l58 n61 = some o51) FU [(4, _), (5, _), (6, _), (11, _), (77, _), (78, _)] ⟨rfl, rfl, rfl, rfl, rfl, rfl, trivial⟩ ⟨_, _, _, _, _, _, rfl, (H.pick (L' := [.blk b4 (.cells #[I 0, I 0] 24), RowS 50 2 xenc50 v9 l8, .blk b75 (.cells x75 139)]) (by repeat (first | exact Pick.nil | refine Pick.cons (by repeat first | exact .head | apply Rem.tail) ?_))), hg_maxl, hr75, e52⟩ ?_
      rintro m62 e w ⟨n56, n57, l58, v59, n61, M, rfl, H, hg_maxl, hs60, e52⟩
      rcases m62 with _ | m62
      · rw [header_Read_L2] at e52; cases e52
      rw [header_Read_L2] at e52
      refine SQ (RG (ST (Ex.lss rfl rfl) rfl (NL (TN (SQ ?_)))))
      refine WC.condB rfl (fun hk63 => ?_) (fun hk63 => ?_)
      ·
       replace hk63 : n61 < (l8.length : Int) := of_decide_eq_true hk63
       rw [if_pos hk63] at e52
       refine SK (TN (SQ (BL (SQ (RG (MV rfl rfl (AS rfl rfl (NL (TN (SQ ?_))))))))))
       obtain ⟨a64, hxa64, e52⟩ := bnd e52
       obtain ⟨s65, hxs65, e52⟩ := bnd e52
       obtain ⟨s66, hx67, e52⟩ := bnd e52
       refine RG (MV rfl rfl (MV rfl rfl (MV rfl rfl (WR.idxRowSC (l := l58) H Tryz.underlying31 Tryz.sizeOf50 (by repeat (first | exact List.Mem.head _ | apply List.Mem.tail)) rfl rfl hxa64 (Wn.none rfl) rfl ?_))))
       intro g84 hg84
       refine ST (Ex.fieldAddr Tryz.underlying50 rfl Tryz.sizeOf9 (by decide) rfl) rfl (ST (Ex.loadRowF (j := 1) H rfl hg84 (by repeat (first | exact List.Mem.head _ | apply List.Mem.tail)) (fun _ => rfl) hxa64 rfl Tryz.isAgg9) rfl ?_)
       refine WR.callX (A := [.blk b75 (.cells v59 139)]) (B := [.blk b4 (.cells #[I n56, I n57] 24), RowS 50 2 xenc50 v9 l58]) (H.pick (L' := [.blk b75 (.cells v59 139), .blk b4 (.cells #[I n56, I n57] 24), RowS 50 2 xenc50 v9 l58]) (by repeat (first | exact Pick.nil | refine Pick.cons (by repeat first | exact .head | apply Rem.tail) ?_))) (strings_Replacer_Replace_ct hxs65) (.left (Spl.all _)) rfl hs60 (Wn.none rfl) rfl ?_
       intro v87 M w its H hle hR
       replace hg_maxl := hg_maxl.mono hle
       replace hs60 := hs60.mono hle
       obtain ⟨x87, rfl, hr87, rfl⟩ := hR
       simp only [List.cons_append, List.nil_append] at H
       refine WR.call H (strings_Trim_ct hx67) rfl trivial (Wn.none rfl) rfl ?_
       intro v88 M w H hle hR
       replace hg_maxl := hg_maxl.mono hle
       replace hs60 := hs60.mono hle
       replace hr87 := hr87.mono hle
       obtain rfl := hR
       refine AS rfl rfl (NL (TN (SQ (SQ (RG (MV rfl rfl (ST (Ex.lenStr Tryz.underlying9 rfl) rfl (ST (Ex.gtr rfl rfl) rfl (NL (TN ?_))))))))))
       refine WC.condB rfl (fun hk68 => ?_) (fun hk68 => ?_)
       ·
        replace hk68 : (4000 : Int) < (s66.length : Int) := of_decide_eq_true hk68
        rw [if_pos hk68] at e52
        refine SQ ?_
        obtain ⟨⟨n69, n70⟩, hx71, e52⟩ := bnd e52
        try dsimp only at e52
        refine RG (MV rfl rfl (WR.call H (basic_Fault_ct hx71) rfl trivial (Wn.none rfl) rfl ?_))
        intro v93 M w H hle hR
        replace hg_maxl := hg_maxl.mono hle
        replace hr87 := hr87.mono hle
        try dsimp only at hR
        obtain rfl := hR
        refine AS rfl rfl (AS rfl rfl (WR.store [_, _] H rfl rfl rfl (by repeat first | exact .head | apply Upd.tail) Tryz.sizeOf24 rfl (by rfl) (by rfl) (Wn.none rfl) ?_))
        intro w H
        refine NL (TN (RT ?_))
        obtain rfl := Option.some.inj e52
        try dsimp only at h
        obtain rfl := Option.some.inj h
        exact WQ.ret3 rfl rfl rfl ⟨_, rfl, H.loadAgg (by repeat (first | exact List.Mem.head _ | apply List.Mem.tail)) Tryz.isAgg24 Tryz.sizeOf24 (by rfl)⟩ H.ext (⟨_, rfl, (SlS.nil _ _ (fun _ => rfl))⟩)
       ·
        replace hk68 : ¬ ((4000 : Int) < (s66.length : Int)) := of_decide_eq_false hk68
        rw [if_neg hk68] at e52
        refine SK (TN ?_)
        obtain ⟨a72, hxa72, e52⟩ := bnd e52
        obtain ⟨l73, hxl73, e52⟩ := bnd e52
        refine RG (MV rfl rfl (MV rfl rfl (MV rfl rfl (WR.idxRowSC (l := l58) H Tryz.underlying31 Tryz.sizeOf50 (by repeat (first | exact List.Mem.head _ | apply List.Mem.tail)) rfl rfl hxa72 (Wn.none rfl) rfl ?_))))
        intro g97 hg97
        refine ST (Ex.fieldAddr Tryz.underlying50 rfl Tryz.sizeOf9 (by decide) rfl) rfl (WR.storeRowFC (j := 1) (a := a72) (a' := (a72.1, s66)) H rfl rfl ⟨rfl, rfl⟩ hg97 (fun _ => by repeat first | exact .head | apply Upd.tail) (fun _ => rfl) hxa72 hxl73 rfl rfl Tryz.sizeOf9 (Wn.none rfl) ?_)
        intro w H
        refine NL (IB (TN ?_))
        obtain ⟨n74, hxn74, e52⟩ := bnd e52
        refine RG (ST (Ex.addC rfl rfl hxn74) rfl (MV rfl rfl (NL ?_)))
        exact WQ.againP m62 [(4, _), (5, _), (6, _), (11, _), (77, _), (78, _)] ⟨rfl, rfl, rfl, rfl, rfl, rfl, trivial⟩ ⟨_, _, _, _, _, _, rfl, (H.pick (L' := [.blk b4 (.cells #[I n56, I n57] 24), RowS 50 2 xenc50 v9 l73, .blk b75 (.cells x87 139)]) (by repeat (first | exact Pick.nil | refine Pick.cons (by repeat first | exact .head | apply Rem.tail) ?_))), hg_maxl, hr87, e52⟩ (Nat.lt_succ_self _)
      ·
       replace hk63 : ¬ (n61 < (l8.length : Int)) := of_decide_eq_false hk63
       rw [if_neg hk63] at e52
       refine WC.exit (WQ.thenExit (WQ.thenExit (WQ.exitHere ?_)))
       exact WQ.meetN [(4, _), (5, _), (6, _)] ⟨rfl, rfl, rfl, trivial⟩ ⟨_, _, _, _, rfl, (H.pick (L' := [.blk b4 (.cells #[I n56, I n57] 24), RowS 50 2 xenc50 v9 l58]) (by repeat (first | exact Pick.nil | refine Pick.cons (by repeat first | exact .head | apply Rem.tail) ?_))), hg_maxl, e52⟩
     ·
      rintro e w ⟨n53, n54, l55, M, rfl, H, hg_maxl, q75⟩
      obtain rfl := Option.some.inj q75
      try dsimp only at h
      refine TN (SQ ?_)
      obtain ⟨⟨n76, n77⟩, hx78, h⟩ := bnd h
      try dsimp only at h
      refine RG (MV rfl rfl (MV rfl rfl (WR.call H (basic_None_ct hx78) rfl trivial (Wn.none rfl) rfl ?_)))
      intro v102 M w H hle hR
      replace hg_maxl := hg_maxl.mono hle
      try dsimp only at hR
      obtain rfl := hR
      refine AS rfl rfl (AS rfl rfl (WR.store [_, _] H rfl rfl rfl (by repeat first | exact .head | apply Upd.tail) Tryz.sizeOf24 rfl (by rfl) (by rfl) (Wn.none rfl) ?_))
      intro w H
      refine NL (TN (RT ?_))
      obtain ⟨M, hle, hs79, H⟩ := H.freezeRowS (v := v9) (enc := xenc50) (t := 50) (by repeat first | exact .head | apply Rem.tail) (fun _ => rfl)
      replace hg_maxl := hg_maxl.mono hle
      obtain rfl := Option.some.inj h
      exact WQ.ret3 rfl rfl rfl ⟨_, rfl, H.loadAgg (by repeat (first | exact List.Mem.head _ | apply List.Mem.tail)) Tryz.isAgg24 Tryz.sizeOf24 (by rfl)⟩ H.ext (⟨_, rfl, hs79⟩)
theorem header_Write_ct {p0 : List (List UInt8 × List UInt8)} {vp0 : Value} {r : (List UInt8 × (Int × Int))} (h : header_Write p0 = some r) : Ct Tryz.prog 23 [vp0] (fun M => SlS M 2 xenc50 vp0 p0) (fun v M => ∃ x0, v = Value.tuple #[x0, Value.agg #[I r.2.1, I r.2.2]] ∧ Sl M encB x0 r.1) := by
  refine Ct.of Tryz.func23 (enters Tryz.func23 (by kernel_rfl) rfl) rfl rfl rfl ?_
  intro w0 M0 H hp
  have hp0 := hp
  unfold header_Write at h
  refine SQ (RG (AS rfl rfl (WR.alloc [_, _] H Tryz.zeroValue24 rfl (Wn.none rfl) rfl ?_)))
  intro b3 w H
  refine NL (TN (SQ (SQ ?_)))
  obtain ⟨⟨n1, n2⟩, hx3, h⟩ := bnd h
  try dsimp only at h
  refine RG (MV rfl rfl (WR.call H (header_Validate_ct hx3) rfl (hp0) (Wn.none rfl) rfl ?_))
  intro v13 M w H hle hR
  replace hp0 := hp0.mono hle
  try dsimp only at hR
  obtain rfl := hR
  refine WR.alloc [_, _] H Tryz.zeroValue24 rfl (Wn.none rfl) rfl ?_
  intro b4 w H
  refine WR.store [_, _] H rfl rfl rfl (by repeat first | exact .head | apply Upd.tail) Tryz.sizeOf24 rfl (by rfl) (by rfl) (Wn.none rfl) ?_
  intro w H
  refine NL (TN (SQ ?_))
  obtain ⟨b4, hx5, h⟩ := bnd h
  refine RG (ST (Ex.loadAgg H rfl (by repeat (first | exact List.Mem.head _ | apply List.Mem.tail)) Tryz.isAgg24 Tryz.sizeOf24 (by rfl)) rfl ?_)
  refine WR.call H (basic_Failed_ct hx5) rfl trivial (Wn.none rfl) rfl ?_
  intro v15 M w H hle hR
  replace hp0 := hp0.mono hle
  obtain rfl := hR
  refine NL (TN ?_)
  refine WC.condB rfl (fun hk6 => ?_) (fun hk6 => ?_)
  ·
   subst hk6
   rw [if_pos rfl] at h
   refine SQ (WC.draw (m := 3) rfl rfl H ?_)
   intro w H
   refine WA.take (i := 1) rfl (by kernel_rfl) (by kernel_rfl) (by kernel_rfl) (fun _ => Ex.assign rfl) (Wn.none rfl) rfl rfl (fun _ _ => rfl) (WA.seq (fuel := 0) [0, 2] rfl (by kernel_rfl) (ST (Ex.loadAgg H rfl (by repeat (first | exact List.Mem.head _ | apply List.Mem.tail)) Tryz.isAgg24 Tryz.sizeOf24 (by rfl)) rfl ?_))
   refine WR.store [_, _] H rfl rfl rfl (by repeat first | exact .head | apply Upd.tail) Tryz.sizeOf24 rfl (by rfl) (by rfl) (Wn.none rfl) ?_
   intro w H
   refine NA (WA.done (by kernel_rfl) (TN (RT ?_)))
   obtain rfl := Option.some.inj h
   exact WQ.ret2 rfl rfl ⟨_, rfl, H.loadAgg (by repeat (first | exact List.Mem.head _ | apply List.Mem.tail)) Tryz.isAgg24 Tryz.sizeOf24 (by rfl)⟩ H.ext (⟨_, rfl, Sl.nil _ _⟩)
  ·
   subst hk6
   rw [if_neg Bool.false_ne_true] at h
   refine SK (TN (SQ (RG (AS rfl rfl (NL (TN (SQ (SQ (RG (MV rfl rfl (ST (Ex.lenSlS Tryz.underlying31 hp0 rfl) rfl (MV rfl rfl (NL (TN ?_))))))))))))))
   obtain ⟨o7, e8, h⟩ := bnd h
   refine WC.cutX (fun e w => ∃ (l10 : List UInt8) (v11 : Value) (M : Mem), e = [(3, ptr b3 0), (5, v11)] ∧ St w0 M0 M [.blk b3 (.cells #[I 0, I 0] 24), RowI 5 encB v11 l10] w ∧ some l10 = some o7) [] ?_ ?_ (trivial)
   ·
    refine BL ?_
    replace H := H.newRow 5 encB
    refine WC.loopP (fun m e w => ∃ (l13 : List UInt8) (v14 : Value) (n15 : Int) (M : Mem), e = [(3, ptr b3 0), (5, v14), (17, vp0), (18, I (p0.length : Int)), (19, I n15)] ∧ St w0 M0 M [.blk b3 (.cells #[I 0, I 0] 24), RowI 5 encB v14 l13] w ∧ SlS M 2 xenc50 vp0 p0 ∧ header_Write_L1 p0 m l13 n15 = some o7) FU [(3, _), (5, _), (17, _), (18, _), (19, _)] ⟨rfl, rfl, rfl, rfl, rfl, trivial⟩ ⟨_, _, _, _, rfl, (H.pick (L' := [.blk b3 (.cells #[I 0, I 0] 24), RowI 5 encB (Value.slice none 0 0) []]) (by repeat (first | exact Pick.nil | refine Pick.cons (by repeat first | exact .head | apply Rem.tail) ?_))), hp0, e8⟩ ?_
    rintro m16 e w ⟨l13, v14, n15, M, rfl, H, hp0, e8⟩
    rcases m16 with _ | m16
    · rw [header_Write_L1] at e8; cases e8
    rw [header_Write_L1] at e8
    refine SQ (RG (ST (Ex.lss rfl rfl) rfl (NL (TN (SQ ?_)))))
    refine WC.condB rfl (fun hk18 => ?_) (fun hk18 => ?_)
    ·
     replace hk18 : n15 < (p0.length : Int) := of_decide_eq_true hk18
     rw [if_pos hk18] at e8
     refine SK (TN (SQ (BL (SQ ?_))))
     obtain ⟨a19, hxa19, e8⟩ := bnd e8
     obtain ⟨b21, o21, ha21, hc21⟩ := hp0.atC hxa19
     refine RG (ST (Ex.idxAt ha21 Tryz.underlying31 Tryz.sizeOf50 rfl rfl) rfl (ST (Ex.loadAggM H rfl hc21 Tryz.isAgg50 Tryz.sizeOf50 (by rfl)) rfl ?_))
     refine WR.alloc [_, _] H Tryz.zeroValue50 rfl (Wn.none rfl) rfl ?_
     intro b7 w H
     refine WR.store [_, _] H rfl rfl rfl (by repeat first | exact .head | apply Upd.tail) Tryz.sizeOf50 rfl (by rfl) (by rfl) (Wn.none rfl) ?_
     intro w H
     refine NL (TN (SQ ?_))
     obtain ⟨⟨l20, ⟨n21, n22⟩⟩, hx23, e8⟩ := bnd e8
     try dsimp only at e8
     refine RG (ST (Ex.fieldAddr Tryz.underlying50 rfl Tryz.sizeOf9 (by decide) rfl) rfl (ST (Ex.load1 H rfl (by repeat (first | exact List.Mem.head _ | apply List.Mem.tail)) Tryz.isAgg9 (by rfl)) rfl ?_))
     refine ST (Ex.fieldAddr Tryz.underlying50 rfl Tryz.sizeOf9 (by decide) rfl) rfl (ST (Ex.load1 H rfl (by repeat (first | exact List.Mem.head _ | apply List.Mem.tail)) Tryz.isAgg9 (by rfl)) rfl ?_)
     refine WR.call H (fold_Fold_ct hx23) rfl trivial (Wn.none rfl) rfl ?_
     intro v28 M w H hle hR
     replace hp0 := hp0.mono hle
     replace hc21 := hc21.mono hle
     try dsimp only at hR
     obtain ⟨x28_0, rfl, f28_0⟩ := hR
     refine MV rfl rfl (ST (Ex.extract rfl rfl) rfl (ST (Ex.extract rfl rfl) rfl (WR.alloc [_, _] H Tryz.zeroValue24 rfl (Wn.none rfl) rfl ?_)))
     intro b9 w H
     refine AS rfl rfl (WR.store [_, _] H rfl rfl rfl (by repeat first | exact .head | apply Upd.tail) Tryz.sizeOf24 rfl (by rfl) (by rfl) (Wn.none rfl) ?_)
     intro w H
     refine NL (TN (SQ (RG (MV rfl rfl (ST (Ex.lenSl Tryz.underlying43 f28_0 rfl) rfl (MV rfl rfl (NL (TN ?_))))))))
     obtain ⟨o24, e25, e8⟩ := bnd e8
     refine WC.cutX (fun e w => ∃ (l27 : List UInt8) (v28 : Value) (M : Mem), e = [(3, ptr b3 0), (5, v28), (17, vp0), (18, I (p0.length : Int)), (19, I n15)] ∧ St w0 M0 M [.blk b3 (.cells #[I 0, I 0] 24), RowI 5 encB v28 l27] w ∧ SlS M 2 xenc50 vp0 p0 ∧ some l27 = some o24) [] ?_ ?_ (trivial)
     ·
      refine BL ?_
      refine WC.loopP (fun m e w => ∃ (l30 : List UInt8) (v31 : Value) (n32 : Int) (M : Mem), e = [(3, ptr b3 0), (5, v31), (17, vp0), (18, I (p0.length : Int)), (19, I n15), (31, x28_0), (32, I (l20.length : Int)), (33, I n32)] ∧ St w0 M0 M [.blk b3 (.cells #[I 0, I 0] 24), RowI 5 encB v31 l30] w ∧ SlS M 2 xenc50 vp0 p0 ∧ Sl M encS x28_0 l20 ∧ header_Write_L2 l20 m l30 n32 = some o24) FU [(3, _), (5, _), (17, _), (18, _), (19, _), (31, _), (32, _), (33, _)] ⟨rfl, rfl, rfl, rfl, rfl, rfl, rfl, rfl, trivial⟩ ⟨_, _, _, _, rfl, (H.pick (L' := [.blk b3 (.cells #[I 0, I 0] 24), RowI 5 encB v14 l13]) (by repeat (first | exact Pick.nil | refine Pick.cons (by repeat first | exact .head | apply Rem.tail) ?_))), hp0, f28_0, e25⟩ ?_
      rintro m33 e w ⟨l30, v31, n32, M, rfl, H, hp0, f28_0, e25⟩
      rcases m33 with _ | m33
      · rw [header_Write_L2] at e25; cases e25
      rw [header_Write_L2] at e25
      refine SQ (RG (ST (Ex.lss rfl rfl) rfl (NL (TN (SQ ?_)))))
      refine WC.condB rfl (fun hk34 => ?_) (fun hk34 => ?_)
      ·
       replace hk34 : n32 < (l20.length : Int) := of_decide_eq_true hk34
       rw [if_pos hk34] at e25
       refine SK (TN (SQ (BL (SQ ?_))))
       obtain ⟨a35, hxa35, e25⟩ := bnd e25
       obtain ⟨b35, o35, ha35, hc35⟩ := f28_0.atC hxa35
       refine RG (ST (Ex.idxAt ha35 Tryz.underlying43 Tryz.sizeOf9 rfl rfl) rfl (ST (Ex.loadM H rfl hc35 Tryz.isAgg9) rfl (AS rfl rfl (NL (TN ?_)))))
       obtain ⟨l36, hxl36, e25⟩ := bnd e25
       obtain ⟨l37, hxl37, e25⟩ := bnd e25
       refine RG (MV rfl rfl (MV rfl rfl (WR.appStrC (l := l30) xty30 Tryz.underlying9 H rfl (fun _ => by repeat first | exact .head | apply Upd.tail) rfl hxl36 (Wn.none rfl) rfl ?_)))
       intro v39 w H
       refine WR.lit (enc := encB) xty30 ([13, 10] : List UInt8) H rfl (by rfl) (fun _ => rfl) rfl rfl (Wn.none rfl) rfl ?_
       intro v40 M w H hle hs40
       replace hp0 := hp0.mono hle
       replace f28_0 := f28_0.mono hle
       replace hc35 := hc35.mono hle
       refine WR.appC (l := l36) xty30 rfl (fun _ => rfl) H rfl (fun _ => by repeat first | exact .head | apply Upd.tail) rfl (hs40) hxl37 (Wn.none rfl) rfl ?_
       intro v41 w H
       refine AS rfl rfl (NL (IB (TN ?_)))
       obtain ⟨n38, hxn38, e25⟩ := bnd e25
       refine RG (ST (Ex.addC rfl rfl hxn38) rfl (MV rfl rfl (NL ?_)))
       exact WQ.againP m33 [(3, _), (5, _), (17, _), (18, _), (19, _), (31, _), (32, _), (33, _)] ⟨rfl, rfl, rfl, rfl, rfl, rfl, rfl, rfl, trivial⟩ ⟨_, _, _, _, rfl, H, hp0, f28_0, e25⟩ (Nat.lt_succ_self _)
      ·
       replace hk34 : ¬ (n32 < (l20.length : Int)) := of_decide_eq_false hk34
       rw [if_neg hk34] at e25
       refine WC.exit (WQ.thenExit (WQ.thenExit (WQ.exitHere ?_)))
       exact WQ.meetN [(3, _), (5, _), (17, _), (18, _), (19, _)] ⟨rfl, rfl, rfl, rfl, rfl, trivial⟩ ⟨_, _, _, rfl, H, hp0, e25⟩
     ·
      rintro e w ⟨l27, v28, M, rfl, H, hp0, q39⟩
      obtain rfl := Option.some.inj q39
      refine IB (TN ?_)
      obtain ⟨n40, hxn40, e8⟩ := bnd e8
      refine RG (ST (Ex.addC rfl rfl hxn40) rfl (MV rfl rfl (NL ?_)))
      exact WQ.againP m16 [(3, _), (5, _), (17, _), (18, _), (19, _)] ⟨rfl, rfl, rfl, rfl, rfl, trivial⟩ ⟨_, _, _, _, rfl, H, hp0, e8⟩ (Nat.lt_succ_self _)
    ·
     replace hk18 : ¬ (n15 < (p0.length : Int)) := of_decide_eq_false hk18
     rw [if_neg hk18] at e8
     refine WC.exit (WQ.thenExit (WQ.thenExit (WQ.exitHere ?_)))
     exact WQ.meetN [(3, _), (5, _)] ⟨rfl, rfl, trivial⟩ ⟨_, _, _, rfl, H, e8⟩
   ·
    rintro e w ⟨l10, v11, M, rfl, H, q41⟩
    obtain rfl := Option.some.inj q41
    refine TN (SQ ?_)
    obtain ⟨l42, hxl42, h⟩ := bnd h
    refine RG (MV rfl rfl (WR.lit (enc := encB) xty30 ([13, 10] : List UInt8) H rfl (by rfl) (fun _ => rfl) rfl rfl (Wn.none rfl) rfl ?_))
    intro v45 M w H hle hs45
    refine WR.appC (l := l10) xty30 rfl (fun _ => rfl) H rfl (fun _ => by repeat first | exact .head | apply Upd.tail) rfl (hs45) hxl42 (Wn.none rfl) rfl ?_
    intro v46 w H
    refine AS rfl rfl (NL (TN (SQ (SQ (RG (MV rfl rfl (ST (Ex.lenRow (l := l42) Tryz.underlying30 H (by repeat (first | exact List.Mem.head _ | apply List.Mem.tail)) rfl) rfl ?_)))))))
    refine ST (Ex.gtr rfl rfl) rfl (NL (TN ?_))
    refine WC.condB rfl (fun hk43 => ?_) (fun hk43 => ?_)
    ·
     replace hk43 : (12000 : Int) < (l42.length : Int) := of_decide_eq_true hk43
     rw [if_pos hk43] at h
     refine SQ ?_
     obtain ⟨⟨n44, n45⟩, hx46, h⟩ := bnd h
     try dsimp only at h
     refine RG (WR.call H (basic_Fault_ct hx46) rfl trivial (Wn.none rfl) rfl ?_)
     intro v50 M w H hle hR
     replace hs45 := hs45.mono hle
     try dsimp only at hR
     obtain rfl := hR
     refine AS rfl rfl (WR.store [_, _] H rfl rfl rfl (by repeat first | exact .head | apply Upd.tail) Tryz.sizeOf24 rfl (by rfl) (by rfl) (Wn.none rfl) ?_)
     intro w H
     refine NL (TN (RT ?_))
     obtain rfl := Option.some.inj h
     exact WQ.ret2 rfl rfl ⟨_, rfl, H.loadAgg (by repeat (first | exact List.Mem.head _ | apply List.Mem.tail)) Tryz.isAgg24 Tryz.sizeOf24 (by rfl)⟩ H.ext (⟨_, rfl, Sl.nil _ _⟩)
    ·
     replace hk43 : ¬ ((12000 : Int) < (l42.length : Int)) := of_decide_eq_false hk43
     rw [if_neg hk43] at h
     refine SK (TN (SQ ?_))
     obtain ⟨⟨n47, n48⟩, hx49, h⟩ := bnd h
     try dsimp only at h
     refine RG (MV rfl rfl (WR.call H (basic_None_ct hx49) rfl trivial (Wn.none rfl) rfl ?_))
     intro v52 M w H hle hR
     replace hs45 := hs45.mono hle
     try dsimp only at hR
     obtain rfl := hR
     refine AS rfl rfl (WR.store [_, _] H rfl rfl rfl (by repeat first | exact .head | apply Upd.tail) Tryz.sizeOf24 rfl (by rfl) (by rfl) (Wn.none rfl) ?_)
     intro w H
     refine NL (TN (RT ?_))
     obtain ⟨M, hle, hs50, H⟩ := H.freezeRow (v := v46) (enc := encB) (t := 5) (by repeat first | exact .head | apply Rem.tail)
     replace hs45 := hs45.mono hle
     obtain rfl := Option.some.inj h
     exact WQ.ret2 rfl rfl ⟨_, rfl, H.loadAgg (by repeat (first | exact List.Mem.head _ | apply List.Mem.tail)) Tryz.isAgg24 Tryz.sizeOf24 (by rfl)⟩ H.ext (⟨_, rfl, hs50⟩)
theorem header_Get_ct {p0 : List (List UInt8 × List UInt8)} {p1 : List UInt8} {vp0 : Value} {r : (List (List UInt8) × (Int × Int))} (h : header_Get p0 p1 = some r) : Ct Tryz.prog 28 [vp0, S p1] (fun M => SlS M 2 xenc50 vp0 p0) (fun v M => ∃ x0, v = Value.tuple #[x0, Value.agg #[I r.2.1, I r.2.2]] ∧ Sl M encS x0 r.1) := by
  refine Ct.of Tryz.func28 (enters Tryz.func28 (by kernel_rfl) rfl) rfl rfl rfl ?_
  intro w0 M0 H hp
  have hp0 := hp
  unfold header_Get at h
  refine SQ (RG (AS rfl rfl (WR.alloc [_, _] H Tryz.zeroValue24 rfl (Wn.none rfl) rfl ?_)))
  intro b5 w H
  refine NL (TN (SQ (SQ ?_)))
  obtain ⟨⟨n1, n2⟩, hx3, h⟩ := bnd h
  try dsimp only at h
  refine RG (MV rfl rfl (MV rfl rfl (WR.call H (header_valid_ct hx3) rfl (hp0) (Wn.none rfl) rfl ?_)))
  intro v12 M w H hle hR
  replace hp0 := hp0.mono hle
  try dsimp only at hR
  obtain rfl := hR
  refine WR.alloc [_, _] H Tryz.zeroValue24 rfl (Wn.none rfl) rfl ?_
  intro b6 w H
  refine WR.store [_, _] H rfl rfl rfl (by repeat first | exact .head | apply Upd.tail) Tryz.sizeOf24 rfl (by rfl) (by rfl) (Wn.none rfl) ?_
  intro w H
  refine NL (TN (SQ ?_))
  obtain ⟨b4, hx5, h⟩ := bnd h
  refine RG (ST (Ex.loadAgg H rfl (by repeat (first | exact List.Mem.head _ | apply List.Mem.tail)) Tryz.isAgg24 Tryz.sizeOf24 (by rfl)) rfl ?_)
  refine WR.call H (basic_Failed_ct hx5) rfl trivial (Wn.none rfl) rfl ?_
  intro v14 M w H hle hR
  replace hp0 := hp0.mono hle
  obtain rfl := hR
  refine NL (TN ?_)
  refine WC.condB rfl (fun hk6 => ?_) (fun hk6 => ?_)
  ·
   subst hk6
   rw [if_pos rfl] at h
   refine SQ (WC.draw (m := 3) rfl rfl H ?_)
   intro w H
   refine WA.take (i := 1) rfl (by kernel_rfl) (by kernel_rfl) (by kernel_rfl) (fun _ => Ex.assign rfl) (Wn.none rfl) rfl rfl (fun _ _ => rfl) (WA.seq (fuel := 0) [0, 2] rfl (by kernel_rfl) (ST (Ex.loadAgg H rfl (by repeat (first | exact List.Mem.head _ | apply List.Mem.tail)) Tryz.isAgg24 Tryz.sizeOf24 (by rfl)) rfl ?_))
   refine WR.store [_, _] H rfl rfl rfl (by repeat first | exact .head | apply Upd.tail) Tryz.sizeOf24 rfl (by rfl) (by rfl) (Wn.none rfl) ?_
   intro w H
   refine NA (WA.done (by kernel_rfl) (TN (RT ?_)))
   obtain rfl := Option.some.inj h
   exact WQ.ret2 rfl rfl ⟨_, rfl, H.loadAgg (by repeat (first | exact List.Mem.head _ | apply List.Mem.tail)) Tryz.isAgg24 Tryz.sizeOf24 (by rfl)⟩ H.ext (⟨_, rfl, Sl.nil _ _⟩)
  ·
   subst hk6
   rw [if_neg Bool.false_ne_true] at h
   refine SK (TN (SQ (RG (AS rfl rfl (NL (TN (SQ (SQ (RG (MV rfl rfl (ST (Ex.lenSlS Tryz.underlying31 hp0 rfl) rfl (MV rfl rfl (NL (TN ?_))))))))))))))
   obtain ⟨o7, e8, h⟩ := bnd h
   refine WC.cutX (fun e w => ∃ (l10 : List (List UInt8)) (v11 : Value) (M : Mem), e = [(5, ptr b5 0), (7, v11)] ∧ St w0 M0 M [.blk b5 (.cells #[I 0, I 0] 24), RowI 9 encS v11 l10] w ∧ some l10 = some o7) [] ?_ ?_ (trivial)
   ·
    refine BL ?_
    replace H := H.newRow 9 encS
    refine WC.loopP (fun m e w => ∃ (l13 : List (List UInt8)) (v14 : Value) (n15 : Int) (M : Mem), e = [(1, S p1), (5, ptr b5 0), (7, v14), (16, vp0), (17, I (p0.length : Int)), (18, I n15)] ∧ St w0 M0 M [.blk b5 (.cells #[I 0, I 0] 24), RowI 9 encS v14 l13] w ∧ SlS M 2 xenc50 vp0 p0 ∧ header_Get_L1 p0 p1 m l13 n15 = some o7) FU [(1, _), (5, _), (7, _), (16, _), (17, _), (18, _)] ⟨rfl, rfl, rfl, rfl, rfl, rfl, trivial⟩ ⟨_, _, _, _, rfl, (H.pick (L' := [.blk b5 (.cells #[I 0, I 0] 24), RowI 9 encS (Value.slice none 0 0) []]) (by repeat (first | exact Pick.nil | refine Pick.cons (by repeat first | exact .head | apply Rem.tail) ?_))), hp0, e8⟩ ?_
    rintro m16 e w ⟨l13, v14, n15, M, rfl, H, hp0, e8⟩
    rcases m16 with _ | m16
    · rw [header_Get_L1] at e8; cases e8
    rw [header_Get_L1] at e8
    refine SQ (RG (ST (Ex.lss rfl rfl) rfl (NL (TN (SQ ?_)))))
    refine WC.condB rfl (fun hk18 => ?_) (fun hk18 => ?_)
    ·
     replace hk18 : n15 < (p0.length : Int) := of_decide_eq_true hk18
     rw [if_pos hk18] at e8
     refine SK (TN (SQ (BL (SQ ?_))))
     obtain ⟨a19, hxa19, e8⟩ := bnd e8
     obtain ⟨b20, o20, ha20, hc20⟩ := hp0.atC hxa19
     refine RG (ST (Ex.idxAt ha20 Tryz.underlying31 Tryz.sizeOf50 rfl rfl) rfl (ST (Ex.loadAggM H rfl hc20 Tryz.isAgg50 Tryz.sizeOf50 (by rfl)) rfl ?_))
     refine WR.alloc [_, _] H Tryz.zeroValue50 rfl (Wn.none rfl) rfl ?_
     intro b9 w H
     refine WR.store [_, _] H rfl rfl rfl (by repeat first | exact .head | apply Upd.tail) Tryz.sizeOf50 rfl (by rfl) (by rfl) (Wn.none rfl) ?_
     intro w H
     refine NL (TN (SQ ?_))
     obtain ⟨b20, hx21, e8⟩ := bnd e8
     refine RG (ST (Ex.fieldAddr Tryz.underlying50 rfl Tryz.sizeOf9 (by decide) rfl) rfl (ST (Ex.load1 H rfl (by repeat (first | exact List.Mem.head _ | apply List.Mem.tail)) Tryz.isAgg9 (by rfl)) rfl ?_))
     refine MV rfl rfl (WR.call H (basic_Same_ct hx21) rfl trivial (Wn.none rfl) rfl ?_)
     intro v25 M w H hle hR
     replace hp0 := hp0.mono hle
     replace hc20 := hc20.mono hle
     obtain rfl := hR
     refine NL (TN ?_)
     refine WC.condB rfl (fun hk22 => ?_) (fun hk22 => ?_)
     ·
      subst hk22
      rw [if_pos rfl] at e8
      obtain ⟨l23, hxl23, e8⟩ := bnd e8
      refine RG (MV rfl rfl (ST (Ex.fieldAddr Tryz.underlying50 rfl Tryz.sizeOf9 (by decide) rfl) rfl (ST (Ex.load1 H rfl (by repeat (first | exact List.Mem.head _ | apply List.Mem.tail)) Tryz.isAgg9 (by rfl)) rfl ?_)))
      refine WR.lit (enc := encS) xty43 ([a19.2] : List (List UInt8)) H rfl (by rfl) (fun _ => rfl) rfl rfl (Wn.none rfl) rfl ?_
      intro v29 M w H hle hs29
      replace hp0 := hp0.mono hle
      replace hc20 := hc20.mono hle
      refine WR.appC (l := l13) xty43 rfl (fun _ => rfl) H rfl (fun _ => by repeat first | exact .head | apply Upd.tail) rfl (hs29) hxl23 (Wn.none rfl) rfl ?_
      intro v30 w H
      refine AS rfl rfl (NL (IB (TN ?_)))
      obtain ⟨n24, hxn24, e8⟩ := bnd e8
      refine RG (ST (Ex.addC rfl rfl hxn24) rfl (MV rfl rfl (NL ?_)))
      exact WQ.againP m16 [(1, _), (5, _), (7, _), (16, _), (17, _), (18, _)] ⟨rfl, rfl, rfl, rfl, rfl, rfl, trivial⟩ ⟨_, _, _, _, rfl, (H.pick (L' := [.blk b5 (.cells #[I 0, I 0] 24), RowI 9 encS v30 l23]) (by repeat (first | exact Pick.nil | refine Pick.cons (by repeat first | exact .head | apply Rem.tail) ?_))), hp0, e8⟩ (Nat.lt_succ_self _)
     ·
      subst hk22
      rw [if_neg Bool.false_ne_true] at e8
      refine SK (IB (TN ?_))
      obtain ⟨n25, hxn25, e8⟩ := bnd e8
      refine RG (ST (Ex.addC rfl rfl hxn25) rfl (MV rfl rfl (NL ?_)))
      exact WQ.againP m16 [(1, _), (5, _), (7, _), (16, _), (17, _), (18, _)] ⟨rfl, rfl, rfl, rfl, rfl, rfl, trivial⟩ ⟨_, _, _, _, rfl, (H.pick (L' := [.blk b5 (.cells #[I 0, I 0] 24), RowI 9 encS v14 l13]) (by repeat (first | exact Pick.nil | refine Pick.cons (by repeat first | exact .head | apply Rem.tail) ?_))), hp0, e8⟩ (Nat.lt_succ_self _)
    ·
     replace hk18 : ¬ (n15 < (p0.length : Int)) := of_decide_eq_false hk18
     rw [if_neg hk18] at e8
     refine WC.exit (WQ.thenExit (WQ.thenExit (WQ.exitHere ?_)))
     exact WQ.meetN [(5, _), (7, _)] ⟨rfl, rfl, trivial⟩ ⟨_, _, _, rfl, H, e8⟩
   ·
    rintro e w ⟨l10, v11, M, rfl, H, q26⟩
    obtain rfl := Option.some.inj q26
    refine TN (SQ ?_)
    obtain ⟨⟨n27, n28⟩, hx29, h⟩ := bnd h
    try dsimp only at h
    refine RG (MV rfl rfl (WR.call H (basic_None_ct hx29) rfl trivial (Wn.none rfl) rfl ?_))
    intro v33 M w H hle hR
    try dsimp only at hR
    obtain rfl := hR
    refine AS rfl rfl (WR.store [_, _] H rfl rfl rfl (by repeat first | exact .head | apply Upd.tail) Tryz.sizeOf24 rfl (by rfl) (by rfl) (Wn.none rfl) ?_)
    intro w H
    refine NL (TN (RT ?_))
    obtain ⟨M, hle, hs30, H⟩ := H.freezeRow (v := v11) (enc := encS) (t := 9) (by repeat first | exact .head | apply Rem.tail)
    obtain rfl := Option.some.inj h
    exact WQ.ret2 rfl rfl ⟨_, rfl, H.loadAgg (by repeat (first | exact List.Mem.head _ | apply List.Mem.tail)) Tryz.isAgg24 Tryz.sizeOf24 (by rfl)⟩ H.ext (⟨_, rfl, hs30⟩)
theorem R_Strings_ct {p0 : List (List UInt8)} {p1 : List (List UInt8)} {vp0 : Value} {vp1 : Value} {r : Bool} (h : R_Strings p0 p1 = some r) : Ct Tryz.prog 32 [vp0, vp1] (fun M => Sl M encS vp0 p0 ∧ Sl M encS vp1 p1) (fun v M => v = Value.bool r) := by
  refine Ct.of Tryz.func32 (enters Tryz.func32 (by kernel_rfl) rfl) rfl rfl rfl ?_
  intro w0 M0 H hp
  obtain ⟨hp0, hp1⟩ := hp
  unfold R_Strings at h
  refine SQ (RG (AS rfl rfl (NL (TN (SQ (SQ (RG (MV rfl rfl (ST (Ex.lenSl Tryz.underlying43 hp0 rfl) rfl (MV rfl rfl (ST (Ex.lenSl Tryz.underlying43 hp1 rfl) rfl (ST (Ex.neqC rfl rfl) rfl (NL (TN ?_))))))))))))))
  refine WC.condB rfl (fun hk1 => ?_) (fun hk1 => ?_)
  ·
   replace hk1 : ¬ ((p0.length : Int) = (p1.length : Int)) := of_not_decide hk1
   rw [if_neg hk1] at h
   refine SQ (RG (AS rfl rfl (NL (TN (RT ?_)))))
   obtain rfl := Option.some.inj h
   exact WQ.ret1 rfl rfl H.ext rfl
  ·
   replace hk1 : (p0.length : Int) = (p1.length : Int) := of_not_decide' hk1
   rw [if_pos hk1] at h
   refine SK (TN (SQ (SQ (RG (AS rfl rfl (NL (TN ?_)))))))
   obtain ⟨o2, e3, h⟩ := bnd h
   refine WC.cutX (fun e w => ∃  (M : Mem), e = [] ∧ St w0 M0 M [] w ∧ some (.inl ()) = some o2) [] ?_ ?_ (trivial)
   ·
    refine BL (WC.loopP (fun m e w => ∃ (n4 : Int) (M : Mem), e = [(0, vp0), (1, vp1), (5, I n4)] ∧ St w0 M0 M [] w ∧ Sl M encS vp0 p0 ∧ Sl M encS vp1 p1 ∧ R_Strings_L1 p0 p1 m n4 = some o2) FU [(0, _), (1, _), (5, _)] ⟨rfl, rfl, rfl, trivial⟩ ⟨_, _, rfl, H, hp0, hp1, e3⟩ ?_)
    rintro m5 e w ⟨n4, M, rfl, H, hp0, hp1, e3⟩
    rcases m5 with _ | m5
    · rw [R_Strings_L1] at e3; cases e3
    rw [R_Strings_L1] at e3
    refine SQ (SQ (RG (MV rfl rfl (MV rfl rfl (ST (Ex.lenSl Tryz.underlying43 hp0 rfl) rfl (ST (Ex.lss rfl rfl) rfl (NL (TN ?_))))))))
    refine WC.condB rfl (fun hk6 => ?_) (fun hk6 => ?_)
    ·
     replace hk6 : n4 < (p0.length : Int) := of_decide_eq_true hk6
     rw [if_pos hk6] at e3
     refine SK (TN (SQ (BL (SQ ?_))))
     obtain ⟨a7, hxa7, e3⟩ := bnd e3
     obtain ⟨b19, o19, ha19, hc19⟩ := hp0.atC hxa7
     obtain ⟨a8, hxa8, e3⟩ := bnd e3
     obtain ⟨b23, o23, ha23, hc23⟩ := hp1.atC hxa8
     refine WC.draw (m := 9) rfl rfl H ?_
     intro w H
     refine WA.take (i := 0) rfl (by kernel_rfl) (by kernel_rfl) (by kernel_rfl) (fun _ => Ex.move rfl) (Wn.none rfl) rfl rfl (fun _ _ => rfl) (WA.take (i := 1) rfl (by kernel_rfl) (by kernel_rfl) (by kernel_rfl) (fun _ => Ex.move rfl) (Wn.none rfl) rfl rfl (fun _ _ => rfl) (WA.take (i := 2) rfl (by kernel_rfl) (by kernel_rfl) (by kernel_rfl) (fun _ => Ex.idxAt ha19 Tryz.underlying43 Tryz.sizeOf9 rfl rfl) (Wn.none rfl) rfl rfl (fun _ _ => rfl) (WA.take (i := 4) rfl (by kernel_rfl) (by kernel_rfl) (by kernel_rfl) (fun _ => Ex.move rfl) (Wn.none rfl) rfl rfl (fun _ _ => rfl) (WA.take (i := 5) rfl (by kernel_rfl) (by kernel_rfl) (by kernel_rfl) (fun _ => Ex.move rfl) (Wn.none rfl) rfl rfl (fun _ _ => rfl) (WA.take (i := 6) rfl (by kernel_rfl) (by kernel_rfl) (by kernel_rfl) (fun _ => Ex.idxAt ha23 Tryz.underlying43 Tryz.sizeOf9 rfl rfl) (Wn.none rfl) rfl rfl (fun _ _ => rfl) (WA.takeM (i := 3) [7] rfl (by kernel_rfl) (by kernel_rfl) (by kernel_rfl) (Ex.loadM H rfl hc19 Tryz.isAgg9) (Wn.none rfl) rfl rfl (fun _ _ => rfl) ?_))))))
     refine WA.seq (fuel := 0) [7, 8] rfl (by kernel_rfl) (ST (Ex.loadM H rfl hc23 Tryz.isAgg9) rfl (ST (Ex.strNeqC rfl rfl) rfl (NA (WA.done (by kernel_rfl) (TN ?_)))))
     refine WC.condB rfl (fun hk9 => ?_) (fun hk9 => ?_)
     ·
      replace hk9 : ¬ (a7 = a8) := of_not_decide hk9
      rw [if_neg hk9] at e3
      refine SQ (RG (AS rfl rfl (NL (TN (RT ?_)))))
      obtain rfl := Option.some.inj e3
      try dsimp only at h
      obtain rfl := Option.some.inj h
      exact WQ.ret1 rfl rfl H.ext rfl
     ·
      replace hk9 : a7 = a8 := of_not_decide' hk9
      rw [if_pos hk9] at e3
      refine SK (IB (TN ?_))
      obtain ⟨n10, hxn10, e3⟩ := bnd e3
      refine RG (MV rfl rfl (ST (Ex.addC rfl rfl hxn10) rfl (AS rfl rfl (NL ?_))))
      exact WQ.againP m5 [(0, _), (1, _), (5, _)] ⟨rfl, rfl, rfl, trivial⟩ ⟨_, _, rfl, H, hp0, hp1, e3⟩ (Nat.lt_succ_self _)
    ·
     replace hk6 : ¬ (n4 < (p0.length : Int)) := of_decide_eq_false hk6
     rw [if_neg hk6] at e3
     refine WC.exit (WQ.thenExit (WQ.thenExit (WQ.exitHere ?_)))
     exact WQ.meetN [] trivial ⟨_, rfl, H, e3⟩
   ·
    rintro e w ⟨M, rfl, H, q11⟩
    obtain rfl := Option.some.inj q11
    try dsimp only at h
    refine TN (SQ (RG (AS rfl rfl (NL (TN (RT ?_))))))
    obtain rfl := Option.some.inj h
    exact WQ.ret1 rfl rfl H.ext rfl
set_option maxHeartbeats 4000000 in
theorem L_headerExample_ct  {r : Bool} (h : L_headerExample = some r) : Ct Tryz.prog 19 [] (fun M => GlF (fun w => ∃ m, w.cell? ⟨2, 0, none⟩ = some (.int .i64 m)) M) (fun v M => v = Value.bool r) := by
  refine Ct.of Tryz.func19 (enters Tryz.func19 (by kernel_rfl) rfl) rfl rfl rfl ?_
  intro w0 M0 H hp
  have hg_maxl := hp
  unfold L_headerExample at h
  refine SQ (RG (AS rfl rfl (NL (TN (SQ ?_)))))
  obtain ⟨⟨l1, n2, ⟨n3, n4⟩⟩, hx5, h⟩ := bnd h
  try dsimp only at h
  refine RG (WR.litC xty30 Tryz.underlying5 ([65, 58, 98, 10, 10, 99] : List UInt8) H rfl (by rfl) rfl rfl (Wn.none rfl) rfl (fun _ => Wn.none rfl) rfl ?_)
  intro v12 M w H hle hs12
  replace hg_maxl := hg_maxl.mono hle
  refine WR.call H (header_Read_ct hx5) rfl ⟨hg_maxl, hs12⟩ (Wn.none rfl) rfl ?_
  intro v13 M w H hle hR
  replace hg_maxl := hg_maxl.mono hle
  replace hs12 := hs12.mono hle
  try dsimp only at hR
  obtain ⟨x13_0, rfl, f13_0⟩ := hR
  refine MV rfl rfl (ST (Ex.extract rfl rfl) rfl (ST (Ex.extract rfl rfl) rfl (ST (Ex.extract rfl rfl) rfl (WR.alloc [_, _] H Tryz.zeroValue24 rfl (Wn.none rfl) rfl ?_))))
  intro b3 w H
  refine AS rfl rfl (AS rfl rfl (WR.store [_, _] H rfl rfl rfl (by repeat first | exact .head | apply Upd.tail) Tryz.sizeOf24 rfl (by rfl) (by rfl) (Wn.none rfl) ?_))
  intro w H
  refine NL (TN (SQ ?_))
  obtain ⟨⟨l6, ⟨n7, n8⟩⟩, hx9, h⟩ := bnd h
  try dsimp only at h
  refine RG (ST (Ex.build [S [65], S [98]] Tryz.underlying50 Tryz.zeroValue50 (xplaces50 Tryz.underlying50) rfl rfl) rfl (WR.litS (enc := xenc50) xty31 ([([65], [98])] : List (List UInt8 × List UInt8)) H (fun _ => rfl) rfl (by kernel_rfl) rfl rfl rfl (Wn.none rfl) rfl ?_))
  intro v19 M w H hle hs19
  replace hg_maxl := hg_maxl.mono hle
  replace hs12 := hs12.mono hle
  replace f13_0 := f13_0.mono hle
  refine WR.call H (header_Write_ct hx9) rfl (hs19) (Wn.none rfl) rfl ?_
  intro v20 M w H hle hR
  replace hg_maxl := hg_maxl.mono hle
  replace hs12 := hs12.mono hle
  replace f13_0 := f13_0.mono hle
  replace hs19 := hs19.mono hle
  try dsimp only at hR
  obtain ⟨x20_0, rfl, f20_0⟩ := hR
  refine MV rfl rfl (ST (Ex.extract rfl rfl) rfl (ST (Ex.extract rfl rfl) rfl (WR.alloc [_, _] H Tryz.zeroValue24 rfl (Wn.none rfl) rfl ?_)))
  intro b5 w H
  refine AS rfl rfl (WR.store [_, _] H rfl rfl rfl (by repeat first | exact .head | apply Upd.tail) Tryz.sizeOf24 rfl (by rfl) (by rfl) (Wn.none rfl) ?_)
  intro w H
  refine NL (TN (SQ ?_))
  obtain ⟨⟨l10, ⟨n11, n12⟩⟩, hx13, h⟩ := bnd h
  try dsimp only at h
  refine RG (ST (Ex.build [S [84, 111], S [120]] Tryz.underlying50 Tryz.zeroValue50 (xplaces50 Tryz.underlying50) rfl rfl) rfl (WR.litS (enc := xenc50) xty31 ([([84, 111], [120])] : List (List UInt8 × List UInt8)) H (fun _ => rfl) rfl (by kernel_rfl) rfl rfl rfl (Wn.none rfl) rfl ?_))
  intro v25 M w H hle hs25
  replace hg_maxl := hg_maxl.mono hle
  replace hs12 := hs12.mono hle
  replace f13_0 := f13_0.mono hle
  replace hs19 := hs19.mono hle
  replace f20_0 := f20_0.mono hle
  refine WR.call H (header_Get_ct hx13) rfl (hs25) (Wn.none rfl) rfl ?_
  intro v26 M w H hle hR
  replace hg_maxl := hg_maxl.mono hle
  replace hs12 := hs12.mono hle
  replace f13_0 := f13_0.mono hle
  replace hs19 := hs19.mono hle
  replace f20_0 := f20_0.mono hle
  replace hs25 := hs25.mono hle
  try dsimp only at hR
  obtain ⟨x26_0, rfl, f26_0⟩ := hR
  refine MV rfl rfl (ST (Ex.extract rfl rfl) rfl (ST (Ex.extract rfl rfl) rfl (WR.alloc [_, _] H Tryz.zeroValue24 rfl (Wn.none rfl) rfl ?_)))
  intro b7 w H
  refine AS rfl rfl (WR.store [_, _] H rfl rfl rfl (by repeat first | exact .head | apply Upd.tail) Tryz.sizeOf24 rfl (by rfl) (by rfl) (Wn.none rfl) ?_)
  intro w H
  refine NL (TN (SQ ?_))
  obtain ⟨⟨l14, ⟨n15, n16⟩⟩, hx17, h⟩ := bnd h
  try dsimp only at h
  refine RG (ST (Ex.build [S [84, 111], S []] Tryz.underlying50 Tryz.zeroValue50 (xplaces50 Tryz.underlying50) rfl rfl) rfl (ST (Ex.build [S [65], S []] Tryz.underlying50 Tryz.zeroValue50 (xplaces50 Tryz.underlying50) rfl rfl) rfl (WR.litS (enc := xenc50) xty31 ([([84, 111], []), ([65], [])] : List (List UInt8 × List UInt8)) H (fun _ => rfl) rfl (by kernel_rfl) rfl rfl rfl (Wn.none rfl) rfl ?_)))
  intro v32 M w H hle hs32
  replace hg_maxl := hg_maxl.mono hle
  replace hs12 := hs12.mono hle
  replace f13_0 := f13_0.mono hle
  replace hs19 := hs19.mono hle
  replace f20_0 := f20_0.mono hle
  replace hs25 := hs25.mono hle
  replace f26_0 := f26_0.mono hle
  refine WR.call H (header_Without_ct hx17) rfl (hs32) (Wn.none rfl) rfl ?_
  intro v33 M w H hle hR
  replace hg_maxl := hg_maxl.mono hle
  replace hs12 := hs12.mono hle
  replace f13_0 := f13_0.mono hle
  replace hs19 := hs19.mono hle
  replace f20_0 := f20_0.mono hle
  replace hs25 := hs25.mono hle
  replace f26_0 := f26_0.mono hle
  replace hs32 := hs32.mono hle
  try dsimp only at hR
  obtain ⟨x33_0, rfl, f33_0⟩ := hR
  refine MV rfl rfl (ST (Ex.extract rfl rfl) rfl (ST (Ex.extract rfl rfl) rfl (WR.alloc [_, _] H Tryz.zeroValue24 rfl (Wn.none rfl) rfl ?_)))
  intro b9 w H
  refine AS rfl rfl (WR.store [_, _] H rfl rfl rfl (by repeat first | exact .head | apply Upd.tail) Tryz.sizeOf24 rfl (by rfl) (by rfl) (Wn.none rfl) ?_)
  intro w H
  refine NL (TN (SQ ?_))
  obtain ⟨o18, e19, h⟩ := bnd h
  refine WC.cutX (fun e w => ∃ (b20 : Bool) (M : Mem), e = [(0, Value.bool b20)] ∧ St w0 M0 M [] w ∧ GlF (fun w => ∃ m, w.cell? ⟨2, 0, none⟩ = some (.int .i64 m)) M ∧ some b20 = some o18) [] ?_ ?_ (trivial)
  ·
   refine RG (ST (Ex.fieldAddr Tryz.underlying24 rfl Tryz.sizeOf3 (by decide) rfl) rfl (ST (Ex.load1 H rfl (by repeat (first | exact List.Mem.head _ | apply List.Mem.tail)) Tryz.isAgg3 (by rfl)) rfl ?_))
   by_cases hk21 : n3 = (0 : Int)
   ·
    rw [if_pos hk21] at e19
    by_cases hk22 : n7 = (0 : Int)
    ·
     rw [if_pos hk22] at e19
     by_cases hk23 : n11 = (0 : Int)
     ·
      rw [if_pos hk23] at e19
      by_cases hk24 : n15 = (0 : Int)
      ·
       rw [if_pos hk24] at e19
       by_cases hk25 : (l1.length : Int) = (1 : Int)
       ·
        rw [if_pos hk25] at e19
        obtain ⟨a26, hxa26, e19⟩ := bnd e19
        obtain ⟨b61, o61, ha61, hc61⟩ := f13_0.atC hxa26
        by_cases hk27 : a26.1 = [65] ∧ a26.2 = [98]
        ·
         rw [if_pos hk27] at e19
         by_cases hk28 : n2 = (5 : Int)
         ·
          rw [if_pos hk28] at e19
          by_cases hk29 : l6 = [65, 58, 32, 98, 13, 10, 13, 10]
          ·
           rw [if_pos hk29] at e19
           obtain ⟨b30, hx31, e19⟩ := bnd e19
           rcases b30 with _ | _
           ·
            rw [if_neg Bool.false_ne_true] at e19
            refine WR.stepE (v' := .bool true) (Ex.eql rfl rfl) (congrArg Value.bool (decide_eq_true hk21)) (Wn.none rfl) rfl rfl (MV rfl rfl (SG (Ex.fieldAddr Tryz.underlying24 rfl Tryz.sizeOf3 (by decide) rfl) rfl rfl rfl (SG (Ex.load1 H rfl (by repeat (first | exact List.Mem.head _ | apply List.Mem.tail)) Tryz.isAgg3 (by rfl)) rfl rfl rfl ?_)))
            refine WR.stepE (v' := .bool true) (Ex.eql rfl rfl) (congrArg Value.bool (decide_eq_true hk22)) (Wn.some rfl rfl rfl) rfl rfl (PT rfl rfl rfl (MV rfl rfl (SG (Ex.fieldAddr Tryz.underlying24 rfl Tryz.sizeOf3 (by decide) rfl) rfl rfl rfl (SG (Ex.load1 H rfl (by repeat (first | exact List.Mem.head _ | apply List.Mem.tail)) Tryz.isAgg3 (by rfl)) rfl rfl rfl ?_))))
            refine WR.stepE (v' := .bool true) (Ex.eql rfl rfl) (congrArg Value.bool (decide_eq_true hk23)) (Wn.some rfl rfl rfl) rfl rfl (PT rfl rfl rfl (MV rfl rfl (SG (Ex.fieldAddr Tryz.underlying24 rfl Tryz.sizeOf3 (by decide) rfl) rfl rfl rfl (SG (Ex.load1 H rfl (by repeat (first | exact List.Mem.head _ | apply List.Mem.tail)) Tryz.isAgg3 (by rfl)) rfl rfl rfl ?_))))
            refine WR.stepE (v' := .bool true) (Ex.eql rfl rfl) (congrArg Value.bool (decide_eq_true hk24)) (Wn.some rfl rfl rfl) rfl rfl (PT rfl rfl rfl (MV rfl rfl (SG (Ex.move rfl) rfl rfl rfl (SG (Ex.lenSlS Tryz.underlying31 f13_0 rfl) rfl rfl rfl (WR.stepE (v' := .bool true) (Ex.eql rfl rfl) (congrArg Value.bool (decide_eq_true hk25)) (Wn.some rfl rfl rfl) rfl rfl (PT rfl rfl rfl (MV rfl rfl (SG (Ex.move rfl) rfl rfl rfl (SG (Ex.idxAt ha61 Tryz.underlying31 Tryz.sizeOf50 rfl rfl) rfl rfl rfl (SG (Ex.loadAggM H rfl hc61 Tryz.isAgg50 Tryz.sizeOf50 (by rfl)) rfl rfl rfl ?_))))))))))
            refine SG (Ex.build [S [65], S [98]] Tryz.underlying50 Tryz.zeroValue50 (xplaces50 Tryz.underlying50) rfl rfl) rfl rfl rfl (WR.stepE (v' := .bool true) (Ex.eqlAgg rfl rfl (by kernel_rfl) (xeq50 a26.1 [65] a26.2 [98])) (congrArg Value.bool (decide_eq_true hk27)) (Wn.some rfl rfl rfl) rfl rfl (PT rfl rfl rfl (MV rfl rfl (SG (Ex.move rfl) rfl rfl rfl (WR.stepE (v' := .bool true) (Ex.eql rfl rfl) (congrArg Value.bool (decide_eq_true hk28)) (Wn.some rfl rfl rfl) rfl rfl (PT rfl rfl rfl (MV rfl rfl (SG (Ex.move rfl) rfl rfl rfl (SG (Ex.toStr Tryz.underlying30 Tryz.underlying5 Tryz.underlying9 H (f20_0) rfl) rfl rfl rfl (WR.stepE (v' := .bool true) (Ex.strEql rfl rfl) (congrArg Value.bool (decide_eq_true hk29)) (Wn.some rfl rfl rfl) rfl rfl (PT rfl rfl rfl (MV rfl rfl (SG (Ex.move rfl) rfl rfl rfl (WR.lit (enc := encS) xty43 ([[120]] : List (List UInt8)) H rfl (by rfl) (fun _ => rfl) rfl rfl (Wn.some rfl rfl rfl) rfl ?_))))))))))))))
            intro v77 M w H hle hs77
            replace hg_maxl := hg_maxl.mono hle
            replace hs12 := hs12.mono hle
            replace f13_0 := f13_0.mono hle
            replace hs19 := hs19.mono hle
            replace f20_0 := f20_0.mono hle
            replace hs25 := hs25.mono hle
            replace f26_0 := f26_0.mono hle
            replace hs32 := hs32.mono hle
            replace f33_0 := f33_0.mono hle
            replace hc61 := hc61.mono hle
            refine WR.call H (R_Strings_ct hx31) rfl ⟨f26_0, hs77⟩ (Wn.some rfl rfl rfl) rfl ?_
            intro v78 M w H hle hR
            replace hg_maxl := hg_maxl.mono hle
            replace hs12 := hs12.mono hle
            replace f13_0 := f13_0.mono hle
            replace hs19 := hs19.mono hle
            replace f20_0 := f20_0.mono hle
            replace hs25 := hs25.mono hle
            replace f26_0 := f26_0.mono hle
            replace hs32 := hs32.mono hle
            replace f33_0 := f33_0.mono hle
            replace hc61 := hc61.mono hle
            replace hs77 := hs77.mono hle
            obtain rfl := hR
            refine PT rfl rfl rfl (MV rfl rfl (WR.skipN 3 rfl rfl (PF rfl rfl rfl (AS rfl rfl (NL ?_)))))
            exact WQ.meetN [(0, _)] ⟨rfl, trivial⟩ ⟨_, _, rfl, (H.pick (L' := []) (by repeat (first | exact Pick.nil | refine Pick.cons (by repeat first | exact .head | apply Rem.tail) ?_))), hg_maxl, e19⟩
           ·
            rw [if_pos rfl] at e19
            refine WR.stepE (v' := .bool true) (Ex.eql rfl rfl) (congrArg Value.bool (decide_eq_true hk21)) (Wn.none rfl) rfl rfl (MV rfl rfl (SG (Ex.fieldAddr Tryz.underlying24 rfl Tryz.sizeOf3 (by decide) rfl) rfl rfl rfl (SG (Ex.load1 H rfl (by repeat (first | exact List.Mem.head _ | apply List.Mem.tail)) Tryz.isAgg3 (by rfl)) rfl rfl rfl ?_)))
            refine WR.stepE (v' := .bool true) (Ex.eql rfl rfl) (congrArg Value.bool (decide_eq_true hk22)) (Wn.some rfl rfl rfl) rfl rfl (PT rfl rfl rfl (MV rfl rfl (SG (Ex.fieldAddr Tryz.underlying24 rfl Tryz.sizeOf3 (by decide) rfl) rfl rfl rfl (SG (Ex.load1 H rfl (by repeat (first | exact List.Mem.head _ | apply List.Mem.tail)) Tryz.isAgg3 (by rfl)) rfl rfl rfl ?_))))
            refine WR.stepE (v' := .bool true) (Ex.eql rfl rfl) (congrArg Value.bool (decide_eq_true hk23)) (Wn.some rfl rfl rfl) rfl rfl (PT rfl rfl rfl (MV rfl rfl (SG (Ex.fieldAddr Tryz.underlying24 rfl Tryz.sizeOf3 (by decide) rfl) rfl rfl rfl (SG (Ex.load1 H rfl (by repeat (first | exact List.Mem.head _ | apply List.Mem.tail)) Tryz.isAgg3 (by rfl)) rfl rfl rfl ?_))))
            refine WR.stepE (v' := .bool true) (Ex.eql rfl rfl) (congrArg Value.bool (decide_eq_true hk24)) (Wn.some rfl rfl rfl) rfl rfl (PT rfl rfl rfl (MV rfl rfl (SG (Ex.move rfl) rfl rfl rfl (SG (Ex.lenSlS Tryz.underlying31 f13_0 rfl) rfl rfl rfl (WR.stepE (v' := .bool true) (Ex.eql rfl rfl) (congrArg Value.bool (decide_eq_true hk25)) (Wn.some rfl rfl rfl) rfl rfl (PT rfl rfl rfl (MV rfl rfl (SG (Ex.move rfl) rfl rfl rfl (SG (Ex.idxAt ha61 Tryz.underlying31 Tryz.sizeOf50 rfl rfl) rfl rfl rfl (SG (Ex.loadAggM H rfl hc61 Tryz.isAgg50 Tryz.sizeOf50 (by rfl)) rfl rfl rfl ?_))))))))))
            refine SG (Ex.build [S [65], S [98]] Tryz.underlying50 Tryz.zeroValue50 (xplaces50 Tryz.underlying50) rfl rfl) rfl rfl rfl (WR.stepE (v' := .bool true) (Ex.eqlAgg rfl rfl (by kernel_rfl) (xeq50 a26.1 [65] a26.2 [98])) (congrArg Value.bool (decide_eq_true hk27)) (Wn.some rfl rfl rfl) rfl rfl (PT rfl rfl rfl (MV rfl rfl (SG (Ex.move rfl) rfl rfl rfl (WR.stepE (v' := .bool true) (Ex.eql rfl rfl) (congrArg Value.bool (decide_eq_true hk28)) (Wn.some rfl rfl rfl) rfl rfl (PT rfl rfl rfl (MV rfl rfl (SG (Ex.move rfl) rfl rfl rfl (SG (Ex.toStr Tryz.underlying30 Tryz.underlying5 Tryz.underlying9 H (f20_0) rfl) rfl rfl rfl (WR.stepE (v' := .bool true) (Ex.strEql rfl rfl) (congrArg Value.bool (decide_eq_true hk29)) (Wn.some rfl rfl rfl) rfl rfl (PT rfl rfl rfl (MV rfl rfl (SG (Ex.move rfl) rfl rfl rfl (WR.lit (enc := encS) xty43 ([[120]] : List (List UInt8)) H rfl (by rfl) (fun _ => rfl) rfl rfl (Wn.some rfl rfl rfl) rfl ?_))))))))))))))
            intro v77 M w H hle hs77
            replace hg_maxl := hg_maxl.mono hle
            replace hs12 := hs12.mono hle
            replace f13_0 := f13_0.mono hle
            replace hs19 := hs19.mono hle
            replace f20_0 := f20_0.mono hle
            replace hs25 := hs25.mono hle
            replace f26_0 := f26_0.mono hle
            replace hs32 := hs32.mono hle
            replace f33_0 := f33_0.mono hle
            replace hc61 := hc61.mono hle
            refine WR.call H (R_Strings_ct hx31) rfl ⟨f26_0, hs77⟩ (Wn.some rfl rfl rfl) rfl ?_
            intro v78 M w H hle hR
            replace hg_maxl := hg_maxl.mono hle
            replace hs12 := hs12.mono hle
            replace f13_0 := f13_0.mono hle
            replace hs19 := hs19.mono hle
            replace f20_0 := f20_0.mono hle
            replace hs25 := hs25.mono hle
            replace f26_0 := f26_0.mono hle
            replace hs32 := hs32.mono hle
            replace f33_0 := f33_0.mono hle
            replace hc61 := hc61.mono hle
            replace hs77 := hs77.mono hle
            obtain rfl := hR
            refine PT rfl rfl rfl (MV rfl rfl (SG (Ex.move rfl) rfl rfl rfl (SG (Ex.lenSlS Tryz.underlying31 f33_0 rfl) rfl rfl rfl (SG (Ex.eql rfl rfl) rfl rfl rfl (PT rfl rfl rfl (AS rfl rfl (NL ?_)))))))
            exact WQ.meetN [(0, _)] ⟨rfl, trivial⟩ ⟨_, _, rfl, (H.pick (L' := []) (by repeat (first | exact Pick.nil | refine Pick.cons (by repeat first | exact .head | apply Rem.tail) ?_))), hg_maxl, e19⟩
          ·
           rw [if_neg hk29] at e19
           refine WR.stepE (v' := .bool true) (Ex.eql rfl rfl) (congrArg Value.bool (decide_eq_true hk21)) (Wn.none rfl) rfl rfl (MV rfl rfl (SG (Ex.fieldAddr Tryz.underlying24 rfl Tryz.sizeOf3 (by decide) rfl) rfl rfl rfl (SG (Ex.load1 H rfl (by repeat (first | exact List.Mem.head _ | apply List.Mem.tail)) Tryz.isAgg3 (by rfl)) rfl rfl rfl ?_)))
           refine WR.stepE (v' := .bool true) (Ex.eql rfl rfl) (congrArg Value.bool (decide_eq_true hk22)) (Wn.some rfl rfl rfl) rfl rfl (PT rfl rfl rfl (MV rfl rfl (SG (Ex.fieldAddr Tryz.underlying24 rfl Tryz.sizeOf3 (by decide) rfl) rfl rfl rfl (SG (Ex.load1 H rfl (by repeat (first | exact List.Mem.head _ | apply List.Mem.tail)) Tryz.isAgg3 (by rfl)) rfl rfl rfl ?_))))
           refine WR.stepE (v' := .bool true) (Ex.eql rfl rfl) (congrArg Value.bool (decide_eq_true hk23)) (Wn.some rfl rfl rfl) rfl rfl (PT rfl rfl rfl (MV rfl rfl (SG (Ex.fieldAddr Tryz.underlying24 rfl Tryz.sizeOf3 (by decide) rfl) rfl rfl rfl (SG (Ex.load1 H rfl (by repeat (first | exact List.Mem.head _ | apply List.Mem.tail)) Tryz.isAgg3 (by rfl)) rfl rfl rfl ?_))))
           refine WR.stepE (v' := .bool true) (Ex.eql rfl rfl) (congrArg Value.bool (decide_eq_true hk24)) (Wn.some rfl rfl rfl) rfl rfl (PT rfl rfl rfl (MV rfl rfl (SG (Ex.move rfl) rfl rfl rfl (SG (Ex.lenSlS Tryz.underlying31 f13_0 rfl) rfl rfl rfl (WR.stepE (v' := .bool true) (Ex.eql rfl rfl) (congrArg Value.bool (decide_eq_true hk25)) (Wn.some rfl rfl rfl) rfl rfl (PT rfl rfl rfl (MV rfl rfl (SG (Ex.move rfl) rfl rfl rfl (SG (Ex.idxAt ha61 Tryz.underlying31 Tryz.sizeOf50 rfl rfl) rfl rfl rfl (SG (Ex.loadAggM H rfl hc61 Tryz.isAgg50 Tryz.sizeOf50 (by rfl)) rfl rfl rfl ?_))))))))))
           refine SG (Ex.build [S [65], S [98]] Tryz.underlying50 Tryz.zeroValue50 (xplaces50 Tryz.underlying50) rfl rfl) rfl rfl rfl (WR.stepE (v' := .bool true) (Ex.eqlAgg rfl rfl (by kernel_rfl) (xeq50 a26.1 [65] a26.2 [98])) (congrArg Value.bool (decide_eq_true hk27)) (Wn.some rfl rfl rfl) rfl rfl (PT rfl rfl rfl (MV rfl rfl (SG (Ex.move rfl) rfl rfl rfl (WR.stepE (v' := .bool true) (Ex.eql rfl rfl) (congrArg Value.bool (decide_eq_true hk28)) (Wn.some rfl rfl rfl) rfl rfl (PT rfl rfl rfl (MV rfl rfl (SG (Ex.move rfl) rfl rfl rfl (SG (Ex.toStr Tryz.underlying30 Tryz.underlying5 Tryz.underlying9 H (f20_0) rfl) rfl rfl rfl (WR.stepE (v' := .bool false) (Ex.strEql rfl rfl) (congrArg Value.bool (decide_eq_false hk29)) (Wn.some rfl rfl rfl) rfl rfl (PT rfl rfl rfl (MV rfl rfl (WR.skipN 3 rfl rfl (PF rfl rfl rfl (MV rfl rfl (WR.skipN 3 rfl rfl (PF rfl rfl rfl (AS rfl rfl (NL ?_)))))))))))))))))))
           exact WQ.meetN [(0, _)] ⟨rfl, trivial⟩ ⟨_, _, rfl, (H.pick (L' := []) (by repeat (first | exact Pick.nil | refine Pick.cons (by repeat first | exact .head | apply Rem.tail) ?_))), hg_maxl, e19⟩
         ·
          rw [if_neg hk28] at e19
          refine WR.stepE (v' := .bool true) (Ex.eql rfl rfl) (congrArg Value.bool (decide_eq_true hk21)) (Wn.none rfl) rfl rfl (MV rfl rfl (SG (Ex.fieldAddr Tryz.underlying24 rfl Tryz.sizeOf3 (by decide) rfl) rfl rfl rfl (SG (Ex.load1 H rfl (by repeat (first | exact List.Mem.head _ | apply List.Mem.tail)) Tryz.isAgg3 (by rfl)) rfl rfl rfl ?_)))
          refine WR.stepE (v' := .bool true) (Ex.eql rfl rfl) (congrArg Value.bool (decide_eq_true hk22)) (Wn.some rfl rfl rfl) rfl rfl (PT rfl rfl rfl (MV rfl rfl (SG (Ex.fieldAddr Tryz.underlying24 rfl Tryz.sizeOf3 (by decide) rfl) rfl rfl rfl (SG (Ex.load1 H rfl (by repeat (first | exact List.Mem.head _ | apply List.Mem.tail)) Tryz.isAgg3 (by rfl)) rfl rfl rfl ?_))))
          refine WR.stepE (v' := .bool true) (Ex.eql rfl rfl) (congrArg Value.bool (decide_eq_true hk23)) (Wn.some rfl rfl rfl) rfl rfl (PT rfl rfl rfl (MV rfl rfl (SG (Ex.fieldAddr Tryz.underlying24 rfl Tryz.sizeOf3 (by decide) rfl) rfl rfl rfl (SG (Ex.load1 H rfl (by repeat (first | exact List.Mem.head _ | apply List.Mem.tail)) Tryz.isAgg3 (by rfl)) rfl rfl rfl ?_))))
          refine WR.stepE (v' := .bool true) (Ex.eql rfl rfl) (congrArg Value.bool (decide_eq_true hk24)) (Wn.some rfl rfl rfl) rfl rfl (PT rfl rfl rfl (MV rfl rfl (SG (Ex.move rfl) rfl rfl rfl (SG (Ex.lenSlS Tryz.underlying31 f13_0 rfl) rfl rfl rfl (WR.stepE (v' := .bool true) (Ex.eql rfl rfl) (congrArg Value.bool (decide_eq_true hk25)) (Wn.some rfl rfl rfl) rfl rfl (PT rfl rfl rfl (MV rfl rfl (SG (Ex.move rfl) rfl rfl rfl (SG (Ex.idxAt ha61 Tryz.underlying31 Tryz.sizeOf50 rfl rfl) rfl rfl rfl (SG (Ex.loadAggM H rfl hc61 Tryz.isAgg50 Tryz.sizeOf50 (by rfl)) rfl rfl rfl ?_))))))))))
          refine SG (Ex.build [S [65], S [98]] Tryz.underlying50 Tryz.zeroValue50 (xplaces50 Tryz.underlying50) rfl rfl) rfl rfl rfl (WR.stepE (v' := .bool true) (Ex.eqlAgg rfl rfl (by kernel_rfl) (xeq50 a26.1 [65] a26.2 [98])) (congrArg Value.bool (decide_eq_true hk27)) (Wn.some rfl rfl rfl) rfl rfl (PT rfl rfl rfl (MV rfl rfl (SG (Ex.move rfl) rfl rfl rfl (WR.stepE (v' := .bool false) (Ex.eql rfl rfl) (congrArg Value.bool (decide_eq_false hk28)) (Wn.some rfl rfl rfl) rfl rfl (PT rfl rfl rfl (MV rfl rfl (WR.skipN 3 rfl rfl (PF rfl rfl rfl (MV rfl rfl (WR.skipN 3 rfl rfl (PF rfl rfl rfl (MV rfl rfl (WR.skipN 3 rfl rfl (PF rfl rfl rfl (AS rfl rfl (NL ?_)))))))))))))))))
          exact WQ.meetN [(0, _)] ⟨rfl, trivial⟩ ⟨_, _, rfl, (H.pick (L' := []) (by repeat (first | exact Pick.nil | refine Pick.cons (by repeat first | exact .head | apply Rem.tail) ?_))), hg_maxl, e19⟩
        ·
         rw [if_neg hk27] at e19
         refine WR.stepE (v' := .bool true) (Ex.eql rfl rfl) (congrArg Value.bool (decide_eq_true hk21)) (Wn.none rfl) rfl rfl (MV rfl rfl (SG (Ex.fieldAddr Tryz.underlying24 rfl Tryz.sizeOf3 (by decide) rfl) rfl rfl rfl (SG (Ex.load1 H rfl (by repeat (first | exact List.Mem.head _ | apply List.Mem.tail)) Tryz.isAgg3 (by rfl)) rfl rfl rfl ?_)))
         refine WR.stepE (v' := .bool true) (Ex.eql rfl rfl) (congrArg Value.bool (decide_eq_true hk22)) (Wn.some rfl rfl rfl) rfl rfl (PT rfl rfl rfl (MV rfl rfl (SG (Ex.fieldAddr Tryz.underlying24 rfl Tryz.sizeOf3 (by decide) rfl) rfl rfl rfl (SG (Ex.load1 H rfl (by repeat (first | exact List.Mem.head _ | apply List.Mem.tail)) Tryz.isAgg3 (by rfl)) rfl rfl rfl ?_))))
         refine WR.stepE (v' := .bool true) (Ex.eql rfl rfl) (congrArg Value.bool (decide_eq_true hk23)) (Wn.some rfl rfl rfl) rfl rfl (PT rfl rfl rfl (MV rfl rfl (SG (Ex.fieldAddr Tryz.underlying24 rfl Tryz.sizeOf3 (by decide) rfl) rfl rfl rfl (SG (Ex.load1 H rfl (by repeat (first | exact List.Mem.head _ | apply List.Mem.tail)) Tryz.isAgg3 (by rfl)) rfl rfl rfl ?_))))
         refine WR.stepE (v' := .bool true) (Ex.eql rfl rfl) (congrArg Value.bool (decide_eq_true hk24)) (Wn.some rfl rfl rfl) rfl rfl (PT rfl rfl rfl (MV rfl rfl (SG (Ex.move rfl) rfl rfl rfl (SG (Ex.lenSlS Tryz.underlying31 f13_0 rfl) rfl rfl rfl (WR.stepE (v' := .bool true) (Ex.eql rfl rfl) (congrArg Value.bool (decide_eq_true hk25)) (Wn.some rfl rfl rfl) rfl rfl (PT rfl rfl rfl (MV rfl rfl (SG (Ex.move rfl) rfl rfl rfl (SG (Ex.idxAt ha61 Tryz.underlying31 Tryz.sizeOf50 rfl rfl) rfl rfl rfl (SG (Ex.loadAggM H rfl hc61 Tryz.isAgg50 Tryz.sizeOf50 (by rfl)) rfl rfl rfl ?_))))))))))
         refine SG (Ex.build [S [65], S [98]] Tryz.underlying50 Tryz.zeroValue50 (xplaces50 Tryz.underlying50) rfl rfl) rfl rfl rfl (WR.stepE (v' := .bool false) (Ex.eqlAgg rfl rfl (by kernel_rfl) (xeq50 a26.1 [65] a26.2 [98])) (congrArg Value.bool (decide_eq_false hk27)) (Wn.some rfl rfl rfl) rfl rfl (PT rfl rfl rfl (MV rfl rfl (GF rfl rfl rfl (GF rfl rfl rfl (PF rfl rfl rfl (MV rfl rfl (WR.skipN 3 rfl rfl (PF rfl rfl rfl (MV rfl rfl (WR.skipN 3 rfl rfl (PF rfl rfl rfl (MV rfl rfl (WR.skipN 3 rfl rfl (PF rfl rfl rfl (AS rfl rfl (NL ?_)))))))))))))))))
         exact WQ.meetN [(0, _)] ⟨rfl, trivial⟩ ⟨_, _, rfl, (H.pick (L' := []) (by repeat (first | exact Pick.nil | refine Pick.cons (by repeat first | exact .head | apply Rem.tail) ?_))), hg_maxl, e19⟩
       ·
        rw [if_neg hk25] at e19
        refine WR.stepE (v' := .bool true) (Ex.eql rfl rfl) (congrArg Value.bool (decide_eq_true hk21)) (Wn.none rfl) rfl rfl (MV rfl rfl (SG (Ex.fieldAddr Tryz.underlying24 rfl Tryz.sizeOf3 (by decide) rfl) rfl rfl rfl (SG (Ex.load1 H rfl (by repeat (first | exact List.Mem.head _ | apply List.Mem.tail)) Tryz.isAgg3 (by rfl)) rfl rfl rfl ?_)))
        refine WR.stepE (v' := .bool true) (Ex.eql rfl rfl) (congrArg Value.bool (decide_eq_true hk22)) (Wn.some rfl rfl rfl) rfl rfl (PT rfl rfl rfl (MV rfl rfl (SG (Ex.fieldAddr Tryz.underlying24 rfl Tryz.sizeOf3 (by decide) rfl) rfl rfl rfl (SG (Ex.load1 H rfl (by repeat (first | exact List.Mem.head _ | apply List.Mem.tail)) Tryz.isAgg3 (by rfl)) rfl rfl rfl ?_))))
        refine WR.stepE (v' := .bool true) (Ex.eql rfl rfl) (congrArg Value.bool (decide_eq_true hk23)) (Wn.some rfl rfl rfl) rfl rfl (PT rfl rfl rfl (MV rfl rfl (SG (Ex.fieldAddr Tryz.underlying24 rfl Tryz.sizeOf3 (by decide) rfl) rfl rfl rfl (SG (Ex.load1 H rfl (by repeat (first | exact List.Mem.head _ | apply List.Mem.tail)) Tryz.isAgg3 (by rfl)) rfl rfl rfl ?_))))
        refine WR.stepE (v' := .bool true) (Ex.eql rfl rfl) (congrArg Value.bool (decide_eq_true hk24)) (Wn.some rfl rfl rfl) rfl rfl (PT rfl rfl rfl (MV rfl rfl (SG (Ex.move rfl) rfl rfl rfl (SG (Ex.lenSlS Tryz.underlying31 f13_0 rfl) rfl rfl rfl (WR.stepE (v' := .bool false) (Ex.eql rfl rfl) (congrArg Value.bool (decide_eq_false hk25)) (Wn.some rfl rfl rfl) rfl rfl (PT rfl rfl rfl (MV rfl rfl (WR.skipN 5 rfl rfl (PF rfl rfl rfl (MV rfl rfl (GF rfl rfl rfl (GF rfl rfl rfl (PF rfl rfl rfl (MV rfl rfl (WR.skipN 3 rfl rfl (PF rfl rfl rfl (MV rfl rfl (WR.skipN 3 rfl rfl (PF rfl rfl rfl (MV rfl rfl (WR.skipN 3 rfl rfl (PF rfl rfl rfl (AS rfl rfl (NL ?_))))))))))))))))))))))))
        exact WQ.meetN [(0, _)] ⟨rfl, trivial⟩ ⟨_, _, rfl, (H.pick (L' := []) (by repeat (first | exact Pick.nil | refine Pick.cons (by repeat first | exact .head | apply Rem.tail) ?_))), hg_maxl, e19⟩
      ·
       rw [if_neg hk24] at e19
       refine WR.stepE (v' := .bool true) (Ex.eql rfl rfl) (congrArg Value.bool (decide_eq_true hk21)) (Wn.none rfl) rfl rfl (MV rfl rfl (SG (Ex.fieldAddr Tryz.underlying24 rfl Tryz.sizeOf3 (by decide) rfl) rfl rfl rfl (SG (Ex.load1 H rfl (by repeat (first | exact List.Mem.head _ | apply List.Mem.tail)) Tryz.isAgg3 (by rfl)) rfl rfl rfl ?_)))
       refine WR.stepE (v' := .bool true) (Ex.eql rfl rfl) (congrArg Value.bool (decide_eq_true hk22)) (Wn.some rfl rfl rfl) rfl rfl (PT rfl rfl rfl (MV rfl rfl (SG (Ex.fieldAddr Tryz.underlying24 rfl Tryz.sizeOf3 (by decide) rfl) rfl rfl rfl (SG (Ex.load1 H rfl (by repeat (first | exact List.Mem.head _ | apply List.Mem.tail)) Tryz.isAgg3 (by rfl)) rfl rfl rfl ?_))))
       refine WR.stepE (v' := .bool true) (Ex.eql rfl rfl) (congrArg Value.bool (decide_eq_true hk23)) (Wn.some rfl rfl rfl) rfl rfl (PT rfl rfl rfl (MV rfl rfl (SG (Ex.fieldAddr Tryz.underlying24 rfl Tryz.sizeOf3 (by decide) rfl) rfl rfl rfl (SG (Ex.load1 H rfl (by repeat (first | exact List.Mem.head _ | apply List.Mem.tail)) Tryz.isAgg3 (by rfl)) rfl rfl rfl ?_))))
       refine WR.stepE (v' := .bool false) (Ex.eql rfl rfl) (congrArg Value.bool (decide_eq_false hk24)) (Wn.some rfl rfl rfl) rfl rfl (PT rfl rfl rfl (MV rfl rfl (WR.skipN 3 rfl rfl (PF rfl rfl rfl (MV rfl rfl (WR.skipN 5 rfl rfl (PF rfl rfl rfl (MV rfl rfl (GF rfl rfl rfl (GF rfl rfl rfl (PF rfl rfl rfl (MV rfl rfl (WR.skipN 3 rfl rfl (PF rfl rfl rfl (MV rfl rfl (WR.skipN 3 rfl rfl (PF rfl rfl rfl (MV rfl rfl (WR.skipN 3 rfl rfl (PF rfl rfl rfl (AS rfl rfl (NL ?_))))))))))))))))))))))
       exact WQ.meetN [(0, _)] ⟨rfl, trivial⟩ ⟨_, _, rfl, (H.pick (L' := []) (by repeat (first | exact Pick.nil | refine Pick.cons (by repeat first | exact .head | apply Rem.tail) ?_))), hg_maxl, e19⟩
     ·
      rw [if_neg hk23] at e19
      refine WR.stepE (v' := .bool true) (Ex.eql rfl rfl) (congrArg Value.bool (decide_eq_true hk21)) (Wn.none rfl) rfl rfl (MV rfl rfl (SG (Ex.fieldAddr Tryz.underlying24 rfl Tryz.sizeOf3 (by decide) rfl) rfl rfl rfl (SG (Ex.load1 H rfl (by repeat (first | exact List.Mem.head _ | apply List.Mem.tail)) Tryz.isAgg3 (by rfl)) rfl rfl rfl ?_)))
      refine WR.stepE (v' := .bool true) (Ex.eql rfl rfl) (congrArg Value.bool (decide_eq_true hk22)) (Wn.some rfl rfl rfl) rfl rfl (PT rfl rfl rfl (MV rfl rfl (SG (Ex.fieldAddr Tryz.underlying24 rfl Tryz.sizeOf3 (by decide) rfl) rfl rfl rfl (SG (Ex.load1 H rfl (by repeat (first | exact List.Mem.head _ | apply List.Mem.tail)) Tryz.isAgg3 (by rfl)) rfl rfl rfl ?_))))
      refine WR.stepE (v' := .bool false) (Ex.eql rfl rfl) (congrArg Value.bool (decide_eq_false hk23)) (Wn.some rfl rfl rfl) rfl rfl (PT rfl rfl rfl (MV rfl rfl (WR.skipN 3 rfl rfl (PF rfl rfl rfl (MV rfl rfl (WR.skipN 3 rfl rfl (PF rfl rfl rfl (MV rfl rfl (WR.skipN 5 rfl rfl (PF rfl rfl rfl (MV rfl rfl (GF rfl rfl rfl (GF rfl rfl rfl (PF rfl rfl rfl (MV rfl rfl (WR.skipN 3 rfl rfl (PF rfl rfl rfl (MV rfl rfl (WR.skipN 3 rfl rfl (PF rfl rfl rfl (MV rfl rfl (WR.skipN 3 rfl rfl (PF rfl rfl rfl (AS rfl rfl (NL ?_)))))))))))))))))))))))))
      exact WQ.meetN [(0, _)] ⟨rfl, trivial⟩ ⟨_, _, rfl, (H.pick (L' := []) (by repeat (first | exact Pick.nil | refine Pick.cons (by repeat first | exact .head | apply Rem.tail) ?_))), hg_maxl, e19⟩
    ·
     rw [if_neg hk22] at e19
     refine WR.stepE (v' := .bool true) (Ex.eql rfl rfl) (congrArg Value.bool (decide_eq_true hk21)) (Wn.none rfl) rfl rfl (MV rfl rfl (SG (Ex.fieldAddr Tryz.underlying24 rfl Tryz.sizeOf3 (by decide) rfl) rfl rfl rfl (SG (Ex.load1 H rfl (by repeat (first | exact List.Mem.head _ | apply List.Mem.tail)) Tryz.isAgg3 (by rfl)) rfl rfl rfl ?_)))
     refine WR.stepE (v' := .bool false) (Ex.eql rfl rfl) (congrArg Value.bool (decide_eq_false hk22)) (Wn.some rfl rfl rfl) rfl rfl (PT rfl rfl rfl (MV rfl rfl (WR.skipN 3 rfl rfl (PF rfl rfl rfl (MV rfl rfl (WR.skipN 3 rfl rfl (PF rfl rfl rfl (MV rfl rfl (WR.skipN 3 rfl rfl (PF rfl rfl rfl (MV rfl rfl (WR.skipN 5 rfl rfl (PF rfl rfl rfl (MV rfl rfl (GF rfl rfl rfl (GF rfl rfl rfl (PF rfl rfl rfl (MV rfl rfl (WR.skipN 3 rfl rfl (PF rfl rfl rfl (MV rfl rfl (WR.skipN 3 rfl rfl (PF rfl rfl rfl (MV rfl rfl (WR.skipN 3 rfl rfl (PF rfl rfl rfl (AS rfl rfl (NL ?_))))))))))))))))))))))))))))
     exact WQ.meetN [(0, _)] ⟨rfl, trivial⟩ ⟨_, _, rfl, (H.pick (L' := []) (by repeat (first | exact Pick.nil | refine Pick.cons (by repeat first | exact .head | apply Rem.tail) ?_))), hg_maxl, e19⟩
   ·
    rw [if_neg hk21] at e19
    refine WR.stepE (v' := .bool false) (Ex.eql rfl rfl) (congrArg Value.bool (decide_eq_false hk21)) (Wn.none rfl) rfl rfl (MV rfl rfl (WR.skipN 3 rfl rfl (PF rfl rfl rfl (MV rfl rfl (WR.skipN 3 rfl rfl (PF rfl rfl rfl (MV rfl rfl (WR.skipN 3 rfl rfl (PF rfl rfl rfl (MV rfl rfl (WR.skipN 3 rfl rfl (PF rfl rfl rfl (MV rfl rfl (WR.skipN 5 rfl rfl (PF rfl rfl rfl (MV rfl rfl (GF rfl rfl rfl (GF rfl rfl rfl (PF rfl rfl rfl (MV rfl rfl (WR.skipN 3 rfl rfl (PF rfl rfl rfl (MV rfl rfl (WR.skipN 3 rfl rfl (PF rfl rfl rfl (MV rfl rfl (WR.skipN 3 rfl rfl (PF rfl rfl rfl (AS rfl rfl (NL ?_))))))))))))))))))))))))))))))
    exact WQ.meetN [(0, _)] ⟨rfl, trivial⟩ ⟨_, _, rfl, (H.pick (L' := []) (by repeat (first | exact Pick.nil | refine Pick.cons (by repeat first | exact .head | apply Rem.tail) ?_))), hg_maxl, e19⟩
  ·
   rintro e w ⟨b20, M, rfl, H, hg_maxl, q32⟩
   obtain rfl := Option.some.inj q32
   refine TN (RT ?_)
   obtain rfl := Option.some.inj h
   exact WQ.ret1 rfl rfl H.ext rfl
end Go.Proofs.YtogkmhjnojphiaaGreatDoor
end
section
set_option maxRecDepth 100000
set_option linter.unusedVariables false
set_option linter.unusedSimpArgs false
namespace Go.Proofs.YtogkmhjnojphiaaGreatDoor
open Go Go.RowKit Go.Ph Go.Ph.Pl Go.Ph.Pf
end Go.Proofs.YtogkmhjnojphiaaGreatDoor
end
section
set_option maxRecDepth 100000
set_option linter.unusedVariables false
set_option linter.unusedSimpArgs false
namespace Go.Proofs.YtogkmhjnojphiaaGreatDoor
open Go Go.RowKit Go.Ph Go.Ph.Pl Go.Ph.Pf
theorem L_HeaderWithoutNone_ct {p0 : List (List UInt8 × List UInt8)} {p1 : List UInt8} {p2 : List UInt8} {vp0 : Value} {r : Bool} (h : L_HeaderWithoutNone p0 p1 p2 = some r) : Ct Tryz.prog 10 [vp0, S p1, S p2] (fun M => GlF (fun w => ∃ m, w.cell? ⟨2, 0, none⟩ = some (.int .i64 m)) M ∧ SlS M 2 xenc50 vp0 p0) (fun v M => v = Value.bool r) := by
  refine Ct.of Tryz.func10 (enters Tryz.func10 (by kernel_rfl) rfl) rfl rfl rfl ?_
  intro w0 M0 H hp
  obtain ⟨hg_maxl, hp0⟩ := hp
  unfold L_HeaderWithoutNone at h
  refine SQ (RG (AS rfl rfl (NL (TN (SQ (SQ ?_))))))
  obtain ⟨b1, hx2, h⟩ := bnd h
  refine RG (WR.call H (L_headerExample_ct hx2) rfl (hg_maxl) (Wn.none rfl) rfl ?_)
  intro v15 M w H hle hR
  replace hg_maxl := hg_maxl.mono hle
  replace hp0 := hp0.mono hle
  obtain rfl := hR
  refine ST (Ex.not rfl) rfl (NL (TN ?_))
  refine WC.condB rfl (fun hk3 => ?_) (fun hk3 => ?_)
  ·
   replace hk3 : b1 = false := by simpa using hk3
   subst hk3
   rw [if_neg Bool.false_ne_true] at h
   refine SQ (RG (AS rfl rfl (NL (TN (RT ?_)))))
   obtain rfl := Option.some.inj h
   exact WQ.ret1 rfl rfl H.ext rfl
  ·
   replace hk3 : b1 = true := by simpa using hk3
   subst hk3
   rw [if_pos rfl] at h
   refine SK (TN (SQ ?_))
   obtain ⟨⟨l4, ⟨n5, n6⟩⟩, hx7, h⟩ := bnd h
   try dsimp only at h
   refine RG (MV rfl rfl (MV rfl rfl (WR.call H (header_Without_ct hx7) rfl (hp0) (Wn.none rfl) rfl ?_)))
   intro v20 M w H hle hR
   replace hg_maxl := hg_maxl.mono hle
   replace hp0 := hp0.mono hle
   try dsimp only at hR
   obtain ⟨x20_0, rfl, f20_0⟩ := hR
   refine MV rfl rfl (ST (Ex.extract rfl rfl) rfl (ST (Ex.extract rfl rfl) rfl (WR.alloc [_, _] H Tryz.zeroValue24 rfl (Wn.none rfl) rfl ?_)))
   intro b8 w H
   refine AS rfl rfl (WR.store [_, _] H rfl rfl rfl (by repeat first | exact .head | apply Upd.tail) Tryz.sizeOf24 rfl (by rfl) (by rfl) (Wn.none rfl) ?_)
   intro w H
   refine NL (TN (SQ ?_))
   obtain ⟨⟨l8, ⟨n9, n10⟩⟩, hx11, h⟩ := bnd h
   try dsimp only at h
   refine RG (MV rfl rfl (MV rfl rfl (WR.call H (header_Get_ct hx11) rfl (hp0) (Wn.none rfl) rfl ?_)))
   intro v26 M w H hle hR
   replace hg_maxl := hg_maxl.mono hle
   replace hp0 := hp0.mono hle
   replace f20_0 := f20_0.mono hle
   try dsimp only at hR
   obtain ⟨x26_0, rfl, f26_0⟩ := hR
   refine MV rfl rfl (ST (Ex.extract rfl rfl) rfl (ST (Ex.extract rfl rfl) rfl (WR.alloc [_, _] H Tryz.zeroValue24 rfl (Wn.none rfl) rfl ?_)))
   intro b10 w H
   refine AS rfl rfl (WR.store [_, _] H rfl rfl rfl (by repeat first | exact .head | apply Upd.tail) Tryz.sizeOf24 rfl (by rfl) (by rfl) (Wn.none rfl) ?_)
   intro w H
   refine NL (TN (SQ (SQ ?_)))
   obtain ⟨o12, e13, h⟩ := bnd h
   refine WC.cutX (fun e w => ∃ (b14 : Bool) (M : Mem), e = [(1, S p1), (2, S p2), (7, x20_0), (8, ptr b8 0), (9, x26_0), (36, Value.bool b14)] ∧ St w0 M0 M [.blk b8 (.cells #[I n5, I n6] 24)] w ∧ GlF (fun w => ∃ m, w.cell? ⟨2, 0, none⟩ = some (.int .i64 m)) M ∧ SlS M 2 xenc50 x20_0 l4 ∧ Sl M encS x26_0 l8 ∧ some b14 = some o12) [] ?_ ?_ (trivial)
   ·
    refine RG (ST (Ex.fieldAddr Tryz.underlying24 rfl Tryz.sizeOf3 (by decide) rfl) rfl (ST (Ex.load1 H rfl (by repeat (first | exact List.Mem.head _ | apply List.Mem.tail)) Tryz.isAgg3 (by rfl)) rfl ?_))
    by_cases hk15 : n5 = (0 : Int)
    ·
     rw [if_pos hk15] at e13
     refine WR.stepE (v' := .bool false) (Ex.neqC rfl rfl) (congrArg Value.bool (by rw [decide_eq_true hk15]; rfl)) (Wn.none rfl) rfl rfl ?_
     refine MV rfl rfl (SG (Ex.fieldAddr Tryz.underlying24 rfl Tryz.sizeOf3 (by decide) rfl) rfl rfl rfl (SG (Ex.load1 H rfl (by repeat (first | exact List.Mem.head _ | apply List.Mem.tail)) Tryz.isAgg3 (by rfl)) rfl rfl rfl ?_))
     refine SG (Ex.neqC rfl rfl) rfl rfl rfl (PF rfl rfl rfl (NL ?_))
     exact WQ.meetN [(1, _), (2, _), (7, _), (8, _), (9, _), (36, _)] ⟨rfl, rfl, rfl, rfl, rfl, rfl, trivial⟩ ⟨_, _, rfl, (H.pick (L' := [.blk b8 (.cells #[I n5, I n6] 24)]) (by repeat (first | exact Pick.nil | refine Pick.cons (by repeat first | exact .head | apply Rem.tail) ?_))), hg_maxl, f20_0, f26_0, e13⟩
    ·
     rw [if_neg hk15] at e13
     refine WR.stepE (v' := .bool true) (Ex.neqC rfl rfl) (congrArg Value.bool (by rw [decide_eq_false hk15]; rfl)) (Wn.none rfl) rfl rfl ?_
     refine MV rfl rfl (WR.skipN 3 rfl rfl (PT rfl rfl rfl (NL ?_)))
     exact WQ.meetN [(1, _), (2, _), (7, _), (8, _), (9, _), (36, _)] ⟨rfl, rfl, rfl, rfl, rfl, rfl, trivial⟩ ⟨_, _, rfl, (H.pick (L' := [.blk b8 (.cells #[I n5, I n6] 24)]) (by repeat (first | exact Pick.nil | refine Pick.cons (by repeat first | exact .head | apply Rem.tail) ?_))), hg_maxl, f20_0, f26_0, e13⟩
   ·
    rintro e w ⟨b14, M, rfl, H, hg_maxl, f20_0, f26_0, q16⟩
    obtain rfl := Option.some.inj q16
    refine TN ?_
    refine WC.condB rfl (fun hk17 => ?_) (fun hk17 => ?_)
    ·
     subst hk17
     rw [if_pos rfl] at h
     refine SQ ?_
     obtain ⟨o18, e19, h⟩ := bnd h
     refine WC.cutX (fun e w => ∃ (b20 : Bool) (M : Mem), e = [(6, Value.bool b20)] ∧ St w0 M0 M [] w ∧ GlF (fun w => ∃ m, w.cell? ⟨2, 0, none⟩ = some (.int .i64 m)) M ∧ some b20 = some o18) [] ?_ ?_ (trivial)
     ·
      refine RG (ST (Ex.fieldAddr Tryz.underlying24 rfl Tryz.sizeOf3 (by decide) rfl) rfl (ST (Ex.load1 H rfl (by repeat (first | exact List.Mem.head _ | apply List.Mem.tail)) Tryz.isAgg3 (by rfl)) rfl ?_))
      by_cases hk21 : n5 = (0 : Int)
      ·
       rw [if_pos hk21] at e19
       refine WR.stepE (v' := .bool true) (Ex.eql rfl rfl) (congrArg Value.bool (decide_eq_true hk21)) (Wn.none rfl) rfl rfl (MV rfl rfl (WR.skipN 3 rfl rfl (PT rfl rfl rfl (AS rfl rfl (NL ?_)))))
       exact WQ.meetN [(6, _)] ⟨rfl, trivial⟩ ⟨_, _, rfl, (H.pick (L' := []) (by repeat (first | exact Pick.nil | refine Pick.cons (by repeat first | exact .head | apply Rem.tail) ?_))), hg_maxl, e19⟩
      ·
       rw [if_neg hk21] at e19
       refine WR.stepE (v' := .bool false) (Ex.eql rfl rfl) (congrArg Value.bool (decide_eq_false hk21)) (Wn.none rfl) rfl rfl (MV rfl rfl (SG (Ex.move rfl) rfl rfl rfl (SG (Ex.lenSlS Tryz.underlying31 f20_0 rfl) rfl rfl rfl (SG (Ex.eql rfl rfl) rfl rfl rfl (PF rfl rfl rfl (AS rfl rfl (NL ?_)))))))
       exact WQ.meetN [(6, _)] ⟨rfl, trivial⟩ ⟨_, _, rfl, (H.pick (L' := []) (by repeat (first | exact Pick.nil | refine Pick.cons (by repeat first | exact .head | apply Rem.tail) ?_))), hg_maxl, e19⟩
     ·
      rintro e w ⟨b20, M, rfl, H, hg_maxl, q22⟩
      obtain rfl := Option.some.inj q22
      refine TN (RT ?_)
      obtain rfl := Option.some.inj h
      exact WQ.ret1 rfl rfl H.ext rfl
    ·
     subst hk17
     rw [if_neg Bool.false_ne_true] at h
     refine SK (TN (SQ ?_))
     obtain ⟨⟨l23, ⟨n24, n25⟩⟩, hx26, h⟩ := bnd h
     try dsimp only at h
     refine RG (MV rfl rfl (MV rfl rfl (WR.call H (header_Get_ct hx26) rfl (f20_0) (Wn.none rfl) rfl ?_)))
     intro v48 M w H hle hR
     replace hg_maxl := hg_maxl.mono hle
     replace f20_0 := f20_0.mono hle
     replace f26_0 := f26_0.mono hle
     try dsimp only at hR
     obtain ⟨x48_0, rfl, f48_0⟩ := hR
     refine MV rfl rfl (ST (Ex.extract rfl rfl) rfl (ST (Ex.extract rfl rfl) rfl (WR.alloc [_, _] H Tryz.zeroValue24 rfl (Wn.none rfl) rfl ?_)))
     intro b12 w H
     refine AS rfl rfl (WR.store [_, _] H rfl rfl rfl (by repeat first | exact .head | apply Upd.tail) Tryz.sizeOf24 rfl (by rfl) (by rfl) (Wn.none rfl) ?_)
     intro w H
     refine NL (TN (SQ ?_))
     obtain ⟨⟨l27, ⟨n28, n29⟩⟩, hx30, h⟩ := bnd h
     try dsimp only at h
     refine RG (MV rfl rfl (MV rfl rfl (WR.call H (header_Get_ct hx30) rfl (f20_0) (Wn.none rfl) rfl ?_)))
     intro v54 M w H hle hR
     replace hg_maxl := hg_maxl.mono hle
     replace f20_0 := f20_0.mono hle
     replace f26_0 := f26_0.mono hle
     replace f48_0 := f48_0.mono hle
     try dsimp only at hR
     obtain ⟨x54_0, rfl, f54_0⟩ := hR
     refine MV rfl rfl (ST (Ex.extract rfl rfl) rfl (ST (Ex.extract rfl rfl) rfl (WR.alloc [_, _] H Tryz.zeroValue24 rfl (Wn.none rfl) rfl ?_)))
     intro b14 w H
     refine AS rfl rfl (WR.store [_, _] H rfl rfl rfl (by repeat first | exact .head | apply Upd.tail) Tryz.sizeOf24 rfl (by rfl) (by rfl) (Wn.none rfl) ?_)
     intro w H
     refine NL (TN (SQ ?_))
     obtain ⟨o31, e32, h⟩ := bnd h
     refine WC.cutX (fun e w => ∃ (b33 : Bool) (M : Mem), e = [(6, Value.bool b33)] ∧ St w0 M0 M [] w ∧ GlF (fun w => ∃ m, w.cell? ⟨2, 0, none⟩ = some (.int .i64 m)) M ∧ some b33 = some o31) [] ?_ ?_ (trivial)
     ·
      refine RG (ST (Ex.fieldAddr Tryz.underlying24 rfl Tryz.sizeOf3 (by decide) rfl) rfl (ST (Ex.load1 H rfl (by repeat (first | exact List.Mem.head _ | apply List.Mem.tail)) Tryz.isAgg3 (by rfl)) rfl ?_))
      by_cases hk34 : n24 = (0 : Int)
      ·
       rw [if_pos hk34] at e32
       by_cases hk35 : n28 = (0 : Int)
       ·
        rw [if_pos hk35] at e32
        by_cases hk36 : (l23.length : Int) = (0 : Int)
        ·
         rw [if_pos hk36] at e32
         obtain ⟨b37, hx38, e32⟩ := bnd e32
         rcases b37 with _ | _
         ·
          rw [if_neg Bool.false_ne_true] at e32
          obtain ⟨b39, hx40, e32⟩ := bnd e32
          refine WR.stepE (v' := .bool true) (Ex.eql rfl rfl) (congrArg Value.bool (decide_eq_true hk34)) (Wn.none rfl) rfl rfl (MV rfl rfl (SG (Ex.fieldAddr Tryz.underlying24 rfl Tryz.sizeOf3 (by decide) rfl) rfl rfl rfl (SG (Ex.load1 H rfl (by repeat (first | exact List.Mem.head _ | apply List.Mem.tail)) Tryz.isAgg3 (by rfl)) rfl rfl rfl ?_)))
          refine WR.stepE (v' := .bool true) (Ex.eql rfl rfl) (congrArg Value.bool (decide_eq_true hk35)) (Wn.some rfl rfl rfl) rfl rfl (PT rfl rfl rfl (MV rfl rfl (SG (Ex.move rfl) rfl rfl rfl (SG (Ex.lenSl Tryz.underlying43 f48_0 rfl) rfl rfl rfl (WR.stepE (v' := .bool true) (Ex.eql rfl rfl) (congrArg Value.bool (decide_eq_true hk36)) (Wn.some rfl rfl rfl) rfl rfl (PT rfl rfl rfl (MV rfl rfl (SG (Ex.move rfl) rfl rfl rfl (SG (Ex.move rfl) rfl rfl rfl (WR.call H (R_Alike_ct hx38) rfl trivial (Wn.some rfl rfl rfl) rfl ?_))))))))))
          intro v73 M w H hle hR
          replace hg_maxl := hg_maxl.mono hle
          replace f20_0 := f20_0.mono hle
          replace f26_0 := f26_0.mono hle
          replace f48_0 := f48_0.mono hle
          replace f54_0 := f54_0.mono hle
          obtain rfl := hR
          refine SG (Ex.move rfl) rfl rfl rfl (SG (Ex.move rfl) rfl rfl rfl (SG (Ex.move rfl) rfl rfl rfl (WR.call H (R_Strings_ct hx40) rfl ⟨f26_0, f54_0⟩ (Wn.some rfl rfl rfl) rfl ?_)))
          intro v77 M w H hle hR
          replace hg_maxl := hg_maxl.mono hle
          replace f20_0 := f20_0.mono hle
          replace f26_0 := f26_0.mono hle
          replace f48_0 := f48_0.mono hle
          replace f54_0 := f54_0.mono hle
          obtain rfl := hR
          refine SG (Ex.pickF rfl rfl) rfl rfl rfl (PT rfl rfl rfl (AS rfl rfl (NL ?_)))
          exact WQ.meetN [(6, _)] ⟨rfl, trivial⟩ ⟨_, _, rfl, (H.pick (L' := []) (by repeat (first | exact Pick.nil | refine Pick.cons (by repeat first | exact .head | apply Rem.tail) ?_))), hg_maxl, e32⟩
         ·
          rw [if_pos rfl] at e32
          refine WR.stepE (v' := .bool true) (Ex.eql rfl rfl) (congrArg Value.bool (decide_eq_true hk34)) (Wn.none rfl) rfl rfl (MV rfl rfl (SG (Ex.fieldAddr Tryz.underlying24 rfl Tryz.sizeOf3 (by decide) rfl) rfl rfl rfl (SG (Ex.load1 H rfl (by repeat (first | exact List.Mem.head _ | apply List.Mem.tail)) Tryz.isAgg3 (by rfl)) rfl rfl rfl ?_)))
          refine WR.stepE (v' := .bool true) (Ex.eql rfl rfl) (congrArg Value.bool (decide_eq_true hk35)) (Wn.some rfl rfl rfl) rfl rfl (PT rfl rfl rfl (MV rfl rfl (SG (Ex.move rfl) rfl rfl rfl (SG (Ex.lenSl Tryz.underlying43 f48_0 rfl) rfl rfl rfl (WR.stepE (v' := .bool true) (Ex.eql rfl rfl) (congrArg Value.bool (decide_eq_true hk36)) (Wn.some rfl rfl rfl) rfl rfl (PT rfl rfl rfl (MV rfl rfl (SG (Ex.move rfl) rfl rfl rfl (SG (Ex.move rfl) rfl rfl rfl (WR.call H (R_Alike_ct hx38) rfl trivial (Wn.some rfl rfl rfl) rfl ?_))))))))))
          intro v73 M w H hle hR
          replace hg_maxl := hg_maxl.mono hle
          replace f20_0 := f20_0.mono hle
          replace f26_0 := f26_0.mono hle
          replace f48_0 := f48_0.mono hle
          replace f54_0 := f54_0.mono hle
          obtain rfl := hR
          refine SG (Ex.move rfl) rfl rfl rfl (WR.skipN 3 rfl rfl (SG (Ex.pickT rfl rfl) rfl rfl rfl (PT rfl rfl rfl (AS rfl rfl (NL ?_)))))
          exact WQ.meetN [(6, _)] ⟨rfl, trivial⟩ ⟨_, _, rfl, (H.pick (L' := []) (by repeat (first | exact Pick.nil | refine Pick.cons (by repeat first | exact .head | apply Rem.tail) ?_))), hg_maxl, e32⟩
        ·
         rw [if_neg hk36] at e32
         refine WR.stepE (v' := .bool true) (Ex.eql rfl rfl) (congrArg Value.bool (decide_eq_true hk34)) (Wn.none rfl) rfl rfl (MV rfl rfl (SG (Ex.fieldAddr Tryz.underlying24 rfl Tryz.sizeOf3 (by decide) rfl) rfl rfl rfl (SG (Ex.load1 H rfl (by repeat (first | exact List.Mem.head _ | apply List.Mem.tail)) Tryz.isAgg3 (by rfl)) rfl rfl rfl ?_)))
         refine WR.stepE (v' := .bool true) (Ex.eql rfl rfl) (congrArg Value.bool (decide_eq_true hk35)) (Wn.some rfl rfl rfl) rfl rfl (PT rfl rfl rfl (MV rfl rfl (SG (Ex.move rfl) rfl rfl rfl (SG (Ex.lenSl Tryz.underlying43 f48_0 rfl) rfl rfl rfl (WR.stepE (v' := .bool false) (Ex.eql rfl rfl) (congrArg Value.bool (decide_eq_false hk36)) (Wn.some rfl rfl rfl) rfl rfl (PT rfl rfl rfl (MV rfl rfl (WR.skipN 8 rfl rfl (PF rfl rfl rfl (AS rfl rfl (NL ?_)))))))))))
         exact WQ.meetN [(6, _)] ⟨rfl, trivial⟩ ⟨_, _, rfl, (H.pick (L' := []) (by repeat (first | exact Pick.nil | refine Pick.cons (by repeat first | exact .head | apply Rem.tail) ?_))), hg_maxl, e32⟩
       ·
        rw [if_neg hk35] at e32
        refine WR.stepE (v' := .bool true) (Ex.eql rfl rfl) (congrArg Value.bool (decide_eq_true hk34)) (Wn.none rfl) rfl rfl (MV rfl rfl (SG (Ex.fieldAddr Tryz.underlying24 rfl Tryz.sizeOf3 (by decide) rfl) rfl rfl rfl (SG (Ex.load1 H rfl (by repeat (first | exact List.Mem.head _ | apply List.Mem.tail)) Tryz.isAgg3 (by rfl)) rfl rfl rfl ?_)))
        refine WR.stepE (v' := .bool false) (Ex.eql rfl rfl) (congrArg Value.bool (decide_eq_false hk35)) (Wn.some rfl rfl rfl) rfl rfl (PT rfl rfl rfl (MV rfl rfl (WR.skipN 3 rfl rfl (PF rfl rfl rfl (MV rfl rfl (WR.skipN 8 rfl rfl (PF rfl rfl rfl (AS rfl rfl (NL ?_)))))))))
        exact WQ.meetN [(6, _)] ⟨rfl, trivial⟩ ⟨_, _, rfl, (H.pick (L' := []) (by repeat (first | exact Pick.nil | refine Pick.cons (by repeat first | exact .head | apply Rem.tail) ?_))), hg_maxl, e32⟩
      ·
       rw [if_neg hk34] at e32
       refine WR.stepE (v' := .bool false) (Ex.eql rfl rfl) (congrArg Value.bool (decide_eq_false hk34)) (Wn.none rfl) rfl rfl (MV rfl rfl (WR.skipN 3 rfl rfl (PF rfl rfl rfl (MV rfl rfl (WR.skipN 3 rfl rfl (PF rfl rfl rfl (MV rfl rfl (WR.skipN 8 rfl rfl (PF rfl rfl rfl (AS rfl rfl (NL ?_)))))))))))
       exact WQ.meetN [(6, _)] ⟨rfl, trivial⟩ ⟨_, _, rfl, (H.pick (L' := []) (by repeat (first | exact Pick.nil | refine Pick.cons (by repeat first | exact .head | apply Rem.tail) ?_))), hg_maxl, e32⟩
     ·
      rintro e w ⟨b33, M, rfl, H, hg_maxl, q41⟩
      obtain rfl := Option.some.inj q41
      refine TN (RT ?_)
      obtain rfl := Option.some.inj h
      exact WQ.ret1 rfl rfl H.ext rfl
end Go.Proofs.YtogkmhjnojphiaaGreatDoor
end
