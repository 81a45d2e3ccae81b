/-
  Dates: contracts of the program's functions over their plain forms, written by wip/tools/ext.py.
-/
import Derived.Test.YtlopnlagpdchiaaGreatDoorLb
import Derived.Test.YtlopnlagpdchiaaGreatDoorQt
import Derived.Test.YtlopnlagpdchiaaGreatDoorProg
import Derived.Test.YtlopnlagpdchiaaGreatDoorShelf
import Derived.Test.YtlopnlagpdchiaaGreatDoorDpf
import Derived.KernelRfl
set_option maxRecDepth 100000
set_option linter.unusedVariables false
set_option linter.unusedSimpArgs false
namespace Go.Proofs.YtlopnlagpdchiaaGreatDoor
open Go Go.RowKit Go.Ph Go.Ph.Pl Go.Ph.Pf
abbrev xenc81 (x : (Int × Int)) : List Value := [I x.1, I x.2]
theorem xplaces23 : ∀ {fs : Array Field}, Tryz.prog.underlying 23 = some (.struct fs) → ∀ w, (fs.mapM fun f => do pure (f.offset, ← sizeOf f.type) : Sem (Array (Nat × Nat))).run Tryz.prog w = .ok #[(0, 1), (1, 1), (2, 1), (3, 1), (4, 1), (5, 1), (6, 1)] w := by
  intro fs h w
  rw [Tryz.underlying23] at h
  cases h
  simp
theorem xplaces26 : ∀ {fs : Array Field}, Tryz.prog.underlying 26 = some (.struct fs) → ∀ w, (fs.mapM fun f => do pure (f.offset, ← sizeOf f.type) : Sem (Array (Nat × Nat))).run Tryz.prog w = .ok #[(0, 1), (1, 1)] w := by
  intro fs h w
  rw [Tryz.underlying26] at h
  cases h
  simp
theorem xty59 : ElemTy Tryz.prog 59 9 (.string ⟨#[]⟩) 1 16 := ElemTy.mk' Tryz.underlying59 (by kernel_rfl) rfl (by decide)
def FnT61 (M : Mem) (v : Value) (g : (Int → Option Bool)) : Prop := ∀ (a0 : Int) (r : Bool), g a0 = some r → FnV Tryz.prog M v [Value.int .i32 a0] (fun v M => v = Value.bool r)
theorem FnT61.mono {M M' : Mem} {v : Value} {g : (Int → Option Bool)} (h : FnT61 M v g) (hl : M.le M') : FnT61 M' v g := fun a0 r hr => (h a0 r hr).mono hl
theorem xty79 : ElemTy Tryz.prog 79 81 (.agg #[.int .i64 0, .int .i64 0]) 2 16 := ElemTy.mk' Tryz.underlying79 (by kernel_rfl) rfl (by decide)
theorem xplaces81 : ∀ {fs : Array Field}, Tryz.prog.underlying 81 = some (.struct fs) → ∀ w, (fs.mapM fun f => do pure (f.offset, ← sizeOf f.type) : Sem (Array (Nat × Nat))).run Tryz.prog w = .ok #[(0, 1), (1, 1)] w := by
  intro fs h w
  rw [Tryz.underlying81] at h
  cases h
  simp
theorem xone81 : ∀ (a : (Int × Int)), ∀ u ∈ xenc81 a, u.oneCell' = true := by
  intro a u hu
  simp only [xenc81, List.mem_cons, List.not_mem_nil, or_false] at hu
  rcases hu with rfl | rfl <;> rfl
theorem xeq23 (a0 b0 : Int) (a1 b1 : Int) (a2 b2 : Int) (a3 b3 : Int) (a4 b4 : Int) (a5 b5 : Int) (a6 b6 : Int) (w : World) : (Op.equalIn 10000 23 (.agg #[.int .i64 a0, .int .i64 a1, .int .i64 a2, .int .i64 a3, .int .i64 a4, .int .i64 a5, .int .i64 a6]) (.agg #[.int .i64 b0, .int .i64 b1, .int .i64 b2, .int .i64 b3, .int .i64 b4, .int .i64 b5, .int .i64 b6])).run Tryz.prog w = .ok (decide (a0 = b0 ∧ a1 = b1 ∧ a2 = b2 ∧ a3 = b3 ∧ a4 = b4 ∧ a5 = b5 ∧ a6 = b6)) w := by
  rw [run_equalIn_struct w 9999 23 _ _ (by rw [Program.fieldsOf, Tryz.underlying23]) (by kernel_rfl)]
  rw [Program.fieldsOf, Tryz.underlying23]
  by_cases h0 : a0 = b0
  rotate_left
  · simp [Op.eqFields, part, h0, Tryz.isAgg3, run_equalIn_int _ _ _ _ _ _ _ Tryz.underlying3]
  by_cases h1 : a1 = b1
  rotate_left
  · simp [Op.eqFields, part, h0, h1, Tryz.isAgg3, run_equalIn_int _ _ _ _ _ _ _ Tryz.underlying3]
  by_cases h2 : a2 = b2
  rotate_left
  · simp [Op.eqFields, part, h0, h1, h2, Tryz.isAgg3, run_equalIn_int _ _ _ _ _ _ _ Tryz.underlying3]
  by_cases h3 : a3 = b3
  rotate_left
  · simp [Op.eqFields, part, h0, h1, h2, h3, Tryz.isAgg3, run_equalIn_int _ _ _ _ _ _ _ Tryz.underlying3]
  by_cases h4 : a4 = b4
  rotate_left
  · simp [Op.eqFields, part, h0, h1, h2, h3, h4, Tryz.isAgg3, run_equalIn_int _ _ _ _ _ _ _ Tryz.underlying3]
  by_cases h5 : a5 = b5
  rotate_left
  · simp [Op.eqFields, part, h0, h1, h2, h3, h4, h5, Tryz.isAgg3, run_equalIn_int _ _ _ _ _ _ _ Tryz.underlying3]
  by_cases h6 : a6 = b6
  rotate_left
  · simp [Op.eqFields, part, h0, h1, h2, h3, h4, h5, h6, Tryz.isAgg3, run_equalIn_int _ _ _ _ _ _ _ Tryz.underlying3]
  simp [Op.eqFields, part, h0, h1, h2, h3, h4, h5, h6, Tryz.isAgg3, run_equalIn_int _ _ _ _ _ _ _ Tryz.underlying3]
theorem indexByte_ixB (l : List UInt8) (c : UInt8) : Lib.indexByte l c = ixB l c := by
  unfold ixB
  induction l with
  | nil => simp [Lib.indexByte]
  | cons b l ih =>
    simp only [Lib.indexByte, List.idxOf_cons, List.length_cons]
    by_cases h : b = c
    · subst h; simp
    · have h' : (b == c) = false := by simpa using h
      rw [h', ih]
      simp only [Bool.false_eq_true, if_false, cond_false]
      by_cases hl : l.idxOf c < l.length
      · have h1 : l.idxOf c + 1 < l.length + 1 := by omega
        have h2 : ¬ (((l.idxOf c : Int) == -1) = true) := by simp only [beq_iff_eq]; omega
        simp only [hl, h1, if_true, h2, if_false, Bool.false_eq_true]
        omega
      · have h1 : ¬ (l.idxOf c + 1 < l.length + 1) := by omega
        simp only [hl, h1, if_false]
        rfl
theorem join_jn (sep : List UInt8) : ∀ l : List (List UInt8), Lib.join l sep = jn sep l
  | [] => rfl
  | [x] => Lib.join_one x sep
  | x :: y :: r => by
    have h := join_jn sep (y :: r)
    rw [Lib.join_cons] at h ⊢
    rw [jn, ← h]
    simp [Lib.joinTail]

theorem stringslite_IndexByte_ct {p0 : List UInt8} {p1 : UInt8} {r : Int} (h : stringslite_IndexByte p0 p1 = some r) : Ct Tryz.prog 112 [S p0, encB p1] (fun M => True) (fun v M => v = I r) := by
  cases h
  refine ⟨enters Tryz.func112 (by kernel_rfl) rfl, fun w M ha hp => ?_⟩
  exact (Tryz.stringslite_IndexByte ⟨p0.toArray⟩ (p1.toNat : Int) w).mono fun e w' ⟨he, hw⟩ => ⟨_, M, he, by subst hw; exact Ext.refl ha, by rw [← indexByte_ixB]; simp⟩
theorem strings_Join_ct {p0 : List (List UInt8)} {p1 : List UInt8} {vp0 : Value} {r : List UInt8} (h : strings_Join p0 p1 = some r) : Ct Tryz.prog 34 [vp0, S p1] (fun M => Sl M encS vp0 p0) (fun v M => v = S r) := by
  unfold strings_Join at h
  split at h
  case isFalse => cases h
  rename_i hb
  cases h
  refine ⟨enters Tryz.func34 (by kernel_rfl) rfl, fun w M ha hp => ?_⟩
  obtain ⟨A, cp, rfl, hc, hn⟩ := Sl.cells hp ha
  rcases Nat.eq_zero_or_pos p0.length with h0 | h0
  · obtain rfl := List.eq_nil_of_length_eq_zero h0
    exact (Tryz.strings_Join_none A cp ⟨p1.toArray⟩ w).mono fun e w' ⟨he, hw⟩ => ⟨_, M, he, by subst hw; exact Ext.refl ha, rfl⟩
  · cases A with
    | none => obtain ⟨rfl, _⟩ := hn rfl; simp at h0
    | some ad =>
      obtain ⟨A', c', he', h1, ⟨h2, h3⟩, h4⟩ := hp
      cases he'
      obtain ⟨b, o, cs, t0, fz, e1, e2, e3⟩ := h4 (fun h => by rw [h] at h0; simp at h0)
      cases e1
      have hmap : (p0.map (fun l => (⟨l.toArray⟩ : ByteArray))).map (·.data.toList) = p0 := by
        rw [List.map_map]
        conv => rhs; rw [← List.map_id p0]
        exact List.map_congr_left (fun l _ => rfl)
      have hcall := Tryz.strings_Join b o cp (p0.map (fun l => (⟨l.toArray⟩ : ByteArray))) ⟨p1.toArray⟩ w (fun j x hx => by
        rw [List.getElem?_map] at hx
        obtain ⟨y, hy, rfl⟩ := Option.map_eq_some_iff.1 hx
        have := hc ⟨b, o, none⟩ rfl j (encS y) (by rw [List.getElem?_map, hy]; rfl)
        simpa [Addr.add_lit] using this) (ha.lt e2) (by simpa using hb.1) (by simpa using h1) (by rw [hmap, join_jn]; simpa using hb.2)
      rw [hmap, join_jn] at hcall
      simp only [List.length_map] at hcall
      exact hcall.mono fun e w' ⟨he, hw⟩ => ⟨_, M, he, ⟨BelowX.of hw _, Mem.le.refl M, fun b' o' hb' => by rw [hw.block b' (ha.lt hb')]; exact ha b' o' hb', fun b' hb' => rfl⟩, by simp⟩
theorem strconv_Itoa_ct {p0 : Int} {r : List UInt8} (h : strconv_Itoa p0 = some r) : Ct Tryz.prog 48 [I p0] (fun M => GlF (fun w => Lib.TabIs Tryz.prog w "internal/strconv.uint64pow10" .u64 Lib.pow10Tab) M) (fun v M => v = S r) := by
  unfold strconv_Itoa at h
  split at h
  case isFalse => cases h
  rename_i hb
  cases h
  refine ⟨enters Tryz.func48 (by kernel_rfl) rfl, fun w M ha hp => ?_⟩
  exact (Tryz.strconv_Itoa p0 hb.1 hb.2 w (hp w ha)).mono fun e w' ⟨he, k, os, hw⟩ => ⟨_, M, he, by subst hw; exact Ext.ofBelow ha (below_grow w k os), by rw [itoaP_eq hb]⟩
theorem strings_Repeat_ct {p0 : List UInt8} {p1 : Int} {r : List UInt8} (h : strings_Repeat p0 p1 = some r) : Ct Tryz.prog 49 [S p0, I p1] (fun M => True) (fun v M => v = S r) := by
  unfold strings_Repeat at h
  split at h
  case isFalse => cases h
  rename_i hb
  cases h
  refine ⟨enters Tryz.func49 (by kernel_rfl) rfl, fun w M ha hp => ?_⟩
  obtain ⟨c, rfl⟩ := Int.eq_ofNat_of_zero_le hb.1
  exact (Tryz.strings_Repeat ⟨p0.toArray⟩ c w (by omega) (by simpa [ByteArray.size] using hb.2.2)).mono fun e w' ⟨he, hw⟩ => ⟨_, M, he, Ext.ofBelow ha hw, by simp⟩
theorem strings_Split_ct {p0 : List UInt8} {p1 : List UInt8} {r : List (List UInt8)} (h : strings_Split p0 p1 = some r) : Ct Tryz.prog 72 [S p0, S p1] (fun M => GlF (fun w => ∃ m, w.cell? ⟨0, 0, none⟩ = some (.int .i64 m)) M) (fun v M => Sl M encS v r) := by
  unfold strings_Split at h
  split at h
  case isFalse => cases h
  rename_i hb
  cases h
  refine ⟨enters Tryz.func72 (by kernel_rfl) rfl, fun w M ha hp => ?_⟩
  obtain ⟨m, hm⟩ := hp w ha
  refine (Tryz.strings_Split ⟨p0.toArray⟩ ⟨p1.toArray⟩ m w (by simpa [ByteArray.size] using hb.1) hm (by simpa [ByteArray.size] using hb.2)).mono fun e w' ⟨he, hw⟩ => ⟨_, M.set w.heap.size _, he, by subst hw; exact Ext.ofAlloc ha _, ?_⟩
  have h1 := split_len p0 p1 hb.2
  have h2 : Lib.countB ⟨p0.toArray⟩ ⟨p1.toArray⟩ ≤ p0.length := by simpa [ByteArray.size] using Lib.countB_le ⟨p1.toArray⟩ (by simpa [ByteArray.size] using hb.2) _ ⟨p0.toArray⟩ (Nat.le_refl _)
  exact Sl.split (t := 9) (split_of p0 p1) h1 (by omega) (by simp [Mem.set])
theorem strconv_Atoi_ct {p0 : List UInt8} {r : (Int × Bool)} (h : strconv_Atoi p0 = some r) : Ct Tryz.prog 70 [S p0] (fun M => GlF (fun w => ∃ tp p, w.var? Tryz.prog "strconv.ErrRange" = some #[.iface tp p]) M ∧ GlF (fun w => ∃ tp p, w.var? Tryz.prog "strconv.ErrSyntax" = some #[.iface tp p]) M) (fun v M => ∃ x1, v = Value.tuple #[I r.1, x1] ∧ NilB M x1 r.2) := by
  unfold strconv_Atoi at h
  split at h
  case isFalse => cases h
  rename_i hb
  cases h
  refine ⟨enters Tryz.func70 (by kernel_rfl) rfl, fun w M ha hp => ?_⟩
  obtain ⟨hpR, hpS⟩ := hp
  have hsz : (⟨p0.toArray⟩ : ByteArray).size = p0.length := by simp [ByteArray.size]
  unfold atoiP
  cases hc : Lib.atoiAll p0 with
  | ok v =>
    exact (Tryz.strconv_Atoi_ok ⟨p0.toArray⟩ (by omega) v (by simpa using hc) w).mono fun e w' ⟨he, hw⟩ => ⟨_, M, he, by
      rcases hw with rfl | ⟨t, rfl⟩
      · exact Ext.refl ha
      · exact Ext.ofBelow ha (Lib.bytesWorld_below w _ t), ⟨_, rfl, .inl ⟨rfl, rfl⟩⟩⟩
  | range =>
    obtain ⟨tp, p, hv⟩ := hpR w ha
    exact (Tryz.strconv_Atoi_range_var ⟨p0.toArray⟩ (by omega) (by simpa using hc) tp p w hv).mono fun e w' ⟨n, he, _, _, hw⟩ => ⟨_, M, he, Ext.ofBelow ha hw, ⟨_, rfl, .inr ⟨rfl, _, _, rfl⟩⟩⟩
  | _ =>
    obtain ⟨tp, p, hv⟩ := hpS w ha
    exact (Tryz.strconv_Atoi_syntax_var ⟨p0.toArray⟩ (by omega) (by simpa using hc) tp p w hv).mono fun e w' ⟨n, he, _, _, hw⟩ => ⟨_, M, he, Ext.ofBelow ha hw, ⟨_, rfl, .inr ⟨rfl, _, _, rfl⟩⟩⟩
theorem dates_within_ct {p0 : Int} {p1 : Int} {p2 : Int} {r : Bool} (h : dates_within p0 p1 p2 = some r) : Ct Tryz.prog 22 [I p0, I p1, I p2] (fun M => True) (fun v M => v = Value.bool r) := by
  refine Ct.of Tryz.func22 (enters Tryz.func22 (by kernel_rfl) rfl) rfl rfl rfl ?_
  intro w0 M0 H hp
  unfold dates_within at h
  refine WC.seq ?_
  refine WC.region ?_
  refine WR.step (Ex.assign rfl) (Wn.none rfl) rfl rfl ?_
  refine WR.nil ?_
  refine WQ.then ?_
  refine WC.seq ?_
  obtain ⟨o1, e2, h⟩ := bnd h
  refine WC.cutX (fun e w => ∃ (b3 : Bool) (M : Mem), e = [(6, Value.bool b3)] ∧ St w0 M0 M [] w ∧ some b3 = some o1) [] ?_ ?_ (trivial)
  ·
   refine WC.region ?_
   refine WR.step (Ex.move rfl) (Wn.none rfl) rfl rfl ?_
   refine WR.step (Ex.move rfl) (Wn.none rfl) rfl rfl ?_
   by_cases hk4 : p1 ≤ p0
   ·
    rw [if_pos hk4] at e2
    refine WR.stepE (v' := .bool true) (Ex.geq rfl rfl) (congrArg Value.bool (decide_eq_true hk4)) (Wn.none rfl) rfl rfl ?_
    refine WR.step (Ex.move rfl) (Wn.none rfl) rfl rfl ?_
    refine WR.step (Ex.move rfl) (Wn.some rfl rfl rfl) rfl rfl ?_
    refine WR.step (Ex.move rfl) (Wn.some rfl rfl rfl) rfl rfl ?_
    refine WR.step (Ex.leq rfl rfl) (Wn.some rfl rfl rfl) rfl rfl ?_
    refine WR.step (Ex.pickT rfl rfl) (Wn.none rfl) rfl rfl ?_
    refine WR.step (Ex.assign rfl) (Wn.none rfl) rfl rfl ?_
    refine WR.nil ?_
    exact WQ.meetN [(6, _)] ⟨rfl, trivial⟩ ⟨_, _, rfl, H, e2⟩
   ·
    rw [if_neg hk4] at e2
    refine WR.stepE (v' := .bool false) (Ex.geq rfl rfl) (congrArg Value.bool (decide_eq_false hk4)) (Wn.none rfl) rfl rfl ?_
    refine WR.step (Ex.move rfl) (Wn.none rfl) rfl rfl ?_
    refine WR.skipN 3 rfl rfl ?_
    refine WR.step (Ex.pickF rfl rfl) (Wn.none rfl) rfl rfl ?_
    refine WR.step (Ex.assign rfl) (Wn.none rfl) rfl rfl ?_
    refine WR.nil ?_
    exact WQ.meetN [(6, _)] ⟨rfl, trivial⟩ ⟨_, _, rfl, H, e2⟩
  ·
   rintro e w ⟨b3, M, rfl, H, q5⟩
   obtain rfl := Option.some.inj q5
   refine WQ.then ?_
   refine WC.ret ?_
   (repeat (first | refine WQ.thenRet ?_ | refine WQ.inBlockRet ?_ | refine WQ.cutRet ?_ | refine WQ.scRet ?_))
   obtain rfl := Option.some.inj h
   exact WQ.ret1 rfl rfl H.ext rfl
theorem dates_leap_ct {p0 : Int} {r : Bool} (h : dates_leap p0 = some r) : Ct Tryz.prog 45 [I p0] (fun M => True) (fun v M => v = Value.bool r) := by
  refine Ct.of Tryz.func45 (enters Tryz.func45 (by kernel_rfl) rfl) rfl rfl rfl ?_
  intro w0 M0 H hp
  unfold dates_leap at h
  refine WC.seq ?_
  refine WC.region ?_
  refine WR.step (Ex.assign rfl) (Wn.none rfl) rfl rfl ?_
  refine WR.nil ?_
  refine WQ.then ?_
  refine WC.seq ?_
  obtain ⟨o1, e2, h⟩ := bnd h
  refine WC.cutX (fun e w => ∃ (b3 : Bool) (M : Mem), e = [(2, Value.bool b3)] ∧ St w0 M0 M [] w ∧ some b3 = some o1) [] ?_ ?_ (trivial)
  ·
   obtain ⟨n4, hxn4, e2⟩ := bnd e2
   refine WC.region ?_
   refine WR.step (Ex.move rfl) (Wn.none rfl) rfl rfl ?_
   refine WR.step (Ex.remC rfl rfl hxn4) (Wn.none rfl) rfl rfl ?_
   by_cases hk5 : n4 = (0 : Int)
   ·
    rw [if_pos hk5] at e2
    obtain ⟨n6, hxn6, e2⟩ := bnd e2
    by_cases hk7 : n6 = (0 : Int)
    ·
     rw [if_pos hk7] at e2
     obtain ⟨n8, hxn8, e2⟩ := bnd e2
     refine WR.stepE (v' := .bool true) (Ex.eql rfl rfl) (congrArg Value.bool (decide_eq_true hk5)) (Wn.none rfl) rfl rfl ?_
     refine WR.step (Ex.move rfl) (Wn.none rfl) rfl rfl ?_
     refine WR.step (Ex.move rfl) (Wn.some rfl rfl rfl) rfl rfl ?_
     refine WR.step (Ex.remC rfl rfl hxn6) (Wn.some rfl rfl rfl) rfl rfl ?_
     refine WR.stepE (v' := .bool false) (Ex.neqC rfl rfl) (congrArg Value.bool (by rw [decide_eq_true hk7]; rfl)) (Wn.some rfl rfl rfl) rfl rfl ?_
     refine WR.step (Ex.move rfl) (Wn.some rfl rfl rfl) rfl rfl ?_
     refine WR.step (Ex.move rfl) (Wn.some rfl rfl rfl) rfl rfl ?_
     refine WR.step (Ex.remC rfl rfl hxn8) (Wn.some rfl rfl rfl) rfl rfl ?_
     refine WR.step (Ex.eql rfl rfl) (Wn.some rfl rfl rfl) rfl rfl ?_
     refine WR.step (Ex.pickF rfl rfl) (Wn.some rfl rfl rfl) rfl rfl ?_
     refine WR.step (Ex.pickT rfl rfl) (Wn.none rfl) rfl rfl ?_
     refine WR.step (Ex.assign rfl) (Wn.none rfl) rfl rfl ?_
     refine WR.nil ?_
     exact WQ.meetN [(2, _)] ⟨rfl, trivial⟩ ⟨_, _, rfl, H, e2⟩
    ·
     rw [if_neg hk7] at e2
     refine WR.stepE (v' := .bool true) (Ex.eql rfl rfl) (congrArg Value.bool (decide_eq_true hk5)) (Wn.none rfl) rfl rfl ?_
     refine WR.step (Ex.move rfl) (Wn.none rfl) rfl rfl ?_
     refine WR.step (Ex.move rfl) (Wn.some rfl rfl rfl) rfl rfl ?_
     refine WR.step (Ex.remC rfl rfl hxn6) (Wn.some rfl rfl rfl) rfl rfl ?_
     refine WR.stepE (v' := .bool true) (Ex.neqC rfl rfl) (congrArg Value.bool (by rw [decide_eq_false hk7]; rfl)) (Wn.some rfl rfl rfl) rfl rfl ?_
     refine WR.step (Ex.move rfl) (Wn.some rfl rfl rfl) rfl rfl ?_
     refine WR.skipN 3 rfl rfl ?_
     refine WR.step (Ex.pickT rfl rfl) (Wn.some rfl rfl rfl) rfl rfl ?_
     refine WR.step (Ex.pickT rfl rfl) (Wn.none rfl) rfl rfl ?_
     refine WR.step (Ex.assign rfl) (Wn.none rfl) rfl rfl ?_
     refine WR.nil ?_
     exact WQ.meetN [(2, _)] ⟨rfl, trivial⟩ ⟨_, _, rfl, H, e2⟩
   ·
    rw [if_neg hk5] at e2
    refine WR.stepE (v' := .bool false) (Ex.eql rfl rfl) (congrArg Value.bool (decide_eq_false hk5)) (Wn.none rfl) rfl rfl ?_
    refine WR.step (Ex.move rfl) (Wn.none rfl) rfl rfl ?_
    refine WR.skipN 8 rfl rfl ?_
    refine WR.step (Ex.pickF rfl rfl) (Wn.none rfl) rfl rfl ?_
    refine WR.step (Ex.assign rfl) (Wn.none rfl) rfl rfl ?_
    refine WR.nil ?_
    exact WQ.meetN [(2, _)] ⟨rfl, trivial⟩ ⟨_, _, rfl, H, e2⟩
  ·
   rintro e w ⟨b3, M, rfl, H, q9⟩
   obtain rfl := Option.some.inj q9
   refine WQ.then ?_
   refine WC.ret ?_
   (repeat (first | refine WQ.thenRet ?_ | refine WQ.inBlockRet ?_ | refine WQ.cutRet ?_ | refine WQ.scRet ?_))
   obtain rfl := Option.some.inj h
   exact WQ.ret1 rfl rfl H.ext rfl
theorem dates_length_ct {p0 : Int} {p1 : Int} {r : Int} (h : dates_length p0 p1 = some r) : Ct Tryz.prog 23 [I p0, I p1] (fun M => True) (fun v M => v = I r) := by
  refine Ct.of Tryz.func23 (enters Tryz.func23 (by kernel_rfl) rfl) rfl rfl rfl ?_
  intro w0 M0 H hp
  unfold dates_length at h
  refine WC.seq ?_
  refine WC.region ?_
  refine WR.step (Ex.assign rfl) (Wn.none rfl) rfl rfl ?_
  refine WR.nil ?_
  refine WQ.then ?_
  refine WC.seq ?_
  obtain ⟨n1, hxn1, h⟩ := bnd h
  obtain ⟨a2, hxa2, h⟩ := bnd h
  refine WC.region ?_
  refine WR.step (Ex.buildArr [I 31, I 28, I 31, I 30, I 31, I 30, I 31, I 31, I 30, I 31, I 30, I 31] Tryz.underlying66 Tryz.zeroValue66 Tryz.sizeOf3 rfl (by kernel_rfl)) (Wn.none rfl) rfl rfl ?_
  refine WR.step (Ex.move rfl) (Wn.none rfl) rfl rfl ?_
  refine WR.step (Ex.subC rfl rfl hxn1) (Wn.none rfl) rfl rfl ?_
  refine WR.step (Ex.idxAggA (l := ([31, 28, 31, 30, 31, 30, 31, 31, 30, 31, 30, 31] : List Int)) Tryz.underlying66 Tryz.sizeOf3 Tryz.isAgg3 rfl rfl hxa2) (Wn.none rfl) rfl rfl ?_
  refine WR.step (Ex.assign rfl) (Wn.none rfl) rfl rfl ?_
  refine WR.nil ?_
  refine WQ.then ?_
  refine WC.seq ?_
  refine WC.seq ?_
  obtain ⟨o3, e4, h⟩ := bnd h
  refine WC.cutX (fun e w => ∃ (b5 : Bool) (M : Mem), e = [(5, I a2), (15, Value.bool b5)] ∧ St w0 M0 M [] w ∧ some b5 = some o3) [] ?_ ?_ (trivial)
  ·
   by_cases hk6 : p1 = (2 : Int)
   ·
    rw [if_pos hk6] at e4
    obtain ⟨b7, hx8, e4⟩ := bnd e4
    refine WC.region ?_
    refine WR.step (Ex.move rfl) (Wn.none rfl) rfl rfl ?_
    refine WR.stepE (v' := .bool true) (Ex.eql rfl rfl) (congrArg Value.bool (decide_eq_true hk6)) (Wn.none rfl) rfl rfl ?_
    refine WR.step (Ex.move rfl) (Wn.none rfl) rfl rfl ?_
    refine WR.step (Ex.move rfl) (Wn.some rfl rfl rfl) rfl rfl ?_
    refine WR.call H (dates_leap_ct hx8) rfl trivial (Wn.some rfl rfl rfl) rfl ?_
    intro v14 M w H hle hR
    obtain rfl := hR
    refine WR.step (Ex.pickT rfl rfl) (Wn.none rfl) rfl rfl ?_
    refine WR.nil ?_
    exact WQ.meetN [(5, _), (15, _)] ⟨rfl, rfl, trivial⟩ ⟨_, _, rfl, H, e4⟩
   ·
    rw [if_neg hk6] at e4
    refine WC.region ?_
    refine WR.step (Ex.move rfl) (Wn.none rfl) rfl rfl ?_
    refine WR.stepE (v' := .bool false) (Ex.eql rfl rfl) (congrArg Value.bool (decide_eq_false hk6)) (Wn.none rfl) rfl rfl ?_
    refine WR.step (Ex.move rfl) (Wn.none rfl) rfl rfl ?_
    refine WR.skipG (b := false) rfl rfl rfl rfl rfl ?_
    refine WR.skipG (b := false) rfl rfl rfl rfl rfl ?_
    refine WR.step (Ex.pickF rfl rfl) (Wn.none rfl) rfl rfl ?_
    refine WR.nil ?_
    exact WQ.meetN [(5, _), (15, _)] ⟨rfl, rfl, trivial⟩ ⟨_, _, rfl, H, e4⟩
  ·
   rintro e w ⟨b5, M, rfl, H, q9⟩
   obtain rfl := Option.some.inj q9
   refine WQ.then ?_
   refine WC.condB rfl (fun hk10 => ?_) (fun hk10 => ?_)
   ·
    subst hk10
    rw [if_pos rfl] at h
    obtain ⟨n11, hxn11, h⟩ := bnd h
    refine WC.region ?_
    refine WR.step (Ex.move rfl) (Wn.none rfl) rfl rfl ?_
    refine WR.step (Ex.addC rfl rfl hxn11) (Wn.none rfl) rfl rfl ?_
    refine WR.step (Ex.assign rfl) (Wn.none rfl) rfl rfl ?_
    refine WR.nil ?_
    refine WQ.then ?_
    refine WC.seq ?_
    refine WC.region ?_
    refine WR.step (Ex.move rfl) (Wn.none rfl) rfl rfl ?_
    refine WR.step (Ex.assign rfl) (Wn.none rfl) rfl rfl ?_
    refine WR.nil ?_
    refine WQ.then ?_
    refine WC.ret ?_
    (repeat (first | refine WQ.thenRet ?_ | refine WQ.inBlockRet ?_ | refine WQ.cutRet ?_ | refine WQ.scRet ?_))
    obtain rfl := Option.some.inj h
    exact WQ.ret1 rfl rfl H.ext rfl
   ·
    subst hk10
    rw [if_neg Bool.false_ne_true] at h
    refine WC.skip ?_
    refine WQ.then ?_
    refine WC.seq ?_
    refine WC.region ?_
    refine WR.step (Ex.move rfl) (Wn.none rfl) rfl rfl ?_
    refine WR.step (Ex.assign rfl) (Wn.none rfl) rfl rfl ?_
    refine WR.nil ?_
    refine WQ.then ?_
    refine WC.ret ?_
    (repeat (first | refine WQ.thenRet ?_ | refine WQ.inBlockRet ?_ | refine WQ.cutRet ?_ | refine WQ.scRet ?_))
    obtain rfl := Option.some.inj h
    exact WQ.ret1 rfl rfl H.ext rfl
theorem basic_Fault_ct {p0 : Int} {p1 : Int} {r : (Int × Int)} (h : basic_Fault p0 p1 = some r) : Ct Tryz.prog 24 [I p0, I p1] (fun M => True) (fun v M => v = Value.agg #[I r.1, I r.2]) := by
  refine Ct.of Tryz.func24 (enters Tryz.func24 (by kernel_rfl) rfl) rfl rfl rfl ?_
  intro w0 M0 H hp
  unfold basic_Fault at h
  refine WC.seq ?_
  refine WC.region ?_
  refine WR.alloc [_, _] H Tryz.zeroValue26 rfl (Wn.none rfl) rfl ?_
  intro b4 w H
  refine WR.nil ?_
  refine WQ.then ?_
  refine WC.seq ?_
  refine WC.region ?_
  refine WR.step (Ex.move rfl) (Wn.none rfl) rfl rfl ?_
  refine WR.step (Ex.move rfl) (Wn.none rfl) rfl rfl ?_
  refine WR.step (Ex.build [I p0, I p1] Tryz.underlying26 Tryz.zeroValue26 (xplaces26 Tryz.underlying26) rfl rfl) (Wn.none rfl) rfl rfl ?_
  refine WR.store [_, _] H rfl rfl rfl (by repeat (first | exact Upd.head | apply Upd.tail)) Tryz.sizeOf26 rfl (by rfl) (by rfl) (Wn.none rfl) ?_
  intro w H
  refine WR.nil ?_
  refine WQ.then ?_
  refine WC.ret ?_
  (repeat (first | refine WQ.thenRet ?_ | refine WQ.inBlockRet ?_ | refine WQ.cutRet ?_ | refine WQ.scRet ?_))
  obtain rfl := Option.some.inj h
  exact WQ.ret1 rfl ⟨_, rfl, H.loadAgg (by repeat (first | exact List.Mem.head _ | apply List.Mem.tail)) Tryz.isAgg26 Tryz.sizeOf26 (by rfl)⟩ H.ext rfl
theorem basic_None_ct  {r : (Int × Int)} (h : basic_None = some r) : Ct Tryz.prog 25 [] (fun M => True) (fun v M => v = Value.agg #[I r.1, I r.2]) := by
  refine Ct.of Tryz.func25 (enters Tryz.func25 (by kernel_rfl) rfl) rfl rfl rfl ?_
  intro w0 M0 H hp
  unfold basic_None at h
  refine WC.seq ?_
  refine WC.region ?_
  refine WR.alloc [_, _] H Tryz.zeroValue26 rfl (Wn.none rfl) rfl ?_
  intro b0 w H
  refine WR.nil ?_
  refine WQ.then ?_
  refine WC.seq ?_
  refine WC.region ?_
  refine WR.step (Ex.build [I 0, I 0] Tryz.underlying26 Tryz.zeroValue26 (xplaces26 Tryz.underlying26) rfl rfl) (Wn.none rfl) rfl rfl ?_
  refine WR.store [_, _] H rfl rfl rfl (by repeat (first | exact Upd.head | apply Upd.tail)) Tryz.sizeOf26 rfl (by rfl) (by rfl) (Wn.none rfl) ?_
  intro w H
  refine WR.nil ?_
  refine WQ.then ?_
  refine WC.ret ?_
  (repeat (first | refine WQ.thenRet ?_ | refine WQ.inBlockRet ?_ | refine WQ.cutRet ?_ | refine WQ.scRet ?_))
  obtain rfl := Option.some.inj h
  exact WQ.ret1 rfl ⟨_, rfl, H.loadAgg (by repeat (first | exact List.Mem.head _ | apply List.Mem.tail)) Tryz.isAgg26 Tryz.sizeOf26 (by rfl)⟩ H.ext rfl
theorem dates_Validate_ct {p0 : (Int × Int × Int × Int × Int × Int × Int)} {r : (Int × Int)} (h : dates_Validate p0 = some r) : Ct Tryz.prog 8 [Value.agg #[I p0.1, I p0.2.1, I p0.2.2.1, I p0.2.2.2.1, I p0.2.2.2.2.1, I p0.2.2.2.2.2.1, I p0.2.2.2.2.2.2]] (fun M => True) (fun v M => v = Value.agg #[I r.1, I r.2]) := by
  refine Ct.of Tryz.func8 (enters Tryz.func8 (by kernel_rfl) rfl) rfl rfl rfl ?_
  intro w0 M0 H hp
  unfold dates_Validate at h
  refine WC.seq ?_
  refine WC.region ?_
  refine WR.box [_, _, _, _, _, _, _] H rfl rfl (Wn.none rfl) rfl ?_
  intro b1 w H
  refine WR.alloc [_, _] H Tryz.zeroValue26 rfl (Wn.none rfl) rfl ?_
  intro b2 w H
  refine WR.nil ?_
  refine WQ.then ?_
  refine WC.seq ?_
  obtain ⟨o1, e2, h⟩ := bnd h
  refine WC.cutX (fun e w => ∃ (b3 : Bool) (M : Mem), e = [(2, ptr b2 0), (3, Value.bool b3)] ∧ St w0 M0 M [.blk b2 (.cells #[I 0, I 0] 26)] w ∧ some b3 = some o1) [] ?_ ?_ (trivial)
  ·
   obtain ⟨b4, hx5, e2⟩ := bnd e2
   refine WC.draw (m := 41) rfl rfl H ?_
   intro w H
   refine WA.seq (fuel := 37) [0, 1, 2, 3] rfl (by kernel_rfl) ?_
   refine WR.step (Ex.fieldAddr Tryz.underlying23 rfl Tryz.sizeOf3 (by decide) rfl) (Wn.none rfl) rfl rfl ?_
   refine WR.step (Ex.load1 H rfl (by repeat (first | exact List.Mem.head _ | apply List.Mem.tail)) Tryz.isAgg3 (by rfl)) (Wn.none rfl) rfl rfl ?_
   refine WR.call H (dates_within_ct hx5) rfl trivial (Wn.none rfl) rfl ?_
   intro v6 M w H hle hR
   obtain rfl := hR
   refine WR.step (Ex.move rfl) (Wn.none rfl) rfl rfl ?_
   refine WR.nil (WQ.any ?_)
   rcases b4 with _ | _
   ·
    rw [if_neg Bool.false_ne_true] at e2
    refine WA.seq (fuel := 32) [4, 5, 6, 7, 8] rfl (by kernel_rfl) ?_
    refine WR.skipN 3 rfl rfl ?_
    refine WR.step (Ex.pickF rfl rfl) (Wn.none rfl) rfl rfl ?_
    refine WR.step (Ex.move rfl) (Wn.none rfl) rfl rfl ?_
    refine WR.nil (WQ.any ?_)
    refine WA.takes (fuel := 28) [9, 10, 11, 12] rfl (by kernel_rfl) (by kernel_rfl) rfl ?_
    refine WA.seq (fuel := 0) [13, 14, 15, 16, 17, 18, 19, 20, 21, 22, 23, 24, 25, 26, 27, 28, 29, 30, 31, 32, 33, 34, 35, 36, 37, 38, 39, 40] rfl (by kernel_rfl) ?_
    refine WR.skipN 6 rfl rfl ?_
    refine WR.step (Ex.pickF rfl rfl) (Wn.none rfl) rfl rfl ?_
    refine WR.step (Ex.move rfl) (Wn.none rfl) rfl rfl ?_
    refine WR.skipN 3 rfl rfl ?_
    refine WR.step (Ex.pickF rfl rfl) (Wn.none rfl) rfl rfl ?_
    refine WR.step (Ex.move rfl) (Wn.none rfl) rfl rfl ?_
    refine WR.skipN 3 rfl rfl ?_
    refine WR.step (Ex.pickF rfl rfl) (Wn.none rfl) rfl rfl ?_
    refine WR.step (Ex.move rfl) (Wn.none rfl) rfl rfl ?_
    refine WR.skipN 3 rfl rfl ?_
    refine WR.step (Ex.pickF rfl rfl) (Wn.none rfl) rfl rfl ?_
    refine WR.step (Ex.move rfl) (Wn.none rfl) rfl rfl ?_
    refine WR.skipN 3 rfl rfl ?_
    refine WR.step (Ex.pickF rfl rfl) (Wn.none rfl) rfl rfl ?_
    refine WR.step (Ex.assign rfl) (Wn.none rfl) rfl rfl ?_
    refine WR.nil (WQ.any ?_)
    refine WA.done (by kernel_rfl) ?_
    exact WQ.meetN [(2, _), (3, _)] ⟨rfl, rfl, trivial⟩ ⟨_, _, rfl, (H.pick (L' := [.blk b2 (.cells #[I 0, I 0] 26)]) (by repeat (first | exact Pick.nil | refine Pick.cons (by repeat (first | exact Rem.head | apply Rem.tail)) ?_))), e2⟩
   ·
    rw [if_pos rfl] at e2
    obtain ⟨b6, hx7, e2⟩ := bnd e2
    refine WA.seq (fuel := 32) [4, 5, 6, 7, 8] rfl (by kernel_rfl) ?_
    refine WR.step (Ex.fieldAddr Tryz.underlying23 rfl Tryz.sizeOf3 (by decide) rfl) (Wn.some rfl rfl rfl) rfl rfl ?_
    refine WR.step (Ex.load1 H rfl (by repeat (first | exact List.Mem.head _ | apply List.Mem.tail)) Tryz.isAgg3 (by rfl)) (Wn.some rfl rfl rfl) rfl rfl ?_
    refine WR.call H (dates_within_ct hx7) rfl trivial (Wn.some rfl rfl rfl) rfl ?_
    intro v10 M w H hle hR
    obtain rfl := hR
    refine WR.step (Ex.pickT rfl rfl) (Wn.none rfl) rfl rfl ?_
    refine WR.step (Ex.move rfl) (Wn.none rfl) rfl rfl ?_
    refine WR.nil (WQ.any ?_)
    rcases b6 with _ | _
    ·
     rw [if_neg Bool.false_ne_true] at e2
     refine WA.takes (fuel := 28) [9, 10, 11, 12] rfl (by kernel_rfl) (by kernel_rfl) rfl ?_
     refine WA.seq (fuel := 0) [13, 14, 15, 16, 17, 18, 19, 20, 21, 22, 23, 24, 25, 26, 27, 28, 29, 30, 31, 32, 33, 34, 35, 36, 37, 38, 39, 40] rfl (by kernel_rfl) ?_
     refine WR.skipN 6 rfl rfl ?_
     refine WR.step (Ex.pickF rfl rfl) (Wn.none rfl) rfl rfl ?_
     refine WR.step (Ex.move rfl) (Wn.none rfl) rfl rfl ?_
     refine WR.skipN 3 rfl rfl ?_
     refine WR.step (Ex.pickF rfl rfl) (Wn.none rfl) rfl rfl ?_
     refine WR.step (Ex.move rfl) (Wn.none rfl) rfl rfl ?_
     refine WR.skipN 3 rfl rfl ?_
     refine WR.step (Ex.pickF rfl rfl) (Wn.none rfl) rfl rfl ?_
     refine WR.step (Ex.move rfl) (Wn.none rfl) rfl rfl ?_
     refine WR.skipN 3 rfl rfl ?_
     refine WR.step (Ex.pickF rfl rfl) (Wn.none rfl) rfl rfl ?_
     refine WR.step (Ex.move rfl) (Wn.none rfl) rfl rfl ?_
     refine WR.skipN 3 rfl rfl ?_
     refine WR.step (Ex.pickF rfl rfl) (Wn.none rfl) rfl rfl ?_
     refine WR.step (Ex.assign rfl) (Wn.none rfl) rfl rfl ?_
     refine WR.nil (WQ.any ?_)
     refine WA.done (by kernel_rfl) ?_
     exact WQ.meetN [(2, _), (3, _)] ⟨rfl, rfl, trivial⟩ ⟨_, _, rfl, (H.pick (L' := [.blk b2 (.cells #[I 0, I 0] 26)]) (by repeat (first | exact Pick.nil | refine Pick.cons (by repeat (first | exact Rem.head | apply Rem.tail)) ?_))), e2⟩
    ·
     rw [if_pos rfl] at e2
     obtain ⟨n8, hx9, e2⟩ := bnd e2
     obtain ⟨b10, hx11, e2⟩ := bnd e2
     refine WA.take (i := 9) rfl (by kernel_rfl) (by kernel_rfl) (by kernel_rfl) (fun _ => Ex.fieldAddr Tryz.underlying23 rfl Tryz.sizeOf3 (by decide) rfl) (Wn.some rfl rfl rfl) rfl rfl (fun _ _ => rfl) ?_
     refine WA.take (i := 11) rfl (by kernel_rfl) (by kernel_rfl) (by kernel_rfl) (fun _ => Ex.fieldAddr Tryz.underlying23 rfl Tryz.sizeOf3 (by decide) rfl) (Wn.some rfl rfl rfl) rfl rfl (fun _ _ => rfl) ?_
     refine WA.take (i := 13) rfl (by kernel_rfl) (by kernel_rfl) (by kernel_rfl) (fun _ => Ex.fieldAddr Tryz.underlying23 rfl Tryz.sizeOf3 (by decide) rfl) (Wn.some rfl rfl rfl) rfl rfl (fun _ _ => rfl) ?_
     refine WA.takeM (i := 14) [10, 12] rfl (by kernel_rfl) (by kernel_rfl) (by kernel_rfl) (Ex.load1 H rfl (by repeat (first | exact List.Mem.head _ | apply List.Mem.tail)) Tryz.isAgg3 (by rfl)) (Wn.some rfl rfl rfl) rfl rfl (fun _ _ => rfl) ?_
     refine WA.take (i := 15) rfl (by kernel_rfl) (by kernel_rfl) (by kernel_rfl) (fun _ => Ex.max2 rfl rfl) (Wn.some rfl rfl rfl) rfl rfl (fun _ _ => rfl) ?_
     refine WA.take (i := 16) rfl (by kernel_rfl) (by kernel_rfl) (by kernel_rfl) (fun _ => Ex.min2 rfl rfl) (Wn.some rfl rfl rfl) rfl rfl (fun _ _ => rfl) ?_
     refine WA.takeM (i := 12) [10] rfl (by kernel_rfl) (by kernel_rfl) (by kernel_rfl) (Ex.load1 H rfl (by repeat (first | exact List.Mem.head _ | apply List.Mem.tail)) Tryz.isAgg3 (by rfl)) (Wn.some rfl rfl rfl) rfl rfl (fun _ _ => rfl) ?_
     rcases b10 with _ | _
     ·
      rw [if_neg Bool.false_ne_true] at e2
      refine WA.two (i := 10) (j := 17) (by kernel_rfl) rfl rfl ?_ ?_
      ·
       refine WR.step (Ex.load1 H rfl (by repeat (first | exact List.Mem.head _ | apply List.Mem.tail)) Tryz.isAgg3 (by rfl)) (Wn.some rfl rfl rfl) rfl rfl ?_
       refine WR.nil (WQ.any ?_)
       refine WA.seq (fuel := 0) [17, 18, 19, 20, 21, 22, 23, 24, 25, 26, 27, 28, 29, 30, 31, 32, 33, 34, 35, 36, 37, 38, 39, 40] rfl (by kernel_rfl) ?_
       refine WR.call H (dates_length_ct hx9) rfl trivial (Wn.some rfl rfl rfl) rfl ?_
       intro v21 M w H hle hR
       obtain rfl := hR
       refine WR.call H (dates_within_ct hx11) rfl trivial (Wn.some rfl rfl rfl) rfl ?_
       intro v22 M w H hle hR
       obtain rfl := hR
       refine WR.step (Ex.pickT rfl rfl) (Wn.none rfl) rfl rfl ?_
       refine WR.step (Ex.move rfl) (Wn.none rfl) rfl rfl ?_
       refine WR.skipN 3 rfl rfl ?_
       refine WR.step (Ex.pickF rfl rfl) (Wn.none rfl) rfl rfl ?_
       refine WR.step (Ex.move rfl) (Wn.none rfl) rfl rfl ?_
       refine WR.skipN 3 rfl rfl ?_
       refine WR.step (Ex.pickF rfl rfl) (Wn.none rfl) rfl rfl ?_
       refine WR.step (Ex.move rfl) (Wn.none rfl) rfl rfl ?_
       refine WR.skipN 3 rfl rfl ?_
       refine WR.step (Ex.pickF rfl rfl) (Wn.none rfl) rfl rfl ?_
       refine WR.step (Ex.move rfl) (Wn.none rfl) rfl rfl ?_
       refine WR.skipN 3 rfl rfl ?_
       refine WR.step (Ex.pickF rfl rfl) (Wn.none rfl) rfl rfl ?_
       refine WR.step (Ex.assign rfl) (Wn.none rfl) rfl rfl ?_
       refine WR.nil (WQ.any ?_)
       refine WA.done (by kernel_rfl) ?_
       exact WQ.meetN [(2, _), (3, _)] ⟨rfl, rfl, trivial⟩ ⟨_, _, rfl, (H.pick (L' := [.blk b2 (.cells #[I 0, I 0] 26)]) (by repeat (first | exact Pick.nil | refine Pick.cons (by repeat (first | exact Rem.head | apply Rem.tail)) ?_))), e2⟩
      ·
       refine WR.call H (dates_length_ct hx9) rfl trivial (Wn.some rfl rfl rfl) rfl ?_
       intro v21 M w H hle hR
       obtain rfl := hR
       refine WR.nil (WQ.any ?_)
       refine WA.seq (fuel := 0) [10, 18, 19, 20, 21, 22, 23, 24, 25, 26, 27, 28, 29, 30, 31, 32, 33, 34, 35, 36, 37, 38, 39, 40] rfl (by kernel_rfl) ?_
       refine WR.step (Ex.load1 H rfl (by repeat (first | exact List.Mem.head _ | apply List.Mem.tail)) Tryz.isAgg3 (by rfl)) (Wn.some rfl rfl rfl) rfl rfl ?_
       refine WR.call H (dates_within_ct hx11) rfl trivial (Wn.some rfl rfl rfl) rfl ?_
       intro v22 M w H hle hR
       obtain rfl := hR
       refine WR.step (Ex.pickT rfl rfl) (Wn.none rfl) rfl rfl ?_
       refine WR.step (Ex.move rfl) (Wn.none rfl) rfl rfl ?_
       refine WR.skipN 3 rfl rfl ?_
       refine WR.step (Ex.pickF rfl rfl) (Wn.none rfl) rfl rfl ?_
       refine WR.step (Ex.move rfl) (Wn.none rfl) rfl rfl ?_
       refine WR.skipN 3 rfl rfl ?_
       refine WR.step (Ex.pickF rfl rfl) (Wn.none rfl) rfl rfl ?_
       refine WR.step (Ex.move rfl) (Wn.none rfl) rfl rfl ?_
       refine WR.skipN 3 rfl rfl ?_
       refine WR.step (Ex.pickF rfl rfl) (Wn.none rfl) rfl rfl ?_
       refine WR.step (Ex.move rfl) (Wn.none rfl) rfl rfl ?_
       refine WR.skipN 3 rfl rfl ?_
       refine WR.step (Ex.pickF rfl rfl) (Wn.none rfl) rfl rfl ?_
       refine WR.step (Ex.assign rfl) (Wn.none rfl) rfl rfl ?_
       refine WR.nil (WQ.any ?_)
       refine WA.done (by kernel_rfl) ?_
       exact WQ.meetN [(2, _), (3, _)] ⟨rfl, rfl, trivial⟩ ⟨_, _, rfl, (H.pick (L' := [.blk b2 (.cells #[I 0, I 0] 26)]) (by repeat (first | exact Pick.nil | refine Pick.cons (by repeat (first | exact Rem.head | apply Rem.tail)) ?_))), e2⟩
     ·
      rw [if_pos rfl] at e2
      obtain ⟨b12, hx13, e2⟩ := bnd e2
      rcases b12 with _ | _
      ·
       rw [if_neg Bool.false_ne_true] at e2
       refine WA.two (i := 10) (j := 17) (by kernel_rfl) rfl rfl ?_ ?_
       ·
        refine WR.step (Ex.load1 H rfl (by repeat (first | exact List.Mem.head _ | apply List.Mem.tail)) Tryz.isAgg3 (by rfl)) (Wn.some rfl rfl rfl) rfl rfl ?_
        refine WR.nil (WQ.any ?_)
        refine WA.seq (fuel := 0) [17, 18, 19, 20, 21, 22, 23, 24, 25, 26, 27, 28, 29, 30, 31, 32, 33, 34, 35, 36, 37, 38, 39, 40] rfl (by kernel_rfl) ?_
        refine WR.call H (dates_length_ct hx9) rfl trivial (Wn.some rfl rfl rfl) rfl ?_
        intro v21 M w H hle hR
        obtain rfl := hR
        refine WR.call H (dates_within_ct hx11) rfl trivial (Wn.some rfl rfl rfl) rfl ?_
        intro v22 M w H hle hR
        obtain rfl := hR
        refine WR.step (Ex.pickT rfl rfl) (Wn.none rfl) rfl rfl ?_
        refine WR.step (Ex.move rfl) (Wn.none rfl) rfl rfl ?_
        refine WR.step (Ex.fieldAddr Tryz.underlying23 rfl Tryz.sizeOf3 (by decide) rfl) (Wn.some rfl rfl rfl) rfl rfl ?_
        refine WR.step (Ex.load1 H rfl (by repeat (first | exact List.Mem.head _ | apply List.Mem.tail)) Tryz.isAgg3 (by rfl)) (Wn.some rfl rfl rfl) rfl rfl ?_
        refine WR.call H (dates_within_ct hx13) rfl trivial (Wn.some rfl rfl rfl) rfl ?_
        intro v27 M w H hle hR
        obtain rfl := hR
        refine WR.step (Ex.pickT rfl rfl) (Wn.none rfl) rfl rfl ?_
        refine WR.step (Ex.move rfl) (Wn.none rfl) rfl rfl ?_
        refine WR.skipN 3 rfl rfl ?_
        refine WR.step (Ex.pickF rfl rfl) (Wn.none rfl) rfl rfl ?_
        refine WR.step (Ex.move rfl) (Wn.none rfl) rfl rfl ?_
        refine WR.skipN 3 rfl rfl ?_
        refine WR.step (Ex.pickF rfl rfl) (Wn.none rfl) rfl rfl ?_
        refine WR.step (Ex.move rfl) (Wn.none rfl) rfl rfl ?_
        refine WR.skipN 3 rfl rfl ?_
        refine WR.step (Ex.pickF rfl rfl) (Wn.none rfl) rfl rfl ?_
        refine WR.step (Ex.assign rfl) (Wn.none rfl) rfl rfl ?_
        refine WR.nil (WQ.any ?_)
        refine WA.done (by kernel_rfl) ?_
        exact WQ.meetN [(2, _), (3, _)] ⟨rfl, rfl, trivial⟩ ⟨_, _, rfl, (H.pick (L' := [.blk b2 (.cells #[I 0, I 0] 26)]) (by repeat (first | exact Pick.nil | refine Pick.cons (by repeat (first | exact Rem.head | apply Rem.tail)) ?_))), e2⟩
       ·
        refine WR.call H (dates_length_ct hx9) rfl trivial (Wn.some rfl rfl rfl) rfl ?_
        intro v21 M w H hle hR
        obtain rfl := hR
        refine WR.nil (WQ.any ?_)
        refine WA.seq (fuel := 0) [10, 18, 19, 20, 21, 22, 23, 24, 25, 26, 27, 28, 29, 30, 31, 32, 33, 34, 35, 36, 37, 38, 39, 40] rfl (by kernel_rfl) ?_
        refine WR.step (Ex.load1 H rfl (by repeat (first | exact List.Mem.head _ | apply List.Mem.tail)) Tryz.isAgg3 (by rfl)) (Wn.some rfl rfl rfl) rfl rfl ?_
        refine WR.call H (dates_within_ct hx11) rfl trivial (Wn.some rfl rfl rfl) rfl ?_
        intro v22 M w H hle hR
        obtain rfl := hR
        refine WR.step (Ex.pickT rfl rfl) (Wn.none rfl) rfl rfl ?_
        refine WR.step (Ex.move rfl) (Wn.none rfl) rfl rfl ?_
        refine WR.step (Ex.fieldAddr Tryz.underlying23 rfl Tryz.sizeOf3 (by decide) rfl) (Wn.some rfl rfl rfl) rfl rfl ?_
        refine WR.step (Ex.load1 H rfl (by repeat (first | exact List.Mem.head _ | apply List.Mem.tail)) Tryz.isAgg3 (by rfl)) (Wn.some rfl rfl rfl) rfl rfl ?_
        refine WR.call H (dates_within_ct hx13) rfl trivial (Wn.some rfl rfl rfl) rfl ?_
        intro v27 M w H hle hR
        obtain rfl := hR
        refine WR.step (Ex.pickT rfl rfl) (Wn.none rfl) rfl rfl ?_
        refine WR.step (Ex.move rfl) (Wn.none rfl) rfl rfl ?_
        refine WR.skipN 3 rfl rfl ?_
        refine WR.step (Ex.pickF rfl rfl) (Wn.none rfl) rfl rfl ?_
        refine WR.step (Ex.move rfl) (Wn.none rfl) rfl rfl ?_
        refine WR.skipN 3 rfl rfl ?_
        refine WR.step (Ex.pickF rfl rfl) (Wn.none rfl) rfl rfl ?_
        refine WR.step (Ex.move rfl) (Wn.none rfl) rfl rfl ?_
        refine WR.skipN 3 rfl rfl ?_
        refine WR.step (Ex.pickF rfl rfl) (Wn.none rfl) rfl rfl ?_
        refine WR.step (Ex.assign rfl) (Wn.none rfl) rfl rfl ?_
        refine WR.nil (WQ.any ?_)
        refine WA.done (by kernel_rfl) ?_
        exact WQ.meetN [(2, _), (3, _)] ⟨rfl, rfl, trivial⟩ ⟨_, _, rfl, (H.pick (L' := [.blk b2 (.cells #[I 0, I 0] 26)]) (by repeat (first | exact Pick.nil | refine Pick.cons (by repeat (first | exact Rem.head | apply Rem.tail)) ?_))), e2⟩
      ·
       rw [if_pos rfl] at e2
       obtain ⟨b14, hx15, e2⟩ := bnd e2
       rcases b14 with _ | _
       ·
        rw [if_neg Bool.false_ne_true] at e2
        refine WA.two (i := 10) (j := 17) (by kernel_rfl) rfl rfl ?_ ?_
        ·
         refine WR.step (Ex.load1 H rfl (by repeat (first | exact List.Mem.head _ | apply List.Mem.tail)) Tryz.isAgg3 (by rfl)) (Wn.some rfl rfl rfl) rfl rfl ?_
         refine WR.nil (WQ.any ?_)
         refine WA.seq (fuel := 0) [17, 18, 19, 20, 21, 22, 23, 24, 25, 26, 27, 28, 29, 30, 31, 32, 33, 34, 35, 36, 37, 38, 39, 40] rfl (by kernel_rfl) ?_
         refine WR.call H (dates_length_ct hx9) rfl trivial (Wn.some rfl rfl rfl) rfl ?_
         intro v21 M w H hle hR
         obtain rfl := hR
         refine WR.call H (dates_within_ct hx11) rfl trivial (Wn.some rfl rfl rfl) rfl ?_
         intro v22 M w H hle hR
         obtain rfl := hR
         refine WR.step (Ex.pickT rfl rfl) (Wn.none rfl) rfl rfl ?_
         refine WR.step (Ex.move rfl) (Wn.none rfl) rfl rfl ?_
         refine WR.step (Ex.fieldAddr Tryz.underlying23 rfl Tryz.sizeOf3 (by decide) rfl) (Wn.some rfl rfl rfl) rfl rfl ?_
         refine WR.step (Ex.load1 H rfl (by repeat (first | exact List.Mem.head _ | apply List.Mem.tail)) Tryz.isAgg3 (by rfl)) (Wn.some rfl rfl rfl) rfl rfl ?_
         refine WR.call H (dates_within_ct hx13) rfl trivial (Wn.some rfl rfl rfl) rfl ?_
         intro v27 M w H hle hR
         obtain rfl := hR
         refine WR.step (Ex.pickT rfl rfl) (Wn.none rfl) rfl rfl ?_
         refine WR.step (Ex.move rfl) (Wn.none rfl) rfl rfl ?_
         refine WR.step (Ex.fieldAddr Tryz.underlying23 rfl Tryz.sizeOf3 (by decide) rfl) (Wn.some rfl rfl rfl) rfl rfl ?_
         refine WR.step (Ex.load1 H rfl (by repeat (first | exact List.Mem.head _ | apply List.Mem.tail)) Tryz.isAgg3 (by rfl)) (Wn.some rfl rfl rfl) rfl rfl ?_
         refine WR.call H (dates_within_ct hx15) rfl trivial (Wn.some rfl rfl rfl) rfl ?_
         intro v32 M w H hle hR
         obtain rfl := hR
         refine WR.step (Ex.pickT rfl rfl) (Wn.none rfl) rfl rfl ?_
         refine WR.step (Ex.move rfl) (Wn.none rfl) rfl rfl ?_
         refine WR.skipN 3 rfl rfl ?_
         refine WR.step (Ex.pickF rfl rfl) (Wn.none rfl) rfl rfl ?_
         refine WR.step (Ex.move rfl) (Wn.none rfl) rfl rfl ?_
         refine WR.skipN 3 rfl rfl ?_
         refine WR.step (Ex.pickF rfl rfl) (Wn.none rfl) rfl rfl ?_
         refine WR.step (Ex.assign rfl) (Wn.none rfl) rfl rfl ?_
         refine WR.nil (WQ.any ?_)
         refine WA.done (by kernel_rfl) ?_
         exact WQ.meetN [(2, _), (3, _)] ⟨rfl, rfl, trivial⟩ ⟨_, _, rfl, (H.pick (L' := [.blk b2 (.cells #[I 0, I 0] 26)]) (by repeat (first | exact Pick.nil | refine Pick.cons (by repeat (first | exact Rem.head | apply Rem.tail)) ?_))), e2⟩
        ·
         refine WR.call H (dates_length_ct hx9) rfl trivial (Wn.some rfl rfl rfl) rfl ?_
         intro v21 M w H hle hR
         obtain rfl := hR
         refine WR.nil (WQ.any ?_)
         refine WA.seq (fuel := 0) [10, 18, 19, 20, 21, 22, 23, 24, 25, 26, 27, 28, 29, 30, 31, 32, 33, 34, 35, 36, 37, 38, 39, 40] rfl (by kernel_rfl) ?_
         refine WR.step (Ex.load1 H rfl (by repeat (first | exact List.Mem.head _ | apply List.Mem.tail)) Tryz.isAgg3 (by rfl)) (Wn.some rfl rfl rfl) rfl rfl ?_
         refine WR.call H (dates_within_ct hx11) rfl trivial (Wn.some rfl rfl rfl) rfl ?_
         intro v22 M w H hle hR
         obtain rfl := hR
         refine WR.step (Ex.pickT rfl rfl) (Wn.none rfl) rfl rfl ?_
         refine WR.step (Ex.move rfl) (Wn.none rfl) rfl rfl ?_
         refine WR.step (Ex.fieldAddr Tryz.underlying23 rfl Tryz.sizeOf3 (by decide) rfl) (Wn.some rfl rfl rfl) rfl rfl ?_
         refine WR.step (Ex.load1 H rfl (by repeat (first | exact List.Mem.head _ | apply List.Mem.tail)) Tryz.isAgg3 (by rfl)) (Wn.some rfl rfl rfl) rfl rfl ?_
         refine WR.call H (dates_within_ct hx13) rfl trivial (Wn.some rfl rfl rfl) rfl ?_
         intro v27 M w H hle hR
         obtain rfl := hR
         refine WR.step (Ex.pickT rfl rfl) (Wn.none rfl) rfl rfl ?_
         refine WR.step (Ex.move rfl) (Wn.none rfl) rfl rfl ?_
         refine WR.step (Ex.fieldAddr Tryz.underlying23 rfl Tryz.sizeOf3 (by decide) rfl) (Wn.some rfl rfl rfl) rfl rfl ?_
         refine WR.step (Ex.load1 H rfl (by repeat (first | exact List.Mem.head _ | apply List.Mem.tail)) Tryz.isAgg3 (by rfl)) (Wn.some rfl rfl rfl) rfl rfl ?_
         refine WR.call H (dates_within_ct hx15) rfl trivial (Wn.some rfl rfl rfl) rfl ?_
         intro v32 M w H hle hR
         obtain rfl := hR
         refine WR.step (Ex.pickT rfl rfl) (Wn.none rfl) rfl rfl ?_
         refine WR.step (Ex.move rfl) (Wn.none rfl) rfl rfl ?_
         refine WR.skipN 3 rfl rfl ?_
         refine WR.step (Ex.pickF rfl rfl) (Wn.none rfl) rfl rfl ?_
         refine WR.step (Ex.move rfl) (Wn.none rfl) rfl rfl ?_
         refine WR.skipN 3 rfl rfl ?_
         refine WR.step (Ex.pickF rfl rfl) (Wn.none rfl) rfl rfl ?_
         refine WR.step (Ex.assign rfl) (Wn.none rfl) rfl rfl ?_
         refine WR.nil (WQ.any ?_)
         refine WA.done (by kernel_rfl) ?_
         exact WQ.meetN [(2, _), (3, _)] ⟨rfl, rfl, trivial⟩ ⟨_, _, rfl, (H.pick (L' := [.blk b2 (.cells #[I 0, I 0] 26)]) (by repeat (first | exact Pick.nil | refine Pick.cons (by repeat (first | exact Rem.head | apply Rem.tail)) ?_))), e2⟩
       ·
        rw [if_pos rfl] at e2
        obtain ⟨b16, hx17, e2⟩ := bnd e2
        rcases b16 with _ | _
        ·
         rw [if_neg Bool.false_ne_true] at e2
         refine WA.two (i := 10) (j := 17) (by kernel_rfl) rfl rfl ?_ ?_
         ·
          refine WR.step (Ex.load1 H rfl (by repeat (first | exact List.Mem.head _ | apply List.Mem.tail)) Tryz.isAgg3 (by rfl)) (Wn.some rfl rfl rfl) rfl rfl ?_
          refine WR.nil (WQ.any ?_)
          refine WA.seq (fuel := 0) [17, 18, 19, 20, 21, 22, 23, 24, 25, 26, 27, 28, 29, 30, 31, 32, 33, 34, 35, 36, 37, 38, 39, 40] rfl (by kernel_rfl) ?_
          refine WR.call H (dates_length_ct hx9) rfl trivial (Wn.some rfl rfl rfl) rfl ?_
          intro v21 M w H hle hR
          obtain rfl := hR
          refine WR.call H (dates_within_ct hx11) rfl trivial (Wn.some rfl rfl rfl) rfl ?_
          intro v22 M w H hle hR
          obtain rfl := hR
          refine WR.step (Ex.pickT rfl rfl) (Wn.none rfl) rfl rfl ?_
          refine WR.step (Ex.move rfl) (Wn.none rfl) rfl rfl ?_
          refine WR.step (Ex.fieldAddr Tryz.underlying23 rfl Tryz.sizeOf3 (by decide) rfl) (Wn.some rfl rfl rfl) rfl rfl ?_
          refine WR.step (Ex.load1 H rfl (by repeat (first | exact List.Mem.head _ | apply List.Mem.tail)) Tryz.isAgg3 (by rfl)) (Wn.some rfl rfl rfl) rfl rfl ?_
          refine WR.call H (dates_within_ct hx13) rfl trivial (Wn.some rfl rfl rfl) rfl ?_
          intro v27 M w H hle hR
          obtain rfl := hR
          refine WR.step (Ex.pickT rfl rfl) (Wn.none rfl) rfl rfl ?_
          refine WR.step (Ex.move rfl) (Wn.none rfl) rfl rfl ?_
          refine WR.step (Ex.fieldAddr Tryz.underlying23 rfl Tryz.sizeOf3 (by decide) rfl) (Wn.some rfl rfl rfl) rfl rfl ?_
          refine WR.step (Ex.load1 H rfl (by repeat (first | exact List.Mem.head _ | apply List.Mem.tail)) Tryz.isAgg3 (by rfl)) (Wn.some rfl rfl rfl) rfl rfl ?_
          refine WR.call H (dates_within_ct hx15) rfl trivial (Wn.some rfl rfl rfl) rfl ?_
          intro v32 M w H hle hR
          obtain rfl := hR
          refine WR.step (Ex.pickT rfl rfl) (Wn.none rfl) rfl rfl ?_
          refine WR.step (Ex.move rfl) (Wn.none rfl) rfl rfl ?_
          refine WR.step (Ex.fieldAddr Tryz.underlying23 rfl Tryz.sizeOf3 (by decide) rfl) (Wn.some rfl rfl rfl) rfl rfl ?_
          refine WR.step (Ex.load1 H rfl (by repeat (first | exact List.Mem.head _ | apply List.Mem.tail)) Tryz.isAgg3 (by rfl)) (Wn.some rfl rfl rfl) rfl rfl ?_
          refine WR.call H (dates_within_ct hx17) rfl trivial (Wn.some rfl rfl rfl) rfl ?_
          intro v37 M w H hle hR
          obtain rfl := hR
          refine WR.step (Ex.pickT rfl rfl) (Wn.none rfl) rfl rfl ?_
          refine WR.step (Ex.move rfl) (Wn.none rfl) rfl rfl ?_
          refine WR.skipN 3 rfl rfl ?_
          refine WR.step (Ex.pickF rfl rfl) (Wn.none rfl) rfl rfl ?_
          refine WR.step (Ex.assign rfl) (Wn.none rfl) rfl rfl ?_
          refine WR.nil (WQ.any ?_)
          refine WA.done (by kernel_rfl) ?_
          exact WQ.meetN [(2, _), (3, _)] ⟨rfl, rfl, trivial⟩ ⟨_, _, rfl, (H.pick (L' := [.blk b2 (.cells #[I 0, I 0] 26)]) (by repeat (first | exact Pick.nil | refine Pick.cons (by repeat (first | exact Rem.head | apply Rem.tail)) ?_))), e2⟩
         ·
          refine WR.call H (dates_length_ct hx9) rfl trivial (Wn.some rfl rfl rfl) rfl ?_
          intro v21 M w H hle hR
          obtain rfl := hR
          refine WR.nil (WQ.any ?_)
          refine WA.seq (fuel := 0) [10, 18, 19, 20, 21, 22, 23, 24, 25, 26, 27, 28, 29, 30, 31, 32, 33, 34, 35, 36, 37, 38, 39, 40] rfl (by kernel_rfl) ?_
          refine WR.step (Ex.load1 H rfl (by repeat (first | exact List.Mem.head _ | apply List.Mem.tail)) Tryz.isAgg3 (by rfl)) (Wn.some rfl rfl rfl) rfl rfl ?_
          refine WR.call H (dates_within_ct hx11) rfl trivial (Wn.some rfl rfl rfl) rfl ?_
          intro v22 M w H hle hR
          obtain rfl := hR
          refine WR.step (Ex.pickT rfl rfl) (Wn.none rfl) rfl rfl ?_
          refine WR.step (Ex.move rfl) (Wn.none rfl) rfl rfl ?_
          refine WR.step (Ex.fieldAddr Tryz.underlying23 rfl Tryz.sizeOf3 (by decide) rfl) (Wn.some rfl rfl rfl) rfl rfl ?_
          refine WR.step (Ex.load1 H rfl (by repeat (first | exact List.Mem.head _ | apply List.Mem.tail)) Tryz.isAgg3 (by rfl)) (Wn.some rfl rfl rfl) rfl rfl ?_
          refine WR.call H (dates_within_ct hx13) rfl trivial (Wn.some rfl rfl rfl) rfl ?_
          intro v27 M w H hle hR
          obtain rfl := hR
          refine WR.step (Ex.pickT rfl rfl) (Wn.none rfl) rfl rfl ?_
          refine WR.step (Ex.move rfl) (Wn.none rfl) rfl rfl ?_
          refine WR.step (Ex.fieldAddr Tryz.underlying23 rfl Tryz.sizeOf3 (by decide) rfl) (Wn.some rfl rfl rfl) rfl rfl ?_
          refine WR.step (Ex.load1 H rfl (by repeat (first | exact List.Mem.head _ | apply List.Mem.tail)) Tryz.isAgg3 (by rfl)) (Wn.some rfl rfl rfl) rfl rfl ?_
          refine WR.call H (dates_within_ct hx15) rfl trivial (Wn.some rfl rfl rfl) rfl ?_
          intro v32 M w H hle hR
          obtain rfl := hR
          refine WR.step (Ex.pickT rfl rfl) (Wn.none rfl) rfl rfl ?_
          refine WR.step (Ex.move rfl) (Wn.none rfl) rfl rfl ?_
          refine WR.step (Ex.fieldAddr Tryz.underlying23 rfl Tryz.sizeOf3 (by decide) rfl) (Wn.some rfl rfl rfl) rfl rfl ?_
          refine WR.step (Ex.load1 H rfl (by repeat (first | exact List.Mem.head _ | apply List.Mem.tail)) Tryz.isAgg3 (by rfl)) (Wn.some rfl rfl rfl) rfl rfl ?_
          refine WR.call H (dates_within_ct hx17) rfl trivial (Wn.some rfl rfl rfl) rfl ?_
          intro v37 M w H hle hR
          obtain rfl := hR
          refine WR.step (Ex.pickT rfl rfl) (Wn.none rfl) rfl rfl ?_
          refine WR.step (Ex.move rfl) (Wn.none rfl) rfl rfl ?_
          refine WR.skipN 3 rfl rfl ?_
          refine WR.step (Ex.pickF rfl rfl) (Wn.none rfl) rfl rfl ?_
          refine WR.step (Ex.assign rfl) (Wn.none rfl) rfl rfl ?_
          refine WR.nil (WQ.any ?_)
          refine WA.done (by kernel_rfl) ?_
          exact WQ.meetN [(2, _), (3, _)] ⟨rfl, rfl, trivial⟩ ⟨_, _, rfl, (H.pick (L' := [.blk b2 (.cells #[I 0, I 0] 26)]) (by repeat (first | exact Pick.nil | refine Pick.cons (by repeat (first | exact Rem.head | apply Rem.tail)) ?_))), e2⟩
        ·
         rw [if_pos rfl] at e2
         obtain ⟨b18, hx19, e2⟩ := bnd e2
         refine WA.two (i := 10) (j := 17) (by kernel_rfl) rfl rfl ?_ ?_
         ·
          refine WR.step (Ex.load1 H rfl (by repeat (first | exact List.Mem.head _ | apply List.Mem.tail)) Tryz.isAgg3 (by rfl)) (Wn.some rfl rfl rfl) rfl rfl ?_
          refine WR.nil (WQ.any ?_)
          refine WA.seq (fuel := 0) [17, 18, 19, 20, 21, 22, 23, 24, 25, 26, 27, 28, 29, 30, 31, 32, 33, 34, 35, 36, 37, 38, 39, 40] rfl (by kernel_rfl) ?_
          refine WR.call H (dates_length_ct hx9) rfl trivial (Wn.some rfl rfl rfl) rfl ?_
          intro v21 M w H hle hR
          obtain rfl := hR
          refine WR.call H (dates_within_ct hx11) rfl trivial (Wn.some rfl rfl rfl) rfl ?_
          intro v22 M w H hle hR
          obtain rfl := hR
          refine WR.step (Ex.pickT rfl rfl) (Wn.none rfl) rfl rfl ?_
          refine WR.step (Ex.move rfl) (Wn.none rfl) rfl rfl ?_
          refine WR.step (Ex.fieldAddr Tryz.underlying23 rfl Tryz.sizeOf3 (by decide) rfl) (Wn.some rfl rfl rfl) rfl rfl ?_
          refine WR.step (Ex.load1 H rfl (by repeat (first | exact List.Mem.head _ | apply List.Mem.tail)) Tryz.isAgg3 (by rfl)) (Wn.some rfl rfl rfl) rfl rfl ?_
          refine WR.call H (dates_within_ct hx13) rfl trivial (Wn.some rfl rfl rfl) rfl ?_
          intro v27 M w H hle hR
          obtain rfl := hR
          refine WR.step (Ex.pickT rfl rfl) (Wn.none rfl) rfl rfl ?_
          refine WR.step (Ex.move rfl) (Wn.none rfl) rfl rfl ?_
          refine WR.step (Ex.fieldAddr Tryz.underlying23 rfl Tryz.sizeOf3 (by decide) rfl) (Wn.some rfl rfl rfl) rfl rfl ?_
          refine WR.step (Ex.load1 H rfl (by repeat (first | exact List.Mem.head _ | apply List.Mem.tail)) Tryz.isAgg3 (by rfl)) (Wn.some rfl rfl rfl) rfl rfl ?_
          refine WR.call H (dates_within_ct hx15) rfl trivial (Wn.some rfl rfl rfl) rfl ?_
          intro v32 M w H hle hR
          obtain rfl := hR
          refine WR.step (Ex.pickT rfl rfl) (Wn.none rfl) rfl rfl ?_
          refine WR.step (Ex.move rfl) (Wn.none rfl) rfl rfl ?_
          refine WR.step (Ex.fieldAddr Tryz.underlying23 rfl Tryz.sizeOf3 (by decide) rfl) (Wn.some rfl rfl rfl) rfl rfl ?_
          refine WR.step (Ex.load1 H rfl (by repeat (first | exact List.Mem.head _ | apply List.Mem.tail)) Tryz.isAgg3 (by rfl)) (Wn.some rfl rfl rfl) rfl rfl ?_
          refine WR.call H (dates_within_ct hx17) rfl trivial (Wn.some rfl rfl rfl) rfl ?_
          intro v37 M w H hle hR
          obtain rfl := hR
          refine WR.step (Ex.pickT rfl rfl) (Wn.none rfl) rfl rfl ?_
          refine WR.step (Ex.move rfl) (Wn.none rfl) rfl rfl ?_
          refine WR.step (Ex.fieldAddr Tryz.underlying23 rfl Tryz.sizeOf3 (by decide) rfl) (Wn.some rfl rfl rfl) rfl rfl ?_
          refine WR.step (Ex.load1 H rfl (by repeat (first | exact List.Mem.head _ | apply List.Mem.tail)) Tryz.isAgg3 (by rfl)) (Wn.some rfl rfl rfl) rfl rfl ?_
          refine WR.call H (dates_within_ct hx19) rfl trivial (Wn.some rfl rfl rfl) rfl ?_
          intro v42 M w H hle hR
          obtain rfl := hR
          refine WR.step (Ex.pickT rfl rfl) (Wn.none rfl) rfl rfl ?_
          refine WR.step (Ex.assign rfl) (Wn.none rfl) rfl rfl ?_
          refine WR.nil (WQ.any ?_)
          refine WA.done (by kernel_rfl) ?_
          exact WQ.meetN [(2, _), (3, _)] ⟨rfl, rfl, trivial⟩ ⟨_, _, rfl, (H.pick (L' := [.blk b2 (.cells #[I 0, I 0] 26)]) (by repeat (first | exact Pick.nil | refine Pick.cons (by repeat (first | exact Rem.head | apply Rem.tail)) ?_))), e2⟩
         ·
          refine WR.call H (dates_length_ct hx9) rfl trivial (Wn.some rfl rfl rfl) rfl ?_
          intro v21 M w H hle hR
          obtain rfl := hR
          refine WR.nil (WQ.any ?_)
          refine WA.seq (fuel := 0) [10, 18, 19, 20, 21, 22, 23, 24, 25, 26, 27, 28, 29, 30, 31, 32, 33, 34, 35, 36, 37, 38, 39, 40] rfl (by kernel_rfl) ?_
          refine WR.step (Ex.load1 H rfl (by repeat (first | exact List.Mem.head _ | apply List.Mem.tail)) Tryz.isAgg3 (by rfl)) (Wn.some rfl rfl rfl) rfl rfl ?_
          refine WR.call H (dates_within_ct hx11) rfl trivial (Wn.some rfl rfl rfl) rfl ?_
          intro v22 M w H hle hR
          obtain rfl := hR
          refine WR.step (Ex.pickT rfl rfl) (Wn.none rfl) rfl rfl ?_
          refine WR.step (Ex.move rfl) (Wn.none rfl) rfl rfl ?_
          refine WR.step (Ex.fieldAddr Tryz.underlying23 rfl Tryz.sizeOf3 (by decide) rfl) (Wn.some rfl rfl rfl) rfl rfl ?_
          refine WR.step (Ex.load1 H rfl (by repeat (first | exact List.Mem.head _ | apply List.Mem.tail)) Tryz.isAgg3 (by rfl)) (Wn.some rfl rfl rfl) rfl rfl ?_
          refine WR.call H (dates_within_ct hx13) rfl trivial (Wn.some rfl rfl rfl) rfl ?_
          intro v27 M w H hle hR
          obtain rfl := hR
          refine WR.step (Ex.pickT rfl rfl) (Wn.none rfl) rfl rfl ?_
          refine WR.step (Ex.move rfl) (Wn.none rfl) rfl rfl ?_
          refine WR.step (Ex.fieldAddr Tryz.underlying23 rfl Tryz.sizeOf3 (by decide) rfl) (Wn.some rfl rfl rfl) rfl rfl ?_
          refine WR.step (Ex.load1 H rfl (by repeat (first | exact List.Mem.head _ | apply List.Mem.tail)) Tryz.isAgg3 (by rfl)) (Wn.some rfl rfl rfl) rfl rfl ?_
          refine WR.call H (dates_within_ct hx15) rfl trivial (Wn.some rfl rfl rfl) rfl ?_
          intro v32 M w H hle hR
          obtain rfl := hR
          refine WR.step (Ex.pickT rfl rfl) (Wn.none rfl) rfl rfl ?_
          refine WR.step (Ex.move rfl) (Wn.none rfl) rfl rfl ?_
          refine WR.step (Ex.fieldAddr Tryz.underlying23 rfl Tryz.sizeOf3 (by decide) rfl) (Wn.some rfl rfl rfl) rfl rfl ?_
          refine WR.step (Ex.load1 H rfl (by repeat (first | exact List.Mem.head _ | apply List.Mem.tail)) Tryz.isAgg3 (by rfl)) (Wn.some rfl rfl rfl) rfl rfl ?_
          refine WR.call H (dates_within_ct hx17) rfl trivial (Wn.some rfl rfl rfl) rfl ?_
          intro v37 M w H hle hR
          obtain rfl := hR
          refine WR.step (Ex.pickT rfl rfl) (Wn.none rfl) rfl rfl ?_
          refine WR.step (Ex.move rfl) (Wn.none rfl) rfl rfl ?_
          refine WR.step (Ex.fieldAddr Tryz.underlying23 rfl Tryz.sizeOf3 (by decide) rfl) (Wn.some rfl rfl rfl) rfl rfl ?_
          refine WR.step (Ex.load1 H rfl (by repeat (first | exact List.Mem.head _ | apply List.Mem.tail)) Tryz.isAgg3 (by rfl)) (Wn.some rfl rfl rfl) rfl rfl ?_
          refine WR.call H (dates_within_ct hx19) rfl trivial (Wn.some rfl rfl rfl) rfl ?_
          intro v42 M w H hle hR
          obtain rfl := hR
          refine WR.step (Ex.pickT rfl rfl) (Wn.none rfl) rfl rfl ?_
          refine WR.step (Ex.assign rfl) (Wn.none rfl) rfl rfl ?_
          refine WR.nil (WQ.any ?_)
          refine WA.done (by kernel_rfl) ?_
          exact WQ.meetN [(2, _), (3, _)] ⟨rfl, rfl, trivial⟩ ⟨_, _, rfl, (H.pick (L' := [.blk b2 (.cells #[I 0, I 0] 26)]) (by repeat (first | exact Pick.nil | refine Pick.cons (by repeat (first | exact Rem.head | apply Rem.tail)) ?_))), e2⟩
  ·
   rintro e w ⟨b3, M, rfl, H, q20⟩
   obtain rfl := Option.some.inj q20
   refine WQ.then ?_
   refine WC.seq ?_
   refine WC.seq ?_
   refine WC.region ?_
   refine WR.step (Ex.move rfl) (Wn.none rfl) rfl rfl ?_
   refine WR.step (Ex.not rfl) (Wn.none rfl) rfl rfl ?_
   refine WR.nil ?_
   refine WQ.then ?_
   refine WC.condB rfl (fun hk21 => ?_) (fun hk21 => ?_)
   ·
    replace hk21 : b3 = false := by simpa using hk21
    subst hk21
    rw [if_neg Bool.false_ne_true] at h
    refine WC.seq ?_
    obtain ⟨⟨n22, n23⟩, hx24, h⟩ := bnd h
    try dsimp only at h
    refine WC.region ?_
    refine WR.call H (basic_Fault_ct hx24) rfl trivial (Wn.none rfl) rfl ?_
    intro v46 M w H hle hR
    try dsimp only at hR
    obtain rfl := hR
    refine WR.store [_, _] H rfl rfl rfl (by repeat (first | exact Upd.head | apply Upd.tail)) Tryz.sizeOf26 rfl (by rfl) (by rfl) (Wn.none rfl) ?_
    intro w H
    refine WR.nil ?_
    refine WQ.then ?_
    refine WC.ret ?_
    (repeat (first | refine WQ.thenRet ?_ | refine WQ.inBlockRet ?_ | refine WQ.cutRet ?_ | refine WQ.scRet ?_))
    obtain rfl := Option.some.inj h
    exact WQ.ret1 rfl ⟨_, rfl, H.loadAgg (by repeat (first | exact List.Mem.head _ | apply List.Mem.tail)) Tryz.isAgg26 Tryz.sizeOf26 (by rfl)⟩ H.ext rfl
   ·
    replace hk21 : b3 = true := by simpa using hk21
    subst hk21
    rw [if_pos rfl] at h
    refine WC.skip ?_
    refine WQ.then ?_
    refine WC.seq ?_
    obtain ⟨⟨n25, n26⟩, hx27, h⟩ := bnd h
    try dsimp only at h
    refine WC.region ?_
    refine WR.call H (basic_None_ct hx27) rfl trivial (Wn.none rfl) rfl ?_
    intro v47 M w H hle hR
    try dsimp only at hR
    obtain rfl := hR
    refine WR.store [_, _] H rfl rfl rfl (by repeat (first | exact Upd.head | apply Upd.tail)) Tryz.sizeOf26 rfl (by rfl) (by rfl) (Wn.none rfl) ?_
    intro w H
    refine WR.nil ?_
    refine WQ.then ?_
    refine WC.ret ?_
    (repeat (first | refine WQ.thenRet ?_ | refine WQ.inBlockRet ?_ | refine WQ.cutRet ?_ | refine WQ.scRet ?_))
    obtain rfl := Option.some.inj h
    exact WQ.ret1 rfl ⟨_, rfl, H.loadAgg (by repeat (first | exact List.Mem.head _ | apply List.Mem.tail)) Tryz.isAgg26 Tryz.sizeOf26 (by rfl)⟩ H.ext rfl
theorem basic_Failed_ct {p0 : (Int × Int)} {r : Bool} (h : basic_Failed p0 = some r) : Ct Tryz.prog 27 [Value.agg #[I p0.1, I p0.2]] (fun M => True) (fun v M => v = Value.bool r) := by
  refine Ct.of Tryz.func27 (enters Tryz.func27 (by kernel_rfl) rfl) rfl rfl rfl ?_
  intro w0 M0 H hp
  unfold basic_Failed at h
  refine WC.seq ?_
  refine WC.region ?_
  refine WR.box [_, _] H rfl rfl (Wn.none rfl) rfl ?_
  intro b1 w H
  refine WR.step (Ex.assign rfl) (Wn.none rfl) rfl rfl ?_
  refine WR.nil ?_
  refine WQ.then ?_
  refine WC.seq ?_
  refine WC.region ?_
  refine WR.step (Ex.fieldAddr Tryz.underlying26 rfl Tryz.sizeOf3 (by decide) rfl) (Wn.none rfl) rfl rfl ?_
  refine WR.step (Ex.load1 H rfl (by repeat (first | exact List.Mem.head _ | apply List.Mem.tail)) Tryz.isAgg3 (by rfl)) (Wn.none rfl) rfl rfl ?_
  refine WR.step (Ex.neqC rfl rfl) (Wn.none rfl) rfl rfl ?_
  refine WR.step (Ex.assign rfl) (Wn.none rfl) rfl rfl ?_
  refine WR.nil ?_
  refine WQ.then ?_
  refine WC.ret ?_
  (repeat (first | refine WQ.thenRet ?_ | refine WQ.inBlockRet ?_ | refine WQ.cutRet ?_ | refine WQ.scRet ?_))
  obtain rfl := Option.some.inj h
  exact WQ.ret1 rfl rfl H.ext rfl
theorem dates_before_ct {p0 : Int} {r : Int} (h : dates_before p0 = some r) : Ct Tryz.prog 47 [I p0] (fun M => True) (fun v M => v = I r) := by
  refine Ct.of Tryz.func47 (enters Tryz.func47 (by kernel_rfl) rfl) rfl rfl rfl ?_
  intro w0 M0 H hp
  unfold dates_before at h
  refine WC.seq ?_
  refine WC.region ?_
  refine WR.step (Ex.assign rfl) (Wn.none rfl) rfl rfl ?_
  refine WR.nil ?_
  refine WQ.then ?_
  refine WC.seq ?_
  obtain ⟨n1, hxn1, h⟩ := bnd h
  refine WC.region ?_
  refine WR.step (Ex.move rfl) (Wn.none rfl) rfl rfl ?_
  refine WR.step (Ex.subC rfl rfl hxn1) (Wn.none rfl) rfl rfl ?_
  refine WR.step (Ex.assign rfl) (Wn.none rfl) rfl rfl ?_
  refine WR.nil ?_
  refine WQ.then ?_
  refine WC.seq ?_
  obtain ⟨n2, hxn2, h⟩ := bnd h
  obtain ⟨n3, hxn3, h⟩ := bnd h
  obtain ⟨n4, hxn4, h⟩ := bnd h
  obtain ⟨n5, hxn5, h⟩ := bnd h
  obtain ⟨n6, hxn6, h⟩ := bnd h
  obtain ⟨n7, hxn7, h⟩ := bnd h
  obtain ⟨n8, hxn8, h⟩ := bnd h
  refine WC.region ?_
  refine WR.step (Ex.move rfl) (Wn.none rfl) rfl rfl ?_
  refine WR.step (Ex.mulC rfl rfl hxn2) (Wn.none rfl) rfl rfl ?_
  refine WR.step (Ex.move rfl) (Wn.none rfl) rfl rfl ?_
  refine WR.step (Ex.quoC rfl rfl hxn3) (Wn.none rfl) rfl rfl ?_
  refine WR.step (Ex.addC rfl rfl hxn4) (Wn.none rfl) rfl rfl ?_
  refine WR.step (Ex.move rfl) (Wn.none rfl) rfl rfl ?_
  refine WR.step (Ex.quoC rfl rfl hxn5) (Wn.none rfl) rfl rfl ?_
  refine WR.step (Ex.subC rfl rfl hxn6) (Wn.none rfl) rfl rfl ?_
  refine WR.step (Ex.move rfl) (Wn.none rfl) rfl rfl ?_
  refine WR.step (Ex.quoC rfl rfl hxn7) (Wn.none rfl) rfl rfl ?_
  refine WR.step (Ex.addC rfl rfl hxn8) (Wn.none rfl) rfl rfl ?_
  refine WR.step (Ex.assign rfl) (Wn.none rfl) rfl rfl ?_
  refine WR.nil ?_
  refine WQ.then ?_
  refine WC.ret ?_
  (repeat (first | refine WQ.thenRet ?_ | refine WQ.inBlockRet ?_ | refine WQ.cutRet ?_ | refine WQ.scRet ?_))
  obtain rfl := Option.some.inj h
  exact WQ.ret1 rfl rfl H.ext rfl
theorem dates_day_ct {p0 : Int} {p1 : Int} {p2 : Int} {r : Int} (h : dates_day p0 p1 p2 = some r) : Ct Tryz.prog 28 [I p0, I p1, I p2] (fun M => True) (fun v M => v = I r) := by
  refine Ct.of Tryz.func28 (enters Tryz.func28 (by kernel_rfl) rfl) rfl rfl rfl ?_
  intro w0 M0 H hp
  unfold dates_day at h
  refine WC.seq ?_
  refine WC.region ?_
  refine WR.step (Ex.assign rfl) (Wn.none rfl) rfl rfl ?_
  refine WR.nil ?_
  refine WQ.then ?_
  refine WC.seq ?_
  obtain ⟨n1, hx2, h⟩ := bnd h
  obtain ⟨n3, hx4, h⟩ := bnd h
  obtain ⟨n5, hxn5, h⟩ := bnd h
  obtain ⟨n6, hxn6, h⟩ := bnd h
  obtain ⟨n7, hxn7, h⟩ := bnd h
  refine WC.region ?_
  refine WR.step (Ex.move rfl) (Wn.none rfl) rfl rfl ?_
  refine WR.call H (dates_before_ct hx2) rfl trivial (Wn.none rfl) rfl ?_
  intro v10 M w H hle hR
  obtain rfl := hR
  refine WR.call H (dates_before_ct hx4) rfl trivial (Wn.none rfl) rfl ?_
  intro v11 M w H hle hR
  obtain rfl := hR
  refine WR.step (Ex.subC rfl rfl hxn5) (Wn.none rfl) rfl rfl ?_
  refine WR.step (Ex.move rfl) (Wn.none rfl) rfl rfl ?_
  refine WR.step (Ex.addC rfl rfl hxn6) (Wn.none rfl) rfl rfl ?_
  refine WR.step (Ex.subC rfl rfl hxn7) (Wn.none rfl) rfl rfl ?_
  refine WR.step (Ex.assign rfl) (Wn.none rfl) rfl rfl ?_
  refine WR.nil ?_
  refine WQ.then ?_
  refine WC.seq ?_
  refine WC.seq ?_
  refine WC.region ?_
  refine WR.step (Ex.assign rfl) (Wn.none rfl) rfl rfl ?_
  refine WR.nil ?_
  refine WQ.then ?_
  obtain ⟨o8, e9, h⟩ := bnd h
  refine WC.cutX (fun e w => ∃ (n10 : Int) (M : Mem), e = [(7, I n10)] ∧ St w0 M0 M [] w ∧ some n10 = some o8) [] ?_ ?_ (trivial)
  ·
   refine WC.block ?_
   refine WC.loopP (fun m e w => ∃ (n11 : Int) (n12 : Int) (M : Mem), e = [(0, I p0), (1, I p1), (7, I n11), (8, I n12)] ∧ St w0 M0 M [] w ∧ dates_day_L1 p0 p1 m n11 n12 = some o8) FU [(0, _), (1, _), (7, _), (8, _)] ⟨rfl, rfl, rfl, rfl, trivial⟩ ⟨_, _, _, rfl, H, e9⟩ ?_
   rintro m13 e w ⟨n11, n12, M, rfl, H, e9⟩
   rcases m13 with _ | m13
   · rw [dates_day_L1] at e9; cases e9
   rw [dates_day_L1] at e9
   refine WC.seq ?_
   refine WC.seq ?_
   refine WC.region ?_
   refine WR.step (Ex.move rfl) (Wn.none rfl) rfl rfl ?_
   refine WR.step (Ex.move rfl) (Wn.none rfl) rfl rfl ?_
   refine WR.step (Ex.lss rfl rfl) (Wn.none rfl) rfl rfl ?_
   refine WR.nil ?_
   refine WQ.then ?_
   refine WC.condB rfl (fun hk14 => ?_) (fun hk14 => ?_)
   ·
    replace hk14 : n12 < p1 := of_decide_eq_true hk14
    rw [if_pos hk14] at e9
    refine WC.skip ?_
    refine WQ.then ?_
    refine WC.seq ?_
    refine WC.block ?_
    obtain ⟨n15, hx16, e9⟩ := bnd e9
    obtain ⟨n17, hxn17, e9⟩ := bnd e9
    refine WC.region ?_
    refine WR.step (Ex.move rfl) (Wn.none rfl) rfl rfl ?_
    refine WR.step (Ex.move rfl) (Wn.none rfl) rfl rfl ?_
    refine WR.step (Ex.move rfl) (Wn.none rfl) rfl rfl ?_
    refine WR.call H (dates_length_ct hx16) rfl trivial (Wn.none rfl) rfl ?_
    intro v24 M w H hle hR
    obtain rfl := hR
    refine WR.step (Ex.addC rfl rfl hxn17) (Wn.none rfl) rfl rfl ?_
    refine WR.step (Ex.assign rfl) (Wn.none rfl) rfl rfl ?_
    refine WR.nil ?_
    refine WQ.inBlock ?_
    refine WQ.then ?_
    obtain ⟨n18, hxn18, e9⟩ := bnd e9
    refine WC.region ?_
    refine WR.step (Ex.move rfl) (Wn.none rfl) rfl rfl ?_
    refine WR.step (Ex.addC rfl rfl hxn18) (Wn.none rfl) rfl rfl ?_
    refine WR.step (Ex.assign rfl) (Wn.none rfl) rfl rfl ?_
    refine WR.nil ?_
    exact WQ.againP m13 [(0, _), (1, _), (7, _), (8, _)] ⟨rfl, rfl, rfl, rfl, trivial⟩ ⟨_, _, _, rfl, H, e9⟩ (Nat.lt_succ_self _)
   ·
    replace hk14 : ¬ (n12 < p1) := of_decide_eq_false hk14
    rw [if_neg hk14] at e9
    refine WC.exit ?_
    refine WQ.thenExit ?_
    refine WQ.thenExit ?_
    refine WQ.exitHere ?_
    exact WQ.meetN [(7, _)] ⟨rfl, trivial⟩ ⟨_, _, rfl, H, e9⟩
  ·
   rintro e w ⟨n10, M, rfl, H, q19⟩
   obtain rfl := Option.some.inj q19
   refine WQ.then ?_
   refine WC.seq ?_
   refine WC.region ?_
   refine WR.step (Ex.move rfl) (Wn.none rfl) rfl rfl ?_
   refine WR.step (Ex.assign rfl) (Wn.none rfl) rfl rfl ?_
   refine WR.nil ?_
   refine WQ.then ?_
   refine WC.ret ?_
   (repeat (first | refine WQ.thenRet ?_ | refine WQ.inBlockRet ?_ | refine WQ.cutRet ?_ | refine WQ.scRet ?_))
   obtain rfl := Option.some.inj h
   exact WQ.ret1 rfl rfl H.ext rfl
theorem dates_Instant_ct {p0 : (Int × Int × Int × Int × Int × Int × Int)} {r : (Int × (Int × Int))} (h : dates_Instant p0 = some r) : Ct Tryz.prog 10 [Value.agg #[I p0.1, I p0.2.1, I p0.2.2.1, I p0.2.2.2.1, I p0.2.2.2.2.1, I p0.2.2.2.2.2.1, I p0.2.2.2.2.2.2]] (fun M => True) (fun v M => v = Value.tuple #[I r.1, Value.agg #[I r.2.1, I r.2.2]]) := by
  refine Ct.of Tryz.func10 (enters Tryz.func10 (by kernel_rfl) rfl) rfl rfl rfl ?_
  intro w0 M0 H hp
  unfold dates_Instant at h
  refine WC.seq ?_
  refine WC.region ?_
  refine WR.box [_, _, _, _, _, _, _] H rfl rfl (Wn.none rfl) rfl ?_
  intro b1 w H
  refine WR.step (Ex.assign rfl) (Wn.none rfl) rfl rfl ?_
  refine WR.alloc [_, _] H Tryz.zeroValue26 rfl (Wn.none rfl) rfl ?_
  intro b3 w H
  refine WR.nil ?_
  refine WQ.then ?_
  refine WC.seq ?_
  refine WC.seq ?_
  obtain ⟨⟨n1, n2⟩, hx3, h⟩ := bnd h
  try dsimp only at h
  refine WC.region ?_
  refine WR.step (Ex.loadAgg H rfl (by repeat (first | exact List.Mem.head _ | apply List.Mem.tail)) Tryz.isAgg23 Tryz.sizeOf23 (by rfl)) (Wn.none rfl) rfl rfl ?_
  refine WR.call H (dates_Validate_ct hx3) rfl trivial (Wn.none rfl) rfl ?_
  intro v6 M w H hle hR
  try dsimp only at hR
  obtain rfl := hR
  refine WR.alloc [_, _] H Tryz.zeroValue26 rfl (Wn.none rfl) rfl ?_
  intro b4 w H
  refine WR.store [_, _] H rfl rfl rfl (by repeat (first | exact Upd.head | apply Upd.tail)) Tryz.sizeOf26 rfl (by rfl) (by rfl) (Wn.none rfl) ?_
  intro w H
  refine WR.nil ?_
  refine WQ.then ?_
  refine WC.seq ?_
  obtain ⟨b4, hx5, h⟩ := bnd h
  refine WC.region ?_
  refine WR.step (Ex.loadAgg H rfl (by repeat (first | exact List.Mem.head _ | apply List.Mem.tail)) Tryz.isAgg26 Tryz.sizeOf26 (by rfl)) (Wn.none rfl) rfl rfl ?_
  refine WR.call H (basic_Failed_ct hx5) rfl trivial (Wn.none rfl) rfl ?_
  intro v8 M w H hle hR
  obtain rfl := hR
  refine WR.nil ?_
  refine WQ.then ?_
  refine WC.condB rfl (fun hk6 => ?_) (fun hk6 => ?_)
  ·
   subst hk6
   rw [if_pos rfl] at h
   refine WC.seq ?_
   refine WC.draw (m := 3) rfl rfl H ?_
   intro w H
   refine WA.take (i := 1) rfl (by kernel_rfl) (by kernel_rfl) (by kernel_rfl) (fun _ => Ex.assign rfl) (Wn.none rfl) rfl rfl (fun _ _ => rfl) ?_
   refine WA.seq (fuel := 0) [0, 2] rfl (by kernel_rfl) ?_
   refine WR.step (Ex.loadAgg H rfl (by repeat (first | exact List.Mem.head _ | apply List.Mem.tail)) Tryz.isAgg26 Tryz.sizeOf26 (by rfl)) (Wn.none rfl) rfl rfl ?_
   refine WR.store [_, _] H rfl rfl rfl (by repeat (first | exact Upd.head | apply Upd.tail)) Tryz.sizeOf26 rfl (by rfl) (by rfl) (Wn.none rfl) ?_
   intro w H
   refine WR.nil (WQ.any ?_)
   refine WA.done (by kernel_rfl) ?_
   refine WQ.then ?_
   refine WC.ret ?_
   (repeat (first | refine WQ.thenRet ?_ | refine WQ.inBlockRet ?_ | refine WQ.cutRet ?_ | refine WQ.scRet ?_))
   obtain rfl := Option.some.inj h
   exact WQ.ret2 rfl rfl ⟨_, rfl, H.loadAgg (by repeat (first | exact List.Mem.head _ | apply List.Mem.tail)) Tryz.isAgg26 Tryz.sizeOf26 (by rfl)⟩ H.ext rfl
  ·
   subst hk6
   rw [if_neg Bool.false_ne_true] at h
   refine WC.skip ?_
   refine WQ.then ?_
   refine WC.seq ?_
   obtain ⟨n7, hx8, h⟩ := bnd h
   obtain ⟨n9, hxn9, h⟩ := bnd h
   obtain ⟨n10, hxn10, h⟩ := bnd h
   obtain ⟨n11, hxn11, h⟩ := bnd h
   obtain ⟨n12, hxn12, h⟩ := bnd h
   obtain ⟨n13, hxn13, h⟩ := bnd h
   obtain ⟨n14, hxn14, h⟩ := bnd h
   obtain ⟨n15, hxn15, h⟩ := bnd h
   obtain ⟨⟨n16, n17⟩, hx18, h⟩ := bnd h
   try dsimp only at h
   refine WC.sub (e' := [(1, _), (3, _)]) ⟨rfl, rfl, trivial⟩ ?_
   refine WC.draw (m := 25) rfl rfl H ?_
   intro w H
   refine WA.conf (c := 24) [(10, ptr b1 0, []), (11, I p0.1, [0]), (12, ptr b1 1, []), (13, I p0.2.1, [2]), (14, ptr b1 2, []), (15, I p0.2.2.1, [4]), (16, I n7, [1, 3, 5]), (17, I n9, [6]), (18, ptr b1 3, []), (19, I p0.2.2.2.1, [8]), (20, I n10, [9]), (21, I n11, [7, 10]), (22, ptr b1 4, []), (23, I p0.2.2.2.2.1, [12]), (24, ptr b1 6, []), (25, I p0.2.2.2.2.2.2, [14]), (26, I n12, [13, 15]), (27, I n13, [16]), (28, I n14, [11, 17]), (29, ptr b1 5, []), (30, I p0.2.2.2.2.2.1, [19]), (31, I n15, [18, 20]), (32, Value.agg #[I n16, I n17], []), (2, I n15, [21])] rfl rfl (by kernel_rfl) rfl rfl H ⟨⟨_, rfl, fun E w M H hle Qk kk => ?_⟩, ⟨_, rfl, fun E w M H hle Qk kk => ?_⟩, ⟨_, rfl, fun E w M H hle Qk kk => ?_⟩, ⟨_, rfl, fun E w M H hle Qk kk => ?_⟩, ⟨_, rfl, fun E w M H hle Qk kk => ?_⟩, ⟨_, rfl, fun E w M H hle Qk kk => ?_⟩, ⟨_, rfl, fun E w M H hle Qk kk => ?_⟩, ⟨_, rfl, fun E w M H hle Qk kk => ?_⟩, ⟨_, rfl, fun E w M H hle Qk kk => ?_⟩, ⟨_, rfl, fun E w M H hle Qk kk => ?_⟩, ⟨_, rfl, fun E w M H hle Qk kk => ?_⟩, ⟨_, rfl, fun E w M H hle Qk kk => ?_⟩, ⟨_, rfl, fun E w M H hle Qk kk => ?_⟩, ⟨_, rfl, fun E w M H hle Qk kk => ?_⟩, ⟨_, rfl, fun E w M H hle Qk kk => ?_⟩, ⟨_, rfl, fun E w M H hle Qk kk => ?_⟩, ⟨_, rfl, fun E w M H hle Qk kk => ?_⟩, ⟨_, rfl, fun E w M H hle Qk kk => ?_⟩, ⟨_, rfl, fun E w M H hle Qk kk => ?_⟩, ⟨_, rfl, fun E w M H hle Qk kk => ?_⟩, ⟨_, rfl, fun E w M H hle Qk kk => ?_⟩, ⟨_, rfl, fun E w M H hle Qk kk => ?_⟩, ⟨_, rfl, fun E w M H hle Qk kk => ?_⟩, ⟨_, rfl, fun E w M H hle Qk kk => ?_⟩, trivial⟩ ?_
   ·
    refine WR.step (Ex.fieldAddr Tryz.underlying23 rfl Tryz.sizeOf3 (by decide) rfl) (Wn.none rfl) rfl rfl ?_
    exact WR.nil (kk _ _ H (Mem.le.refl _))
   ·
    refine WR.step (Ex.load1 H rfl (by repeat (first | exact List.Mem.head _ | apply List.Mem.tail)) Tryz.isAgg3 (by rfl)) (Wn.none rfl) rfl rfl ?_
    exact WR.nil (kk _ _ H (Mem.le.refl _))
   ·
    refine WR.step (Ex.fieldAddr Tryz.underlying23 rfl Tryz.sizeOf3 (by decide) rfl) (Wn.none rfl) rfl rfl ?_
    exact WR.nil (kk _ _ H (Mem.le.refl _))
   ·
    refine WR.step (Ex.load1 H rfl (by repeat (first | exact List.Mem.head _ | apply List.Mem.tail)) Tryz.isAgg3 (by rfl)) (Wn.none rfl) rfl rfl ?_
    exact WR.nil (kk _ _ H (Mem.le.refl _))
   ·
    refine WR.step (Ex.fieldAddr Tryz.underlying23 rfl Tryz.sizeOf3 (by decide) rfl) (Wn.none rfl) rfl rfl ?_
    exact WR.nil (kk _ _ H (Mem.le.refl _))
   ·
    refine WR.step (Ex.load1 H rfl (by repeat (first | exact List.Mem.head _ | apply List.Mem.tail)) Tryz.isAgg3 (by rfl)) (Wn.none rfl) rfl rfl ?_
    exact WR.nil (kk _ _ H (Mem.le.refl _))
   ·
    refine WR.call H (dates_day_ct hx8) rfl trivial (Wn.none rfl) rfl ?_
    intro v16 M w H hle hR
    obtain rfl := hR
    exact WR.nil (kk _ _ H hle)
   ·
    refine WR.step (Ex.mulC rfl rfl hxn9) (Wn.none rfl) rfl rfl ?_
    exact WR.nil (kk _ _ H (Mem.le.refl _))
   ·
    refine WR.step (Ex.fieldAddr Tryz.underlying23 rfl Tryz.sizeOf3 (by decide) rfl) (Wn.none rfl) rfl rfl ?_
    exact WR.nil (kk _ _ H (Mem.le.refl _))
   ·
    refine WR.step (Ex.load1 H rfl (by repeat (first | exact List.Mem.head _ | apply List.Mem.tail)) Tryz.isAgg3 (by rfl)) (Wn.none rfl) rfl rfl ?_
    exact WR.nil (kk _ _ H (Mem.le.refl _))
   ·
    refine WR.step (Ex.mulC rfl rfl hxn10) (Wn.none rfl) rfl rfl ?_
    exact WR.nil (kk _ _ H (Mem.le.refl _))
   ·
    refine WR.step (Ex.addC rfl rfl hxn11) (Wn.none rfl) rfl rfl ?_
    exact WR.nil (kk _ _ H (Mem.le.refl _))
   ·
    refine WR.step (Ex.fieldAddr Tryz.underlying23 rfl Tryz.sizeOf3 (by decide) rfl) (Wn.none rfl) rfl rfl ?_
    exact WR.nil (kk _ _ H (Mem.le.refl _))
   ·
    refine WR.step (Ex.load1 H rfl (by repeat (first | exact List.Mem.head _ | apply List.Mem.tail)) Tryz.isAgg3 (by rfl)) (Wn.none rfl) rfl rfl ?_
    exact WR.nil (kk _ _ H (Mem.le.refl _))
   ·
    refine WR.step (Ex.fieldAddr Tryz.underlying23 rfl Tryz.sizeOf3 (by decide) rfl) (Wn.none rfl) rfl rfl ?_
    exact WR.nil (kk _ _ H (Mem.le.refl _))
   ·
    refine WR.step (Ex.load1 H rfl (by repeat (first | exact List.Mem.head _ | apply List.Mem.tail)) Tryz.isAgg3 (by rfl)) (Wn.none rfl) rfl rfl ?_
    exact WR.nil (kk _ _ H (Mem.le.refl _))
   ·
    refine WR.step (Ex.subC rfl rfl hxn12) (Wn.none rfl) rfl rfl ?_
    exact WR.nil (kk _ _ H (Mem.le.refl _))
   ·
    refine WR.step (Ex.mulC rfl rfl hxn13) (Wn.none rfl) rfl rfl ?_
    exact WR.nil (kk _ _ H (Mem.le.refl _))
   ·
    refine WR.step (Ex.addC rfl rfl hxn14) (Wn.none rfl) rfl rfl ?_
    exact WR.nil (kk _ _ H (Mem.le.refl _))
   ·
    refine WR.step (Ex.fieldAddr Tryz.underlying23 rfl Tryz.sizeOf3 (by decide) rfl) (Wn.none rfl) rfl rfl ?_
    exact WR.nil (kk _ _ H (Mem.le.refl _))
   ·
    refine WR.step (Ex.load1 H rfl (by repeat (first | exact List.Mem.head _ | apply List.Mem.tail)) Tryz.isAgg3 (by rfl)) (Wn.none rfl) rfl rfl ?_
    exact WR.nil (kk _ _ H (Mem.le.refl _))
   ·
    refine WR.step (Ex.addC rfl rfl hxn15) (Wn.none rfl) rfl rfl ?_
    exact WR.nil (kk _ _ H (Mem.le.refl _))
   ·
    refine WR.call H (basic_None_ct hx18) rfl trivial (Wn.none rfl) rfl ?_
    intro v32 M w H hle hR
    try dsimp only at hR
    obtain rfl := hR
    exact WR.nil (kk _ _ H hle)
   ·
    refine WR.step (Ex.assign rfl) (Wn.none rfl) rfl rfl ?_
    exact WR.nil (kk _ _ H (Mem.le.refl _))
   ·
    intro w M H hle
    refine WA.one (i := 24) (by kernel_rfl) rfl ?_
    refine WR.store [_, _] H rfl rfl rfl (by repeat (first | exact Upd.head | apply Upd.tail)) Tryz.sizeOf26 rfl (by rfl) (by rfl) (Wn.none rfl) ?_
    intro w H
    refine WR.nil (WQ.any ?_)
    refine WA.done (by kernel_rfl) ?_
    refine WQ.then ?_
    refine WC.ret ?_
    (repeat (first | refine WQ.thenRet ?_ | refine WQ.inBlockRet ?_ | refine WQ.cutRet ?_ | refine WQ.scRet ?_))
    obtain rfl := Option.some.inj h
    exact WQ.ret2 rfl rfl ⟨_, rfl, H.loadAgg (by repeat (first | exact List.Mem.head _ | apply List.Mem.tail)) Tryz.isAgg26 Tryz.sizeOf26 (by rfl)⟩ H.ext rfl
theorem basic_Time_ct {p0 : Int} {r : Bool} (h : basic_Time p0 = some r) : Ct Tryz.prog 31 [I p0] (fun M => True) (fun v M => v = Value.bool r) := by
  refine Ct.of Tryz.func31 (enters Tryz.func31 (by kernel_rfl) rfl) rfl rfl rfl ?_
  intro w0 M0 H hp
  unfold basic_Time at h
  refine WC.seq ?_
  refine WC.region ?_
  refine WR.step (Ex.assign rfl) (Wn.none rfl) rfl rfl ?_
  refine WR.nil ?_
  refine WQ.then ?_
  refine WC.seq ?_
  obtain ⟨o1, e2, h⟩ := bnd h
  refine WC.cutX (fun e w => ∃ (b3 : Bool) (M : Mem), e = [(2, Value.bool b3)] ∧ St w0 M0 M [] w ∧ some b3 = some o1) [] ?_ ?_ (trivial)
  ·
   by_cases hk4 : (-68719476736) ≤ p0
   ·
    rw [if_pos hk4] at e2
    refine WC.region ?_
    refine WR.step (Ex.move rfl) (Wn.none rfl) rfl rfl ?_
    refine WR.stepE (v' := .bool true) (Ex.geq rfl rfl) (congrArg Value.bool (decide_eq_true hk4)) (Wn.none rfl) rfl rfl ?_
    refine WR.step (Ex.move rfl) (Wn.none rfl) rfl rfl ?_
    refine WR.step (Ex.move rfl) (Wn.some rfl rfl rfl) rfl rfl ?_
    refine WR.step (Ex.leq rfl rfl) (Wn.some rfl rfl rfl) rfl rfl ?_
    refine WR.step (Ex.pickT rfl rfl) (Wn.none rfl) rfl rfl ?_
    refine WR.step (Ex.assign rfl) (Wn.none rfl) rfl rfl ?_
    refine WR.nil ?_
    exact WQ.meetN [(2, _)] ⟨rfl, trivial⟩ ⟨_, _, rfl, H, e2⟩
   ·
    rw [if_neg hk4] at e2
    refine WC.region ?_
    refine WR.step (Ex.move rfl) (Wn.none rfl) rfl rfl ?_
    refine WR.stepE (v' := .bool false) (Ex.geq rfl rfl) (congrArg Value.bool (decide_eq_false hk4)) (Wn.none rfl) rfl rfl ?_
    refine WR.step (Ex.move rfl) (Wn.none rfl) rfl rfl ?_
    refine WR.skipG (b := false) rfl rfl rfl rfl rfl ?_
    refine WR.skipG (b := false) rfl rfl rfl rfl rfl ?_
    refine WR.step (Ex.pickF rfl rfl) (Wn.none rfl) rfl rfl ?_
    refine WR.step (Ex.assign rfl) (Wn.none rfl) rfl rfl ?_
    refine WR.nil ?_
    exact WQ.meetN [(2, _)] ⟨rfl, trivial⟩ ⟨_, _, rfl, H, e2⟩
  ·
   rintro e w ⟨b3, M, rfl, H, q5⟩
   obtain rfl := Option.some.inj q5
   refine WQ.then ?_
   refine WC.ret ?_
   (repeat (first | refine WQ.thenRet ?_ | refine WQ.inBlockRet ?_ | refine WQ.cutRet ?_ | refine WQ.scRet ?_))
   obtain rfl := Option.some.inj h
   exact WQ.ret1 rfl rfl H.ext rfl
theorem dates_split_ct {p0 : Int} {p1 : Int} {r : (Int × Int)} (h : dates_split p0 p1 = some r) : Ct Tryz.prog 29 [I p0, I p1] (fun M => True) (fun v M => v = Value.tuple #[I r.1, I r.2]) := by
  refine Ct.of Tryz.func29 (enters Tryz.func29 (by kernel_rfl) rfl) rfl rfl rfl ?_
  intro w0 M0 H hp
  unfold dates_split at h
  refine WC.seq ?_
  refine WC.region ?_
  refine WR.step (Ex.assign rfl) (Wn.none rfl) rfl rfl ?_
  refine WR.step (Ex.assign rfl) (Wn.none rfl) rfl rfl ?_
  refine WR.nil ?_
  refine WQ.then ?_
  refine WC.seq ?_
  obtain ⟨n1, hxn1, h⟩ := bnd h
  obtain ⟨n2, hxn2, h⟩ := bnd h
  obtain ⟨n3, hxn3, h⟩ := bnd h
  refine WC.region ?_
  refine WR.step (Ex.move rfl) (Wn.none rfl) rfl rfl ?_
  refine WR.step (Ex.move rfl) (Wn.none rfl) rfl rfl ?_
  refine WR.step (Ex.remC rfl rfl hxn1) (Wn.none rfl) rfl rfl ?_
  refine WR.step (Ex.move rfl) (Wn.none rfl) rfl rfl ?_
  refine WR.step (Ex.addC rfl rfl hxn2) (Wn.none rfl) rfl rfl ?_
  refine WR.step (Ex.move rfl) (Wn.none rfl) rfl rfl ?_
  refine WR.step (Ex.remC rfl rfl hxn3) (Wn.none rfl) rfl rfl ?_
  refine WR.step (Ex.assign rfl) (Wn.none rfl) rfl rfl ?_
  refine WR.nil ?_
  refine WQ.then ?_
  refine WC.seq ?_
  obtain ⟨n4, hxn4, h⟩ := bnd h
  obtain ⟨n5, hxn5, h⟩ := bnd h
  refine WC.region ?_
  refine WR.step (Ex.move rfl) (Wn.none rfl) rfl rfl ?_
  refine WR.step (Ex.move rfl) (Wn.none rfl) rfl rfl ?_
  refine WR.step (Ex.subC rfl rfl hxn4) (Wn.none rfl) rfl rfl ?_
  refine WR.step (Ex.move rfl) (Wn.none rfl) rfl rfl ?_
  refine WR.step (Ex.quoC rfl rfl hxn5) (Wn.none rfl) rfl rfl ?_
  refine WR.step (Ex.move rfl) (Wn.none rfl) rfl rfl ?_
  refine WR.step (Ex.assign rfl) (Wn.none rfl) rfl rfl ?_
  refine WR.step (Ex.assign rfl) (Wn.none rfl) rfl rfl ?_
  refine WR.nil ?_
  refine WQ.then ?_
  refine WC.ret ?_
  (repeat (first | refine WQ.thenRet ?_ | refine WQ.inBlockRet ?_ | refine WQ.cutRet ?_ | refine WQ.scRet ?_))
  obtain rfl := Option.some.inj h
  exact WQ.ret2 rfl rfl rfl H.ext rfl
theorem dates_Civil_ct {p0 : Int} {p1 : Int} {r : ((Int × Int × Int × Int × Int × Int × Int) × (Int × Int))} (h : dates_Civil p0 p1 = some r) : Ct Tryz.prog 14 [I p0, I p1] (fun M => True) (fun v M => v = Value.tuple #[Value.agg #[I r.1.1, I r.1.2.1, I r.1.2.2.1, I r.1.2.2.2.1, I r.1.2.2.2.2.1, I r.1.2.2.2.2.2.1, I r.1.2.2.2.2.2.2], Value.agg #[I r.2.1, I r.2.2]]) := by
  refine Ct.of Tryz.func14 (enters Tryz.func14 (by kernel_rfl) rfl) rfl rfl rfl ?_
  intro w0 M0 H hp
  unfold dates_Civil at h
  refine WC.seq ?_
  refine WC.region ?_
  refine WR.alloc [_, _, _, _, _, _, _] H Tryz.zeroValue23 rfl (Wn.none rfl) rfl ?_
  intro b4 w H
  refine WR.alloc [_, _] H Tryz.zeroValue26 rfl (Wn.none rfl) rfl ?_
  intro b5 w H
  refine WR.nil ?_
  refine WQ.then ?_
  refine WC.seq ?_
  refine WC.seq ?_
  obtain ⟨b1, hx2, h⟩ := bnd h
  refine WC.region ?_
  refine WR.step (Ex.move rfl) (Wn.none rfl) rfl rfl ?_
  refine WR.call H (basic_Time_ct hx2) rfl trivial (Wn.none rfl) rfl ?_
  intro v12 M w H hle hR
  obtain rfl := hR
  refine WR.step (Ex.not rfl) (Wn.none rfl) rfl rfl ?_
  refine WR.nil ?_
  refine WQ.then ?_
  refine WC.condB rfl (fun hk3 => ?_) (fun hk3 => ?_)
  ·
   replace hk3 : b1 = false := by simpa using hk3
   subst hk3
   rw [if_neg Bool.false_ne_true] at h
   refine WC.seq ?_
   obtain ⟨⟨n4, n5⟩, hx6, h⟩ := bnd h
   try dsimp only at h
   refine WC.region ?_
   refine WR.step (Ex.build [I 0, I 0, I 0, I 0, I 0, I 0, I 0] Tryz.underlying23 Tryz.zeroValue23 (xplaces23 Tryz.underlying23) rfl (by kernel_rfl)) (Wn.none rfl) rfl rfl ?_
   refine WR.call H (basic_Fault_ct hx6) rfl trivial (Wn.none rfl) rfl ?_
   intro v15 M w H hle hR
   try dsimp only at hR
   obtain rfl := hR
   refine WR.store [_, _, _, _, _, _, _] H rfl rfl rfl (by repeat (first | exact Upd.head | apply Upd.tail)) Tryz.sizeOf23 rfl (by rfl) (by rfl) (Wn.none rfl) ?_
   intro w H
   refine WR.store [_, _] H rfl rfl rfl (by repeat (first | exact Upd.head | apply Upd.tail)) Tryz.sizeOf26 rfl (by rfl) (by rfl) (Wn.none rfl) ?_
   intro w H
   refine WR.nil ?_
   refine WQ.then ?_
   refine WC.ret ?_
   (repeat (first | refine WQ.thenRet ?_ | refine WQ.inBlockRet ?_ | refine WQ.cutRet ?_ | refine WQ.scRet ?_))
   obtain rfl := Option.some.inj h
   exact WQ.ret2 rfl ⟨_, rfl, H.loadAgg (by repeat (first | exact List.Mem.head _ | apply List.Mem.tail)) Tryz.isAgg23 Tryz.sizeOf23 (by rfl)⟩ ⟨_, rfl, H.loadAgg (by repeat (first | exact List.Mem.head _ | apply List.Mem.tail)) Tryz.isAgg26 Tryz.sizeOf26 (by rfl)⟩ H.ext rfl
  ·
   replace hk3 : b1 = true := by simpa using hk3
   subst hk3
   rw [if_pos rfl] at h
   refine WC.skip ?_
   refine WQ.then ?_
   refine WC.seq ?_
   refine WC.seq ?_
   obtain ⟨b7, hx8, h⟩ := bnd h
   refine WC.region ?_
   refine WR.step (Ex.move rfl) (Wn.none rfl) rfl rfl ?_
   refine WR.call H (dates_within_ct hx8) rfl trivial (Wn.none rfl) rfl ?_
   intro v17 M w H hle hR
   obtain rfl := hR
   refine WR.step (Ex.not rfl) (Wn.none rfl) rfl rfl ?_
   refine WR.nil ?_
   refine WQ.then ?_
   refine WC.condB rfl (fun hk9 => ?_) (fun hk9 => ?_)
   ·
    replace hk9 : b7 = false := by simpa using hk9
    subst hk9
    rw [if_neg Bool.false_ne_true] at h
    refine WC.seq ?_
    obtain ⟨⟨n10, n11⟩, hx12, h⟩ := bnd h
    try dsimp only at h
    refine WC.region ?_
    refine WR.step (Ex.build [I 0, I 0, I 0, I 0, I 0, I 0, I 0] Tryz.underlying23 Tryz.zeroValue23 (xplaces23 Tryz.underlying23) rfl (by kernel_rfl)) (Wn.none rfl) rfl rfl ?_
    refine WR.call H (basic_Fault_ct hx12) rfl trivial (Wn.none rfl) rfl ?_
    intro v20 M w H hle hR
    try dsimp only at hR
    obtain rfl := hR
    refine WR.store [_, _, _, _, _, _, _] H rfl rfl rfl (by repeat (first | exact Upd.head | apply Upd.tail)) Tryz.sizeOf23 rfl (by rfl) (by rfl) (Wn.none rfl) ?_
    intro w H
    refine WR.store [_, _] H rfl rfl rfl (by repeat (first | exact Upd.head | apply Upd.tail)) Tryz.sizeOf26 rfl (by rfl) (by rfl) (Wn.none rfl) ?_
    intro w H
    refine WR.nil ?_
    refine WQ.then ?_
    refine WC.ret ?_
    (repeat (first | refine WQ.thenRet ?_ | refine WQ.inBlockRet ?_ | refine WQ.cutRet ?_ | refine WQ.scRet ?_))
    obtain rfl := Option.some.inj h
    exact WQ.ret2 rfl ⟨_, rfl, H.loadAgg (by repeat (first | exact List.Mem.head _ | apply List.Mem.tail)) Tryz.isAgg23 Tryz.sizeOf23 (by rfl)⟩ ⟨_, rfl, H.loadAgg (by repeat (first | exact List.Mem.head _ | apply List.Mem.tail)) Tryz.isAgg26 Tryz.sizeOf26 (by rfl)⟩ H.ext rfl
   ·
    replace hk9 : b7 = true := by simpa using hk9
    subst hk9
    rw [if_pos rfl] at h
    refine WC.skip ?_
    refine WQ.then ?_
    refine WC.seq ?_
    obtain ⟨n13, hxn13, h⟩ := bnd h
    obtain ⟨n14, hxn14, h⟩ := bnd h
    obtain ⟨⟨n15, n16⟩, hx17, h⟩ := bnd h
    try dsimp only at h
    refine WC.region ?_
    refine WR.step (Ex.move rfl) (Wn.none rfl) rfl rfl ?_
    refine WR.step (Ex.move rfl) (Wn.none rfl) rfl rfl ?_
    refine WR.step (Ex.mulC rfl rfl hxn13) (Wn.none rfl) rfl rfl ?_
    refine WR.step (Ex.addC rfl rfl hxn14) (Wn.none rfl) rfl rfl ?_
    refine WR.call H (dates_split_ct hx17) rfl trivial (Wn.none rfl) rfl ?_
    intro v26 M w H hle hR
    try dsimp only at hR
    obtain rfl := hR
    refine WR.step (Ex.move rfl) (Wn.none rfl) rfl rfl ?_
    refine WR.step (Ex.extract rfl rfl) (Wn.none rfl) rfl rfl ?_
    refine WR.step (Ex.extract rfl rfl) (Wn.none rfl) rfl rfl ?_
    refine WR.step (Ex.assign rfl) (Wn.none rfl) rfl rfl ?_
    refine WR.step (Ex.assign rfl) (Wn.none rfl) rfl rfl ?_
    refine WR.nil ?_
    refine WQ.then ?_
    refine WC.seq ?_
    refine WC.seq ?_
    obtain ⟨o18, e19, h⟩ := bnd h
    refine WC.cutX (fun e w => ∃ (b20 : Bool) (M : Mem), e = [(1, I p1), (4, ptr b4 0), (5, ptr b5 0), (6, I n15), (7, I n16), (36, Value.bool b20)] ∧ St w0 M0 M [.blk b4 (.cells #[I 0, I 0, I 0, I 0, I 0, I 0, I 0] 23), .blk b5 (.cells #[I 0, I 0] 26)] w ∧ some b20 = some o18) [] ?_ ?_ (trivial)
    ·
     obtain ⟨n21, hx22, e19⟩ := bnd e19
     refine WC.region ?_
     refine WR.step (Ex.move rfl) (Wn.none rfl) rfl rfl ?_
     refine WR.call H (dates_day_ct hx22) rfl trivial (Wn.none rfl) rfl ?_
     intro v30 M w H hle hR
     obtain rfl := hR
     by_cases hk23 : n15 < n21
     ·
      rw [if_pos hk23] at e19
      refine WR.stepE (v' := .bool true) (Ex.lss rfl rfl) (congrArg Value.bool (decide_eq_true hk23)) (Wn.none rfl) rfl rfl ?_
      refine WR.step (Ex.move rfl) (Wn.none rfl) rfl rfl ?_
      refine WR.skipN 3 rfl rfl ?_
      refine WR.step (Ex.pickT rfl rfl) (Wn.none rfl) rfl rfl ?_
      refine WR.nil ?_
      exact WQ.meetN [(1, _), (4, _), (5, _), (6, _), (7, _), (36, _)] ⟨rfl, rfl, rfl, rfl, rfl, rfl, trivial⟩ ⟨_, _, rfl, (H.pick (L' := [.blk b4 (.cells #[I 0, I 0, I 0, I 0, I 0, I 0, I 0] 23), .blk b5 (.cells #[I 0, I 0] 26)]) (by repeat (first | exact Pick.nil | refine Pick.cons (by repeat (first | exact Rem.head | apply Rem.tail)) ?_))), e19⟩
     ·
      rw [if_neg hk23] at e19
      obtain ⟨n24, hx25, e19⟩ := bnd e19
      refine WR.stepE (v' := .bool false) (Ex.lss rfl rfl) (congrArg Value.bool (decide_eq_false hk23)) (Wn.none rfl) rfl rfl ?_
      refine WR.step (Ex.move rfl) (Wn.none rfl) rfl rfl ?_
      refine WR.step (Ex.move rfl) (Wn.some rfl rfl rfl) rfl rfl ?_
      refine WR.call H (dates_day_ct hx25) rfl trivial (Wn.some rfl rfl rfl) rfl ?_
      intro v34 M w H hle hR
      obtain rfl := hR
      refine WR.step (Ex.gtr rfl rfl) (Wn.some rfl rfl rfl) rfl rfl ?_
      refine WR.step (Ex.pickF rfl rfl) (Wn.none rfl) rfl rfl ?_
      refine WR.nil ?_
      exact WQ.meetN [(1, _), (4, _), (5, _), (6, _), (7, _), (36, _)] ⟨rfl, rfl, rfl, rfl, rfl, rfl, trivial⟩ ⟨_, _, rfl, (H.pick (L' := [.blk b4 (.cells #[I 0, I 0, I 0, I 0, I 0, I 0, I 0] 23), .blk b5 (.cells #[I 0, I 0] 26)]) (by repeat (first | exact Pick.nil | refine Pick.cons (by repeat (first | exact Rem.head | apply Rem.tail)) ?_))), e19⟩
    ·
     rintro e w ⟨b20, M, rfl, H, q26⟩
     obtain rfl := Option.some.inj q26
     refine WQ.then ?_
     refine WC.condB rfl (fun hk27 => ?_) (fun hk27 => ?_)
     ·
      subst hk27
      rw [if_pos rfl] at h
      refine WC.seq ?_
      obtain ⟨⟨n28, n29⟩, hx30, h⟩ := bnd h
      try dsimp only at h
      refine WC.region ?_
      refine WR.step (Ex.build [I 0, I 0, I 0, I 0, I 0, I 0, I 0] Tryz.underlying23 Tryz.zeroValue23 (xplaces23 Tryz.underlying23) rfl (by kernel_rfl)) (Wn.none rfl) rfl rfl ?_
      refine WR.call H (basic_Fault_ct hx30) rfl trivial (Wn.none rfl) rfl ?_
      intro v38 M w H hle hR
      try dsimp only at hR
      obtain rfl := hR
      refine WR.store [_, _, _, _, _, _, _] H rfl rfl rfl (by repeat (first | exact Upd.head | apply Upd.tail)) Tryz.sizeOf23 rfl (by rfl) (by rfl) (Wn.none rfl) ?_
      intro w H
      refine WR.store [_, _] H rfl rfl rfl (by repeat (first | exact Upd.head | apply Upd.tail)) Tryz.sizeOf26 rfl (by rfl) (by rfl) (Wn.none rfl) ?_
      intro w H
      refine WR.nil ?_
      refine WQ.then ?_
      refine WC.ret ?_
      (repeat (first | refine WQ.thenRet ?_ | refine WQ.inBlockRet ?_ | refine WQ.cutRet ?_ | refine WQ.scRet ?_))
      obtain rfl := Option.some.inj h
      exact WQ.ret2 rfl ⟨_, rfl, H.loadAgg (by repeat (first | exact List.Mem.head _ | apply List.Mem.tail)) Tryz.isAgg23 Tryz.sizeOf23 (by rfl)⟩ ⟨_, rfl, H.loadAgg (by repeat (first | exact List.Mem.head _ | apply List.Mem.tail)) Tryz.isAgg26 Tryz.sizeOf26 (by rfl)⟩ H.ext rfl
     ·
      subst hk27
      rw [if_neg Bool.false_ne_true] at h
      refine WC.skip ?_
      refine WQ.then ?_
      refine WC.seq ?_
      refine WC.region ?_
      refine WR.step (Ex.assign rfl) (Wn.none rfl) rfl rfl ?_
      refine WR.nil ?_
      refine WQ.then ?_
      refine WC.seq ?_
      refine WC.seq ?_
      refine WC.region ?_
      refine WR.step (Ex.assign rfl) (Wn.none rfl) rfl rfl ?_
      refine WR.nil ?_
      refine WQ.then ?_
      obtain ⟨o31, e32, h⟩ := bnd h
      refine WC.cutX (fun e w => ∃ (n33 : Int) (M : Mem), e = [(1, I p1), (4, ptr b4 0), (5, ptr b5 0), (6, I n15), (7, I n16), (8, I n33)] ∧ St w0 M0 M [.blk b4 (.cells #[I 0, I 0, I 0, I 0, I 0, I 0, I 0] 23), .blk b5 (.cells #[I 0, I 0] 26)] w ∧ some n33 = some o31) [] ?_ ?_ (trivial)
      ·
       refine WC.block ?_
       refine WC.loopP (fun m e w => ∃ (n34 : Int) (n35 : Int) (M : Mem), e = [(1, I p1), (4, ptr b4 0), (5, ptr b5 0), (6, I n15), (7, I n16), (8, I n34), (9, I n35)] ∧ St w0 M0 M [.blk b4 (.cells #[I 0, I 0, I 0, I 0, I 0, I 0, I 0] 23), .blk b5 (.cells #[I 0, I 0] 26)] w ∧ dates_Civil_L1 n15 m n34 n35 = some o31) FU [(1, _), (4, _), (5, _), (6, _), (7, _), (8, _), (9, _)] ⟨rfl, rfl, rfl, rfl, rfl, rfl, rfl, trivial⟩ ⟨_, _, _, rfl, H, e32⟩ ?_
       rintro m36 e w ⟨n34, n35, M, rfl, H, e32⟩
       rcases m36 with _ | m36
       · rw [dates_Civil_L1] at e32; cases e32
       rw [dates_Civil_L1] at e32
       refine WC.seq ?_
       refine WC.seq ?_
       refine WC.region ?_
       refine WR.step (Ex.move rfl) (Wn.none rfl) rfl rfl ?_
       refine WR.step (Ex.gtr rfl rfl) (Wn.none rfl) rfl rfl ?_
       refine WR.nil ?_
       refine WQ.then ?_
       refine WC.condB rfl (fun hk37 => ?_) (fun hk37 => ?_)
       ·
        replace hk37 : (0 : Int) < n35 := of_decide_eq_true hk37
        rw [if_pos hk37] at e32
        refine WC.skip ?_
        refine WQ.then ?_
        refine WC.seq ?_
        refine WC.block ?_
        refine WC.seq ?_
        obtain ⟨o38, e39, e32⟩ := bnd e32
        refine WC.cutX (fun e w => ∃ (b40 : Bool) (M : Mem), e = [(1, I p1), (4, ptr b4 0), (5, ptr b5 0), (6, I n15), (7, I n16), (8, I n34), (9, I n35), (54, Value.bool b40)] ∧ St w0 M0 M [.blk b4 (.cells #[I 0, I 0, I 0, I 0, I 0, I 0, I 0] 23), .blk b5 (.cells #[I 0, I 0] 26)] w ∧ some b40 = some o38) [] ?_ ?_ (trivial)
        ·
         obtain ⟨n41, hxn41, e39⟩ := bnd e39
         refine WC.region ?_
         refine WR.step (Ex.move rfl) (Wn.none rfl) rfl rfl ?_
         refine WR.step (Ex.move rfl) (Wn.none rfl) rfl rfl ?_
         refine WR.step (Ex.addC rfl rfl hxn41) (Wn.none rfl) rfl rfl ?_
         by_cases hk42 : n41 ≤ (4000 : Int)
         ·
          rw [if_pos hk42] at e39
          obtain ⟨n43, hxn43, e39⟩ := bnd e39
          obtain ⟨n44, hx45, e39⟩ := bnd e39
          refine WR.stepE (v' := .bool true) (Ex.leq rfl rfl) (congrArg Value.bool (decide_eq_true hk42)) (Wn.none rfl) rfl rfl ?_
          refine WR.step (Ex.move rfl) (Wn.none rfl) rfl rfl ?_
          refine WR.step (Ex.move rfl) (Wn.some rfl rfl rfl) rfl rfl ?_
          refine WR.step (Ex.move rfl) (Wn.some rfl rfl rfl) rfl rfl ?_
          refine WR.step (Ex.addC rfl rfl hxn43) (Wn.some rfl rfl rfl) rfl rfl ?_
          refine WR.call H (dates_day_ct hx45) rfl trivial (Wn.some rfl rfl rfl) rfl ?_
          intro v51 M w H hle hR
          obtain rfl := hR
          refine WR.step (Ex.move rfl) (Wn.some rfl rfl rfl) rfl rfl ?_
          refine WR.step (Ex.leq rfl rfl) (Wn.some rfl rfl rfl) rfl rfl ?_
          refine WR.step (Ex.pickT rfl rfl) (Wn.none rfl) rfl rfl ?_
          refine WR.nil ?_
          exact WQ.meetN [(1, _), (4, _), (5, _), (6, _), (7, _), (8, _), (9, _), (54, _)] ⟨rfl, rfl, rfl, rfl, rfl, rfl, rfl, rfl, trivial⟩ ⟨_, _, rfl, H, e39⟩
         ·
          rw [if_neg hk42] at e39
          refine WR.stepE (v' := .bool false) (Ex.leq rfl rfl) (congrArg Value.bool (decide_eq_false hk42)) (Wn.none rfl) rfl rfl ?_
          refine WR.step (Ex.move rfl) (Wn.none rfl) rfl rfl ?_
          refine WR.skipN 6 rfl rfl ?_
          refine WR.step (Ex.pickF rfl rfl) (Wn.none rfl) rfl rfl ?_
          refine WR.nil ?_
          exact WQ.meetN [(1, _), (4, _), (5, _), (6, _), (7, _), (8, _), (9, _), (54, _)] ⟨rfl, rfl, rfl, rfl, rfl, rfl, rfl, rfl, trivial⟩ ⟨_, _, rfl, H, e39⟩
        ·
         rintro e w ⟨b40, M, rfl, H, q46⟩
         obtain rfl := Option.some.inj q46
         refine WQ.then ?_
         refine WC.condB rfl (fun hk47 => ?_) (fun hk47 => ?_)
         ·
          subst hk47
          rw [if_pos rfl] at e32
          obtain ⟨n48, hxn48, e32⟩ := bnd e32
          refine WC.region ?_
          refine WR.step (Ex.move rfl) (Wn.none rfl) rfl rfl ?_
          refine WR.step (Ex.move rfl) (Wn.none rfl) rfl rfl ?_
          refine WR.step (Ex.addC rfl rfl hxn48) (Wn.none rfl) rfl rfl ?_
          refine WR.step (Ex.assign rfl) (Wn.none rfl) rfl rfl ?_
          refine WR.nil ?_
          refine WQ.inBlock ?_
          refine WQ.then ?_
          obtain ⟨n49, hxn49, e32⟩ := bnd e32
          refine WC.region ?_
          refine WR.step (Ex.move rfl) (Wn.none rfl) rfl rfl ?_
          refine WR.step (Ex.quoC rfl rfl hxn49) (Wn.none rfl) rfl rfl ?_
          refine WR.step (Ex.assign rfl) (Wn.none rfl) rfl rfl ?_
          refine WR.nil ?_
          exact WQ.againP m36 [(1, _), (4, _), (5, _), (6, _), (7, _), (8, _), (9, _)] ⟨rfl, rfl, rfl, rfl, rfl, rfl, rfl, trivial⟩ ⟨_, _, _, rfl, H, e32⟩ (Nat.lt_succ_self _)
         ·
          subst hk47
          rw [if_neg Bool.false_ne_true] at e32
          refine WC.skip ?_
          refine WQ.inBlock ?_
          refine WQ.then ?_
          obtain ⟨n50, hxn50, e32⟩ := bnd e32
          refine WC.region ?_
          refine WR.step (Ex.move rfl) (Wn.none rfl) rfl rfl ?_
          refine WR.step (Ex.quoC rfl rfl hxn50) (Wn.none rfl) rfl rfl ?_
          refine WR.step (Ex.assign rfl) (Wn.none rfl) rfl rfl ?_
          refine WR.nil ?_
          exact WQ.againP m36 [(1, _), (4, _), (5, _), (6, _), (7, _), (8, _), (9, _)] ⟨rfl, rfl, rfl, rfl, rfl, rfl, rfl, trivial⟩ ⟨_, _, _, rfl, H, e32⟩ (Nat.lt_succ_self _)
       ·
        replace hk37 : ¬ ((0 : Int) < n35) := of_decide_eq_false hk37
        rw [if_neg hk37] at e32
        refine WC.exit ?_
        refine WQ.thenExit ?_
        refine WQ.thenExit ?_
        refine WQ.exitHere ?_
        exact WQ.meetN [(1, _), (4, _), (5, _), (6, _), (7, _), (8, _)] ⟨rfl, rfl, rfl, rfl, rfl, rfl, trivial⟩ ⟨_, _, rfl, H, e32⟩
      ·
       rintro e w ⟨n33, M, rfl, H, q51⟩
       obtain rfl := Option.some.inj q51
       refine WQ.then ?_
       refine WC.seq ?_
       refine WC.region ?_
       refine WR.step (Ex.assign rfl) (Wn.none rfl) rfl rfl ?_
       refine WR.nil ?_
       refine WQ.then ?_
       refine WC.seq ?_
       obtain ⟨o52, e53, h⟩ := bnd h
       refine WC.cutX (fun e w => ∃ (n54 : Int) (M : Mem), e = [(1, I p1), (4, ptr b4 0), (5, ptr b5 0), (6, I n15), (7, I n16), (8, I n33), (10, I n54)] ∧ St w0 M0 M [.blk b4 (.cells #[I 0, I 0, I 0, I 0, I 0, I 0, I 0] 23), .blk b5 (.cells #[I 0, I 0] 26)] w ∧ some n54 = some o52) [] ?_ ?_ (trivial)
       ·
        refine WC.block ?_
        refine WC.loopP (fun m e w => ∃ (n55 : Int) (M : Mem), e = [(1, I p1), (4, ptr b4 0), (5, ptr b5 0), (6, I n15), (7, I n16), (8, I n33), (10, I n55)] ∧ St w0 M0 M [.blk b4 (.cells #[I 0, I 0, I 0, I 0, I 0, I 0, I 0] 23), .blk b5 (.cells #[I 0, I 0] 26)] w ∧ dates_Civil_L2 n15 n33 m n55 = some o52) FU [(1, _), (4, _), (5, _), (6, _), (7, _), (8, _), (10, _)] ⟨rfl, rfl, rfl, rfl, rfl, rfl, rfl, trivial⟩ ⟨_, _, rfl, H, e53⟩ ?_
        rintro m56 e w ⟨n55, M, rfl, H, e53⟩
        rcases m56 with _ | m56
        · rw [dates_Civil_L2] at e53; cases e53
        rw [dates_Civil_L2] at e53
        refine WC.seq ?_
        refine WC.seq ?_
        obtain ⟨n57, hx58, e53⟩ := bnd e53
        refine WC.region ?_
        refine WR.step (Ex.move rfl) (Wn.none rfl) rfl rfl ?_
        refine WR.step (Ex.move rfl) (Wn.none rfl) rfl rfl ?_
        refine WR.call H (dates_day_ct hx58) rfl trivial (Wn.none rfl) rfl ?_
        intro v60 M w H hle hR
        obtain rfl := hR
        refine WR.step (Ex.move rfl) (Wn.none rfl) rfl rfl ?_
        refine WR.step (Ex.gtr rfl rfl) (Wn.none rfl) rfl rfl ?_
        refine WR.nil ?_
        refine WQ.then ?_
        refine WC.condB rfl (fun hk59 => ?_) (fun hk59 => ?_)
        ·
         replace hk59 : n15 < n57 := of_decide_eq_true hk59
         rw [if_pos hk59] at e53
         refine WC.skip ?_
         refine WQ.then ?_
         refine WC.block ?_
         obtain ⟨n60, hxn60, e53⟩ := bnd e53
         refine WC.region ?_
         refine WR.step (Ex.move rfl) (Wn.none rfl) rfl rfl ?_
         refine WR.step (Ex.subC rfl rfl hxn60) (Wn.none rfl) rfl rfl ?_
         refine WR.step (Ex.assign rfl) (Wn.none rfl) rfl rfl ?_
         refine WR.nil ?_
         refine WQ.inBlock ?_
         exact WQ.againP m56 [(1, _), (4, _), (5, _), (6, _), (7, _), (8, _), (10, _)] ⟨rfl, rfl, rfl, rfl, rfl, rfl, rfl, trivial⟩ ⟨_, _, rfl, H, e53⟩ (Nat.lt_succ_self _)
        ·
         replace hk59 : ¬ (n15 < n57) := of_decide_eq_false hk59
         rw [if_neg hk59] at e53
         refine WC.exit ?_
         refine WQ.thenExit ?_
         refine WQ.thenExit ?_
         refine WQ.exitHere ?_
         exact WQ.meetN [(1, _), (4, _), (5, _), (6, _), (7, _), (8, _), (10, _)] ⟨rfl, rfl, rfl, rfl, rfl, rfl, rfl, trivial⟩ ⟨_, _, rfl, H, e53⟩
       ·
        rintro e w ⟨n54, M, rfl, H, q61⟩
        obtain rfl := Option.some.inj q61
        refine WQ.then ?_
        refine WC.seq ?_
        obtain ⟨n62, hx63, h⟩ := bnd h
        obtain ⟨n64, hxn64, h⟩ := bnd h
        obtain ⟨n65, hxn65, h⟩ := bnd h
        obtain ⟨n66, hxn66, h⟩ := bnd h
        obtain ⟨n67, hxn67, h⟩ := bnd h
        obtain ⟨n68, hxn68, h⟩ := bnd h
        obtain ⟨n69, hxn69, h⟩ := bnd h
        obtain ⟨⟨n70, n71⟩, hx72, h⟩ := bnd h
        try dsimp only at h
        refine WC.region ?_
        refine WR.step (Ex.move rfl) (Wn.none rfl) rfl rfl ?_
        refine WR.step (Ex.move rfl) (Wn.none rfl) rfl rfl ?_
        refine WR.step (Ex.move rfl) (Wn.none rfl) rfl rfl ?_
        refine WR.step (Ex.move rfl) (Wn.none rfl) rfl rfl ?_
        refine WR.step (Ex.move rfl) (Wn.none rfl) rfl rfl ?_
        refine WR.call H (dates_day_ct hx63) rfl trivial (Wn.none rfl) rfl ?_
        intro v70 M w H hle hR
        obtain rfl := hR
        refine WR.step (Ex.subC rfl rfl hxn64) (Wn.none rfl) rfl rfl ?_
        refine WR.step (Ex.addC rfl rfl hxn65) (Wn.none rfl) rfl rfl ?_
        refine WR.step (Ex.move rfl) (Wn.none rfl) rfl rfl ?_
        refine WR.step (Ex.quoC rfl rfl hxn66) (Wn.none rfl) rfl rfl ?_
        refine WR.step (Ex.move rfl) (Wn.none rfl) rfl rfl ?_
        refine WR.step (Ex.quoC rfl rfl hxn67) (Wn.none rfl) rfl rfl ?_
        refine WR.step (Ex.remC rfl rfl hxn68) (Wn.none rfl) rfl rfl ?_
        refine WR.step (Ex.move rfl) (Wn.none rfl) rfl rfl ?_
        refine WR.step (Ex.remC rfl rfl hxn69) (Wn.none rfl) rfl rfl ?_
        refine WR.step (Ex.move rfl) (Wn.none rfl) rfl rfl ?_
        refine WR.step (Ex.build [I n33, I n54, I n65, I n66, I n68, I n69, I p1] Tryz.underlying23 Tryz.zeroValue23 (xplaces23 Tryz.underlying23) rfl (by kernel_rfl)) (Wn.none rfl) rfl rfl ?_
        refine WR.call H (basic_None_ct hx72) rfl trivial (Wn.none rfl) rfl ?_
        intro v82 M w H hle hR
        try dsimp only at hR
        obtain rfl := hR
        refine WR.store [_, _, _, _, _, _, _] H rfl rfl rfl (by repeat (first | exact Upd.head | apply Upd.tail)) Tryz.sizeOf23 rfl (by rfl) (by rfl) (Wn.none rfl) ?_
        intro w H
        refine WR.store [_, _] H rfl rfl rfl (by repeat (first | exact Upd.head | apply Upd.tail)) Tryz.sizeOf26 rfl (by rfl) (by rfl) (Wn.none rfl) ?_
        intro w H
        refine WR.nil ?_
        refine WQ.then ?_
        refine WC.ret ?_
        (repeat (first | refine WQ.thenRet ?_ | refine WQ.inBlockRet ?_ | refine WQ.cutRet ?_ | refine WQ.scRet ?_))
        obtain rfl := Option.some.inj h
        exact WQ.ret2 rfl ⟨_, rfl, H.loadAgg (by repeat (first | exact List.Mem.head _ | apply List.Mem.tail)) Tryz.isAgg23 Tryz.sizeOf23 (by rfl)⟩ ⟨_, rfl, H.loadAgg (by repeat (first | exact List.Mem.head _ | apply List.Mem.tail)) Tryz.isAgg26 Tryz.sizeOf26 (by rfl)⟩ H.ext rfl
theorem dates_Weekday_ct {p0 : (Int × Int × Int × Int × Int × Int × Int)} {r : (Int × (Int × Int))} (h : dates_Weekday p0 = some r) : Ct Tryz.prog 11 [Value.agg #[I p0.1, I p0.2.1, I p0.2.2.1, I p0.2.2.2.1, I p0.2.2.2.2.1, I p0.2.2.2.2.2.1, I p0.2.2.2.2.2.2]] (fun M => True) (fun v M => v = Value.tuple #[I r.1, Value.agg #[I r.2.1, I r.2.2]]) := by
  refine Ct.of Tryz.func11 (enters Tryz.func11 (by kernel_rfl) rfl) rfl rfl rfl ?_
  intro w0 M0 H hp
  unfold dates_Weekday at h
  refine WC.seq ?_
  refine WC.region ?_
  refine WR.box [_, _, _, _, _, _, _] H rfl rfl (Wn.none rfl) rfl ?_
  intro b1 w H
  refine WR.step (Ex.assign rfl) (Wn.none rfl) rfl rfl ?_
  refine WR.alloc [_, _] H Tryz.zeroValue26 rfl (Wn.none rfl) rfl ?_
  intro b3 w H
  refine WR.nil ?_
  refine WQ.then ?_
  refine WC.seq ?_
  refine WC.seq ?_
  obtain ⟨⟨n1, n2⟩, hx3, h⟩ := bnd h
  try dsimp only at h
  refine WC.region ?_
  refine WR.step (Ex.loadAgg H rfl (by repeat (first | exact List.Mem.head _ | apply List.Mem.tail)) Tryz.isAgg23 Tryz.sizeOf23 (by rfl)) (Wn.none rfl) rfl rfl ?_
  refine WR.call H (dates_Validate_ct hx3) rfl trivial (Wn.none rfl) rfl ?_
  intro v8 M w H hle hR
  try dsimp only at hR
  obtain rfl := hR
  refine WR.alloc [_, _] H Tryz.zeroValue26 rfl (Wn.none rfl) rfl ?_
  intro b4 w H
  refine WR.store [_, _] H rfl rfl rfl (by repeat (first | exact Upd.head | apply Upd.tail)) Tryz.sizeOf26 rfl (by rfl) (by rfl) (Wn.none rfl) ?_
  intro w H
  refine WR.nil ?_
  refine WQ.then ?_
  refine WC.seq ?_
  obtain ⟨b4, hx5, h⟩ := bnd h
  refine WC.region ?_
  refine WR.step (Ex.loadAgg H rfl (by repeat (first | exact List.Mem.head _ | apply List.Mem.tail)) Tryz.isAgg26 Tryz.sizeOf26 (by rfl)) (Wn.none rfl) rfl rfl ?_
  refine WR.call H (basic_Failed_ct hx5) rfl trivial (Wn.none rfl) rfl ?_
  intro v10 M w H hle hR
  obtain rfl := hR
  refine WR.nil ?_
  refine WQ.then ?_
  refine WC.condB rfl (fun hk6 => ?_) (fun hk6 => ?_)
  ·
   subst hk6
   rw [if_pos rfl] at h
   refine WC.seq ?_
   refine WC.draw (m := 3) rfl rfl H ?_
   intro w H
   refine WA.take (i := 1) rfl (by kernel_rfl) (by kernel_rfl) (by kernel_rfl) (fun _ => Ex.assign rfl) (Wn.none rfl) rfl rfl (fun _ _ => rfl) ?_
   refine WA.seq (fuel := 0) [0, 2] rfl (by kernel_rfl) ?_
   refine WR.step (Ex.loadAgg H rfl (by repeat (first | exact List.Mem.head _ | apply List.Mem.tail)) Tryz.isAgg26 Tryz.sizeOf26 (by rfl)) (Wn.none rfl) rfl rfl ?_
   refine WR.store [_, _] H rfl rfl rfl (by repeat (first | exact Upd.head | apply Upd.tail)) Tryz.sizeOf26 rfl (by rfl) (by rfl) (Wn.none rfl) ?_
   intro w H
   refine WR.nil (WQ.any ?_)
   refine WA.done (by kernel_rfl) ?_
   refine WQ.then ?_
   refine WC.ret ?_
   (repeat (first | refine WQ.thenRet ?_ | refine WQ.inBlockRet ?_ | refine WQ.cutRet ?_ | refine WQ.scRet ?_))
   obtain rfl := Option.some.inj h
   exact WQ.ret2 rfl rfl ⟨_, rfl, H.loadAgg (by repeat (first | exact List.Mem.head _ | apply List.Mem.tail)) Tryz.isAgg26 Tryz.sizeOf26 (by rfl)⟩ H.ext rfl
  ·
   subst hk6
   rw [if_neg Bool.false_ne_true] at h
   refine WC.skip ?_
   refine WQ.then ?_
   refine WC.seq ?_
   obtain ⟨n7, hx8, h⟩ := bnd h
   obtain ⟨n9, hxn9, h⟩ := bnd h
   obtain ⟨⟨n10, n11⟩, hx12, h⟩ := bnd h
   try dsimp only at h
   refine WC.region ?_
   refine WR.step (Ex.fieldAddr Tryz.underlying23 rfl Tryz.sizeOf3 (by decide) rfl) (Wn.none rfl) rfl rfl ?_
   refine WR.step (Ex.load1 H rfl (by repeat (first | exact List.Mem.head _ | apply List.Mem.tail)) Tryz.isAgg3 (by rfl)) (Wn.none rfl) rfl rfl ?_
   refine WR.step (Ex.fieldAddr Tryz.underlying23 rfl Tryz.sizeOf3 (by decide) rfl) (Wn.none rfl) rfl rfl ?_
   refine WR.step (Ex.load1 H rfl (by repeat (first | exact List.Mem.head _ | apply List.Mem.tail)) Tryz.isAgg3 (by rfl)) (Wn.none rfl) rfl rfl ?_
   refine WR.step (Ex.fieldAddr Tryz.underlying23 rfl Tryz.sizeOf3 (by decide) rfl) (Wn.none rfl) rfl rfl ?_
   refine WR.step (Ex.load1 H rfl (by repeat (first | exact List.Mem.head _ | apply List.Mem.tail)) Tryz.isAgg3 (by rfl)) (Wn.none rfl) rfl rfl ?_
   refine WR.call H (dates_day_ct hx8) rfl trivial (Wn.none rfl) rfl ?_
   intro v19 M w H hle hR
   obtain rfl := hR
   refine WR.step (Ex.addC rfl rfl hxn9) (Wn.none rfl) rfl rfl ?_
   refine WR.call H (dates_split_ct hx12) rfl trivial (Wn.none rfl) rfl ?_
   intro v21 M w H hle hR
   try dsimp only at hR
   obtain rfl := hR
   refine WR.step (Ex.move rfl) (Wn.none rfl) rfl rfl ?_
   refine WR.step (Ex.extract rfl rfl) (Wn.none rfl) rfl rfl ?_
   refine WR.step (Ex.extract rfl rfl) (Wn.none rfl) rfl rfl ?_
   refine WR.step (Ex.assign rfl) (Wn.none rfl) rfl rfl ?_
   refine WR.step (Ex.assign rfl) (Wn.none rfl) rfl rfl ?_
   refine WR.nil ?_
   refine WQ.then ?_
   refine WC.seq ?_
   obtain ⟨⟨n13, n14⟩, hx15, h⟩ := bnd h
   try dsimp only at h
   refine WC.region ?_
   refine WR.step (Ex.move rfl) (Wn.none rfl) rfl rfl ?_
   refine WR.call H (basic_None_ct hx15) rfl trivial (Wn.none rfl) rfl ?_
   intro v25 M w H hle hR
   try dsimp only at hR
   obtain rfl := hR
   refine WR.step (Ex.assign rfl) (Wn.none rfl) rfl rfl ?_
   refine WR.store [_, _] H rfl rfl rfl (by repeat (first | exact Upd.head | apply Upd.tail)) Tryz.sizeOf26 rfl (by rfl) (by rfl) (Wn.none rfl) ?_
   intro w H
   refine WR.nil ?_
   refine WQ.then ?_
   refine WC.ret ?_
   (repeat (first | refine WQ.thenRet ?_ | refine WQ.inBlockRet ?_ | refine WQ.cutRet ?_ | refine WQ.scRet ?_))
   obtain rfl := Option.some.inj h
   exact WQ.ret2 rfl rfl ⟨_, rfl, H.loadAgg (by repeat (first | exact List.Mem.head _ | apply List.Mem.tail)) Tryz.isAgg26 Tryz.sizeOf26 (by rfl)⟩ H.ext rfl
theorem dates_pad_ct {p0 : Int} {p1 : Int} {r : List UInt8} (h : dates_pad p0 p1 = some r) : Ct Tryz.prog 33 [I p0, I p1] (fun M => GlF (fun w => Lib.TabIs Tryz.prog w "internal/strconv.uint64pow10" .u64 Lib.pow10Tab) M) (fun v M => v = S r) := by
  refine Ct.of Tryz.func33 (enters Tryz.func33 (by kernel_rfl) rfl) rfl rfl rfl ?_
  intro w0 M0 H hp
  have hg_pow10 := hp
  unfold dates_pad at h
  refine WC.seq ?_
  refine WC.region ?_
  refine WR.step (Ex.assign rfl) (Wn.none rfl) rfl rfl ?_
  refine WR.nil ?_
  refine WQ.then ?_
  refine WC.seq ?_
  obtain ⟨s1, hx2, h⟩ := bnd h
  refine WC.region ?_
  refine WR.step (Ex.move rfl) (Wn.none rfl) rfl rfl ?_
  refine WR.call H (strconv_Itoa_ct hx2) rfl (hg_pow10) (Wn.none rfl) rfl ?_
  intro v7 M w H hle hR
  replace hg_pow10 := hg_pow10.mono hle
  obtain rfl := hR
  refine WR.step (Ex.assign rfl) (Wn.none rfl) rfl rfl ?_
  refine WR.nil ?_
  refine WQ.then ?_
  refine WC.seq ?_
  obtain ⟨n3, hxn3, h⟩ := bnd h
  obtain ⟨s4, hx5, h⟩ := bnd h
  obtain ⟨s6, hxs6, h⟩ := bnd h
  refine WC.region ?_
  refine WR.step (Ex.move rfl) (Wn.none rfl) rfl rfl ?_
  refine WR.step (Ex.move rfl) (Wn.none rfl) rfl rfl ?_
  refine WR.step (Ex.lenStr Tryz.underlying9 rfl) (Wn.none rfl) rfl rfl ?_
  refine WR.step (Ex.subC rfl rfl hxn3) (Wn.none rfl) rfl rfl ?_
  refine WR.step (Ex.max2 rfl rfl) (Wn.none rfl) rfl rfl ?_
  refine WR.call H (strings_Repeat_ct hx5) rfl trivial (Wn.none rfl) rfl ?_
  intro v13 M w H hle hR
  replace hg_pow10 := hg_pow10.mono hle
  obtain rfl := hR
  refine WR.step (Ex.move rfl) (Wn.none rfl) rfl rfl ?_
  refine WR.step (Ex.strAddC rfl rfl hxs6) (Wn.none rfl) rfl rfl ?_
  refine WR.step (Ex.assign rfl) (Wn.none rfl) rfl rfl ?_
  refine WR.nil ?_
  refine WQ.then ?_
  refine WC.ret ?_
  (repeat (first | refine WQ.thenRet ?_ | refine WQ.inBlockRet ?_ | refine WQ.cutRet ?_ | refine WQ.scRet ?_))
  obtain rfl := Option.some.inj h
  exact WQ.ret1 rfl rfl H.ext rfl
theorem dates_weekdays_ct  {r : List (List UInt8)} (h : dates_weekdays = some r) : Ct Tryz.prog 35 [] (fun M => True) (fun v M => v = Value.agg (List.map encS r).toArray) := by
  refine Ct.of Tryz.func35 (enters Tryz.func35 (by kernel_rfl) rfl) rfl rfl rfl ?_
  intro w0 M0 H hp
  unfold dates_weekdays at h
  refine WC.seq ?_
  refine WC.region ?_
  refine WR.alloc (List.map encS (List.replicate 7 [] : List (List UInt8))) H Tryz.zeroValue55 (by kernel_rfl) (Wn.none rfl) rfl ?_
  intro b0 w H
  refine WR.nil ?_
  refine WQ.then ?_
  refine WC.seq ?_
  obtain ⟨l1, hxl1, h⟩ := bnd h
  obtain ⟨l2, hxl2, h⟩ := bnd h
  refine WC.region ?_
  refine WR.step (Ex.buildArr [S [83, 117, 110], S [77, 111, 110], S [84, 117, 101], S [87, 101, 100], S [84, 104, 117], S [70, 114, 105], S [83, 97, 116]] Tryz.underlying55 Tryz.zeroValue55 Tryz.sizeOf9 rfl (by kernel_rfl)) (Wn.none rfl) rfl rfl ?_
  refine WR.storeA (l2 := ([[83, 117, 110], [77, 111, 110], [84, 117, 101], [87, 101, 100], [84, 104, 117], [70, 114, 105], [83, 97, 116]] : List (List UInt8))) H rfl rfl (fun _ => rfl) (fun _ => by repeat (first | exact Upd.head | apply Upd.tail)) hxl1 hxl2 Tryz.sizeOf55 (Wn.none rfl) ?_
  intro w H
  refine WR.nil ?_
  refine WQ.then ?_
  refine WC.ret ?_
  (repeat (first | refine WQ.thenRet ?_ | refine WQ.inBlockRet ?_ | refine WQ.cutRet ?_ | refine WQ.scRet ?_))
  obtain ⟨l3, hxl3, h⟩ := bnd h
  obtain rfl := Option.some.inj h
  exact WQ.ret1 rfl ⟨_, rfl, H.loadAggA (by repeat (first | exact List.Mem.head _ | apply List.Mem.tail)) Tryz.isAgg55 Tryz.sizeOf55 hxl3⟩ H.ext rfl
theorem dates_months_ct  {r : List (List UInt8)} (h : dates_months = some r) : Ct Tryz.prog 36 [] (fun M => True) (fun v M => v = Value.agg (List.map encS r).toArray) := by
  refine Ct.of Tryz.func36 (enters Tryz.func36 (by kernel_rfl) rfl) rfl rfl rfl ?_
  intro w0 M0 H hp
  unfold dates_months at h
  refine WC.seq ?_
  refine WC.region ?_
  refine WR.alloc (List.map encS (List.replicate 12 [] : List (List UInt8))) H Tryz.zeroValue57 (by kernel_rfl) (Wn.none rfl) rfl ?_
  intro b0 w H
  refine WR.nil ?_
  refine WQ.then ?_
  refine WC.seq ?_
  obtain ⟨l1, hxl1, h⟩ := bnd h
  obtain ⟨l2, hxl2, h⟩ := bnd h
  refine WC.region ?_
  refine WR.step (Ex.buildArr [S [74, 97, 110], S [70, 101, 98], S [77, 97, 114], S [65, 112, 114], S [77, 97, 121], S [74, 117, 110], S [74, 117, 108], S [65, 117, 103], S [83, 101, 112], S [79, 99, 116], S [78, 111, 118], S [68, 101, 99]] Tryz.underlying57 Tryz.zeroValue57 Tryz.sizeOf9 rfl (by kernel_rfl)) (Wn.none rfl) rfl rfl ?_
  refine WR.storeA (l2 := ([[74, 97, 110], [70, 101, 98], [77, 97, 114], [65, 112, 114], [77, 97, 121], [74, 117, 110], [74, 117, 108], [65, 117, 103], [83, 101, 112], [79, 99, 116], [78, 111, 118], [68, 101, 99]] : List (List UInt8))) H rfl rfl (fun _ => rfl) (fun _ => by repeat (first | exact Upd.head | apply Upd.tail)) hxl1 hxl2 Tryz.sizeOf57 (Wn.none rfl) ?_
  intro w H
  refine WR.nil ?_
  refine WQ.then ?_
  refine WC.ret ?_
  (repeat (first | refine WQ.thenRet ?_ | refine WQ.inBlockRet ?_ | refine WQ.cutRet ?_ | refine WQ.scRet ?_))
  obtain ⟨l3, hxl3, h⟩ := bnd h
  obtain rfl := Option.some.inj h
  exact WQ.ret1 rfl ⟨_, rfl, H.loadAggA (by repeat (first | exact List.Mem.head _ | apply List.Mem.tail)) Tryz.isAgg57 Tryz.sizeOf57 hxl3⟩ H.ext rfl
theorem dates_Print_ct {p0 : (Int × Int × Int × Int × Int × Int × Int)} {r : (List UInt8 × (Int × Int))} (h : dates_Print p0 = some r) : Ct Tryz.prog 18 [Value.agg #[I p0.1, I p0.2.1, I p0.2.2.1, I p0.2.2.2.1, I p0.2.2.2.2.1, I p0.2.2.2.2.2.1, I p0.2.2.2.2.2.2]] (fun M => GlF (fun w => Lib.TabIs Tryz.prog w "internal/strconv.uint64pow10" .u64 Lib.pow10Tab) M) (fun v M => v = Value.tuple #[S r.1, Value.agg #[I r.2.1, I r.2.2]]) := by
  refine Ct.of Tryz.func18 (enters Tryz.func18 (by kernel_rfl) rfl) rfl rfl rfl ?_
  intro w0 M0 H hp
  have hg_pow10 := hp
  unfold dates_Print at h
  refine WC.seq ?_
  refine WC.region ?_
  refine WR.box [_, _, _, _, _, _, _] H rfl rfl (Wn.none rfl) rfl ?_
  intro b1 w H
  refine WR.step (Ex.assign rfl) (Wn.none rfl) rfl rfl ?_
  refine WR.alloc [_, _] H Tryz.zeroValue26 rfl (Wn.none rfl) rfl ?_
  intro b3 w H
  refine WR.nil ?_
  refine WQ.then ?_
  refine WC.seq ?_
  obtain ⟨⟨n1, ⟨n2, n3⟩⟩, hx4, h⟩ := bnd h
  try dsimp only at h
  refine WC.region ?_
  refine WR.step (Ex.loadAgg H rfl (by repeat (first | exact List.Mem.head _ | apply List.Mem.tail)) Tryz.isAgg23 Tryz.sizeOf23 (by rfl)) (Wn.none rfl) rfl rfl ?_
  refine WR.call H (dates_Weekday_ct hx4) rfl trivial (Wn.none rfl) rfl ?_
  intro v11 M w H hle hR
  replace hg_pow10 := hg_pow10.mono hle
  try dsimp only at hR
  obtain rfl := hR
  refine WR.step (Ex.move rfl) (Wn.none rfl) rfl rfl ?_
  refine WR.step (Ex.extract rfl rfl) (Wn.none rfl) rfl rfl ?_
  refine WR.step (Ex.extract rfl rfl) (Wn.none rfl) rfl rfl ?_
  refine WR.alloc [_, _] H Tryz.zeroValue26 rfl (Wn.none rfl) rfl ?_
  intro b5 w H
  refine WR.step (Ex.assign rfl) (Wn.none rfl) rfl rfl ?_
  refine WR.store [_, _] H rfl rfl rfl (by repeat (first | exact Upd.head | apply Upd.tail)) Tryz.sizeOf26 rfl (by rfl) (by rfl) (Wn.none rfl) ?_
  intro w H
  refine WR.nil ?_
  refine WQ.then ?_
  refine WC.seq ?_
  refine WC.seq ?_
  obtain ⟨b5, hx6, h⟩ := bnd h
  refine WC.region ?_
  refine WR.step (Ex.loadAgg H rfl (by repeat (first | exact List.Mem.head _ | apply List.Mem.tail)) Tryz.isAgg26 Tryz.sizeOf26 (by rfl)) (Wn.none rfl) rfl rfl ?_
  refine WR.call H (basic_Failed_ct hx6) rfl trivial (Wn.none rfl) rfl ?_
  intro v15 M w H hle hR
  replace hg_pow10 := hg_pow10.mono hle
  obtain rfl := hR
  refine WR.nil ?_
  refine WQ.then ?_
  refine WC.condB rfl (fun hk7 => ?_) (fun hk7 => ?_)
  ·
   subst hk7
   rw [if_pos rfl] at h
   refine WC.seq ?_
   refine WC.draw (m := 3) rfl rfl H ?_
   intro w H
   refine WA.take (i := 1) rfl (by kernel_rfl) (by kernel_rfl) (by kernel_rfl) (fun _ => Ex.assign rfl) (Wn.none rfl) rfl rfl (fun _ _ => rfl) ?_
   refine WA.seq (fuel := 0) [0, 2] rfl (by kernel_rfl) ?_
   refine WR.step (Ex.loadAgg H rfl (by repeat (first | exact List.Mem.head _ | apply List.Mem.tail)) Tryz.isAgg26 Tryz.sizeOf26 (by rfl)) (Wn.none rfl) rfl rfl ?_
   refine WR.store [_, _] H rfl rfl rfl (by repeat (first | exact Upd.head | apply Upd.tail)) Tryz.sizeOf26 rfl (by rfl) (by rfl) (Wn.none rfl) ?_
   intro w H
   refine WR.nil (WQ.any ?_)
   refine WA.done (by kernel_rfl) ?_
   refine WQ.then ?_
   refine WC.ret ?_
   (repeat (first | refine WQ.thenRet ?_ | refine WQ.inBlockRet ?_ | refine WQ.cutRet ?_ | refine WQ.scRet ?_))
   obtain rfl := Option.some.inj h
   exact WQ.ret2 rfl rfl ⟨_, rfl, H.loadAgg (by repeat (first | exact List.Mem.head _ | apply List.Mem.tail)) Tryz.isAgg26 Tryz.sizeOf26 (by rfl)⟩ H.ext rfl
  ·
   subst hk7
   rw [if_neg Bool.false_ne_true] at h
   refine WC.skip ?_
   refine WQ.then ?_
   refine WC.seq ?_
   refine WC.draw (m := 4) rfl rfl H ?_
   intro w H
   refine WA.take (i := 0) rfl (by kernel_rfl) (by kernel_rfl) (by kernel_rfl) (fun _ => Ex.fieldAddr Tryz.underlying23 rfl Tryz.sizeOf3 (by decide) rfl) (Wn.none rfl) rfl rfl (fun _ _ => rfl) ?_
   refine WA.take (i := 2) rfl (by kernel_rfl) (by kernel_rfl) (by kernel_rfl) (fun _ => Ex.assign rfl) (Wn.none rfl) rfl rfl (fun _ _ => rfl) ?_
   refine WA.seq (fuel := 0) [1, 3] rfl (by kernel_rfl) ?_
   refine WR.step (Ex.load1 H rfl (by repeat (first | exact List.Mem.head _ | apply List.Mem.tail)) Tryz.isAgg3 (by rfl)) (Wn.none rfl) rfl rfl ?_
   refine WR.step (Ex.assign rfl) (Wn.none rfl) rfl rfl ?_
   refine WR.nil (WQ.any ?_)
   refine WA.done (by kernel_rfl) ?_
   refine WQ.then ?_
   refine WC.seq ?_
   refine WC.seq ?_
   refine WC.region ?_
   refine WR.step (Ex.fieldAddr Tryz.underlying23 rfl Tryz.sizeOf3 (by decide) rfl) (Wn.none rfl) rfl rfl ?_
   refine WR.step (Ex.load1 H rfl (by repeat (first | exact List.Mem.head _ | apply List.Mem.tail)) Tryz.isAgg3 (by rfl)) (Wn.none rfl) rfl rfl ?_
   refine WR.step (Ex.lss rfl rfl) (Wn.none rfl) rfl rfl ?_
   refine WR.nil ?_
   refine WQ.then ?_
   obtain ⟨o8, e9, h⟩ := bnd h
   refine WC.cutX (fun e w => ∃ (s10 : List UInt8) (n11 : Int) (M : Mem), e = [(1, ptr b1 0), (3, ptr b3 0), (4, I n1), (6, S s10), (7, I n11)] ∧ St w0 M0 M [.blk b1 (.cells #[I p0.1, I p0.2.1, I p0.2.2.1, I p0.2.2.2.1, I p0.2.2.2.2.1, I p0.2.2.2.2.2.1, I p0.2.2.2.2.2.2] 23), .blk b3 (.cells #[I 0, I 0] 26)] w ∧ GlF (fun w => Lib.TabIs Tryz.prog w "internal/strconv.uint64pow10" .u64 Lib.pow10Tab) M ∧ some (s10, n11) = some o8) [] ?_ ?_ (trivial)
   ·
    refine WC.condB rfl (fun hk12 => ?_) (fun hk12 => ?_)
    ·
     replace hk12 : p0.2.2.2.2.2.2 < (0 : Int) := of_decide_eq_true hk12
     rw [if_pos hk12] at e9
     obtain ⟨n13, hxn13, e9⟩ := bnd e9
     refine WC.draw (m := 5) rfl rfl H ?_
     intro w H
     refine WA.take (i := 0) rfl (by kernel_rfl) (by kernel_rfl) (by kernel_rfl) (fun _ => Ex.fieldAddr Tryz.underlying23 rfl Tryz.sizeOf3 (by decide) rfl) (Wn.none rfl) rfl rfl (fun _ _ => rfl) ?_
     refine WA.take (i := 3) rfl (by kernel_rfl) (by kernel_rfl) (by kernel_rfl) (fun _ => Ex.assign rfl) (Wn.none rfl) rfl rfl (fun _ _ => rfl) ?_
     refine WA.seq (fuel := 0) [1, 2, 4] rfl (by kernel_rfl) ?_
     refine WR.step (Ex.load1 H rfl (by repeat (first | exact List.Mem.head _ | apply List.Mem.tail)) Tryz.isAgg3 (by rfl)) (Wn.none rfl) rfl rfl ?_
     refine WR.step (Ex.negC rfl hxn13) (Wn.none rfl) rfl rfl ?_
     refine WR.step (Ex.assign rfl) (Wn.none rfl) rfl rfl ?_
     refine WR.nil (WQ.any ?_)
     refine WA.done (by kernel_rfl) ?_
     exact WQ.meetN [(1, _), (3, _), (4, _), (6, _), (7, _)] ⟨rfl, rfl, rfl, rfl, rfl, trivial⟩ ⟨_, _, _, rfl, (H.pick (L' := [.blk b1 (.cells #[I p0.1, I p0.2.1, I p0.2.2.1, I p0.2.2.2.1, I p0.2.2.2.2.1, I p0.2.2.2.2.2.1, I p0.2.2.2.2.2.2] 23), .blk b3 (.cells #[I 0, I 0] 26)]) (by repeat (first | exact Pick.nil | refine Pick.cons (by repeat (first | exact Rem.head | apply Rem.tail)) ?_))), hg_pow10, e9⟩
    ·
     replace hk12 : ¬ (p0.2.2.2.2.2.2 < (0 : Int)) := of_decide_eq_false hk12
     rw [if_neg hk12] at e9
     refine WC.skip ?_
     exact WQ.meetN [(1, _), (3, _), (4, _), (6, _), (7, _)] ⟨rfl, rfl, rfl, rfl, rfl, trivial⟩ ⟨_, _, _, rfl, (H.pick (L' := [.blk b1 (.cells #[I p0.1, I p0.2.1, I p0.2.2.1, I p0.2.2.2.1, I p0.2.2.2.2.1, I p0.2.2.2.2.2.1, I p0.2.2.2.2.2.2] 23), .blk b3 (.cells #[I 0, I 0] 26)]) (by repeat (first | exact Pick.nil | refine Pick.cons (by repeat (first | exact Rem.head | apply Rem.tail)) ?_))), hg_pow10, e9⟩
   ·
    rintro e w ⟨s10, n11, M, rfl, H, hg_pow10, q14⟩
    obtain rfl := Option.some.inj q14
    try dsimp only at h
    refine WQ.then ?_
    refine WC.seq ?_
    obtain ⟨n15, hxn15, h⟩ := bnd h
    obtain ⟨s16, hx17, h⟩ := bnd h
    obtain ⟨n18, hxn18, h⟩ := bnd h
    obtain ⟨s19, hx20, h⟩ := bnd h
    obtain ⟨s21, hxs21, h⟩ := bnd h
    obtain ⟨s22, hxs22, h⟩ := bnd h
    refine WC.region ?_
    refine WR.step (Ex.move rfl) (Wn.none rfl) rfl rfl ?_
    refine WR.step (Ex.move rfl) (Wn.none rfl) rfl rfl ?_
    refine WR.step (Ex.quoC rfl rfl hxn15) (Wn.none rfl) rfl rfl ?_
    refine WR.call H (dates_pad_ct hx17) rfl (hg_pow10) (Wn.none rfl) rfl ?_
    intro v28 M w H hle hR
    replace hg_pow10 := hg_pow10.mono hle
    obtain rfl := hR
    refine WR.step (Ex.move rfl) (Wn.none rfl) rfl rfl ?_
    refine WR.step (Ex.remC rfl rfl hxn18) (Wn.none rfl) rfl rfl ?_
    refine WR.call H (dates_pad_ct hx20) rfl (hg_pow10) (Wn.none rfl) rfl ?_
    intro v31 M w H hle hR
    replace hg_pow10 := hg_pow10.mono hle
    obtain rfl := hR
    refine WR.step (Ex.strAddC rfl rfl hxs21) (Wn.none rfl) rfl rfl ?_
    refine WR.step (Ex.strAddC rfl rfl hxs22) (Wn.none rfl) rfl rfl ?_
    refine WR.step (Ex.assign rfl) (Wn.none rfl) rfl rfl ?_
    refine WR.nil ?_
    refine WQ.then ?_
    refine WC.seq ?_
    obtain ⟨s23, hx24, h⟩ := bnd h
    obtain ⟨s25, hxs25, h⟩ := bnd h
    obtain ⟨s26, hx27, h⟩ := bnd h
    obtain ⟨s28, hxs28, h⟩ := bnd h
    obtain ⟨s29, hxs29, h⟩ := bnd h
    obtain ⟨s30, hx31, h⟩ := bnd h
    obtain ⟨s32, hxs32, h⟩ := bnd h
    refine WC.sub (e' := [(1, _), (3, _), (4, _), (6, _)]) ⟨rfl, rfl, rfl, rfl, trivial⟩ ?_
    refine WC.draw (m := 14) rfl rfl H ?_
    intro w H
    refine WA.conf (c := 14) [(34, ptr b1 3, []), (35, I p0.2.2.2.1, [0]), (36, S s23, [1]), (37, S s25, [2]), (38, ptr b1 4, []), (39, I p0.2.2.2.2.1, [4]), (40, S s26, [5]), (41, S s28, [3, 6]), (42, S s29, [7]), (43, ptr b1 5, []), (44, I p0.2.2.2.2.2.1, [9]), (45, S s30, [10]), (46, S s32, [8, 11]), (8, S s32, [12])] rfl rfl (by kernel_rfl) rfl rfl H ⟨⟨_, rfl, fun E w M H hle Qk kk => ?_⟩, ⟨_, rfl, fun E w M H hle Qk kk => ?_⟩, ⟨_, rfl, fun E w M H hle Qk kk => ?_⟩, ⟨_, rfl, fun E w M H hle Qk kk => ?_⟩, ⟨_, rfl, fun E w M H hle Qk kk => ?_⟩, ⟨_, rfl, fun E w M H hle Qk kk => ?_⟩, ⟨_, rfl, fun E w M H hle Qk kk => ?_⟩, ⟨_, rfl, fun E w M H hle Qk kk => ?_⟩, ⟨_, rfl, fun E w M H hle Qk kk => ?_⟩, ⟨_, rfl, fun E w M H hle Qk kk => ?_⟩, ⟨_, rfl, fun E w M H hle Qk kk => ?_⟩, ⟨_, rfl, fun E w M H hle Qk kk => ?_⟩, ⟨_, rfl, fun E w M H hle Qk kk => ?_⟩, ⟨_, rfl, fun E w M H hle Qk kk => ?_⟩, trivial⟩ ?_
    ·
     have hg_pow10 := hg_pow10.mono hle
     refine WR.step (Ex.fieldAddr Tryz.underlying23 rfl Tryz.sizeOf3 (by decide) rfl) (Wn.none rfl) rfl rfl ?_
     exact WR.nil (kk _ _ H (Mem.le.refl _))
    ·
     have hg_pow10 := hg_pow10.mono hle
     refine WR.step (Ex.load1 H rfl (by repeat (first | exact List.Mem.head _ | apply List.Mem.tail)) Tryz.isAgg3 (by rfl)) (Wn.none rfl) rfl rfl ?_
     exact WR.nil (kk _ _ H (Mem.le.refl _))
    ·
     have hg_pow10 := hg_pow10.mono hle
     refine WR.call H (dates_pad_ct hx24) rfl (hg_pow10) (Wn.none rfl) rfl ?_
     intro v36 M w H hle hR
     replace hg_pow10 := hg_pow10.mono hle
     obtain rfl := hR
     exact WR.nil (kk _ _ H hle)
    ·
     have hg_pow10 := hg_pow10.mono hle
     refine WR.step (Ex.strAddC rfl rfl hxs25) (Wn.none rfl) rfl rfl ?_
     exact WR.nil (kk _ _ H (Mem.le.refl _))
    ·
     have hg_pow10 := hg_pow10.mono hle
     refine WR.step (Ex.fieldAddr Tryz.underlying23 rfl Tryz.sizeOf3 (by decide) rfl) (Wn.none rfl) rfl rfl ?_
     exact WR.nil (kk _ _ H (Mem.le.refl _))
    ·
     have hg_pow10 := hg_pow10.mono hle
     refine WR.step (Ex.load1 H rfl (by repeat (first | exact List.Mem.head _ | apply List.Mem.tail)) Tryz.isAgg3 (by rfl)) (Wn.none rfl) rfl rfl ?_
     exact WR.nil (kk _ _ H (Mem.le.refl _))
    ·
     have hg_pow10 := hg_pow10.mono hle
     refine WR.call H (dates_pad_ct hx27) rfl (hg_pow10) (Wn.none rfl) rfl ?_
     intro v40 M w H hle hR
     replace hg_pow10 := hg_pow10.mono hle
     obtain rfl := hR
     exact WR.nil (kk _ _ H hle)
    ·
     have hg_pow10 := hg_pow10.mono hle
     refine WR.step (Ex.strAddC rfl rfl hxs28) (Wn.none rfl) rfl rfl ?_
     exact WR.nil (kk _ _ H (Mem.le.refl _))
    ·
     have hg_pow10 := hg_pow10.mono hle
     refine WR.step (Ex.strAddC rfl rfl hxs29) (Wn.none rfl) rfl rfl ?_
     exact WR.nil (kk _ _ H (Mem.le.refl _))
    ·
     have hg_pow10 := hg_pow10.mono hle
     refine WR.step (Ex.fieldAddr Tryz.underlying23 rfl Tryz.sizeOf3 (by decide) rfl) (Wn.none rfl) rfl rfl ?_
     exact WR.nil (kk _ _ H (Mem.le.refl _))
    ·
     have hg_pow10 := hg_pow10.mono hle
     refine WR.step (Ex.load1 H rfl (by repeat (first | exact List.Mem.head _ | apply List.Mem.tail)) Tryz.isAgg3 (by rfl)) (Wn.none rfl) rfl rfl ?_
     exact WR.nil (kk _ _ H (Mem.le.refl _))
    ·
     have hg_pow10 := hg_pow10.mono hle
     refine WR.call H (dates_pad_ct hx31) rfl (hg_pow10) (Wn.none rfl) rfl ?_
     intro v45 M w H hle hR
     replace hg_pow10 := hg_pow10.mono hle
     obtain rfl := hR
     exact WR.nil (kk _ _ H hle)
    ·
     have hg_pow10 := hg_pow10.mono hle
     refine WR.step (Ex.strAddC rfl rfl hxs32) (Wn.none rfl) rfl rfl ?_
     exact WR.nil (kk _ _ H (Mem.le.refl _))
    ·
     have hg_pow10 := hg_pow10.mono hle
     refine WR.step (Ex.assign rfl) (Wn.none rfl) rfl rfl ?_
     exact WR.nil (kk _ _ H (Mem.le.refl _))
    ·
     intro w M H hle
     replace hg_pow10 := hg_pow10.mono hle
     refine WA.done (by kernel_rfl) ?_
     refine WQ.then ?_
     refine WC.seq ?_
     obtain ⟨n33, hx34, h⟩ := bnd h
     obtain ⟨a35, hxa35, h⟩ := bnd h
     obtain ⟨s36, hxs36, h⟩ := bnd h
     obtain ⟨s37, hx38, h⟩ := bnd h
     obtain ⟨n39, hx40, h⟩ := bnd h
     obtain ⟨n41, hxn41, h⟩ := bnd h
     obtain ⟨a42, hxa42, h⟩ := bnd h
     obtain ⟨s43, hx44, h⟩ := bnd h
     obtain ⟨s45, hx46, h⟩ := bnd h
     obtain ⟨⟨n47, n48⟩, hx49, h⟩ := bnd h
     try dsimp only at h
     refine WC.sub (e' := [(1, _), (3, _), (4, _), (6, _), (8, _)]) ⟨rfl, rfl, rfl, rfl, rfl, trivial⟩ ?_
     refine WC.draw (m := 22) rfl rfl H ?_
     intro w H
     refine WA.conf (c := 17) [(47, Value.agg (List.map encS n33).toArray, []), (48, I n1, []), (49, S a35, [0, 1]), (50, S s36, [2]), (51, ptr b1 2, []), (52, I p0.2.2.1, [4]), (53, S s37, [5]), (54, Value.agg (List.map encS n39).toArray, []), (55, ptr b1 1, []), (56, I p0.2.1, [8]), (57, I n41, [9]), (58, S a42, [7, 10]), (59, ptr b1 0, []), (60, I p0.1, [12]), (61, S s43, [13]), (62, S s32, []), (63, S s22, [])] rfl rfl (by kernel_rfl) rfl rfl H ⟨⟨_, rfl, fun E w M H hle Qk kk => ?_⟩, ⟨_, rfl, fun E w M H hle Qk kk => ?_⟩, ⟨_, rfl, fun E w M H hle Qk kk => ?_⟩, ⟨_, rfl, fun E w M H hle Qk kk => ?_⟩, ⟨_, rfl, fun E w M H hle Qk kk => ?_⟩, ⟨_, rfl, fun E w M H hle Qk kk => ?_⟩, ⟨_, rfl, fun E w M H hle Qk kk => ?_⟩, ⟨_, rfl, fun E w M H hle Qk kk => ?_⟩, ⟨_, rfl, fun E w M H hle Qk kk => ?_⟩, ⟨_, rfl, fun E w M H hle Qk kk => ?_⟩, ⟨_, rfl, fun E w M H hle Qk kk => ?_⟩, ⟨_, rfl, fun E w M H hle Qk kk => ?_⟩, ⟨_, rfl, fun E w M H hle Qk kk => ?_⟩, ⟨_, rfl, fun E w M H hle Qk kk => ?_⟩, ⟨_, rfl, fun E w M H hle Qk kk => ?_⟩, ⟨_, rfl, fun E w M H hle Qk kk => ?_⟩, ⟨_, rfl, fun E w M H hle Qk kk => ?_⟩, trivial⟩ ?_
     ·
      have hg_pow10 := hg_pow10.mono hle
      refine WR.call H (dates_weekdays_ct hx34) rfl trivial (Wn.none rfl) rfl ?_
      intro v47 M w H hle hR
      replace hg_pow10 := hg_pow10.mono hle
      obtain rfl := hR
      exact WR.nil (kk _ _ H hle)
     ·
      have hg_pow10 := hg_pow10.mono hle
      refine WR.step (Ex.move rfl) (Wn.none rfl) rfl rfl ?_
      exact WR.nil (kk _ _ H (Mem.le.refl _))
     ·
      have hg_pow10 := hg_pow10.mono hle
      refine WR.step (Ex.idxAggA (l := n33) Tryz.underlying55 Tryz.sizeOf9 Tryz.isAgg9 rfl rfl hxa35) (Wn.none rfl) rfl rfl ?_
      exact WR.nil (kk _ _ H (Mem.le.refl _))
     ·
      have hg_pow10 := hg_pow10.mono hle
      refine WR.step (Ex.strAddC rfl rfl hxs36) (Wn.none rfl) rfl rfl ?_
      exact WR.nil (kk _ _ H (Mem.le.refl _))
     ·
      have hg_pow10 := hg_pow10.mono hle
      refine WR.step (Ex.fieldAddr Tryz.underlying23 rfl Tryz.sizeOf3 (by decide) rfl) (Wn.none rfl) rfl rfl ?_
      exact WR.nil (kk _ _ H (Mem.le.refl _))
     ·
      have hg_pow10 := hg_pow10.mono hle
      refine WR.step (Ex.load1 H rfl (by repeat (first | exact List.Mem.head _ | apply List.Mem.tail)) Tryz.isAgg3 (by rfl)) (Wn.none rfl) rfl rfl ?_
      exact WR.nil (kk _ _ H (Mem.le.refl _))
     ·
      have hg_pow10 := hg_pow10.mono hle
      refine WR.call H (dates_pad_ct hx38) rfl (hg_pow10) (Wn.none rfl) rfl ?_
      intro v53 M w H hle hR
      replace hg_pow10 := hg_pow10.mono hle
      obtain rfl := hR
      exact WR.nil (kk _ _ H hle)
     ·
      have hg_pow10 := hg_pow10.mono hle
      refine WR.call H (dates_months_ct hx40) rfl trivial (Wn.none rfl) rfl ?_
      intro v54 M w H hle hR
      replace hg_pow10 := hg_pow10.mono hle
      obtain rfl := hR
      exact WR.nil (kk _ _ H hle)
     ·
      have hg_pow10 := hg_pow10.mono hle
      refine WR.step (Ex.fieldAddr Tryz.underlying23 rfl Tryz.sizeOf3 (by decide) rfl) (Wn.none rfl) rfl rfl ?_
      exact WR.nil (kk _ _ H (Mem.le.refl _))
     ·
      have hg_pow10 := hg_pow10.mono hle
      refine WR.step (Ex.load1 H rfl (by repeat (first | exact List.Mem.head _ | apply List.Mem.tail)) Tryz.isAgg3 (by rfl)) (Wn.none rfl) rfl rfl ?_
      exact WR.nil (kk _ _ H (Mem.le.refl _))
     ·
      have hg_pow10 := hg_pow10.mono hle
      refine WR.step (Ex.subC rfl rfl hxn41) (Wn.none rfl) rfl rfl ?_
      exact WR.nil (kk _ _ H (Mem.le.refl _))
     ·
      have hg_pow10 := hg_pow10.mono hle
      refine WR.step (Ex.idxAggA (l := n39) Tryz.underlying57 Tryz.sizeOf9 Tryz.isAgg9 rfl rfl hxa42) (Wn.none rfl) rfl rfl ?_
      exact WR.nil (kk _ _ H (Mem.le.refl _))
     ·
      have hg_pow10 := hg_pow10.mono hle
      refine WR.step (Ex.fieldAddr Tryz.underlying23 rfl Tryz.sizeOf3 (by decide) rfl) (Wn.none rfl) rfl rfl ?_
      exact WR.nil (kk _ _ H (Mem.le.refl _))
     ·
      have hg_pow10 := hg_pow10.mono hle
      refine WR.step (Ex.load1 H rfl (by repeat (first | exact List.Mem.head _ | apply List.Mem.tail)) Tryz.isAgg3 (by rfl)) (Wn.none rfl) rfl rfl ?_
      exact WR.nil (kk _ _ H (Mem.le.refl _))
     ·
      have hg_pow10 := hg_pow10.mono hle
      refine WR.call H (dates_pad_ct hx44) rfl (hg_pow10) (Wn.none rfl) rfl ?_
      intro v61 M w H hle hR
      replace hg_pow10 := hg_pow10.mono hle
      obtain rfl := hR
      exact WR.nil (kk _ _ H hle)
     ·
      have hg_pow10 := hg_pow10.mono hle
      refine WR.step (Ex.move rfl) (Wn.none rfl) rfl rfl ?_
      exact WR.nil (kk _ _ H (Mem.le.refl _))
     ·
      have hg_pow10 := hg_pow10.mono hle
      refine WR.step (Ex.move rfl) (Wn.none rfl) rfl rfl ?_
      exact WR.nil (kk _ _ H (Mem.le.refl _))
     ·
      intro w M H hle
      replace hg_pow10 := hg_pow10.mono hle
      refine WA.seq (fuel := 0) [17, 18, 19, 20, 21] rfl (by kernel_rfl) ?_
      refine WR.lit (enc := encS) xty59 ([s36, s37, a42, s43, s32, s22] : List (List UInt8)) H rfl (by rfl) (fun _ => rfl) rfl rfl (Wn.none rfl) rfl ?_
      intro v64 M w H hle hs64
      replace hg_pow10 := hg_pow10.mono hle
      refine WR.call H (strings_Join_ct hx46) rfl (hs64) (Wn.none rfl) rfl ?_
      intro v65 M w H hle hR
      replace hg_pow10 := hg_pow10.mono hle
      replace hs64 := hs64.mono hle
      obtain rfl := hR
      refine WR.call H (basic_None_ct hx49) rfl trivial (Wn.none rfl) rfl ?_
      intro v66 M w H hle hR
      replace hg_pow10 := hg_pow10.mono hle
      replace hs64 := hs64.mono hle
      try dsimp only at hR
      obtain rfl := hR
      refine WR.step (Ex.assign rfl) (Wn.none rfl) rfl rfl ?_
      refine WR.store [_, _] H rfl rfl rfl (by repeat (first | exact Upd.head | apply Upd.tail)) Tryz.sizeOf26 rfl (by rfl) (by rfl) (Wn.none rfl) ?_
      intro w H
      refine WR.nil (WQ.any ?_)
      refine WA.done (by kernel_rfl) ?_
      refine WQ.then ?_
      refine WC.ret ?_
      (repeat (first | refine WQ.thenRet ?_ | refine WQ.inBlockRet ?_ | refine WQ.cutRet ?_ | refine WQ.scRet ?_))
      obtain rfl := Option.some.inj h
      exact WQ.ret2 rfl rfl ⟨_, rfl, H.loadAgg (by repeat (first | exact List.Mem.head _ | apply List.Mem.tail)) Tryz.isAgg26 Tryz.sizeOf26 (by rfl)⟩ H.ext rfl
theorem strings_FieldsFunc_ct {p0 : List UInt8} {p1 : (Int → Option Bool)} {vp1 : Value} {r : List (List UInt8)} (h : strings_FieldsFunc p0 p1 = some r) : Ct Tryz.prog 37 [S p0, vp1] (fun M => FnT61 M vp1 p1) (fun v M => Sl M encS v r) := by
  refine Ct.of Tryz.func37 (enters Tryz.func37 (by kernel_rfl) rfl) rfl rfl rfl ?_
  intro w0 M0 H hp
  have hp1 := hp
  unfold strings_FieldsFunc at h
  refine WC.seq ?_
  refine WC.region ?_
  refine WR.step (Ex.assign rfl) (Wn.none rfl) rfl rfl ?_
  refine WR.nil ?_
  refine WQ.then ?_
  refine WC.seq ?_
  obtain ⟨l1, hxl1, h⟩ := bnd h
  refine WC.region ?_
  refine WR.mkSC (enc := xenc81) (z0 := ((0, 0) : (Int × Int))) xty79 rfl H rfl rfl hxl1 (Wn.none rfl) rfl ?_
  intro v12 w H
  refine WR.step (Ex.assign rfl) (Wn.none rfl) rfl rfl ?_
  refine WR.nil ?_
  refine WQ.then ?_
  refine WC.seq ?_
  refine WC.region ?_
  refine WR.step (Ex.assign rfl) (Wn.none rfl) rfl rfl ?_
  refine WR.nil ?_
  refine WQ.then ?_
  refine WC.seq ?_
  refine WC.seq ?_
  refine WC.region ?_
  refine WR.step (Ex.move rfl) (Wn.none rfl) rfl rfl ?_
  refine WR.rangeStr H Tryz.underlying9 rfl (Wn.none rfl) rfl ?_
  intro b14 w H
  refine WR.nil ?_
  refine WQ.then ?_
  obtain ⟨o3, e4, h⟩ := bnd h
  refine WC.cutX (fun e w => ∃ (l6 : List (Int × Int)) (v7 : Value) (n8 : Int) (M : Mem), e = [(0, S p0), (5, v7), (6, I n8)] ∧ St w0 M0 M [RowS 81 2 xenc81 v7 l6] w ∧ some (l6, n8) = some o3) [] ?_ ?_ (trivial)
  ·
   refine WC.block ?_
   refine WC.loopP (fun m e w => ∃ (l10 : List (Int × Int)) (v11 : Value) (n12 : Int) (ps13 : Nat) (M : Mem), e = [(0, S p0), (1, vp1), (5, v11), (6, I n12), (14, ptr b14 0)] ∧ St w0 M0 M [RowS 81 2 xenc81 v11 l10, .blk b14 (.stringIter ⟨((p0) : List UInt8).toArray⟩ ps13)] w ∧ FnT61 M vp1 p1 ∧ strings_FieldsFunc_L1 p0 p1 m l10 n12 ps13 = some o3) FU [(0, _), (1, _), (5, _), (6, _), (14, _)] ⟨rfl, rfl, rfl, rfl, rfl, trivial⟩ ⟨_, _, _, _, _, rfl, (H.pick (L' := [RowS 81 2 xenc81 v12 l1, .blk b14 (.stringIter ⟨((p0) : List UInt8).toArray⟩ 0)]) (by repeat (first | exact Pick.nil | refine Pick.cons (by repeat (first | exact Rem.head | apply Rem.tail)) ?_))), hp1, e4⟩ ?_
   rintro m14 e w ⟨l10, v11, n12, ps13, M, rfl, H, hp1, e4⟩
   rcases m14 with _ | m14
   · rw [strings_FieldsFunc_L1] at e4; cases e4
   rw [strings_FieldsFunc_L1] at e4
   refine WC.seq ?_
   by_cases hk15 : ps13 < p0.length
   ·
    rw [if_pos hk15] at e4
    refine WC.region ?_
    refine WR.nextT H hk15 rfl (by repeat (first | exact Upd.head | apply Upd.tail)) (Wn.none rfl) rfl ?_
    intro w H
    refine WR.step (Ex.extract rfl rfl) (Wn.none rfl) rfl rfl ?_
    refine WR.nil ?_
    refine WQ.then ?_
    refine WC.seq ?_
    refine WC.condT rfl ?_
    refine WC.skip ?_
    refine WQ.then ?_
    refine WC.block ?_
    refine WC.seq ?_
    refine WC.region ?_
    refine WR.step (Ex.extract rfl rfl) (Wn.none rfl) rfl rfl ?_
    refine WR.step (Ex.extract rfl rfl) (Wn.none rfl) rfl rfl ?_
    refine WR.step (Ex.assign rfl) (Wn.none rfl) rfl rfl ?_
    refine WR.step (Ex.assign rfl) (Wn.none rfl) rfl rfl ?_
    refine WR.nil ?_
    refine WQ.then ?_
    refine WC.seq ?_
    obtain ⟨b16, hx17, e4⟩ := bnd e4
    refine WC.region ?_
    refine WR.step (Ex.move rfl) (Wn.none rfl) rfl rfl ?_
    refine WR.step (Ex.move rfl) (Wn.none rfl) rfl rfl ?_
    refine WR.callF H (hp1 _ _ hx17) rfl rfl (Wn.none rfl) rfl ?_
    intro v21 M w H hle hR
    replace hp1 := hp1.mono hle
    obtain rfl := hR
    refine WR.nil ?_
    refine WQ.then ?_
    refine WC.condB rfl (fun hk18 => ?_) (fun hk18 => ?_)
    ·
     subst hk18
     rw [if_pos rfl] at e4
     refine WC.seq ?_
     refine WC.region ?_
     refine WR.step (Ex.move rfl) (Wn.none rfl) rfl rfl ?_
     refine WR.step (Ex.geq rfl rfl) (Wn.none rfl) rfl rfl ?_
     refine WR.nil ?_
     refine WQ.then ?_
     refine WC.condB rfl (fun hk19 => ?_) (fun hk19 => ?_)
     ·
      replace hk19 : (0 : Int) ≤ n12 := of_decide_eq_true hk19
      rw [if_pos hk19] at e4
      refine WC.seq ?_
      obtain ⟨l20, hxl20, e4⟩ := bnd e4
      refine WC.region ?_
      refine WR.step (Ex.move rfl) (Wn.none rfl) rfl rfl ?_
      refine WR.step (Ex.move rfl) (Wn.none rfl) rfl rfl ?_
      refine WR.step (Ex.move rfl) (Wn.none rfl) rfl rfl ?_
      refine WR.step (Ex.build [I n12, I (ps13 : Int)] Tryz.underlying81 Tryz.zeroValue81 (xplaces81 Tryz.underlying81) rfl rfl) (Wn.none rfl) rfl rfl ?_
      refine WR.litS (enc := xenc81) xty79 ([(n12, (ps13 : Int))] : List (Int × Int)) H (fun _ => rfl) rfl (by kernel_rfl) rfl rfl rfl (Wn.none rfl) rfl ?_
      intro v28 M w H hle hs28
      replace hp1 := hp1.mono hle
      refine WR.appSC (l := l10) xty79 rfl xone81 H rfl (fun _ => by repeat (first | exact Upd.head | apply Upd.tail)) rfl (hs28) hxl20 (Wn.none rfl) rfl ?_
      intro v29 w H
      refine WR.step (Ex.assign rfl) (Wn.none rfl) rfl rfl ?_
      refine WR.nil ?_
      refine WQ.then ?_
      obtain ⟨n21, hxn21, e4⟩ := bnd e4
      refine WC.region ?_
      refine WR.step (Ex.move rfl) (Wn.none rfl) rfl rfl ?_
      refine WR.step (Ex.xorC rfl hxn21) (Wn.none rfl) rfl rfl ?_
      refine WR.step (Ex.assign rfl) (Wn.none rfl) rfl rfl ?_
      refine WR.nil ?_
      refine WQ.inBlock ?_
      exact WQ.againP m14 [(0, _), (1, _), (5, _), (6, _), (14, _)] ⟨rfl, rfl, rfl, rfl, rfl, trivial⟩ ⟨_, _, _, _, _, rfl, H, hp1, e4⟩ (Nat.lt_succ_self _)
     ·
      replace hk19 : ¬ ((0 : Int) ≤ n12) := of_decide_eq_false hk19
      rw [if_neg hk19] at e4
      refine WC.skip ?_
      refine WQ.inBlock ?_
      exact WQ.againP m14 [(0, _), (1, _), (5, _), (6, _), (14, _)] ⟨rfl, rfl, rfl, rfl, rfl, trivial⟩ ⟨_, _, _, _, _, rfl, H, hp1, e4⟩ (Nat.lt_succ_self _)
    ·
     subst hk18
     rw [if_neg Bool.false_ne_true] at e4
     refine WC.seq ?_
     refine WC.region ?_
     refine WR.step (Ex.move rfl) (Wn.none rfl) rfl rfl ?_
     refine WR.step (Ex.lss rfl rfl) (Wn.none rfl) rfl rfl ?_
     refine WR.nil ?_
     refine WQ.then ?_
     refine WC.condB rfl (fun hk22 => ?_) (fun hk22 => ?_)
     ·
      replace hk22 : n12 < (0 : Int) := of_decide_eq_true hk22
      rw [if_pos hk22] at e4
      refine WC.region ?_
      refine WR.step (Ex.move rfl) (Wn.none rfl) rfl rfl ?_
      refine WR.step (Ex.assign rfl) (Wn.none rfl) rfl rfl ?_
      refine WR.nil ?_
      refine WQ.inBlock ?_
      exact WQ.againP m14 [(0, _), (1, _), (5, _), (6, _), (14, _)] ⟨rfl, rfl, rfl, rfl, rfl, trivial⟩ ⟨_, _, _, _, _, rfl, H, hp1, e4⟩ (Nat.lt_succ_self _)
     ·
      replace hk22 : ¬ (n12 < (0 : Int)) := of_decide_eq_false hk22
      rw [if_neg hk22] at e4
      refine WC.skip ?_
      refine WQ.inBlock ?_
      exact WQ.againP m14 [(0, _), (1, _), (5, _), (6, _), (14, _)] ⟨rfl, rfl, rfl, rfl, rfl, trivial⟩ ⟨_, _, _, _, _, rfl, H, hp1, e4⟩ (Nat.lt_succ_self _)
   ·
    rw [if_neg hk15] at e4
    refine WC.region ?_
    refine WR.nextF H (Nat.le_of_not_lt hk15) rfl (by repeat (first | exact List.Mem.head _ | apply List.Mem.tail)) (Wn.none rfl) rfl ?_
    refine WR.step (Ex.extract rfl rfl) (Wn.none rfl) rfl rfl ?_
    refine WR.nil ?_
    refine WQ.then ?_
    refine WC.seq ?_
    refine WC.condF rfl ?_
    refine WC.exit ?_
    refine WQ.thenExit ?_
    refine WQ.thenExit ?_
    refine WQ.exitHere ?_
    exact WQ.meetN [(0, _), (5, _), (6, _)] ⟨rfl, rfl, rfl, trivial⟩ ⟨_, _, _, _, rfl, (H.pick (L' := [RowS 81 2 xenc81 v11 l10]) (by repeat (first | exact Pick.nil | refine Pick.cons (by repeat (first | exact Rem.head | apply Rem.tail)) ?_))), e4⟩
  ·
   rintro e w ⟨l6, v7, n8, M, rfl, H, q23⟩
   obtain rfl := Option.some.inj q23
   try dsimp only at h
   refine WQ.then ?_
   refine WC.seq ?_
   refine WC.seq ?_
   refine WC.region ?_
   refine WR.step (Ex.move rfl) (Wn.none rfl) rfl rfl ?_
   refine WR.step (Ex.geq rfl rfl) (Wn.none rfl) rfl rfl ?_
   refine WR.nil ?_
   refine WQ.then ?_
   obtain ⟨o24, e25, h⟩ := bnd h
   refine WC.cutX (fun e w => ∃ (l27 : List (Int × Int)) (v28 : Value) (M : Mem), e = [(0, S p0), (5, v28)] ∧ St w0 M0 M [RowS 81 2 xenc81 v28 l27] w ∧ some l27 = some o24) [] ?_ ?_ (trivial)
   ·
    refine WC.condB rfl (fun hk29 => ?_) (fun hk29 => ?_)
    ·
     replace hk29 : (0 : Int) ≤ n8 := of_decide_eq_true hk29
     rw [if_pos hk29] at e25
     obtain ⟨l30, hxl30, e25⟩ := bnd e25
     refine WC.region ?_
     refine WR.step (Ex.move rfl) (Wn.none rfl) rfl rfl ?_
     refine WR.step (Ex.move rfl) (Wn.none rfl) rfl rfl ?_
     refine WR.step (Ex.move rfl) (Wn.none rfl) rfl rfl ?_
     refine WR.step (Ex.lenStr Tryz.underlying9 rfl) (Wn.none rfl) rfl rfl ?_
     refine WR.step (Ex.build [I n8, I (p0.length : Int)] Tryz.underlying81 Tryz.zeroValue81 (xplaces81 Tryz.underlying81) rfl rfl) (Wn.none rfl) rfl rfl ?_
     refine WR.litS (enc := xenc81) xty79 ([(n8, (p0.length : Int))] : List (Int × Int)) H (fun _ => rfl) rfl (by kernel_rfl) rfl rfl rfl (Wn.none rfl) rfl ?_
     intro v42 M w H hle hs42
     refine WR.appSC (l := l6) xty79 rfl xone81 H rfl (fun _ => by repeat (first | exact Upd.head | apply Upd.tail)) rfl (hs42) hxl30 (Wn.none rfl) rfl ?_
     intro v43 w H
     refine WR.step (Ex.assign rfl) (Wn.none rfl) rfl rfl ?_
     refine WR.nil ?_
     exact WQ.meetN [(0, _), (5, _)] ⟨rfl, rfl, trivial⟩ ⟨_, _, _, rfl, H, e25⟩
    ·
     replace hk29 : ¬ ((0 : Int) ≤ n8) := of_decide_eq_false hk29
     rw [if_neg hk29] at e25
     refine WC.skip ?_
     exact WQ.meetN [(0, _), (5, _)] ⟨rfl, rfl, trivial⟩ ⟨_, _, _, rfl, H, e25⟩
   ·
    rintro e w ⟨l27, v28, M, rfl, H, q31⟩
    obtain rfl := Option.some.inj q31
    refine WQ.then ?_
    refine WC.seq ?_
    obtain ⟨l32, hxl32, h⟩ := bnd h
    refine WC.region ?_
    refine WR.step (Ex.move rfl) (Wn.none rfl) rfl rfl ?_
    refine WR.step (Ex.lenRowS (l := l27) Tryz.underlying79 H (by repeat (first | exact List.Mem.head _ | apply List.Mem.tail)) rfl) (Wn.none rfl) rfl rfl ?_
    refine WR.mkC (enc := encS) (z0 := ([] : List UInt8)) xty59 rfl H rfl rfl hxl32 (Wn.none rfl) rfl ?_
    intro v46 w H
    refine WR.step (Ex.assign rfl) (Wn.none rfl) rfl rfl ?_
    refine WR.nil ?_
    refine WQ.then ?_
    refine WC.seq ?_
    refine WC.seq ?_
    refine WC.region ?_
    refine WR.step (Ex.move rfl) (Wn.none rfl) rfl rfl ?_
    refine WR.step (Ex.lenRowS (l := l27) Tryz.underlying79 H (by repeat (first | exact List.Mem.head _ | apply List.Mem.tail)) rfl) (Wn.none rfl) rfl rfl ?_
    refine WR.step (Ex.move rfl) (Wn.none rfl) rfl rfl ?_
    refine WR.nil ?_
    refine WQ.then ?_
    obtain ⟨o34, e35, h⟩ := bnd h
    refine WC.cutX (fun e w => ∃ (l36 : List (List UInt8)) (M : Mem), e = [(9, v46)] ∧ St w0 M0 M [RowI 9 encS v46 l36] w ∧ some l36 = some o34) [] ?_ ?_ (trivial)
    ·
     refine WC.block ?_
     refine WC.loopP (fun m e w => ∃ (l37 : List (List UInt8)) (n38 : Int) (M : Mem), e = [(0, S p0), (9, v46), (47, v28), (48, I (l27.length : Int)), (49, I n38)] ∧ St w0 M0 M [RowI 9 encS v46 l37, RowS 81 2 xenc81 v28 l27] w ∧ strings_FieldsFunc_L2 p0 l27 m l37 n38 = some o34) FU [(0, _), (9, _), (47, _), (48, _), (49, _)] ⟨rfl, rfl, rfl, rfl, rfl, trivial⟩ ⟨_, _, _, rfl, H, e35⟩ ?_
     rintro m39 e w ⟨l37, n38, M, rfl, H, e35⟩
     rcases m39 with _ | m39
     · rw [strings_FieldsFunc_L2] at e35; cases e35
     rw [strings_FieldsFunc_L2] at e35
     refine WC.seq ?_
     refine WC.region ?_
     refine WR.step (Ex.lss rfl rfl) (Wn.none rfl) rfl rfl ?_
     refine WR.nil ?_
     refine WQ.then ?_
     refine WC.seq ?_
     refine WC.condB rfl (fun hk40 => ?_) (fun hk40 => ?_)
     ·
      replace hk40 : n38 < (l27.length : Int) := of_decide_eq_true hk40
      rw [if_pos hk40] at e35
      refine WC.skip ?_
      refine WQ.then ?_
      refine WC.seq ?_
      refine WC.block ?_
      refine WC.seq ?_
      obtain ⟨a41, hxa41, e35⟩ := bnd e35
      refine WC.region ?_
      refine WR.step (Ex.move rfl) (Wn.none rfl) rfl rfl ?_
      refine WR.idxRowSC (l := l27) H Tryz.underlying79 Tryz.sizeOf81 (by repeat (first | exact List.Mem.head _ | apply List.Mem.tail)) rfl rfl hxa41 (Wn.none rfl) rfl ?_
      intro g52 hg52
      refine WR.step (Ex.loadRowA H rfl hg52 (by repeat (first | exact List.Mem.head _ | apply List.Mem.tail)) (fun _ => rfl) hxa41 Tryz.isAgg81 Tryz.sizeOf81) (Wn.none rfl) rfl rfl ?_
      refine WR.alloc [_, _] H Tryz.zeroValue81 rfl (Wn.none rfl) rfl ?_
      intro b11 w H
      refine WR.step (Ex.assign rfl) (Wn.none rfl) rfl rfl ?_
      refine WR.store [_, _] H rfl rfl rfl (by repeat (first | exact Upd.head | apply Upd.tail)) Tryz.sizeOf81 rfl (by rfl) (by rfl) (Wn.none rfl) ?_
      intro w H
      refine WR.nil ?_
      refine WQ.then ?_
      obtain ⟨s42, hxs42, e35⟩ := bnd e35
      obtain ⟨a43, hxa43, e35⟩ := bnd e35
      obtain ⟨l44, hxl44, e35⟩ := bnd e35
      refine WC.region ?_
      refine WR.step (Ex.move rfl) (Wn.none rfl) rfl rfl ?_
      refine WR.step (Ex.move rfl) (Wn.none rfl) rfl rfl ?_
      refine WR.step (Ex.move rfl) (Wn.none rfl) rfl rfl ?_
      refine WR.step (Ex.fieldAddr Tryz.underlying81 rfl Tryz.sizeOf3 (by decide) rfl) (Wn.none rfl) rfl rfl ?_
      refine WR.step (Ex.load1 H rfl (by repeat (first | exact List.Mem.head _ | apply List.Mem.tail)) Tryz.isAgg3 (by rfl)) (Wn.none rfl) rfl rfl ?_
      refine WR.step (Ex.fieldAddr Tryz.underlying81 rfl Tryz.sizeOf3 (by decide) rfl) (Wn.none rfl) rfl rfl ?_
      refine WR.step (Ex.load1 H rfl (by repeat (first | exact List.Mem.head _ | apply List.Mem.tail)) Tryz.isAgg3 (by rfl)) (Wn.none rfl) rfl rfl ?_
      refine WR.step (Ex.sliceC Tryz.underlying9 rfl rfl rfl hxs42) (Wn.none rfl) rfl rfl ?_
      refine WR.idxRowC (l := l37) H Tryz.underlying59 Tryz.sizeOf9 (by repeat (first | exact List.Mem.head _ | apply List.Mem.tail)) rfl rfl hxa43 (Wn.none rfl) rfl ?_
      intro g62 hg62
      refine WR.storeRowC (a := s42) H rfl rfl ⟨rfl, rfl⟩ hg62 (fun _ => by repeat (first | exact Upd.head | apply Upd.tail)) hxl44 Tryz.sizeOf9 (Wn.none rfl) ?_
      intro w H
      refine WR.nil ?_
      refine WQ.inBlock ?_
      refine WQ.then ?_
      obtain ⟨n45, hxn45, e35⟩ := bnd e35
      refine WC.region ?_
      refine WR.step (Ex.addC rfl rfl hxn45) (Wn.none rfl) rfl rfl ?_
      refine WR.step (Ex.move rfl) (Wn.none rfl) rfl rfl ?_
      refine WR.nil ?_
      exact WQ.againP m39 [(0, _), (9, _), (47, _), (48, _), (49, _)] ⟨rfl, rfl, rfl, rfl, rfl, trivial⟩ ⟨_, _, _, rfl, (H.pick (L' := [RowI 9 encS v46 l44, RowS 81 2 xenc81 v28 l27]) (by repeat (first | exact Pick.nil | refine Pick.cons (by repeat (first | exact Rem.head | apply Rem.tail)) ?_))), e35⟩ (Nat.lt_succ_self _)
     ·
      replace hk40 : ¬ (n38 < (l27.length : Int)) := of_decide_eq_false hk40
      rw [if_neg hk40] at e35
      refine WC.exit ?_
      refine WQ.thenExit ?_
      refine WQ.thenExit ?_
      refine WQ.exitHere ?_
      exact WQ.meetN [(9, _)] ⟨rfl, trivial⟩ ⟨_, _, rfl, (H.pick (L' := [RowI 9 encS v46 l37]) (by repeat (first | exact Pick.nil | refine Pick.cons (by repeat (first | exact Rem.head | apply Rem.tail)) ?_))), e35⟩
    ·
     rintro e w ⟨l36, M, rfl, H, q46⟩
     obtain rfl := Option.some.inj q46
     refine WQ.then ?_
     refine WC.seq ?_
     refine WC.region ?_
     refine WR.step (Ex.move rfl) (Wn.none rfl) rfl rfl ?_
     refine WR.step (Ex.assign rfl) (Wn.none rfl) rfl rfl ?_
     refine WR.nil ?_
     refine WQ.then ?_
     refine WC.ret ?_
     (repeat (first | refine WQ.thenRet ?_ | refine WQ.inBlockRet ?_ | refine WQ.cutRet ?_ | refine WQ.scRet ?_))
     obtain ⟨M, hle, hs47, H⟩ := H.freezeRow (v := v46) (enc := encS) (t := 9) (by repeat (first | exact Rem.head | apply Rem.tail))
     obtain rfl := Option.some.inj h
     exact WQ.ret1 rfl rfl H.ext hs47
theorem dates_Parse_1_ct {p0 : Int} {r : Bool} (h : dates_Parse_1 p0 = some r) : Ct Tryz.prog 38 [Value.int .i32 p0] (fun M => True) (fun v M => v = Value.bool r) := by
  refine Ct.of Tryz.func38 (enters Tryz.func38 (by kernel_rfl) rfl) rfl rfl rfl ?_
  intro w0 M0 H hp
  unfold dates_Parse_1 at h
  refine WC.seq ?_
  refine WC.region ?_
  refine WR.step (Ex.assign rfl) (Wn.none rfl) rfl rfl ?_
  refine WR.nil ?_
  refine WQ.then ?_
  refine WC.seq ?_
  obtain ⟨o1, e2, h⟩ := bnd h
  refine WC.cutX (fun e w => ∃ (b3 : Bool) (M : Mem), e = [(2, Value.bool b3)] ∧ St w0 M0 M [] w ∧ some b3 = some o1) [] ?_ ?_ (trivial)
  ·
   by_cases hk4 : p0 = (32 : Int)
   ·
    rw [if_pos hk4] at e2
    refine WC.region ?_
    refine WR.step (Ex.move rfl) (Wn.none rfl) rfl rfl ?_
    refine WR.stepE (v' := .bool true) (Ex.eql rfl rfl) (congrArg Value.bool (decide_eq_true hk4)) (Wn.none rfl) rfl rfl ?_
    refine WR.step (Ex.move rfl) (Wn.none rfl) rfl rfl ?_
    refine WR.skipG (b := true) rfl rfl rfl rfl rfl ?_
    refine WR.skipG (b := true) rfl rfl rfl rfl rfl ?_
    refine WR.step (Ex.pickT rfl rfl) (Wn.none rfl) rfl rfl ?_
    refine WR.step (Ex.assign rfl) (Wn.none rfl) rfl rfl ?_
    refine WR.nil ?_
    exact WQ.meetN [(2, _)] ⟨rfl, trivial⟩ ⟨_, _, rfl, H, e2⟩
   ·
    rw [if_neg hk4] at e2
    refine WC.region ?_
    refine WR.step (Ex.move rfl) (Wn.none rfl) rfl rfl ?_
    refine WR.stepE (v' := .bool false) (Ex.eql rfl rfl) (congrArg Value.bool (decide_eq_false hk4)) (Wn.none rfl) rfl rfl ?_
    refine WR.step (Ex.move rfl) (Wn.none rfl) rfl rfl ?_
    refine WR.step (Ex.move rfl) (Wn.some rfl rfl rfl) rfl rfl ?_
    refine WR.step (Ex.eql rfl rfl) (Wn.some rfl rfl rfl) rfl rfl ?_
    refine WR.step (Ex.pickF rfl rfl) (Wn.none rfl) rfl rfl ?_
    refine WR.step (Ex.assign rfl) (Wn.none rfl) rfl rfl ?_
    refine WR.nil ?_
    exact WQ.meetN [(2, _)] ⟨rfl, trivial⟩ ⟨_, _, rfl, H, e2⟩
  ·
   rintro e w ⟨b3, M, rfl, H, q5⟩
   obtain rfl := Option.some.inj q5
   refine WQ.then ?_
   refine WC.ret ?_
   (repeat (first | refine WQ.thenRet ?_ | refine WQ.inBlockRet ?_ | refine WQ.cutRet ?_ | refine WQ.scRet ?_))
   obtain rfl := Option.some.inj h
   exact WQ.ret1 rfl rfl H.ext rfl
theorem stringslite_HasSuffix_ct {p0 : List UInt8} {p1 : List UInt8} {r : Bool} (h : stringslite_HasSuffix p0 p1 = some r) : Ct Tryz.prog 68 [S p0, S p1] (fun M => True) (fun v M => v = Value.bool r) := by
  refine Ct.of Tryz.func68 (enters Tryz.func68 (by kernel_rfl) rfl) rfl rfl rfl ?_
  intro w0 M0 H hp
  unfold stringslite_HasSuffix at h
  refine WC.seq ?_
  refine WC.region ?_
  refine WR.step (Ex.assign rfl) (Wn.none rfl) rfl rfl ?_
  refine WR.nil ?_
  refine WQ.then ?_
  refine WC.seq ?_
  obtain ⟨o1, e2, h⟩ := bnd h
  refine WC.cutX (fun e w => ∃ (b3 : Bool) (M : Mem), e = [(4, Value.bool b3)] ∧ St w0 M0 M [] w ∧ some b3 = some o1) [] ?_ ?_ (trivial)
  ·
   refine WC.region ?_
   refine WR.step (Ex.move rfl) (Wn.none rfl) rfl rfl ?_
   refine WR.step (Ex.lenStr Tryz.underlying9 rfl) (Wn.none rfl) rfl rfl ?_
   refine WR.step (Ex.move rfl) (Wn.none rfl) rfl rfl ?_
   refine WR.step (Ex.lenStr Tryz.underlying9 rfl) (Wn.none rfl) rfl rfl ?_
   by_cases hk4 : (p1.length : Int) ≤ (p0.length : Int)
   ·
    rw [if_pos hk4] at e2
    obtain ⟨n5, hxn5, e2⟩ := bnd e2
    obtain ⟨s6, hxs6, e2⟩ := bnd e2
    refine WR.stepE (v' := .bool true) (Ex.geq rfl rfl) (congrArg Value.bool (decide_eq_true hk4)) (Wn.none rfl) rfl rfl ?_
    refine WR.step (Ex.move rfl) (Wn.none rfl) rfl rfl ?_
    refine WR.step (Ex.move rfl) (Wn.some rfl rfl rfl) rfl rfl ?_
    refine WR.step (Ex.move rfl) (Wn.some rfl rfl rfl) rfl rfl ?_
    refine WR.step (Ex.lenStr Tryz.underlying9 rfl) (Wn.some rfl rfl rfl) rfl rfl ?_
    refine WR.step (Ex.move rfl) (Wn.some rfl rfl rfl) rfl rfl ?_
    refine WR.step (Ex.lenStr Tryz.underlying9 rfl) (Wn.some rfl rfl rfl) rfl rfl ?_
    refine WR.step (Ex.subC rfl rfl hxn5) (Wn.some rfl rfl rfl) rfl rfl ?_
    refine WR.step (Ex.sliceL Tryz.underlying9 rfl rfl hxs6) (Wn.some rfl rfl rfl) rfl rfl ?_
    refine WR.step (Ex.move rfl) (Wn.some rfl rfl rfl) rfl rfl ?_
    refine WR.step (Ex.strEql rfl rfl) (Wn.some rfl rfl rfl) rfl rfl ?_
    refine WR.step (Ex.pickT rfl rfl) (Wn.none rfl) rfl rfl ?_
    refine WR.step (Ex.assign rfl) (Wn.none rfl) rfl rfl ?_
    refine WR.nil ?_
    exact WQ.meetN [(4, _)] ⟨rfl, trivial⟩ ⟨_, _, rfl, H, e2⟩
   ·
    rw [if_neg hk4] at e2
    refine WR.stepE (v' := .bool false) (Ex.geq rfl rfl) (congrArg Value.bool (decide_eq_false hk4)) (Wn.none rfl) rfl rfl ?_
    refine WR.step (Ex.move rfl) (Wn.none rfl) rfl rfl ?_
    refine WR.skipN 9 rfl rfl ?_
    refine WR.step (Ex.pickF rfl rfl) (Wn.none rfl) rfl rfl ?_
    refine WR.step (Ex.assign rfl) (Wn.none rfl) rfl rfl ?_
    refine WR.nil ?_
    exact WQ.meetN [(4, _)] ⟨rfl, trivial⟩ ⟨_, _, rfl, H, e2⟩
  ·
   rintro e w ⟨b3, M, rfl, H, q7⟩
   obtain rfl := Option.some.inj q7
   refine WQ.then ?_
   refine WC.ret ?_
   (repeat (first | refine WQ.thenRet ?_ | refine WQ.inBlockRet ?_ | refine WQ.cutRet ?_ | refine WQ.scRet ?_))
   obtain rfl := Option.some.inj h
   exact WQ.ret1 rfl rfl H.ext rfl
theorem strings_HasSuffix_ct {p0 : List UInt8} {p1 : List UInt8} {r : Bool} (h : strings_HasSuffix p0 p1 = some r) : Ct Tryz.prog 53 [S p0, S p1] (fun M => True) (fun v M => v = Value.bool r) := by
  refine Ct.of Tryz.func53 (enters Tryz.func53 (by kernel_rfl) rfl) rfl rfl rfl ?_
  intro w0 M0 H hp
  unfold strings_HasSuffix at h
  refine WC.seq ?_
  refine WC.region ?_
  refine WR.step (Ex.assign rfl) (Wn.none rfl) rfl rfl ?_
  refine WR.nil ?_
  refine WQ.then ?_
  refine WC.seq ?_
  obtain ⟨b1, hx2, h⟩ := bnd h
  refine WC.region ?_
  refine WR.step (Ex.move rfl) (Wn.none rfl) rfl rfl ?_
  refine WR.step (Ex.move rfl) (Wn.none rfl) rfl rfl ?_
  refine WR.call H (stringslite_HasSuffix_ct hx2) rfl trivial (Wn.none rfl) rfl ?_
  intro v7 M w H hle hR
  obtain rfl := hR
  refine WR.step (Ex.assign rfl) (Wn.none rfl) rfl rfl ?_
  refine WR.nil ?_
  refine WQ.then ?_
  refine WC.ret ?_
  (repeat (first | refine WQ.thenRet ?_ | refine WQ.inBlockRet ?_ | refine WQ.cutRet ?_ | refine WQ.scRet ?_))
  obtain rfl := Option.some.inj h
  exact WQ.ret1 rfl rfl H.ext rfl
theorem stringslite_TrimSuffix_ct {p0 : List UInt8} {p1 : List UInt8} {r : List UInt8} (h : stringslite_TrimSuffix p0 p1 = some r) : Ct Tryz.prog 69 [S p0, S p1] (fun M => True) (fun v M => v = S r) := by
  refine Ct.of Tryz.func69 (enters Tryz.func69 (by kernel_rfl) rfl) rfl rfl rfl ?_
  intro w0 M0 H hp
  unfold stringslite_TrimSuffix at h
  refine WC.seq ?_
  refine WC.region ?_
  refine WR.step (Ex.assign rfl) (Wn.none rfl) rfl rfl ?_
  refine WR.nil ?_
  refine WQ.then ?_
  refine WC.seq ?_
  refine WC.seq ?_
  obtain ⟨b1, hx2, h⟩ := bnd h
  refine WC.region ?_
  refine WR.step (Ex.move rfl) (Wn.none rfl) rfl rfl ?_
  refine WR.step (Ex.move rfl) (Wn.none rfl) rfl rfl ?_
  refine WR.call H (stringslite_HasSuffix_ct hx2) rfl trivial (Wn.none rfl) rfl ?_
  intro v7 M w H hle hR
  obtain rfl := hR
  refine WR.nil ?_
  refine WQ.then ?_
  refine WC.condB rfl (fun hk3 => ?_) (fun hk3 => ?_)
  ·
   subst hk3
   rw [if_pos rfl] at h
   refine WC.seq ?_
   obtain ⟨n4, hxn4, h⟩ := bnd h
   obtain ⟨s5, hxs5, h⟩ := bnd h
   refine WC.region ?_
   refine WR.step (Ex.move rfl) (Wn.none rfl) rfl rfl ?_
   refine WR.step (Ex.move rfl) (Wn.none rfl) rfl rfl ?_
   refine WR.step (Ex.lenStr Tryz.underlying9 rfl) (Wn.none rfl) rfl rfl ?_
   refine WR.step (Ex.move rfl) (Wn.none rfl) rfl rfl ?_
   refine WR.step (Ex.lenStr Tryz.underlying9 rfl) (Wn.none rfl) rfl rfl ?_
   refine WR.step (Ex.subC rfl rfl hxn4) (Wn.none rfl) rfl rfl ?_
   refine WR.step (Ex.sliceH Tryz.underlying9 rfl rfl hxs5) (Wn.none rfl) rfl rfl ?_
   refine WR.step (Ex.assign rfl) (Wn.none rfl) rfl rfl ?_
   refine WR.nil ?_
   refine WQ.then ?_
   refine WC.ret ?_
   (repeat (first | refine WQ.thenRet ?_ | refine WQ.inBlockRet ?_ | refine WQ.cutRet ?_ | refine WQ.scRet ?_))
   obtain rfl := Option.some.inj h
   exact WQ.ret1 rfl rfl H.ext rfl
  ·
   subst hk3
   rw [if_neg Bool.false_ne_true] at h
   refine WC.skip ?_
   refine WQ.then ?_
   refine WC.seq ?_
   refine WC.region ?_
   refine WR.step (Ex.move rfl) (Wn.none rfl) rfl rfl ?_
   refine WR.step (Ex.assign rfl) (Wn.none rfl) rfl rfl ?_
   refine WR.nil ?_
   refine WQ.then ?_
   refine WC.ret ?_
   (repeat (first | refine WQ.thenRet ?_ | refine WQ.inBlockRet ?_ | refine WQ.cutRet ?_ | refine WQ.scRet ?_))
   obtain rfl := Option.some.inj h
   exact WQ.ret1 rfl rfl H.ext rfl
theorem strings_TrimSuffix_ct {p0 : List UInt8} {p1 : List UInt8} {r : List UInt8} (h : strings_TrimSuffix p0 p1 = some r) : Ct Tryz.prog 55 [S p0, S p1] (fun M => True) (fun v M => v = S r) := by
  refine Ct.of Tryz.func55 (enters Tryz.func55 (by kernel_rfl) rfl) rfl rfl rfl ?_
  intro w0 M0 H hp
  unfold strings_TrimSuffix at h
  refine WC.seq ?_
  refine WC.region ?_
  refine WR.step (Ex.assign rfl) (Wn.none rfl) rfl rfl ?_
  refine WR.nil ?_
  refine WQ.then ?_
  refine WC.seq ?_
  obtain ⟨s1, hx2, h⟩ := bnd h
  refine WC.region ?_
  refine WR.step (Ex.move rfl) (Wn.none rfl) rfl rfl ?_
  refine WR.step (Ex.move rfl) (Wn.none rfl) rfl rfl ?_
  refine WR.call H (stringslite_TrimSuffix_ct hx2) rfl trivial (Wn.none rfl) rfl ?_
  intro v7 M w H hle hR
  obtain rfl := hR
  refine WR.step (Ex.assign rfl) (Wn.none rfl) rfl rfl ?_
  refine WR.nil ?_
  refine WQ.then ?_
  refine WC.ret ?_
  (repeat (first | refine WQ.thenRet ?_ | refine WQ.inBlockRet ?_ | refine WQ.cutRet ?_ | refine WQ.scRet ?_))
  obtain rfl := Option.some.inj h
  exact WQ.ret1 rfl rfl H.ext rfl
theorem slices_Index_string_string_ct {p0 : List (List UInt8)} {p1 : List UInt8} {vp0 : Value} {r : Int} (h : slices_Index_string_string p0 p1 = some r) : Ct Tryz.prog 57 [vp0, S p1] (fun M => Sl M encS vp0 p0) (fun v M => v = I r) := by
  refine Ct.of Tryz.func57 (enters Tryz.func57 (by kernel_rfl) rfl) rfl rfl rfl ?_
  intro w0 M0 H hp
  have hp0 := hp
  unfold slices_Index_string_string at h
  refine WC.seq ?_
  refine WC.region ?_
  refine WR.step (Ex.assign rfl) (Wn.none rfl) rfl rfl ?_
  refine WR.nil ?_
  refine WQ.then ?_
  refine WC.seq ?_
  refine WC.seq ?_
  refine WC.region ?_
  refine WR.step (Ex.move rfl) (Wn.none rfl) rfl rfl ?_
  refine WR.step (Ex.lenSl Tryz.underlying59 hp0 rfl) (Wn.none rfl) rfl rfl ?_
  refine WR.step (Ex.move rfl) (Wn.none rfl) rfl rfl ?_
  refine WR.nil ?_
  refine WQ.then ?_
  obtain ⟨o1, e2, h⟩ := bnd h
  refine WC.cutX (fun e w => ∃  (M : Mem), e = [] ∧ St w0 M0 M [] w ∧ some (.inl ()) = some o1) [] ?_ ?_ (trivial)
  ·
   refine WC.block ?_
   refine WC.loopP (fun m e w => ∃ (n3 : Int) (M : Mem), e = [(0, vp0), (1, S p1), (7, I (p0.length : Int)), (8, I n3)] ∧ St w0 M0 M [] w ∧ Sl M encS vp0 p0 ∧ slices_Index_string_string_L1 p0 p1 m n3 = some o1) FU [(0, _), (1, _), (7, _), (8, _)] ⟨rfl, rfl, rfl, rfl, trivial⟩ ⟨_, _, rfl, H, hp0, e2⟩ ?_
   rintro m4 e w ⟨n3, M, rfl, H, hp0, e2⟩
   rcases m4 with _ | m4
   · rw [slices_Index_string_string_L1] at e2; cases e2
   rw [slices_Index_string_string_L1] at e2
   refine WC.seq ?_
   refine WC.region ?_
   refine WR.step (Ex.lss rfl rfl) (Wn.none rfl) rfl rfl ?_
   refine WR.nil ?_
   refine WQ.then ?_
   refine WC.seq ?_
   refine WC.condB rfl (fun hk5 => ?_) (fun hk5 => ?_)
   ·
    replace hk5 : n3 < (p0.length : Int) := of_decide_eq_true hk5
    rw [if_pos hk5] at e2
    refine WC.skip ?_
    refine WQ.then ?_
    refine WC.seq ?_
    refine WC.block ?_
    refine WC.seq ?_
    refine WC.region ?_
    refine WR.step (Ex.move rfl) (Wn.none rfl) rfl rfl ?_
    refine WR.step (Ex.assign rfl) (Wn.none rfl) rfl rfl ?_
    refine WR.nil ?_
    refine WQ.then ?_
    refine WC.seq ?_
    obtain ⟨a6, hxa6, e2⟩ := bnd e2
    refine WC.region ?_
    refine WR.step (Ex.move rfl) (Wn.none rfl) rfl rfl ?_
    refine WR.step (Ex.move rfl) (Wn.none rfl) rfl rfl ?_
    refine WR.step (Ex.move rfl) (Wn.none rfl) rfl rfl ?_
    refine WR.idxC Tryz.underlying59 Tryz.sizeOf9 (hp0) rfl rfl hxa6 (Wn.none rfl) rfl ?_
    intro p14 hc14
    refine WR.step (Ex.loadM H rfl hc14 Tryz.isAgg9) (Wn.none rfl) rfl rfl ?_
    refine WR.step (Ex.strEql rfl rfl) (Wn.none rfl) rfl rfl ?_
    refine WR.nil ?_
    refine WQ.then ?_
    refine WC.condB rfl (fun hk7 => ?_) (fun hk7 => ?_)
    ·
     replace hk7 : p1 = a6 := of_decide_eq_true hk7
     rw [if_pos hk7] at e2
     refine WC.seq ?_
     refine WC.region ?_
     refine WR.step (Ex.move rfl) (Wn.none rfl) rfl rfl ?_
     refine WR.step (Ex.assign rfl) (Wn.none rfl) rfl rfl ?_
     refine WR.nil ?_
     refine WQ.then ?_
     refine WC.ret ?_
     (repeat (first | refine WQ.thenRet ?_ | refine WQ.inBlockRet ?_ | refine WQ.cutRet ?_ | refine WQ.scRet ?_))
     obtain rfl := Option.some.inj e2
     try dsimp only at h
     obtain rfl := Option.some.inj h
     exact WQ.ret1 rfl rfl H.ext rfl
    ·
     replace hk7 : ¬ (p1 = a6) := of_decide_eq_false hk7
     rw [if_neg hk7] at e2
     refine WC.skip ?_
     refine WQ.inBlock ?_
     refine WQ.then ?_
     obtain ⟨n8, hxn8, e2⟩ := bnd e2
     refine WC.region ?_
     refine WR.step (Ex.addC rfl rfl hxn8) (Wn.none rfl) rfl rfl ?_
     refine WR.step (Ex.move rfl) (Wn.none rfl) rfl rfl ?_
     refine WR.nil ?_
     exact WQ.againP m4 [(0, _), (1, _), (7, _), (8, _)] ⟨rfl, rfl, rfl, rfl, trivial⟩ ⟨_, _, rfl, H, hp0, e2⟩ (Nat.lt_succ_self _)
   ·
    replace hk5 : ¬ (n3 < (p0.length : Int)) := of_decide_eq_false hk5
    rw [if_neg hk5] at e2
    refine WC.exit ?_
    refine WQ.thenExit ?_
    refine WQ.thenExit ?_
    refine WQ.exitHere ?_
    exact WQ.meetN [] trivial ⟨_, rfl, H, e2⟩
  ·
   rintro e w ⟨M, rfl, H, q9⟩
   obtain rfl := Option.some.inj q9
   try dsimp only at h
   refine WQ.then ?_
   refine WC.seq ?_
   refine WC.region ?_
   refine WR.step (Ex.assign rfl) (Wn.none rfl) rfl rfl ?_
   refine WR.nil ?_
   refine WQ.then ?_
   refine WC.ret ?_
   (repeat (first | refine WQ.thenRet ?_ | refine WQ.inBlockRet ?_ | refine WQ.cutRet ?_ | refine WQ.scRet ?_))
   obtain rfl := Option.some.inj h
   exact WQ.ret1 rfl rfl H.ext rfl
theorem slices_Contains_string_string_ct {p0 : List (List UInt8)} {p1 : List UInt8} {vp0 : Value} {r : Bool} (h : slices_Contains_string_string p0 p1 = some r) : Ct Tryz.prog 54 [vp0, S p1] (fun M => Sl M encS vp0 p0) (fun v M => v = Value.bool r) := by
  refine Ct.of Tryz.func54 (enters Tryz.func54 (by kernel_rfl) rfl) rfl rfl rfl ?_
  intro w0 M0 H hp
  have hp0 := hp
  unfold slices_Contains_string_string at h
  refine WC.seq ?_
  refine WC.region ?_
  refine WR.step (Ex.assign rfl) (Wn.none rfl) rfl rfl ?_
  refine WR.nil ?_
  refine WQ.then ?_
  refine WC.seq ?_
  obtain ⟨n1, hx2, h⟩ := bnd h
  refine WC.region ?_
  refine WR.step (Ex.move rfl) (Wn.none rfl) rfl rfl ?_
  refine WR.step (Ex.move rfl) (Wn.none rfl) rfl rfl ?_
  refine WR.call H (slices_Index_string_string_ct hx2) rfl (hp0) (Wn.none rfl) rfl ?_
  intro v7 M w H hle hR
  replace hp0 := hp0.mono hle
  obtain rfl := hR
  refine WR.step (Ex.geq rfl rfl) (Wn.none rfl) rfl rfl ?_
  refine WR.step (Ex.assign rfl) (Wn.none rfl) rfl rfl ?_
  refine WR.nil ?_
  refine WQ.then ?_
  refine WC.ret ?_
  (repeat (first | refine WQ.thenRet ?_ | refine WQ.inBlockRet ?_ | refine WQ.cutRet ?_ | refine WQ.scRet ?_))
  obtain rfl := Option.some.inj h
  exact WQ.ret1 rfl rfl H.ext rfl
theorem basic_Digits_ct {p0 : List UInt8} {r : Bool} (h : basic_Digits p0 = some r) : Ct Tryz.prog 71 [S p0] (fun M => True) (fun v M => v = Value.bool r) := by
  refine Ct.of Tryz.func71 (enters Tryz.func71 (by kernel_rfl) rfl) rfl rfl rfl ?_
  intro w0 M0 H hp
  unfold basic_Digits at h
  refine WC.seq ?_
  refine WC.region ?_
  refine WR.step (Ex.assign rfl) (Wn.none rfl) rfl rfl ?_
  refine WR.nil ?_
  refine WQ.then ?_
  refine WC.seq ?_
  refine WC.seq ?_
  refine WC.region ?_
  refine WR.step (Ex.move rfl) (Wn.none rfl) rfl rfl ?_
  refine WR.step (Ex.lenStr Tryz.underlying9 rfl) (Wn.none rfl) rfl rfl ?_
  refine WR.step (Ex.move rfl) (Wn.none rfl) rfl rfl ?_
  refine WR.nil ?_
  refine WQ.then ?_
  obtain ⟨o1, e2, h⟩ := bnd h
  refine WC.cutX (fun e w => ∃  (M : Mem), e = [(0, S p0)] ∧ St w0 M0 M [] w ∧ some (.inl ()) = some o1) [] ?_ ?_ (trivial)
  ·
   refine WC.block ?_
   refine WC.loopP (fun m e w => ∃ (n3 : Int) (M : Mem), e = [(0, S p0), (5, I (p0.length : Int)), (6, I n3)] ∧ St w0 M0 M [] w ∧ basic_Digits_L1 p0 m n3 = some o1) FU [(0, _), (5, _), (6, _)] ⟨rfl, rfl, rfl, trivial⟩ ⟨_, _, rfl, H, e2⟩ ?_
   rintro m4 e w ⟨n3, M, rfl, H, e2⟩
   rcases m4 with _ | m4
   · rw [basic_Digits_L1] at e2; cases e2
   rw [basic_Digits_L1] at e2
   refine WC.seq ?_
   refine WC.region ?_
   refine WR.step (Ex.lss rfl rfl) (Wn.none rfl) rfl rfl ?_
   refine WR.nil ?_
   refine WQ.then ?_
   refine WC.seq ?_
   refine WC.condB rfl (fun hk5 => ?_) (fun hk5 => ?_)
   ·
    replace hk5 : n3 < (p0.length : Int) := of_decide_eq_true hk5
    rw [if_pos hk5] at e2
    refine WC.skip ?_
    refine WQ.then ?_
    refine WC.seq ?_
    refine WC.block ?_
    refine WC.seq ?_
    refine WC.region ?_
    refine WR.step (Ex.move rfl) (Wn.none rfl) rfl rfl ?_
    refine WR.step (Ex.assign rfl) (Wn.none rfl) rfl rfl ?_
    refine WR.nil ?_
    refine WQ.then ?_
    refine WC.seq ?_
    obtain ⟨o6, e7, e2⟩ := bnd e2
    refine WC.cutX (fun e w => ∃ (b8 : Bool) (M : Mem), e = [(0, S p0), (5, I (p0.length : Int)), (6, I n3), (18, Value.bool b8)] ∧ St w0 M0 M [] w ∧ some b8 = some o6) [] ?_ ?_ (trivial)
    ·
     obtain ⟨c9, hxc9, e7⟩ := bnd e7
     refine WC.region ?_
     refine WR.step (Ex.move rfl) (Wn.none rfl) rfl rfl ?_
     refine WR.step (Ex.move rfl) (Wn.none rfl) rfl rfl ?_
     refine WR.step (Ex.idxStrC Tryz.underlying9 rfl rfl hxc9) (Wn.none rfl) rfl rfl ?_
     by_cases hk10 : c9.toNat < 48
     ·
      rw [if_pos hk10] at e7
      refine WR.stepE (v' := .bool true) (Ex.lssB (i := c9.toNat) (j := 48) rfl rfl) (congrArg Value.bool (decide_eq_true hk10)) (Wn.none rfl) rfl rfl ?_
      refine WR.step (Ex.move rfl) (Wn.none rfl) rfl rfl ?_
      refine WR.skipN 4 rfl rfl ?_
      refine WR.step (Ex.pickT rfl rfl) (Wn.none rfl) rfl rfl ?_
      refine WR.nil ?_
      exact WQ.meetN [(0, _), (5, _), (6, _), (18, _)] ⟨rfl, rfl, rfl, rfl, trivial⟩ ⟨_, _, rfl, H, e7⟩
     ·
      rw [if_neg hk10] at e7
      obtain ⟨c11, hxc11, e7⟩ := bnd e7
      refine WR.stepE (v' := .bool false) (Ex.lssB (i := c9.toNat) (j := 48) rfl rfl) (congrArg Value.bool (decide_eq_false hk10)) (Wn.none rfl) rfl rfl ?_
      refine WR.step (Ex.move rfl) (Wn.none rfl) rfl rfl ?_
      refine WR.step (Ex.move rfl) (Wn.some rfl rfl rfl) rfl rfl ?_
      refine WR.step (Ex.move rfl) (Wn.some rfl rfl rfl) rfl rfl ?_
      refine WR.step (Ex.idxStrC Tryz.underlying9 rfl rfl hxc11) (Wn.some rfl rfl rfl) rfl rfl ?_
      refine WR.step (Ex.gtrB (i := c11.toNat) (j := 57) rfl rfl) (Wn.some rfl rfl rfl) rfl rfl ?_
      refine WR.step (Ex.pickF rfl rfl) (Wn.none rfl) rfl rfl ?_
      refine WR.nil ?_
      exact WQ.meetN [(0, _), (5, _), (6, _), (18, _)] ⟨rfl, rfl, rfl, rfl, trivial⟩ ⟨_, _, rfl, H, e7⟩
    ·
     rintro e w ⟨b8, M, rfl, H, q12⟩
     obtain rfl := Option.some.inj q12
     refine WQ.then ?_
     refine WC.condB rfl (fun hk13 => ?_) (fun hk13 => ?_)
     ·
      subst hk13
      rw [if_pos rfl] at e2
      refine WC.seq ?_
      refine WC.region ?_
      refine WR.step (Ex.assign rfl) (Wn.none rfl) rfl rfl ?_
      refine WR.nil ?_
      refine WQ.then ?_
      refine WC.ret ?_
      (repeat (first | refine WQ.thenRet ?_ | refine WQ.inBlockRet ?_ | refine WQ.cutRet ?_ | refine WQ.scRet ?_))
      obtain rfl := Option.some.inj e2
      try dsimp only at h
      obtain rfl := Option.some.inj h
      exact WQ.ret1 rfl rfl H.ext rfl
     ·
      subst hk13
      rw [if_neg Bool.false_ne_true] at e2
      refine WC.skip ?_
      refine WQ.inBlock ?_
      refine WQ.then ?_
      obtain ⟨n14, hxn14, e2⟩ := bnd e2
      refine WC.region ?_
      refine WR.step (Ex.addC rfl rfl hxn14) (Wn.none rfl) rfl rfl ?_
      refine WR.step (Ex.move rfl) (Wn.none rfl) rfl rfl ?_
      refine WR.nil ?_
      exact WQ.againP m4 [(0, _), (5, _), (6, _)] ⟨rfl, rfl, rfl, trivial⟩ ⟨_, _, rfl, H, e2⟩ (Nat.lt_succ_self _)
   ·
    replace hk5 : ¬ (n3 < (p0.length : Int)) := of_decide_eq_false hk5
    rw [if_neg hk5] at e2
    refine WC.exit ?_
    refine WQ.thenExit ?_
    refine WQ.thenExit ?_
    refine WQ.exitHere ?_
    exact WQ.meetN [(0, _)] ⟨rfl, trivial⟩ ⟨_, rfl, H, e2⟩
  ·
   rintro e w ⟨M, rfl, H, q15⟩
   obtain rfl := Option.some.inj q15
   try dsimp only at h
   refine WQ.then ?_
   refine WC.seq ?_
   refine WC.region ?_
   refine WR.step (Ex.move rfl) (Wn.none rfl) rfl rfl ?_
   refine WR.step (Ex.strNeqC rfl rfl) (Wn.none rfl) rfl rfl ?_
   refine WR.step (Ex.assign rfl) (Wn.none rfl) rfl rfl ?_
   refine WR.nil ?_
   refine WQ.then ?_
   refine WC.ret ?_
   (repeat (first | refine WQ.thenRet ?_ | refine WQ.inBlockRet ?_ | refine WQ.cutRet ?_ | refine WQ.scRet ?_))
   obtain rfl := Option.some.inj h
   exact WQ.ret1 rfl rfl H.ext rfl
theorem dates_number_ct {p0 : List UInt8} {p1 : Int} {r : (Int × Bool)} (h : dates_number p0 p1 = some r) : Ct Tryz.prog 56 [S p0, I p1] (fun M => GlF (fun w => ∃ tp p, w.var? Tryz.prog "strconv.ErrRange" = some #[.iface tp p]) M ∧ GlF (fun w => ∃ tp p, w.var? Tryz.prog "strconv.ErrSyntax" = some #[.iface tp p]) M) (fun v M => v = Value.tuple #[I r.1, Value.bool r.2]) := by
  refine Ct.of Tryz.func56 (enters Tryz.func56 (by kernel_rfl) rfl) rfl rfl rfl ?_
  intro w0 M0 H hp
  obtain ⟨hg_errR, hg_errS⟩ := hp
  unfold dates_number at h
  refine WC.seq ?_
  refine WC.region ?_
  refine WR.step (Ex.assign rfl) (Wn.none rfl) rfl rfl ?_
  refine WR.step (Ex.assign rfl) (Wn.none rfl) rfl rfl ?_
  refine WR.nil ?_
  refine WQ.then ?_
  refine WC.seq ?_
  obtain ⟨⟨n1, b2⟩, hx3, h⟩ := bnd h
  try dsimp only at h
  refine WC.region ?_
  refine WR.step (Ex.move rfl) (Wn.none rfl) rfl rfl ?_
  refine WR.call H (strconv_Atoi_ct hx3) rfl ⟨hg_errR, hg_errS⟩ (Wn.none rfl) rfl ?_
  intro v10 M w H hle hR
  replace hg_errR := hg_errR.mono hle
  replace hg_errS := hg_errS.mono hle
  try dsimp only at hR
  obtain ⟨x10_1, rfl, f10_1⟩ := hR
  refine WR.step (Ex.move rfl) (Wn.none rfl) rfl rfl ?_
  refine WR.step (Ex.extract rfl rfl) (Wn.none rfl) rfl rfl ?_
  refine WR.step (Ex.extract rfl rfl) (Wn.none rfl) rfl rfl ?_
  refine WR.step (Ex.assign rfl) (Wn.none rfl) rfl rfl ?_
  refine WR.step (Ex.assign rfl) (Wn.none rfl) rfl rfl ?_
  refine WR.nil ?_
  refine WQ.then ?_
  refine WC.seq ?_
  obtain ⟨o4, e5, h⟩ := bnd h
  refine WC.cutX (fun e w => ∃ (n6 : Int) (b7 : Bool) (M : Mem), e = [(4, I n6), (5, Value.bool b7)] ∧ St w0 M0 M [] w ∧ GlF (fun w => ∃ tp p, w.var? Tryz.prog "strconv.ErrRange" = some #[.iface tp p]) M ∧ GlF (fun w => ∃ tp p, w.var? Tryz.prog "strconv.ErrSyntax" = some #[.iface tp p]) M ∧ some (n6, b7) = some o4) [] ?_ ?_ (trivial)
  ·
   refine WC.region ?_
   refine WR.step (Ex.move rfl) (Wn.none rfl) rfl rfl ?_
   refine WR.step (Ex.move rfl) (Wn.none rfl) rfl rfl ?_
   refine WR.step (Ex.eqlNil Tryz.underlying75 f10_1 rfl) (Wn.none rfl) rfl rfl ?_
   refine WR.step (Ex.move rfl) (Wn.none rfl) rfl rfl ?_
   rcases b2 with _ | _
   ·
    rw [if_neg Bool.false_ne_true] at e5
    refine WR.skipN 4 rfl rfl ?_
    refine WR.step (Ex.pickF rfl rfl) (Wn.none rfl) rfl rfl ?_
    refine WR.step (Ex.move rfl) (Wn.none rfl) rfl rfl ?_
    refine WR.skipG (b := false) rfl rfl rfl rfl rfl ?_
    refine WR.skipG (b := false) rfl rfl rfl rfl rfl ?_
    refine WR.step (Ex.pickF rfl rfl) (Wn.none rfl) rfl rfl ?_
    refine WR.step (Ex.assign rfl) (Wn.none rfl) rfl rfl ?_
    refine WR.step (Ex.assign rfl) (Wn.none rfl) rfl rfl ?_
    refine WR.nil ?_
    exact WQ.meetN [(4, _), (5, _)] ⟨rfl, rfl, trivial⟩ ⟨_, _, _, rfl, H, hg_errR, hg_errS, e5⟩
   ·
    rw [if_pos rfl] at e5
    refine WR.step (Ex.move rfl) (Wn.some rfl rfl rfl) rfl rfl ?_
    refine WR.step (Ex.lenStr Tryz.underlying9 rfl) (Wn.some rfl rfl rfl) rfl rfl ?_
    refine WR.step (Ex.move rfl) (Wn.some rfl rfl rfl) rfl rfl ?_
    by_cases hk8 : (p0.length : Int) = p1
    ·
     rw [if_pos hk8] at e5
     obtain ⟨b9, hx10, e5⟩ := bnd e5
     refine WR.stepE (v' := .bool true) (Ex.eql rfl rfl) (congrArg Value.bool (decide_eq_true hk8)) (Wn.some rfl rfl rfl) rfl rfl ?_
     refine WR.step (Ex.pickT rfl rfl) (Wn.none rfl) rfl rfl ?_
     refine WR.step (Ex.move rfl) (Wn.none rfl) rfl rfl ?_
     refine WR.step (Ex.move rfl) (Wn.some rfl rfl rfl) rfl rfl ?_
     refine WR.call H (basic_Digits_ct hx10) rfl trivial (Wn.some rfl rfl rfl) rfl ?_
     intro v24 M w H hle hR
     replace hg_errR := hg_errR.mono hle
     replace hg_errS := hg_errS.mono hle
     replace f10_1 := f10_1.mono hle
     obtain rfl := hR
     refine WR.step (Ex.pickT rfl rfl) (Wn.none rfl) rfl rfl ?_
     refine WR.step (Ex.assign rfl) (Wn.none rfl) rfl rfl ?_
     refine WR.step (Ex.assign rfl) (Wn.none rfl) rfl rfl ?_
     refine WR.nil ?_
     exact WQ.meetN [(4, _), (5, _)] ⟨rfl, rfl, trivial⟩ ⟨_, _, _, rfl, H, hg_errR, hg_errS, e5⟩
    ·
     rw [if_neg hk8] at e5
     refine WR.stepE (v' := .bool false) (Ex.eql rfl rfl) (congrArg Value.bool (decide_eq_false hk8)) (Wn.some rfl rfl rfl) rfl rfl ?_
     refine WR.step (Ex.pickT rfl rfl) (Wn.none rfl) rfl rfl ?_
     refine WR.step (Ex.move rfl) (Wn.none rfl) rfl rfl ?_
     refine WR.skipG (b := false) rfl rfl rfl rfl rfl ?_
     refine WR.skipG (b := false) rfl rfl rfl rfl rfl ?_
     refine WR.step (Ex.pickF rfl rfl) (Wn.none rfl) rfl rfl ?_
     refine WR.step (Ex.assign rfl) (Wn.none rfl) rfl rfl ?_
     refine WR.step (Ex.assign rfl) (Wn.none rfl) rfl rfl ?_
     refine WR.nil ?_
     exact WQ.meetN [(4, _), (5, _)] ⟨rfl, rfl, trivial⟩ ⟨_, _, _, rfl, H, hg_errR, hg_errS, e5⟩
  ·
   rintro e w ⟨n6, b7, M, rfl, H, hg_errR, hg_errS, q11⟩
   obtain rfl := Option.some.inj q11
   try dsimp only at h
   refine WQ.then ?_
   refine WC.ret ?_
   (repeat (first | refine WQ.thenRet ?_ | refine WQ.inBlockRet ?_ | refine WQ.cutRet ?_ | refine WQ.scRet ?_))
   obtain rfl := Option.some.inj h
   exact WQ.ret2 rfl rfl rfl H.ext rfl
theorem dates_clock_ct {p0 : List UInt8} {r : (Int × Int × Int × Bool)} (h : dates_clock p0 = some r) : Ct Tryz.prog 58 [S p0] (fun M => GlF (fun w => ∃ tp p, w.var? Tryz.prog "strconv.ErrRange" = some #[.iface tp p]) M ∧ GlF (fun w => ∃ tp p, w.var? Tryz.prog "strconv.ErrSyntax" = some #[.iface tp p]) M ∧ GlF (fun w => ∃ m, w.cell? ⟨0, 0, none⟩ = some (.int .i64 m)) M) (fun v M => v = Value.tuple #[I r.1, I r.2.1, I r.2.2.1, Value.bool r.2.2.2]) := by
  refine Ct.of Tryz.func58 (enters Tryz.func58 (by kernel_rfl) rfl) rfl rfl rfl ?_
  intro w0 M0 H hp
  obtain ⟨hg_errR, hg_errS, hg_maxl⟩ := hp
  unfold dates_clock at h
  refine WC.seq ?_
  refine WC.region ?_
  refine WR.step (Ex.assign rfl) (Wn.none rfl) rfl rfl ?_
  refine WR.step (Ex.assign rfl) (Wn.none rfl) rfl rfl ?_
  refine WR.step (Ex.assign rfl) (Wn.none rfl) rfl rfl ?_
  refine WR.step (Ex.assign rfl) (Wn.none rfl) rfl rfl ?_
  refine WR.nil ?_
  refine WQ.then ?_
  refine WC.seq ?_
  obtain ⟨l1, hx2, h⟩ := bnd h
  refine WC.region ?_
  refine WR.step (Ex.move rfl) (Wn.none rfl) rfl rfl ?_
  refine WR.call H (strings_Split_ct hx2) rfl (hg_maxl) (Wn.none rfl) rfl ?_
  intro v11 M w H hle hR
  replace hg_errR := hg_errR.mono hle
  replace hg_errS := hg_errS.mono hle
  replace hg_maxl := hg_maxl.mono hle
  have f11_0 := hR
  refine WR.step (Ex.assign rfl) (Wn.none rfl) rfl rfl ?_
  refine WR.nil ?_
  refine WQ.then ?_
  refine WC.seq ?_
  refine WC.seq ?_
  obtain ⟨o3, e4, h⟩ := bnd h
  refine WC.cutX (fun e w => ∃ (b5 : Bool) (M : Mem), e = [(4, I 0), (6, v11), (19, Value.bool b5)] ∧ St w0 M0 M [] w ∧ GlF (fun w => ∃ tp p, w.var? Tryz.prog "strconv.ErrRange" = some #[.iface tp p]) M ∧ GlF (fun w => ∃ tp p, w.var? Tryz.prog "strconv.ErrSyntax" = some #[.iface tp p]) M ∧ GlF (fun w => ∃ m, w.cell? ⟨0, 0, none⟩ = some (.int .i64 m)) M ∧ Sl M encS v11 l1 ∧ some b5 = some o3) [] ?_ ?_ (trivial)
  ·
   refine WC.region ?_
   refine WR.step (Ex.move rfl) (Wn.none rfl) rfl rfl ?_
   refine WR.step (Ex.lenSl Tryz.underlying59 f11_0 rfl) (Wn.none rfl) rfl rfl ?_
   by_cases hk6 : (l1.length : Int) < (2 : Int)
   ·
    rw [if_pos hk6] at e4
    refine WR.stepE (v' := .bool true) (Ex.lss rfl rfl) (congrArg Value.bool (decide_eq_true hk6)) (Wn.none rfl) rfl rfl ?_
    refine WR.step (Ex.move rfl) (Wn.none rfl) rfl rfl ?_
    refine WR.skipN 3 rfl rfl ?_
    refine WR.step (Ex.pickT rfl rfl) (Wn.none rfl) rfl rfl ?_
    refine WR.nil ?_
    exact WQ.meetN [(4, _), (6, _), (19, _)] ⟨rfl, rfl, rfl, trivial⟩ ⟨_, _, rfl, H, hg_errR, hg_errS, hg_maxl, f11_0, e4⟩
   ·
    rw [if_neg hk6] at e4
    refine WR.stepE (v' := .bool false) (Ex.lss rfl rfl) (congrArg Value.bool (decide_eq_false hk6)) (Wn.none rfl) rfl rfl ?_
    refine WR.step (Ex.move rfl) (Wn.none rfl) rfl rfl ?_
    refine WR.step (Ex.move rfl) (Wn.some rfl rfl rfl) rfl rfl ?_
    refine WR.step (Ex.lenSl Tryz.underlying59 f11_0 rfl) (Wn.some rfl rfl rfl) rfl rfl ?_
    refine WR.step (Ex.gtr rfl rfl) (Wn.some rfl rfl rfl) rfl rfl ?_
    refine WR.step (Ex.pickF rfl rfl) (Wn.none rfl) rfl rfl ?_
    refine WR.nil ?_
    exact WQ.meetN [(4, _), (6, _), (19, _)] ⟨rfl, rfl, rfl, trivial⟩ ⟨_, _, rfl, H, hg_errR, hg_errS, hg_maxl, f11_0, e4⟩
  ·
   rintro e w ⟨b5, M, rfl, H, hg_errR, hg_errS, hg_maxl, f11_0, q7⟩
   obtain rfl := Option.some.inj q7
   refine WQ.then ?_
   refine WC.condB rfl (fun hk8 => ?_) (fun hk8 => ?_)
   ·
    subst hk8
    rw [if_pos rfl] at h
    refine WC.seq ?_
    refine WC.region ?_
    refine WR.step (Ex.assign rfl) (Wn.none rfl) rfl rfl ?_
    refine WR.step (Ex.assign rfl) (Wn.none rfl) rfl rfl ?_
    refine WR.step (Ex.assign rfl) (Wn.none rfl) rfl rfl ?_
    refine WR.step (Ex.assign rfl) (Wn.none rfl) rfl rfl ?_
    refine WR.nil ?_
    refine WQ.then ?_
    refine WC.ret ?_
    (repeat (first | refine WQ.thenRet ?_ | refine WQ.inBlockRet ?_ | refine WQ.cutRet ?_ | refine WQ.scRet ?_))
    obtain rfl := Option.some.inj h
    exact WQ.ret4 rfl rfl rfl rfl rfl H.ext rfl
   ·
    subst hk8
    rw [if_neg Bool.false_ne_true] at h
    refine WC.skip ?_
    refine WQ.then ?_
    refine WC.seq ?_
    obtain ⟨a9, hxa9, h⟩ := bnd h
    obtain ⟨⟨n10, b11⟩, hx12, h⟩ := bnd h
    try dsimp only at h
    refine WC.region ?_
    refine WR.step (Ex.move rfl) (Wn.none rfl) rfl rfl ?_
    refine WR.idxC Tryz.underlying59 Tryz.sizeOf9 (f11_0) rfl rfl hxa9 (Wn.none rfl) rfl ?_
    intro p22 hc22
    refine WR.step (Ex.loadM H rfl hc22 Tryz.isAgg9) (Wn.none rfl) rfl rfl ?_
    refine WR.call H (dates_number_ct hx12) rfl ⟨hg_errR, hg_errS⟩ (Wn.none rfl) rfl ?_
    intro v24 M w H hle hR
    replace hg_errR := hg_errR.mono hle
    replace hg_errS := hg_errS.mono hle
    replace hg_maxl := hg_maxl.mono hle
    replace f11_0 := f11_0.mono hle
    replace hc22 := hc22.mono hle
    try dsimp only at hR
    obtain rfl := hR
    refine WR.step (Ex.move rfl) (Wn.none rfl) rfl rfl ?_
    refine WR.step (Ex.extract rfl rfl) (Wn.none rfl) rfl rfl ?_
    refine WR.step (Ex.extract rfl rfl) (Wn.none rfl) rfl rfl ?_
    refine WR.step (Ex.assign rfl) (Wn.none rfl) rfl rfl ?_
    refine WR.step (Ex.assign rfl) (Wn.none rfl) rfl rfl ?_
    refine WR.nil ?_
    refine WQ.then ?_
    refine WC.seq ?_
    obtain ⟨a13, hxa13, h⟩ := bnd h
    obtain ⟨⟨n14, b15⟩, hx16, h⟩ := bnd h
    try dsimp only at h
    refine WC.region ?_
    refine WR.step (Ex.move rfl) (Wn.none rfl) rfl rfl ?_
    refine WR.idxC Tryz.underlying59 Tryz.sizeOf9 (f11_0) rfl rfl hxa13 (Wn.none rfl) rfl ?_
    intro p29 hc29
    refine WR.step (Ex.loadM H rfl hc29 Tryz.isAgg9) (Wn.none rfl) rfl rfl ?_
    refine WR.call H (dates_number_ct hx16) rfl ⟨hg_errR, hg_errS⟩ (Wn.none rfl) rfl ?_
    intro v31 M w H hle hR
    replace hg_errR := hg_errR.mono hle
    replace hg_errS := hg_errS.mono hle
    replace hg_maxl := hg_maxl.mono hle
    replace f11_0 := f11_0.mono hle
    replace hc22 := hc22.mono hle
    replace hc29 := hc29.mono hle
    try dsimp only at hR
    obtain rfl := hR
    refine WR.step (Ex.move rfl) (Wn.none rfl) rfl rfl ?_
    refine WR.step (Ex.extract rfl rfl) (Wn.none rfl) rfl rfl ?_
    refine WR.step (Ex.extract rfl rfl) (Wn.none rfl) rfl rfl ?_
    refine WR.step (Ex.assign rfl) (Wn.none rfl) rfl rfl ?_
    refine WR.step (Ex.assign rfl) (Wn.none rfl) rfl rfl ?_
    refine WR.nil ?_
    refine WQ.then ?_
    refine WC.seq ?_
    refine WC.region ?_
    refine WR.step (Ex.assign rfl) (Wn.none rfl) rfl rfl ?_
    refine WR.nil ?_
    refine WQ.then ?_
    refine WC.seq ?_
    refine WC.seq ?_
    refine WC.region ?_
    refine WR.step (Ex.move rfl) (Wn.none rfl) rfl rfl ?_
    refine WR.step (Ex.lenSl Tryz.underlying59 f11_0 rfl) (Wn.none rfl) rfl rfl ?_
    refine WR.step (Ex.eql rfl rfl) (Wn.none rfl) rfl rfl ?_
    refine WR.nil ?_
    refine WQ.then ?_
    obtain ⟨o17, e18, h⟩ := bnd h
    refine WC.cutX (fun e w => ∃ (n19 : Int) (b20 : Bool) (M : Mem), e = [(2, I n10), (3, I n14), (4, I n19), (7, Value.bool b11), (8, Value.bool b15), (9, Value.bool b20)] ∧ St w0 M0 M [] w ∧ GlF (fun w => ∃ tp p, w.var? Tryz.prog "strconv.ErrRange" = some #[.iface tp p]) M ∧ GlF (fun w => ∃ tp p, w.var? Tryz.prog "strconv.ErrSyntax" = some #[.iface tp p]) M ∧ GlF (fun w => ∃ m, w.cell? ⟨0, 0, none⟩ = some (.int .i64 m)) M ∧ some (n19, b20) = some o17) [] ?_ ?_ (trivial)
    ·
     refine WC.condB rfl (fun hk21 => ?_) (fun hk21 => ?_)
     ·
      replace hk21 : (l1.length : Int) = (3 : Int) := of_decide_eq_true hk21
      rw [if_pos hk21] at e18
      obtain ⟨a22, hxa22, e18⟩ := bnd e18
      obtain ⟨⟨n23, b24⟩, hx25, e18⟩ := bnd e18
      try dsimp only at e18
      refine WC.region ?_
      refine WR.step (Ex.move rfl) (Wn.none rfl) rfl rfl ?_
      refine WR.idxC Tryz.underlying59 Tryz.sizeOf9 (f11_0) rfl rfl hxa22 (Wn.none rfl) rfl ?_
      intro p39 hc39
      refine WR.step (Ex.loadM H rfl hc39 Tryz.isAgg9) (Wn.none rfl) rfl rfl ?_
      refine WR.call H (dates_number_ct hx25) rfl ⟨hg_errR, hg_errS⟩ (Wn.none rfl) rfl ?_
      intro v41 M w H hle hR
      replace hg_errR := hg_errR.mono hle
      replace hg_errS := hg_errS.mono hle
      replace hg_maxl := hg_maxl.mono hle
      replace f11_0 := f11_0.mono hle
      replace hc22 := hc22.mono hle
      replace hc29 := hc29.mono hle
      replace hc39 := hc39.mono hle
      try dsimp only at hR
      obtain rfl := hR
      refine WR.step (Ex.move rfl) (Wn.none rfl) rfl rfl ?_
      refine WR.step (Ex.extract rfl rfl) (Wn.none rfl) rfl rfl ?_
      refine WR.step (Ex.extract rfl rfl) (Wn.none rfl) rfl rfl ?_
      refine WR.step (Ex.assign rfl) (Wn.none rfl) rfl rfl ?_
      refine WR.step (Ex.assign rfl) (Wn.none rfl) rfl rfl ?_
      refine WR.nil ?_
      exact WQ.meetN [(2, _), (3, _), (4, _), (7, _), (8, _), (9, _)] ⟨rfl, rfl, rfl, rfl, rfl, rfl, trivial⟩ ⟨_, _, _, rfl, H, hg_errR, hg_errS, hg_maxl, e18⟩
     ·
      replace hk21 : ¬ ((l1.length : Int) = (3 : Int)) := of_decide_eq_false hk21
      rw [if_neg hk21] at e18
      refine WC.skip ?_
      exact WQ.meetN [(2, _), (3, _), (4, _), (7, _), (8, _), (9, _)] ⟨rfl, rfl, rfl, rfl, rfl, rfl, trivial⟩ ⟨_, _, _, rfl, H, hg_errR, hg_errS, hg_maxl, e18⟩
    ·
     rintro e w ⟨n19, b20, M, rfl, H, hg_errR, hg_errS, hg_maxl, q26⟩
     obtain rfl := Option.some.inj q26
     try dsimp only at h
     refine WQ.then ?_
     refine WC.seq ?_
     obtain ⟨o27, e28, h⟩ := bnd h
     refine WC.cutX (fun e w => ∃ (n29 : Int) (n30 : Int) (n31 : Int) (b32 : Bool) (M : Mem), e = [(2, I n29), (3, I n30), (4, I n31), (5, Value.bool b32)] ∧ St w0 M0 M [] w ∧ GlF (fun w => ∃ tp p, w.var? Tryz.prog "strconv.ErrRange" = some #[.iface tp p]) M ∧ GlF (fun w => ∃ tp p, w.var? Tryz.prog "strconv.ErrSyntax" = some #[.iface tp p]) M ∧ GlF (fun w => ∃ m, w.cell? ⟨0, 0, none⟩ = some (.int .i64 m)) M ∧ some (n29, n30, n31, b32) = some o27) [] ?_ ?_ (trivial)
     ·
      refine WC.region ?_
      refine WR.step (Ex.move rfl) (Wn.none rfl) rfl rfl ?_
      refine WR.step (Ex.move rfl) (Wn.none rfl) rfl rfl ?_
      refine WR.step (Ex.move rfl) (Wn.none rfl) rfl rfl ?_
      refine WR.step (Ex.move rfl) (Wn.none rfl) rfl rfl ?_
      refine WR.step (Ex.move rfl) (Wn.none rfl) rfl rfl ?_
      rcases b11 with _ | _
      ·
       rw [if_neg Bool.false_ne_true] at e28
       refine WR.skipG (b := false) rfl rfl rfl rfl rfl ?_
       refine WR.step (Ex.pickF rfl rfl) (Wn.none rfl) rfl rfl ?_
       refine WR.step (Ex.move rfl) (Wn.none rfl) rfl rfl ?_
       refine WR.skipG (b := false) rfl rfl rfl rfl rfl ?_
       refine WR.step (Ex.pickF rfl rfl) (Wn.none rfl) rfl rfl ?_
       refine WR.step (Ex.assign rfl) (Wn.none rfl) rfl rfl ?_
       refine WR.step (Ex.assign rfl) (Wn.none rfl) rfl rfl ?_
       refine WR.step (Ex.assign rfl) (Wn.none rfl) rfl rfl ?_
       refine WR.step (Ex.assign rfl) (Wn.none rfl) rfl rfl ?_
       refine WR.nil ?_
       exact WQ.meetN [(2, _), (3, _), (4, _), (5, _)] ⟨rfl, rfl, rfl, rfl, trivial⟩ ⟨_, _, _, _, _, rfl, H, hg_errR, hg_errS, hg_maxl, e28⟩
      ·
       rw [if_pos rfl] at e28
       refine WR.step (Ex.move rfl) (Wn.some rfl rfl rfl) rfl rfl ?_
       refine WR.step (Ex.pickT rfl rfl) (Wn.none rfl) rfl rfl ?_
       refine WR.step (Ex.move rfl) (Wn.none rfl) rfl rfl ?_
       rcases b15 with _ | _
       ·
        rw [if_neg Bool.false_ne_true] at e28
        refine WR.skipG (b := false) rfl rfl rfl rfl rfl ?_
        refine WR.step (Ex.pickF rfl rfl) (Wn.none rfl) rfl rfl ?_
        refine WR.step (Ex.assign rfl) (Wn.none rfl) rfl rfl ?_
        refine WR.step (Ex.assign rfl) (Wn.none rfl) rfl rfl ?_
        refine WR.step (Ex.assign rfl) (Wn.none rfl) rfl rfl ?_
        refine WR.step (Ex.assign rfl) (Wn.none rfl) rfl rfl ?_
        refine WR.nil ?_
        exact WQ.meetN [(2, _), (3, _), (4, _), (5, _)] ⟨rfl, rfl, rfl, rfl, trivial⟩ ⟨_, _, _, _, _, rfl, H, hg_errR, hg_errS, hg_maxl, e28⟩
       ·
        rw [if_pos rfl] at e28
        refine WR.step (Ex.move rfl) (Wn.some rfl rfl rfl) rfl rfl ?_
        refine WR.step (Ex.pickT rfl rfl) (Wn.none rfl) rfl rfl ?_
        refine WR.step (Ex.assign rfl) (Wn.none rfl) rfl rfl ?_
        refine WR.step (Ex.assign rfl) (Wn.none rfl) rfl rfl ?_
        refine WR.step (Ex.assign rfl) (Wn.none rfl) rfl rfl ?_
        refine WR.step (Ex.assign rfl) (Wn.none rfl) rfl rfl ?_
        refine WR.nil ?_
        exact WQ.meetN [(2, _), (3, _), (4, _), (5, _)] ⟨rfl, rfl, rfl, rfl, trivial⟩ ⟨_, _, _, _, _, rfl, H, hg_errR, hg_errS, hg_maxl, e28⟩
     ·
      rintro e w ⟨n29, n30, n31, b32, M, rfl, H, hg_errR, hg_errS, hg_maxl, q33⟩
      obtain rfl := Option.some.inj q33
      try dsimp only at h
      refine WQ.then ?_
      refine WC.ret ?_
      (repeat (first | refine WQ.thenRet ?_ | refine WQ.inBlockRet ?_ | refine WQ.cutRet ?_ | refine WQ.scRet ?_))
      obtain rfl := Option.some.inj h
      exact WQ.ret4 rfl rfl rfl rfl rfl H.ext rfl
end Go.Proofs.YtlopnlagpdchiaaGreatDoor
