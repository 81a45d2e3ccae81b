/-
  Fold: contracts of the program's functions over their plain forms, written by wip/tools/ext.py.
-/
import Derived.Test.YtolmifddbjdepaaDoorArr
import Derived.Test.YtolmifddbjdepaaDoorProg
import Derived.Test.YtolmifddbjdepaaDoorShelf
import Derived.Test.YtolmifddbjdepaaDoorFpf
import Derived.KernelRfl
set_option linter.unusedVariables false
set_option linter.unusedSimpArgs false
namespace Go.Proofs.YtolmifddbjdepaaDoor
open Go Go.RowKit Go.Ph Go.Ph.Pl Go.Ph.Pf Go.Ph.Chs
def FnT33 (M : Mem) (v : Value) (g : (UInt8 → Option Bool)) : Prop := ∀ (a0 : UInt8) (r : Bool), g a0 = some r → FnV Tryd.prog M v [encB a0] (fun v M => v = Value.bool r)
theorem FnT33.mono {M M' : Mem} {v : Value} {g : (UInt8 → Option Bool)} (h : FnT33 M v g) (hl : M.le M') : FnT33 M' v g := fun a0 r hr => (h a0 r hr).mono hl
theorem xplaces25 : ∀ {fs : Array Field}, Tryd.prog.underlying 25 = some (.struct fs) → ∀ w, (fs.mapM fun f => do pure (f.offset, ← sizeOf f.type) : Sem (Array (Nat × Nat))).run Tryd.prog w = .ok #[(0, 1), (1, 1)] w := by
  intro fs h w
  rw [Tryd.underlying25] at h
  cases h
  simp
theorem xty35 : ElemTy Tryd.prog 35 9 (.string ⟨#[]⟩) 1 16 := ElemTy.mk' Tryd.underlying35 (by kernel_rfl) rfl (by decide)
theorem xty59 : ElemTy Tryd.prog 59 3 (.int .i64 0) 1 8 := ElemTy.mk' Tryd.underlying59 (by kernel_rfl) rfl (by decide)
theorem xeq25 (a0 b0 : Int) (a1 b1 : Int) (w : World) : (Op.equalIn 10000 25 (.agg #[.int .i64 a0, .int .i64 a1]) (.agg #[.int .i64 b0, .int .i64 b1])).run Tryd.prog w = .ok (decide (a0 = b0 ∧ a1 = b1)) w := by
  rw [run_equalIn_struct w 9999 25 _ _ (by rw [Program.fieldsOf, Tryd.underlying25]) (by kernel_rfl)]
  rw [Program.fieldsOf, Tryd.underlying25]
  by_cases h0 : a0 = b0 <;> by_cases h1 : a1 = b1 <;> simp [Op.eqFields, part, h0, h1, Tryd.isAgg3, run_equalIn_int _ _ _ _ _ _ _ Tryd.underlying3]
theorem bytesOf_nats (l : List UInt8) : Lib.bytesOf (l.map fun u => (u.toNat : Int)) = l := by
  unfold Lib.bytesOf
  rw [List.map_map]
  conv => rhs; rw [← List.map_id l]
  apply List.map_congr_left
  intro u _
  simp
theorem indexByte_ixB (l : List UInt8) (c : UInt8) : Lib.indexByte l c = ixB l c := by
  unfold ixB
  induction l with
  | nil => simp [Lib.indexByte]
  | cons b l ih =>
    simp only [Lib.indexByte, List.idxOf_cons, List.length_cons]
    by_cases h : b = c
    · subst h; simp
    · have h' : (b == c) = false := by simpa using h
      rw [h', ih]
      simp only [Bool.false_eq_true, if_false, cond_false]
      by_cases hl : l.idxOf c < l.length
      · have h1 : l.idxOf c + 1 < l.length + 1 := by omega
        have h2 : ¬ (((l.idxOf c : Int) == -1) = true) := by simp only [beq_iff_eq]; omega
        simp only [hl, h1, if_true, h2, if_false, Bool.false_eq_true]
        omega
      · have h1 : ¬ (l.idxOf c + 1 < l.length + 1) := by omega
        simp only [hl, h1, if_false]
        rfl
theorem join_jn (sep : List UInt8) : ∀ l : List (List UInt8), Lib.join l sep = jn sep l
  | [] => rfl
  | [x] => Lib.join_one x sep
  | x :: y :: r => by
    have h := join_jn sep (y :: r)
    rw [Lib.join_cons] at h ⊢
    rw [jn, ← h]
    simp [Lib.joinTail]

theorem strings_IndexByte_ct {p0 : List UInt8} {p1 : UInt8} {r : Int} (h : strings_IndexByte p0 p1 = some r) : Ct Tryd.prog 102 [S p0, encB p1] (fun M => True) (fun v M => v = I r) := by
  cases h
  refine ⟨enters Tryd.func102 (by kernel_rfl) rfl, fun w M ha hp => ?_⟩
  exact (Tryd.strings_IndexByte ⟨p0.toArray⟩ (p1.toNat : Int) w).mono fun e w' ⟨he, hw⟩ => ⟨_, M, he, by subst hw; exact Ext.refl ha, by rw [← indexByte_ixB]; simp⟩
theorem stringslite_IndexByte_ct {p0 : List UInt8} {p1 : UInt8} {r : Int} (h : stringslite_IndexByte p0 p1 = some r) : Ct Tryd.prog 94 [S p0, encB p1] (fun M => True) (fun v M => v = I r) := by
  cases h
  refine ⟨enters Tryd.func94 (by kernel_rfl) rfl, fun w M ha hp => ?_⟩
  exact (Tryd.stringslite_IndexByte ⟨p0.toArray⟩ (p1.toNat : Int) w).mono fun e w' ⟨he, hw⟩ => ⟨_, M, he, by subst hw; exact Ext.refl ha, by rw [← indexByte_ixB]; simp⟩
theorem bytes_IndexByte_ct {p0 : List UInt8} {p1 : UInt8} {vp0 : Value} {r : Int} (h : bytes_IndexByte p0 p1 = some r) : Ct Tryd.prog 38 [vp0, encB p1] (fun M => Sl M encB vp0 p0) (fun v M => v = I r) := by
  cases h
  refine ⟨enters Tryd.func38 (by kernel_rfl) rfl, fun w M ha hp => ?_⟩
  obtain ⟨A, cp, rfl, hc, hn⟩ := Sl.cells hp ha
  have hcv : ((p1.toNat : Int)).toNat.toUInt8 = p1 := by simp
  cases A with
  | none =>
    obtain ⟨rfl, rfl⟩ := hn rfl
    exact (Tryd.bytes_IndexByte_nil (p1.toNat : Int) w).mono fun e w' ⟨he, hw⟩ => ⟨_, M, he, by subst hw; exact Ext.refl ha, rfl⟩
  | some ad =>
    refine (Tryd.bytes_IndexByte_at ad p0.length cp (p0.map fun u => (u.toNat : Int)) (p1.toNat : Int) w (by simp) (fun i hi => ?_)).mono fun e w' ⟨he, hw⟩ => ⟨_, M, he, by subst hw; exact Ext.refl ha, ?_⟩
    · have := hc ad rfl i (encB p0[i]) (by simp [hi])
      rw [this]
      simp [hi]
    · rw [bytesOf_nats, hcv, indexByte_ixB]
theorem strings_Join_ct {p0 : List (List UInt8)} {p1 : List UInt8} {vp0 : Value} {r : List UInt8} (h : strings_Join p0 p1 = some r) : Ct Tryd.prog 53 [vp0, S p1] (fun M => Sl M encS vp0 p0) (fun v M => v = S r) := by
  unfold strings_Join at h
  split at h
  case isFalse => cases h
  rename_i hb
  cases h
  refine ⟨enters Tryd.func53 (by kernel_rfl) rfl, fun w M ha hp => ?_⟩
  obtain ⟨A, cp, rfl, hc, hn⟩ := Sl.cells hp ha
  rcases Nat.eq_zero_or_pos p0.length with h0 | h0
  · obtain rfl := List.eq_nil_of_length_eq_zero h0
    exact (Tryd.strings_Join_none A cp ⟨p1.toArray⟩ w).mono fun e w' ⟨he, hw⟩ => ⟨_, M, he, by subst hw; exact Ext.refl ha, rfl⟩
  · cases A with
    | none => obtain ⟨rfl, _⟩ := hn rfl; simp at h0
    | some ad =>
      obtain ⟨A', c', he', h1, ⟨h2, h3⟩, h4⟩ := hp
      cases he'
      obtain ⟨b, o, cs, t0, fz, e1, e2, e3⟩ := h4 (fun h => by rw [h] at h0; simp at h0)
      cases e1
      have hmap : (p0.map (fun l => (⟨l.toArray⟩ : ByteArray))).map (·.data.toList) = p0 := by
        rw [List.map_map]
        conv => rhs; rw [← List.map_id p0]
        exact List.map_congr_left (fun l _ => rfl)
      have hcall := Tryd.strings_Join b o cp (p0.map (fun l => (⟨l.toArray⟩ : ByteArray))) ⟨p1.toArray⟩ w (fun j x hx => by
        rw [List.getElem?_map] at hx
        obtain ⟨y, hy, rfl⟩ := Option.map_eq_some_iff.1 hx
        have := hc ⟨b, o, none⟩ rfl j (encS y) (by rw [List.getElem?_map, hy]; rfl)
        simpa [Addr.add_lit] using this) (ha.lt e2) (by simpa using hb.1) (by simpa using h1) (by rw [hmap, join_jn]; simpa using hb.2)
      rw [hmap, join_jn] at hcall
      simp only [List.length_map] at hcall
      exact hcall.mono fun e w' ⟨he, hw⟩ => ⟨_, M, he, ⟨BelowX.of hw _, Mem.le.refl M, fun b' o' hb' => by rw [hw.block b' (ha.lt hb')]; exact ha b' o' hb', fun b' hb' => rfl⟩, by simp⟩
theorem basic_All_ct {p0 : List UInt8} {p1 : (UInt8 → Option Bool)} {vp1 : Value} {r : Bool} (h : basic_All p0 p1 = some r) : Ct Tryd.prog 64 [S p0, vp1] (fun M => FnT33 M vp1 p1) (fun v M => v = Value.bool r) := by
  refine Ct.of Tryd.func64 (enters Tryd.func64 (by kernel_rfl) rfl) rfl rfl rfl ?_
  intro w0 M0 H hp
  have hp1 := hp
  unfold basic_All at h
  refine WC.seq ?_
  refine WC.region ?_
  refine WR.step (Ex.assign rfl) (Wn.none rfl) rfl rfl ?_
  refine WR.nil ?_
  refine WQ.then ?_
  refine WC.seq ?_
  refine WC.seq ?_
  refine WC.region ?_
  refine WR.step (Ex.move rfl) (Wn.none rfl) rfl rfl ?_
  refine WR.step (Ex.lenStr Tryd.underlying9 rfl) (Wn.none rfl) rfl rfl ?_
  refine WR.step (Ex.move rfl) (Wn.none rfl) rfl rfl ?_
  refine WR.nil ?_
  refine WQ.then ?_
  obtain ⟨o1, e2, h⟩ := bnd h
  refine WC.cutX (fun e w => ∃  (M : Mem), e = [] ∧ St w0 M0 M [] w ∧ some (.inl ()) = some o1) [] ?_ ?_ (trivial)
  ·
    refine WC.block ?_
    refine WC.loopP (fun m e w => ∃ (n3 : Int) (M : Mem), e = [(0, S p0), (1, vp1), (7, I (p0.length : Int)), (8, I n3)] ∧ St w0 M0 M [] w ∧ FnT33 M vp1 p1 ∧ basic_All_L1 p0 p1 m n3 = some o1) FU [(0, _), (1, _), (7, _), (8, _)] ⟨rfl, rfl, rfl, rfl, trivial⟩ ⟨_, _, rfl, H, hp1, e2⟩ ?_
    rintro m4 e w ⟨n3, M, rfl, H, hp1, e2⟩
    rcases m4 with _ | m4
    · rw [basic_All_L1] at e2; cases e2
    rw [basic_All_L1] at e2
    refine WC.seq ?_
    refine WC.region ?_
    refine WR.step (Ex.lss rfl rfl) (Wn.none rfl) rfl rfl ?_
    refine WR.nil ?_
    refine WQ.then ?_
    refine WC.seq ?_
    refine WC.condB rfl (fun hk5 => ?_) (fun hk5 => ?_)
    ·
      replace hk5 : n3 < (p0.length : Int) := of_decide_eq_true hk5
      rw [if_pos hk5] at e2
      refine WC.skip ?_
      refine WQ.then ?_
      refine WC.seq ?_
      refine WC.block ?_
      refine WC.seq ?_
      refine WC.region ?_
      refine WR.step (Ex.move rfl) (Wn.none rfl) rfl rfl ?_
      refine WR.step (Ex.assign rfl) (Wn.none rfl) rfl rfl ?_
      refine WR.nil ?_
      refine WQ.then ?_
      refine WC.seq ?_
      obtain ⟨c6, hxc6, e2⟩ := bnd e2
      obtain ⟨b7, hx8, e2⟩ := bnd e2
      refine WC.region ?_
      refine WR.step (Ex.move rfl) (Wn.none rfl) rfl rfl ?_
      refine WR.step (Ex.move rfl) (Wn.none rfl) rfl rfl ?_
      refine WR.step (Ex.move rfl) (Wn.none rfl) rfl rfl ?_
      refine WR.step (Ex.idxStrC Tryd.underlying9 rfl rfl hxc6) (Wn.none rfl) rfl rfl ?_
      refine WR.callF H (hp1 _ _ hx8) rfl rfl (Wn.none rfl) rfl ?_
      intro v15 M w H hle hR
      replace hp1 := hp1.mono hle
      obtain rfl := hR
      refine WR.step (Ex.not rfl) (Wn.none rfl) rfl rfl ?_
      refine WR.nil ?_
      refine WQ.then ?_
      refine WC.condB rfl (fun hk9 => ?_) (fun hk9 => ?_)
      ·
        replace hk9 : b7 = false := by simpa using hk9
        subst hk9
        rw [if_neg Bool.false_ne_true] at e2
        refine WC.seq ?_
        refine WC.region ?_
        refine WR.step (Ex.assign rfl) (Wn.none rfl) rfl rfl ?_
        refine WR.nil ?_
        refine WQ.then ?_
        refine WC.ret ?_
        (repeat (first | refine WQ.thenRet ?_ | refine WQ.inBlockRet ?_ | refine WQ.cutRet ?_ | refine WQ.scRet ?_))
        obtain rfl := Option.some.inj e2
        try dsimp only at h
        obtain rfl := Option.some.inj h
        exact WQ.ret1 rfl rfl H.ext rfl
      ·
        replace hk9 : b7 = true := by simpa using hk9
        subst hk9
        rw [if_pos rfl] at e2
        refine WC.skip ?_
        refine WQ.inBlock ?_
        refine WQ.then ?_
        obtain ⟨n10, hxn10, e2⟩ := bnd e2
        refine WC.region ?_
        refine WR.step (Ex.addC rfl rfl hxn10) (Wn.none rfl) rfl rfl ?_
        refine WR.step (Ex.move rfl) (Wn.none rfl) rfl rfl ?_
        refine WR.nil ?_
        exact WQ.againP m4 [(0, _), (1, _), (7, _), (8, _)] ⟨rfl, rfl, rfl, rfl, trivial⟩ ⟨_, _, rfl, H, hp1, e2⟩ (Nat.lt_succ_self _)
    ·
      replace hk5 : ¬ (n3 < (p0.length : Int)) := of_decide_eq_false hk5
      rw [if_neg hk5] at e2
      refine WC.exit ?_
      refine WQ.thenExit ?_
      refine WQ.thenExit ?_
      refine WQ.exitHere ?_
      exact WQ.meetN [] trivial ⟨_, rfl, H, e2⟩
  ·
    rintro e w ⟨M, rfl, H, q11⟩
    obtain rfl := Option.some.inj q11
    try dsimp only at h
    refine WQ.then ?_
    refine WC.seq ?_
    refine WC.region ?_
    refine WR.step (Ex.assign rfl) (Wn.none rfl) rfl rfl ?_
    refine WR.nil ?_
    refine WQ.then ?_
    refine WC.ret ?_
    (repeat (first | refine WQ.thenRet ?_ | refine WQ.inBlockRet ?_ | refine WQ.cutRet ?_ | refine WQ.scRet ?_))
    obtain rfl := Option.some.inj h
    exact WQ.ret1 rfl rfl H.ext rfl
theorem fold_name_1_ct {p0 : UInt8} {r : Bool} (h : fold_name_1 p0 = some r) : Ct Tryd.prog 65 [encB p0] (fun M => True) (fun v M => v = Value.bool r) := by
  refine Ct.of Tryd.func65 (enters Tryd.func65 (by kernel_rfl) rfl) rfl rfl rfl ?_
  intro w0 M0 H hp
  unfold fold_name_1 at h
  refine WC.seq ?_
  refine WC.region ?_
  refine WR.step (Ex.assign rfl) (Wn.none rfl) rfl rfl ?_
  refine WR.nil ?_
  refine WQ.then ?_
  refine WC.seq ?_
  obtain ⟨o1, e2, h⟩ := bnd h
  refine WC.cutX (fun e w => ∃ (b3 : Bool) (M : Mem), e = [(2, Value.bool b3)] ∧ St w0 M0 M [] w ∧ some b3 = some o1) [] ?_ ?_ (trivial)
  ·
    by_cases hk4 : 33 ≤ p0.toNat
    ·
      rw [if_pos hk4] at e2
      by_cases hk5 : p0.toNat ≤ 126
      ·
        rw [if_pos hk5] at e2
        refine WC.region ?_
        refine WR.step (Ex.move rfl) (Wn.none rfl) rfl rfl ?_
        refine WR.stepE (v' := .bool true) (Ex.geqB (i := p0.toNat) (j := 33) rfl rfl) (congrArg Value.bool (decide_eq_true hk4)) (Wn.none rfl) rfl rfl ?_
        refine WR.step (Ex.move rfl) (Wn.none rfl) rfl rfl ?_
        refine WR.step (Ex.move rfl) (Wn.some rfl rfl rfl) rfl rfl ?_
        refine WR.stepE (v' := .bool true) (Ex.leqB (i := p0.toNat) (j := 126) rfl rfl) (congrArg Value.bool (decide_eq_true hk5)) (Wn.some rfl rfl rfl) rfl rfl ?_
        refine WR.step (Ex.pickT rfl rfl) (Wn.none rfl) rfl rfl ?_
        refine WR.step (Ex.move rfl) (Wn.none rfl) rfl rfl ?_
        refine WR.step (Ex.move rfl) (Wn.some rfl rfl rfl) rfl rfl ?_
        refine WR.step (Ex.neqB (c := p0) (d := 58) rfl rfl) (Wn.some rfl rfl rfl) rfl rfl ?_
        refine WR.step (Ex.pickT rfl rfl) (Wn.none rfl) rfl rfl ?_
        refine WR.step (Ex.assign rfl) (Wn.none rfl) rfl rfl ?_
        refine WR.nil ?_
        exact WQ.meetN [(2, _)] ⟨rfl, trivial⟩ ⟨_, _, rfl, H, e2⟩
      ·
        rw [if_neg hk5] at e2
        refine WC.region ?_
        refine WR.step (Ex.move rfl) (Wn.none rfl) rfl rfl ?_
        refine WR.stepE (v' := .bool true) (Ex.geqB (i := p0.toNat) (j := 33) rfl rfl) (congrArg Value.bool (decide_eq_true hk4)) (Wn.none rfl) rfl rfl ?_
        refine WR.step (Ex.move rfl) (Wn.none rfl) rfl rfl ?_
        refine WR.step (Ex.move rfl) (Wn.some rfl rfl rfl) rfl rfl ?_
        refine WR.stepE (v' := .bool false) (Ex.leqB (i := p0.toNat) (j := 126) rfl rfl) (congrArg Value.bool (decide_eq_false hk5)) (Wn.some rfl rfl rfl) rfl rfl ?_
        refine WR.step (Ex.pickT rfl rfl) (Wn.none rfl) rfl rfl ?_
        refine WR.step (Ex.move rfl) (Wn.none rfl) rfl rfl ?_
        refine WR.skipG (b := false) rfl rfl rfl rfl rfl ?_
        refine WR.skipG (b := false) rfl rfl rfl rfl rfl ?_
        refine WR.step (Ex.pickF rfl rfl) (Wn.none rfl) rfl rfl ?_
        refine WR.step (Ex.assign rfl) (Wn.none rfl) rfl rfl ?_
        refine WR.nil ?_
        exact WQ.meetN [(2, _)] ⟨rfl, trivial⟩ ⟨_, _, rfl, H, e2⟩
    ·
      rw [if_neg hk4] at e2
      refine WC.region ?_
      refine WR.step (Ex.move rfl) (Wn.none rfl) rfl rfl ?_
      refine WR.stepE (v' := .bool false) (Ex.geqB (i := p0.toNat) (j := 33) rfl rfl) (congrArg Value.bool (decide_eq_false hk4)) (Wn.none rfl) rfl rfl ?_
      refine WR.step (Ex.move rfl) (Wn.none rfl) rfl rfl ?_
      refine WR.skipG (b := false) rfl rfl rfl rfl rfl ?_
      refine WR.skipG (b := false) rfl rfl rfl rfl rfl ?_
      refine WR.step (Ex.pickF rfl rfl) (Wn.none rfl) rfl rfl ?_
      refine WR.step (Ex.move rfl) (Wn.none rfl) rfl rfl ?_
      refine WR.skipG (b := false) rfl rfl rfl rfl rfl ?_
      refine WR.skipG (b := false) rfl rfl rfl rfl rfl ?_
      refine WR.step (Ex.pickF rfl rfl) (Wn.none rfl) rfl rfl ?_
      refine WR.step (Ex.assign rfl) (Wn.none rfl) rfl rfl ?_
      refine WR.nil ?_
      exact WQ.meetN [(2, _)] ⟨rfl, trivial⟩ ⟨_, _, rfl, H, e2⟩
  ·
    rintro e w ⟨b3, M, rfl, H, q6⟩
    obtain rfl := Option.some.inj q6
    refine WQ.then ?_
    refine WC.ret ?_
    (repeat (first | refine WQ.thenRet ?_ | refine WQ.inBlockRet ?_ | refine WQ.cutRet ?_ | refine WQ.scRet ?_))
    obtain rfl := Option.some.inj h
    exact WQ.ret1 rfl rfl H.ext rfl
theorem fold_name_ct {p0 : List UInt8} {r : Bool} (h : fold_name p0 = some r) : Ct Tryd.prog 46 [S p0] (fun M => True) (fun v M => v = Value.bool r) := by
  refine Ct.of Tryd.func46 (enters Tryd.func46 (by kernel_rfl) rfl) rfl rfl rfl ?_
  intro w0 M0 H hp
  unfold fold_name at h
  refine WC.seq ?_
  refine WC.region ?_
  refine WR.step (Ex.assign rfl) (Wn.none rfl) rfl rfl ?_
  refine WR.nil ?_
  refine WQ.then ?_
  refine WC.seq ?_
  obtain ⟨o1, e2, h⟩ := bnd h
  refine WC.cutX (fun e w => ∃ (b3 : Bool) (M : Mem), e = [(2, Value.bool b3)] ∧ St w0 M0 M [] w ∧ some b3 = some o1) [] ?_ ?_ (trivial)
  ·
    by_cases hk4 : p0 = []
    ·
      rw [if_pos hk4] at e2
      refine WC.region ?_
      refine WR.step (Ex.move rfl) (Wn.none rfl) rfl rfl ?_
      refine WR.stepE (v' := .bool false) (Ex.strNeqC rfl rfl) (congrArg Value.bool (by rw [decide_eq_true hk4]; rfl)) (Wn.none rfl) rfl rfl ?_
      refine WR.step (Ex.move rfl) (Wn.none rfl) rfl rfl ?_
      refine WR.skipG (b := false) rfl rfl rfl rfl rfl ?_
      refine WR.skipG (b := false) rfl rfl rfl rfl rfl ?_
      refine WR.skipG (b := false) rfl rfl rfl rfl rfl ?_
      refine WR.step (Ex.pickF rfl rfl) (Wn.none rfl) rfl rfl ?_
      refine WR.step (Ex.move rfl) (Wn.none rfl) rfl rfl ?_
      refine WR.skipG (b := false) rfl rfl rfl rfl rfl ?_
      refine WR.skipG (b := false) rfl rfl rfl rfl rfl ?_
      refine WR.step (Ex.pickF rfl rfl) (Wn.none rfl) rfl rfl ?_
      refine WR.step (Ex.assign rfl) (Wn.none rfl) rfl rfl ?_
      refine WR.nil ?_
      exact WQ.meetN [(2, _)] ⟨rfl, trivial⟩ ⟨_, _, rfl, H, e2⟩
    ·
      rw [if_neg hk4] at e2
      by_cases hk5 : (p0.length : Int) ≤ (60 : Int)
      ·
        rw [if_pos hk5] at e2
        obtain ⟨b6, hx7, e2⟩ := bnd e2
        refine WC.region ?_
        refine WR.step (Ex.move rfl) (Wn.none rfl) rfl rfl ?_
        refine WR.stepE (v' := .bool true) (Ex.strNeqC rfl rfl) (congrArg Value.bool (by rw [decide_eq_false hk4]; rfl)) (Wn.none rfl) rfl rfl ?_
        refine WR.step (Ex.move rfl) (Wn.none rfl) rfl rfl ?_
        refine WR.step (Ex.move rfl) (Wn.some rfl rfl rfl) rfl rfl ?_
        refine WR.step (Ex.lenStr Tryd.underlying9 rfl) (Wn.some rfl rfl rfl) rfl rfl ?_
        refine WR.stepE (v' := .bool true) (Ex.leq rfl rfl) (congrArg Value.bool (decide_eq_true hk5)) (Wn.some rfl rfl rfl) rfl rfl ?_
        refine WR.step (Ex.pickT rfl rfl) (Wn.none rfl) rfl rfl ?_
        refine WR.step (Ex.move rfl) (Wn.none rfl) rfl rfl ?_
        refine WR.step (Ex.move rfl) (Wn.some rfl rfl rfl) rfl rfl ?_
        refine WR.call H (basic_All_ct hx7) rfl ((fun _ _ h => FnV.of (fold_name_1_ct h) (fun _ _ => trivial))) (Wn.some rfl rfl rfl) rfl ?_
        intro v12 M w H hle hR
        obtain rfl := hR
        refine WR.step (Ex.pickT rfl rfl) (Wn.none rfl) rfl rfl ?_
        refine WR.step (Ex.assign rfl) (Wn.none rfl) rfl rfl ?_
        refine WR.nil ?_
        exact WQ.meetN [(2, _)] ⟨rfl, trivial⟩ ⟨_, _, rfl, H, e2⟩
      ·
        rw [if_neg hk5] at e2
        refine WC.region ?_
        refine WR.step (Ex.move rfl) (Wn.none rfl) rfl rfl ?_
        refine WR.stepE (v' := .bool true) (Ex.strNeqC rfl rfl) (congrArg Value.bool (by rw [decide_eq_false hk4]; rfl)) (Wn.none rfl) rfl rfl ?_
        refine WR.step (Ex.move rfl) (Wn.none rfl) rfl rfl ?_
        refine WR.step (Ex.move rfl) (Wn.some rfl rfl rfl) rfl rfl ?_
        refine WR.step (Ex.lenStr Tryd.underlying9 rfl) (Wn.some rfl rfl rfl) rfl rfl ?_
        refine WR.stepE (v' := .bool false) (Ex.leq rfl rfl) (congrArg Value.bool (decide_eq_false hk5)) (Wn.some rfl rfl rfl) rfl rfl ?_
        refine WR.step (Ex.pickT rfl rfl) (Wn.none rfl) rfl rfl ?_
        refine WR.step (Ex.move rfl) (Wn.none rfl) rfl rfl ?_
        refine WR.skipG (b := false) rfl rfl rfl rfl rfl ?_
        refine WR.skipG (b := false) rfl rfl rfl rfl rfl ?_
        refine WR.step (Ex.pickF rfl rfl) (Wn.none rfl) rfl rfl ?_
        refine WR.step (Ex.assign rfl) (Wn.none rfl) rfl rfl ?_
        refine WR.nil ?_
        exact WQ.meetN [(2, _)] ⟨rfl, trivial⟩ ⟨_, _, rfl, H, e2⟩
  ·
    rintro e w ⟨b3, M, rfl, H, q8⟩
    obtain rfl := Option.some.inj q8
    refine WQ.then ?_
    refine WC.ret ?_
    (repeat (first | refine WQ.thenRet ?_ | refine WQ.inBlockRet ?_ | refine WQ.cutRet ?_ | refine WQ.scRet ?_))
    obtain rfl := Option.some.inj h
    exact WQ.ret1 rfl rfl H.ext rfl
theorem basic_Fault_ct {p0 : Int} {p1 : Int} {r : (Int × Int)} (h : basic_Fault p0 p1 = some r) : Ct Tryd.prog 33 [I p0, I p1] (fun M => True) (fun v M => v = Value.agg #[I r.1, I r.2]) := by
  refine Ct.of Tryd.func33 (enters Tryd.func33 (by kernel_rfl) rfl) rfl rfl rfl ?_
  intro w0 M0 H hp
  unfold basic_Fault at h
  refine WC.seq ?_
  refine WC.region ?_
  refine WR.alloc [_, _] H Tryd.zeroValue25 rfl (Wn.none rfl) rfl ?_
  intro b4 w H
  refine WR.nil ?_
  refine WQ.then ?_
  refine WC.seq ?_
  refine WC.region ?_
  refine WR.step (Ex.move rfl) (Wn.none rfl) rfl rfl ?_
  refine WR.step (Ex.move rfl) (Wn.none rfl) rfl rfl ?_
  refine WR.step (Ex.build [_, _] Tryd.underlying25 Tryd.zeroValue25 (xplaces25 Tryd.underlying25) rfl rfl) (Wn.none rfl) rfl rfl ?_
  refine WR.store [_, _] H rfl rfl rfl (by repeat (first | exact Upd.head | apply Upd.tail)) Tryd.sizeOf25 rfl (by rfl) (by rfl) (Wn.none rfl) ?_
  intro w H
  refine WR.nil ?_
  refine WQ.then ?_
  refine WC.ret ?_
  (repeat (first | refine WQ.thenRet ?_ | refine WQ.inBlockRet ?_ | refine WQ.cutRet ?_ | refine WQ.scRet ?_))
  obtain rfl := Option.some.inj h
  exact WQ.ret1 rfl ⟨_, rfl, H.loadAgg (by repeat (first | exact List.Mem.head _ | apply List.Mem.tail)) Tryd.isAgg25 Tryd.sizeOf25 (by rfl)⟩ H.ext rfl
theorem utf8_ValidRune_ct {p0 : Int} {r : Bool} (h : utf8_ValidRune p0 = some r) : Ct Tryd.prog 103 [Value.int .i32 p0] (fun M => True) (fun v M => v = Value.bool r) := by
  refine Ct.of Tryd.func103 (enters Tryd.func103 (by kernel_rfl) rfl) rfl rfl rfl ?_
  intro w0 M0 H hp
  unfold utf8_ValidRune at h
  refine WC.seq ?_
  refine WC.region ?_
  refine WR.step (Ex.assign rfl) (Wn.none rfl) rfl rfl ?_
  refine WR.nil ?_
  refine WQ.then ?_
  refine WC.seq ?_
  refine WC.block ?_
  refine WC.seq ?_
  obtain ⟨o1, e2, h⟩ := bnd h
  refine WC.cutX (fun e w => ∃ (b3 : Bool) (M : Mem), e = [(0, Value.int .i32 p0), (3, Value.bool b3)] ∧ St w0 M0 M [] w ∧ some b3 = some o1) [] ?_ ?_ (trivial)
  ·
    by_cases hk4 : (0 : Int) ≤ p0
    ·
      rw [if_pos hk4] at e2
      refine WC.region ?_
      refine WR.step (Ex.move rfl) (Wn.none rfl) rfl rfl ?_
      refine WR.stepE (v' := .bool true) (Ex.leq rfl rfl) (congrArg Value.bool (decide_eq_true hk4)) (Wn.none rfl) rfl rfl ?_
      refine WR.step (Ex.move rfl) (Wn.none rfl) rfl rfl ?_
      refine WR.step (Ex.move rfl) (Wn.some rfl rfl rfl) rfl rfl ?_
      refine WR.step (Ex.lss rfl rfl) (Wn.some rfl rfl rfl) rfl rfl ?_
      refine WR.step (Ex.pickT rfl rfl) (Wn.none rfl) rfl rfl ?_
      refine WR.step (Ex.assign rfl) (Wn.none rfl) rfl rfl ?_
      refine WR.nil ?_
      exact WQ.meetN [(0, _), (3, _)] ⟨rfl, rfl, trivial⟩ ⟨_, _, rfl, H, e2⟩
    ·
      rw [if_neg hk4] at e2
      refine WC.region ?_
      refine WR.step (Ex.move rfl) (Wn.none rfl) rfl rfl ?_
      refine WR.stepE (v' := .bool false) (Ex.leq rfl rfl) (congrArg Value.bool (decide_eq_false hk4)) (Wn.none rfl) rfl rfl ?_
      refine WR.step (Ex.move rfl) (Wn.none rfl) rfl rfl ?_
      refine WR.skipG (b := false) rfl rfl rfl rfl rfl ?_
      refine WR.skipG (b := false) rfl rfl rfl rfl rfl ?_
      refine WR.step (Ex.pickF rfl rfl) (Wn.none rfl) rfl rfl ?_
      refine WR.step (Ex.assign rfl) (Wn.none rfl) rfl rfl ?_
      refine WR.nil ?_
      exact WQ.meetN [(0, _), (3, _)] ⟨rfl, rfl, trivial⟩ ⟨_, _, rfl, H, e2⟩
  ·
    rintro e w ⟨b3, M, rfl, H, q5⟩
    obtain rfl := Option.some.inj q5
    refine WQ.then ?_
    refine WC.condB rfl (fun hk6 => ?_) (fun hk6 => ?_)
    ·
      subst hk6
      rw [if_pos rfl] at h
      refine WC.seq ?_
      refine WC.region ?_
      refine WR.step (Ex.assign rfl) (Wn.none rfl) rfl rfl ?_
      refine WR.nil ?_
      refine WQ.then ?_
      refine WC.ret ?_
      (repeat (first | refine WQ.thenRet ?_ | refine WQ.inBlockRet ?_ | refine WQ.cutRet ?_ | refine WQ.scRet ?_))
      obtain rfl := Option.some.inj h
      exact WQ.ret1 rfl rfl H.ext rfl
    ·
      subst hk6
      rw [if_neg Bool.false_ne_true] at h
      refine WC.seq ?_
      obtain ⟨o7, e8, h⟩ := bnd h
      refine WC.cutX (fun e w => ∃ (b9 : Bool) (M : Mem), e = [(10, Value.bool b9)] ∧ St w0 M0 M [] w ∧ some b9 = some o7) [] ?_ ?_ (trivial)
      ·
        by_cases hk10 : (57343 : Int) < p0
        ·
          rw [if_pos hk10] at e8
          refine WC.region ?_
          refine WR.step (Ex.move rfl) (Wn.none rfl) rfl rfl ?_
          refine WR.stepE (v' := .bool true) (Ex.lss rfl rfl) (congrArg Value.bool (decide_eq_true hk10)) (Wn.none rfl) rfl rfl ?_
          refine WR.step (Ex.move rfl) (Wn.none rfl) rfl rfl ?_
          refine WR.step (Ex.move rfl) (Wn.some rfl rfl rfl) rfl rfl ?_
          refine WR.step (Ex.leq rfl rfl) (Wn.some rfl rfl rfl) rfl rfl ?_
          refine WR.step (Ex.pickT rfl rfl) (Wn.none rfl) rfl rfl ?_
          refine WR.step (Ex.assign rfl) (Wn.none rfl) rfl rfl ?_
          refine WR.nil ?_
          exact WQ.meetN [(10, _)] ⟨rfl, trivial⟩ ⟨_, _, rfl, H, e8⟩
        ·
          rw [if_neg hk10] at e8
          refine WC.region ?_
          refine WR.step (Ex.move rfl) (Wn.none rfl) rfl rfl ?_
          refine WR.stepE (v' := .bool false) (Ex.lss rfl rfl) (congrArg Value.bool (decide_eq_false hk10)) (Wn.none rfl) rfl rfl ?_
          refine WR.step (Ex.move rfl) (Wn.none rfl) rfl rfl ?_
          refine WR.skipG (b := false) rfl rfl rfl rfl rfl ?_
          refine WR.skipG (b := false) rfl rfl rfl rfl rfl ?_
          refine WR.step (Ex.pickF rfl rfl) (Wn.none rfl) rfl rfl ?_
          refine WR.step (Ex.assign rfl) (Wn.none rfl) rfl rfl ?_
          refine WR.nil ?_
          exact WQ.meetN [(10, _)] ⟨rfl, trivial⟩ ⟨_, _, rfl, H, e8⟩
      ·
        rintro e w ⟨b9, M, rfl, H, q11⟩
        obtain rfl := Option.some.inj q11
        refine WQ.then ?_
        refine WC.condB rfl (fun hk12 => ?_) (fun hk12 => ?_)
        ·
          subst hk12
          rw [if_pos rfl] at h
          refine WC.seq ?_
          refine WC.region ?_
          refine WR.step (Ex.assign rfl) (Wn.none rfl) rfl rfl ?_
          refine WR.nil ?_
          refine WQ.then ?_
          refine WC.ret ?_
          (repeat (first | refine WQ.thenRet ?_ | refine WQ.inBlockRet ?_ | refine WQ.cutRet ?_ | refine WQ.scRet ?_))
          obtain rfl := Option.some.inj h
          exact WQ.ret1 rfl rfl H.ext rfl
        ·
          subst hk12
          rw [if_neg Bool.false_ne_true] at h
          refine WC.skip ?_
          refine WQ.inBlock ?_
          refine WQ.then ?_
          refine WC.seq ?_
          refine WC.region ?_
          refine WR.step (Ex.assign rfl) (Wn.none rfl) rfl rfl ?_
          refine WR.nil ?_
          refine WQ.then ?_
          refine WC.ret ?_
          (repeat (first | refine WQ.thenRet ?_ | refine WQ.inBlockRet ?_ | refine WQ.cutRet ?_ | refine WQ.scRet ?_))
          obtain rfl := Option.some.inj h
          exact WQ.ret1 rfl rfl H.ext rfl
theorem strings_IndexRune_ct {p0 : List UInt8} {p1 : Int} {r : Int} (h : strings_IndexRune p0 p1 = some r) : Ct Tryd.prog 92 [S p0, Value.int .i32 p1] (fun M => True) (fun v M => v = I r) := by
  refine Ct.of Tryd.func92 (enters Tryd.func92 (by kernel_rfl) rfl) rfl rfl rfl ?_
  intro w0 M0 H hp
  unfold strings_IndexRune at h
  refine WC.seq ?_
  refine WC.region ?_
  refine WR.step (Ex.assign rfl) (Wn.none rfl) rfl rfl ?_
  refine WR.nil ?_
  refine WQ.then ?_
  refine WC.block ?_
  refine WC.seq ?_
  obtain ⟨o1, e2, h⟩ := bnd h
  refine WC.cutX (fun e w => ∃ (b3 : Bool) (M : Mem), e = [(0, S p0), (1, Value.int .i32 p1), (160, Value.bool b3)] ∧ St w0 M0 M [] w ∧ some b3 = some o1) [] ?_ ?_ (trivial)
  ·
    by_cases hk4 : (0 : Int) ≤ p1
    ·
      rw [if_pos hk4] at e2
      refine WC.region ?_
      refine WR.step (Ex.move rfl) (Wn.none rfl) rfl rfl ?_
      refine WR.stepE (v' := .bool true) (Ex.leq rfl rfl) (congrArg Value.bool (decide_eq_true hk4)) (Wn.none rfl) rfl rfl ?_
      refine WR.step (Ex.move rfl) (Wn.none rfl) rfl rfl ?_
      refine WR.step (Ex.move rfl) (Wn.some rfl rfl rfl) rfl rfl ?_
      refine WR.step (Ex.lss rfl rfl) (Wn.some rfl rfl rfl) rfl rfl ?_
      refine WR.step (Ex.pickT rfl rfl) (Wn.none rfl) rfl rfl ?_
      refine WR.step (Ex.assign rfl) (Wn.none rfl) rfl rfl ?_
      refine WR.nil ?_
      exact WQ.meetN [(0, _), (1, _), (160, _)] ⟨rfl, rfl, rfl, trivial⟩ ⟨_, _, rfl, H, e2⟩
    ·
      rw [if_neg hk4] at e2
      refine WC.region ?_
      refine WR.step (Ex.move rfl) (Wn.none rfl) rfl rfl ?_
      refine WR.stepE (v' := .bool false) (Ex.leq rfl rfl) (congrArg Value.bool (decide_eq_false hk4)) (Wn.none rfl) rfl rfl ?_
      refine WR.step (Ex.move rfl) (Wn.none rfl) rfl rfl ?_
      refine WR.skipG (b := false) rfl rfl rfl rfl rfl ?_
      refine WR.skipG (b := false) rfl rfl rfl rfl rfl ?_
      refine WR.step (Ex.pickF rfl rfl) (Wn.none rfl) rfl rfl ?_
      refine WR.step (Ex.assign rfl) (Wn.none rfl) rfl rfl ?_
      refine WR.nil ?_
      exact WQ.meetN [(0, _), (1, _), (160, _)] ⟨rfl, rfl, rfl, trivial⟩ ⟨_, _, rfl, H, e2⟩
  ·
    rintro e w ⟨b3, M, rfl, H, q5⟩
    obtain rfl := Option.some.inj q5
    refine WQ.then ?_
    refine WC.condB rfl (fun hk6 => ?_) (fun hk6 => ?_)
    ·
      subst hk6
      rw [if_pos rfl] at h
      refine WC.seq ?_
      obtain ⟨n7, hx8, h⟩ := bnd h
      refine WC.region ?_
      refine WR.step (Ex.move rfl) (Wn.none rfl) rfl rfl ?_
      refine WR.step (Ex.move rfl) (Wn.none rfl) rfl rfl ?_
      refine WR.step (Ex.convU8C Tryd.underlying21 Tryd.underlying5 rfl) (Wn.none rfl) rfl rfl ?_
      refine WR.call H (strings_IndexByte_ct hx8) rfl trivial (Wn.none rfl) rfl ?_
      intro v170 M w H hle hR
      obtain rfl := hR
      refine WR.step (Ex.assign rfl) (Wn.none rfl) rfl rfl ?_
      refine WR.nil ?_
      refine WQ.then ?_
      refine WC.ret ?_
      (repeat (first | refine WQ.thenRet ?_ | refine WQ.inBlockRet ?_ | refine WQ.cutRet ?_ | refine WQ.scRet ?_))
      obtain rfl := Option.some.inj h
      exact WQ.ret1 rfl rfl H.ext rfl
    ·
      subst hk6
      rw [if_neg Bool.false_ne_true] at h
      refine WC.seq ?_
      refine WC.region ?_
      refine WR.step (Ex.move rfl) (Wn.none rfl) rfl rfl ?_
      refine WR.step (Ex.eql rfl rfl) (Wn.none rfl) rfl rfl ?_
      refine WR.step (Ex.assign rfl) (Wn.none rfl) rfl rfl ?_
      refine WR.nil ?_
      refine WQ.then ?_
      refine WC.condB rfl (fun hk9 => ?_) (fun hk9 => ?_)
      ·
        replace hk9 : p1 = (65533 : Int) := of_decide_eq_true hk9
        rw [if_pos hk9] at h
        refine WC.seq ?_
        refine WC.seq ?_
        refine WC.region ?_
        refine WR.step (Ex.move rfl) (Wn.none rfl) rfl rfl ?_
        refine WR.rangeStr H Tryd.underlying9 rfl (Wn.none rfl) rfl ?_
        intro b175 w H
        refine WR.nil ?_
        refine WQ.then ?_
        obtain ⟨o10, e11, h⟩ := bnd h
        refine WC.cutX (fun e w => ∃  (M : Mem), e = [] ∧ St w0 M0 M [] w ∧ some (.inl ()) = some o10) [] ?_ ?_ (trivial)
        ·
          refine WC.block ?_
          refine WC.loopP (fun m e w => ∃ (ps12 : Nat) (M : Mem), e = [(175, ptr b175 0)] ∧ St w0 M0 M [.blk b175 (.stringIter ⟨((p0) : List UInt8).toArray⟩ ps12)] w ∧ strings_IndexRune_L1 p0 m ps12 = some o10) FU [(175, _)] ⟨rfl, trivial⟩ ⟨_, _, rfl, H, e11⟩ ?_
          rintro m13 e w ⟨ps12, M, rfl, H, e11⟩
          rcases m13 with _ | m13
          · rw [strings_IndexRune_L1] at e11; cases e11
          rw [strings_IndexRune_L1] at e11
          refine WC.seq ?_
          by_cases hk14 : ps12 < p0.length
          ·
            rw [if_pos hk14] at e11
            refine WC.region ?_
            refine WR.nextT H hk14 rfl (by repeat (first | exact Upd.head | apply Upd.tail)) (Wn.none rfl) rfl ?_
            intro w H
            refine WR.step (Ex.extract rfl rfl) (Wn.none rfl) rfl rfl ?_
            refine WR.nil ?_
            refine WQ.then ?_
            refine WC.seq ?_
            refine WC.condT rfl ?_
            refine WC.skip ?_
            refine WQ.then ?_
            refine WC.block ?_
            refine WC.seq ?_
            refine WC.region ?_
            refine WR.step (Ex.extract rfl rfl) (Wn.none rfl) rfl rfl ?_
            refine WR.step (Ex.extract rfl rfl) (Wn.none rfl) rfl rfl ?_
            refine WR.step (Ex.assign rfl) (Wn.none rfl) rfl rfl ?_
            refine WR.step (Ex.assign rfl) (Wn.none rfl) rfl rfl ?_
            refine WR.nil ?_
            refine WQ.then ?_
            refine WC.seq ?_
            refine WC.region ?_
            refine WR.step (Ex.move rfl) (Wn.none rfl) rfl rfl ?_
            refine WR.step (Ex.eql rfl rfl) (Wn.none rfl) rfl rfl ?_
            refine WR.nil ?_
            refine WQ.then ?_
            refine WC.condB rfl (fun hk15 => ?_) (fun hk15 => ?_)
            ·
              replace hk15 : ((Utf.dr (p0.drop ps12)).1 : Int) = (65533 : Int) := of_decide_eq_true hk15
              rw [if_pos hk15] at e11
              refine WC.seq ?_
              refine WC.region ?_
              refine WR.step (Ex.move rfl) (Wn.none rfl) rfl rfl ?_
              refine WR.step (Ex.assign rfl) (Wn.none rfl) rfl rfl ?_
              refine WR.nil ?_
              refine WQ.then ?_
              refine WC.ret ?_
              (repeat (first | refine WQ.thenRet ?_ | refine WQ.inBlockRet ?_ | refine WQ.cutRet ?_ | refine WQ.scRet ?_))
              obtain rfl := Option.some.inj e11
              try dsimp only at h
              obtain rfl := Option.some.inj h
              exact WQ.ret1 rfl rfl H.ext rfl
            ·
              replace hk15 : ¬ (((Utf.dr (p0.drop ps12)).1 : Int) = (65533 : Int)) := of_decide_eq_false hk15
              rw [if_neg hk15] at e11
              refine WC.skip ?_
              refine WQ.inBlock ?_
              exact WQ.againP m13 [(175, _)] ⟨rfl, trivial⟩ ⟨_, _, rfl, H, e11⟩ (Nat.lt_succ_self _)
          ·
            rw [if_neg hk14] at e11
            refine WC.region ?_
            refine WR.nextF H (Nat.le_of_not_lt hk14) rfl (by repeat (first | exact List.Mem.head _ | apply List.Mem.tail)) (Wn.none rfl) rfl ?_
            refine WR.step (Ex.extract rfl rfl) (Wn.none rfl) rfl rfl ?_
            refine WR.nil ?_
            refine WQ.then ?_
            refine WC.seq ?_
            refine WC.condF rfl ?_
            refine WC.exit ?_
            refine WQ.thenExit ?_
            refine WQ.thenExit ?_
            refine WQ.exitHere ?_
            exact WQ.meetN [] trivial ⟨_, rfl, (H.pick (L' := []) (by repeat (first | exact Pick.nil | refine Pick.cons (by repeat (first | exact Rem.head | apply Rem.tail)) ?_))), e11⟩
        ·
          rintro e w ⟨M, rfl, H, q16⟩
          obtain rfl := Option.some.inj q16
          try dsimp only at h
          refine WQ.then ?_
          refine WC.seq ?_
          refine WC.region ?_
          refine WR.step (Ex.assign rfl) (Wn.none rfl) rfl rfl ?_
          refine WR.nil ?_
          refine WQ.then ?_
          refine WC.ret ?_
          (repeat (first | refine WQ.thenRet ?_ | refine WQ.inBlockRet ?_ | refine WQ.cutRet ?_ | refine WQ.scRet ?_))
          obtain rfl := Option.some.inj h
          exact WQ.ret1 rfl rfl H.ext rfl
      ·
        replace hk9 : ¬ (p1 = (65533 : Int)) := of_decide_eq_false hk9
        rw [if_neg hk9] at h
        refine WC.seq ?_
        obtain ⟨b19, hx20, h⟩ := bnd h
        refine WC.region ?_
        refine WR.step (Ex.move rfl) (Wn.none rfl) rfl rfl ?_
        refine WR.call H (utf8_ValidRune_ct hx20) rfl trivial (Wn.none rfl) rfl ?_
        intro v185 M w H hle hR
        obtain rfl := hR
        refine WR.step (Ex.not rfl) (Wn.none rfl) rfl rfl ?_
        refine WR.step (Ex.assign rfl) (Wn.none rfl) rfl rfl ?_
        refine WR.nil ?_
        refine WQ.then ?_
        refine WC.condB rfl (fun hk21 => ?_) (fun hk21 => ?_)
        ·
          replace hk21 : b19 = false := by simpa using hk21
          subst hk21
          rw [if_neg Bool.false_ne_true] at h
          refine WC.seq ?_
          refine WC.region ?_
          refine WR.step (Ex.assign rfl) (Wn.none rfl) rfl rfl ?_
          refine WR.nil ?_
          refine WQ.then ?_
          refine WC.ret ?_
          (repeat (first | refine WQ.thenRet ?_ | refine WQ.inBlockRet ?_ | refine WQ.cutRet ?_ | refine WQ.scRet ?_))
          obtain rfl := Option.some.inj h
          exact WQ.ret1 rfl rfl H.ext rfl
        ·
          replace hk21 : b19 = true := by simpa using hk21
          subst hk21
          rw [if_pos rfl] at h
          refine WC.scope ?_
          refine WC.seq ?_
          refine WC.region ?_
          refine WR.step (Ex.move rfl) (Wn.none rfl) rfl rfl ?_
          refine WR.step (Ex.runeStr Tryd.underlying21 Tryd.underlying9 rfl) (Wn.none rfl) rfl rfl ?_
          refine WR.step (Ex.assign rfl) (Wn.none rfl) rfl rfl ?_
          refine WR.nil ?_
          refine WQ.then ?_
          refine WC.seq ?_
          obtain ⟨n22, hxn22, h⟩ := bnd h
          refine WC.region ?_
          refine WR.step (Ex.move rfl) (Wn.none rfl) rfl rfl ?_
          refine WR.step (Ex.lenStr Tryd.underlying9 rfl) (Wn.none rfl) rfl rfl ?_
          refine WR.step (Ex.subC rfl rfl hxn22) (Wn.none rfl) rfl rfl ?_
          refine WR.step (Ex.assign rfl) (Wn.none rfl) rfl rfl ?_
          refine WR.nil ?_
          refine WQ.then ?_
          refine WC.seq ?_
          refine WC.region ?_
          refine WR.step (Ex.move rfl) (Wn.none rfl) rfl rfl ?_
          refine WR.step (Ex.assign rfl) (Wn.none rfl) rfl rfl ?_
          refine WR.nil ?_
          refine WQ.then ?_
          refine WC.seq ?_
          refine WC.region ?_
          refine WR.step (Ex.assign rfl) (Wn.none rfl) rfl rfl ?_
          refine WR.nil ?_
          refine WQ.then ?_
          refine WC.seq ?_
          obtain ⟨o23, e24, h⟩ := bnd h
          refine WC.cutX (fun e w => ∃  (M : Mem), e = [] ∧ St w0 M0 M [] w ∧ some (.inl ()) = some o23) [] ?_ ?_ (trivial)
          ·
            refine WC.block ?_
            refine WC.loopP (fun m e w => ∃ (n25 : Int) (M : Mem), e = [(0, S p0), (7, S (Chs.utf8 p1)), (8, I n22), (9, I n25)] ∧ St w0 M0 M [] w ∧ strings_IndexRune_L2 p0 p1 n22 m n25 = some o23) FU [(0, _), (7, _), (8, _), (9, _)] ⟨rfl, rfl, rfl, rfl, trivial⟩ ⟨_, _, rfl, H, e24⟩ ?_
            rintro m26 e w ⟨n25, M, rfl, H, e24⟩
            rcases m26 with _ | m26
            · rw [strings_IndexRune_L2] at e24; cases e24
            rw [strings_IndexRune_L2] at e24
            refine WC.seq ?_
            refine WC.seq ?_
            refine WC.region ?_
            refine WR.step (Ex.move rfl) (Wn.none rfl) rfl rfl ?_
            refine WR.step (Ex.move rfl) (Wn.none rfl) rfl rfl ?_
            refine WR.step (Ex.lenStr Tryd.underlying9 rfl) (Wn.none rfl) rfl rfl ?_
            refine WR.step (Ex.lss rfl rfl) (Wn.none rfl) rfl rfl ?_
            refine WR.nil ?_
            refine WQ.then ?_
            refine WC.condB rfl (fun hk27 => ?_) (fun hk27 => ?_)
            ·
              replace hk27 : n25 < (p0.length : Int) := of_decide_eq_true hk27
              rw [if_pos hk27] at e24
              refine WC.skip ?_
              refine WQ.then ?_
              refine WC.block ?_
              refine WC.scope ?_
              refine WC.seq ?_
              refine WC.seq ?_
              obtain ⟨c28, hxc28, e24⟩ := bnd e24
              obtain ⟨c29, hxc29, e24⟩ := bnd e24
              refine WC.draw (m := 7) rfl rfl H ?_
              intro w H
              refine WA.take (i := 0) rfl (by kernel_rfl) (by kernel_rfl) (by kernel_rfl) (fun _ => Ex.move rfl) (Wn.none rfl) rfl rfl (fun _ _ => rfl) ?_
              refine WA.take (i := 1) rfl (by kernel_rfl) (by kernel_rfl) (by kernel_rfl) (fun _ => Ex.move rfl) (Wn.none rfl) rfl rfl (fun _ _ => rfl) ?_
              refine WA.take (i := 2) rfl (by kernel_rfl) (by kernel_rfl) (by kernel_rfl) (fun _ => Ex.idxStrC Tryd.underlying9 rfl rfl hxc28) (Wn.none rfl) rfl rfl (fun _ _ => rfl) ?_
              refine WA.take (i := 3) rfl (by kernel_rfl) (by kernel_rfl) (by kernel_rfl) (fun _ => Ex.move rfl) (Wn.none rfl) rfl rfl (fun _ _ => rfl) ?_
              refine WA.one (i := 4) (by kernel_rfl) rfl ?_
              refine WR.step (Ex.move rfl) (Wn.none rfl) rfl rfl ?_
              refine WR.nil (WQ.any ?_)
              refine WA.one (i := 5) (by kernel_rfl) rfl ?_
              refine WR.step (Ex.idxStrC Tryd.underlying9 rfl rfl hxc29) (Wn.none rfl) rfl rfl ?_
              refine WR.nil (WQ.any ?_)
              refine WA.one (i := 6) (by kernel_rfl) rfl ?_
              refine WR.step (Ex.neqB (c := c28) (d := c29) rfl rfl) (Wn.none rfl) rfl rfl ?_
              refine WR.nil (WQ.any ?_)
              refine WA.done (by kernel_rfl) ?_
              refine WQ.then ?_
              obtain ⟨o30, e31, e24⟩ := bnd e24
              refine WC.cutX (fun e w => ∃ (n32 : Int) (M : Mem), e = [(0, S p0), (7, S (Chs.utf8 p1)), (8, I n22), (9, I n32)] ∧ St w0 M0 M [] w ∧ some (.inl n32) = some o30) [] ?_ ?_ (trivial)
              ·
                refine WC.condB rfl (fun hk33 => ?_) (fun hk33 => ?_)
                ·
                  replace hk33 : ¬ (c28 = c29) := of_not_decide hk33
                  rw [if_neg hk33] at e31
                  refine WC.seq ?_
                  obtain ⟨n34, hxn34, e31⟩ := bnd e31
                  obtain ⟨s35, hxs35, e31⟩ := bnd e31
                  obtain ⟨c36, hxc36, e31⟩ := bnd e31
                  obtain ⟨n37, hx38, e31⟩ := bnd e31
                  refine WC.draw (m := 9) rfl rfl H ?_
                  intro w H
                  refine WA.take (i := 0) rfl (by kernel_rfl) (by kernel_rfl) (by kernel_rfl) (fun _ => Ex.move rfl) (Wn.none rfl) rfl rfl (fun _ _ => rfl) ?_
                  refine WA.take (i := 1) rfl (by kernel_rfl) (by kernel_rfl) (by kernel_rfl) (fun _ => Ex.move rfl) (Wn.none rfl) rfl rfl (fun _ _ => rfl) ?_
                  refine WA.take (i := 2) rfl (by kernel_rfl) (by kernel_rfl) (by kernel_rfl) (fun _ => Ex.addC rfl rfl hxn34) (Wn.none rfl) rfl rfl (fun _ _ => rfl) ?_
                  refine WA.take (i := 3) rfl (by kernel_rfl) (by kernel_rfl) (by kernel_rfl) (fun _ => Ex.sliceL Tryd.underlying9 rfl rfl hxs35) (Wn.none rfl) rfl rfl (fun _ _ => rfl) ?_
                  refine WA.take (i := 4) rfl (by kernel_rfl) (by kernel_rfl) (by kernel_rfl) (fun _ => Ex.move rfl) (Wn.none rfl) rfl rfl (fun _ _ => rfl) ?_
                  refine WA.one (i := 5) (by kernel_rfl) rfl ?_
                  refine WR.step (Ex.move rfl) (Wn.none rfl) rfl rfl ?_
                  refine WR.nil (WQ.any ?_)
                  refine WA.one (i := 6) (by kernel_rfl) rfl ?_
                  refine WR.step (Ex.idxStrC Tryd.underlying9 rfl rfl hxc36) (Wn.none rfl) rfl rfl ?_
                  refine WR.nil (WQ.any ?_)
                  refine WA.one (i := 7) (by kernel_rfl) rfl ?_
                  refine WR.call H (strings_IndexByte_ct hx38) rfl trivial (Wn.none rfl) rfl ?_
                  intro v41 M w H hle hR
                  obtain rfl := hR
                  refine WR.nil (WQ.any ?_)
                  refine WA.one (i := 8) (by kernel_rfl) rfl ?_
                  refine WR.step (Ex.assign rfl) (Wn.none rfl) rfl rfl ?_
                  refine WR.nil (WQ.any ?_)
                  refine WA.done (by kernel_rfl) ?_
                  refine WQ.then ?_
                  refine WC.seq ?_
                  refine WC.seq ?_
                  refine WC.region ?_
                  refine WR.step (Ex.move rfl) (Wn.none rfl) rfl rfl ?_
                  refine WR.step (Ex.lss rfl rfl) (Wn.none rfl) rfl rfl ?_
                  refine WR.nil ?_
                  refine WQ.then ?_
                  refine WC.condB rfl (fun hk39 => ?_) (fun hk39 => ?_)
                  ·
                    replace hk39 : n37 < (0 : Int) := of_decide_eq_true hk39
                    rw [if_pos hk39] at e31
                    refine WC.seq ?_
                    refine WC.region ?_
                    refine WR.step (Ex.assign rfl) (Wn.none rfl) rfl rfl ?_
                    refine WR.nil ?_
                    refine WQ.then ?_
                    refine WC.ret ?_
                    (repeat (first | refine WQ.thenRet ?_ | refine WQ.inBlockRet ?_ | refine WQ.cutRet ?_ | refine WQ.scRet ?_))
                    obtain rfl := Option.some.inj e31
                    try dsimp only at e24
                    obtain rfl := Option.some.inj e24
                    try dsimp only at h
                    obtain rfl := Option.some.inj h
                    exact WQ.ret1 rfl rfl H.ext rfl
                  ·
                    replace hk39 : ¬ (n37 < (0 : Int)) := of_decide_eq_false hk39
                    rw [if_neg hk39] at e31
                    refine WC.skip ?_
                    refine WQ.then ?_
                    obtain ⟨n40, hxn40, e31⟩ := bnd e31
                    obtain ⟨n41, hxn41, e31⟩ := bnd e31
                    refine WC.region ?_
                    refine WR.step (Ex.move rfl) (Wn.none rfl) rfl rfl ?_
                    refine WR.step (Ex.move rfl) (Wn.none rfl) rfl rfl ?_
                    refine WR.step (Ex.addC rfl rfl hxn40) (Wn.none rfl) rfl rfl ?_
                    refine WR.step (Ex.addC rfl rfl hxn41) (Wn.none rfl) rfl rfl ?_
                    refine WR.step (Ex.assign rfl) (Wn.none rfl) rfl rfl ?_
                    refine WR.nil ?_
                    exact WQ.meetN [(0, _), (7, _), (8, _), (9, _)] ⟨rfl, rfl, rfl, rfl, trivial⟩ ⟨_, _, rfl, H, e31⟩
                ·
                  replace hk33 : c28 = c29 := of_not_decide' hk33
                  rw [if_pos hk33] at e31
                  refine WC.skip ?_
                  exact WQ.meetN [(0, _), (7, _), (8, _), (9, _)] ⟨rfl, rfl, rfl, rfl, trivial⟩ ⟨_, _, rfl, H, e31⟩
              ·
                rintro e w ⟨n32, M, rfl, H, q42⟩
                obtain rfl := Option.some.inj q42
                try dsimp only at e24
                refine WQ.then ?_
                refine WC.seq ?_
                refine WC.seq ?_
                refine WC.region ?_
                refine WR.step (Ex.assign rfl) (Wn.none rfl) rfl rfl ?_
                refine WR.nil ?_
                refine WQ.then ?_
                obtain ⟨o43, e44, e24⟩ := bnd e24
                refine WC.cutX (fun e w => ∃  (M : Mem), e = [(8, I n22), (9, I n32)] ∧ St w0 M0 M [] w ∧ some () = some o43) [] ?_ ?_ (trivial)
                ·
                  refine WC.block ?_
                  refine WC.loopP (fun m e w => ∃ (n45 : Int) (M : Mem), e = [(0, S p0), (7, S (Chs.utf8 p1)), (8, I n22), (9, I n32), (12, I n45)] ∧ St w0 M0 M [] w ∧ strings_IndexRune_L3 p0 p1 n22 n32 m n45 = some o43) FU [(0, _), (7, _), (8, _), (9, _), (12, _)] ⟨rfl, rfl, rfl, rfl, rfl, trivial⟩ ⟨_, _, rfl, H, e44⟩ ?_
                  rintro m46 e w ⟨n45, M, rfl, H, e44⟩
                  rcases m46 with _ | m46
                  · rw [strings_IndexRune_L3] at e44; cases e44
                  rw [strings_IndexRune_L3] at e44
                  refine WC.seq ?_
                  refine WC.seq ?_
                  refine WC.region ?_
                  refine WR.step (Ex.move rfl) (Wn.none rfl) rfl rfl ?_
                  refine WR.step (Ex.move rfl) (Wn.none rfl) rfl rfl ?_
                  refine WR.step (Ex.lenStr Tryd.underlying9 rfl) (Wn.none rfl) rfl rfl ?_
                  refine WR.step (Ex.lss rfl rfl) (Wn.none rfl) rfl rfl ?_
                  refine WR.nil ?_
                  refine WQ.then ?_
                  refine WC.condB rfl (fun hk47 => ?_) (fun hk47 => ?_)
                  ·
                    replace hk47 : n45 < ((Chs.utf8 p1).length : Int) := of_decide_eq_true hk47
                    rw [if_pos hk47] at e44
                    refine WC.skip ?_
                    refine WQ.then ?_
                    refine WC.seq ?_
                    refine WC.block ?_
                    refine WC.seq ?_
                    obtain ⟨n48, hxn48, e44⟩ := bnd e44
                    obtain ⟨c49, hxc49, e44⟩ := bnd e44
                    obtain ⟨n50, hxn50, e44⟩ := bnd e44
                    obtain ⟨c51, hxc51, e44⟩ := bnd e44
                    refine WC.draw (m := 11) rfl rfl H ?_
                    intro w H
                    refine WA.take (i := 0) rfl (by kernel_rfl) (by kernel_rfl) (by kernel_rfl) (fun _ => Ex.move rfl) (Wn.none rfl) rfl rfl (fun _ _ => rfl) ?_
                    refine WA.take (i := 1) rfl (by kernel_rfl) (by kernel_rfl) (by kernel_rfl) (fun _ => Ex.move rfl) (Wn.none rfl) rfl rfl (fun _ _ => rfl) ?_
                    refine WA.take (i := 2) rfl (by kernel_rfl) (by kernel_rfl) (by kernel_rfl) (fun _ => Ex.move rfl) (Wn.none rfl) rfl rfl (fun _ _ => rfl) ?_
                    refine WA.take (i := 3) rfl (by kernel_rfl) (by kernel_rfl) (by kernel_rfl) (fun _ => Ex.subC rfl rfl hxn48) (Wn.none rfl) rfl rfl (fun _ _ => rfl) ?_
                    refine WA.take (i := 4) rfl (by kernel_rfl) (by kernel_rfl) (by kernel_rfl) (fun _ => Ex.idxStrC Tryd.underlying9 rfl rfl hxc49) (Wn.none rfl) rfl rfl (fun _ _ => rfl) ?_
                    refine WA.take (i := 5) rfl (by kernel_rfl) (by kernel_rfl) (by kernel_rfl) (fun _ => Ex.move rfl) (Wn.none rfl) rfl rfl (fun _ _ => rfl) ?_
                    refine WA.take (i := 6) rfl (by kernel_rfl) (by kernel_rfl) (by kernel_rfl) (fun _ => Ex.move rfl) (Wn.none rfl) rfl rfl (fun _ _ => rfl) ?_
                    refine WA.one (i := 7) (by kernel_rfl) rfl ?_
                    refine WR.step (Ex.move rfl) (Wn.none rfl) rfl rfl ?_
                    refine WR.nil (WQ.any ?_)
                    refine WA.one (i := 8) (by kernel_rfl) rfl ?_
                    refine WR.step (Ex.subC rfl rfl hxn50) (Wn.none rfl) rfl rfl ?_
                    refine WR.nil (WQ.any ?_)
                    refine WA.one (i := 9) (by kernel_rfl) rfl ?_
                    refine WR.step (Ex.idxStrC Tryd.underlying9 rfl rfl hxc51) (Wn.none rfl) rfl rfl ?_
                    refine WR.nil (WQ.any ?_)
                    refine WA.one (i := 10) (by kernel_rfl) rfl ?_
                    refine WR.step (Ex.neqB (c := c49) (d := c51) rfl rfl) (Wn.none rfl) rfl rfl ?_
                    refine WR.nil (WQ.any ?_)
                    refine WA.done (by kernel_rfl) ?_
                    refine WQ.then ?_
                    refine WC.condB rfl (fun hk52 => ?_) (fun hk52 => ?_)
                    ·
                      replace hk52 : ¬ (c49 = c51) := of_not_decide hk52
                      rw [if_neg hk52] at e44
                      cases e44
                    ·
                      replace hk52 : c49 = c51 := of_not_decide' hk52
                      rw [if_pos hk52] at e44
                      refine WC.skip ?_
                      refine WQ.inBlock ?_
                      refine WQ.then ?_
                      obtain ⟨n53, hxn53, e44⟩ := bnd e44
                      refine WC.region ?_
                      refine WR.step (Ex.move rfl) (Wn.none rfl) rfl rfl ?_
                      refine WR.step (Ex.addC rfl rfl hxn53) (Wn.none rfl) rfl rfl ?_
                      refine WR.step (Ex.assign rfl) (Wn.none rfl) rfl rfl ?_
                      refine WR.nil ?_
                      exact WQ.againP m46 [(0, _), (7, _), (8, _), (9, _), (12, _)] ⟨rfl, rfl, rfl, rfl, rfl, trivial⟩ ⟨_, _, rfl, H, e44⟩ (Nat.lt_succ_self _)
                  ·
                    replace hk47 : ¬ (n45 < ((Chs.utf8 p1).length : Int)) := of_decide_eq_false hk47
                    rw [if_neg hk47] at e44
                    refine WC.exit ?_
                    refine WQ.thenExit ?_
                    refine WQ.thenExit ?_
                    refine WQ.exitHere ?_
                    exact WQ.meetN [(8, _), (9, _)] ⟨rfl, rfl, trivial⟩ ⟨_, rfl, H, e44⟩
                ·
                  rintro e w ⟨M, rfl, H, q54⟩
                  obtain rfl := Option.some.inj q54
                  try dsimp only at e24
                  refine WQ.then ?_
                  refine WC.seq ?_
                  refine WC.seq ?_
                  obtain ⟨n55, hxn55, e24⟩ := bnd e24
                  refine WC.region ?_
                  refine WR.step (Ex.move rfl) (Wn.none rfl) rfl rfl ?_
                  refine WR.step (Ex.move rfl) (Wn.none rfl) rfl rfl ?_
                  refine WR.step (Ex.subC rfl rfl hxn55) (Wn.none rfl) rfl rfl ?_
                  refine WR.step (Ex.assign rfl) (Wn.none rfl) rfl rfl ?_
                  refine WR.nil ?_
                  refine WQ.then ?_
                  refine WC.ret ?_
                  (repeat (first | refine WQ.thenRet ?_ | refine WQ.inBlockRet ?_ | refine WQ.cutRet ?_ | refine WQ.scRet ?_))
                  obtain rfl := Option.some.inj e24
                  try dsimp only at h
                  obtain rfl := Option.some.inj h
                  exact WQ.ret1 rfl rfl H.ext rfl
            ·
              replace hk27 : ¬ (n25 < (p0.length : Int)) := of_decide_eq_false hk27
              rw [if_neg hk27] at e24
              refine WC.exit ?_
              refine WQ.thenExit ?_
              refine WQ.thenExit ?_
              refine WQ.exitHere ?_
              exact WQ.meetN [] trivial ⟨_, rfl, H, e24⟩
          ·
            rintro e w ⟨M, rfl, H, q58⟩
            obtain rfl := Option.some.inj q58
            try dsimp only at h
            refine WQ.then ?_
            refine WC.seq ?_
            refine WC.seq ?_
            refine WC.region ?_
            refine WR.step (Ex.assign rfl) (Wn.none rfl) rfl rfl ?_
            refine WR.nil ?_
            refine WQ.then ?_
            refine WC.ret ?_
            (repeat (first | refine WQ.thenRet ?_ | refine WQ.inBlockRet ?_ | refine WQ.cutRet ?_ | refine WQ.scRet ?_))
            obtain rfl := Option.some.inj h
            exact WQ.ret1 rfl rfl H.ext rfl
theorem strings_shouldUseASCIISet_ct {p0 : Int} {r : Bool} (h : strings_shouldUseASCIISet p0 = some r) : Ct Tryd.prog 93 [I p0] (fun M => True) (fun v M => v = Value.bool r) := by
  refine Ct.of Tryd.func93 (enters Tryd.func93 (by kernel_rfl) rfl) rfl rfl rfl ?_
  intro w0 M0 H hp
  unfold strings_shouldUseASCIISet at h
  refine WC.seq ?_
  refine WC.region ?_
  refine WR.step (Ex.assign rfl) (Wn.none rfl) rfl rfl ?_
  refine WR.nil ?_
  refine WQ.then ?_
  refine WC.seq ?_
  refine WC.region ?_
  refine WR.step (Ex.move rfl) (Wn.none rfl) rfl rfl ?_
  refine WR.step (Ex.gtr rfl rfl) (Wn.none rfl) rfl rfl ?_
  refine WR.step (Ex.assign rfl) (Wn.none rfl) rfl rfl ?_
  refine WR.nil ?_
  refine WQ.then ?_
  refine WC.ret ?_
  (repeat (first | refine WQ.thenRet ?_ | refine WQ.inBlockRet ?_ | refine WQ.cutRet ?_ | refine WQ.scRet ?_))
  obtain rfl := Option.some.inj h
  exact WQ.ret1 rfl rfl H.ext rfl
theorem strings_makeASCIISet_ct {p0 : List UInt8} {r : (List Bool × Bool)} (h : strings_makeASCIISet p0 = some r) : Ct Tryd.prog 73 [S p0] (fun M => True) (fun v M => v = Value.tuple #[Value.agg (List.map encBo r.1).toArray, Value.bool r.2]) := by
  refine Ct.of Tryd.func73 (enters Tryd.func73 (by kernel_rfl) rfl) rfl rfl rfl ?_
  intro w0 M0 H hp
  unfold strings_makeASCIISet at h
  refine WC.seq ?_
  refine WC.region ?_
  refine WR.alloc (List.map encBo (List.replicate 256 false : List Bool)) H Tryd.zeroValue87 (by kernel_rfl) (Wn.none rfl) rfl ?_
  intro b2 w H
  refine WR.step (Ex.assign rfl) (Wn.none rfl) rfl rfl ?_
  refine WR.nil ?_
  refine WQ.then ?_
  refine WC.seq ?_
  refine WC.seq ?_
  refine WC.region ?_
  refine WR.step (Ex.assign rfl) (Wn.none rfl) rfl rfl ?_
  refine WR.nil ?_
  refine WQ.then ?_
  obtain ⟨o1, e2, h⟩ := bnd h
  refine WC.cutX (fun e w => ∃ (l3 : List Bool) (M : Mem), e = [(2, ptr b2 0)] ∧ St w0 M0 M [.blk b2 (.cells (List.map encBo l3).toArray 87)] w ∧ some (.inl l3) = some o1) [] ?_ ?_ (trivial)
  ·
    refine WC.block ?_
    refine WC.loopP (fun m e w => ∃ (l4 : List Bool) (n5 : Int) (M : Mem), e = [(0, S p0), (2, ptr b2 0), (4, I n5)] ∧ St w0 M0 M [.blk b2 (.cells (List.map encBo l4).toArray 87)] w ∧ strings_makeASCIISet_L1 p0 m l4 n5 = some o1) FU [(0, _), (2, _), (4, _)] ⟨rfl, rfl, rfl, trivial⟩ ⟨_, _, _, rfl, H, e2⟩ ?_
    rintro m6 e w ⟨l4, n5, M, rfl, H, e2⟩
    rcases m6 with _ | m6
    · rw [strings_makeASCIISet_L1] at e2; cases e2
    rw [strings_makeASCIISet_L1] at e2
    refine WC.seq ?_
    refine WC.seq ?_
    refine WC.region ?_
    refine WR.step (Ex.move rfl) (Wn.none rfl) rfl rfl ?_
    refine WR.step (Ex.move rfl) (Wn.none rfl) rfl rfl ?_
    refine WR.step (Ex.lenStr Tryd.underlying9 rfl) (Wn.none rfl) rfl rfl ?_
    refine WR.step (Ex.lss rfl rfl) (Wn.none rfl) rfl rfl ?_
    refine WR.nil ?_
    refine WQ.then ?_
    refine WC.condB rfl (fun hk7 => ?_) (fun hk7 => ?_)
    ·
      replace hk7 : n5 < (p0.length : Int) := of_decide_eq_true hk7
      rw [if_pos hk7] at e2
      refine WC.skip ?_
      refine WQ.then ?_
      refine WC.seq ?_
      refine WC.block ?_
      refine WC.seq ?_
      obtain ⟨c8, hxc8, e2⟩ := bnd e2
      refine WC.region ?_
      refine WR.step (Ex.move rfl) (Wn.none rfl) rfl rfl ?_
      refine WR.step (Ex.move rfl) (Wn.none rfl) rfl rfl ?_
      refine WR.step (Ex.idxStrC Tryd.underlying9 rfl rfl hxc8) (Wn.none rfl) rfl rfl ?_
      refine WR.step (Ex.assign rfl) (Wn.none rfl) rfl rfl ?_
      refine WR.nil ?_
      refine WQ.then ?_
      refine WC.seq ?_
      refine WC.seq ?_
      refine WC.region ?_
      refine WR.step (Ex.move rfl) (Wn.none rfl) rfl rfl ?_
      refine WR.step (Ex.geqB (i := c8.toNat) (j := 128) rfl rfl) (Wn.none rfl) rfl rfl ?_
      refine WR.nil ?_
      refine WQ.then ?_
      refine WC.condB rfl (fun hk9 => ?_) (fun hk9 => ?_)
      ·
        replace hk9 : 128 ≤ c8.toNat := of_decide_eq_true hk9
        rw [if_pos hk9] at e2
        refine WC.seq ?_
        obtain ⟨l10, hxl10, e2⟩ := bnd e2
        obtain ⟨l11, hxl11, e2⟩ := bnd e2
        obtain ⟨l12, hxl12, e2⟩ := bnd e2
        refine WC.region ?_
        refine WR.step (Ex.loadAggA H rfl (by repeat (first | exact List.Mem.head _ | apply List.Mem.tail)) Tryd.isAgg87 Tryd.sizeOf87 hxl10) (Wn.none rfl) rfl rfl ?_
        refine WR.storeA (l2 := l10) H rfl rfl (fun _ => rfl) (fun _ => by repeat (first | exact Upd.head | apply Upd.tail)) hxl11 hxl12 Tryd.sizeOf87 (Wn.none rfl) ?_
        intro w H
        refine WR.step (Ex.assign rfl) (Wn.none rfl) rfl rfl ?_
        refine WR.nil ?_
        refine WQ.then ?_
        refine WC.ret ?_
        (repeat (first | refine WQ.thenRet ?_ | refine WQ.inBlockRet ?_ | refine WQ.cutRet ?_ | refine WQ.scRet ?_))
        obtain ⟨l13, hxl13, e2⟩ := bnd e2
        obtain rfl := Option.some.inj e2
        try dsimp only at h
        obtain rfl := Option.some.inj h
        exact WQ.ret2 rfl ⟨_, rfl, H.loadAggA (by repeat (first | exact List.Mem.head _ | apply List.Mem.tail)) Tryd.isAgg87 Tryd.sizeOf87 hxl13⟩ rfl H.ext rfl
      ·
        replace hk9 : ¬ (128 ≤ c8.toNat) := of_decide_eq_false hk9
        rw [if_neg hk9] at e2
        refine WC.skip ?_
        refine WQ.then ?_
        obtain ⟨a14, hxa14, e2⟩ := bnd e2
        obtain ⟨l15, hxl15, e2⟩ := bnd e2
        refine WC.region ?_
        refine WR.step (Ex.move rfl) (Wn.none rfl) rfl rfl ?_
        refine WR.step (Ex.idxArrC (l := l4) Tryd.underlying87 Tryd.sizeOf4 rfl rfl hxa14) (Wn.none rfl) rfl rfl ?_
        refine WR.storeArr (a := true) H rfl rfl ⟨rfl, rfl⟩ (fun _ => by repeat (first | exact Upd.head | apply Upd.tail)) hxl15 Tryd.sizeOf4 (Wn.none rfl) ?_
        intro w H
        refine WR.nil ?_
        refine WQ.inBlock ?_
        refine WQ.then ?_
        obtain ⟨n16, hxn16, e2⟩ := bnd e2
        refine WC.region ?_
        refine WR.step (Ex.move rfl) (Wn.none rfl) rfl rfl ?_
        refine WR.step (Ex.addC rfl rfl hxn16) (Wn.none rfl) rfl rfl ?_
        refine WR.step (Ex.assign rfl) (Wn.none rfl) rfl rfl ?_
        refine WR.nil ?_
        exact WQ.againP m6 [(0, _), (2, _), (4, _)] ⟨rfl, rfl, rfl, trivial⟩ ⟨_, _, _, rfl, H, e2⟩ (Nat.lt_succ_self _)
    ·
      replace hk7 : ¬ (n5 < (p0.length : Int)) := of_decide_eq_false hk7
      rw [if_neg hk7] at e2
      refine WC.exit ?_
      refine WQ.thenExit ?_
      refine WQ.thenExit ?_
      refine WQ.exitHere ?_
      exact WQ.meetN [(2, _)] ⟨rfl, trivial⟩ ⟨_, _, rfl, H, e2⟩
  ·
    rintro e w ⟨l3, M, rfl, H, q17⟩
    obtain rfl := Option.some.inj q17
    try dsimp only at h
    refine WQ.then ?_
    refine WC.seq ?_
    obtain ⟨l18, hxl18, h⟩ := bnd h
    obtain ⟨l19, hxl19, h⟩ := bnd h
    obtain ⟨l20, hxl20, h⟩ := bnd h
    refine WC.region ?_
    refine WR.step (Ex.loadAggA H rfl (by repeat (first | exact List.Mem.head _ | apply List.Mem.tail)) Tryd.isAgg87 Tryd.sizeOf87 hxl18) (Wn.none rfl) rfl rfl ?_
    refine WR.storeA (l2 := l18) H rfl rfl (fun _ => rfl) (fun _ => by repeat (first | exact Upd.head | apply Upd.tail)) hxl19 hxl20 Tryd.sizeOf87 (Wn.none rfl) ?_
    intro w H
    refine WR.step (Ex.assign rfl) (Wn.none rfl) rfl rfl ?_
    refine WR.nil ?_
    refine WQ.then ?_
    refine WC.ret ?_
    (repeat (first | refine WQ.thenRet ?_ | refine WQ.inBlockRet ?_ | refine WQ.cutRet ?_ | refine WQ.scRet ?_))
    obtain ⟨l21, hxl21, h⟩ := bnd h
    obtain rfl := Option.some.inj h
    exact WQ.ret2 rfl ⟨_, rfl, H.loadAggA (by repeat (first | exact List.Mem.head _ | apply List.Mem.tail)) Tryd.isAgg87 Tryd.sizeOf87 hxl21⟩ rfl H.ext rfl
theorem strings_asciiSet_contains_ct {p0 : List Bool} {p1 : UInt8} {bp0 : Nat} {r : Bool} (h : strings_asciiSet_contains p0 p1 = some r) : Ct Tryd.prog 86 [ptr bp0 0, encB p1] (fun M => PtM M bp0 (.cells (List.map encBo p0).toArray 87)) (fun v M => v = Value.bool r) := by
  refine Ct.of Tryd.func86 (enters Tryd.func86 (by kernel_rfl) rfl) rfl rfl rfl ?_
  intro w0 M0 H hp
  have hp0 := hp
  unfold strings_asciiSet_contains at h
  refine WC.seq ?_
  refine WC.region ?_
  refine WR.step (Ex.assign rfl) (Wn.none rfl) rfl rfl ?_
  refine WR.nil ?_
  refine WQ.then ?_
  refine WC.seq ?_
  obtain ⟨a1, hxa1, h⟩ := bnd h
  refine WC.region ?_
  refine WR.step (Ex.move rfl) (Wn.none rfl) rfl rfl ?_
  refine WR.step (Ex.move rfl) (Wn.none rfl) rfl rfl ?_
  refine WR.step (Ex.nilCheckP rfl) (Wn.none rfl) rfl rfl ?_
  refine WR.step (Ex.idxArrC (l := p0) Tryd.underlying87 Tryd.sizeOf4 rfl rfl hxa1) (Wn.none rfl) rfl rfl ?_
  refine WR.step (Ex.loadArrM H rfl hp0 hxa1 Tryd.isAgg4) (Wn.none rfl) rfl rfl ?_
  refine WR.step (Ex.assign rfl) (Wn.none rfl) rfl rfl ?_
  refine WR.nil ?_
  refine WQ.then ?_
  refine WC.ret ?_
  (repeat (first | refine WQ.thenRet ?_ | refine WQ.inBlockRet ?_ | refine WQ.cutRet ?_ | refine WQ.scRet ?_))
  obtain rfl := Option.some.inj h
  exact WQ.ret1 rfl rfl H.ext rfl
theorem strings_IndexAny_ct {p0 : List UInt8} {p1 : List UInt8} {r : Int} (h : strings_IndexAny p0 p1 = some r) : Ct Tryd.prog 82 [S p0, S p1] (fun M => True) (fun v M => v = I r) := by
  refine Ct.of Tryd.func82 (enters Tryd.func82 (by kernel_rfl) rfl) rfl rfl rfl ?_
  intro w0 M0 H hp
  unfold strings_IndexAny at h
  refine WC.seq ?_
  refine WC.region ?_
  refine WR.step (Ex.assign rfl) (Wn.none rfl) rfl rfl ?_
  refine WR.nil ?_
  refine WQ.then ?_
  refine WC.seq ?_
  refine WC.seq ?_
  refine WC.region ?_
  refine WR.step (Ex.move rfl) (Wn.none rfl) rfl rfl ?_
  refine WR.step (Ex.strEql rfl rfl) (Wn.none rfl) rfl rfl ?_
  refine WR.nil ?_
  refine WQ.then ?_
  refine WC.condB rfl (fun hk1 => ?_) (fun hk1 => ?_)
  ·
    replace hk1 : p1 = [] := of_decide_eq_true hk1
    rw [if_pos hk1] at h
    refine WC.seq ?_
    refine WC.region ?_
    refine WR.step (Ex.assign rfl) (Wn.none rfl) rfl rfl ?_
    refine WR.nil ?_
    refine WQ.then ?_
    refine WC.ret ?_
    (repeat (first | refine WQ.thenRet ?_ | refine WQ.inBlockRet ?_ | refine WQ.cutRet ?_ | refine WQ.scRet ?_))
    obtain rfl := Option.some.inj h
    exact WQ.ret1 rfl rfl H.ext rfl
  ·
    replace hk1 : ¬ (p1 = []) := of_decide_eq_false hk1
    rw [if_neg hk1] at h
    refine WC.skip ?_
    refine WQ.then ?_
    refine WC.seq ?_
    refine WC.seq ?_
    refine WC.region ?_
    refine WR.step (Ex.move rfl) (Wn.none rfl) rfl rfl ?_
    refine WR.step (Ex.lenStr Tryd.underlying9 rfl) (Wn.none rfl) rfl rfl ?_
    refine WR.step (Ex.eql rfl rfl) (Wn.none rfl) rfl rfl ?_
    refine WR.nil ?_
    refine WQ.then ?_
    refine WC.condB rfl (fun hk2 => ?_) (fun hk2 => ?_)
    ·
      replace hk2 : (p1.length : Int) = (1 : Int) := of_decide_eq_true hk2
      rw [if_pos hk2] at h
      refine WC.seq ?_
      obtain ⟨c3, hxc3, h⟩ := bnd h
      refine WC.region ?_
      refine WR.step (Ex.move rfl) (Wn.none rfl) rfl rfl ?_
      refine WR.step (Ex.idxStrC Tryd.underlying9 rfl rfl hxc3) (Wn.none rfl) rfl rfl ?_
      refine WR.step (Ex.conv Tryd.underlying5 Tryd.underlying21 rfl) (Wn.none rfl) rfl rfl ?_
      refine WR.step (Ex.assign rfl) (Wn.none rfl) rfl rfl ?_
      refine WR.nil ?_
      refine WQ.then ?_
      refine WC.seq ?_
      refine WC.seq ?_
      refine WC.region ?_
      refine WR.step (Ex.move rfl) (Wn.none rfl) rfl rfl ?_
      refine WR.step (Ex.geq rfl rfl) (Wn.none rfl) rfl rfl ?_
      refine WR.nil ?_
      refine WQ.then ?_
      obtain ⟨o4, e5, h⟩ := bnd h
      refine WC.cutX (fun e w => ∃ (n6 : Int) (M : Mem), e = [(0, S p0), (5, Value.int .i32 n6)] ∧ St w0 M0 M [] w ∧ some n6 = some o4) [] ?_ ?_ (trivial)
      ·
        refine WC.condB rfl (fun hk7 => ?_) (fun hk7 => ?_)
        ·
          replace hk7 : (128 : Int) ≤ (IntKind.i32.wrap (c3.toNat : Int)) := of_decide_eq_true hk7
          rw [if_pos hk7] at e5
          refine WC.region ?_
          refine WR.step (Ex.assign rfl) (Wn.none rfl) rfl rfl ?_
          refine WR.nil ?_
          exact WQ.meetN [(0, _), (5, _)] ⟨rfl, rfl, trivial⟩ ⟨_, _, rfl, H, e5⟩
        ·
          replace hk7 : ¬ ((128 : Int) ≤ (IntKind.i32.wrap (c3.toNat : Int))) := of_decide_eq_false hk7
          rw [if_neg hk7] at e5
          refine WC.skip ?_
          exact WQ.meetN [(0, _), (5, _)] ⟨rfl, rfl, trivial⟩ ⟨_, _, rfl, H, e5⟩
      ·
        rintro e w ⟨n6, M, rfl, H, q8⟩
        obtain rfl := Option.some.inj q8
        refine WQ.then ?_
        refine WC.seq ?_
        obtain ⟨n9, hx10, h⟩ := bnd h
        refine WC.region ?_
        refine WR.step (Ex.move rfl) (Wn.none rfl) rfl rfl ?_
        refine WR.step (Ex.move rfl) (Wn.none rfl) rfl rfl ?_
        refine WR.call H (strings_IndexRune_ct hx10) rfl trivial (Wn.none rfl) rfl ?_
        intro v23 M w H hle hR
        obtain rfl := hR
        refine WR.step (Ex.assign rfl) (Wn.none rfl) rfl rfl ?_
        refine WR.nil ?_
        refine WQ.then ?_
        refine WC.ret ?_
        (repeat (first | refine WQ.thenRet ?_ | refine WQ.inBlockRet ?_ | refine WQ.cutRet ?_ | refine WQ.scRet ?_))
        obtain rfl := Option.some.inj h
        exact WQ.ret1 rfl rfl H.ext rfl
    ·
      replace hk2 : ¬ ((p1.length : Int) = (1 : Int)) := of_decide_eq_false hk2
      rw [if_neg hk2] at h
      refine WC.skip ?_
      refine WQ.then ?_
      refine WC.seq ?_
      refine WC.seq ?_
      obtain ⟨b11, hx12, h⟩ := bnd h
      refine WC.region ?_
      refine WR.step (Ex.move rfl) (Wn.none rfl) rfl rfl ?_
      refine WR.step (Ex.lenStr Tryd.underlying9 rfl) (Wn.none rfl) rfl rfl ?_
      refine WR.call H (strings_shouldUseASCIISet_ct hx12) rfl trivial (Wn.none rfl) rfl ?_
      intro v26 M w H hle hR
      obtain rfl := hR
      refine WR.nil ?_
      refine WQ.then ?_
      obtain ⟨o13, e14, h⟩ := bnd h
      refine WC.cutX (fun e w => ∃  (M : Mem), e = [(0, S p0), (1, S p1)] ∧ St w0 M0 M [] w ∧ some (.inl ()) = some o13) [] ?_ ?_ (trivial)
      ·
        refine WC.condB rfl (fun hk15 => ?_) (fun hk15 => ?_)
        ·
          subst hk15
          rw [if_pos rfl] at e14
          refine WC.seq ?_
          obtain ⟨⟨n16, b17⟩, hx18, e14⟩ := bnd e14
          try dsimp only at e14
          obtain ⟨l19, hxl19, e14⟩ := bnd e14
          obtain ⟨l20, hxl20, e14⟩ := bnd e14
          refine WC.region ?_
          refine WR.step (Ex.move rfl) (Wn.none rfl) rfl rfl ?_
          refine WR.call H (strings_makeASCIISet_ct hx18) rfl trivial (Wn.none rfl) rfl ?_
          intro v29 M w H hle hR
          try dsimp only at hR
          obtain rfl := hR
          refine WR.step (Ex.move rfl) (Wn.none rfl) rfl rfl ?_
          refine WR.step (Ex.extract rfl rfl) (Wn.none rfl) rfl rfl ?_
          refine WR.step (Ex.extract rfl rfl) (Wn.none rfl) rfl rfl ?_
          refine WR.alloc (List.map encBo (List.replicate 256 false : List Bool)) H Tryd.zeroValue87 (by kernel_rfl) (Wn.none rfl) rfl ?_
          intro b6 w H
          refine WR.storeA (l2 := n16) H rfl rfl (fun _ => rfl) (fun _ => by repeat (first | exact Upd.head | apply Upd.tail)) hxl19 hxl20 Tryd.sizeOf87 (Wn.none rfl) ?_
          intro w H
          refine WR.step (Ex.assign rfl) (Wn.none rfl) rfl rfl ?_
          refine WR.nil ?_
          refine WQ.then ?_
          refine WC.seq ?_
          refine WC.region ?_
          refine WR.step (Ex.move rfl) (Wn.none rfl) rfl rfl ?_
          refine WR.nil ?_
          refine WQ.then ?_
          refine WC.condB rfl (fun hk21 => ?_) (fun hk21 => ?_)
          ·
            subst hk21
            rw [if_pos rfl] at e14
            refine WC.seq ?_
            refine WC.seq ?_
            refine WC.region ?_
            refine WR.step (Ex.assign rfl) (Wn.none rfl) rfl rfl ?_
            refine WR.nil ?_
            refine WQ.then ?_
            obtain ⟨o22, e23, e14⟩ := bnd e14
            refine WC.cutX (fun e w => ∃  (M : Mem), e = [] ∧ St w0 M0 M [] w ∧ some (.inl ()) = some o22) [] ?_ ?_ (trivial)
            ·
              refine WC.block ?_
              obtain ⟨M, hle, hb24, H⟩ := H.freezeVar (b := b6) (by repeat (first | exact Rem.head | apply Rem.tail))
              refine WC.loopP (fun m e w => ∃ (n25 : Int) (M : Mem), e = [(0, S p0), (6, ptr b6 0), (8, I n25)] ∧ St w0 M0 M [] w ∧ PtM M b6 (.cells (List.map encBo n16).toArray 87) ∧ strings_IndexAny_L1 p0 n16 m n25 = some o22) FU [(0, _), (6, _), (8, _)] ⟨rfl, rfl, rfl, trivial⟩ ⟨_, _, rfl, H, hb24, e23⟩ ?_
              rintro m26 e w ⟨n25, M, rfl, H, hb24, e23⟩
              rcases m26 with _ | m26
              · rw [strings_IndexAny_L1] at e23; cases e23
              rw [strings_IndexAny_L1] at e23
              refine WC.seq ?_
              refine WC.seq ?_
              refine WC.region ?_
              refine WR.step (Ex.move rfl) (Wn.none rfl) rfl rfl ?_
              refine WR.step (Ex.move rfl) (Wn.none rfl) rfl rfl ?_
              refine WR.step (Ex.lenStr Tryd.underlying9 rfl) (Wn.none rfl) rfl rfl ?_
              refine WR.step (Ex.lss rfl rfl) (Wn.none rfl) rfl rfl ?_
              refine WR.nil ?_
              refine WQ.then ?_
              refine WC.condB rfl (fun hk27 => ?_) (fun hk27 => ?_)
              ·
                replace hk27 : n25 < (p0.length : Int) := of_decide_eq_true hk27
                rw [if_pos hk27] at e23
                refine WC.skip ?_
                refine WQ.then ?_
                refine WC.seq ?_
                refine WC.block ?_
                refine WC.seq ?_
                obtain ⟨c28, hxc28, e23⟩ := bnd e23
                obtain ⟨b29, hx30, e23⟩ := bnd e23
                refine WC.region ?_
                refine WR.step (Ex.move rfl) (Wn.none rfl) rfl rfl ?_
                refine WR.step (Ex.move rfl) (Wn.none rfl) rfl rfl ?_
                refine WR.step (Ex.idxStrC Tryd.underlying9 rfl rfl hxc28) (Wn.none rfl) rfl rfl ?_
                refine WR.call H (strings_asciiSet_contains_ct hx30) rfl (hb24) (Wn.none rfl) rfl ?_
                intro v42 M w H hle hR
                replace hb24 := hb24.mono hle
                obtain rfl := hR
                refine WR.nil ?_
                refine WQ.then ?_
                refine WC.condB rfl (fun hk31 => ?_) (fun hk31 => ?_)
                ·
                  subst hk31
                  rw [if_pos rfl] at e23
                  refine WC.seq ?_
                  refine WC.region ?_
                  refine WR.step (Ex.move rfl) (Wn.none rfl) rfl rfl ?_
                  refine WR.step (Ex.assign rfl) (Wn.none rfl) rfl rfl ?_
                  refine WR.nil ?_
                  refine WQ.then ?_
                  refine WC.ret ?_
                  (repeat (first | refine WQ.thenRet ?_ | refine WQ.inBlockRet ?_ | refine WQ.cutRet ?_ | refine WQ.scRet ?_))
                  obtain rfl := Option.some.inj e23
                  try dsimp only at e14
                  obtain rfl := Option.some.inj e14
                  try dsimp only at h
                  obtain rfl := Option.some.inj h
                  exact WQ.ret1 rfl rfl H.ext rfl
                ·
                  subst hk31
                  rw [if_neg Bool.false_ne_true] at e23
                  refine WC.skip ?_
                  refine WQ.inBlock ?_
                  refine WQ.then ?_
                  obtain ⟨n32, hxn32, e23⟩ := bnd e23
                  refine WC.region ?_
                  refine WR.step (Ex.move rfl) (Wn.none rfl) rfl rfl ?_
                  refine WR.step (Ex.addC rfl rfl hxn32) (Wn.none rfl) rfl rfl ?_
                  refine WR.step (Ex.assign rfl) (Wn.none rfl) rfl rfl ?_
                  refine WR.nil ?_
                  exact WQ.againP m26 [(0, _), (6, _), (8, _)] ⟨rfl, rfl, rfl, trivial⟩ ⟨_, _, rfl, H, hb24, e23⟩ (Nat.lt_succ_self _)
              ·
                replace hk27 : ¬ (n25 < (p0.length : Int)) := of_decide_eq_false hk27
                rw [if_neg hk27] at e23
                refine WC.exit ?_
                refine WQ.thenExit ?_
                refine WQ.thenExit ?_
                refine WQ.exitHere ?_
                exact WQ.meetN [] trivial ⟨_, rfl, H, e23⟩
            ·
              rintro e w ⟨M, rfl, H, q33⟩
              obtain rfl := Option.some.inj q33
              try dsimp only at e14
              refine WQ.then ?_
              refine WC.seq ?_
              refine WC.region ?_
              refine WR.step (Ex.assign rfl) (Wn.none rfl) rfl rfl ?_
              refine WR.nil ?_
              refine WQ.then ?_
              refine WC.ret ?_
              (repeat (first | refine WQ.thenRet ?_ | refine WQ.inBlockRet ?_ | refine WQ.cutRet ?_ | refine WQ.scRet ?_))
              obtain rfl := Option.some.inj e14
              try dsimp only at h
              obtain rfl := Option.some.inj h
              exact WQ.ret1 rfl rfl H.ext rfl
          ·
            subst hk21
            rw [if_neg Bool.false_ne_true] at e14
            refine WC.skip ?_
            exact WQ.meetN [(0, _), (1, _)] ⟨rfl, rfl, trivial⟩ ⟨_, rfl, (H.pick (L' := []) (by repeat (first | exact Pick.nil | refine Pick.cons (by repeat (first | exact Rem.head | apply Rem.tail)) ?_))), e14⟩
        ·
          subst hk15
          rw [if_neg Bool.false_ne_true] at e14
          refine WC.skip ?_
          exact WQ.meetN [(0, _), (1, _)] ⟨rfl, rfl, trivial⟩ ⟨_, rfl, H, e14⟩
      ·
        rintro e w ⟨M, rfl, H, q36⟩
        obtain rfl := Option.some.inj q36
        try dsimp only at h
        refine WQ.then ?_
        refine WC.seq ?_
        refine WC.seq ?_
        refine WC.region ?_
        refine WR.step (Ex.move rfl) (Wn.none rfl) rfl rfl ?_
        refine WR.rangeStr H Tryd.underlying9 rfl (Wn.none rfl) rfl ?_
        intro b45 w H
        refine WR.nil ?_
        refine WQ.then ?_
        obtain ⟨o37, e38, h⟩ := bnd h
        refine WC.cutX (fun e w => ∃  (M : Mem), e = [] ∧ St w0 M0 M [] w ∧ some (.inl ()) = some o37) [] ?_ ?_ (trivial)
        ·
          refine WC.block ?_
          refine WC.loopP (fun m e w => ∃ (ps39 : Nat) (M : Mem), e = [(1, S p1), (45, ptr b45 0)] ∧ St w0 M0 M [.blk b45 (.stringIter ⟨((p0) : List UInt8).toArray⟩ ps39)] w ∧ strings_IndexAny_L2 p0 p1 m ps39 = some o37) FU [(1, _), (45, _)] ⟨rfl, rfl, trivial⟩ ⟨_, _, rfl, H, e38⟩ ?_
          rintro m40 e w ⟨ps39, M, rfl, H, e38⟩
          rcases m40 with _ | m40
          · rw [strings_IndexAny_L2] at e38; cases e38
          rw [strings_IndexAny_L2] at e38
          refine WC.seq ?_
          by_cases hk41 : ps39 < p0.length
          ·
            rw [if_pos hk41] at e38
            refine WC.region ?_
            refine WR.nextT H hk41 rfl (by repeat (first | exact Upd.head | apply Upd.tail)) (Wn.none rfl) rfl ?_
            intro w H
            refine WR.step (Ex.extract rfl rfl) (Wn.none rfl) rfl rfl ?_
            refine WR.nil ?_
            refine WQ.then ?_
            refine WC.seq ?_
            refine WC.condT rfl ?_
            refine WC.skip ?_
            refine WQ.then ?_
            refine WC.block ?_
            refine WC.seq ?_
            refine WC.region ?_
            refine WR.step (Ex.extract rfl rfl) (Wn.none rfl) rfl rfl ?_
            refine WR.step (Ex.extract rfl rfl) (Wn.none rfl) rfl rfl ?_
            refine WR.step (Ex.assign rfl) (Wn.none rfl) rfl rfl ?_
            refine WR.step (Ex.assign rfl) (Wn.none rfl) rfl rfl ?_
            refine WR.nil ?_
            refine WQ.then ?_
            refine WC.seq ?_
            obtain ⟨n42, hx43, e38⟩ := bnd e38
            refine WC.region ?_
            refine WR.step (Ex.move rfl) (Wn.none rfl) rfl rfl ?_
            refine WR.step (Ex.move rfl) (Wn.none rfl) rfl rfl ?_
            refine WR.call H (strings_IndexRune_ct hx43) rfl trivial (Wn.none rfl) rfl ?_
            intro v52 M w H hle hR
            obtain rfl := hR
            refine WR.step (Ex.geq rfl rfl) (Wn.none rfl) rfl rfl ?_
            refine WR.nil ?_
            refine WQ.then ?_
            refine WC.condB rfl (fun hk44 => ?_) (fun hk44 => ?_)
            ·
              replace hk44 : (0 : Int) ≤ n42 := of_decide_eq_true hk44
              rw [if_pos hk44] at e38
              refine WC.seq ?_
              refine WC.region ?_
              refine WR.step (Ex.move rfl) (Wn.none rfl) rfl rfl ?_
              refine WR.step (Ex.assign rfl) (Wn.none rfl) rfl rfl ?_
              refine WR.nil ?_
              refine WQ.then ?_
              refine WC.ret ?_
              (repeat (first | refine WQ.thenRet ?_ | refine WQ.inBlockRet ?_ | refine WQ.cutRet ?_ | refine WQ.scRet ?_))
              obtain rfl := Option.some.inj e38
              try dsimp only at h
              obtain rfl := Option.some.inj h
              exact WQ.ret1 rfl rfl H.ext rfl
            ·
              replace hk44 : ¬ ((0 : Int) ≤ n42) := of_decide_eq_false hk44
              rw [if_neg hk44] at e38
              refine WC.skip ?_
              refine WQ.inBlock ?_
              exact WQ.againP m40 [(1, _), (45, _)] ⟨rfl, rfl, trivial⟩ ⟨_, _, rfl, H, e38⟩ (Nat.lt_succ_self _)
          ·
            rw [if_neg hk41] at e38
            refine WC.region ?_
            refine WR.nextF H (Nat.le_of_not_lt hk41) rfl (by repeat (first | exact List.Mem.head _ | apply List.Mem.tail)) (Wn.none rfl) rfl ?_
            refine WR.step (Ex.extract rfl rfl) (Wn.none rfl) rfl rfl ?_
            refine WR.nil ?_
            refine WQ.then ?_
            refine WC.seq ?_
            refine WC.condF rfl ?_
            refine WC.exit ?_
            refine WQ.thenExit ?_
            refine WQ.thenExit ?_
            refine WQ.exitHere ?_
            exact WQ.meetN [] trivial ⟨_, rfl, (H.pick (L' := []) (by repeat (first | exact Pick.nil | refine Pick.cons (by repeat (first | exact Rem.head | apply Rem.tail)) ?_))), e38⟩
        ·
          rintro e w ⟨M, rfl, H, q45⟩
          obtain rfl := Option.some.inj q45
          try dsimp only at h
          refine WQ.then ?_
          refine WC.seq ?_
          refine WC.region ?_
          refine WR.step (Ex.assign rfl) (Wn.none rfl) rfl rfl ?_
          refine WR.nil ?_
          refine WQ.then ?_
          refine WC.ret ?_
          (repeat (first | refine WQ.thenRet ?_ | refine WQ.inBlockRet ?_ | refine WQ.cutRet ?_ | refine WQ.scRet ?_))
          obtain rfl := Option.some.inj h
          exact WQ.ret1 rfl rfl H.ext rfl
theorem strings_ContainsAny_ct {p0 : List UInt8} {p1 : List UInt8} {r : Bool} (h : strings_ContainsAny p0 p1 = some r) : Ct Tryd.prog 66 [S p0, S p1] (fun M => True) (fun v M => v = Value.bool r) := by
  refine Ct.of Tryd.func66 (enters Tryd.func66 (by kernel_rfl) rfl) rfl rfl rfl ?_
  intro w0 M0 H hp
  unfold strings_ContainsAny at h
  refine WC.seq ?_
  refine WC.region ?_
  refine WR.step (Ex.assign rfl) (Wn.none rfl) rfl rfl ?_
  refine WR.nil ?_
  refine WQ.then ?_
  refine WC.seq ?_
  obtain ⟨n1, hx2, h⟩ := bnd h
  refine WC.region ?_
  refine WR.step (Ex.move rfl) (Wn.none rfl) rfl rfl ?_
  refine WR.step (Ex.move rfl) (Wn.none rfl) rfl rfl ?_
  refine WR.call H (strings_IndexAny_ct hx2) rfl trivial (Wn.none rfl) rfl ?_
  intro v7 M w H hle hR
  obtain rfl := hR
  refine WR.step (Ex.geq rfl rfl) (Wn.none rfl) rfl rfl ?_
  refine WR.step (Ex.assign rfl) (Wn.none rfl) rfl rfl ?_
  refine WR.nil ?_
  refine WQ.then ?_
  refine WC.ret ?_
  (repeat (first | refine WQ.thenRet ?_ | refine WQ.inBlockRet ?_ | refine WQ.cutRet ?_ | refine WQ.scRet ?_))
  obtain rfl := Option.some.inj h
  exact WQ.ret1 rfl rfl H.ext rfl
theorem fold_ends_ct {p0 : List UInt8} {r : Bool} (h : fold_ends p0 = some r) : Ct Tryd.prog 50 [S p0] (fun M => True) (fun v M => v = Value.bool r) := by
  refine Ct.of Tryd.func50 (enters Tryd.func50 (by kernel_rfl) rfl) rfl rfl rfl ?_
  intro w0 M0 H hp
  unfold fold_ends at h
  refine WC.seq ?_
  refine WC.region ?_
  refine WR.step (Ex.assign rfl) (Wn.none rfl) rfl rfl ?_
  refine WR.nil ?_
  refine WQ.then ?_
  refine WC.seq ?_
  obtain ⟨b1, hx2, h⟩ := bnd h
  refine WC.region ?_
  refine WR.step (Ex.move rfl) (Wn.none rfl) rfl rfl ?_
  refine WR.call H (strings_ContainsAny_ct hx2) rfl trivial (Wn.none rfl) rfl ?_
  intro v4 M w H hle hR
  obtain rfl := hR
  refine WR.step (Ex.assign rfl) (Wn.none rfl) rfl rfl ?_
  refine WR.nil ?_
  refine WQ.then ?_
  refine WC.ret ?_
  (repeat (first | refine WQ.thenRet ?_ | refine WQ.inBlockRet ?_ | refine WQ.cutRet ?_ | refine WQ.scRet ?_))
  obtain rfl := Option.some.inj h
  exact WQ.ret1 rfl rfl H.ext rfl
theorem basic_Blank_ct {p0 : UInt8} {r : Bool} (h : basic_Blank p0 = some r) : Ct Tryd.prog 51 [encB p0] (fun M => True) (fun v M => v = Value.bool r) := by
  refine Ct.of Tryd.func51 (enters Tryd.func51 (by kernel_rfl) rfl) rfl rfl rfl ?_
  intro w0 M0 H hp
  unfold basic_Blank at h
  refine WC.seq ?_
  refine WC.region ?_
  refine WR.step (Ex.assign rfl) (Wn.none rfl) rfl rfl ?_
  refine WR.nil ?_
  refine WQ.then ?_
  refine WC.seq ?_
  obtain ⟨o1, e2, h⟩ := bnd h
  refine WC.cutX (fun e w => ∃ (b3 : Bool) (M : Mem), e = [(2, Value.bool b3)] ∧ St w0 M0 M [] w ∧ some b3 = some o1) [] ?_ ?_ (trivial)
  ·
    by_cases hk4 : p0 = 32
    ·
      rw [if_pos hk4] at e2
      refine WC.region ?_
      refine WR.step (Ex.move rfl) (Wn.none rfl) rfl rfl ?_
      refine WR.stepE (v' := .bool true) (Ex.eqlB (c := p0) (d := 32) rfl rfl) (congrArg Value.bool (decide_eq_true hk4)) (Wn.none rfl) rfl rfl ?_
      refine WR.step (Ex.move rfl) (Wn.none rfl) rfl rfl ?_
      refine WR.skipG (b := true) rfl rfl rfl rfl rfl ?_
      refine WR.skipG (b := true) rfl rfl rfl rfl rfl ?_
      refine WR.step (Ex.pickT rfl rfl) (Wn.none rfl) rfl rfl ?_
      refine WR.step (Ex.assign rfl) (Wn.none rfl) rfl rfl ?_
      refine WR.nil ?_
      exact WQ.meetN [(2, _)] ⟨rfl, trivial⟩ ⟨_, _, rfl, H, e2⟩
    ·
      rw [if_neg hk4] at e2
      refine WC.region ?_
      refine WR.step (Ex.move rfl) (Wn.none rfl) rfl rfl ?_
      refine WR.stepE (v' := .bool false) (Ex.eqlB (c := p0) (d := 32) rfl rfl) (congrArg Value.bool (decide_eq_false hk4)) (Wn.none rfl) rfl rfl ?_
      refine WR.step (Ex.move rfl) (Wn.none rfl) rfl rfl ?_
      refine WR.step (Ex.move rfl) (Wn.some rfl rfl rfl) rfl rfl ?_
      refine WR.step (Ex.eqlB (c := p0) (d := 9) rfl rfl) (Wn.some rfl rfl rfl) rfl rfl ?_
      refine WR.step (Ex.pickF rfl rfl) (Wn.none rfl) rfl rfl ?_
      refine WR.step (Ex.assign rfl) (Wn.none rfl) rfl rfl ?_
      refine WR.nil ?_
      exact WQ.meetN [(2, _)] ⟨rfl, trivial⟩ ⟨_, _, rfl, H, e2⟩
  ·
    rintro e w ⟨b3, M, rfl, H, q5⟩
    obtain rfl := Option.some.inj q5
    refine WQ.then ?_
    refine WC.ret ?_
    (repeat (first | refine WQ.thenRet ?_ | refine WQ.inBlockRet ?_ | refine WQ.cutRet ?_ | refine WQ.scRet ?_))
    obtain rfl := Option.some.inj h
    exact WQ.ret1 rfl rfl H.ext rfl
theorem fold_value_ct {p0 : List UInt8} {r : Bool} (h : fold_value p0 = some r) : Ct Tryd.prog 47 [S p0] (fun M => True) (fun v M => v = Value.bool r) := by
  refine Ct.of Tryd.func47 (enters Tryd.func47 (by kernel_rfl) rfl) rfl rfl rfl ?_
  intro w0 M0 H hp
  unfold fold_value at h
  refine WC.seq ?_
  refine WC.region ?_
  refine WR.step (Ex.assign rfl) (Wn.none rfl) rfl rfl ?_
  refine WR.nil ?_
  refine WQ.then ?_
  refine WC.seq ?_
  obtain ⟨o1, e2, h⟩ := bnd h
  refine WC.cutX (fun e w => ∃ (b3 : Bool) (M : Mem), e = [(2, Value.bool b3)] ∧ St w0 M0 M [] w ∧ some b3 = some o1) [] ?_ ?_ (trivial)
  ·
    obtain ⟨b4, hx5, e2⟩ := bnd e2
    rcases b4 with _ | _
    ·
      rw [if_neg Bool.false_ne_true] at e2
      by_cases hk6 : p0 = []
      ·
        rw [if_pos hk6] at e2
        refine WC.region ?_
        refine WR.step (Ex.move rfl) (Wn.none rfl) rfl rfl ?_
        refine WR.call H (fold_ends_ct hx5) rfl trivial (Wn.none rfl) rfl ?_
        intro v4 M w H hle hR
        obtain rfl := hR
        refine WR.step (Ex.not rfl) (Wn.none rfl) rfl rfl ?_
        refine WR.step (Ex.move rfl) (Wn.none rfl) rfl rfl ?_
        refine WR.step (Ex.move rfl) (Wn.some rfl rfl rfl) rfl rfl ?_
        refine WR.stepE (v' := .bool true) (Ex.strEql rfl rfl) (congrArg Value.bool (decide_eq_true hk6)) (Wn.some rfl rfl rfl) rfl rfl ?_
        refine WR.step (Ex.move rfl) (Wn.some rfl rfl rfl) rfl rfl ?_
        refine WR.skipG (b := true) rfl rfl rfl rfl rfl ?_
        refine WR.skipG (b := true) rfl rfl rfl rfl rfl ?_
        refine WR.skipG (b := true) rfl rfl rfl rfl rfl ?_
        refine WR.skipG (b := true) rfl rfl rfl rfl rfl ?_
        refine WR.skipG (b := true) rfl rfl rfl rfl rfl ?_
        refine WR.skipU rfl rfl rfl rfl rfl ?_
        refine WR.skipU rfl rfl rfl rfl rfl ?_
        refine WR.skipU rfl rfl rfl rfl rfl ?_
        refine WR.skipU rfl rfl rfl rfl rfl ?_
        refine WR.skipU rfl rfl rfl rfl rfl ?_
        refine WR.skipU rfl rfl rfl rfl rfl ?_
        refine WR.skipU rfl rfl rfl rfl rfl ?_
        refine WR.skipG (b := true) rfl rfl rfl rfl rfl ?_
        refine WR.step (Ex.pickT rfl rfl) (Wn.some rfl rfl rfl) rfl rfl ?_
        refine WR.step (Ex.pickT rfl rfl) (Wn.none rfl) rfl rfl ?_
        refine WR.step (Ex.assign rfl) (Wn.none rfl) rfl rfl ?_
        refine WR.nil ?_
        exact WQ.meetN [(2, _)] ⟨rfl, trivial⟩ ⟨_, _, rfl, H, e2⟩
      ·
        rw [if_neg hk6] at e2
        obtain ⟨c7, hxc7, e2⟩ := bnd e2
        obtain ⟨b8, hx9, e2⟩ := bnd e2
        rcases b8 with _ | _
        ·
          rw [if_neg Bool.false_ne_true] at e2
          obtain ⟨n10, hxn10, e2⟩ := bnd e2
          obtain ⟨c11, hxc11, e2⟩ := bnd e2
          obtain ⟨b12, hx13, e2⟩ := bnd e2
          refine WC.region ?_
          refine WR.step (Ex.move rfl) (Wn.none rfl) rfl rfl ?_
          refine WR.call H (fold_ends_ct hx5) rfl trivial (Wn.none rfl) rfl ?_
          intro v4 M w H hle hR
          obtain rfl := hR
          refine WR.step (Ex.not rfl) (Wn.none rfl) rfl rfl ?_
          refine WR.step (Ex.move rfl) (Wn.none rfl) rfl rfl ?_
          refine WR.step (Ex.move rfl) (Wn.some rfl rfl rfl) rfl rfl ?_
          refine WR.stepE (v' := .bool false) (Ex.strEql rfl rfl) (congrArg Value.bool (decide_eq_false hk6)) (Wn.some rfl rfl rfl) rfl rfl ?_
          refine WR.step (Ex.move rfl) (Wn.some rfl rfl rfl) rfl rfl ?_
          refine WR.step (Ex.move rfl) (Wn.some rfl rfl rfl) rfl rfl ?_
          refine WR.step (Ex.idxStrC Tryd.underlying9 rfl rfl hxc7) (Wn.some rfl rfl rfl) rfl rfl ?_
          refine WR.call H (basic_Blank_ct hx9) rfl trivial (Wn.some rfl rfl rfl) rfl ?_
          intro v12 M w H hle hR
          obtain rfl := hR
          refine WR.step (Ex.not rfl) (Wn.some rfl rfl rfl) rfl rfl ?_
          refine WR.step (Ex.move rfl) (Wn.some rfl rfl rfl) rfl rfl ?_
          refine WR.step (Ex.move rfl) (Wn.some rfl rfl rfl) rfl rfl ?_
          refine WR.step (Ex.move rfl) (Wn.some rfl rfl rfl) rfl rfl ?_
          refine WR.step (Ex.lenStr Tryd.underlying9 rfl) (Wn.some rfl rfl rfl) rfl rfl ?_
          refine WR.step (Ex.subC rfl rfl hxn10) (Wn.some rfl rfl rfl) rfl rfl ?_
          refine WR.step (Ex.idxStrC Tryd.underlying9 rfl rfl hxc11) (Wn.some rfl rfl rfl) rfl rfl ?_
          refine WR.call H (basic_Blank_ct hx13) rfl trivial (Wn.some rfl rfl rfl) rfl ?_
          intro v20 M w H hle hR
          obtain rfl := hR
          refine WR.step (Ex.not rfl) (Wn.some rfl rfl rfl) rfl rfl ?_
          refine WR.step (Ex.pickT rfl rfl) (Wn.some rfl rfl rfl) rfl rfl ?_
          refine WR.step (Ex.pickF rfl rfl) (Wn.some rfl rfl rfl) rfl rfl ?_
          refine WR.step (Ex.pickT rfl rfl) (Wn.none rfl) rfl rfl ?_
          refine WR.step (Ex.assign rfl) (Wn.none rfl) rfl rfl ?_
          refine WR.nil ?_
          exact WQ.meetN [(2, _)] ⟨rfl, trivial⟩ ⟨_, _, rfl, H, e2⟩
        ·
          rw [if_pos rfl] at e2
          refine WC.region ?_
          refine WR.step (Ex.move rfl) (Wn.none rfl) rfl rfl ?_
          refine WR.call H (fold_ends_ct hx5) rfl trivial (Wn.none rfl) rfl ?_
          intro v4 M w H hle hR
          obtain rfl := hR
          refine WR.step (Ex.not rfl) (Wn.none rfl) rfl rfl ?_
          refine WR.step (Ex.move rfl) (Wn.none rfl) rfl rfl ?_
          refine WR.step (Ex.move rfl) (Wn.some rfl rfl rfl) rfl rfl ?_
          refine WR.stepE (v' := .bool false) (Ex.strEql rfl rfl) (congrArg Value.bool (decide_eq_false hk6)) (Wn.some rfl rfl rfl) rfl rfl ?_
          refine WR.step (Ex.move rfl) (Wn.some rfl rfl rfl) rfl rfl ?_
          refine WR.step (Ex.move rfl) (Wn.some rfl rfl rfl) rfl rfl ?_
          refine WR.step (Ex.idxStrC Tryd.underlying9 rfl rfl hxc7) (Wn.some rfl rfl rfl) rfl rfl ?_
          refine WR.call H (basic_Blank_ct hx9) rfl trivial (Wn.some rfl rfl rfl) rfl ?_
          intro v12 M w H hle hR
          obtain rfl := hR
          refine WR.step (Ex.not rfl) (Wn.some rfl rfl rfl) rfl rfl ?_
          refine WR.step (Ex.move rfl) (Wn.some rfl rfl rfl) rfl rfl ?_
          refine WR.skipG (b := false) rfl rfl rfl rfl rfl ?_
          refine WR.skipG (b := false) rfl rfl rfl rfl rfl ?_
          refine WR.skipG (b := false) rfl rfl rfl rfl rfl ?_
          refine WR.skipG (b := false) rfl rfl rfl rfl rfl ?_
          refine WR.skipG (b := false) rfl rfl rfl rfl rfl ?_
          refine WR.skipG (b := false) rfl rfl rfl rfl rfl ?_
          refine WR.skipG (b := false) rfl rfl rfl rfl rfl ?_
          refine WR.step (Ex.pickF rfl rfl) (Wn.some rfl rfl rfl) rfl rfl ?_
          refine WR.step (Ex.pickF rfl rfl) (Wn.some rfl rfl rfl) rfl rfl ?_
          refine WR.step (Ex.pickT rfl rfl) (Wn.none rfl) rfl rfl ?_
          refine WR.step (Ex.assign rfl) (Wn.none rfl) rfl rfl ?_
          refine WR.nil ?_
          exact WQ.meetN [(2, _)] ⟨rfl, trivial⟩ ⟨_, _, rfl, H, e2⟩
    ·
      rw [if_pos rfl] at e2
      refine WC.region ?_
      refine WR.step (Ex.move rfl) (Wn.none rfl) rfl rfl ?_
      refine WR.call H (fold_ends_ct hx5) rfl trivial (Wn.none rfl) rfl ?_
      intro v4 M w H hle hR
      obtain rfl := hR
      refine WR.step (Ex.not rfl) (Wn.none rfl) rfl rfl ?_
      refine WR.step (Ex.move rfl) (Wn.none rfl) rfl rfl ?_
      refine WR.skipG (b := false) rfl rfl rfl rfl rfl ?_
      refine WR.skipG (b := false) rfl rfl rfl rfl rfl ?_
      refine WR.skipG (b := false) rfl rfl rfl rfl rfl ?_
      refine WR.skipU rfl rfl rfl rfl rfl ?_
      refine WR.skipU rfl rfl rfl rfl rfl ?_
      refine WR.skipU rfl rfl rfl rfl rfl ?_
      refine WR.skipU rfl rfl rfl rfl rfl ?_
      refine WR.skipU rfl rfl rfl rfl rfl ?_
      refine WR.skipU rfl rfl rfl rfl rfl ?_
      refine WR.skipU rfl rfl rfl rfl rfl ?_
      refine WR.skipU rfl rfl rfl rfl rfl ?_
      refine WR.skipU rfl rfl rfl rfl rfl ?_
      refine WR.skipU rfl rfl rfl rfl rfl ?_
      refine WR.skipU rfl rfl rfl rfl rfl ?_
      refine WR.skipU rfl rfl rfl rfl rfl ?_
      refine WR.skipU rfl rfl rfl rfl rfl ?_
      refine WR.skipG (b := false) rfl rfl rfl rfl rfl ?_
      refine WR.step (Ex.pickF rfl rfl) (Wn.none rfl) rfl rfl ?_
      refine WR.step (Ex.assign rfl) (Wn.none rfl) rfl rfl ?_
      refine WR.nil ?_
      exact WQ.meetN [(2, _)] ⟨rfl, trivial⟩ ⟨_, _, rfl, H, e2⟩
  ·
    rintro e w ⟨b3, M, rfl, H, q14⟩
    obtain rfl := Option.some.inj q14
    refine WQ.then ?_
    refine WC.ret ?_
    (repeat (first | refine WQ.thenRet ?_ | refine WQ.inBlockRet ?_ | refine WQ.cutRet ?_ | refine WQ.scRet ?_))
    obtain rfl := Option.some.inj h
    exact WQ.ret1 rfl rfl H.ext rfl
theorem fold_point_ct {p0 : List UInt8} {p1 : Int} {r : Int} (h : fold_point p0 p1 = some r) : Ct Tryd.prog 48 [S p0, I p1] (fun M => True) (fun v M => v = I r) := by
  refine Ct.of Tryd.func48 (enters Tryd.func48 (by kernel_rfl) rfl) rfl rfl rfl ?_
  intro w0 M0 H hp
  unfold fold_point at h
  refine WC.seq ?_
  refine WC.region ?_
  refine WR.step (Ex.assign rfl) (Wn.none rfl) rfl rfl ?_
  refine WR.nil ?_
  refine WQ.then ?_
  refine WC.seq ?_
  refine WC.region ?_
  refine WR.step (Ex.assign rfl) (Wn.none rfl) rfl rfl ?_
  refine WR.nil ?_
  refine WQ.then ?_
  refine WC.seq ?_
  refine WC.seq ?_
  refine WC.region ?_
  refine WR.step (Ex.move rfl) (Wn.none rfl) rfl rfl ?_
  refine WR.step (Ex.max2 rfl rfl) (Wn.none rfl) rfl rfl ?_
  refine WR.step (Ex.assign rfl) (Wn.none rfl) rfl rfl ?_
  refine WR.nil ?_
  refine WQ.then ?_
  obtain ⟨o1, e2, h⟩ := bnd h
  refine WC.cutX (fun e w => ∃ (n3 : Int) (M : Mem), e = [(5, I n3)] ∧ St w0 M0 M [] w ∧ some n3 = some o1) [] ?_ ?_ (trivial)
  ·
    refine WC.block ?_
    refine WC.loopP (fun m e w => ∃ (n4 : Int) (n5 : Int) (M : Mem), e = [(0, S p0), (5, I n4), (6, I n5)] ∧ St w0 M0 M [] w ∧ fold_point_L1 p0 m n4 n5 = some o1) FU [(0, _), (5, _), (6, _)] ⟨rfl, rfl, rfl, trivial⟩ ⟨_, _, _, rfl, H, e2⟩ ?_
    rintro m6 e w ⟨n4, n5, M, rfl, H, e2⟩
    rcases m6 with _ | m6
    · rw [fold_point_L1] at e2; cases e2
    rw [fold_point_L1] at e2
    refine WC.seq ?_
    refine WC.seq ?_
    refine WC.region ?_
    refine WR.step (Ex.move rfl) (Wn.none rfl) rfl rfl ?_
    refine WR.step (Ex.move rfl) (Wn.none rfl) rfl rfl ?_
    refine WR.step (Ex.lenStr Tryd.underlying9 rfl) (Wn.none rfl) rfl rfl ?_
    refine WR.step (Ex.lss rfl rfl) (Wn.none rfl) rfl rfl ?_
    refine WR.nil ?_
    refine WQ.then ?_
    refine WC.condB rfl (fun hk7 => ?_) (fun hk7 => ?_)
    ·
      replace hk7 : n5 < (p0.length : Int) := of_decide_eq_true hk7
      rw [if_pos hk7] at e2
      refine WC.skip ?_
      refine WQ.then ?_
      refine WC.seq ?_
      refine WC.block ?_
      refine WC.seq ?_
      refine WC.seq ?_
      obtain ⟨o8, e9, e2⟩ := bnd e2
      refine WC.cutX (fun e w => ∃ (b10 : Bool) (M : Mem), e = [(0, S p0), (5, I n4), (6, I n5), (26, Value.bool b10)] ∧ St w0 M0 M [] w ∧ some b10 = some o8) [] ?_ ?_ (trivial)
      ·
        obtain ⟨c11, hxc11, e9⟩ := bnd e9
        obtain ⟨b12, hx13, e9⟩ := bnd e9
        rcases b12 with _ | _
        ·
          rw [if_neg Bool.false_ne_true] at e9
          refine WC.region ?_
          refine WR.step (Ex.move rfl) (Wn.none rfl) rfl rfl ?_
          refine WR.step (Ex.move rfl) (Wn.none rfl) rfl rfl ?_
          refine WR.step (Ex.idxStrC Tryd.underlying9 rfl rfl hxc11) (Wn.none rfl) rfl rfl ?_
          refine WR.call H (basic_Blank_ct hx13) rfl trivial (Wn.none rfl) rfl ?_
          intro v18 M w H hle hR
          obtain rfl := hR
          refine WR.step (Ex.not rfl) (Wn.none rfl) rfl rfl ?_
          refine WR.step (Ex.move rfl) (Wn.none rfl) rfl rfl ?_
          refine WR.skipG (b := true) rfl rfl rfl rfl rfl ?_
          refine WR.skipG (b := true) rfl rfl rfl rfl rfl ?_
          refine WR.skipG (b := true) rfl rfl rfl rfl rfl ?_
          refine WR.skipG (b := true) rfl rfl rfl rfl rfl ?_
          refine WR.skipG (b := true) rfl rfl rfl rfl rfl ?_
          refine WR.step (Ex.pickT rfl rfl) (Wn.none rfl) rfl rfl ?_
          refine WR.nil ?_
          exact WQ.meetN [(0, _), (5, _), (6, _), (26, _)] ⟨rfl, rfl, rfl, rfl, trivial⟩ ⟨_, _, rfl, H, e9⟩
        ·
          rw [if_pos rfl] at e9
          obtain ⟨n14, hxn14, e9⟩ := bnd e9
          obtain ⟨c15, hxc15, e9⟩ := bnd e9
          obtain ⟨b16, hx17, e9⟩ := bnd e9
          refine WC.region ?_
          refine WR.step (Ex.move rfl) (Wn.none rfl) rfl rfl ?_
          refine WR.step (Ex.move rfl) (Wn.none rfl) rfl rfl ?_
          refine WR.step (Ex.idxStrC Tryd.underlying9 rfl rfl hxc11) (Wn.none rfl) rfl rfl ?_
          refine WR.call H (basic_Blank_ct hx13) rfl trivial (Wn.none rfl) rfl ?_
          intro v18 M w H hle hR
          obtain rfl := hR
          refine WR.step (Ex.not rfl) (Wn.none rfl) rfl rfl ?_
          refine WR.step (Ex.move rfl) (Wn.none rfl) rfl rfl ?_
          refine WR.step (Ex.move rfl) (Wn.some rfl rfl rfl) rfl rfl ?_
          refine WR.step (Ex.move rfl) (Wn.some rfl rfl rfl) rfl rfl ?_
          refine WR.step (Ex.subC rfl rfl hxn14) (Wn.some rfl rfl rfl) rfl rfl ?_
          refine WR.step (Ex.idxStrC Tryd.underlying9 rfl rfl hxc15) (Wn.some rfl rfl rfl) rfl rfl ?_
          refine WR.call H (basic_Blank_ct hx17) rfl trivial (Wn.some rfl rfl rfl) rfl ?_
          intro v25 M w H hle hR
          obtain rfl := hR
          refine WR.step (Ex.pickF rfl rfl) (Wn.none rfl) rfl rfl ?_
          refine WR.nil ?_
          exact WQ.meetN [(0, _), (5, _), (6, _), (26, _)] ⟨rfl, rfl, rfl, rfl, trivial⟩ ⟨_, _, rfl, H, e9⟩
      ·
        rintro e w ⟨b10, M, rfl, H, q18⟩
        obtain rfl := Option.some.inj q18
        refine WQ.then ?_
        refine WC.condB rfl (fun hk19 => ?_) (fun hk19 => ?_)
        ·
          subst hk19
          rw [if_pos rfl] at e2
          refine WC.exit ?_
          refine WQ.thenExit ?_
          refine WQ.exitHere ?_
          refine WQ.then ?_
          obtain ⟨n20, hxn20, e2⟩ := bnd e2
          refine WC.region ?_
          refine WR.step (Ex.move rfl) (Wn.none rfl) rfl rfl ?_
          refine WR.step (Ex.addC rfl rfl hxn20) (Wn.none rfl) rfl rfl ?_
          refine WR.step (Ex.assign rfl) (Wn.none rfl) rfl rfl ?_
          refine WR.nil ?_
          exact WQ.againP m6 [(0, _), (5, _), (6, _)] ⟨rfl, rfl, rfl, trivial⟩ ⟨_, _, _, rfl, H, e2⟩ (Nat.lt_succ_self _)
        ·
          subst hk19
          rw [if_neg Bool.false_ne_true] at e2
          refine WC.skip ?_
          refine WQ.then ?_
          refine WC.seq ?_
          refine WC.seq ?_
          obtain ⟨o21, e22, e2⟩ := bnd e2
          refine WC.cutX (fun e w => ∃ (b23 : Bool) (M : Mem), e = [(0, S p0), (5, I n4), (6, I n5), (32, Value.bool b23)] ∧ St w0 M0 M [] w ∧ some b23 = some o21) [] ?_ ?_ (trivial)
          ·
            by_cases hk24 : (0 : Int) < n4
            ·
              rw [if_pos hk24] at e22
              refine WC.region ?_
              refine WR.step (Ex.move rfl) (Wn.none rfl) rfl rfl ?_
              refine WR.stepE (v' := .bool true) (Ex.gtr rfl rfl) (congrArg Value.bool (decide_eq_true hk24)) (Wn.none rfl) rfl rfl ?_
              refine WR.step (Ex.move rfl) (Wn.none rfl) rfl rfl ?_
              refine WR.step (Ex.move rfl) (Wn.some rfl rfl rfl) rfl rfl ?_
              refine WR.step (Ex.gtr rfl rfl) (Wn.some rfl rfl rfl) rfl rfl ?_
              refine WR.step (Ex.pickT rfl rfl) (Wn.none rfl) rfl rfl ?_
              refine WR.nil ?_
              exact WQ.meetN [(0, _), (5, _), (6, _), (32, _)] ⟨rfl, rfl, rfl, rfl, trivial⟩ ⟨_, _, rfl, H, e22⟩
            ·
              rw [if_neg hk24] at e22
              refine WC.region ?_
              refine WR.step (Ex.move rfl) (Wn.none rfl) rfl rfl ?_
              refine WR.stepE (v' := .bool false) (Ex.gtr rfl rfl) (congrArg Value.bool (decide_eq_false hk24)) (Wn.none rfl) rfl rfl ?_
              refine WR.step (Ex.move rfl) (Wn.none rfl) rfl rfl ?_
              refine WR.skipG (b := false) rfl rfl rfl rfl rfl ?_
              refine WR.skipG (b := false) rfl rfl rfl rfl rfl ?_
              refine WR.step (Ex.pickF rfl rfl) (Wn.none rfl) rfl rfl ?_
              refine WR.nil ?_
              exact WQ.meetN [(0, _), (5, _), (6, _), (32, _)] ⟨rfl, rfl, rfl, rfl, trivial⟩ ⟨_, _, rfl, H, e22⟩
          ·
            rintro e w ⟨b23, M, rfl, H, q25⟩
            obtain rfl := Option.some.inj q25
            refine WQ.then ?_
            refine WC.condB rfl (fun hk26 => ?_) (fun hk26 => ?_)
            ·
              subst hk26
              rw [if_pos rfl] at e2
              refine WC.exit ?_
              refine WQ.thenExit ?_
              refine WQ.exitOut rfl ?_
              refine WQ.thenExit ?_
              refine WQ.thenExit ?_
              refine WQ.exitHere ?_
              exact WQ.meetN [(5, _)] ⟨rfl, trivial⟩ ⟨_, _, rfl, H, e2⟩
            ·
              subst hk26
              rw [if_neg Bool.false_ne_true] at e2
              refine WC.skip ?_
              refine WQ.then ?_
              refine WC.region ?_
              refine WR.step (Ex.move rfl) (Wn.none rfl) rfl rfl ?_
              refine WR.step (Ex.assign rfl) (Wn.none rfl) rfl rfl ?_
              refine WR.nil ?_
              refine WQ.inBlock ?_
              refine WQ.then ?_
              obtain ⟨n27, hxn27, e2⟩ := bnd e2
              refine WC.region ?_
              refine WR.step (Ex.move rfl) (Wn.none rfl) rfl rfl ?_
              refine WR.step (Ex.addC rfl rfl hxn27) (Wn.none rfl) rfl rfl ?_
              refine WR.step (Ex.assign rfl) (Wn.none rfl) rfl rfl ?_
              refine WR.nil ?_
              exact WQ.againP m6 [(0, _), (5, _), (6, _)] ⟨rfl, rfl, rfl, trivial⟩ ⟨_, _, _, rfl, H, e2⟩ (Nat.lt_succ_self _)
    ·
      replace hk7 : ¬ (n5 < (p0.length : Int)) := of_decide_eq_false hk7
      rw [if_neg hk7] at e2
      refine WC.exit ?_
      refine WQ.thenExit ?_
      refine WQ.thenExit ?_
      refine WQ.exitHere ?_
      exact WQ.meetN [(5, _)] ⟨rfl, trivial⟩ ⟨_, _, rfl, H, e2⟩
  ·
    rintro e w ⟨n3, M, rfl, H, q28⟩
    obtain rfl := Option.some.inj q28
    refine WQ.then ?_
    refine WC.seq ?_
    refine WC.region ?_
    refine WR.step (Ex.move rfl) (Wn.none rfl) rfl rfl ?_
    refine WR.step (Ex.assign rfl) (Wn.none rfl) rfl rfl ?_
    refine WR.nil ?_
    refine WQ.then ?_
    refine WC.ret ?_
    (repeat (first | refine WQ.thenRet ?_ | refine WQ.inBlockRet ?_ | refine WQ.cutRet ?_ | refine WQ.scRet ?_))
    obtain rfl := Option.some.inj h
    exact WQ.ret1 rfl rfl H.ext rfl
theorem basic_None_ct  {r : (Int × Int)} (h : basic_None = some r) : Ct Tryd.prog 36 [] (fun M => True) (fun v M => v = Value.agg #[I r.1, I r.2]) := by
  refine Ct.of Tryd.func36 (enters Tryd.func36 (by kernel_rfl) rfl) rfl rfl rfl ?_
  intro w0 M0 H hp
  unfold basic_None at h
  refine WC.seq ?_
  refine WC.region ?_
  refine WR.alloc [_, _] H Tryd.zeroValue25 rfl (Wn.none rfl) rfl ?_
  intro b0 w H
  refine WR.nil ?_
  refine WQ.then ?_
  refine WC.seq ?_
  refine WC.region ?_
  refine WR.step (Ex.build [_, _] Tryd.underlying25 Tryd.zeroValue25 (xplaces25 Tryd.underlying25) rfl rfl) (Wn.none rfl) rfl rfl ?_
  refine WR.store [_, _] H rfl rfl rfl (by repeat (first | exact Upd.head | apply Upd.tail)) Tryd.sizeOf25 rfl (by rfl) (by rfl) (Wn.none rfl) ?_
  intro w H
  refine WR.nil ?_
  refine WQ.then ?_
  refine WC.ret ?_
  (repeat (first | refine WQ.thenRet ?_ | refine WQ.inBlockRet ?_ | refine WQ.cutRet ?_ | refine WQ.scRet ?_))
  obtain rfl := Option.some.inj h
  exact WQ.ret1 rfl ⟨_, rfl, H.loadAgg (by repeat (first | exact List.Mem.head _ | apply List.Mem.tail)) Tryd.isAgg25 Tryd.sizeOf25 (by rfl)⟩ H.ext rfl
theorem fold_Fold_ct {p0 : List UInt8} {p1 : List UInt8} {r : (List (List UInt8) × (Int × Int))} (h : fold_Fold p0 p1 = some r) : Ct Tryd.prog 24 [S p0, S p1] (fun M => True) (fun v M => ∃ x0, v = Value.tuple #[x0, Value.agg #[I r.2.1, I r.2.2]] ∧ Sl M encS x0 r.1) := by
  refine Ct.of Tryd.func24 (enters Tryd.func24 (by kernel_rfl) rfl) rfl rfl rfl ?_
  intro w0 M0 H hp
  unfold fold_Fold at h
  refine WC.seq ?_
  refine WC.region ?_
  refine WR.step (Ex.assign rfl) (Wn.none rfl) rfl rfl ?_
  refine WR.alloc [_, _] H Tryd.zeroValue25 rfl (Wn.none rfl) rfl ?_
  intro b5 w H
  refine WR.nil ?_
  refine WQ.then ?_
  refine WC.seq ?_
  refine WC.block ?_
  refine WC.seq ?_
  obtain ⟨b1, hx2, h⟩ := bnd h
  refine WC.region ?_
  refine WR.step (Ex.move rfl) (Wn.none rfl) rfl rfl ?_
  refine WR.call H (fold_name_ct hx2) rfl trivial (Wn.none rfl) rfl ?_
  intro v14 M w H hle hR
  obtain rfl := hR
  refine WR.step (Ex.not rfl) (Wn.none rfl) rfl rfl ?_
  refine WR.step (Ex.assign rfl) (Wn.none rfl) rfl rfl ?_
  refine WR.nil ?_
  refine WQ.then ?_
  refine WC.condB rfl (fun hk3 => ?_) (fun hk3 => ?_)
  ·
    replace hk3 : b1 = false := by simpa using hk3
    subst hk3
    rw [if_neg Bool.false_ne_true] at h
    refine WC.seq ?_
    obtain ⟨⟨n4, n5⟩, hx6, h⟩ := bnd h
    try dsimp only at h
    refine WC.region ?_
    refine WR.call H (basic_Fault_ct hx6) rfl trivial (Wn.none rfl) rfl ?_
    intro v16 M w H hle hR
    try dsimp only at hR
    obtain rfl := hR
    refine WR.step (Ex.assign rfl) (Wn.none rfl) rfl rfl ?_
    refine WR.store [_, _] H rfl rfl rfl (by repeat (first | exact Upd.head | apply Upd.tail)) Tryd.sizeOf25 rfl (by rfl) (by rfl) (Wn.none rfl) ?_
    intro w H
    refine WR.nil ?_
    refine WQ.then ?_
    refine WC.ret ?_
    (repeat (first | refine WQ.thenRet ?_ | refine WQ.inBlockRet ?_ | refine WQ.cutRet ?_ | refine WQ.scRet ?_))
    obtain rfl := Option.some.inj h
    exact WQ.ret2 rfl rfl ⟨_, rfl, H.loadAgg (by repeat (first | exact List.Mem.head _ | apply List.Mem.tail)) Tryd.isAgg25 Tryd.sizeOf25 (by rfl)⟩ H.ext (⟨_, rfl, Sl.nil _ _⟩)
  ·
    replace hk3 : b1 = true := by simpa using hk3
    subst hk3
    rw [if_pos rfl] at h
    refine WC.seq ?_
    refine WC.region ?_
    refine WR.step (Ex.move rfl) (Wn.none rfl) rfl rfl ?_
    refine WR.step (Ex.lenStr Tryd.underlying9 rfl) (Wn.none rfl) rfl rfl ?_
    refine WR.step (Ex.gtr rfl rfl) (Wn.none rfl) rfl rfl ?_
    refine WR.step (Ex.assign rfl) (Wn.none rfl) rfl rfl ?_
    refine WR.nil ?_
    refine WQ.then ?_
    refine WC.condB rfl (fun hk7 => ?_) (fun hk7 => ?_)
    ·
      replace hk7 : (4000 : Int) < (p1.length : Int) := of_decide_eq_true hk7
      rw [if_pos hk7] at h
      refine WC.seq ?_
      obtain ⟨⟨n8, n9⟩, hx10, h⟩ := bnd h
      try dsimp only at h
      refine WC.region ?_
      refine WR.call H (basic_Fault_ct hx10) rfl trivial (Wn.none rfl) rfl ?_
      intro v21 M w H hle hR
      try dsimp only at hR
      obtain rfl := hR
      refine WR.step (Ex.assign rfl) (Wn.none rfl) rfl rfl ?_
      refine WR.store [_, _] H rfl rfl rfl (by repeat (first | exact Upd.head | apply Upd.tail)) Tryd.sizeOf25 rfl (by rfl) (by rfl) (Wn.none rfl) ?_
      intro w H
      refine WR.nil ?_
      refine WQ.then ?_
      refine WC.ret ?_
      (repeat (first | refine WQ.thenRet ?_ | refine WQ.inBlockRet ?_ | refine WQ.cutRet ?_ | refine WQ.scRet ?_))
      obtain rfl := Option.some.inj h
      exact WQ.ret2 rfl rfl ⟨_, rfl, H.loadAgg (by repeat (first | exact List.Mem.head _ | apply List.Mem.tail)) Tryd.isAgg25 Tryd.sizeOf25 (by rfl)⟩ H.ext (⟨_, rfl, Sl.nil _ _⟩)
    ·
      replace hk7 : ¬ ((4000 : Int) < (p1.length : Int)) := of_decide_eq_false hk7
      rw [if_neg hk7] at h
      refine WC.seq ?_
      obtain ⟨b11, hx12, h⟩ := bnd h
      refine WC.region ?_
      refine WR.step (Ex.move rfl) (Wn.none rfl) rfl rfl ?_
      refine WR.call H (fold_value_ct hx12) rfl trivial (Wn.none rfl) rfl ?_
      intro v24 M w H hle hR
      obtain rfl := hR
      refine WR.step (Ex.not rfl) (Wn.none rfl) rfl rfl ?_
      refine WR.step (Ex.assign rfl) (Wn.none rfl) rfl rfl ?_
      refine WR.nil ?_
      refine WQ.then ?_
      refine WC.condB rfl (fun hk13 => ?_) (fun hk13 => ?_)
      ·
        replace hk13 : b11 = false := by simpa using hk13
        subst hk13
        rw [if_neg Bool.false_ne_true] at h
        refine WC.seq ?_
        obtain ⟨⟨n14, n15⟩, hx16, h⟩ := bnd h
        try dsimp only at h
        refine WC.region ?_
        refine WR.call H (basic_Fault_ct hx16) rfl trivial (Wn.none rfl) rfl ?_
        intro v26 M w H hle hR
        try dsimp only at hR
        obtain rfl := hR
        refine WR.step (Ex.assign rfl) (Wn.none rfl) rfl rfl ?_
        refine WR.store [_, _] H rfl rfl rfl (by repeat (first | exact Upd.head | apply Upd.tail)) Tryd.sizeOf25 rfl (by rfl) (by rfl) (Wn.none rfl) ?_
        intro w H
        refine WR.nil ?_
        refine WQ.then ?_
        refine WC.ret ?_
        (repeat (first | refine WQ.thenRet ?_ | refine WQ.inBlockRet ?_ | refine WQ.cutRet ?_ | refine WQ.scRet ?_))
        obtain rfl := Option.some.inj h
        exact WQ.ret2 rfl rfl ⟨_, rfl, H.loadAgg (by repeat (first | exact List.Mem.head _ | apply List.Mem.tail)) Tryd.isAgg25 Tryd.sizeOf25 (by rfl)⟩ H.ext (⟨_, rfl, Sl.nil _ _⟩)
      ·
        replace hk13 : b11 = true := by simpa using hk13
        subst hk13
        rw [if_pos rfl] at h
        refine WC.skip ?_
        refine WQ.inBlock ?_
        refine WQ.then ?_
        refine WC.seq ?_
        obtain ⟨s17, hxs17, h⟩ := bnd h
        obtain ⟨s18, hxs18, h⟩ := bnd h
        obtain ⟨n19, hxn19, h⟩ := bnd h
        refine WC.region ?_
        refine WR.step (Ex.move rfl) (Wn.none rfl) rfl rfl ?_
        refine WR.step (Ex.strAddC rfl rfl hxs17) (Wn.none rfl) rfl rfl ?_
        refine WR.step (Ex.move rfl) (Wn.none rfl) rfl rfl ?_
        refine WR.step (Ex.strAddC rfl rfl hxs18) (Wn.none rfl) rfl rfl ?_
        refine WR.step (Ex.move rfl) (Wn.none rfl) rfl rfl ?_
        refine WR.step (Ex.lenStr Tryd.underlying9 rfl) (Wn.none rfl) rfl rfl ?_
        refine WR.step (Ex.addC rfl rfl hxn19) (Wn.none rfl) rfl rfl ?_
        refine WR.step (Ex.assign rfl) (Wn.none rfl) rfl rfl ?_
        refine WR.step (Ex.assign rfl) (Wn.none rfl) rfl rfl ?_
        refine WR.nil ?_
        refine WQ.then ?_
        refine WC.seq ?_
        refine WC.region ?_
        refine WR.step (Ex.assign rfl) (Wn.none rfl) rfl rfl ?_
        refine WR.nil ?_
        refine WQ.then ?_
        refine WC.seq ?_
        obtain ⟨o20, e21, h⟩ := bnd h
        refine WC.cutX (fun e w => ∃ (s22 : List UInt8) (l24 : List (List UInt8)) (v25 : Value) (M : Mem), e = [(5, ptr b5 0), (6, S s22), (8, v25)] ∧ St w0 M0 M [.blk b5 (.cells #[I 0, I 0] 25), RowI 9 encS v25 l24] w ∧ some (s22, l24) = some o20) [] ?_ ?_ (trivial)
        ·
          refine WC.block ?_
          replace H := H.newRow 9 encS
          refine WC.loopP (fun m e w => ∃ (s26 : List UInt8) (n27 : Int) (l29 : List (List UInt8)) (v30 : Value) (M : Mem), e = [(5, ptr b5 0), (6, S s26), (7, I n27), (8, v30)] ∧ St w0 M0 M [.blk b5 (.cells #[I 0, I 0] 25), RowI 9 encS v30 l29] w ∧ fold_Fold_L1  m s26 n27 l29 = some o20) FU [(5, _), (6, _), (7, _), (8, _)] ⟨rfl, rfl, rfl, rfl, trivial⟩ ⟨_, _, _, _, _, rfl, (H.pick (L' := [.blk b5 (.cells #[I 0, I 0] 25), RowI 9 encS (Value.slice none 0 0) []]) (by repeat (first | exact Pick.nil | refine Pick.cons (by repeat (first | exact Rem.head | apply Rem.tail)) ?_))), e21⟩ ?_
          rintro m31 e w ⟨s26, n27, l29, v30, M, rfl, H, e21⟩
          rcases m31 with _ | m31
          · rw [fold_Fold_L1] at e21; cases e21
          rw [fold_Fold_L1] at e21
          refine WC.seq ?_
          refine WC.seq ?_
          refine WC.region ?_
          refine WR.step (Ex.move rfl) (Wn.none rfl) rfl rfl ?_
          refine WR.step (Ex.lenStr Tryd.underlying9 rfl) (Wn.none rfl) rfl rfl ?_
          refine WR.step (Ex.gtr rfl rfl) (Wn.none rfl) rfl rfl ?_
          refine WR.nil ?_
          refine WQ.then ?_
          refine WC.condB rfl (fun hk33 => ?_) (fun hk33 => ?_)
          ·
            replace hk33 : (78 : Int) < (s26.length : Int) := of_decide_eq_true hk33
            rw [if_pos hk33] at e21
            refine WC.skip ?_
            refine WQ.then ?_
            refine WC.block ?_
            refine WC.seq ?_
            obtain ⟨n34, hx35, e21⟩ := bnd e21
            refine WC.region ?_
            refine WR.step (Ex.move rfl) (Wn.none rfl) rfl rfl ?_
            refine WR.step (Ex.move rfl) (Wn.none rfl) rfl rfl ?_
            refine WR.call H (fold_point_ct hx35) rfl trivial (Wn.none rfl) rfl ?_
            intro v39 M w H hle hR
            obtain rfl := hR
            refine WR.step (Ex.assign rfl) (Wn.none rfl) rfl rfl ?_
            refine WR.nil ?_
            refine WQ.then ?_
            refine WC.seq ?_
            refine WC.seq ?_
            refine WC.region ?_
            refine WR.step (Ex.move rfl) (Wn.none rfl) rfl rfl ?_
            refine WR.step (Ex.eql rfl rfl) (Wn.none rfl) rfl rfl ?_
            refine WR.nil ?_
            refine WQ.then ?_
            refine WC.condB rfl (fun hk36 => ?_) (fun hk36 => ?_)
            ·
              replace hk36 : n34 = (0 : Int) := of_decide_eq_true hk36
              rw [if_pos hk36] at e21
              refine WC.exit ?_
              refine WQ.thenExit ?_
              refine WQ.exitOut rfl ?_
              refine WQ.thenExit ?_
              refine WQ.exitHere ?_
              exact WQ.meetN [(5, _), (6, _), (8, _)] ⟨rfl, rfl, rfl, trivial⟩ ⟨_, _, _, _, rfl, H, e21⟩
            ·
              replace hk36 : ¬ (n34 = (0 : Int)) := of_decide_eq_false hk36
              rw [if_neg hk36] at e21
              refine WC.skip ?_
              refine WQ.then ?_
              refine WC.seq ?_
              obtain ⟨s37, hxs37, e21⟩ := bnd e21
              obtain ⟨l38, hxl38, e21⟩ := bnd e21
              refine WC.region ?_
              refine WR.step (Ex.move rfl) (Wn.none rfl) rfl rfl ?_
              refine WR.step (Ex.move rfl) (Wn.none rfl) rfl rfl ?_
              refine WR.step (Ex.move rfl) (Wn.none rfl) rfl rfl ?_
              refine WR.step (Ex.sliceH Tryd.underlying9 rfl rfl hxs37) (Wn.none rfl) rfl rfl ?_
              refine WR.lit (enc := encS) xty35 ([s37] : List (List UInt8)) H rfl (by rfl) (fun _ => rfl) rfl rfl (Wn.none rfl) rfl ?_
              intro v46 M w H hle hs46
              refine WR.appC (l := l29) xty35 rfl (fun _ => rfl) H rfl (fun _ => by repeat (first | exact Upd.head | apply Upd.tail)) rfl (hs46) hxl38 (Wn.none rfl) rfl ?_
              intro v47 w H
              refine WR.step (Ex.assign rfl) (Wn.none rfl) rfl rfl ?_
              refine WR.nil ?_
              refine WQ.then ?_
              obtain ⟨s39, hxs39, e21⟩ := bnd e21
              refine WC.region ?_
              refine WR.step (Ex.move rfl) (Wn.none rfl) rfl rfl ?_
              refine WR.step (Ex.move rfl) (Wn.none rfl) rfl rfl ?_
              refine WR.step (Ex.sliceL Tryd.underlying9 rfl rfl hxs39) (Wn.none rfl) rfl rfl ?_
              refine WR.step (Ex.assign rfl) (Wn.none rfl) rfl rfl ?_
              refine WR.step (Ex.assign rfl) (Wn.none rfl) rfl rfl ?_
              refine WR.nil ?_
              refine WQ.inBlock ?_
              exact WQ.againP m31 [(5, _), (6, _), (7, _), (8, _)] ⟨rfl, rfl, rfl, rfl, trivial⟩ ⟨_, _, _, _, _, rfl, H, e21⟩ (Nat.lt_succ_self _)
          ·
            replace hk33 : ¬ ((78 : Int) < (s26.length : Int)) := of_decide_eq_false hk33
            rw [if_neg hk33] at e21
            refine WC.exit ?_
            refine WQ.thenExit ?_
            refine WQ.thenExit ?_
            refine WQ.exitHere ?_
            exact WQ.meetN [(5, _), (6, _), (8, _)] ⟨rfl, rfl, rfl, trivial⟩ ⟨_, _, _, _, rfl, H, e21⟩
        ·
          rintro e w ⟨s22, l24, v25, M, rfl, H, q40⟩
          obtain rfl := Option.some.inj q40
          try dsimp only at h
          refine WQ.then ?_
          refine WC.seq ?_
          obtain ⟨l41, hxl41, h⟩ := bnd h
          refine WC.region ?_
          refine WR.step (Ex.move rfl) (Wn.none rfl) rfl rfl ?_
          refine WR.step (Ex.move rfl) (Wn.none rfl) rfl rfl ?_
          refine WR.lit (enc := encS) xty35 ([s22] : List (List UInt8)) H rfl (by rfl) (fun _ => rfl) rfl rfl (Wn.none rfl) rfl ?_
          intro v53 M w H hle hs53
          refine WR.appC (l := l24) xty35 rfl (fun _ => rfl) H rfl (fun _ => by repeat (first | exact Upd.head | apply Upd.tail)) rfl (hs53) hxl41 (Wn.none rfl) rfl ?_
          intro v54 w H
          refine WR.step (Ex.assign rfl) (Wn.none rfl) rfl rfl ?_
          refine WR.nil ?_
          refine WQ.then ?_
          refine WC.seq ?_
          refine WC.seq ?_
          refine WC.region ?_
          refine WR.step (Ex.move rfl) (Wn.none rfl) rfl rfl ?_
          refine WR.step (Ex.lenRow (l := l41) Tryd.underlying35 H (by repeat (first | exact List.Mem.head _ | apply List.Mem.tail)) rfl) (Wn.none rfl) rfl rfl ?_
          refine WR.step (Ex.move rfl) (Wn.none rfl) rfl rfl ?_
          refine WR.nil ?_
          refine WQ.then ?_
          obtain ⟨o42, e43, h⟩ := bnd h
          refine WC.cutX (fun e w => ∃ (n44 : Int) (n45 : Int) (M : Mem), e = [(5, ptr b5 0), (8, v54)] ∧ St w0 M0 M [.blk b5 (.cells #[I n44, I n45] 25), RowI 9 encS v54 l41] w ∧ some (.inl (n44, n45)) = some o42) [] ?_ ?_ (trivial)
          ·
            refine WC.block ?_
            refine WC.loopP (fun m e w => ∃ (n46 : Int) (n47 : Int) (n48 : Int) (M : Mem), e = [(5, ptr b5 0), (8, v54), (55, v54), (56, I (l41.length : Int)), (57, I n48)] ∧ St w0 M0 M [.blk b5 (.cells #[I n46, I n47] 25), RowI 9 encS v54 l41] w ∧ fold_Fold_L2 l41 m n46 n47 n48 = some o42) FU [(5, _), (8, _), (55, _), (56, _), (57, _)] ⟨rfl, rfl, rfl, rfl, rfl, trivial⟩ ⟨_, _, _, _, rfl, H, e43⟩ ?_
            rintro m49 e w ⟨n46, n47, n48, M, rfl, H, e43⟩
            rcases m49 with _ | m49
            · rw [fold_Fold_L2] at e43; cases e43
            rw [fold_Fold_L2] at e43
            refine WC.seq ?_
            refine WC.region ?_
            refine WR.step (Ex.lss rfl rfl) (Wn.none rfl) rfl rfl ?_
            refine WR.nil ?_
            refine WQ.then ?_
            refine WC.seq ?_
            refine WC.condB rfl (fun hk50 => ?_) (fun hk50 => ?_)
            ·
              replace hk50 : n48 < (l41.length : Int) := of_decide_eq_true hk50
              rw [if_pos hk50] at e43
              refine WC.skip ?_
              refine WQ.then ?_
              refine WC.seq ?_
              refine WC.block ?_
              refine WC.seq ?_
              obtain ⟨a51, hxa51, e43⟩ := bnd e43
              refine WC.region ?_
              refine WR.step (Ex.move rfl) (Wn.none rfl) rfl rfl ?_
              refine WR.idxRowC (l := l41) H Tryd.underlying35 Tryd.sizeOf9 (by repeat (first | exact List.Mem.head _ | apply List.Mem.tail)) rfl rfl hxa51 (Wn.none rfl) rfl ?_
              intro g60 hg60
              refine WR.step (Ex.loadRowC H rfl hg60 (by repeat (first | exact List.Mem.head _ | apply List.Mem.tail)) hxa51 Tryd.isAgg9) (Wn.none rfl) rfl rfl ?_
              refine WR.step (Ex.assign rfl) (Wn.none rfl) rfl rfl ?_
              refine WR.step (Ex.assign rfl) (Wn.none rfl) rfl rfl ?_
              refine WR.nil ?_
              refine WQ.then ?_
              refine WC.seq ?_
              refine WC.region ?_
              refine WR.step (Ex.move rfl) (Wn.none rfl) rfl rfl ?_
              refine WR.step (Ex.lenStr Tryd.underlying9 rfl) (Wn.none rfl) rfl rfl ?_
              refine WR.step (Ex.gtr rfl rfl) (Wn.none rfl) rfl rfl ?_
              refine WR.nil ?_
              refine WQ.then ?_
              refine WC.condB rfl (fun hk52 => ?_) (fun hk52 => ?_)
              ·
                replace hk52 : (998 : Int) < (a51.length : Int) := of_decide_eq_true hk52
                rw [if_pos hk52] at e43
                refine WC.seq ?_
                obtain ⟨⟨n53, n54⟩, hx55, e43⟩ := bnd e43
                try dsimp only at e43
                refine WC.region ?_
                refine WR.step (Ex.move rfl) (Wn.none rfl) rfl rfl ?_
                refine WR.call H (basic_Fault_ct hx55) rfl trivial (Wn.none rfl) rfl ?_
                intro v66 M w H hle hR
                try dsimp only at hR
                obtain rfl := hR
                refine WR.step (Ex.assign rfl) (Wn.none rfl) rfl rfl ?_
                refine WR.store [_, _] H rfl rfl rfl (by repeat (first | exact Upd.head | apply Upd.tail)) Tryd.sizeOf25 rfl (by rfl) (by rfl) (Wn.none rfl) ?_
                intro w H
                refine WR.nil ?_
                refine WQ.then ?_
                refine WC.ret ?_
                (repeat (first | refine WQ.thenRet ?_ | refine WQ.inBlockRet ?_ | refine WQ.cutRet ?_ | refine WQ.scRet ?_))
                obtain rfl := Option.some.inj e43
                try dsimp only at h
                obtain rfl := Option.some.inj h
                exact WQ.ret2 rfl rfl ⟨_, rfl, H.loadAgg (by repeat (first | exact List.Mem.head _ | apply List.Mem.tail)) Tryd.isAgg25 Tryd.sizeOf25 (by rfl)⟩ H.ext (⟨_, rfl, Sl.nil _ _⟩)
              ·
                replace hk52 : ¬ ((998 : Int) < (a51.length : Int)) := of_decide_eq_false hk52
                rw [if_neg hk52] at e43
                refine WC.skip ?_
                refine WQ.inBlock ?_
                refine WQ.then ?_
                obtain ⟨n56, hxn56, e43⟩ := bnd e43
                refine WC.region ?_
                refine WR.step (Ex.addC rfl rfl hxn56) (Wn.none rfl) rfl rfl ?_
                refine WR.step (Ex.move rfl) (Wn.none rfl) rfl rfl ?_
                refine WR.nil ?_
                exact WQ.againP m49 [(5, _), (8, _), (55, _), (56, _), (57, _)] ⟨rfl, rfl, rfl, rfl, rfl, trivial⟩ ⟨_, _, _, _, rfl, H, e43⟩ (Nat.lt_succ_self _)
            ·
              replace hk50 : ¬ (n48 < (l41.length : Int)) := of_decide_eq_false hk50
              rw [if_neg hk50] at e43
              refine WC.exit ?_
              refine WQ.thenExit ?_
              refine WQ.thenExit ?_
              refine WQ.exitHere ?_
              exact WQ.meetN [(5, _), (8, _)] ⟨rfl, rfl, trivial⟩ ⟨_, _, _, rfl, H, e43⟩
          ·
            rintro e w ⟨n44, n45, M, rfl, H, q57⟩
            obtain rfl := Option.some.inj q57
            try dsimp only at h
            refine WQ.then ?_
            refine WC.seq ?_
            obtain ⟨⟨n58, n59⟩, hx60, h⟩ := bnd h
            try dsimp only at h
            refine WC.region ?_
            refine WR.step (Ex.move rfl) (Wn.none rfl) rfl rfl ?_
            refine WR.call H (basic_None_ct hx60) rfl trivial (Wn.none rfl) rfl ?_
            intro v69 M w H hle hR
            try dsimp only at hR
            obtain rfl := hR
            refine WR.step (Ex.assign rfl) (Wn.none rfl) rfl rfl ?_
            refine WR.store [_, _] H rfl rfl rfl (by repeat (first | exact Upd.head | apply Upd.tail)) Tryd.sizeOf25 rfl (by rfl) (by rfl) (Wn.none rfl) ?_
            intro w H
            refine WR.nil ?_
            refine WQ.then ?_
            refine WC.ret ?_
            (repeat (first | refine WQ.thenRet ?_ | refine WQ.inBlockRet ?_ | refine WQ.cutRet ?_ | refine WQ.scRet ?_))
            obtain ⟨M, hle, hs61, H⟩ := H.freezeRow (v := v54) (enc := encS) (t := 9) (by repeat (first | exact Rem.head | apply Rem.tail))
            obtain rfl := Option.some.inj h
            exact WQ.ret2 rfl rfl ⟨_, rfl, H.loadAgg (by repeat (first | exact List.Mem.head _ | apply List.Mem.tail)) Tryd.isAgg25 Tryd.sizeOf25 (by rfl)⟩ H.ext (⟨_, rfl, hs61⟩)
theorem stringslite_Index_ct {p0 : List UInt8} {p1 : List UInt8} {r : Int} (h : stringslite_Index p0 p1 = some r) : Ct Tryd.prog 83 [S p0, S p1] (fun M => True) (fun v M => v = I r) := by
  refine Ct.of Tryd.func83 (enters Tryd.func83 (by kernel_rfl) rfl) rfl rfl rfl ?_
  intro w0 M0 H hp
  unfold stringslite_Index at h
  refine WC.seq ?_
  refine WC.region ?_
  refine WR.step (Ex.assign rfl) (Wn.none rfl) rfl rfl ?_
  refine WR.nil ?_
  refine WQ.then ?_
  refine WC.seq ?_
  refine WC.region ?_
  refine WR.step (Ex.move rfl) (Wn.none rfl) rfl rfl ?_
  refine WR.step (Ex.lenStr Tryd.underlying9 rfl) (Wn.none rfl) rfl rfl ?_
  refine WR.step (Ex.assign rfl) (Wn.none rfl) rfl rfl ?_
  refine WR.nil ?_
  refine WQ.then ?_
  refine WC.seq ?_
  refine WC.block ?_
  refine WC.seq ?_
  obtain ⟨o1, e2, h⟩ := bnd h
  refine WC.cutX (fun e w => ∃ (b3 : Bool) (M : Mem), e = [(0, S p0), (1, S p1), (5, I (p1.length : Int)), (16, Value.bool b3)] ∧ St w0 M0 M [] w ∧ some b3 = some o1) [] ?_ ?_ (trivial)
  ·
    by_cases hk4 : (p1.length : Int) = (0 : Int)
    ·
      rw [if_pos hk4] at e2
      refine WC.region ?_
      refine WR.step (Ex.move rfl) (Wn.none rfl) rfl rfl ?_
      refine WR.stepE (v' := .bool true) (Ex.eql rfl rfl) (congrArg Value.bool (decide_eq_true hk4)) (Wn.none rfl) rfl rfl ?_
      refine WR.step (Ex.move rfl) (Wn.none rfl) rfl rfl ?_
      refine WR.skipG (b := true) rfl rfl rfl rfl rfl ?_
      refine WR.skipG (b := true) rfl rfl rfl rfl rfl ?_
      refine WR.skipG (b := true) rfl rfl rfl rfl rfl ?_
      refine WR.step (Ex.pickT rfl rfl) (Wn.none rfl) rfl rfl ?_
      refine WR.step (Ex.assign rfl) (Wn.none rfl) rfl rfl ?_
      refine WR.nil ?_
      exact WQ.meetN [(0, _), (1, _), (5, _), (16, _)] ⟨rfl, rfl, rfl, rfl, trivial⟩ ⟨_, _, rfl, H, e2⟩
    ·
      rw [if_neg hk4] at e2
      refine WC.region ?_
      refine WR.step (Ex.move rfl) (Wn.none rfl) rfl rfl ?_
      refine WR.stepE (v' := .bool false) (Ex.eql rfl rfl) (congrArg Value.bool (decide_eq_false hk4)) (Wn.none rfl) rfl rfl ?_
      refine WR.step (Ex.move rfl) (Wn.none rfl) rfl rfl ?_
      refine WR.step (Ex.move rfl) (Wn.some rfl rfl rfl) rfl rfl ?_
      refine WR.step (Ex.move rfl) (Wn.some rfl rfl rfl) rfl rfl ?_
      refine WR.step (Ex.strEql rfl rfl) (Wn.some rfl rfl rfl) rfl rfl ?_
      refine WR.step (Ex.pickF rfl rfl) (Wn.none rfl) rfl rfl ?_
      refine WR.step (Ex.assign rfl) (Wn.none rfl) rfl rfl ?_
      refine WR.nil ?_
      exact WQ.meetN [(0, _), (1, _), (5, _), (16, _)] ⟨rfl, rfl, rfl, rfl, trivial⟩ ⟨_, _, rfl, H, e2⟩
  ·
    rintro e w ⟨b3, M, rfl, H, q5⟩
    obtain rfl := Option.some.inj q5
    refine WQ.then ?_
    refine WC.condB rfl (fun hk6 => ?_) (fun hk6 => ?_)
    ·
      subst hk6
      rw [if_pos rfl] at h
      refine WC.seq ?_
      refine WC.region ?_
      refine WR.step (Ex.assign rfl) (Wn.none rfl) rfl rfl ?_
      refine WR.nil ?_
      refine WQ.then ?_
      refine WC.ret ?_
      (repeat (first | refine WQ.thenRet ?_ | refine WQ.inBlockRet ?_ | refine WQ.cutRet ?_ | refine WQ.scRet ?_))
      obtain rfl := Option.some.inj h
      exact WQ.ret1 rfl rfl H.ext rfl
    ·
      subst hk6
      rw [if_neg Bool.false_ne_true] at h
      refine WC.seq ?_
      refine WC.region ?_
      refine WR.step (Ex.move rfl) (Wn.none rfl) rfl rfl ?_
      refine WR.step (Ex.eql rfl rfl) (Wn.none rfl) rfl rfl ?_
      refine WR.step (Ex.assign rfl) (Wn.none rfl) rfl rfl ?_
      refine WR.nil ?_
      refine WQ.then ?_
      refine WC.condB rfl (fun hk7 => ?_) (fun hk7 => ?_)
      ·
        replace hk7 : (p1.length : Int) = (1 : Int) := of_decide_eq_true hk7
        rw [if_pos hk7] at h
        refine WC.seq ?_
        obtain ⟨c8, hxc8, h⟩ := bnd h
        obtain ⟨n9, hx10, h⟩ := bnd h
        refine WC.region ?_
        refine WR.step (Ex.move rfl) (Wn.none rfl) rfl rfl ?_
        refine WR.step (Ex.move rfl) (Wn.none rfl) rfl rfl ?_
        refine WR.step (Ex.idxStrC Tryd.underlying9 rfl rfl hxc8) (Wn.none rfl) rfl rfl ?_
        refine WR.call H (stringslite_IndexByte_ct hx10) rfl trivial (Wn.none rfl) rfl ?_
        intro v30 M w H hle hR
        obtain rfl := hR
        refine WR.step (Ex.assign rfl) (Wn.none rfl) rfl rfl ?_
        refine WR.nil ?_
        refine WQ.then ?_
        refine WC.ret ?_
        (repeat (first | refine WQ.thenRet ?_ | refine WQ.inBlockRet ?_ | refine WQ.cutRet ?_ | refine WQ.scRet ?_))
        obtain rfl := Option.some.inj h
        exact WQ.ret1 rfl rfl H.ext rfl
      ·
        replace hk7 : ¬ ((p1.length : Int) = (1 : Int)) := of_decide_eq_false hk7
        rw [if_neg hk7] at h
        refine WC.seq ?_
        refine WC.region ?_
        refine WR.step (Ex.move rfl) (Wn.none rfl) rfl rfl ?_
        refine WR.step (Ex.move rfl) (Wn.none rfl) rfl rfl ?_
        refine WR.step (Ex.lenStr Tryd.underlying9 rfl) (Wn.none rfl) rfl rfl ?_
        refine WR.step (Ex.geq rfl rfl) (Wn.none rfl) rfl rfl ?_
        refine WR.step (Ex.assign rfl) (Wn.none rfl) rfl rfl ?_
        refine WR.nil ?_
        refine WQ.then ?_
        refine WC.condB rfl (fun hk11 => ?_) (fun hk11 => ?_)
        ·
          replace hk11 : (p0.length : Int) ≤ (p1.length : Int) := of_decide_eq_true hk11
          rw [if_pos hk11] at h
          refine WC.seq ?_
          refine WC.region ?_
          refine WR.step (Ex.assign rfl) (Wn.none rfl) rfl rfl ?_
          refine WR.nil ?_
          refine WQ.then ?_
          refine WC.ret ?_
          (repeat (first | refine WQ.thenRet ?_ | refine WQ.inBlockRet ?_ | refine WQ.cutRet ?_ | refine WQ.scRet ?_))
          obtain rfl := Option.some.inj h
          exact WQ.ret1 rfl rfl H.ext rfl
        ·
          replace hk11 : ¬ ((p0.length : Int) ≤ (p1.length : Int)) := of_decide_eq_false hk11
          rw [if_neg hk11] at h
          cases h
theorem stringslite_Cut_ct {p0 : List UInt8} {p1 : List UInt8} {r : (List UInt8 × List UInt8 × Bool)} (h : stringslite_Cut p0 p1 = some r) : Ct Tryd.prog 67 [S p0, S p1] (fun M => True) (fun v M => v = Value.tuple #[S r.1, S r.2.1, Value.bool r.2.2]) := by
  refine Ct.of Tryd.func67 (enters Tryd.func67 (by kernel_rfl) rfl) rfl rfl rfl ?_
  intro w0 M0 H hp
  unfold stringslite_Cut at h
  refine WC.seq ?_
  refine WC.region ?_
  refine WR.step (Ex.assign rfl) (Wn.none rfl) rfl rfl ?_
  refine WR.step (Ex.assign rfl) (Wn.none rfl) rfl rfl ?_
  refine WR.step (Ex.assign rfl) (Wn.none rfl) rfl rfl ?_
  refine WR.nil ?_
  refine WQ.then ?_
  refine WC.seq ?_
  refine WC.seq ?_
  obtain ⟨n1, hx2, h⟩ := bnd h
  refine WC.region ?_
  refine WR.step (Ex.move rfl) (Wn.none rfl) rfl rfl ?_
  refine WR.step (Ex.move rfl) (Wn.none rfl) rfl rfl ?_
  refine WR.call H (stringslite_Index_ct hx2) rfl trivial (Wn.none rfl) rfl ?_
  intro v10 M w H hle hR
  obtain rfl := hR
  refine WR.step (Ex.assign rfl) (Wn.none rfl) rfl rfl ?_
  refine WR.nil ?_
  refine WQ.then ?_
  refine WC.seq ?_
  refine WC.region ?_
  refine WR.step (Ex.move rfl) (Wn.none rfl) rfl rfl ?_
  refine WR.step (Ex.geq rfl rfl) (Wn.none rfl) rfl rfl ?_
  refine WR.nil ?_
  refine WQ.then ?_
  refine WC.condB rfl (fun hk3 => ?_) (fun hk3 => ?_)
  ·
    replace hk3 : (0 : Int) ≤ n1 := of_decide_eq_true hk3
    rw [if_pos hk3] at h
    refine WC.seq ?_
    obtain ⟨s4, hxs4, h⟩ := bnd h
    obtain ⟨n5, hxn5, h⟩ := bnd h
    obtain ⟨s6, hxs6, h⟩ := bnd h
    refine WC.draw (m := 12) rfl rfl H ?_
    intro w H
    refine WA.take (i := 0) rfl (by kernel_rfl) (by kernel_rfl) (by kernel_rfl) (fun _ => Ex.move rfl) (Wn.none rfl) rfl rfl (fun _ _ => rfl) ?_
    refine WA.take (i := 1) rfl (by kernel_rfl) (by kernel_rfl) (by kernel_rfl) (fun _ => Ex.move rfl) (Wn.none rfl) rfl rfl (fun _ _ => rfl) ?_
    refine WA.take (i := 2) rfl (by kernel_rfl) (by kernel_rfl) (by kernel_rfl) (fun _ => Ex.sliceH Tryd.underlying9 rfl rfl hxs4) (Wn.none rfl) rfl rfl (fun _ _ => rfl) ?_
    refine WA.take (i := 3) rfl (by kernel_rfl) (by kernel_rfl) (by kernel_rfl) (fun _ => Ex.move rfl) (Wn.none rfl) rfl rfl (fun _ _ => rfl) ?_
    refine WA.take (i := 4) rfl (by kernel_rfl) (by kernel_rfl) (by kernel_rfl) (fun _ => Ex.move rfl) (Wn.none rfl) rfl rfl (fun _ _ => rfl) ?_
    refine WA.take (i := 5) rfl (by kernel_rfl) (by kernel_rfl) (by kernel_rfl) (fun _ => Ex.move rfl) (Wn.none rfl) rfl rfl (fun _ _ => rfl) ?_
    refine WA.take (i := 6) rfl (by kernel_rfl) (by kernel_rfl) (by kernel_rfl) (fun _ => Ex.lenStr Tryd.underlying9 rfl) (Wn.none rfl) rfl rfl (fun _ _ => rfl) ?_
    refine WA.take (i := 7) rfl (by kernel_rfl) (by kernel_rfl) (by kernel_rfl) (fun _ => Ex.addC rfl rfl hxn5) (Wn.none rfl) rfl rfl (fun _ _ => rfl) ?_
    refine WA.take (i := 8) rfl (by kernel_rfl) (by kernel_rfl) (by kernel_rfl) (fun _ => Ex.sliceL Tryd.underlying9 rfl rfl hxs6) (Wn.none rfl) rfl rfl (fun _ _ => rfl) ?_
    refine WA.one (i := 9) (by kernel_rfl) rfl ?_
    refine WR.step (Ex.assign rfl) (Wn.none rfl) rfl rfl ?_
    refine WR.nil (WQ.any ?_)
    refine WA.one (i := 10) (by kernel_rfl) rfl ?_
    refine WR.step (Ex.assign rfl) (Wn.none rfl) rfl rfl ?_
    refine WR.nil (WQ.any ?_)
    refine WA.one (i := 11) (by kernel_rfl) rfl ?_
    refine WR.step (Ex.assign rfl) (Wn.none rfl) rfl rfl ?_
    refine WR.nil (WQ.any ?_)
    refine WA.done (by kernel_rfl) ?_
    refine WQ.then ?_
    refine WC.ret ?_
    (repeat (first | refine WQ.thenRet ?_ | refine WQ.inBlockRet ?_ | refine WQ.cutRet ?_ | refine WQ.scRet ?_))
    obtain rfl := Option.some.inj h
    exact WQ.ret3 rfl rfl rfl rfl H.ext rfl
  ·
    replace hk3 : ¬ ((0 : Int) ≤ n1) := of_decide_eq_false hk3
    rw [if_neg hk3] at h
    refine WC.skip ?_
    refine WQ.then ?_
    refine WC.seq ?_
    refine WC.region ?_
    refine WR.step (Ex.move rfl) (Wn.none rfl) rfl rfl ?_
    refine WR.step (Ex.assign rfl) (Wn.none rfl) rfl rfl ?_
    refine WR.step (Ex.assign rfl) (Wn.none rfl) rfl rfl ?_
    refine WR.step (Ex.assign rfl) (Wn.none rfl) rfl rfl ?_
    refine WR.nil ?_
    refine WQ.then ?_
    refine WC.ret ?_
    (repeat (first | refine WQ.thenRet ?_ | refine WQ.inBlockRet ?_ | refine WQ.cutRet ?_ | refine WQ.scRet ?_))
    obtain rfl := Option.some.inj h
    exact WQ.ret3 rfl rfl rfl rfl H.ext rfl
theorem strings_Cut_ct {p0 : List UInt8} {p1 : List UInt8} {r : (List UInt8 × List UInt8 × Bool)} (h : strings_Cut p0 p1 = some r) : Ct Tryd.prog 52 [S p0, S p1] (fun M => True) (fun v M => v = Value.tuple #[S r.1, S r.2.1, Value.bool r.2.2]) := by
  refine Ct.of Tryd.func52 (enters Tryd.func52 (by kernel_rfl) rfl) rfl rfl rfl ?_
  intro w0 M0 H hp
  unfold strings_Cut at h
  refine WC.seq ?_
  refine WC.region ?_
  refine WR.step (Ex.assign rfl) (Wn.none rfl) rfl rfl ?_
  refine WR.step (Ex.assign rfl) (Wn.none rfl) rfl rfl ?_
  refine WR.step (Ex.assign rfl) (Wn.none rfl) rfl rfl ?_
  refine WR.nil ?_
  refine WQ.then ?_
  refine WC.seq ?_
  obtain ⟨⟨s1, s2, b3⟩, hx4, h⟩ := bnd h
  try dsimp only at h
  refine WC.region ?_
  refine WR.step (Ex.move rfl) (Wn.none rfl) rfl rfl ?_
  refine WR.step (Ex.move rfl) (Wn.none rfl) rfl rfl ?_
  refine WR.call H (stringslite_Cut_ct hx4) rfl trivial (Wn.none rfl) rfl ?_
  intro v9 M w H hle hR
  try dsimp only at hR
  obtain rfl := hR
  refine WR.step (Ex.extract rfl rfl) (Wn.none rfl) rfl rfl ?_
  refine WR.step (Ex.extract rfl rfl) (Wn.none rfl) rfl rfl ?_
  refine WR.step (Ex.extract rfl rfl) (Wn.none rfl) rfl rfl ?_
  refine WR.step (Ex.assign rfl) (Wn.none rfl) rfl rfl ?_
  refine WR.step (Ex.assign rfl) (Wn.none rfl) rfl rfl ?_
  refine WR.step (Ex.assign rfl) (Wn.none rfl) rfl rfl ?_
  refine WR.nil ?_
  refine WQ.then ?_
  refine WC.ret ?_
  (repeat (first | refine WQ.thenRet ?_ | refine WQ.inBlockRet ?_ | refine WQ.cutRet ?_ | refine WQ.scRet ?_))
  obtain rfl := Option.some.inj h
  exact WQ.ret3 rfl rfl rfl rfl H.ext rfl
theorem strings_trimRightByte_ct {p0 : List UInt8} {p1 : UInt8} {r : List UInt8} (h : strings_trimRightByte p0 p1 = some r) : Ct Tryd.prog 72 [S p0, encB p1] (fun M => True) (fun v M => v = S r) := by
  refine Ct.of Tryd.func72 (enters Tryd.func72 (by kernel_rfl) rfl) rfl rfl rfl ?_
  intro w0 M0 H hp
  unfold strings_trimRightByte at h
  refine WC.seq ?_
  refine WC.region ?_
  refine WR.step (Ex.assign rfl) (Wn.none rfl) rfl rfl ?_
  refine WR.nil ?_
  refine WQ.then ?_
  refine WC.seq ?_
  obtain ⟨o1, e2, h⟩ := bnd h
  refine WC.cutX (fun e w => ∃ (s3 : List UInt8) (M : Mem), e = [(0, S s3)] ∧ St w0 M0 M [] w ∧ some s3 = some o1) [] ?_ ?_ (trivial)
  ·
    refine WC.block ?_
    refine WC.loopP (fun m e w => ∃ (s4 : List UInt8) (M : Mem), e = [(0, S s4), (1, encB p1)] ∧ St w0 M0 M [] w ∧ strings_trimRightByte_L1 p1 m s4 = some o1) FU [(0, _), (1, _)] ⟨rfl, rfl, trivial⟩ ⟨_, _, rfl, H, e2⟩ ?_
    rintro m5 e w ⟨s4, M, rfl, H, e2⟩
    rcases m5 with _ | m5
    · rw [strings_trimRightByte_L1] at e2; cases e2
    rw [strings_trimRightByte_L1] at e2
    refine WC.seq ?_
    refine WC.seq ?_
    obtain ⟨o6, e7, e2⟩ := bnd e2
    refine WC.cutX (fun e w => ∃ (b8 : Bool) (M : Mem), e = [(0, S s4), (1, encB p1), (16, Value.bool b8)] ∧ St w0 M0 M [] w ∧ some b8 = some o6) [] ?_ ?_ (trivial)
    ·
      by_cases hk9 : (0 : Int) < (s4.length : Int)
      ·
        rw [if_pos hk9] at e7
        obtain ⟨n10, hxn10, e7⟩ := bnd e7
        obtain ⟨c11, hxc11, e7⟩ := bnd e7
        refine WC.region ?_
        refine WR.step (Ex.move rfl) (Wn.none rfl) rfl rfl ?_
        refine WR.step (Ex.lenStr Tryd.underlying9 rfl) (Wn.none rfl) rfl rfl ?_
        refine WR.stepE (v' := .bool true) (Ex.gtr rfl rfl) (congrArg Value.bool (decide_eq_true hk9)) (Wn.none rfl) rfl rfl ?_
        refine WR.step (Ex.move rfl) (Wn.none rfl) rfl rfl ?_
        refine WR.step (Ex.move rfl) (Wn.some rfl rfl rfl) rfl rfl ?_
        refine WR.step (Ex.move rfl) (Wn.some rfl rfl rfl) rfl rfl ?_
        refine WR.step (Ex.lenStr Tryd.underlying9 rfl) (Wn.some rfl rfl rfl) rfl rfl ?_
        refine WR.step (Ex.subC rfl rfl hxn10) (Wn.some rfl rfl rfl) rfl rfl ?_
        refine WR.step (Ex.idxStrC Tryd.underlying9 rfl rfl hxc11) (Wn.some rfl rfl rfl) rfl rfl ?_
        refine WR.step (Ex.move rfl) (Wn.some rfl rfl rfl) rfl rfl ?_
        refine WR.step (Ex.eqlB (c := c11) (d := p1) rfl rfl) (Wn.some rfl rfl rfl) rfl rfl ?_
        refine WR.step (Ex.pickT rfl rfl) (Wn.none rfl) rfl rfl ?_
        refine WR.nil ?_
        exact WQ.meetN [(0, _), (1, _), (16, _)] ⟨rfl, rfl, rfl, trivial⟩ ⟨_, _, rfl, H, e7⟩
      ·
        rw [if_neg hk9] at e7
        refine WC.region ?_
        refine WR.step (Ex.move rfl) (Wn.none rfl) rfl rfl ?_
        refine WR.step (Ex.lenStr Tryd.underlying9 rfl) (Wn.none rfl) rfl rfl ?_
        refine WR.stepE (v' := .bool false) (Ex.gtr rfl rfl) (congrArg Value.bool (decide_eq_false hk9)) (Wn.none rfl) rfl rfl ?_
        refine WR.step (Ex.move rfl) (Wn.none rfl) rfl rfl ?_
        refine WR.skipG (b := false) rfl rfl rfl rfl rfl ?_
        refine WR.skipG (b := false) rfl rfl rfl rfl rfl ?_
        refine WR.skipG (b := false) rfl rfl rfl rfl rfl ?_
        refine WR.skipG (b := false) rfl rfl rfl rfl rfl ?_
        refine WR.skipG (b := false) rfl rfl rfl rfl rfl ?_
        refine WR.skipG (b := false) rfl rfl rfl rfl rfl ?_
        refine WR.skipG (b := false) rfl rfl rfl rfl rfl ?_
        refine WR.step (Ex.pickF rfl rfl) (Wn.none rfl) rfl rfl ?_
        refine WR.nil ?_
        exact WQ.meetN [(0, _), (1, _), (16, _)] ⟨rfl, rfl, rfl, trivial⟩ ⟨_, _, rfl, H, e7⟩
    ·
      rintro e w ⟨b8, M, rfl, H, q12⟩
      obtain rfl := Option.some.inj q12
      refine WQ.then ?_
      refine WC.condB rfl (fun hk13 => ?_) (fun hk13 => ?_)
      ·
        subst hk13
        rw [if_pos rfl] at e2
        refine WC.skip ?_
        refine WQ.then ?_
        refine WC.block ?_
        obtain ⟨n14, hxn14, e2⟩ := bnd e2
        obtain ⟨s15, hxs15, e2⟩ := bnd e2
        refine WC.region ?_
        refine WR.step (Ex.move rfl) (Wn.none rfl) rfl rfl ?_
        refine WR.step (Ex.move rfl) (Wn.none rfl) rfl rfl ?_
        refine WR.step (Ex.lenStr Tryd.underlying9 rfl) (Wn.none rfl) rfl rfl ?_
        refine WR.step (Ex.subC rfl rfl hxn14) (Wn.none rfl) rfl rfl ?_
        refine WR.step (Ex.sliceH Tryd.underlying9 rfl rfl hxs15) (Wn.none rfl) rfl rfl ?_
        refine WR.step (Ex.assign rfl) (Wn.none rfl) rfl rfl ?_
        refine WR.nil ?_
        refine WQ.inBlock ?_
        exact WQ.againP m5 [(0, _), (1, _)] ⟨rfl, rfl, trivial⟩ ⟨_, _, rfl, H, e2⟩ (Nat.lt_succ_self _)
      ·
        subst hk13
        rw [if_neg Bool.false_ne_true] at e2
        refine WC.exit ?_
        refine WQ.thenExit ?_
        refine WQ.thenExit ?_
        refine WQ.exitHere ?_
        exact WQ.meetN [(0, _)] ⟨rfl, trivial⟩ ⟨_, _, rfl, H, e2⟩
  ·
    rintro e w ⟨s3, M, rfl, H, q16⟩
    obtain rfl := Option.some.inj q16
    refine WQ.then ?_
    refine WC.seq ?_
    refine WC.region ?_
    refine WR.step (Ex.move rfl) (Wn.none rfl) rfl rfl ?_
    refine WR.step (Ex.assign rfl) (Wn.none rfl) rfl rfl ?_
    refine WR.nil ?_
    refine WQ.then ?_
    refine WC.ret ?_
    (repeat (first | refine WQ.thenRet ?_ | refine WQ.inBlockRet ?_ | refine WQ.cutRet ?_ | refine WQ.scRet ?_))
    obtain rfl := Option.some.inj h
    exact WQ.ret1 rfl rfl H.ext rfl
theorem strings_trimLeftByte_ct {p0 : List UInt8} {p1 : UInt8} {r : List UInt8} (h : strings_trimLeftByte p0 p1 = some r) : Ct Tryd.prog 71 [S p0, encB p1] (fun M => True) (fun v M => v = S r) := by
  refine Ct.of Tryd.func71 (enters Tryd.func71 (by kernel_rfl) rfl) rfl rfl rfl ?_
  intro w0 M0 H hp
  unfold strings_trimLeftByte at h
  refine WC.seq ?_
  refine WC.region ?_
  refine WR.step (Ex.assign rfl) (Wn.none rfl) rfl rfl ?_
  refine WR.nil ?_
  refine WQ.then ?_
  refine WC.seq ?_
  obtain ⟨o1, e2, h⟩ := bnd h
  refine WC.cutX (fun e w => ∃ (s3 : List UInt8) (M : Mem), e = [(0, S s3)] ∧ St w0 M0 M [] w ∧ some s3 = some o1) [] ?_ ?_ (trivial)
  ·
    refine WC.block ?_
    refine WC.loopP (fun m e w => ∃ (s4 : List UInt8) (M : Mem), e = [(0, S s4), (1, encB p1)] ∧ St w0 M0 M [] w ∧ strings_trimLeftByte_L1 p1 m s4 = some o1) FU [(0, _), (1, _)] ⟨rfl, rfl, trivial⟩ ⟨_, _, rfl, H, e2⟩ ?_
    rintro m5 e w ⟨s4, M, rfl, H, e2⟩
    rcases m5 with _ | m5
    · rw [strings_trimLeftByte_L1] at e2; cases e2
    rw [strings_trimLeftByte_L1] at e2
    refine WC.seq ?_
    refine WC.seq ?_
    obtain ⟨o6, e7, e2⟩ := bnd e2
    refine WC.cutX (fun e w => ∃ (b8 : Bool) (M : Mem), e = [(0, S s4), (1, encB p1), (13, Value.bool b8)] ∧ St w0 M0 M [] w ∧ some b8 = some o6) [] ?_ ?_ (trivial)
    ·
      by_cases hk9 : (0 : Int) < (s4.length : Int)
      ·
        rw [if_pos hk9] at e7
        obtain ⟨c10, hxc10, e7⟩ := bnd e7
        refine WC.region ?_
        refine WR.step (Ex.move rfl) (Wn.none rfl) rfl rfl ?_
        refine WR.step (Ex.lenStr Tryd.underlying9 rfl) (Wn.none rfl) rfl rfl ?_
        refine WR.stepE (v' := .bool true) (Ex.gtr rfl rfl) (congrArg Value.bool (decide_eq_true hk9)) (Wn.none rfl) rfl rfl ?_
        refine WR.step (Ex.move rfl) (Wn.none rfl) rfl rfl ?_
        refine WR.step (Ex.move rfl) (Wn.some rfl rfl rfl) rfl rfl ?_
        refine WR.step (Ex.idxStrC Tryd.underlying9 rfl rfl hxc10) (Wn.some rfl rfl rfl) rfl rfl ?_
        refine WR.step (Ex.move rfl) (Wn.some rfl rfl rfl) rfl rfl ?_
        refine WR.step (Ex.eqlB (c := c10) (d := p1) rfl rfl) (Wn.some rfl rfl rfl) rfl rfl ?_
        refine WR.step (Ex.pickT rfl rfl) (Wn.none rfl) rfl rfl ?_
        refine WR.nil ?_
        exact WQ.meetN [(0, _), (1, _), (13, _)] ⟨rfl, rfl, rfl, trivial⟩ ⟨_, _, rfl, H, e7⟩
      ·
        rw [if_neg hk9] at e7
        refine WC.region ?_
        refine WR.step (Ex.move rfl) (Wn.none rfl) rfl rfl ?_
        refine WR.step (Ex.lenStr Tryd.underlying9 rfl) (Wn.none rfl) rfl rfl ?_
        refine WR.stepE (v' := .bool false) (Ex.gtr rfl rfl) (congrArg Value.bool (decide_eq_false hk9)) (Wn.none rfl) rfl rfl ?_
        refine WR.step (Ex.move rfl) (Wn.none rfl) rfl rfl ?_
        refine WR.skipG (b := false) rfl rfl rfl rfl rfl ?_
        refine WR.skipG (b := false) rfl rfl rfl rfl rfl ?_
        refine WR.skipG (b := false) rfl rfl rfl rfl rfl ?_
        refine WR.skipG (b := false) rfl rfl rfl rfl rfl ?_
        refine WR.step (Ex.pickF rfl rfl) (Wn.none rfl) rfl rfl ?_
        refine WR.nil ?_
        exact WQ.meetN [(0, _), (1, _), (13, _)] ⟨rfl, rfl, rfl, trivial⟩ ⟨_, _, rfl, H, e7⟩
    ·
      rintro e w ⟨b8, M, rfl, H, q11⟩
      obtain rfl := Option.some.inj q11
      refine WQ.then ?_
      refine WC.condB rfl (fun hk12 => ?_) (fun hk12 => ?_)
      ·
        subst hk12
        rw [if_pos rfl] at e2
        refine WC.skip ?_
        refine WQ.then ?_
        refine WC.block ?_
        obtain ⟨s13, hxs13, e2⟩ := bnd e2
        refine WC.region ?_
        refine WR.step (Ex.move rfl) (Wn.none rfl) rfl rfl ?_
        refine WR.step (Ex.sliceL Tryd.underlying9 rfl rfl hxs13) (Wn.none rfl) rfl rfl ?_
        refine WR.step (Ex.assign rfl) (Wn.none rfl) rfl rfl ?_
        refine WR.nil ?_
        refine WQ.inBlock ?_
        exact WQ.againP m5 [(0, _), (1, _)] ⟨rfl, rfl, trivial⟩ ⟨_, _, rfl, H, e2⟩ (Nat.lt_succ_self _)
      ·
        subst hk12
        rw [if_neg Bool.false_ne_true] at e2
        refine WC.exit ?_
        refine WQ.thenExit ?_
        refine WQ.thenExit ?_
        refine WQ.exitHere ?_
        exact WQ.meetN [(0, _)] ⟨rfl, trivial⟩ ⟨_, _, rfl, H, e2⟩
  ·
    rintro e w ⟨s3, M, rfl, H, q14⟩
    obtain rfl := Option.some.inj q14
    refine WQ.then ?_
    refine WC.seq ?_
    refine WC.region ?_
    refine WR.step (Ex.move rfl) (Wn.none rfl) rfl rfl ?_
    refine WR.step (Ex.assign rfl) (Wn.none rfl) rfl rfl ?_
    refine WR.nil ?_
    refine WQ.then ?_
    refine WC.ret ?_
    (repeat (first | refine WQ.thenRet ?_ | refine WQ.inBlockRet ?_ | refine WQ.cutRet ?_ | refine WQ.scRet ?_))
    obtain rfl := Option.some.inj h
    exact WQ.ret1 rfl rfl H.ext rfl
theorem strings_trimRightASCII_ct {p0 : List UInt8} {p1 : List Bool} {bp1 : Nat} {r : List UInt8} (h : strings_trimRightASCII p0 p1 = some r) : Ct Tryd.prog 75 [S p0, ptr bp1 0] (fun M => PtM M bp1 (.cells (List.map encBo p1).toArray 87)) (fun v M => v = S r) := by
  refine Ct.of Tryd.func75 (enters Tryd.func75 (by kernel_rfl) rfl) rfl rfl rfl ?_
  intro w0 M0 H hp
  have hp1 := hp
  unfold strings_trimRightASCII at h
  refine WC.seq ?_
  refine WC.region ?_
  refine WR.step (Ex.assign rfl) (Wn.none rfl) rfl rfl ?_
  refine WR.nil ?_
  refine WQ.then ?_
  refine WC.seq ?_
  obtain ⟨o1, e2, h⟩ := bnd h
  refine WC.cutX (fun e w => ∃ (s3 : List UInt8) (M : Mem), e = [(0, S s3)] ∧ St w0 M0 M [] w ∧ some s3 = some o1) [] ?_ ?_ (trivial)
  ·
    refine WC.block ?_
    refine WC.loopP (fun m e w => ∃ (s4 : List UInt8) (M : Mem), e = [(0, S s4), (1, ptr bp1 0)] ∧ St w0 M0 M [] w ∧ PtM M bp1 (.cells (List.map encBo p1).toArray 87) ∧ strings_trimRightASCII_L1 p1 m s4 = some o1) FU [(0, _), (1, _)] ⟨rfl, rfl, trivial⟩ ⟨_, _, rfl, H, hp1, e2⟩ ?_
    rintro m5 e w ⟨s4, M, rfl, H, hp1, e2⟩
    rcases m5 with _ | m5
    · rw [strings_trimRightASCII_L1] at e2; cases e2
    rw [strings_trimRightASCII_L1] at e2
    refine WC.seq ?_
    refine WC.seq ?_
    refine WC.region ?_
    refine WR.step (Ex.move rfl) (Wn.none rfl) rfl rfl ?_
    refine WR.step (Ex.lenStr Tryd.underlying9 rfl) (Wn.none rfl) rfl rfl ?_
    refine WR.step (Ex.gtr rfl rfl) (Wn.none rfl) rfl rfl ?_
    refine WR.nil ?_
    refine WQ.then ?_
    refine WC.condB rfl (fun hk6 => ?_) (fun hk6 => ?_)
    ·
      replace hk6 : (0 : Int) < (s4.length : Int) := of_decide_eq_true hk6
      rw [if_pos hk6] at e2
      refine WC.skip ?_
      refine WQ.then ?_
      refine WC.block ?_
      refine WC.seq ?_
      refine WC.seq ?_
      obtain ⟨n7, hxn7, e2⟩ := bnd e2
      obtain ⟨c8, hxc8, e2⟩ := bnd e2
      obtain ⟨b9, hx10, e2⟩ := bnd e2
      refine WC.region ?_
      refine WR.step (Ex.move rfl) (Wn.none rfl) rfl rfl ?_
      refine WR.step (Ex.move rfl) (Wn.none rfl) rfl rfl ?_
      refine WR.step (Ex.move rfl) (Wn.none rfl) rfl rfl ?_
      refine WR.step (Ex.lenStr Tryd.underlying9 rfl) (Wn.none rfl) rfl rfl ?_
      refine WR.step (Ex.subC rfl rfl hxn7) (Wn.none rfl) rfl rfl ?_
      refine WR.step (Ex.idxStrC Tryd.underlying9 rfl rfl hxc8) (Wn.none rfl) rfl rfl ?_
      refine WR.call H (strings_asciiSet_contains_ct hx10) rfl (hp1) (Wn.none rfl) rfl ?_
      intro v14 M w H hle hR
      replace hp1 := hp1.mono hle
      obtain rfl := hR
      refine WR.step (Ex.not rfl) (Wn.none rfl) rfl rfl ?_
      refine WR.nil ?_
      refine WQ.then ?_
      refine WC.condB rfl (fun hk11 => ?_) (fun hk11 => ?_)
      ·
        replace hk11 : b9 = false := by simpa using hk11
        subst hk11
        rw [if_neg Bool.false_ne_true] at e2
        refine WC.exit ?_
        refine WQ.thenExit ?_
        refine WQ.exitOut rfl ?_
        refine WQ.thenExit ?_
        refine WQ.exitHere ?_
        exact WQ.meetN [(0, _)] ⟨rfl, trivial⟩ ⟨_, _, rfl, H, e2⟩
      ·
        replace hk11 : b9 = true := by simpa using hk11
        subst hk11
        rw [if_pos rfl] at e2
        refine WC.skip ?_
        refine WQ.then ?_
        obtain ⟨n12, hxn12, e2⟩ := bnd e2
        obtain ⟨s13, hxs13, e2⟩ := bnd e2
        refine WC.region ?_
        refine WR.step (Ex.move rfl) (Wn.none rfl) rfl rfl ?_
        refine WR.step (Ex.move rfl) (Wn.none rfl) rfl rfl ?_
        refine WR.step (Ex.lenStr Tryd.underlying9 rfl) (Wn.none rfl) rfl rfl ?_
        refine WR.step (Ex.subC rfl rfl hxn12) (Wn.none rfl) rfl rfl ?_
        refine WR.step (Ex.sliceH Tryd.underlying9 rfl rfl hxs13) (Wn.none rfl) rfl rfl ?_
        refine WR.step (Ex.assign rfl) (Wn.none rfl) rfl rfl ?_
        refine WR.nil ?_
        refine WQ.inBlock ?_
        exact WQ.againP m5 [(0, _), (1, _)] ⟨rfl, rfl, trivial⟩ ⟨_, _, rfl, H, hp1, e2⟩ (Nat.lt_succ_self _)
    ·
      replace hk6 : ¬ ((0 : Int) < (s4.length : Int)) := of_decide_eq_false hk6
      rw [if_neg hk6] at e2
      refine WC.exit ?_
      refine WQ.thenExit ?_
      refine WQ.thenExit ?_
      refine WQ.exitHere ?_
      exact WQ.meetN [(0, _)] ⟨rfl, trivial⟩ ⟨_, _, rfl, H, e2⟩
  ·
    rintro e w ⟨s3, M, rfl, H, q14⟩
    obtain rfl := Option.some.inj q14
    refine WQ.then ?_
    refine WC.seq ?_
    refine WC.region ?_
    refine WR.step (Ex.move rfl) (Wn.none rfl) rfl rfl ?_
    refine WR.step (Ex.assign rfl) (Wn.none rfl) rfl rfl ?_
    refine WR.nil ?_
    refine WQ.then ?_
    refine WC.ret ?_
    (repeat (first | refine WQ.thenRet ?_ | refine WQ.inBlockRet ?_ | refine WQ.cutRet ?_ | refine WQ.scRet ?_))
    obtain rfl := Option.some.inj h
    exact WQ.ret1 rfl rfl H.ext rfl
theorem strings_trimLeftASCII_ct {p0 : List UInt8} {p1 : List Bool} {bp1 : Nat} {r : List UInt8} (h : strings_trimLeftASCII p0 p1 = some r) : Ct Tryd.prog 74 [S p0, ptr bp1 0] (fun M => PtM M bp1 (.cells (List.map encBo p1).toArray 87)) (fun v M => v = S r) := by
  refine Ct.of Tryd.func74 (enters Tryd.func74 (by kernel_rfl) rfl) rfl rfl rfl ?_
  intro w0 M0 H hp
  have hp1 := hp
  unfold strings_trimLeftASCII at h
  refine WC.seq ?_
  refine WC.region ?_
  refine WR.step (Ex.assign rfl) (Wn.none rfl) rfl rfl ?_
  refine WR.nil ?_
  refine WQ.then ?_
  refine WC.seq ?_
  obtain ⟨o1, e2, h⟩ := bnd h
  refine WC.cutX (fun e w => ∃ (s3 : List UInt8) (M : Mem), e = [(0, S s3)] ∧ St w0 M0 M [] w ∧ some s3 = some o1) [] ?_ ?_ (trivial)
  ·
    refine WC.block ?_
    refine WC.loopP (fun m e w => ∃ (s4 : List UInt8) (M : Mem), e = [(0, S s4), (1, ptr bp1 0)] ∧ St w0 M0 M [] w ∧ PtM M bp1 (.cells (List.map encBo p1).toArray 87) ∧ strings_trimLeftASCII_L1 p1 m s4 = some o1) FU [(0, _), (1, _)] ⟨rfl, rfl, trivial⟩ ⟨_, _, rfl, H, hp1, e2⟩ ?_
    rintro m5 e w ⟨s4, M, rfl, H, hp1, e2⟩
    rcases m5 with _ | m5
    · rw [strings_trimLeftASCII_L1] at e2; cases e2
    rw [strings_trimLeftASCII_L1] at e2
    refine WC.seq ?_
    refine WC.seq ?_
    refine WC.region ?_
    refine WR.step (Ex.move rfl) (Wn.none rfl) rfl rfl ?_
    refine WR.step (Ex.lenStr Tryd.underlying9 rfl) (Wn.none rfl) rfl rfl ?_
    refine WR.step (Ex.gtr rfl rfl) (Wn.none rfl) rfl rfl ?_
    refine WR.nil ?_
    refine WQ.then ?_
    refine WC.condB rfl (fun hk6 => ?_) (fun hk6 => ?_)
    ·
      replace hk6 : (0 : Int) < (s4.length : Int) := of_decide_eq_true hk6
      rw [if_pos hk6] at e2
      refine WC.skip ?_
      refine WQ.then ?_
      refine WC.block ?_
      refine WC.seq ?_
      refine WC.seq ?_
      obtain ⟨c7, hxc7, e2⟩ := bnd e2
      obtain ⟨b8, hx9, e2⟩ := bnd e2
      refine WC.region ?_
      refine WR.step (Ex.move rfl) (Wn.none rfl) rfl rfl ?_
      refine WR.step (Ex.move rfl) (Wn.none rfl) rfl rfl ?_
      refine WR.step (Ex.idxStrC Tryd.underlying9 rfl rfl hxc7) (Wn.none rfl) rfl rfl ?_
      refine WR.call H (strings_asciiSet_contains_ct hx9) rfl (hp1) (Wn.none rfl) rfl ?_
      intro v11 M w H hle hR
      replace hp1 := hp1.mono hle
      obtain rfl := hR
      refine WR.step (Ex.not rfl) (Wn.none rfl) rfl rfl ?_
      refine WR.nil ?_
      refine WQ.then ?_
      refine WC.condB rfl (fun hk10 => ?_) (fun hk10 => ?_)
      ·
        replace hk10 : b8 = false := by simpa using hk10
        subst hk10
        rw [if_neg Bool.false_ne_true] at e2
        refine WC.exit ?_
        refine WQ.thenExit ?_
        refine WQ.exitOut rfl ?_
        refine WQ.thenExit ?_
        refine WQ.exitHere ?_
        exact WQ.meetN [(0, _)] ⟨rfl, trivial⟩ ⟨_, _, rfl, H, e2⟩
      ·
        replace hk10 : b8 = true := by simpa using hk10
        subst hk10
        rw [if_pos rfl] at e2
        refine WC.skip ?_
        refine WQ.then ?_
        obtain ⟨s11, hxs11, e2⟩ := bnd e2
        refine WC.region ?_
        refine WR.step (Ex.move rfl) (Wn.none rfl) rfl rfl ?_
        refine WR.step (Ex.sliceL Tryd.underlying9 rfl rfl hxs11) (Wn.none rfl) rfl rfl ?_
        refine WR.step (Ex.assign rfl) (Wn.none rfl) rfl rfl ?_
        refine WR.nil ?_
        refine WQ.inBlock ?_
        exact WQ.againP m5 [(0, _), (1, _)] ⟨rfl, rfl, trivial⟩ ⟨_, _, rfl, H, hp1, e2⟩ (Nat.lt_succ_self _)
    ·
      replace hk6 : ¬ ((0 : Int) < (s4.length : Int)) := of_decide_eq_false hk6
      rw [if_neg hk6] at e2
      refine WC.exit ?_
      refine WQ.thenExit ?_
      refine WQ.thenExit ?_
      refine WQ.exitHere ?_
      exact WQ.meetN [(0, _)] ⟨rfl, trivial⟩ ⟨_, _, rfl, H, e2⟩
  ·
    rintro e w ⟨s3, M, rfl, H, q12⟩
    obtain rfl := Option.some.inj q12
    refine WQ.then ?_
    refine WC.seq ?_
    refine WC.region ?_
    refine WR.step (Ex.move rfl) (Wn.none rfl) rfl rfl ?_
    refine WR.step (Ex.assign rfl) (Wn.none rfl) rfl rfl ?_
    refine WR.nil ?_
    refine WQ.then ?_
    refine WC.ret ?_
    (repeat (first | refine WQ.thenRet ?_ | refine WQ.inBlockRet ?_ | refine WQ.cutRet ?_ | refine WQ.scRet ?_))
    obtain rfl := Option.some.inj h
    exact WQ.ret1 rfl rfl H.ext rfl
theorem strings_Trim_ct {p0 : List UInt8} {p1 : List UInt8} {r : List UInt8} (h : strings_Trim p0 p1 = some r) : Ct Tryd.prog 54 [S p0, S p1] (fun M => True) (fun v M => v = S r) := by
  refine Ct.of Tryd.func54 (enters Tryd.func54 (by kernel_rfl) rfl) rfl rfl rfl ?_
  intro w0 M0 H hp
  unfold strings_Trim at h
  refine WC.seq ?_
  refine WC.region ?_
  refine WR.step (Ex.assign rfl) (Wn.none rfl) rfl rfl ?_
  refine WR.nil ?_
  refine WQ.then ?_
  refine WC.seq ?_
  refine WC.seq ?_
  obtain ⟨o1, e2, h⟩ := bnd h
  refine WC.cutX (fun e w => ∃ (b3 : Bool) (M : Mem), e = [(0, S p0), (1, S p1), (12, Value.bool b3)] ∧ St w0 M0 M [] w ∧ some b3 = some o1) [] ?_ ?_ (trivial)
  ·
    by_cases hk4 : p0 = []
    ·
      rw [if_pos hk4] at e2
      refine WC.region ?_
      refine WR.step (Ex.move rfl) (Wn.none rfl) rfl rfl ?_
      refine WR.stepE (v' := .bool true) (Ex.strEql rfl rfl) (congrArg Value.bool (decide_eq_true hk4)) (Wn.none rfl) rfl rfl ?_
      refine WR.step (Ex.move rfl) (Wn.none rfl) rfl rfl ?_
      refine WR.skipG (b := true) rfl rfl rfl rfl rfl ?_
      refine WR.skipG (b := true) rfl rfl rfl rfl rfl ?_
      refine WR.step (Ex.pickT rfl rfl) (Wn.none rfl) rfl rfl ?_
      refine WR.nil ?_
      exact WQ.meetN [(0, _), (1, _), (12, _)] ⟨rfl, rfl, rfl, trivial⟩ ⟨_, _, rfl, H, e2⟩
    ·
      rw [if_neg hk4] at e2
      refine WC.region ?_
      refine WR.step (Ex.move rfl) (Wn.none rfl) rfl rfl ?_
      refine WR.stepE (v' := .bool false) (Ex.strEql rfl rfl) (congrArg Value.bool (decide_eq_false hk4)) (Wn.none rfl) rfl rfl ?_
      refine WR.step (Ex.move rfl) (Wn.none rfl) rfl rfl ?_
      refine WR.step (Ex.move rfl) (Wn.some rfl rfl rfl) rfl rfl ?_
      refine WR.step (Ex.strEql rfl rfl) (Wn.some rfl rfl rfl) rfl rfl ?_
      refine WR.step (Ex.pickF rfl rfl) (Wn.none rfl) rfl rfl ?_
      refine WR.nil ?_
      exact WQ.meetN [(0, _), (1, _), (12, _)] ⟨rfl, rfl, rfl, trivial⟩ ⟨_, _, rfl, H, e2⟩
  ·
    rintro e w ⟨b3, M, rfl, H, q5⟩
    obtain rfl := Option.some.inj q5
    refine WQ.then ?_
    refine WC.condB rfl (fun hk6 => ?_) (fun hk6 => ?_)
    ·
      subst hk6
      rw [if_pos rfl] at h
      refine WC.seq ?_
      refine WC.region ?_
      refine WR.step (Ex.move rfl) (Wn.none rfl) rfl rfl ?_
      refine WR.step (Ex.assign rfl) (Wn.none rfl) rfl rfl ?_
      refine WR.nil ?_
      refine WQ.then ?_
      refine WC.ret ?_
      (repeat (first | refine WQ.thenRet ?_ | refine WQ.inBlockRet ?_ | refine WQ.cutRet ?_ | refine WQ.scRet ?_))
      obtain rfl := Option.some.inj h
      exact WQ.ret1 rfl rfl H.ext rfl
    ·
      subst hk6
      rw [if_neg Bool.false_ne_true] at h
      refine WC.skip ?_
      refine WQ.then ?_
      refine WC.seq ?_
      refine WC.seq ?_
      obtain ⟨o7, e8, h⟩ := bnd h
      refine WC.cutX (fun e w => ∃ (b9 : Bool) (M : Mem), e = [(0, S p0), (1, S p1), (21, Value.bool b9)] ∧ St w0 M0 M [] w ∧ some b9 = some o7) [] ?_ ?_ (trivial)
      ·
        by_cases hk10 : (p1.length : Int) = (1 : Int)
        ·
          rw [if_pos hk10] at e8
          obtain ⟨c11, hxc11, e8⟩ := bnd e8
          refine WC.region ?_
          refine WR.step (Ex.move rfl) (Wn.none rfl) rfl rfl ?_
          refine WR.step (Ex.lenStr Tryd.underlying9 rfl) (Wn.none rfl) rfl rfl ?_
          refine WR.stepE (v' := .bool true) (Ex.eql rfl rfl) (congrArg Value.bool (decide_eq_true hk10)) (Wn.none rfl) rfl rfl ?_
          refine WR.step (Ex.move rfl) (Wn.none rfl) rfl rfl ?_
          refine WR.step (Ex.move rfl) (Wn.some rfl rfl rfl) rfl rfl ?_
          refine WR.step (Ex.idxStrC Tryd.underlying9 rfl rfl hxc11) (Wn.some rfl rfl rfl) rfl rfl ?_
          refine WR.step (Ex.lssB (i := c11.toNat) (j := 128) rfl rfl) (Wn.some rfl rfl rfl) rfl rfl ?_
          refine WR.step (Ex.pickT rfl rfl) (Wn.none rfl) rfl rfl ?_
          refine WR.nil ?_
          exact WQ.meetN [(0, _), (1, _), (21, _)] ⟨rfl, rfl, rfl, trivial⟩ ⟨_, _, rfl, H, e8⟩
        ·
          rw [if_neg hk10] at e8
          refine WC.region ?_
          refine WR.step (Ex.move rfl) (Wn.none rfl) rfl rfl ?_
          refine WR.step (Ex.lenStr Tryd.underlying9 rfl) (Wn.none rfl) rfl rfl ?_
          refine WR.stepE (v' := .bool false) (Ex.eql rfl rfl) (congrArg Value.bool (decide_eq_false hk10)) (Wn.none rfl) rfl rfl ?_
          refine WR.step (Ex.move rfl) (Wn.none rfl) rfl rfl ?_
          refine WR.skipG (b := false) rfl rfl rfl rfl rfl ?_
          refine WR.skipG (b := false) rfl rfl rfl rfl rfl ?_
          refine WR.skipG (b := false) rfl rfl rfl rfl rfl ?_
          refine WR.step (Ex.pickF rfl rfl) (Wn.none rfl) rfl rfl ?_
          refine WR.nil ?_
          exact WQ.meetN [(0, _), (1, _), (21, _)] ⟨rfl, rfl, rfl, trivial⟩ ⟨_, _, rfl, H, e8⟩
      ·
        rintro e w ⟨b9, M, rfl, H, q12⟩
        obtain rfl := Option.some.inj q12
        refine WQ.then ?_
        refine WC.condB rfl (fun hk13 => ?_) (fun hk13 => ?_)
        ·
          subst hk13
          rw [if_pos rfl] at h
          refine WC.seq ?_
          obtain ⟨c14, hxc14, h⟩ := bnd h
          obtain ⟨s15, hx16, h⟩ := bnd h
          obtain ⟨c17, hxc17, h⟩ := bnd h
          obtain ⟨s18, hx19, h⟩ := bnd h
          refine WC.draw (m := 8) rfl rfl H ?_
          intro w H
          refine WA.take (i := 0) rfl (by kernel_rfl) (by kernel_rfl) (by kernel_rfl) (fun _ => Ex.move rfl) (Wn.none rfl) rfl rfl (fun _ _ => rfl) ?_
          refine WA.take (i := 1) rfl (by kernel_rfl) (by kernel_rfl) (by kernel_rfl) (fun _ => Ex.move rfl) (Wn.none rfl) rfl rfl (fun _ _ => rfl) ?_
          refine WA.take (i := 2) rfl (by kernel_rfl) (by kernel_rfl) (by kernel_rfl) (fun _ => Ex.idxStrC Tryd.underlying9 rfl rfl hxc14) (Wn.none rfl) rfl rfl (fun _ _ => rfl) ?_
          refine WA.take (i := 4) rfl (by kernel_rfl) (by kernel_rfl) (by kernel_rfl) (fun _ => Ex.move rfl) (Wn.none rfl) rfl rfl (fun _ _ => rfl) ?_
          refine WA.take (i := 5) rfl (by kernel_rfl) (by kernel_rfl) (by kernel_rfl) (fun _ => Ex.idxStrC Tryd.underlying9 rfl rfl hxc17) (Wn.none rfl) rfl rfl (fun _ _ => rfl) ?_
          refine WA.one (i := 3) (by kernel_rfl) rfl ?_
          refine WR.call H (strings_trimRightByte_ct hx16) rfl trivial (Wn.none rfl) rfl ?_
          intro v25 M w H hle hR
          obtain rfl := hR
          refine WR.nil (WQ.any ?_)
          refine WA.one (i := 6) (by kernel_rfl) rfl ?_
          refine WR.call H (strings_trimLeftByte_ct hx19) rfl trivial (Wn.none rfl) rfl ?_
          intro v28 M w H hle hR
          obtain rfl := hR
          refine WR.nil (WQ.any ?_)
          refine WA.one (i := 7) (by kernel_rfl) rfl ?_
          refine WR.step (Ex.assign rfl) (Wn.none rfl) rfl rfl ?_
          refine WR.nil (WQ.any ?_)
          refine WA.done (by kernel_rfl) ?_
          refine WQ.then ?_
          refine WC.ret ?_
          (repeat (first | refine WQ.thenRet ?_ | refine WQ.inBlockRet ?_ | refine WQ.cutRet ?_ | refine WQ.scRet ?_))
          obtain rfl := Option.some.inj h
          exact WQ.ret1 rfl rfl H.ext rfl
        ·
          subst hk13
          rw [if_neg Bool.false_ne_true] at h
          refine WC.skip ?_
          refine WQ.then ?_
          refine WC.seq ?_
          refine WC.seq ?_
          obtain ⟨⟨n20, b21⟩, hx22, h⟩ := bnd h
          try dsimp only at h
          obtain ⟨l23, hxl23, h⟩ := bnd h
          obtain ⟨l24, hxl24, h⟩ := bnd h
          refine WC.region ?_
          refine WR.step (Ex.move rfl) (Wn.none rfl) rfl rfl ?_
          refine WR.call H (strings_makeASCIISet_ct hx22) rfl trivial (Wn.none rfl) rfl ?_
          intro v31 M w H hle hR
          try dsimp only at hR
          obtain rfl := hR
          refine WR.step (Ex.move rfl) (Wn.none rfl) rfl rfl ?_
          refine WR.step (Ex.extract rfl rfl) (Wn.none rfl) rfl rfl ?_
          refine WR.step (Ex.extract rfl rfl) (Wn.none rfl) rfl rfl ?_
          refine WR.alloc (List.map encBo (List.replicate 256 false : List Bool)) H Tryd.zeroValue87 (by kernel_rfl) (Wn.none rfl) rfl ?_
          intro b5 w H
          refine WR.storeA (l2 := n20) H rfl rfl (fun _ => rfl) (fun _ => by repeat (first | exact Upd.head | apply Upd.tail)) hxl23 hxl24 Tryd.sizeOf87 (Wn.none rfl) ?_
          intro w H
          refine WR.step (Ex.assign rfl) (Wn.none rfl) rfl rfl ?_
          refine WR.nil ?_
          refine WQ.then ?_
          refine WC.seq ?_
          refine WC.region ?_
          refine WR.step (Ex.move rfl) (Wn.none rfl) rfl rfl ?_
          refine WR.nil ?_
          refine WQ.then ?_
          refine WC.condB rfl (fun hk25 => ?_) (fun hk25 => ?_)
          ·
            subst hk25
            rw [if_pos rfl] at h
            refine WC.seq ?_
            obtain ⟨s27, hx28, h⟩ := bnd h
            obtain ⟨s29, hx30, h⟩ := bnd h
            refine WC.region ?_
            refine WR.step (Ex.move rfl) (Wn.none rfl) rfl rfl ?_
            obtain ⟨M, hle, hb26, H⟩ := H.freezeVar (b := b5) (by repeat (first | exact Rem.head | apply Rem.tail))
            refine WR.call H (strings_trimRightASCII_ct hx28) rfl (hb26) (Wn.none rfl) rfl ?_
            intro v36 M w H hle hR
            replace hb26 := hb26.mono hle
            obtain rfl := hR
            refine WR.call H (strings_trimLeftASCII_ct hx30) rfl (hb26) (Wn.none rfl) rfl ?_
            intro v37 M w H hle hR
            replace hb26 := hb26.mono hle
            obtain rfl := hR
            refine WR.step (Ex.assign rfl) (Wn.none rfl) rfl rfl ?_
            refine WR.nil ?_
            refine WQ.then ?_
            refine WC.ret ?_
            (repeat (first | refine WQ.thenRet ?_ | refine WQ.inBlockRet ?_ | refine WQ.cutRet ?_ | refine WQ.scRet ?_))
            obtain rfl := Option.some.inj h
            exact WQ.ret1 rfl rfl H.ext rfl
          ·
            subst hk25
            rw [if_neg Bool.false_ne_true] at h
            cases h
theorem fold_Unfold_ct {p0 : List (List UInt8)} {vp0 : Value} {r : (List UInt8 × List UInt8 × (Int × Int))} (h : fold_Unfold p0 = some r) : Ct Tryd.prog 28 [vp0] (fun M => Sl M encS vp0 p0) (fun v M => v = Value.tuple #[S r.1, S r.2.1, Value.agg #[I r.2.2.1, I r.2.2.2]]) := by
  refine Ct.of Tryd.func28 (enters Tryd.func28 (by kernel_rfl) rfl) rfl rfl rfl ?_
  intro w0 M0 H hp
  have hp0 := hp
  unfold fold_Unfold at h
  refine WC.seq ?_
  refine WC.region ?_
  refine WR.step (Ex.assign rfl) (Wn.none rfl) rfl rfl ?_
  refine WR.step (Ex.assign rfl) (Wn.none rfl) rfl rfl ?_
  refine WR.alloc [_, _] H Tryd.zeroValue25 rfl (Wn.none rfl) rfl ?_
  intro b4 w H
  refine WR.nil ?_
  refine WQ.then ?_
  refine WC.seq ?_
  refine WC.seq ?_
  refine WC.region ?_
  refine WR.step (Ex.move rfl) (Wn.none rfl) rfl rfl ?_
  refine WR.step (Ex.lenSl Tryd.underlying35 hp0 rfl) (Wn.none rfl) rfl rfl ?_
  refine WR.step (Ex.gtr rfl rfl) (Wn.none rfl) rfl rfl ?_
  refine WR.nil ?_
  refine WQ.then ?_
  refine WC.condB rfl (fun hk1 => ?_) (fun hk1 => ?_)
  ·
    replace hk1 : (300 : Int) < (p0.length : Int) := of_decide_eq_true hk1
    rw [if_pos hk1] at h
    refine WC.seq ?_
    obtain ⟨⟨n2, n3⟩, hx4, h⟩ := bnd h
    try dsimp only at h
    refine WC.region ?_
    refine WR.call H (basic_Fault_ct hx4) rfl trivial (Wn.none rfl) rfl ?_
    intro v14 M w H hle hR
    replace hp0 := hp0.mono hle
    try dsimp only at hR
    obtain rfl := hR
    refine WR.step (Ex.assign rfl) (Wn.none rfl) rfl rfl ?_
    refine WR.step (Ex.assign rfl) (Wn.none rfl) rfl rfl ?_
    refine WR.store [_, _] H rfl rfl rfl (by repeat (first | exact Upd.head | apply Upd.tail)) Tryd.sizeOf25 rfl (by rfl) (by rfl) (Wn.none rfl) ?_
    intro w H
    refine WR.nil ?_
    refine WQ.then ?_
    refine WC.ret ?_
    (repeat (first | refine WQ.thenRet ?_ | refine WQ.inBlockRet ?_ | refine WQ.cutRet ?_ | refine WQ.scRet ?_))
    obtain rfl := Option.some.inj h
    exact WQ.ret3 rfl rfl rfl ⟨_, rfl, H.loadAgg (by repeat (first | exact List.Mem.head _ | apply List.Mem.tail)) Tryd.isAgg25 Tryd.sizeOf25 (by rfl)⟩ H.ext rfl
  ·
    replace hk1 : ¬ ((300 : Int) < (p0.length : Int)) := of_decide_eq_false hk1
    rw [if_neg hk1] at h
    refine WC.skip ?_
    refine WQ.then ?_
    refine WC.seq ?_
    refine WC.region ?_
    refine WR.step (Ex.assign rfl) (Wn.none rfl) rfl rfl ?_
    refine WR.nil ?_
    refine WQ.then ?_
    refine WC.seq ?_
    refine WC.seq ?_
    refine WC.region ?_
    refine WR.step (Ex.move rfl) (Wn.none rfl) rfl rfl ?_
    refine WR.step (Ex.lenSl Tryd.underlying35 hp0 rfl) (Wn.none rfl) rfl rfl ?_
    refine WR.step (Ex.move rfl) (Wn.none rfl) rfl rfl ?_
    refine WR.nil ?_
    refine WQ.then ?_
    obtain ⟨o5, e6, h⟩ := bnd h
    refine WC.cutX (fun e w => ∃ (n7 : Int) (n8 : Int) (n9 : Int) (M : Mem), e = [(0, vp0), (4, ptr b4 0), (5, I n9)] ∧ St w0 M0 M [.blk b4 (.cells #[I n7, I n8] 25)] w ∧ Sl M encS vp0 p0 ∧ some (.inl (n7, n8, n9)) = some o5) [] ?_ ?_ (trivial)
    ·
      refine WC.block ?_
      refine WC.loopP (fun m e w => ∃ (n10 : Int) (n11 : Int) (n12 : Int) (n13 : Int) (M : Mem), e = [(0, vp0), (4, ptr b4 0), (5, I n12), (15, vp0), (16, I (p0.length : Int)), (17, I n13)] ∧ St w0 M0 M [.blk b4 (.cells #[I n10, I n11] 25)] w ∧ Sl M encS vp0 p0 ∧ fold_Unfold_L1 p0 m n10 n11 n12 n13 = some o5) FU [(0, _), (4, _), (5, _), (15, _), (16, _), (17, _)] ⟨rfl, rfl, rfl, rfl, rfl, rfl, trivial⟩ ⟨_, _, _, _, _, rfl, H, hp0, e6⟩ ?_
      rintro m14 e w ⟨n10, n11, n12, n13, M, rfl, H, hp0, e6⟩
      rcases m14 with _ | m14
      · rw [fold_Unfold_L1] at e6; cases e6
      rw [fold_Unfold_L1] at e6
      refine WC.seq ?_
      refine WC.region ?_
      refine WR.step (Ex.lss rfl rfl) (Wn.none rfl) rfl rfl ?_
      refine WR.nil ?_
      refine WQ.then ?_
      refine WC.seq ?_
      refine WC.condB rfl (fun hk15 => ?_) (fun hk15 => ?_)
      ·
        replace hk15 : n13 < (p0.length : Int) := of_decide_eq_true hk15
        rw [if_pos hk15] at e6
        refine WC.skip ?_
        refine WQ.then ?_
        refine WC.seq ?_
        refine WC.block ?_
        refine WC.seq ?_
        obtain ⟨a16, hxa16, e6⟩ := bnd e6
        refine WC.region ?_
        refine WR.step (Ex.move rfl) (Wn.none rfl) rfl rfl ?_
        refine WR.idxC Tryd.underlying35 Tryd.sizeOf9 (hp0) rfl rfl hxa16 (Wn.none rfl) rfl ?_
        intro p20 hc20
        refine WR.step (Ex.loadM H rfl hc20 Tryd.isAgg9) (Wn.none rfl) rfl rfl ?_
        refine WR.step (Ex.assign rfl) (Wn.none rfl) rfl rfl ?_
        refine WR.step (Ex.assign rfl) (Wn.none rfl) rfl rfl ?_
        refine WR.nil ?_
        refine WQ.then ?_
        refine WC.seq ?_
        refine WC.seq ?_
        obtain ⟨o17, e18, e6⟩ := bnd e6
        refine WC.cutX (fun e w => ∃ (b19 : Bool) (M : Mem), e = [(0, vp0), (4, ptr b4 0), (5, I n12), (6, I n13), (7, S a16), (15, vp0), (16, I (p0.length : Int)), (17, I n13), (37, Value.bool b19)] ∧ St w0 M0 M [.blk b4 (.cells #[I n10, I n11] 25)] w ∧ Sl M encS vp0 p0 ∧ some b19 = some o17) [] ?_ ?_ (trivial)
        ·
          obtain ⟨b20, hx21, e18⟩ := bnd e18
          rcases b20 with _ | _
          ·
            rw [if_neg Bool.false_ne_true] at e18
            by_cases hk22 : (0 : Int) < n13
            ·
              rw [if_pos hk22] at e18
              by_cases hk23 : a16 = []
              ·
                rw [if_pos hk23] at e18
                refine WC.region ?_
                refine WR.step (Ex.move rfl) (Wn.none rfl) rfl rfl ?_
                refine WR.call H (fold_ends_ct hx21) rfl trivial (Wn.none rfl) rfl ?_
                intro v23 M w H hle hR
                replace hp0 := hp0.mono hle
                replace hc20 := hc20.mono hle
                obtain rfl := hR
                refine WR.step (Ex.move rfl) (Wn.none rfl) rfl rfl ?_
                refine WR.step (Ex.move rfl) (Wn.some rfl rfl rfl) rfl rfl ?_
                refine WR.stepE (v' := .bool true) (Ex.gtr rfl rfl) (congrArg Value.bool (decide_eq_true hk22)) (Wn.some rfl rfl rfl) rfl rfl ?_
                refine WR.step (Ex.move rfl) (Wn.some rfl rfl rfl) rfl rfl ?_
                refine WR.step (Ex.move rfl) (Wn.some rfl rfl rfl) rfl rfl ?_
                refine WR.stepE (v' := .bool true) (Ex.strEql rfl rfl) (congrArg Value.bool (decide_eq_true hk23)) (Wn.some rfl rfl rfl) rfl rfl ?_
                refine WR.step (Ex.move rfl) (Wn.some rfl rfl rfl) rfl rfl ?_
                refine WR.skipG (b := true) rfl rfl rfl rfl rfl ?_
                refine WR.skipG (b := true) rfl rfl rfl rfl rfl ?_
                refine WR.skipG (b := true) rfl rfl rfl rfl rfl ?_
                refine WR.skipG (b := true) rfl rfl rfl rfl rfl ?_
                refine WR.step (Ex.pickT rfl rfl) (Wn.some rfl rfl rfl) rfl rfl ?_
                refine WR.step (Ex.pickT rfl rfl) (Wn.some rfl rfl rfl) rfl rfl ?_
                refine WR.step (Ex.pickF rfl rfl) (Wn.none rfl) rfl rfl ?_
                refine WR.nil ?_
                exact WQ.meetN [(0, _), (4, _), (5, _), (6, _), (7, _), (15, _), (16, _), (17, _), (37, _)] ⟨rfl, rfl, rfl, rfl, rfl, rfl, rfl, rfl, rfl, trivial⟩ ⟨_, _, rfl, H, hp0, e18⟩
              ·
                rw [if_neg hk23] at e18
                obtain ⟨c24, hxc24, e18⟩ := bnd e18
                obtain ⟨b25, hx26, e18⟩ := bnd e18
                refine WC.region ?_
                refine WR.step (Ex.move rfl) (Wn.none rfl) rfl rfl ?_
                refine WR.call H (fold_ends_ct hx21) rfl trivial (Wn.none rfl) rfl ?_
                intro v23 M w H hle hR
                replace hp0 := hp0.mono hle
                replace hc20 := hc20.mono hle
                obtain rfl := hR
                refine WR.step (Ex.move rfl) (Wn.none rfl) rfl rfl ?_
                refine WR.step (Ex.move rfl) (Wn.some rfl rfl rfl) rfl rfl ?_
                refine WR.stepE (v' := .bool true) (Ex.gtr rfl rfl) (congrArg Value.bool (decide_eq_true hk22)) (Wn.some rfl rfl rfl) rfl rfl ?_
                refine WR.step (Ex.move rfl) (Wn.some rfl rfl rfl) rfl rfl ?_
                refine WR.step (Ex.move rfl) (Wn.some rfl rfl rfl) rfl rfl ?_
                refine WR.stepE (v' := .bool false) (Ex.strEql rfl rfl) (congrArg Value.bool (decide_eq_false hk23)) (Wn.some rfl rfl rfl) rfl rfl ?_
                refine WR.step (Ex.move rfl) (Wn.some rfl rfl rfl) rfl rfl ?_
                refine WR.step (Ex.move rfl) (Wn.some rfl rfl rfl) rfl rfl ?_
                refine WR.step (Ex.idxStrC Tryd.underlying9 rfl rfl hxc24) (Wn.some rfl rfl rfl) rfl rfl ?_
                refine WR.call H (basic_Blank_ct hx26) rfl trivial (Wn.some rfl rfl rfl) rfl ?_
                intro v33 M w H hle hR
                replace hp0 := hp0.mono hle
                replace hc20 := hc20.mono hle
                obtain rfl := hR
                refine WR.step (Ex.not rfl) (Wn.some rfl rfl rfl) rfl rfl ?_
                refine WR.step (Ex.pickF rfl rfl) (Wn.some rfl rfl rfl) rfl rfl ?_
                refine WR.step (Ex.pickT rfl rfl) (Wn.some rfl rfl rfl) rfl rfl ?_
                refine WR.step (Ex.pickF rfl rfl) (Wn.none rfl) rfl rfl ?_
                refine WR.nil ?_
                exact WQ.meetN [(0, _), (4, _), (5, _), (6, _), (7, _), (15, _), (16, _), (17, _), (37, _)] ⟨rfl, rfl, rfl, rfl, rfl, rfl, rfl, rfl, rfl, trivial⟩ ⟨_, _, rfl, H, hp0, e18⟩
            ·
              rw [if_neg hk22] at e18
              refine WC.region ?_
              refine WR.step (Ex.move rfl) (Wn.none rfl) rfl rfl ?_
              refine WR.call H (fold_ends_ct hx21) rfl trivial (Wn.none rfl) rfl ?_
              intro v23 M w H hle hR
              replace hp0 := hp0.mono hle
              replace hc20 := hc20.mono hle
              obtain rfl := hR
              refine WR.step (Ex.move rfl) (Wn.none rfl) rfl rfl ?_
              refine WR.step (Ex.move rfl) (Wn.some rfl rfl rfl) rfl rfl ?_
              refine WR.stepE (v' := .bool false) (Ex.gtr rfl rfl) (congrArg Value.bool (decide_eq_false hk22)) (Wn.some rfl rfl rfl) rfl rfl ?_
              refine WR.step (Ex.move rfl) (Wn.some rfl rfl rfl) rfl rfl ?_
              refine WR.skipG (b := false) rfl rfl rfl rfl rfl ?_
              refine WR.skipG (b := false) rfl rfl rfl rfl rfl ?_
              refine WR.skipG (b := false) rfl rfl rfl rfl rfl ?_
              refine WR.skipU rfl rfl rfl rfl rfl ?_
              refine WR.skipU rfl rfl rfl rfl rfl ?_
              refine WR.skipU rfl rfl rfl rfl rfl ?_
              refine WR.skipU rfl rfl rfl rfl rfl ?_
              refine WR.skipG (b := false) rfl rfl rfl rfl rfl ?_
              refine WR.step (Ex.pickF rfl rfl) (Wn.some rfl rfl rfl) rfl rfl ?_
              refine WR.step (Ex.pickF rfl rfl) (Wn.none rfl) rfl rfl ?_
              refine WR.nil ?_
              exact WQ.meetN [(0, _), (4, _), (5, _), (6, _), (7, _), (15, _), (16, _), (17, _), (37, _)] ⟨rfl, rfl, rfl, rfl, rfl, rfl, rfl, rfl, rfl, trivial⟩ ⟨_, _, rfl, H, hp0, e18⟩
          ·
            rw [if_pos rfl] at e18
            refine WC.region ?_
            refine WR.step (Ex.move rfl) (Wn.none rfl) rfl rfl ?_
            refine WR.call H (fold_ends_ct hx21) rfl trivial (Wn.none rfl) rfl ?_
            intro v23 M w H hle hR
            replace hp0 := hp0.mono hle
            replace hc20 := hc20.mono hle
            obtain rfl := hR
            refine WR.step (Ex.move rfl) (Wn.none rfl) rfl rfl ?_
            refine WR.skipG (b := true) rfl rfl rfl rfl rfl ?_
            refine WR.skipG (b := true) rfl rfl rfl rfl rfl ?_
            refine WR.skipG (b := true) rfl rfl rfl rfl rfl ?_
            refine WR.skipU rfl rfl rfl rfl rfl ?_
            refine WR.skipU rfl rfl rfl rfl rfl ?_
            refine WR.skipU rfl rfl rfl rfl rfl ?_
            refine WR.skipU rfl rfl rfl rfl rfl ?_
            refine WR.skipU rfl rfl rfl rfl rfl ?_
            refine WR.skipU rfl rfl rfl rfl rfl ?_
            refine WR.skipU rfl rfl rfl rfl rfl ?_
            refine WR.skipU rfl rfl rfl rfl rfl ?_
            refine WR.skipG (b := true) rfl rfl rfl rfl rfl ?_
            refine WR.step (Ex.pickT rfl rfl) (Wn.none rfl) rfl rfl ?_
            refine WR.nil ?_
            exact WQ.meetN [(0, _), (4, _), (5, _), (6, _), (7, _), (15, _), (16, _), (17, _), (37, _)] ⟨rfl, rfl, rfl, rfl, rfl, rfl, rfl, rfl, rfl, trivial⟩ ⟨_, _, rfl, H, hp0, e18⟩
        ·
          rintro e w ⟨b19, M, rfl, H, hp0, q27⟩
          obtain rfl := Option.some.inj q27
          refine WQ.then ?_
          refine WC.condB rfl (fun hk28 => ?_) (fun hk28 => ?_)
          ·
            subst hk28
            rw [if_pos rfl] at e6
            refine WC.seq ?_
            obtain ⟨⟨n29, n30⟩, hx31, e6⟩ := bnd e6
            try dsimp only at e6
            refine WC.region ?_
            refine WR.step (Ex.move rfl) (Wn.none rfl) rfl rfl ?_
            refine WR.call H (basic_Fault_ct hx31) rfl trivial (Wn.none rfl) rfl ?_
            intro v39 M w H hle hR
            replace hp0 := hp0.mono hle
            try dsimp only at hR
            obtain rfl := hR
            refine WR.step (Ex.assign rfl) (Wn.none rfl) rfl rfl ?_
            refine WR.step (Ex.assign rfl) (Wn.none rfl) rfl rfl ?_
            refine WR.store [_, _] H rfl rfl rfl (by repeat (first | exact Upd.head | apply Upd.tail)) Tryd.sizeOf25 rfl (by rfl) (by rfl) (Wn.none rfl) ?_
            intro w H
            refine WR.nil ?_
            refine WQ.then ?_
            refine WC.ret ?_
            (repeat (first | refine WQ.thenRet ?_ | refine WQ.inBlockRet ?_ | refine WQ.cutRet ?_ | refine WQ.scRet ?_))
            obtain rfl := Option.some.inj e6
            try dsimp only at h
            obtain rfl := Option.some.inj h
            exact WQ.ret3 rfl rfl rfl ⟨_, rfl, H.loadAgg (by repeat (first | exact List.Mem.head _ | apply List.Mem.tail)) Tryd.isAgg25 Tryd.sizeOf25 (by rfl)⟩ H.ext rfl
          ·
            subst hk28
            rw [if_neg Bool.false_ne_true] at e6
            refine WC.skip ?_
            refine WQ.then ?_
            obtain ⟨n32, hxn32, e6⟩ := bnd e6
            refine WC.region ?_
            refine WR.step (Ex.move rfl) (Wn.none rfl) rfl rfl ?_
            refine WR.step (Ex.move rfl) (Wn.none rfl) rfl rfl ?_
            refine WR.step (Ex.lenStr Tryd.underlying9 rfl) (Wn.none rfl) rfl rfl ?_
            refine WR.step (Ex.addC rfl rfl hxn32) (Wn.none rfl) rfl rfl ?_
            refine WR.step (Ex.assign rfl) (Wn.none rfl) rfl rfl ?_
            refine WR.nil ?_
            refine WQ.inBlock ?_
            refine WQ.then ?_
            obtain ⟨n33, hxn33, e6⟩ := bnd e6
            refine WC.region ?_
            refine WR.step (Ex.addC rfl rfl hxn33) (Wn.none rfl) rfl rfl ?_
            refine WR.step (Ex.move rfl) (Wn.none rfl) rfl rfl ?_
            refine WR.nil ?_
            exact WQ.againP m14 [(0, _), (4, _), (5, _), (15, _), (16, _), (17, _)] ⟨rfl, rfl, rfl, rfl, rfl, rfl, trivial⟩ ⟨_, _, _, _, _, rfl, H, hp0, e6⟩ (Nat.lt_succ_self _)
      ·
        replace hk15 : ¬ (n13 < (p0.length : Int)) := of_decide_eq_false hk15
        rw [if_neg hk15] at e6
        refine WC.exit ?_
        refine WQ.thenExit ?_
        refine WQ.thenExit ?_
        refine WQ.exitHere ?_
        exact WQ.meetN [(0, _), (4, _), (5, _)] ⟨rfl, rfl, rfl, trivial⟩ ⟨_, _, _, _, rfl, H, hp0, e6⟩
    ·
      rintro e w ⟨n7, n8, n9, M, rfl, H, hp0, q34⟩
      obtain rfl := Option.some.inj q34
      try dsimp only at h
      refine WQ.then ?_
      refine WC.seq ?_
      refine WC.seq ?_
      refine WC.region ?_
      refine WR.step (Ex.move rfl) (Wn.none rfl) rfl rfl ?_
      refine WR.step (Ex.gtr rfl rfl) (Wn.none rfl) rfl rfl ?_
      refine WR.nil ?_
      refine WQ.then ?_
      refine WC.condB rfl (fun hk35 => ?_) (fun hk35 => ?_)
      ·
        replace hk35 : (8000 : Int) < n9 := of_decide_eq_true hk35
        rw [if_pos hk35] at h
        refine WC.seq ?_
        obtain ⟨⟨n36, n37⟩, hx38, h⟩ := bnd h
        try dsimp only at h
        refine WC.region ?_
        refine WR.call H (basic_Fault_ct hx38) rfl trivial (Wn.none rfl) rfl ?_
        intro v47 M w H hle hR
        replace hp0 := hp0.mono hle
        try dsimp only at hR
        obtain rfl := hR
        refine WR.step (Ex.assign rfl) (Wn.none rfl) rfl rfl ?_
        refine WR.step (Ex.assign rfl) (Wn.none rfl) rfl rfl ?_
        refine WR.store [_, _] H rfl rfl rfl (by repeat (first | exact Upd.head | apply Upd.tail)) Tryd.sizeOf25 rfl (by rfl) (by rfl) (Wn.none rfl) ?_
        intro w H
        refine WR.nil ?_
        refine WQ.then ?_
        refine WC.ret ?_
        (repeat (first | refine WQ.thenRet ?_ | refine WQ.inBlockRet ?_ | refine WQ.cutRet ?_ | refine WQ.scRet ?_))
        obtain rfl := Option.some.inj h
        exact WQ.ret3 rfl rfl rfl ⟨_, rfl, H.loadAgg (by repeat (first | exact List.Mem.head _ | apply List.Mem.tail)) Tryd.isAgg25 Tryd.sizeOf25 (by rfl)⟩ H.ext rfl
      ·
        replace hk35 : ¬ ((8000 : Int) < n9) := of_decide_eq_false hk35
        rw [if_neg hk35] at h
        refine WC.skip ?_
        refine WQ.then ?_
        refine WC.seq ?_
        obtain ⟨s39, hx40, h⟩ := bnd h
        obtain ⟨⟨s41, s42, b43⟩, hx44, h⟩ := bnd h
        try dsimp only at h
        refine WC.region ?_
        refine WR.step (Ex.move rfl) (Wn.none rfl) rfl rfl ?_
        refine WR.call H (strings_Join_ct hx40) rfl (hp0) (Wn.none rfl) rfl ?_
        intro v50 M w H hle hR
        replace hp0 := hp0.mono hle
        obtain rfl := hR
        refine WR.call H (strings_Cut_ct hx44) rfl trivial (Wn.none rfl) rfl ?_
        intro v51 M w H hle hR
        replace hp0 := hp0.mono hle
        try dsimp only at hR
        obtain rfl := hR
        refine WR.step (Ex.move rfl) (Wn.none rfl) rfl rfl ?_
        refine WR.step (Ex.extract rfl rfl) (Wn.none rfl) rfl rfl ?_
        refine WR.step (Ex.extract rfl rfl) (Wn.none rfl) rfl rfl ?_
        refine WR.step (Ex.extract rfl rfl) (Wn.none rfl) rfl rfl ?_
        refine WR.step (Ex.assign rfl) (Wn.none rfl) rfl rfl ?_
        refine WR.step (Ex.assign rfl) (Wn.none rfl) rfl rfl ?_
        refine WR.step (Ex.assign rfl) (Wn.none rfl) rfl rfl ?_
        refine WR.nil ?_
        refine WQ.then ?_
        refine WC.seq ?_
        refine WC.seq ?_
        obtain ⟨o45, e46, h⟩ := bnd h
        refine WC.cutX (fun e w => ∃ (b47 : Bool) (M : Mem), e = [(4, ptr b4 0), (8, S s41), (9, S s42), (61, Value.bool b47)] ∧ St w0 M0 M [.blk b4 (.cells #[I n7, I n8] 25)] w ∧ some b47 = some o45) [] ?_ ?_ (trivial)
        ·
          rcases b43 with _ | _
          ·
            rw [if_neg Bool.false_ne_true] at e46
            refine WC.region ?_
            refine WR.step (Ex.move rfl) (Wn.none rfl) rfl rfl ?_
            refine WR.step (Ex.not rfl) (Wn.none rfl) rfl rfl ?_
            refine WR.step (Ex.move rfl) (Wn.none rfl) rfl rfl ?_
            refine WR.skipG (b := true) rfl rfl rfl rfl rfl ?_
            refine WR.skipG (b := true) rfl rfl rfl rfl rfl ?_
            refine WR.skipG (b := true) rfl rfl rfl rfl rfl ?_
            refine WR.step (Ex.pickT rfl rfl) (Wn.none rfl) rfl rfl ?_
            refine WR.nil ?_
            exact WQ.meetN [(4, _), (8, _), (9, _), (61, _)] ⟨rfl, rfl, rfl, rfl, trivial⟩ ⟨_, _, rfl, H, e46⟩
          ·
            rw [if_pos rfl] at e46
            obtain ⟨b48, hx49, e46⟩ := bnd e46
            refine WC.region ?_
            refine WR.step (Ex.move rfl) (Wn.none rfl) rfl rfl ?_
            refine WR.step (Ex.not rfl) (Wn.none rfl) rfl rfl ?_
            refine WR.step (Ex.move rfl) (Wn.none rfl) rfl rfl ?_
            refine WR.step (Ex.move rfl) (Wn.some rfl rfl rfl) rfl rfl ?_
            refine WR.call H (fold_name_ct hx49) rfl trivial (Wn.some rfl rfl rfl) rfl ?_
            intro v59 M w H hle hR
            replace hp0 := hp0.mono hle
            obtain rfl := hR
            refine WR.step (Ex.not rfl) (Wn.some rfl rfl rfl) rfl rfl ?_
            refine WR.step (Ex.pickF rfl rfl) (Wn.none rfl) rfl rfl ?_
            refine WR.nil ?_
            exact WQ.meetN [(4, _), (8, _), (9, _), (61, _)] ⟨rfl, rfl, rfl, rfl, trivial⟩ ⟨_, _, rfl, H, e46⟩
        ·
          rintro e w ⟨b47, M, rfl, H, q50⟩
          obtain rfl := Option.some.inj q50
          refine WQ.then ?_
          refine WC.condB rfl (fun hk51 => ?_) (fun hk51 => ?_)
          ·
            subst hk51
            rw [if_pos rfl] at h
            refine WC.seq ?_
            obtain ⟨⟨n52, n53⟩, hx54, h⟩ := bnd h
            try dsimp only at h
            refine WC.region ?_
            refine WR.call H (basic_Fault_ct hx54) rfl trivial (Wn.none rfl) rfl ?_
            intro v62 M w H hle hR
            try dsimp only at hR
            obtain rfl := hR
            refine WR.step (Ex.assign rfl) (Wn.none rfl) rfl rfl ?_
            refine WR.step (Ex.assign rfl) (Wn.none rfl) rfl rfl ?_
            refine WR.store [_, _] H rfl rfl rfl (by repeat (first | exact Upd.head | apply Upd.tail)) Tryd.sizeOf25 rfl (by rfl) (by rfl) (Wn.none rfl) ?_
            intro w H
            refine WR.nil ?_
            refine WQ.then ?_
            refine WC.ret ?_
            (repeat (first | refine WQ.thenRet ?_ | refine WQ.inBlockRet ?_ | refine WQ.cutRet ?_ | refine WQ.scRet ?_))
            obtain rfl := Option.some.inj h
            exact WQ.ret3 rfl rfl rfl ⟨_, rfl, H.loadAgg (by repeat (first | exact List.Mem.head _ | apply List.Mem.tail)) Tryd.isAgg25 Tryd.sizeOf25 (by rfl)⟩ H.ext rfl
          ·
            subst hk51
            rw [if_neg Bool.false_ne_true] at h
            refine WC.skip ?_
            refine WQ.then ?_
            refine WC.seq ?_
            obtain ⟨s55, hx56, h⟩ := bnd h
            refine WC.region ?_
            refine WR.step (Ex.move rfl) (Wn.none rfl) rfl rfl ?_
            refine WR.call H (strings_Trim_ct hx56) rfl trivial (Wn.none rfl) rfl ?_
            intro v64 M w H hle hR
            obtain rfl := hR
            refine WR.step (Ex.assign rfl) (Wn.none rfl) rfl rfl ?_
            refine WR.nil ?_
            refine WQ.then ?_
            refine WC.seq ?_
            refine WC.seq ?_
            refine WC.region ?_
            refine WR.step (Ex.move rfl) (Wn.none rfl) rfl rfl ?_
            refine WR.step (Ex.lenStr Tryd.underlying9 rfl) (Wn.none rfl) rfl rfl ?_
            refine WR.step (Ex.gtr rfl rfl) (Wn.none rfl) rfl rfl ?_
            refine WR.nil ?_
            refine WQ.then ?_
            refine WC.condB rfl (fun hk57 => ?_) (fun hk57 => ?_)
            ·
              replace hk57 : (4000 : Int) < (s55.length : Int) := of_decide_eq_true hk57
              rw [if_pos hk57] at h
              refine WC.seq ?_
              obtain ⟨⟨n58, n59⟩, hx60, h⟩ := bnd h
              try dsimp only at h
              refine WC.region ?_
              refine WR.call H (basic_Fault_ct hx60) rfl trivial (Wn.none rfl) rfl ?_
              intro v68 M w H hle hR
              try dsimp only at hR
              obtain rfl := hR
              refine WR.step (Ex.assign rfl) (Wn.none rfl) rfl rfl ?_
              refine WR.step (Ex.assign rfl) (Wn.none rfl) rfl rfl ?_
              refine WR.store [_, _] H rfl rfl rfl (by repeat (first | exact Upd.head | apply Upd.tail)) Tryd.sizeOf25 rfl (by rfl) (by rfl) (Wn.none rfl) ?_
              intro w H
              refine WR.nil ?_
              refine WQ.then ?_
              refine WC.ret ?_
              (repeat (first | refine WQ.thenRet ?_ | refine WQ.inBlockRet ?_ | refine WQ.cutRet ?_ | refine WQ.scRet ?_))
              obtain rfl := Option.some.inj h
              exact WQ.ret3 rfl rfl rfl ⟨_, rfl, H.loadAgg (by repeat (first | exact List.Mem.head _ | apply List.Mem.tail)) Tryd.isAgg25 Tryd.sizeOf25 (by rfl)⟩ H.ext rfl
            ·
              replace hk57 : ¬ ((4000 : Int) < (s55.length : Int)) := of_decide_eq_false hk57
              rw [if_neg hk57] at h
              refine WC.skip ?_
              refine WQ.then ?_
              refine WC.seq ?_
              obtain ⟨⟨n61, n62⟩, hx63, h⟩ := bnd h
              try dsimp only at h
              refine WC.region ?_
              refine WR.step (Ex.move rfl) (Wn.none rfl) rfl rfl ?_
              refine WR.step (Ex.move rfl) (Wn.none rfl) rfl rfl ?_
              refine WR.call H (basic_None_ct hx63) rfl trivial (Wn.none rfl) rfl ?_
              intro v71 M w H hle hR
              try dsimp only at hR
              obtain rfl := hR
              refine WR.step (Ex.assign rfl) (Wn.none rfl) rfl rfl ?_
              refine WR.step (Ex.assign rfl) (Wn.none rfl) rfl rfl ?_
              refine WR.store [_, _] H rfl rfl rfl (by repeat (first | exact Upd.head | apply Upd.tail)) Tryd.sizeOf25 rfl (by rfl) (by rfl) (Wn.none rfl) ?_
              intro w H
              refine WR.nil ?_
              refine WQ.then ?_
              refine WC.ret ?_
              (repeat (first | refine WQ.thenRet ?_ | refine WQ.inBlockRet ?_ | refine WQ.cutRet ?_ | refine WQ.scRet ?_))
              obtain rfl := Option.some.inj h
              exact WQ.ret3 rfl rfl rfl ⟨_, rfl, H.loadAgg (by repeat (first | exact List.Mem.head _ | apply List.Mem.tail)) Tryd.isAgg25 Tryd.sizeOf25 (by rfl)⟩ H.ext rfl
theorem R_Strings_ct {p0 : List (List UInt8)} {p1 : List (List UInt8)} {vp0 : Value} {vp1 : Value} {r : Bool} (h : R_Strings p0 p1 = some r) : Ct Tryd.prog 26 [vp0, vp1] (fun M => Sl M encS vp0 p0 ∧ Sl M encS vp1 p1) (fun v M => v = Value.bool r) := by
  refine Ct.of Tryd.func26 (enters Tryd.func26 (by kernel_rfl) rfl) rfl rfl rfl ?_
  intro w0 M0 H hp
  obtain ⟨hp0, hp1⟩ := hp
  unfold R_Strings at h
  refine WC.seq ?_
  refine WC.region ?_
  refine WR.step (Ex.assign rfl) (Wn.none rfl) rfl rfl ?_
  refine WR.nil ?_
  refine WQ.then ?_
  refine WC.seq ?_
  refine WC.seq ?_
  refine WC.region ?_
  refine WR.step (Ex.move rfl) (Wn.none rfl) rfl rfl ?_
  refine WR.step (Ex.lenSl Tryd.underlying35 hp0 rfl) (Wn.none rfl) rfl rfl ?_
  refine WR.step (Ex.move rfl) (Wn.none rfl) rfl rfl ?_
  refine WR.step (Ex.lenSl Tryd.underlying35 hp1 rfl) (Wn.none rfl) rfl rfl ?_
  refine WR.step (Ex.neqC rfl rfl) (Wn.none rfl) rfl rfl ?_
  refine WR.nil ?_
  refine WQ.then ?_
  refine WC.condB rfl (fun hk1 => ?_) (fun hk1 => ?_)
  ·
    replace hk1 : ¬ ((p0.length : Int) = (p1.length : Int)) := of_not_decide hk1
    rw [if_neg hk1] at h
    refine WC.seq ?_
    refine WC.region ?_
    refine WR.step (Ex.assign rfl) (Wn.none rfl) rfl rfl ?_
    refine WR.nil ?_
    refine WQ.then ?_
    refine WC.ret ?_
    (repeat (first | refine WQ.thenRet ?_ | refine WQ.inBlockRet ?_ | refine WQ.cutRet ?_ | refine WQ.scRet ?_))
    obtain rfl := Option.some.inj h
    exact WQ.ret1 rfl rfl H.ext rfl
  ·
    replace hk1 : (p0.length : Int) = (p1.length : Int) := of_not_decide' hk1
    rw [if_pos hk1] at h
    refine WC.skip ?_
    refine WQ.then ?_
    refine WC.seq ?_
    refine WC.seq ?_
    refine WC.region ?_
    refine WR.step (Ex.assign rfl) (Wn.none rfl) rfl rfl ?_
    refine WR.nil ?_
    refine WQ.then ?_
    obtain ⟨o2, e3, h⟩ := bnd h
    refine WC.cutX (fun e w => ∃  (M : Mem), e = [] ∧ St w0 M0 M [] w ∧ some (.inl ()) = some o2) [] ?_ ?_ (trivial)
    ·
      refine WC.block ?_
      refine WC.loopP (fun m e w => ∃ (n4 : Int) (M : Mem), e = [(0, vp0), (1, vp1), (5, I n4)] ∧ St w0 M0 M [] w ∧ Sl M encS vp0 p0 ∧ Sl M encS vp1 p1 ∧ R_Strings_L1 p0 p1 m n4 = some o2) FU [(0, _), (1, _), (5, _)] ⟨rfl, rfl, rfl, trivial⟩ ⟨_, _, rfl, H, hp0, hp1, e3⟩ ?_
      rintro m5 e w ⟨n4, M, rfl, H, hp0, hp1, e3⟩
      rcases m5 with _ | m5
      · rw [R_Strings_L1] at e3; cases e3
      rw [R_Strings_L1] at e3
      refine WC.seq ?_
      refine WC.seq ?_
      refine WC.region ?_
      refine WR.step (Ex.move rfl) (Wn.none rfl) rfl rfl ?_
      refine WR.step (Ex.move rfl) (Wn.none rfl) rfl rfl ?_
      refine WR.step (Ex.lenSl Tryd.underlying35 hp0 rfl) (Wn.none rfl) rfl rfl ?_
      refine WR.step (Ex.lss rfl rfl) (Wn.none rfl) rfl rfl ?_
      refine WR.nil ?_
      refine WQ.then ?_
      refine WC.condB rfl (fun hk6 => ?_) (fun hk6 => ?_)
      ·
        replace hk6 : n4 < (p0.length : Int) := of_decide_eq_true hk6
        rw [if_pos hk6] at e3
        refine WC.skip ?_
        refine WQ.then ?_
        refine WC.seq ?_
        refine WC.block ?_
        refine WC.seq ?_
        obtain ⟨a7, hxa7, e3⟩ := bnd e3
        obtain ⟨a8, hxa8, e3⟩ := bnd e3
        refine WC.cutP (fun e w => ∃  (M : Mem), e = [(0, vp0), (1, vp1), (5, I n4), (25, Value.bool (!decide (a7 = a8)))] ∧ St w0 M0 M [] w ∧ Sl M encS vp0 p0 ∧ Sl M encS vp1 p1) ?_ ?_
        ·
          refine WC.draw (m := 9) rfl rfl H ?_
          intro w H
          refine WA.take (i := 0) rfl (by kernel_rfl) (by kernel_rfl) (by kernel_rfl) (fun _ => Ex.move rfl) (Wn.none rfl) rfl rfl (fun _ _ => rfl) ?_
          refine WA.take (i := 1) rfl (by kernel_rfl) (by kernel_rfl) (by kernel_rfl) (fun _ => Ex.move rfl) (Wn.none rfl) rfl rfl (fun _ _ => rfl) ?_
          refine WA.take (i := 4) rfl (by kernel_rfl) (by kernel_rfl) (by kernel_rfl) (fun _ => Ex.move rfl) (Wn.none rfl) rfl rfl (fun _ _ => rfl) ?_
          refine WA.take (i := 5) rfl (by kernel_rfl) (by kernel_rfl) (by kernel_rfl) (fun _ => Ex.move rfl) (Wn.none rfl) rfl rfl (fun _ _ => rfl) ?_
          refine WA.two (i := 2) (j := 6) (by kernel_rfl) rfl rfl ?_ ?_
          ·
            refine WR.idxC Tryd.underlying35 Tryd.sizeOf9 (hp0) rfl rfl hxa7 (Wn.none rfl) rfl ?_
            intro p19 hc19
            refine WR.nil (WQ.any ?_)
            refine WA.two (i := 3) (j := 6) (by kernel_rfl) rfl rfl ?_ ?_
            ·
              refine WR.step (Ex.loadM H rfl hc19 Tryd.isAgg9) (Wn.none rfl) rfl rfl ?_
              refine WR.nil (WQ.any ?_)
              refine WA.one (i := 6) (by kernel_rfl) rfl ?_
              refine WR.idxC Tryd.underlying35 Tryd.sizeOf9 (hp1) rfl rfl hxa8 (Wn.none rfl) rfl ?_
              intro p23 hc23
              refine WR.nil (WQ.any ?_)
              refine WA.one (i := 7) (by kernel_rfl) rfl ?_
              refine WR.step (Ex.loadM H rfl hc23 Tryd.isAgg9) (Wn.none rfl) rfl rfl ?_
              refine WR.nil (WQ.any ?_)
              refine WA.one (i := 8) (by kernel_rfl) rfl ?_
              refine WR.step (Ex.strNeqC rfl rfl) (Wn.none rfl) rfl rfl ?_
              refine WR.nil (WQ.any ?_)
              refine WA.done (by kernel_rfl) ?_
              exact WQ.meetP [(0, _), (1, _), (5, _), (25, _)] ⟨rfl, rfl, rfl, rfl, trivial⟩ ⟨_, rfl, H, hp0, hp1⟩
            ·
              refine WR.idxC Tryd.underlying35 Tryd.sizeOf9 (hp1) rfl rfl hxa8 (Wn.none rfl) rfl ?_
              intro p23 hc23
              refine WR.nil (WQ.any ?_)
              refine WA.two (i := 3) (j := 7) (by kernel_rfl) rfl rfl ?_ ?_
              ·
                refine WR.step (Ex.loadM H rfl hc19 Tryd.isAgg9) (Wn.none rfl) rfl rfl ?_
                refine WR.nil (WQ.any ?_)
                refine WA.one (i := 7) (by kernel_rfl) rfl ?_
                refine WR.step (Ex.loadM H rfl hc23 Tryd.isAgg9) (Wn.none rfl) rfl rfl ?_
                refine WR.nil (WQ.any ?_)
                refine WA.one (i := 8) (by kernel_rfl) rfl ?_
                refine WR.step (Ex.strNeqC rfl rfl) (Wn.none rfl) rfl rfl ?_
                refine WR.nil (WQ.any ?_)
                refine WA.done (by kernel_rfl) ?_
                exact WQ.meetP [(0, _), (1, _), (5, _), (25, _)] ⟨rfl, rfl, rfl, rfl, trivial⟩ ⟨_, rfl, H, hp0, hp1⟩
              ·
                refine WR.step (Ex.loadM H rfl hc23 Tryd.isAgg9) (Wn.none rfl) rfl rfl ?_
                refine WR.nil (WQ.any ?_)
                refine WA.one (i := 3) (by kernel_rfl) rfl ?_
                refine WR.step (Ex.loadM H rfl hc19 Tryd.isAgg9) (Wn.none rfl) rfl rfl ?_
                refine WR.nil (WQ.any ?_)
                refine WA.one (i := 8) (by kernel_rfl) rfl ?_
                refine WR.step (Ex.strNeqC rfl rfl) (Wn.none rfl) rfl rfl ?_
                refine WR.nil (WQ.any ?_)
                refine WA.done (by kernel_rfl) ?_
                exact WQ.meetP [(0, _), (1, _), (5, _), (25, _)] ⟨rfl, rfl, rfl, rfl, trivial⟩ ⟨_, rfl, H, hp0, hp1⟩
          ·
            refine WR.idxC Tryd.underlying35 Tryd.sizeOf9 (hp1) rfl rfl hxa8 (Wn.none rfl) rfl ?_
            intro p23 hc23
            refine WR.nil (WQ.any ?_)
            refine WA.two (i := 2) (j := 7) (by kernel_rfl) rfl rfl ?_ ?_
            ·
              refine WR.idxC Tryd.underlying35 Tryd.sizeOf9 (hp0) rfl rfl hxa7 (Wn.none rfl) rfl ?_
              intro p19 hc19
              refine WR.nil (WQ.any ?_)
              refine WA.two (i := 3) (j := 7) (by kernel_rfl) rfl rfl ?_ ?_
              ·
                refine WR.step (Ex.loadM H rfl hc19 Tryd.isAgg9) (Wn.none rfl) rfl rfl ?_
                refine WR.nil (WQ.any ?_)
                refine WA.one (i := 7) (by kernel_rfl) rfl ?_
                refine WR.step (Ex.loadM H rfl hc23 Tryd.isAgg9) (Wn.none rfl) rfl rfl ?_
                refine WR.nil (WQ.any ?_)
                refine WA.one (i := 8) (by kernel_rfl) rfl ?_
                refine WR.step (Ex.strNeqC rfl rfl) (Wn.none rfl) rfl rfl ?_
                refine WR.nil (WQ.any ?_)
                refine WA.done (by kernel_rfl) ?_
                exact WQ.meetP [(0, _), (1, _), (5, _), (25, _)] ⟨rfl, rfl, rfl, rfl, trivial⟩ ⟨_, rfl, H, hp0, hp1⟩
              ·
                refine WR.step (Ex.loadM H rfl hc23 Tryd.isAgg9) (Wn.none rfl) rfl rfl ?_
                refine WR.nil (WQ.any ?_)
                refine WA.one (i := 3) (by kernel_rfl) rfl ?_
                refine WR.step (Ex.loadM H rfl hc19 Tryd.isAgg9) (Wn.none rfl) rfl rfl ?_
                refine WR.nil (WQ.any ?_)
                refine WA.one (i := 8) (by kernel_rfl) rfl ?_
                refine WR.step (Ex.strNeqC rfl rfl) (Wn.none rfl) rfl rfl ?_
                refine WR.nil (WQ.any ?_)
                refine WA.done (by kernel_rfl) ?_
                exact WQ.meetP [(0, _), (1, _), (5, _), (25, _)] ⟨rfl, rfl, rfl, rfl, trivial⟩ ⟨_, rfl, H, hp0, hp1⟩
            ·
              refine WR.step (Ex.loadM H rfl hc23 Tryd.isAgg9) (Wn.none rfl) rfl rfl ?_
              refine WR.nil (WQ.any ?_)
              refine WA.one (i := 2) (by kernel_rfl) rfl ?_
              refine WR.idxC Tryd.underlying35 Tryd.sizeOf9 (hp0) rfl rfl hxa7 (Wn.none rfl) rfl ?_
              intro p19 hc19
              refine WR.nil (WQ.any ?_)
              refine WA.one (i := 3) (by kernel_rfl) rfl ?_
              refine WR.step (Ex.loadM H rfl hc19 Tryd.isAgg9) (Wn.none rfl) rfl rfl ?_
              refine WR.nil (WQ.any ?_)
              refine WA.one (i := 8) (by kernel_rfl) rfl ?_
              refine WR.step (Ex.strNeqC rfl rfl) (Wn.none rfl) rfl rfl ?_
              refine WR.nil (WQ.any ?_)
              refine WA.done (by kernel_rfl) ?_
              exact WQ.meetP [(0, _), (1, _), (5, _), (25, _)] ⟨rfl, rfl, rfl, rfl, trivial⟩ ⟨_, rfl, H, hp0, hp1⟩
        ·
          rintro e w ⟨M, rfl, H, hp0, hp1⟩
          refine WQ.then ?_
          refine WC.condB rfl (fun hk9 => ?_) (fun hk9 => ?_)
          ·
            replace hk9 : ¬ (a7 = a8) := of_not_decide hk9
            rw [if_neg hk9] at e3
            refine WC.seq ?_
            refine WC.region ?_
            refine WR.step (Ex.assign rfl) (Wn.none rfl) rfl rfl ?_
            refine WR.nil ?_
            refine WQ.then ?_
            refine WC.ret ?_
            (repeat (first | refine WQ.thenRet ?_ | refine WQ.inBlockRet ?_ | refine WQ.cutRet ?_ | refine WQ.scRet ?_))
            obtain rfl := Option.some.inj e3
            try dsimp only at h
            obtain rfl := Option.some.inj h
            exact WQ.ret1 rfl rfl H.ext rfl
          ·
            replace hk9 : a7 = a8 := of_not_decide' hk9
            rw [if_pos hk9] at e3
            refine WC.skip ?_
            refine WQ.inBlock ?_
            refine WQ.then ?_
            obtain ⟨n10, hxn10, e3⟩ := bnd e3
            refine WC.region ?_
            refine WR.step (Ex.move rfl) (Wn.none rfl) rfl rfl ?_
            refine WR.step (Ex.addC rfl rfl hxn10) (Wn.none rfl) rfl rfl ?_
            refine WR.step (Ex.assign rfl) (Wn.none rfl) rfl rfl ?_
            refine WR.nil ?_
            exact WQ.againP m5 [(0, _), (1, _), (5, _)] ⟨rfl, rfl, rfl, trivial⟩ ⟨_, _, rfl, H, hp0, hp1, e3⟩ (Nat.lt_succ_self _)
      ·
        replace hk6 : ¬ (n4 < (p0.length : Int)) := of_decide_eq_false hk6
        rw [if_neg hk6] at e3
        refine WC.exit ?_
        refine WQ.thenExit ?_
        refine WQ.thenExit ?_
        refine WQ.exitHere ?_
        exact WQ.meetN [] trivial ⟨_, rfl, H, e3⟩
    ·
      rintro e w ⟨M, rfl, H, q11⟩
      obtain rfl := Option.some.inj q11
      try dsimp only at h
      refine WQ.then ?_
      refine WC.seq ?_
      refine WC.region ?_
      refine WR.step (Ex.assign rfl) (Wn.none rfl) rfl rfl ?_
      refine WR.nil ?_
      refine WQ.then ?_
      refine WC.ret ?_
      (repeat (first | refine WQ.thenRet ?_ | refine WQ.inBlockRet ?_ | refine WQ.cutRet ?_ | refine WQ.scRet ?_))
      obtain rfl := Option.some.inj h
      exact WQ.ret1 rfl rfl H.ext rfl
theorem L_foldExample_ct  {r : Bool} (h : L_foldExample = some r) : Ct Tryd.prog 23 [] (fun M => True) (fun v M => v = Value.bool r) := by
  refine Ct.of Tryd.func23 (enters Tryd.func23 (by kernel_rfl) rfl) rfl rfl rfl ?_
  intro w0 M0 H hp
  unfold L_foldExample at h
  refine WC.seq ?_
  refine WC.region ?_
  refine WR.step (Ex.assign rfl) (Wn.none rfl) rfl rfl ?_
  refine WR.nil ?_
  refine WQ.then ?_
  refine WC.seq ?_
  obtain ⟨⟨l1, ⟨n2, n3⟩⟩, hx4, h⟩ := bnd h
  try dsimp only at h
  refine WC.region ?_
  refine WR.call H (fold_Fold_ct hx4) rfl trivial (Wn.none rfl) rfl ?_
  intro v7 M w H hle hR
  try dsimp only at hR
  obtain ⟨x7_0, rfl, f7_0⟩ := hR
  refine WR.step (Ex.move rfl) (Wn.none rfl) rfl rfl ?_
  refine WR.step (Ex.extract rfl rfl) (Wn.none rfl) rfl rfl ?_
  refine WR.step (Ex.extract rfl rfl) (Wn.none rfl) rfl rfl ?_
  refine WR.alloc [_, _] H Tryd.zeroValue25 rfl (Wn.none rfl) rfl ?_
  intro b2 w H
  refine WR.step (Ex.assign rfl) (Wn.none rfl) rfl rfl ?_
  refine WR.store [_, _] H rfl rfl rfl (by repeat (first | exact Upd.head | apply Upd.tail)) Tryd.sizeOf25 rfl (by rfl) (by rfl) (Wn.none rfl) ?_
  intro w H
  refine WR.nil ?_
  refine WQ.then ?_
  refine WC.seq ?_
  obtain ⟨⟨s5, s6, ⟨n7, n8⟩⟩, hx9, h⟩ := bnd h
  try dsimp only at h
  refine WC.region ?_
  refine WR.lit (enc := encS) xty35 ([[97, 58, 32, 98], [32, 99]] : List (List UInt8)) H rfl (by rfl) (fun _ => rfl) rfl rfl (Wn.none rfl) rfl ?_
  intro v11 M w H hle hs11
  replace f7_0 := f7_0.mono hle
  refine WR.call H (fold_Unfold_ct hx9) rfl (hs11) (Wn.none rfl) rfl ?_
  intro v12 M w H hle hR
  replace f7_0 := f7_0.mono hle
  replace hs11 := hs11.mono hle
  try dsimp only at hR
  obtain rfl := hR
  refine WR.step (Ex.move rfl) (Wn.none rfl) rfl rfl ?_
  refine WR.step (Ex.extract rfl rfl) (Wn.none rfl) rfl rfl ?_
  refine WR.step (Ex.extract rfl rfl) (Wn.none rfl) rfl rfl ?_
  refine WR.step (Ex.extract rfl rfl) (Wn.none rfl) rfl rfl ?_
  refine WR.alloc [_, _] H Tryd.zeroValue25 rfl (Wn.none rfl) rfl ?_
  intro b5 w H
  refine WR.step (Ex.assign rfl) (Wn.none rfl) rfl rfl ?_
  refine WR.step (Ex.assign rfl) (Wn.none rfl) rfl rfl ?_
  refine WR.store [_, _] H rfl rfl rfl (by repeat (first | exact Upd.head | apply Upd.tail)) Tryd.sizeOf25 rfl (by rfl) (by rfl) (Wn.none rfl) ?_
  intro w H
  refine WR.nil ?_
  refine WQ.then ?_
  refine WC.seq ?_
  obtain ⟨o10, e11, h⟩ := bnd h
  refine WC.cutX (fun e w => ∃ (b12 : Bool) (M : Mem), e = [(0, Value.bool b12)] ∧ St w0 M0 M [] w ∧ some b12 = some o10) [] ?_ ?_ (trivial)
  ·
    by_cases hk13 : n2 = (0 : Int)
    ·
      rw [if_pos hk13] at e11
      by_cases hk14 : n7 = (0 : Int)
      ·
        rw [if_pos hk14] at e11
        obtain ⟨b15, hx16, e11⟩ := bnd e11
        rcases b15 with _ | _
        ·
          rw [if_neg Bool.false_ne_true] at e11
          refine WC.region ?_
          refine WR.step (Ex.fieldAddr Tryd.underlying25 rfl Tryd.sizeOf3 (by decide) rfl) (Wn.none rfl) rfl rfl ?_
          refine WR.step (Ex.load1 H rfl (by repeat (first | exact List.Mem.head _ | apply List.Mem.tail)) Tryd.isAgg3 (by rfl)) (Wn.none rfl) rfl rfl ?_
          refine WR.stepE (v' := .bool true) (Ex.eql rfl rfl) (congrArg Value.bool (decide_eq_true hk13)) (Wn.none rfl) rfl rfl ?_
          refine WR.step (Ex.move rfl) (Wn.none rfl) rfl rfl ?_
          refine WR.step (Ex.fieldAddr Tryd.underlying25 rfl Tryd.sizeOf3 (by decide) rfl) (Wn.some rfl rfl rfl) rfl rfl ?_
          refine WR.step (Ex.load1 H rfl (by repeat (first | exact List.Mem.head _ | apply List.Mem.tail)) Tryd.isAgg3 (by rfl)) (Wn.some rfl rfl rfl) rfl rfl ?_
          refine WR.stepE (v' := .bool true) (Ex.eql rfl rfl) (congrArg Value.bool (decide_eq_true hk14)) (Wn.some rfl rfl rfl) rfl rfl ?_
          refine WR.step (Ex.pickT rfl rfl) (Wn.none rfl) rfl rfl ?_
          refine WR.step (Ex.move rfl) (Wn.none rfl) rfl rfl ?_
          refine WR.step (Ex.move rfl) (Wn.some rfl rfl rfl) rfl rfl ?_
          refine WR.lit (enc := encS) xty35 ([[97, 58, 32, 98]] : List (List UInt8)) H rfl (by rfl) (fun _ => rfl) rfl rfl (Wn.some rfl rfl rfl) rfl ?_
          intro v26 M w H hle hs26
          replace f7_0 := f7_0.mono hle
          replace hs11 := hs11.mono hle
          refine WR.call H (R_Strings_ct hx16) rfl ⟨f7_0, hs26⟩ (Wn.some rfl rfl rfl) rfl ?_
          intro v27 M w H hle hR
          replace f7_0 := f7_0.mono hle
          replace hs11 := hs11.mono hle
          replace hs26 := hs26.mono hle
          obtain rfl := hR
          refine WR.step (Ex.pickT rfl rfl) (Wn.none rfl) rfl rfl ?_
          refine WR.step (Ex.move rfl) (Wn.none rfl) rfl rfl ?_
          refine WR.skipG (b := false) rfl rfl rfl rfl rfl ?_
          refine WR.skipG (b := false) rfl rfl rfl rfl rfl ?_
          refine WR.step (Ex.pickF rfl rfl) (Wn.none rfl) rfl rfl ?_
          refine WR.step (Ex.move rfl) (Wn.none rfl) rfl rfl ?_
          refine WR.skipG (b := false) rfl rfl rfl rfl rfl ?_
          refine WR.skipG (b := false) rfl rfl rfl rfl rfl ?_
          refine WR.step (Ex.pickF rfl rfl) (Wn.none rfl) rfl rfl ?_
          refine WR.step (Ex.assign rfl) (Wn.none rfl) rfl rfl ?_
          refine WR.nil ?_
          exact WQ.meetN [(0, _)] ⟨rfl, trivial⟩ ⟨_, _, rfl, (H.pick (L' := []) (by repeat (first | exact Pick.nil | refine Pick.cons (by repeat (first | exact Rem.head | apply Rem.tail)) ?_))), e11⟩
        ·
          rw [if_pos rfl] at e11
          by_cases hk17 : s5 = [97]
          ·
            rw [if_pos hk17] at e11
            refine WC.region ?_
            refine WR.step (Ex.fieldAddr Tryd.underlying25 rfl Tryd.sizeOf3 (by decide) rfl) (Wn.none rfl) rfl rfl ?_
            refine WR.step (Ex.load1 H rfl (by repeat (first | exact List.Mem.head _ | apply List.Mem.tail)) Tryd.isAgg3 (by rfl)) (Wn.none rfl) rfl rfl ?_
            refine WR.stepE (v' := .bool true) (Ex.eql rfl rfl) (congrArg Value.bool (decide_eq_true hk13)) (Wn.none rfl) rfl rfl ?_
            refine WR.step (Ex.move rfl) (Wn.none rfl) rfl rfl ?_
            refine WR.step (Ex.fieldAddr Tryd.underlying25 rfl Tryd.sizeOf3 (by decide) rfl) (Wn.some rfl rfl rfl) rfl rfl ?_
            refine WR.step (Ex.load1 H rfl (by repeat (first | exact List.Mem.head _ | apply List.Mem.tail)) Tryd.isAgg3 (by rfl)) (Wn.some rfl rfl rfl) rfl rfl ?_
            refine WR.stepE (v' := .bool true) (Ex.eql rfl rfl) (congrArg Value.bool (decide_eq_true hk14)) (Wn.some rfl rfl rfl) rfl rfl ?_
            refine WR.step (Ex.pickT rfl rfl) (Wn.none rfl) rfl rfl ?_
            refine WR.step (Ex.move rfl) (Wn.none rfl) rfl rfl ?_
            refine WR.step (Ex.move rfl) (Wn.some rfl rfl rfl) rfl rfl ?_
            refine WR.lit (enc := encS) xty35 ([[97, 58, 32, 98]] : List (List UInt8)) H rfl (by rfl) (fun _ => rfl) rfl rfl (Wn.some rfl rfl rfl) rfl ?_
            intro v26 M w H hle hs26
            replace f7_0 := f7_0.mono hle
            replace hs11 := hs11.mono hle
            refine WR.call H (R_Strings_ct hx16) rfl ⟨f7_0, hs26⟩ (Wn.some rfl rfl rfl) rfl ?_
            intro v27 M w H hle hR
            replace f7_0 := f7_0.mono hle
            replace hs11 := hs11.mono hle
            replace hs26 := hs26.mono hle
            obtain rfl := hR
            refine WR.step (Ex.pickT rfl rfl) (Wn.none rfl) rfl rfl ?_
            refine WR.step (Ex.move rfl) (Wn.none rfl) rfl rfl ?_
            refine WR.step (Ex.move rfl) (Wn.some rfl rfl rfl) rfl rfl ?_
            refine WR.stepE (v' := .bool true) (Ex.strEql rfl rfl) (congrArg Value.bool (decide_eq_true hk17)) (Wn.some rfl rfl rfl) rfl rfl ?_
            refine WR.step (Ex.pickT rfl rfl) (Wn.none rfl) rfl rfl ?_
            refine WR.step (Ex.move rfl) (Wn.none rfl) rfl rfl ?_
            refine WR.step (Ex.move rfl) (Wn.some rfl rfl rfl) rfl rfl ?_
            refine WR.step (Ex.strEql rfl rfl) (Wn.some rfl rfl rfl) rfl rfl ?_
            refine WR.step (Ex.pickT rfl rfl) (Wn.none rfl) rfl rfl ?_
            refine WR.step (Ex.assign rfl) (Wn.none rfl) rfl rfl ?_
            refine WR.nil ?_
            exact WQ.meetN [(0, _)] ⟨rfl, trivial⟩ ⟨_, _, rfl, (H.pick (L' := []) (by repeat (first | exact Pick.nil | refine Pick.cons (by repeat (first | exact Rem.head | apply Rem.tail)) ?_))), e11⟩
          ·
            rw [if_neg hk17] at e11
            refine WC.region ?_
            refine WR.step (Ex.fieldAddr Tryd.underlying25 rfl Tryd.sizeOf3 (by decide) rfl) (Wn.none rfl) rfl rfl ?_
            refine WR.step (Ex.load1 H rfl (by repeat (first | exact List.Mem.head _ | apply List.Mem.tail)) Tryd.isAgg3 (by rfl)) (Wn.none rfl) rfl rfl ?_
            refine WR.stepE (v' := .bool true) (Ex.eql rfl rfl) (congrArg Value.bool (decide_eq_true hk13)) (Wn.none rfl) rfl rfl ?_
            refine WR.step (Ex.move rfl) (Wn.none rfl) rfl rfl ?_
            refine WR.step (Ex.fieldAddr Tryd.underlying25 rfl Tryd.sizeOf3 (by decide) rfl) (Wn.some rfl rfl rfl) rfl rfl ?_
            refine WR.step (Ex.load1 H rfl (by repeat (first | exact List.Mem.head _ | apply List.Mem.tail)) Tryd.isAgg3 (by rfl)) (Wn.some rfl rfl rfl) rfl rfl ?_
            refine WR.stepE (v' := .bool true) (Ex.eql rfl rfl) (congrArg Value.bool (decide_eq_true hk14)) (Wn.some rfl rfl rfl) rfl rfl ?_
            refine WR.step (Ex.pickT rfl rfl) (Wn.none rfl) rfl rfl ?_
            refine WR.step (Ex.move rfl) (Wn.none rfl) rfl rfl ?_
            refine WR.step (Ex.move rfl) (Wn.some rfl rfl rfl) rfl rfl ?_
            refine WR.lit (enc := encS) xty35 ([[97, 58, 32, 98]] : List (List UInt8)) H rfl (by rfl) (fun _ => rfl) rfl rfl (Wn.some rfl rfl rfl) rfl ?_
            intro v26 M w H hle hs26
            replace f7_0 := f7_0.mono hle
            replace hs11 := hs11.mono hle
            refine WR.call H (R_Strings_ct hx16) rfl ⟨f7_0, hs26⟩ (Wn.some rfl rfl rfl) rfl ?_
            intro v27 M w H hle hR
            replace f7_0 := f7_0.mono hle
            replace hs11 := hs11.mono hle
            replace hs26 := hs26.mono hle
            obtain rfl := hR
            refine WR.step (Ex.pickT rfl rfl) (Wn.none rfl) rfl rfl ?_
            refine WR.step (Ex.move rfl) (Wn.none rfl) rfl rfl ?_
            refine WR.step (Ex.move rfl) (Wn.some rfl rfl rfl) rfl rfl ?_
            refine WR.stepE (v' := .bool false) (Ex.strEql rfl rfl) (congrArg Value.bool (decide_eq_false hk17)) (Wn.some rfl rfl rfl) rfl rfl ?_
            refine WR.step (Ex.pickT rfl rfl) (Wn.none rfl) rfl rfl ?_
            refine WR.step (Ex.move rfl) (Wn.none rfl) rfl rfl ?_
            refine WR.skipG (b := false) rfl rfl rfl rfl rfl ?_
            refine WR.skipG (b := false) rfl rfl rfl rfl rfl ?_
            refine WR.step (Ex.pickF rfl rfl) (Wn.none rfl) rfl rfl ?_
            refine WR.step (Ex.assign rfl) (Wn.none rfl) rfl rfl ?_
            refine WR.nil ?_
            exact WQ.meetN [(0, _)] ⟨rfl, trivial⟩ ⟨_, _, rfl, (H.pick (L' := []) (by repeat (first | exact Pick.nil | refine Pick.cons (by repeat (first | exact Rem.head | apply Rem.tail)) ?_))), e11⟩
      ·
        rw [if_neg hk14] at e11
        refine WC.region ?_
        refine WR.step (Ex.fieldAddr Tryd.underlying25 rfl Tryd.sizeOf3 (by decide) rfl) (Wn.none rfl) rfl rfl ?_
        refine WR.step (Ex.load1 H rfl (by repeat (first | exact List.Mem.head _ | apply List.Mem.tail)) Tryd.isAgg3 (by rfl)) (Wn.none rfl) rfl rfl ?_
        refine WR.stepE (v' := .bool true) (Ex.eql rfl rfl) (congrArg Value.bool (decide_eq_true hk13)) (Wn.none rfl) rfl rfl ?_
        refine WR.step (Ex.move rfl) (Wn.none rfl) rfl rfl ?_
        refine WR.step (Ex.fieldAddr Tryd.underlying25 rfl Tryd.sizeOf3 (by decide) rfl) (Wn.some rfl rfl rfl) rfl rfl ?_
        refine WR.step (Ex.load1 H rfl (by repeat (first | exact List.Mem.head _ | apply List.Mem.tail)) Tryd.isAgg3 (by rfl)) (Wn.some rfl rfl rfl) rfl rfl ?_
        refine WR.stepE (v' := .bool false) (Ex.eql rfl rfl) (congrArg Value.bool (decide_eq_false hk14)) (Wn.some rfl rfl rfl) rfl rfl ?_
        refine WR.step (Ex.pickT rfl rfl) (Wn.none rfl) rfl rfl ?_
        refine WR.step (Ex.move rfl) (Wn.none rfl) rfl rfl ?_
        refine WR.skipG (b := false) rfl rfl rfl rfl rfl ?_
        refine WR.skipG (b := false) rfl rfl rfl rfl rfl ?_
        refine WR.skipG (b := false) rfl rfl rfl rfl rfl ?_
        refine WR.step (Ex.pickF rfl rfl) (Wn.none rfl) rfl rfl ?_
        refine WR.step (Ex.move rfl) (Wn.none rfl) rfl rfl ?_
        refine WR.skipG (b := false) rfl rfl rfl rfl rfl ?_
        refine WR.skipG (b := false) rfl rfl rfl rfl rfl ?_
        refine WR.step (Ex.pickF rfl rfl) (Wn.none rfl) rfl rfl ?_
        refine WR.step (Ex.move rfl) (Wn.none rfl) rfl rfl ?_
        refine WR.skipG (b := false) rfl rfl rfl rfl rfl ?_
        refine WR.skipG (b := false) rfl rfl rfl rfl rfl ?_
        refine WR.step (Ex.pickF rfl rfl) (Wn.none rfl) rfl rfl ?_
        refine WR.step (Ex.assign rfl) (Wn.none rfl) rfl rfl ?_
        refine WR.nil ?_
        exact WQ.meetN [(0, _)] ⟨rfl, trivial⟩ ⟨_, _, rfl, (H.pick (L' := []) (by repeat (first | exact Pick.nil | refine Pick.cons (by repeat (first | exact Rem.head | apply Rem.tail)) ?_))), e11⟩
    ·
      rw [if_neg hk13] at e11
      refine WC.region ?_
      refine WR.step (Ex.fieldAddr Tryd.underlying25 rfl Tryd.sizeOf3 (by decide) rfl) (Wn.none rfl) rfl rfl ?_
      refine WR.step (Ex.load1 H rfl (by repeat (first | exact List.Mem.head _ | apply List.Mem.tail)) Tryd.isAgg3 (by rfl)) (Wn.none rfl) rfl rfl ?_
      refine WR.stepE (v' := .bool false) (Ex.eql rfl rfl) (congrArg Value.bool (decide_eq_false hk13)) (Wn.none rfl) rfl rfl ?_
      refine WR.step (Ex.move rfl) (Wn.none rfl) rfl rfl ?_
      refine WR.skipG (b := false) rfl rfl rfl rfl rfl ?_
      refine WR.skipG (b := false) rfl rfl rfl rfl rfl ?_
      refine WR.skipG (b := false) rfl rfl rfl rfl rfl ?_
      refine WR.step (Ex.pickF rfl rfl) (Wn.none rfl) rfl rfl ?_
      refine WR.step (Ex.move rfl) (Wn.none rfl) rfl rfl ?_
      refine WR.skipG (b := false) rfl rfl rfl rfl rfl ?_
      refine WR.skipG (b := false) rfl rfl rfl rfl rfl ?_
      refine WR.skipG (b := false) rfl rfl rfl rfl rfl ?_
      refine WR.step (Ex.pickF rfl rfl) (Wn.none rfl) rfl rfl ?_
      refine WR.step (Ex.move rfl) (Wn.none rfl) rfl rfl ?_
      refine WR.skipG (b := false) rfl rfl rfl rfl rfl ?_
      refine WR.skipG (b := false) rfl rfl rfl rfl rfl ?_
      refine WR.step (Ex.pickF rfl rfl) (Wn.none rfl) rfl rfl ?_
      refine WR.step (Ex.move rfl) (Wn.none rfl) rfl rfl ?_
      refine WR.skipG (b := false) rfl rfl rfl rfl rfl ?_
      refine WR.skipG (b := false) rfl rfl rfl rfl rfl ?_
      refine WR.step (Ex.pickF rfl rfl) (Wn.none rfl) rfl rfl ?_
      refine WR.step (Ex.assign rfl) (Wn.none rfl) rfl rfl ?_
      refine WR.nil ?_
      exact WQ.meetN [(0, _)] ⟨rfl, trivial⟩ ⟨_, _, rfl, (H.pick (L' := []) (by repeat (first | exact Pick.nil | refine Pick.cons (by repeat (first | exact Rem.head | apply Rem.tail)) ?_))), e11⟩
  ·
    rintro e w ⟨b12, M, rfl, H, q18⟩
    obtain rfl := Option.some.inj q18
    refine WQ.then ?_
    refine WC.ret ?_
    (repeat (first | refine WQ.thenRet ?_ | refine WQ.inBlockRet ?_ | refine WQ.cutRet ?_ | refine WQ.scRet ?_))
    obtain rfl := Option.some.inj h
    exact WQ.ret1 rfl rfl H.ext rfl
theorem R_In_ct {p0 : Int} {p1 : Int} {p2 : Int} {r : Bool} (h : R_In p0 p1 p2 = some r) : Ct Tryd.prog 22 [I p0, I p1, I p2] (fun M => True) (fun v M => v = Value.bool r) := by
  refine Ct.of Tryd.func22 (enters Tryd.func22 (by kernel_rfl) rfl) rfl rfl rfl ?_
  intro w0 M0 H hp
  unfold R_In at h
  refine WC.seq ?_
  refine WC.region ?_
  refine WR.step (Ex.assign rfl) (Wn.none rfl) rfl rfl ?_
  refine WR.nil ?_
  refine WQ.then ?_
  refine WC.seq ?_
  obtain ⟨o1, e2, h⟩ := bnd h
  refine WC.cutX (fun e w => ∃ (b3 : Bool) (M : Mem), e = [(6, Value.bool b3)] ∧ St w0 M0 M [] w ∧ some b3 = some o1) [] ?_ ?_ (trivial)
  ·
    by_cases hk4 : p1 ≤ p0
    ·
      rw [if_pos hk4] at e2
      refine WC.region ?_
      refine WR.step (Ex.move rfl) (Wn.none rfl) rfl rfl ?_
      refine WR.step (Ex.move rfl) (Wn.none rfl) rfl rfl ?_
      refine WR.stepE (v' := .bool true) (Ex.geq rfl rfl) (congrArg Value.bool (decide_eq_true hk4)) (Wn.none rfl) rfl rfl ?_
      refine WR.step (Ex.move rfl) (Wn.none rfl) rfl rfl ?_
      refine WR.step (Ex.move rfl) (Wn.some rfl rfl rfl) rfl rfl ?_
      refine WR.step (Ex.move rfl) (Wn.some rfl rfl rfl) rfl rfl ?_
      refine WR.step (Ex.leq rfl rfl) (Wn.some rfl rfl rfl) rfl rfl ?_
      refine WR.step (Ex.pickT rfl rfl) (Wn.none rfl) rfl rfl ?_
      refine WR.step (Ex.assign rfl) (Wn.none rfl) rfl rfl ?_
      refine WR.nil ?_
      exact WQ.meetN [(6, _)] ⟨rfl, trivial⟩ ⟨_, _, rfl, H, e2⟩
    ·
      rw [if_neg hk4] at e2
      refine WC.region ?_
      refine WR.step (Ex.move rfl) (Wn.none rfl) rfl rfl ?_
      refine WR.step (Ex.move rfl) (Wn.none rfl) rfl rfl ?_
      refine WR.stepE (v' := .bool false) (Ex.geq rfl rfl) (congrArg Value.bool (decide_eq_false hk4)) (Wn.none rfl) rfl rfl ?_
      refine WR.step (Ex.move rfl) (Wn.none rfl) rfl rfl ?_
      refine WR.skipG (b := false) rfl rfl rfl rfl rfl ?_
      refine WR.skipG (b := false) rfl rfl rfl rfl rfl ?_
      refine WR.skipG (b := false) rfl rfl rfl rfl rfl ?_
      refine WR.step (Ex.pickF rfl rfl) (Wn.none rfl) rfl rfl ?_
      refine WR.step (Ex.assign rfl) (Wn.none rfl) rfl rfl ?_
      refine WR.nil ?_
      exact WQ.meetN [(6, _)] ⟨rfl, trivial⟩ ⟨_, _, rfl, H, e2⟩
  ·
    rintro e w ⟨b3, M, rfl, H, q5⟩
    obtain rfl := Option.some.inj q5
    refine WQ.then ?_
    refine WC.ret ?_
    (repeat (first | refine WQ.thenRet ?_ | refine WQ.inBlockRet ?_ | refine WQ.cutRet ?_ | refine WQ.scRet ?_))
    obtain rfl := Option.some.inj h
    exact WQ.ret1 rfl rfl H.ext rfl
theorem R_FieldName_ct {p0 : List UInt8} {r : Bool} (h : R_FieldName p0 = some r) : Ct Tryd.prog 31 [S p0] (fun M => True) (fun v M => v = Value.bool r) := by
  refine Ct.of Tryd.func31 (enters Tryd.func31 (by kernel_rfl) rfl) rfl rfl rfl ?_
  intro w0 M0 H hp
  unfold R_FieldName at h
  refine WC.seq ?_
  refine WC.region ?_
  refine WR.step (Ex.assign rfl) (Wn.none rfl) rfl rfl ?_
  refine WR.nil ?_
  refine WQ.then ?_
  refine WC.seq ?_
  refine WC.seq ?_
  refine WC.region ?_
  refine WR.step (Ex.assign rfl) (Wn.none rfl) rfl rfl ?_
  refine WR.nil ?_
  refine WQ.then ?_
  obtain ⟨o1, e2, h⟩ := bnd h
  refine WC.cutX (fun e w => ∃  (M : Mem), e = [(0, S p0)] ∧ St w0 M0 M [] w ∧ some (.inl ()) = some o1) [] ?_ ?_ (trivial)
  ·
    refine WC.block ?_
    refine WC.loopP (fun m e w => ∃ (n3 : Int) (M : Mem), e = [(0, S p0), (3, I n3)] ∧ St w0 M0 M [] w ∧ R_FieldName_L1 p0 m n3 = some o1) FU [(0, _), (3, _)] ⟨rfl, rfl, trivial⟩ ⟨_, _, rfl, H, e2⟩ ?_
    rintro m4 e w ⟨n3, M, rfl, H, e2⟩
    rcases m4 with _ | m4
    · rw [R_FieldName_L1] at e2; cases e2
    rw [R_FieldName_L1] at e2
    refine WC.seq ?_
    refine WC.seq ?_
    refine WC.region ?_
    refine WR.step (Ex.move rfl) (Wn.none rfl) rfl rfl ?_
    refine WR.step (Ex.move rfl) (Wn.none rfl) rfl rfl ?_
    refine WR.step (Ex.lenStr Tryd.underlying9 rfl) (Wn.none rfl) rfl rfl ?_
    refine WR.step (Ex.lss rfl rfl) (Wn.none rfl) rfl rfl ?_
    refine WR.nil ?_
    refine WQ.then ?_
    refine WC.condB rfl (fun hk5 => ?_) (fun hk5 => ?_)
    ·
      replace hk5 : n3 < (p0.length : Int) := of_decide_eq_true hk5
      rw [if_pos hk5] at e2
      refine WC.skip ?_
      refine WQ.then ?_
      refine WC.seq ?_
      refine WC.block ?_
      refine WC.seq ?_
      obtain ⟨o6, e7, e2⟩ := bnd e2
      refine WC.cutX (fun e w => ∃ (b8 : Bool) (M : Mem), e = [(0, S p0), (3, I n3), (21, Value.bool b8)] ∧ St w0 M0 M [] w ∧ some b8 = some o6) [] ?_ ?_ (trivial)
      ·
        obtain ⟨c9, hxc9, e7⟩ := bnd e7
        obtain ⟨b10, hx11, e7⟩ := bnd e7
        rcases b10 with _ | _
        ·
          rw [if_neg Bool.false_ne_true] at e7
          refine WC.region ?_
          refine WR.step (Ex.move rfl) (Wn.none rfl) rfl rfl ?_
          refine WR.step (Ex.move rfl) (Wn.none rfl) rfl rfl ?_
          refine WR.step (Ex.idxStrC Tryd.underlying9 rfl rfl hxc9) (Wn.none rfl) rfl rfl ?_
          refine WR.step (Ex.convB Tryd.underlying5 Tryd.underlying3 rfl) (Wn.none rfl) rfl rfl ?_
          refine WR.call H (R_In_ct hx11) rfl trivial (Wn.none rfl) rfl ?_
          intro v14 M w H hle hR
          obtain rfl := hR
          refine WR.step (Ex.not rfl) (Wn.none rfl) rfl rfl ?_
          refine WR.step (Ex.move rfl) (Wn.none rfl) rfl rfl ?_
          refine WR.skipG (b := true) rfl rfl rfl rfl rfl ?_
          refine WR.skipG (b := true) rfl rfl rfl rfl rfl ?_
          refine WR.skipG (b := true) rfl rfl rfl rfl rfl ?_
          refine WR.skipG (b := true) rfl rfl rfl rfl rfl ?_
          refine WR.step (Ex.pickT rfl rfl) (Wn.none rfl) rfl rfl ?_
          refine WR.nil ?_
          exact WQ.meetN [(0, _), (3, _), (21, _)] ⟨rfl, rfl, rfl, trivial⟩ ⟨_, _, rfl, H, e7⟩
        ·
          rw [if_pos rfl] at e7
          obtain ⟨c12, hxc12, e7⟩ := bnd e7
          refine WC.region ?_
          refine WR.step (Ex.move rfl) (Wn.none rfl) rfl rfl ?_
          refine WR.step (Ex.move rfl) (Wn.none rfl) rfl rfl ?_
          refine WR.step (Ex.idxStrC Tryd.underlying9 rfl rfl hxc9) (Wn.none rfl) rfl rfl ?_
          refine WR.step (Ex.convB Tryd.underlying5 Tryd.underlying3 rfl) (Wn.none rfl) rfl rfl ?_
          refine WR.call H (R_In_ct hx11) rfl trivial (Wn.none rfl) rfl ?_
          intro v14 M w H hle hR
          obtain rfl := hR
          refine WR.step (Ex.not rfl) (Wn.none rfl) rfl rfl ?_
          refine WR.step (Ex.move rfl) (Wn.none rfl) rfl rfl ?_
          refine WR.step (Ex.move rfl) (Wn.some rfl rfl rfl) rfl rfl ?_
          refine WR.step (Ex.move rfl) (Wn.some rfl rfl rfl) rfl rfl ?_
          refine WR.step (Ex.idxStrC Tryd.underlying9 rfl rfl hxc12) (Wn.some rfl rfl rfl) rfl rfl ?_
          refine WR.step (Ex.eqlB (c := c12) (d := 58) rfl rfl) (Wn.some rfl rfl rfl) rfl rfl ?_
          refine WR.step (Ex.pickF rfl rfl) (Wn.none rfl) rfl rfl ?_
          refine WR.nil ?_
          exact WQ.meetN [(0, _), (3, _), (21, _)] ⟨rfl, rfl, rfl, trivial⟩ ⟨_, _, rfl, H, e7⟩
      ·
        rintro e w ⟨b8, M, rfl, H, q13⟩
        obtain rfl := Option.some.inj q13
        refine WQ.then ?_
        refine WC.condB rfl (fun hk14 => ?_) (fun hk14 => ?_)
        ·
          subst hk14
          rw [if_pos rfl] at e2
          refine WC.seq ?_
          refine WC.region ?_
          refine WR.step (Ex.assign rfl) (Wn.none rfl) rfl rfl ?_
          refine WR.nil ?_
          refine WQ.then ?_
          refine WC.ret ?_
          (repeat (first | refine WQ.thenRet ?_ | refine WQ.inBlockRet ?_ | refine WQ.cutRet ?_ | refine WQ.scRet ?_))
          obtain rfl := Option.some.inj e2
          try dsimp only at h
          obtain rfl := Option.some.inj h
          exact WQ.ret1 rfl rfl H.ext rfl
        ·
          subst hk14
          rw [if_neg Bool.false_ne_true] at e2
          refine WC.skip ?_
          refine WQ.inBlock ?_
          refine WQ.then ?_
          obtain ⟨n15, hxn15, e2⟩ := bnd e2
          refine WC.region ?_
          refine WR.step (Ex.move rfl) (Wn.none rfl) rfl rfl ?_
          refine WR.step (Ex.addC rfl rfl hxn15) (Wn.none rfl) rfl rfl ?_
          refine WR.step (Ex.assign rfl) (Wn.none rfl) rfl rfl ?_
          refine WR.nil ?_
          exact WQ.againP m4 [(0, _), (3, _)] ⟨rfl, rfl, trivial⟩ ⟨_, _, rfl, H, e2⟩ (Nat.lt_succ_self _)
    ·
      replace hk5 : ¬ (n3 < (p0.length : Int)) := of_decide_eq_false hk5
      rw [if_neg hk5] at e2
      refine WC.exit ?_
      refine WQ.thenExit ?_
      refine WQ.thenExit ?_
      refine WQ.exitHere ?_
      exact WQ.meetN [(0, _)] ⟨rfl, trivial⟩ ⟨_, rfl, H, e2⟩
  ·
    rintro e w ⟨M, rfl, H, q16⟩
    obtain rfl := Option.some.inj q16
    try dsimp only at h
    refine WQ.then ?_
    refine WC.seq ?_
    obtain ⟨b17, hx18, h⟩ := bnd h
    refine WC.region ?_
    refine WR.step (Ex.move rfl) (Wn.none rfl) rfl rfl ?_
    refine WR.step (Ex.lenStr Tryd.underlying9 rfl) (Wn.none rfl) rfl rfl ?_
    refine WR.call H (R_In_ct hx18) rfl trivial (Wn.none rfl) rfl ?_
    intro v24 M w H hle hR
    obtain rfl := hR
    refine WR.step (Ex.assign rfl) (Wn.none rfl) rfl rfl ?_
    refine WR.nil ?_
    refine WQ.then ?_
    refine WC.ret ?_
    (repeat (first | refine WQ.thenRet ?_ | refine WQ.inBlockRet ?_ | refine WQ.cutRet ?_ | refine WQ.scRet ?_))
    obtain rfl := Option.some.inj h
    exact WQ.ret1 rfl rfl H.ext rfl
theorem R_OneOf_ct {p0 : UInt8} {p1 : List UInt8} {r : Bool} (h : R_OneOf p0 p1 = some r) : Ct Tryd.prog 29 [encB p0, S p1] (fun M => True) (fun v M => v = Value.bool r) := by
  refine Ct.of Tryd.func29 (enters Tryd.func29 (by kernel_rfl) rfl) rfl rfl rfl ?_
  intro w0 M0 H hp
  unfold R_OneOf at h
  refine WC.seq ?_
  refine WC.region ?_
  refine WR.step (Ex.assign rfl) (Wn.none rfl) rfl rfl ?_
  refine WR.nil ?_
  refine WQ.then ?_
  refine WC.seq ?_
  refine WC.seq ?_
  refine WC.region ?_
  refine WR.step (Ex.assign rfl) (Wn.none rfl) rfl rfl ?_
  refine WR.nil ?_
  refine WQ.then ?_
  obtain ⟨o1, e2, h⟩ := bnd h
  refine WC.cutX (fun e w => ∃  (M : Mem), e = [] ∧ St w0 M0 M [] w ∧ some (.inl ()) = some o1) [] ?_ ?_ (trivial)
  ·
    refine WC.block ?_
    refine WC.loopP (fun m e w => ∃ (n3 : Int) (M : Mem), e = [(0, encB p0), (1, S p1), (5, I n3)] ∧ St w0 M0 M [] w ∧ R_OneOf_L1 p0 p1 m n3 = some o1) FU [(0, _), (1, _), (5, _)] ⟨rfl, rfl, rfl, trivial⟩ ⟨_, _, rfl, H, e2⟩ ?_
    rintro m4 e w ⟨n3, M, rfl, H, e2⟩
    rcases m4 with _ | m4
    · rw [R_OneOf_L1] at e2; cases e2
    rw [R_OneOf_L1] at e2
    refine WC.seq ?_
    refine WC.seq ?_
    refine WC.region ?_
    refine WR.step (Ex.move rfl) (Wn.none rfl) rfl rfl ?_
    refine WR.step (Ex.move rfl) (Wn.none rfl) rfl rfl ?_
    refine WR.step (Ex.lenStr Tryd.underlying9 rfl) (Wn.none rfl) rfl rfl ?_
    refine WR.step (Ex.lss rfl rfl) (Wn.none rfl) rfl rfl ?_
    refine WR.nil ?_
    refine WQ.then ?_
    refine WC.condB rfl (fun hk5 => ?_) (fun hk5 => ?_)
    ·
      replace hk5 : n3 < (p1.length : Int) := of_decide_eq_true hk5
      rw [if_pos hk5] at e2
      refine WC.skip ?_
      refine WQ.then ?_
      refine WC.seq ?_
      refine WC.block ?_
      refine WC.seq ?_
      obtain ⟨c6, hxc6, e2⟩ := bnd e2
      refine WC.region ?_
      refine WR.step (Ex.move rfl) (Wn.none rfl) rfl rfl ?_
      refine WR.step (Ex.move rfl) (Wn.none rfl) rfl rfl ?_
      refine WR.step (Ex.idxStrC Tryd.underlying9 rfl rfl hxc6) (Wn.none rfl) rfl rfl ?_
      refine WR.step (Ex.move rfl) (Wn.none rfl) rfl rfl ?_
      refine WR.step (Ex.eqlB (c := c6) (d := p0) rfl rfl) (Wn.none rfl) rfl rfl ?_
      refine WR.nil ?_
      refine WQ.then ?_
      refine WC.condB rfl (fun hk7 => ?_) (fun hk7 => ?_)
      ·
        replace hk7 : c6 = p0 := of_decide_eq_true hk7
        rw [if_pos hk7] at e2
        refine WC.seq ?_
        refine WC.region ?_
        refine WR.step (Ex.assign rfl) (Wn.none rfl) rfl rfl ?_
        refine WR.nil ?_
        refine WQ.then ?_
        refine WC.ret ?_
        (repeat (first | refine WQ.thenRet ?_ | refine WQ.inBlockRet ?_ | refine WQ.cutRet ?_ | refine WQ.scRet ?_))
        obtain rfl := Option.some.inj e2
        try dsimp only at h
        obtain rfl := Option.some.inj h
        exact WQ.ret1 rfl rfl H.ext rfl
      ·
        replace hk7 : ¬ (c6 = p0) := of_decide_eq_false hk7
        rw [if_neg hk7] at e2
        refine WC.skip ?_
        refine WQ.inBlock ?_
        refine WQ.then ?_
        obtain ⟨n8, hxn8, e2⟩ := bnd e2
        refine WC.region ?_
        refine WR.step (Ex.move rfl) (Wn.none rfl) rfl rfl ?_
        refine WR.step (Ex.addC rfl rfl hxn8) (Wn.none rfl) rfl rfl ?_
        refine WR.step (Ex.assign rfl) (Wn.none rfl) rfl rfl ?_
        refine WR.nil ?_
        exact WQ.againP m4 [(0, _), (1, _), (5, _)] ⟨rfl, rfl, rfl, trivial⟩ ⟨_, _, rfl, H, e2⟩ (Nat.lt_succ_self _)
    ·
      replace hk5 : ¬ (n3 < (p1.length : Int)) := of_decide_eq_false hk5
      rw [if_neg hk5] at e2
      refine WC.exit ?_
      refine WQ.thenExit ?_
      refine WQ.thenExit ?_
      refine WQ.exitHere ?_
      exact WQ.meetN [] trivial ⟨_, rfl, H, e2⟩
  ·
    rintro e w ⟨M, rfl, H, q9⟩
    obtain rfl := Option.some.inj q9
    try dsimp only at h
    refine WQ.then ?_
    refine WC.seq ?_
    refine WC.region ?_
    refine WR.step (Ex.assign rfl) (Wn.none rfl) rfl rfl ?_
    refine WR.nil ?_
    refine WQ.then ?_
    refine WC.ret ?_
    (repeat (first | refine WQ.thenRet ?_ | refine WQ.inBlockRet ?_ | refine WQ.cutRet ?_ | refine WQ.scRet ?_))
    obtain rfl := Option.some.inj h
    exact WQ.ret1 rfl rfl H.ext rfl
theorem R_Blank_ct {p0 : UInt8} {r : Bool} (h : R_Blank p0 = some r) : Ct Tryd.prog 21 [encB p0] (fun M => True) (fun v M => v = Value.bool r) := by
  refine Ct.of Tryd.func21 (enters Tryd.func21 (by kernel_rfl) rfl) rfl rfl rfl ?_
  intro w0 M0 H hp
  unfold R_Blank at h
  refine WC.seq ?_
  refine WC.region ?_
  refine WR.step (Ex.assign rfl) (Wn.none rfl) rfl rfl ?_
  refine WR.nil ?_
  refine WQ.then ?_
  refine WC.seq ?_
  obtain ⟨o1, e2, h⟩ := bnd h
  refine WC.cutX (fun e w => ∃ (b3 : Bool) (M : Mem), e = [(2, Value.bool b3)] ∧ St w0 M0 M [] w ∧ some b3 = some o1) [] ?_ ?_ (trivial)
  ·
    by_cases hk4 : p0 = 32
    ·
      rw [if_pos hk4] at e2
      refine WC.region ?_
      refine WR.step (Ex.move rfl) (Wn.none rfl) rfl rfl ?_
      refine WR.stepE (v' := .bool true) (Ex.eqlB (c := p0) (d := 32) rfl rfl) (congrArg Value.bool (decide_eq_true hk4)) (Wn.none rfl) rfl rfl ?_
      refine WR.step (Ex.move rfl) (Wn.none rfl) rfl rfl ?_
      refine WR.skipG (b := true) rfl rfl rfl rfl rfl ?_
      refine WR.skipG (b := true) rfl rfl rfl rfl rfl ?_
      refine WR.step (Ex.pickT rfl rfl) (Wn.none rfl) rfl rfl ?_
      refine WR.step (Ex.assign rfl) (Wn.none rfl) rfl rfl ?_
      refine WR.nil ?_
      exact WQ.meetN [(2, _)] ⟨rfl, trivial⟩ ⟨_, _, rfl, H, e2⟩
    ·
      rw [if_neg hk4] at e2
      refine WC.region ?_
      refine WR.step (Ex.move rfl) (Wn.none rfl) rfl rfl ?_
      refine WR.stepE (v' := .bool false) (Ex.eqlB (c := p0) (d := 32) rfl rfl) (congrArg Value.bool (decide_eq_false hk4)) (Wn.none rfl) rfl rfl ?_
      refine WR.step (Ex.move rfl) (Wn.none rfl) rfl rfl ?_
      refine WR.step (Ex.move rfl) (Wn.some rfl rfl rfl) rfl rfl ?_
      refine WR.step (Ex.eqlB (c := p0) (d := 9) rfl rfl) (Wn.some rfl rfl rfl) rfl rfl ?_
      refine WR.step (Ex.pickF rfl rfl) (Wn.none rfl) rfl rfl ?_
      refine WR.step (Ex.assign rfl) (Wn.none rfl) rfl rfl ?_
      refine WR.nil ?_
      exact WQ.meetN [(2, _)] ⟨rfl, trivial⟩ ⟨_, _, rfl, H, e2⟩
  ·
    rintro e w ⟨b3, M, rfl, H, q5⟩
    obtain rfl := Option.some.inj q5
    refine WQ.then ?_
    refine WC.ret ?_
    (repeat (first | refine WQ.thenRet ?_ | refine WQ.inBlockRet ?_ | refine WQ.cutRet ?_ | refine WQ.scRet ?_))
    obtain rfl := Option.some.inj h
    exact WQ.ret1 rfl rfl H.ext rfl
theorem R_Trim_ct {p0 : List UInt8} {r : List UInt8} (h : R_Trim p0 = some r) : Ct Tryd.prog 32 [S p0] (fun M => True) (fun v M => v = S r) := by
  refine Ct.of Tryd.func32 (enters Tryd.func32 (by kernel_rfl) rfl) rfl rfl rfl ?_
  intro w0 M0 H hp
  unfold R_Trim at h
  refine WC.seq ?_
  refine WC.region ?_
  refine WR.step (Ex.assign rfl) (Wn.none rfl) rfl rfl ?_
  refine WR.nil ?_
  refine WQ.then ?_
  refine WC.seq ?_
  obtain ⟨o1, e2, h⟩ := bnd h
  refine WC.cutX (fun e w => ∃ (s3 : List UInt8) (M : Mem), e = [(0, S s3)] ∧ St w0 M0 M [] w ∧ some s3 = some o1) [] ?_ ?_ (trivial)
  ·
    refine WC.block ?_
    refine WC.loopP (fun m e w => ∃ (s4 : List UInt8) (M : Mem), e = [(0, S s4)] ∧ St w0 M0 M [] w ∧ R_Trim_L1  m s4 = some o1) FU [(0, _)] ⟨rfl, trivial⟩ ⟨_, _, rfl, H, e2⟩ ?_
    rintro m5 e w ⟨s4, M, rfl, H, e2⟩
    rcases m5 with _ | m5
    · rw [R_Trim_L1] at e2; cases e2
    rw [R_Trim_L1] at e2
    refine WC.seq ?_
    refine WC.seq ?_
    obtain ⟨o6, e7, e2⟩ := bnd e2
    refine WC.cutX (fun e w => ∃ (b8 : Bool) (M : Mem), e = [(0, S s4), (10, Value.bool b8)] ∧ St w0 M0 M [] w ∧ some b8 = some o6) [] ?_ ?_ (trivial)
    ·
      by_cases hk9 : (0 : Int) < (s4.length : Int)
      ·
        rw [if_pos hk9] at e7
        obtain ⟨c10, hxc10, e7⟩ := bnd e7
        obtain ⟨b11, hx12, e7⟩ := bnd e7
        refine WC.region ?_
        refine WR.step (Ex.move rfl) (Wn.none rfl) rfl rfl ?_
        refine WR.step (Ex.lenStr Tryd.underlying9 rfl) (Wn.none rfl) rfl rfl ?_
        refine WR.stepE (v' := .bool true) (Ex.gtr rfl rfl) (congrArg Value.bool (decide_eq_true hk9)) (Wn.none rfl) rfl rfl ?_
        refine WR.step (Ex.move rfl) (Wn.none rfl) rfl rfl ?_
        refine WR.step (Ex.move rfl) (Wn.some rfl rfl rfl) rfl rfl ?_
        refine WR.step (Ex.idxStrC Tryd.underlying9 rfl rfl hxc10) (Wn.some rfl rfl rfl) rfl rfl ?_
        refine WR.call H (R_Blank_ct hx12) rfl trivial (Wn.some rfl rfl rfl) rfl ?_
        intro v9 M w H hle hR
        obtain rfl := hR
        refine WR.step (Ex.pickT rfl rfl) (Wn.none rfl) rfl rfl ?_
        refine WR.nil ?_
        exact WQ.meetN [(0, _), (10, _)] ⟨rfl, rfl, trivial⟩ ⟨_, _, rfl, H, e7⟩
      ·
        rw [if_neg hk9] at e7
        refine WC.region ?_
        refine WR.step (Ex.move rfl) (Wn.none rfl) rfl rfl ?_
        refine WR.step (Ex.lenStr Tryd.underlying9 rfl) (Wn.none rfl) rfl rfl ?_
        refine WR.stepE (v' := .bool false) (Ex.gtr rfl rfl) (congrArg Value.bool (decide_eq_false hk9)) (Wn.none rfl) rfl rfl ?_
        refine WR.step (Ex.move rfl) (Wn.none rfl) rfl rfl ?_
        refine WR.skipG (b := false) rfl rfl rfl rfl rfl ?_
        refine WR.skipG (b := false) rfl rfl rfl rfl rfl ?_
        refine WR.skipG (b := false) rfl rfl rfl rfl rfl ?_
        refine WR.step (Ex.pickF rfl rfl) (Wn.none rfl) rfl rfl ?_
        refine WR.nil ?_
        exact WQ.meetN [(0, _), (10, _)] ⟨rfl, rfl, trivial⟩ ⟨_, _, rfl, H, e7⟩
    ·
      rintro e w ⟨b8, M, rfl, H, q13⟩
      obtain rfl := Option.some.inj q13
      refine WQ.then ?_
      refine WC.condB rfl (fun hk14 => ?_) (fun hk14 => ?_)
      ·
        subst hk14
        rw [if_pos rfl] at e2
        refine WC.skip ?_
        refine WQ.then ?_
        refine WC.block ?_
        obtain ⟨s15, hxs15, e2⟩ := bnd e2
        refine WC.region ?_
        refine WR.step (Ex.move rfl) (Wn.none rfl) rfl rfl ?_
        refine WR.step (Ex.sliceL Tryd.underlying9 rfl rfl hxs15) (Wn.none rfl) rfl rfl ?_
        refine WR.step (Ex.assign rfl) (Wn.none rfl) rfl rfl ?_
        refine WR.nil ?_
        refine WQ.inBlock ?_
        exact WQ.againP m5 [(0, _)] ⟨rfl, trivial⟩ ⟨_, _, rfl, H, e2⟩ (Nat.lt_succ_self _)
      ·
        subst hk14
        rw [if_neg Bool.false_ne_true] at e2
        refine WC.exit ?_
        refine WQ.thenExit ?_
        refine WQ.thenExit ?_
        refine WQ.exitHere ?_
        exact WQ.meetN [(0, _)] ⟨rfl, trivial⟩ ⟨_, _, rfl, H, e2⟩
  ·
    rintro e w ⟨s3, M, rfl, H, q16⟩
    obtain rfl := Option.some.inj q16
    refine WQ.then ?_
    refine WC.seq ?_
    obtain ⟨o17, e18, h⟩ := bnd h
    refine WC.cutX (fun e w => ∃ (s19 : List UInt8) (M : Mem), e = [(0, S s19)] ∧ St w0 M0 M [] w ∧ some s19 = some o17) [] ?_ ?_ (trivial)
    ·
      refine WC.block ?_
      refine WC.loopP (fun m e w => ∃ (s20 : List UInt8) (M : Mem), e = [(0, S s20)] ∧ St w0 M0 M [] w ∧ R_Trim_L2  m s20 = some o17) FU [(0, _)] ⟨rfl, trivial⟩ ⟨_, _, rfl, H, e18⟩ ?_
      rintro m21 e w ⟨s20, M, rfl, H, e18⟩
      rcases m21 with _ | m21
      · rw [R_Trim_L2] at e18; cases e18
      rw [R_Trim_L2] at e18
      refine WC.seq ?_
      refine WC.seq ?_
      obtain ⟨o22, e23, e18⟩ := bnd e18
      refine WC.cutX (fun e w => ∃ (b24 : Bool) (M : Mem), e = [(0, S s20), (23, Value.bool b24)] ∧ St w0 M0 M [] w ∧ some b24 = some o22) [] ?_ ?_ (trivial)
      ·
        by_cases hk25 : (0 : Int) < (s20.length : Int)
        ·
          rw [if_pos hk25] at e23
          obtain ⟨n26, hxn26, e23⟩ := bnd e23
          obtain ⟨c27, hxc27, e23⟩ := bnd e23
          obtain ⟨b28, hx29, e23⟩ := bnd e23
          refine WC.region ?_
          refine WR.step (Ex.move rfl) (Wn.none rfl) rfl rfl ?_
          refine WR.step (Ex.lenStr Tryd.underlying9 rfl) (Wn.none rfl) rfl rfl ?_
          refine WR.stepE (v' := .bool true) (Ex.gtr rfl rfl) (congrArg Value.bool (decide_eq_true hk25)) (Wn.none rfl) rfl rfl ?_
          refine WR.step (Ex.move rfl) (Wn.none rfl) rfl rfl ?_
          refine WR.step (Ex.move rfl) (Wn.some rfl rfl rfl) rfl rfl ?_
          refine WR.step (Ex.move rfl) (Wn.some rfl rfl rfl) rfl rfl ?_
          refine WR.step (Ex.lenStr Tryd.underlying9 rfl) (Wn.some rfl rfl rfl) rfl rfl ?_
          refine WR.step (Ex.subC rfl rfl hxn26) (Wn.some rfl rfl rfl) rfl rfl ?_
          refine WR.step (Ex.idxStrC Tryd.underlying9 rfl rfl hxc27) (Wn.some rfl rfl rfl) rfl rfl ?_
          refine WR.call H (R_Blank_ct hx29) rfl trivial (Wn.some rfl rfl rfl) rfl ?_
          intro v22 M w H hle hR
          obtain rfl := hR
          refine WR.step (Ex.pickT rfl rfl) (Wn.none rfl) rfl rfl ?_
          refine WR.nil ?_
          exact WQ.meetN [(0, _), (23, _)] ⟨rfl, rfl, trivial⟩ ⟨_, _, rfl, H, e23⟩
        ·
          rw [if_neg hk25] at e23
          refine WC.region ?_
          refine WR.step (Ex.move rfl) (Wn.none rfl) rfl rfl ?_
          refine WR.step (Ex.lenStr Tryd.underlying9 rfl) (Wn.none rfl) rfl rfl ?_
          refine WR.stepE (v' := .bool false) (Ex.gtr rfl rfl) (congrArg Value.bool (decide_eq_false hk25)) (Wn.none rfl) rfl rfl ?_
          refine WR.step (Ex.move rfl) (Wn.none rfl) rfl rfl ?_
          refine WR.skipG (b := false) rfl rfl rfl rfl rfl ?_
          refine WR.skipG (b := false) rfl rfl rfl rfl rfl ?_
          refine WR.skipG (b := false) rfl rfl rfl rfl rfl ?_
          refine WR.skipG (b := false) rfl rfl rfl rfl rfl ?_
          refine WR.skipG (b := false) rfl rfl rfl rfl rfl ?_
          refine WR.skipG (b := false) rfl rfl rfl rfl rfl ?_
          refine WR.step (Ex.pickF rfl rfl) (Wn.none rfl) rfl rfl ?_
          refine WR.nil ?_
          exact WQ.meetN [(0, _), (23, _)] ⟨rfl, rfl, trivial⟩ ⟨_, _, rfl, H, e23⟩
      ·
        rintro e w ⟨b24, M, rfl, H, q30⟩
        obtain rfl := Option.some.inj q30
        refine WQ.then ?_
        refine WC.condB rfl (fun hk31 => ?_) (fun hk31 => ?_)
        ·
          subst hk31
          rw [if_pos rfl] at e18
          refine WC.skip ?_
          refine WQ.then ?_
          refine WC.block ?_
          obtain ⟨n32, hxn32, e18⟩ := bnd e18
          obtain ⟨s33, hxs33, e18⟩ := bnd e18
          refine WC.region ?_
          refine WR.step (Ex.move rfl) (Wn.none rfl) rfl rfl ?_
          refine WR.step (Ex.move rfl) (Wn.none rfl) rfl rfl ?_
          refine WR.step (Ex.lenStr Tryd.underlying9 rfl) (Wn.none rfl) rfl rfl ?_
          refine WR.step (Ex.subC rfl rfl hxn32) (Wn.none rfl) rfl rfl ?_
          refine WR.step (Ex.sliceH Tryd.underlying9 rfl rfl hxs33) (Wn.none rfl) rfl rfl ?_
          refine WR.step (Ex.assign rfl) (Wn.none rfl) rfl rfl ?_
          refine WR.nil ?_
          refine WQ.inBlock ?_
          exact WQ.againP m21 [(0, _)] ⟨rfl, trivial⟩ ⟨_, _, rfl, H, e18⟩ (Nat.lt_succ_self _)
        ·
          subst hk31
          rw [if_neg Bool.false_ne_true] at e18
          refine WC.exit ?_
          refine WQ.thenExit ?_
          refine WQ.thenExit ?_
          refine WQ.exitHere ?_
          exact WQ.meetN [(0, _)] ⟨rfl, trivial⟩ ⟨_, _, rfl, H, e18⟩
    ·
      rintro e w ⟨s19, M, rfl, H, q34⟩
      obtain rfl := Option.some.inj q34
      refine WQ.then ?_
      refine WC.seq ?_
      refine WC.region ?_
      refine WR.step (Ex.move rfl) (Wn.none rfl) rfl rfl ?_
      refine WR.step (Ex.assign rfl) (Wn.none rfl) rfl rfl ?_
      refine WR.nil ?_
      refine WQ.then ?_
      refine WC.ret ?_
      (repeat (first | refine WQ.thenRet ?_ | refine WQ.inBlockRet ?_ | refine WQ.cutRet ?_ | refine WQ.scRet ?_))
      obtain rfl := Option.some.inj h
      exact WQ.ret1 rfl rfl H.ext rfl
end Go.Proofs.YtolmifddbjdepaaDoor
