/-
  Dct1, Dct2: own texts of this repository (wip/tpl, wip/plans), merged and shaken by wip/tools/pack.py.
-/
import Derived.Test.YtkmjdamkifbddaaGreatDoorProg
import Derived.KernelRfl
import Derived.Test.YtkmjdamkifbddaaGreatDoorE3c
set_option maxRecDepth 100000
set_option linter.unusedVariables false
set_option linter.unusedSimpArgs false
section
namespace Go.Proofs.YtkmjdamkifbddaaGreatDoor
open Go Go.RowKit Go.Ph Go.Ph.Pl Go.Ph.Pf
abbrev xenc24 (x : (List UInt8 × List UInt8 × List UInt8)) : List Value := [S x.1, S x.2.1, S x.2.2]
abbrev xenc136 (x : (List UInt8 × Bool)) : List Value := [S x.1, Value.bool x.2]
theorem xty55 : ElemTy Tryz.prog 55 9 (.string ⟨#[]⟩) 1 16 := ElemTy.mk' Tryz.underlying55 (by kernel_rfl) rfl (by decide)
theorem xty88 : ElemTy Tryz.prog 88 5 (.int .u8 0) 1 1 := ElemTy.mk' Tryz.underlying88 (by kernel_rfl) rfl (by decide)
theorem xone1_5 : (Tryz.prog.info? 5).map (·.size) = some 1 := by kernel_rfl
theorem xty30 : ElemTy Tryz.prog 30 24 (.agg #[.string ⟨#[]⟩, .string ⟨#[]⟩, .string ⟨#[]⟩]) 3 48 := ElemTy.mk' Tryz.underlying30 (by kernel_rfl) rfl (by decide)
theorem xone24 : ∀ (a : (List UInt8 × List UInt8 × List UInt8)), ∀ u ∈ xenc24 a, u.oneCell' = true := by
 intro a u hu
 simp only [xenc24, List.mem_cons, List.not_mem_nil, or_false] at hu
 rcases hu with rfl | rfl | rfl <;> rfl
theorem xplaces24 : ∀ {fs : Array Field}, Tryz.prog.underlying 24 = some (.struct fs) → ∀ w, (fs.mapM fun f => do pure (f.offset, ← sizeOf f.type) : Sem (Array (Nat × Nat))).run Tryz.prog w = .ok #[(0, 1), (1, 1), (2, 1)] w := by
 intro fs h w
 rw [Tryz.underlying24] at h
 cases h
 simp
theorem xplaces34 : ∀ {fs : Array Field}, Tryz.prog.underlying 34 = some (.struct fs) → ∀ w, (fs.mapM fun f => do pure (f.offset, ← sizeOf f.type) : Sem (Array (Nat × Nat))).run Tryz.prog w = .ok #[(0, 1), (1, 1), (2, 1)] w := by
 intro fs h w
 rw [Tryz.underlying34] at h
 cases h
 simp
abbrev xenr34 (f : (List UInt8 × Bool × Hd)) : List Value := [S f.1, Value.bool f.2.1, hv f.2.2]
abbrev xrl34 : Rl (List UInt8 × Bool × Hd) (List UInt8 × Bool × List (List UInt8 × List UInt8 × List UInt8)) where
 k := 3
 enc := xenr34
 rel M f x := f.1 = x.1 ∧ f.2.1 = x.2.1 ∧ SlS M 3 xenc24 (hv f.2.2) x.2.2
 len := fun _ => rfl
 one := by
  intro f u hu
  simp only [List.mem_cons, List.not_mem_nil, or_false] at hu
  rcases hu with rfl | rfl | rfl <;> rfl
 up := by intro M M' hl f x h; exact ⟨h.1, h.2.1, h.2.2.mono hl⟩
theorem xty22 : ElemTy Tryz.prog 22 34 (.agg #[.string ⟨#[]⟩, .bool false, .slice none 0 0]) 3 48 := ElemTy.mk' Tryz.underlying22 (by kernel_rfl) rfl (by decide)
theorem xplaces27 : ∀ {fs : Array Field}, Tryz.prog.underlying 27 = some (.struct fs) → ∀ w, (fs.mapM fun f => do pure (f.offset, ← sizeOf f.type) : Sem (Array (Nat × Nat))).run Tryz.prog w = .ok #[(0, 1), (1, 1)] w := by
 intro fs h w
 rw [Tryz.underlying27] at h
 cases h
 simp
def FnT90 (M : Mem) (v : Value) (g : (UInt8 → Option Bool)) : Prop := One v ∧ ∀ (a0 : UInt8) (r : Bool), g a0 = some r → FnV Tryz.prog M v [encB a0] (fun v M => v = Value.bool r)
theorem FnT90.mono {M M' : Mem} {v : Value} {g : (UInt8 → Option Bool)} (h : FnT90 M v g) (hl : M.le M') : FnT90 M' v g := ⟨h.1, fun a0 r hr => (h.2 a0 r hr).mono hl⟩
theorem xplaces72 : ∀ {fs : Array Field}, Tryz.prog.underlying 72 = some (.struct fs) → ∀ w, (fs.mapM fun f => do pure (f.offset, ← sizeOf f.type) : Sem (Array (Nat × Nat))).run Tryz.prog w = .ok #[(0, 1), (1, 1)] w := by
 intro fs h w
 rw [Tryz.underlying72] at h
 cases h
 simp
theorem xplaces69 : ∀ {fs : Array Field}, Tryz.prog.underlying 69 = some (.struct fs) → ∀ w, (fs.mapM fun f => do pure (f.offset, ← sizeOf f.type) : Sem (Array (Nat × Nat))).run Tryz.prog w = .ok #[(0, 1)] w := by
 intro fs h w
 rw [Tryz.underlying69] at h
 cases h
 simp
theorem xplaces136 : ∀ {fs : Array Field}, Tryz.prog.underlying 136 = some (.struct fs) → ∀ w, (fs.mapM fun f => do pure (f.offset, ← sizeOf f.type) : Sem (Array (Nat × Nat))).run Tryz.prog w = .ok #[(0, 1), (1, 1)] w := by
 intro fs h w
 rw [Tryz.underlying136] at h
 cases h
 simp
theorem xty107 : ElemTy Tryz.prog 107 136 (.agg #[.string ⟨#[]⟩, .bool false]) 2 24 := ElemTy.mk' Tryz.underlying107 (by kernel_rfl) rfl (by decide)
theorem xone136 : ∀ (a : (List UInt8 × Bool)), ∀ u ∈ xenc136 a, u.oneCell' = true := by
 intro a u hu
 simp only [xenc136, List.mem_cons, List.not_mem_nil, or_false] at hu
 rcases hu with rfl | rfl <;> rfl
theorem xeq24 (a0 b0 : List UInt8) (a1 b1 : List UInt8) (a2 b2 : List UInt8) (w : World) : (Op.equalIn 10000 24 (.agg #[S a0, S a1, S a2]) (.agg #[S b0, S b1, S b2])).run Tryz.prog w = .ok (decide (a0 = b0 ∧ a1 = b1 ∧ a2 = b2)) w := by
 rw [run_equalIn_struct w 9999 24 _ _ (by rw [Program.fieldsOf, Tryz.underlying24]) (by kernel_rfl)]
 rw [Program.fieldsOf, Tryz.underlying24]
 by_cases h0 : a0 = b0
 rotate_left
 · simp [Op.eqFields, part, h0, Tryz.isAgg9, run_equalIn_string _ _ _ _ _ Tryz.underlying9]
 by_cases h1 : a1 = b1
 rotate_left
 · simp [Op.eqFields, part, h0, h1, Tryz.isAgg9, run_equalIn_string _ _ _ _ _ Tryz.underlying9]
 by_cases h2 : a2 = b2
 rotate_left
 · simp [Op.eqFields, part, h0, h1, h2, Tryz.isAgg9, run_equalIn_string _ _ _ _ _ Tryz.underlying9]
 simp [Op.eqFields, part, h0, h1, h2, Tryz.isAgg9, run_equalIn_string _ _ _ _ _ Tryz.underlying9]
theorem indexByte_ixB (l : List UInt8) (c : UInt8) : Lib.indexByte l c = ixB l c := by
 unfold ixB
 induction l with
 | nil => simp [Lib.indexByte]
 | cons b l ih =>
   simp only [Lib.indexByte, List.idxOf_cons, List.length_cons]
   by_cases h : b = c
   · subst h; simp
   · have h' : (b == c) = false := by simpa using h
     rw [h', ih]
     simp only [Bool.false_eq_true, if_false, cond_false]
     by_cases hl : l.idxOf c < l.length
     · have h1 : l.idxOf c + 1 < l.length + 1 := by omega
       have h2 : ¬ (((l.idxOf c : Int) == -1) = true) := by simp only [beq_iff_eq]; omega
       simp only [hl, h1, if_true, h2, if_false, Bool.false_eq_true]
       omega
     · have h1 : ¬ (l.idxOf c + 1 < l.length + 1) := by omega
       simp only [hl, h1, if_false]
       rfl
theorem join_jn (sep : List UInt8) : ∀ l : List (List UInt8), Lib.join l sep = jn sep l
 | [] => rfl
 | [x] => Lib.join_one x sep
 | x :: y :: r => by
   have h := join_jn sep (y :: r)
   rw [Lib.join_cons] at h ⊢
   rw [jn, ← h]
   simp [Lib.joinTail]
theorem Y3b {p0 : List UInt8} {r : Bool} (h : Y0J p0 = some r) : Ct Tryz.prog 65 [S p0] (fun M => Tabs M) (fun v M => v = Value.bool r) := by
 unfold Y0J at h
 split at h
 case isFalse => cases h
 rename_i hb
 cases h
 exact validString_spec p0 hb
theorem Y4t {p0 : List UInt8} {r : List UInt8} (h : Y34 p0 = some r) : Ct Tryz.prog 55 [S p0] (fun M => True) (fun v M => v = S r) := by
 unfold Y34 at h
 split at h
 case isFalse => cases h
 rename_i hb
 cases h
 exact lower_spec p0 hb
theorem Y4a {p0 : List UInt8} {p1 : List UInt8} {vp1 : Value} {r : (List UInt8 × (Int × Int))} (h : Y2h p0 p1 = some r) : Ct Tryz.prog 186 [S p0, vp1] (fun M => Sl M encB vp1 p1) (fun v M => v = Value.tuple #[S r.1, Value.agg #[I r.2.1, I r.2.2]]) := by
 unfold Y2h at h
 split at h
 case isFalse => cases h
 rename_i hb
 split at h
 · rename_i k hk; cases h; exact decode_spec_k p0 vp1 p1 hb.1 hb.2 k hk
 · rename_i hk; cases h; exact decode_unk p0 vp1 p1 hb.1 hb.2 hk
theorem Y4f {p0 : List UInt8} {vp0 : Value} {r : (List UInt8 × (Int × Int))} (h : Y30 p0 = some r) : Ct Tryz.prog 171 [vp0] (fun M => Sl M encB vp0 p0) (fun v M => ∃ x0, v = Value.tuple #[x0, Value.agg #[I r.2.1, I r.2.2]] ∧ Sl M encB x0 r.1) := by
 unfold Y30 at h
 split at h
 case isFalse => cases h
 rename_i hb
 cases h
 exact encode_spec vp0 p0 hb
theorem Y4b {p0 : List UInt8} {vp0 : Value} {r : (List UInt8 × (Int × Int))} (h : Y2P p0 = some r) : Ct Tryz.prog 209 [vp0] (fun M => Sl M encB vp0 p0) (fun v M => ∃ x0, v = Value.tuple #[x0, Value.agg #[I r.2.1, I r.2.2]] ∧ Sl M encB x0 r.1) := by
 unfold Y2P at h
 split at h
 case isFalse => cases h
 rename_i hb
 cases h
 exact lenient_spec vp0 p0 hb
theorem Y3e {p0 : List UInt8} {r : Int × Int} (h : Y0F p0 = some r) : Ct Tryz.prog 130 [S p0] (fun M => Tabs M) (fun v M => v = Value.tuple #[Value.int .i32 r.1, I r.2]) := by
 unfold Y0F at h
 split at h
 case isFalse => cases h
 rename_i hb
 cases h
 exact decode_spec p0 hb
theorem countByte_P (c : UInt8) : ∀ l : List UInt8, Lib.countByte l c = ((l.countP fun x => decide ([c] = [x]) : Nat) : Int) := by
 intro l
 induction l with
 | nil => rfl
 | cons a l ih =>
   rw [List.countP_cons]
   by_cases h : c = a
   · subst h; simp [Lib.countByte] at ih ⊢; omega
   · have h' : ¬ a = c := fun e => h e.symm
     simp [Lib.countByte, h, h'] at ih ⊢; omega
theorem Y4g {p0 p1 : List UInt8} {r : Int} (h : Y1k p0 p1 = some r) : Ct Tryz.prog 218 [S p0, S p1] (fun _ => True) (fun v M => v = I r) := by
 unfold Y1k at h
 split at h
 case isFalse => cases h
 rename_i hb
 cases h
 obtain ⟨c, rfl⟩ : ∃ c, p1 = [c] := List.length_eq_one_iff.1 hb.1
 refine ⟨enters Tryz.func218 (by kernel_rfl) rfl, fun w M ha hp => ?_⟩
 exact (Tryz.strings_Count_one ⟨p0.toArray⟩ c w).mono fun e w' ⟨he, hw⟩ => ⟨_, M, he, by subst hw; exact Ext.refl ha, by rw [countByte_P]⟩
theorem Y2Z {p0 : List UInt8} {p1 : UInt8} {r : Int} (h : Y0t p0 p1 = some r) : Ct Tryz.prog 114 [S p0, encB p1] (fun M => True) (fun v M => v = I r) := by
 cases h
 refine ⟨enters Tryz.func114 (by kernel_rfl) rfl, fun w M ha hp => ?_⟩
 exact (Tryz.strings_IndexByte ⟨p0.toArray⟩ (p1.toNat : Int) w).mono fun e w' ⟨he, hw⟩ => ⟨_, M, he, by subst hw; exact Ext.refl ha, by rw [← indexByte_ixB]; simp⟩
theorem Y2B {p0 : List (List UInt8)} {p1 : List UInt8} {vp0 : Value} {r : List UInt8} (h : Y0A p0 p1 = some r) : Ct Tryz.prog 41 [vp0, S p1] (fun M => Sl M encS vp0 p0) (fun v M => v = S r) := by
 unfold Y0A at h
 split at h
 case isFalse => cases h
 rename_i hb
 cases h
 refine ⟨enters Tryz.func41 (by kernel_rfl) rfl, fun w M ha hp => ?_⟩
 obtain ⟨A, cp, rfl, hc, hn⟩ := Sl.cells hp ha
 rcases Nat.eq_zero_or_pos p0.length with h0 | h0
 · obtain rfl := List.eq_nil_of_length_eq_zero h0
   exact (Tryz.strings_Join_none A cp ⟨p1.toArray⟩ w).mono fun e w' ⟨he, hw⟩ => ⟨_, M, he, by subst hw; exact Ext.refl ha, rfl⟩
 · cases A with
   | none => obtain ⟨rfl, _⟩ := hn rfl; simp at h0
   | some ad =>
     obtain ⟨A', c', he', h1, ⟨h2, h3⟩, h4⟩ := hp
     cases he'
     obtain ⟨b, o, cs, t0, fz, e1, e2, e3⟩ := h4 (fun h => by rw [h] at h0; simp at h0)
     cases e1
     have hmap : (p0.map (fun l => (⟨l.toArray⟩ : ByteArray))).map (·.data.toList) = p0 := by
      rw [List.map_map]
      conv => rhs; rw [← List.map_id p0]
      exact List.map_congr_left (fun l _ => rfl)
     have hcall := Tryz.strings_Join b o cp (p0.map (fun l => (⟨l.toArray⟩ : ByteArray))) ⟨p1.toArray⟩ w (fun j x hx => by
      rw [List.getElem?_map] at hx
      obtain ⟨y, hy, rfl⟩ := Option.map_eq_some_iff.1 hx
      have := hc ⟨b, o, none⟩ rfl j (encS y) (by rw [List.getElem?_map, hy]; rfl)
      simpa [Addr.add_lit] using this) (ha.lt e2) (by simpa using hb.1) (by simpa using h1) (by rw [hmap, join_jn]; simpa using hb.2)
     rw [hmap, join_jn] at hcall
     simp only [List.length_map] at hcall
     exact hcall.mono fun e w' ⟨he, hw⟩ => ⟨_, M, he, ⟨BelowX.of hw _, Mem.le.refl M, fun b' o' hb' => by rw [hw.block b' (ha.lt hb')]; exact ha b' o' hb', fun b' hb' => rfl⟩, by simp⟩
theorem Y4c {p0 : List UInt8} {p1 : List UInt8} {p2 : Int} {r : List (List UInt8)} (h : Y1F p0 p1 p2 = some r) : Ct Tryz.prog 184 [S p0, S p1, I p2] (fun M => GlF (fun w => ∃ m, w.cell? ⟨2, 0, none⟩ = some (.int .i64 m)) M) (fun v M => Sl M encS v r) := by
 unfold Y1F at h
 split at h
 case isFalse => cases h
 rename_i hb
 cases h
 refine ⟨enters Tryz.func184 (by kernel_rfl) rfl, fun w M ha hp => ?_⟩
 obtain ⟨m, hm⟩ := hp w ha
 obtain ⟨n, rfl⟩ := Int.eq_ofNat_of_zero_le (Int.le_trans (by decide) hb.2.2.1)
 have hs : (⟨p0.toArray⟩ : ByteArray).size = p0.length := by simp [ByteArray.size]
 have hd : (Lib.splitB ⟨p1.toArray⟩ 0 (min n ((⟨p0.toArray⟩ : ByteArray).size + 1) - 1) ⟨p0.toArray⟩).map (·.data.toList) = Lib.splitN p0 p1 ((n : Int).toNat) := by rw [Lib.splitB_data, hs]; rfl
 have hl := Lib.splitB_length_le ⟨p1.toArray⟩ 0 (min n ((⟨p0.toArray⟩ : ByteArray).size + 1) - 1) ⟨p0.toArray⟩
 have hlen := congrArg List.length hd
 rw [List.length_map] at hlen
 refine (Tryz.strings_SplitN ⟨p0.toArray⟩ ⟨p1.toArray⟩ n m w (by omega) hm (by simpa [ByteArray.size] using hb.2.1) (by omega) (by omega)).mono fun e w' ⟨he, hw⟩ => ⟨_, M.set w.heap.size _, he, by subst hw; exact Ext.ofAlloc ha _, ?_⟩
 rw [hlen]
 exact Sl.splitN (t := 9) (fz := (0, 0)) hd (by omega) (by omega) (by simp [Mem.set])
theorem Y3L {p0 : List UInt8} {p1 : List UInt8} {p2 : List UInt8} {r : List UInt8} (h : Y0S p0 p1 p2 = some r) : Ct Tryz.prog 172 [S p0, S p1, S p2] (fun M => GlF (fun w => ∃ m, w.cell? ⟨2, 0, none⟩ = some (.int .i64 m)) M) (fun v M => v = S r) := by
 unfold Y0S at h
 split at h
 case isFalse => cases h
 rename_i hb
 cases h
 refine ⟨enters Tryz.func172 (by kernel_rfl) rfl, fun w M ha hp => ?_⟩
 obtain ⟨m, hm⟩ := hp w ha
 have hs : (⟨p0.toArray⟩ : ByteArray).size = p0.length := by simp [ByteArray.size]
 have hc : Lib.countB ⟨p0.toArray⟩ ⟨p1.toArray⟩ ≤ p0.length := by simpa [ByteArray.size] using Lib.countB_le ⟨p1.toArray⟩ (by simpa [ByteArray.size] using hb.2.1) _ ⟨p0.toArray⟩ (Nat.le_refl _)
 have hc2 := Nat.mul_le_mul_right p2.length hc
 exact (Tryz.strings_ReplaceAll ⟨p0.toArray⟩ ⟨p1.toArray⟩ ⟨p2.toArray⟩ m w (by omega) hm (by simpa [ByteArray.size] using hb.2.1) (by simp only [ByteArray.size, List.size_toArray]; omega)).mono fun e w' ⟨he, hw⟩ => ⟨_, M, he, Ext.ofBelow ha hw, rfl⟩
theorem Y3Z {p0 : List UInt8} {p1 : List UInt8} {r : Bool} (h : Y1f p0 p1 = some r) : Ct Tryz.prog 137 [S p0, S p1] (fun M => GlF (fun w => ∃ m, w.cell? ⟨2, 0, none⟩ = some (.int .i64 m)) M) (fun v M => v = Value.bool r) := by
 unfold Y1f at h
 split at h
 case isFalse => cases h
 rename_i hb
 cases h
 refine ⟨enters Tryz.func137 (by kernel_rfl) rfl, fun w M ha hp => ?_⟩
 obtain ⟨m, hm⟩ := hp w ha
 exact (Tryz.strings_Contains ⟨p0.toArray⟩ ⟨p1.toArray⟩ m w (by simpa [ByteArray.size] using hb) hm).mono fun e w' ⟨he, hw⟩ => ⟨_, M, he, by subst hw; exact Ext.refl ha, rfl⟩
theorem Y4h {p0 : List UInt8} {p1 : List UInt8} {r : Int} (h : Y1y p0 p1 = some r) : Ct Tryz.prog 144 [S p0, S p1] (fun M => GlF (fun w => ∃ m, w.cell? ⟨2, 0, none⟩ = some (.int .i64 m)) M) (fun v M => v = I r) := by
 unfold Y1y at h
 split at h
 case isFalse => cases h
 rename_i hb
 cases h
 refine ⟨enters Tryz.func144 (by kernel_rfl) rfl, fun w M ha hp => ?_⟩
 obtain ⟨m, hm⟩ := hp w ha
 exact (Tryz.strings_Index ⟨p0.toArray⟩ ⟨p1.toArray⟩ m w (by simpa [ByteArray.size] using hb) hm).mono fun e w' ⟨he, hw⟩ => ⟨_, M, he, by subst hw; exact Ext.refl ha, rfl⟩
theorem copyCheck_ct {b : Nat} {p v : Value} {M0 : Mem} (hb : BPM M0 b p) : CtX Tryz.prog 106 [ptr b 0] [.blk b (.cells #[p, v] 96)] (fun _ => True) (fun r _ its => r = .tuple #[] ∧ its = [.blk b (.cells #[ptr b 0, v] 96)]) := by
 refine CtX.of Tryz.func106 (enters Tryz.func106 (by kernel_rfl) rfl) rfl rfl rfl ?_
 intro w M H _
 obtain ⟨j, hj, hjs⟩ := Option.map_eq_some_iff.1 (show (Tryz.prog.info? 96).map (·.size) = some 2 by kernel_rfl)
 have hl : liesAt Tryz.prog Tryz.prog.depth 96 (2 / Tryz.prog.cellsOf 96) 0 96 1 = true := by kernel_rfl
 have hbk := H.blk (List.Mem.head _)
 refine WC.seq (WC.region ?_)
 refine MV rfl rfl (ST (Ex.nilCheckP rfl) rfl (ST (Ex.fieldAddr Tryz.underlying96 rfl Tryz.sizeOf94 (by decide) rfl) rfl (ST (Ex.load1 H rfl (by repeat first | exact kMh | apply kMt) Tryz.isAgg94 (by rfl)) rfl ?_)))
 rcases hb with rfl | rfl
 · refine WR.step (Ex.ptrNil Tryz.underlying94 rfl) (Wn.none rfl) rfl rfl ?_
   refine WR.nil (WQ.then (WC.condT rfl (WC.region ?_)))
   refine MV rfl rfl (MV rfl rfl (ST (Ex.toUnsafe Tryz.underlying94 Tryz.underlying144 hj (by rw [hjs]; decide) (T := 96) (cells := 2) (a := ⟨b, 0, none⟩) (by simp [World.shape?, hbk]) (by show (0 : Nat) < 2; decide) rfl) rfl ?_))
   refine ST (Ex.noEscape Tryz.func133 (by kernel_rfl) (by kernel_rfl) (by kernel_rfl) (by kernel_rfl) rfl) rfl (ST (Ex.fromUnsafe Tryz.underlying144 Tryz.underlying94 hj (T := 96) (cells := 2) (a := ⟨b, 0, none⟩) (by simp [World.shape?, hbk]) hl rfl) rfl ?_)
   refine ST (Ex.nilCheckP rfl) rfl (ST (Ex.fieldAddr Tryz.underlying96 rfl Tryz.sizeOf94 (by decide) rfl) rfl (WR.putV [_, _] H rfl rfl ⟨rfl, rfl⟩ (by repeat first | exact .head | apply Upd.tail) (by rfl) Tryz.sizeOf94 (by first | decide | (simp; done) | (simp; omega)) (Wn.none rfl) ?_))
   intro w H
   refine NL ?_
   exact WQ.endX0 rfl H (by repeat first | exact kPn | refine kPc (by repeat first | exact .head | apply Rem.tail) ?_) ⟨rfl, rfl⟩
 · refine WR.step (Ex.ptrNil Tryz.underlying94 rfl) (Wn.none rfl) rfl rfl ?_
   refine WR.nil (WQ.then (WC.condF rfl (WC.seq (WC.region ?_))))
   refine MV rfl rfl (ST (Ex.nilCheckP rfl) rfl (ST (Ex.fieldAddr Tryz.underlying96 rfl Tryz.sizeOf94 (by decide) rfl) rfl (ST (Ex.load1 H rfl (by repeat first | exact kMh | apply kMt) Tryz.isAgg94 (by rfl)) rfl ?_)))
   refine MV rfl rfl (ST (Ex.ptrNeqSame Tryz.underlying94 hj rfl rfl) rfl ?_)
   refine WR.nil (WQ.then (WC.condF rfl (WC.skip ?_)))
   exact WQ.endX0 rfl H (by repeat first | exact kPn | refine kPc (by repeat first | exact .head | apply Rem.tail) ?_) ⟨rfl, rfl⟩
theorem xplacesT : ∀ {fs : Array Field}, Tryz.prog.underlying 232 = some (.struct fs) → ∀ w, (fs.mapM fun f => do pure (f.offset, ← sizeOf f.type) : Sem (Array (Nat × Nat))).run Tryz.prog w = .ok #[(0, 256), (256, 1)] w := by
 intro fs h w
 rw [Tryz.underlying232] at h
 cases h
 simp
theorem tab0 {M : Mem} : ∀ (i : Nat) (o : Option (List UInt8)), (tabk 0)[i]? = some o → ∃ v, (List.replicate 256 (Value.slice none 0 0))[i]? = some v ∧ SlO M v o := by
 intro i o h
 have h0 : tabk 0 = List.replicate 256 none := by decide +kernel
 rw [h0] at h
 have hi : i < 256 := by have := (List.getElem?_eq_some_iff.1 h).1; simpa using this
 rw [List.getElem?_replicate, if_pos hi] at h
 cases h
 exact ⟨_, by rw [List.getElem?_replicate, if_pos hi], .inl ⟨rfl, rfl⟩⟩
theorem tab_step {M : Mem} {cs : List Value} {O k : Nat} {u : Value} {nn : List UInt8} (hcl : cs.length = 256) (htb : ∀ (i : Nat) (o : Option (List UInt8)), (tabk k)[i]? = some o → ∃ v, cs[i]? = some v ∧ SlO M v o) (hO : O < 256) (ht : tabk (k + 1) = (tabk k).set O (some nn)) (hs : SlO M u (some nn)) :
 ∀ (i : Nat) (o : Option (List UInt8)), (tabk (k + 1))[i]? = some o → ∃ v, (cs.set O u)[i]? = some v ∧ SlO M v o := by
 intro i o h
 rw [ht, List.getElem?_set] at h
 split at h
 · rename_i he
   subst he
   split at h
   · cases h
     exact ⟨u, by rw [List.getElem?_set_self (by omega)], hs⟩
   · cases h
 · rename_i he
   obtain ⟨v, hv, hs'⟩ := htb i o h
   exact ⟨v, by rw [List.getElem?_set_ne he]; exact hv, hs'⟩
theorem Y3l {p0 : List (List UInt8)} {bp0 : Nat} {vp0 : Value} {r : ((List (Option (List UInt8)) × List (List UInt8)) × List (List UInt8))} (h : Y22 p0 = some r) : CtX Tryz.prog 178 [ptr bp0 0] [.blk bp0 (.cells #[Value.int .u32 0, Value.int .i32 1, Value.int .u32 0, Value.nilIface, vp0] 166)] (fun M => Sl M encS vp0 p0) (fun v M its => ∃ b0_, v = (Value.iface 233 (ptr b0_ 0)) ∧ TabO M b0_ 232 r.1.1 r.1.2 ∧ its = [.blk bp0 (.cells #[Value.int .u32 0, Value.int .i32 1, Value.int .u32 0, Value.nilIface, vp0] 166)]) := by
 refine CtX.of Tryz.func178 (enters Tryz.func178 (by kernel_rfl) rfl) rfl rfl rfl ?_
 intro w0 M0 H hp
 have hp0 := hp
 unfold Y22 at h
 refine SQ (RG (AS rfl rfl (NL (TN (SQ (RG (MV rfl rfl (ST (Ex.nilCheckP rfl) rfl (ST (Ex.fieldAddr Tryz.underlying166 rfl Tryz.sizeOf55 (by decide) rfl) rfl (ST (Ex.load1 H rfl (by repeat first | exact kMh | apply kMt) Tryz.isAgg55 (by rfl)) rfl ?_))))))))))
 refine AS rfl rfl (NL (TN (SQ (SQ ?_))))
 obtain ⟨o1, e2, h⟩ := bnd h
 refine WC.cutX (fun e w => ∃ (b3 : Bool) (M : Mem), e = [(3, vp0), (28, Value.bool b3)] ∧ StX (feet [.blk bp0 (.cells #[Value.int .u32 0, Value.int .i32 1, Value.int .u32 0, Value.nilIface, vp0] 166)]) w0 M0 M [.blk bp0 (.cells #[Value.int .u32 0, Value.int .i32 1, Value.int .u32 0, Value.nilIface, vp0] 166)] w ∧ Sl M encS vp0 p0 ∧ some b3 = some o1) [] ?_ ?_ (trivial)
 ·
  refine RG (MV rfl rfl (ST (Ex.lenSl Tryz.underlying55 hp0 rfl) rfl ?_))
  by_cases hk4 : (p0.length : Int) = (2 : Int)
  ·
   rw [if_pos hk4] at e2
   obtain ⟨a5, hxa5, e2⟩ := bnd e2
   obtain ⟨bk24, o24, ha24, hc24⟩ := hp0.atC hxa5
   refine WR.stepE (v' := .bool true) (Ex.eql rfl rfl) (congrArg Value.bool (decide_eq_true hk4)) (Wn.none rfl) rfl rfl (MV rfl rfl (SG (Ex.move rfl) rfl rfl rfl (SG (Ex.idxAt ha24 Tryz.underlying55 Tryz.sizeOf9 rfl rfl) rfl rfl rfl (SG (Ex.loadM H rfl hc24 Tryz.isAgg9) rfl rfl rfl (SG (Ex.lenStr Tryz.underlying9 rfl) rfl rfl rfl (SG (Ex.gtr rfl rfl) rfl rfl rfl (PT rfl rfl rfl (NL ?_))))))))
   exact WQ.meetN [(3, _), (28, _)] ⟨rfl, rfl, trivial⟩ ⟨_, _, rfl, H, hp0, e2⟩
  ·
   rw [if_neg hk4] at e2
   refine WR.stepE (v' := .bool false) (Ex.eql rfl rfl) (congrArg Value.bool (decide_eq_false hk4)) (Wn.none rfl) rfl rfl (MV rfl rfl (WR.skipN 5 rfl rfl (PF rfl rfl rfl (NL ?_))))
   exact WQ.meetN [(3, _), (28, _)] ⟨rfl, rfl, trivial⟩ ⟨_, _, rfl, H, hp0, e2⟩
 ·
  rintro e w ⟨b3, M, rfl, H, hp0, q6⟩
  obtain rfl := oI q6
  refine TN ?_
  refine WC.condB rfl (fun hk7 => ?_) (fun hk7 => ?_)
  ·
   subst hk7
   rw [if_pos rfl] at h
   cases h
  ·
   subst hk7
   rw [if_neg Bool.false_ne_true] at h
   refine SK (TN (SQ (RG (AS rfl rfl (NL (TN (SQ (SQ (RG (AS rfl rfl (NL (TN ?_))))))))))))
   obtain ⟨o10, e11, h⟩ := bnd h
   refine WC.cutX (fun e w => ∃ (b12 : Bool) (M : Mem), e = [(3, vp0), (4, Value.bool b12)] ∧ StX (feet [.blk bp0 (.cells #[Value.int .u32 0, Value.int .i32 1, Value.int .u32 0, Value.nilIface, vp0] 166)]) w0 M0 M [.blk bp0 (.cells #[Value.int .u32 0, Value.int .i32 1, Value.int .u32 0, Value.nilIface, vp0] 166)] w ∧ Sl M encS vp0 p0 ∧ some (.inl b12) = some o10) [] ?_ ?_ (trivial)
   ·
    refine BL (WC.loopP (fun m e w => ∃ (b13 : Bool) (n14 : Int) (M : Mem), e = [(3, vp0), (4, Value.bool b13), (5, I n14)] ∧ StX (feet [.blk bp0 (.cells #[Value.int .u32 0, Value.int .i32 1, Value.int .u32 0, Value.nilIface, vp0] 166)]) w0 M0 M [.blk bp0 (.cells #[Value.int .u32 0, Value.int .i32 1, Value.int .u32 0, Value.nilIface, vp0] 166)] w ∧ Sl M encS vp0 p0 ∧ Y0u p0 m b13 n14 = some o10) FU [(3, _), (4, _), (5, _)] ⟨rfl, rfl, rfl, trivial⟩ ⟨_, _, _, rfl, H, hp0, e11⟩ ?_)
    rintro m15 e w ⟨b13, n14, M, rfl, H, hp0, e11⟩
    rcases m15 with _ | m15
    · rw [Y0u] at e11; cases e11
    rw [Y0u] at e11
    refine SQ (SQ (RG (MV rfl rfl (MV rfl rfl (ST (Ex.lenSl Tryz.underlying55 hp0 rfl) rfl (ST (Ex.lss rfl rfl) rfl (NL (TN ?_))))))))
    refine WC.condB rfl (fun hk16 => ?_) (fun hk16 => ?_)
    ·
     replace hk16 : n14 < (p0.length : Int) := of_decide_eq_true hk16
     rw [if_pos hk16] at e11
     refine SK (TN (SQ (BL (SQ (SQ ?_)))))
     obtain ⟨a17, hxa17, e11⟩ := bnd e11
     obtain ⟨bk45, o45, ha45, hc45⟩ := hp0.atC hxa17
     refine RG (MV rfl rfl (MV rfl rfl (ST (Ex.idxAt ha45 Tryz.underlying55 Tryz.sizeOf9 rfl rfl) rfl (ST (Ex.loadM H rfl hc45 Tryz.isAgg9) rfl (ST (Ex.lenStr Tryz.underlying9 rfl) rfl (ST (Ex.neqC rfl rfl) rfl (NL (TN ?_))))))))
     refine WC.condB rfl (fun hk18 => ?_) (fun hk18 => ?_)
     ·
      replace hk18 : ¬ ((a17.length : Int) = (1 : Int)) := of_not_decide hk18
      rw [if_neg hk18] at e11
      cases e11
     ·
      replace hk18 : (a17.length : Int) = (1 : Int) := of_not_decide' hk18
      rw [if_pos hk18] at e11
      refine SK (TN (SQ ?_))
      obtain ⟨n19, hxn19, e11⟩ := bnd e11
      obtain ⟨a20, hxa20, e11⟩ := bnd e11
      obtain ⟨bk55, o55, ha55, hc55⟩ := hp0.atC hxa20
      refine RG (MV rfl rfl (MV rfl rfl (ST (Ex.addC rfl rfl hxn19) rfl (ST (Ex.idxAt ha55 Tryz.underlying55 Tryz.sizeOf9 rfl rfl) rfl (ST (Ex.loadM H rfl hc55 Tryz.isAgg9) rfl (ST (Ex.lenStr Tryz.underlying9 rfl) rfl (ST (Ex.neqC rfl rfl) rfl (NL (TN ?_)))))))))
      refine WC.condB rfl (fun hk21 => ?_) (fun hk21 => ?_)
      ·
       replace hk21 : ¬ ((a20.length : Int) = (1 : Int)) := of_not_decide hk21
       rw [if_neg hk21] at e11
       refine RG (AS rfl rfl (NL (IB (TN ?_))))
       obtain ⟨n22, hxn22, e11⟩ := bnd e11
       refine RG (MV rfl rfl (ST (Ex.addC rfl rfl hxn22) rfl (AS rfl rfl (NL ?_))))
       exact WQ.againP m15 [(3, _), (4, _), (5, _)] ⟨rfl, rfl, rfl, trivial⟩ ⟨_, _, _, rfl, H, hp0, e11⟩ (Nat.lt_succ_self _)
      ·
       replace hk21 : (a20.length : Int) = (1 : Int) := of_not_decide' hk21
       rw [if_pos hk21] at e11
       refine SK (IB (TN ?_))
       obtain ⟨n23, hxn23, e11⟩ := bnd e11
       refine RG (MV rfl rfl (ST (Ex.addC rfl rfl hxn23) rfl (AS rfl rfl (NL ?_))))
       exact WQ.againP m15 [(3, _), (4, _), (5, _)] ⟨rfl, rfl, rfl, trivial⟩ ⟨_, _, _, rfl, H, hp0, e11⟩ (Nat.lt_succ_self _)
    ·
     replace hk16 : ¬ (n14 < (p0.length : Int)) := of_decide_eq_false hk16
     rw [if_neg hk16] at e11
     refine WC.exit (WQ.thenExit (WQ.thenExit (WQ.exitHere ?_)))
     exact WQ.meetN [(3, _), (4, _)] ⟨rfl, rfl, trivial⟩ ⟨_, _, rfl, H, hp0, e11⟩
   ·
    rintro e w ⟨b12, M, rfl, H, hp0, q24⟩
    obtain rfl := oI q24
    try dsimp only at h
    refine TN (SQ (SQ (RG (MV rfl rfl (NL (TN ?_))))))
    refine WC.condB rfl (fun hk25 => ?_) (fun hk25 => ?_)
    ·
     subst hk25
     rw [if_pos rfl] at h
     cases h
    ·
     subst hk25
     rw [if_neg Bool.false_ne_true] at h
     split at h
     case isFalse => cases h
     rename_i hlit
     subst hlit
     cases h
     refine SK (TN (SQ (RG (MV rfl rfl (ST (Ex.lenSl Tryz.underlying55 hp0 rfl) rfl (ST (Ex.quoC (a := 4) (b := 2) (z := 2) rfl rfl rfl) rfl (WR.mkC (enc := encS) (z0 := ([] : List UInt8)) (a := 0) (c := 2) (l := []) xty55 rfl H rfl rfl rfl (Wn.none rfl) rfl ?_)))))))
     intro v94 w H0
     obtain ⟨A94, c94, hv94⟩ := H0.lenRow (by repeat first | exact kMh | apply kMt)
     refine ST (Ex.build (List.replicate 256 (Value.slice none 0 0) ++ [v94]) Tryz.underlying232 Tryz.zeroValue232 (xplacesT Tryz.underlying232) rfl (by subst hv94; kernel_rfl)) rfl ?_
     refine WR.alloc (List.replicate 256 (Value.slice none 0 0) ++ [Value.slice none 0 0]) H0 Tryz.zeroValue232 (by kernel_rfl) (Wn.none rfl) rfl ?_
     intro b11 w H
     refine WR.store (List.replicate 256 (Value.slice none 0 0) ++ [v94]) H rfl rfl rfl (by repeat first | exact .head | apply Upd.tail) Tryz.sizeOf232 rfl (by rfl) (by subst hv94; rfl) (Wn.none rfl) ?_
     intro w H
     refine NL (TN (SQ (SQ (RG (MV rfl rfl (ST (Ex.lenSl Tryz.underlying55 hp0 rfl) rfl (ST (Ex.subC (a := 4) (b := 2) (z := 2) rfl rfl rfl) rfl (AS rfl rfl (NL (TN ?_))))))))))
     refine WC.cutX (fun e w => ∃ (cs : List Value) (vr : Value) (M : Mem), e = [(11, ptr b11 0)] ∧ StX (feet [.blk bp0 (.cells #[Value.int .u32 0, Value.int .i32 1, Value.int .u32 0, Value.nilIface, vp0] 166)]) w0 M0 M [.blk b11 (.cells (cs ++ [vr]).toArray 232), RowI 9 encS vr (trk 2), .blk bp0 (.cells #[Value.int .u32 0, Value.int .i32 1, Value.int .u32 0, Value.nilIface, vp0] 166)] w ∧ cs.length = 256 ∧ (∀ (i : Nat) (o : Option (List UInt8)), (tabk 2)[i]? = some o → ∃ v, cs[i]? = some v ∧ SlO M v o)) [] ?_ ?_ (trivial)
     ·
      refine BL (WC.loopP (fun m e w => ∃ (k : Nat) (cs : List Value) (vr : Value) (M : Mem), e = [(3, vp0), (11, ptr b11 0), (12, I (2 - 2 * (k : Int)))] ∧ k ≤ 2 ∧ 2 - k < m ∧ StX (feet [.blk bp0 (.cells #[Value.int .u32 0, Value.int .i32 1, Value.int .u32 0, Value.nilIface, vp0] 166)]) w0 M0 M [.blk b11 (.cells (cs ++ [vr]).toArray 232), RowI 9 encS vr (trk k), .blk bp0 (.cells #[Value.int .u32 0, Value.int .i32 1, Value.int .u32 0, Value.nilIface, vp0] 166)] w ∧ Sl M encS vp0 [[92], [92, 92], [34], [92, 34]] ∧ cs.length = 256 ∧ (∀ (i : Nat) (o : Option (List UInt8)), (tabk k)[i]? = some o → ∃ v, cs[i]? = some v ∧ SlO M v o)) FU [(3, _), (11, _), (12, _)] ⟨rfl, rfl, rfl, trivial⟩ ⟨0, List.replicate 256 (Value.slice none 0 0), v94, _, rfl, by omega, by unfold FU; omega, H, hp0, by rw [List.length_replicate], tab0⟩ ?_)
      rintro m e w ⟨k, cs, vr, M, rfl, hk, hm, H, hp0, hcl, htb⟩
      obtain ⟨m, rfl⟩ : ∃ q, m = q + 1 := ⟨m - 1, by omega⟩
      obtain rfl | rfl | rfl : k = 0 ∨ k = 1 ∨ k = 2 := by omega
      · refine WC.seq ?_
        refine SQ (RG (MV rfl rfl (WR.stepT (Ex.geq rfl rfl) (by decide) (Wn.none rfl) rfl rfl (NL (TN (CT rfl (SK (TN (SQ (BL (SQ ?_)))))))))))
        obtain ⟨b105, o105, ha105, hc105⟩ := hp0.atC (i := 2) (a := [34]) rfl
        refine RG (MV rfl rfl (MV rfl rfl (ST (Ex.idxAt ha105 Tryz.underlying55 Tryz.sizeOf9 rfl rfl) rfl (ST (Ex.loadM H rfl hc105 Tryz.isAgg9) rfl (ST (Ex.idxStrC (i := 0) (c := 34) Tryz.underlying9 rfl rfl rfl) rfl (AS rfl rfl (NL (TN (SQ ?_)))))))))
        obtain ⟨b111, o111, ha111, hc111⟩ := hp0.atC (i := 3) (a := [92, 34]) rfl
        refine RG (MV rfl rfl (MV rfl rfl (ST (Ex.addC (z := 3) rfl rfl rfl) rfl (ST (Ex.idxAt ha111 Tryz.underlying55 Tryz.sizeOf9 rfl rfl) rfl (ST (Ex.loadM H rfl hc111 Tryz.isAgg9) rfl (AS rfl rfl (NL (TN (SQ (SQ ?_))))))))))
        have hnil : cs[34]? = some (Value.slice none 0 0) := by
         obtain ⟨v, hv, hs⟩ := htb 34 none (by decide +kernel)
         rcases hs with ⟨_, rfl⟩ | ⟨l, a, c, h, _⟩
         · exact hv
         · cases h
        have hcell : (cs ++ [vr])[34]? = some (Value.slice none 0 0) := by rw [List.getElem?_append_left (by omega)]; exact hnil
        refine RG (MV rfl rfl (ST (Ex.fieldAddr Tryz.underlying232 rfl Tryz.sizeOf230 (by decide) rfl) rfl (ST (Ex.idxArr (i := 34) Tryz.underlying230 Tryz.sizeOf88 rfl rfl (by decide)) rfl (ST (Ex.load1 H rfl (by repeat first | exact kMh | apply kMt) Tryz.isAgg88 hcell) rfl ?_))))
        refine ST (Ex.eqlNilS Tryz.underlying88 rfl) rfl (NL (TN (CT rfl (RG (ST (Ex.fieldAddr Tryz.underlying232 rfl Tryz.sizeOf55 (by decide) rfl) rfl ?_)))))
        have hlast : (cs ++ [vr])[256]? = some vr := by rw [List.getElem?_append_right (by omega), hcl]; rfl
        refine ST (Ex.load1 H rfl (by repeat first | exact kMh | apply kMt) Tryz.isAgg55 hlast) rfl ?_
        refine MV rfl rfl (WR.lit (enc := encB) xty88 ([34] : List UInt8) H rfl (by rfl) (fun _ => rfl) rfl rfl (Wn.none rfl) rfl ?_)
        intro v121 M w H hle hs121
        replace hp0 := hp0.mono hle
        replace htb : ∀ (i : Nat) (o : Option (List UInt8)), (tabk 0)[i]? = some o → ∃ v, cs[i]? = some v ∧ SlO M v o := fun i o ho => by obtain ⟨v, hv, hs⟩ := htb i o ho; exact ⟨v, hv, hs.mono hle⟩
        refine ST (Ex.toStr Tryz.underlying88 Tryz.underlying5 Tryz.underlying9 H hs121 rfl) rfl (WR.lit (enc := encS) xty55 ([[34]] : List (List UInt8)) H rfl (by rfl) (fun _ => rfl) rfl rfl (Wn.none rfl) rfl ?_)
        intro v123 M w H hle hs123
        replace hp0 := hp0.mono hle
        replace htb : ∀ (i : Nat) (o : Option (List UInt8)), (tabk 0)[i]? = some o → ∃ v, cs[i]? = some v ∧ SlO M v o := fun i o ho => by obtain ⟨v, hv, hs⟩ := htb i o ho; exact ⟨v, hv, hs.mono hle⟩
        refine WR.appC (l := trk 0) (l3 := trk (0 + 1)) xty55 rfl (fun _ => rfl) H rfl (fun _ => by repeat first | exact .head | apply Upd.tail) rfl hs123 (by decide +kernel) (Wn.none rfl) rfl ?_
        intro v124 w H
        have ho124 : One v124 := H.rowOne (by repeat first | exact kMh | apply kMt)
        refine ST (Ex.fieldAddr Tryz.underlying232 rfl Tryz.sizeOf55 (by decide) rfl) rfl ?_
        have hset1 : (cs ++ [vr]).set 256 v124 = cs ++ [v124] := by rw [List.set_append_right _ _ (by omega), hcl]; rfl
        refine WR.putV (cs ++ [v124]) H rfl rfl ho124 (by repeat first | exact .head | apply Upd.tail) hset1 Tryz.sizeOf55 (by rw [List.length_append, hcl]; exact (by decide : (256 : Nat) < 256 + 1)) (Wn.none rfl) ?_
        intro w H
        refine NL (TN (RG (MV rfl rfl (MV rfl rfl (WR.toBytesC H Tryz.underlying9 Tryz.underlying88 Tryz.underlying5 rfl (toB_ok (l := [92, 34]) (by decide)) (Wn.none rfl) rfl ?_)))))
        intro gb cap w hok H
        refine ST (Ex.fieldAddr Tryz.underlying232 rfl Tryz.sizeOf230 (by decide) rfl) rfl (ST (Ex.idxArr (i := 34) Tryz.underlying230 Tryz.sizeOf88 rfl rfl (by decide)) rfl ?_)
        have hset2 : (cs ++ [v124]).set 34 (.slice (some ⟨gb, 0, none⟩) 2 cap) = cs.set 34 (.slice (some ⟨gb, 0, none⟩) 2 cap) ++ [v124] := List.set_append_left _ _ (by omega)
        refine WR.putV (cs.set 34 (.slice (some ⟨gb, 0, none⟩) 2 cap) ++ [v124]) H rfl rfl (One.slice _ _ _) (by repeat first | exact .head | apply Upd.tail) hset2 Tryz.sizeOf88 (by rw [List.length_append, hcl]; exact (by decide : (34 : Nat) < 256 + 1)) (Wn.none rfl) ?_
        intro w H
        refine NL (IB (TN (RG (MV rfl rfl (ST (Ex.subC (z := 2 - 2 * ((0 + 1 : Nat) : Int)) rfl rfl rfl) rfl (AS rfl rfl (NL ?_)))))))
        obtain ⟨M, hle, hs, H⟩ := H.freezeSCN (gb := gb) (cap := cap) (t := 5) (by repeat first | exact .head | apply Rem.tail) hok ⟨⟨_, (by repeat first | exact kMh | apply kMt)⟩, trivial⟩
        exact WQ.againP m [(3, _), (11, _), (12, _)] ⟨rfl, rfl, rfl, trivial⟩ ⟨0 + 1, cs.set 34 (.slice (some ⟨gb, 0, none⟩) 2 cap), v124, _, rfl, by omega, by omega, H.pick (L' := [.blk b11 (.cells (cs.set 34 (.slice (some ⟨gb, 0, none⟩) 2 cap) ++ [v124]).toArray 232), RowI 9 encS v124 (trk (0 + 1)), .blk bp0 (.cells #[Value.int .u32 0, Value.int .i32 1, Value.int .u32 0, Value.nilIface, vp0] 166)]) (by repeat first | exact kPn | refine kPc (by repeat first | exact .head | apply Rem.tail) ?_), hp0.mono hle, by rw [List.length_set]; exact hcl, tab_step hcl (fun i o ho => by obtain ⟨v, hv, hs⟩ := htb i o ho; exact ⟨v, hv, hs.mono hle⟩) (by decide) (by decide +kernel) (.inr ⟨_, _, _, rfl, rfl, hs⟩)⟩ (Nat.lt_succ_self _)
      · refine WC.seq ?_
        refine SQ (RG (MV rfl rfl (WR.stepT (Ex.geq rfl rfl) (by decide) (Wn.none rfl) rfl rfl (NL (TN (CT rfl (SK (TN (SQ (BL (SQ ?_)))))))))))
        obtain ⟨b105, o105, ha105, hc105⟩ := hp0.atC (i := 0) (a := [92]) rfl
        refine RG (MV rfl rfl (MV rfl rfl (ST (Ex.idxAt ha105 Tryz.underlying55 Tryz.sizeOf9 rfl rfl) rfl (ST (Ex.loadM H rfl hc105 Tryz.isAgg9) rfl (ST (Ex.idxStrC (i := 0) (c := 92) Tryz.underlying9 rfl rfl rfl) rfl (AS rfl rfl (NL (TN (SQ ?_)))))))))
        obtain ⟨b111, o111, ha111, hc111⟩ := hp0.atC (i := 1) (a := [92, 92]) rfl
        refine RG (MV rfl rfl (MV rfl rfl (ST (Ex.addC (z := 1) rfl rfl rfl) rfl (ST (Ex.idxAt ha111 Tryz.underlying55 Tryz.sizeOf9 rfl rfl) rfl (ST (Ex.loadM H rfl hc111 Tryz.isAgg9) rfl (AS rfl rfl (NL (TN (SQ (SQ ?_))))))))))
        have hnil : cs[92]? = some (Value.slice none 0 0) := by
         obtain ⟨v, hv, hs⟩ := htb 92 none (by decide +kernel)
         rcases hs with ⟨_, rfl⟩ | ⟨l, a, c, h, _⟩
         · exact hv
         · cases h
        have hcell : (cs ++ [vr])[92]? = some (Value.slice none 0 0) := by rw [List.getElem?_append_left (by omega)]; exact hnil
        refine RG (MV rfl rfl (ST (Ex.fieldAddr Tryz.underlying232 rfl Tryz.sizeOf230 (by decide) rfl) rfl (ST (Ex.idxArr (i := 92) Tryz.underlying230 Tryz.sizeOf88 rfl rfl (by decide)) rfl (ST (Ex.load1 H rfl (by repeat first | exact kMh | apply kMt) Tryz.isAgg88 hcell) rfl ?_))))
        refine ST (Ex.eqlNilS Tryz.underlying88 rfl) rfl (NL (TN (CT rfl (RG (ST (Ex.fieldAddr Tryz.underlying232 rfl Tryz.sizeOf55 (by decide) rfl) rfl ?_)))))
        have hlast : (cs ++ [vr])[256]? = some vr := by rw [List.getElem?_append_right (by omega), hcl]; rfl
        refine ST (Ex.load1 H rfl (by repeat first | exact kMh | apply kMt) Tryz.isAgg55 hlast) rfl ?_
        refine MV rfl rfl (WR.lit (enc := encB) xty88 ([92] : List UInt8) H rfl (by rfl) (fun _ => rfl) rfl rfl (Wn.none rfl) rfl ?_)
        intro v121 M w H hle hs121
        replace hp0 := hp0.mono hle
        replace htb : ∀ (i : Nat) (o : Option (List UInt8)), (tabk 1)[i]? = some o → ∃ v, cs[i]? = some v ∧ SlO M v o := fun i o ho => by obtain ⟨v, hv, hs⟩ := htb i o ho; exact ⟨v, hv, hs.mono hle⟩
        refine ST (Ex.toStr Tryz.underlying88 Tryz.underlying5 Tryz.underlying9 H hs121 rfl) rfl (WR.lit (enc := encS) xty55 ([[92]] : List (List UInt8)) H rfl (by rfl) (fun _ => rfl) rfl rfl (Wn.none rfl) rfl ?_)
        intro v123 M w H hle hs123
        replace hp0 := hp0.mono hle
        replace htb : ∀ (i : Nat) (o : Option (List UInt8)), (tabk 1)[i]? = some o → ∃ v, cs[i]? = some v ∧ SlO M v o := fun i o ho => by obtain ⟨v, hv, hs⟩ := htb i o ho; exact ⟨v, hv, hs.mono hle⟩
        refine WR.appC (l := trk 1) (l3 := trk (1 + 1)) xty55 rfl (fun _ => rfl) H rfl (fun _ => by repeat first | exact .head | apply Upd.tail) rfl hs123 (by decide +kernel) (Wn.none rfl) rfl ?_
        intro v124 w H
        have ho124 : One v124 := H.rowOne (by repeat first | exact kMh | apply kMt)
        refine ST (Ex.fieldAddr Tryz.underlying232 rfl Tryz.sizeOf55 (by decide) rfl) rfl ?_
        have hset1 : (cs ++ [vr]).set 256 v124 = cs ++ [v124] := by rw [List.set_append_right _ _ (by omega), hcl]; rfl
        refine WR.putV (cs ++ [v124]) H rfl rfl ho124 (by repeat first | exact .head | apply Upd.tail) hset1 Tryz.sizeOf55 (by rw [List.length_append, hcl]; exact (by decide : (256 : Nat) < 256 + 1)) (Wn.none rfl) ?_
        intro w H
        refine NL (TN (RG (MV rfl rfl (MV rfl rfl (WR.toBytesC H Tryz.underlying9 Tryz.underlying88 Tryz.underlying5 rfl (toB_ok (l := [92, 92]) (by decide)) (Wn.none rfl) rfl ?_)))))
        intro gb cap w hok H
        refine ST (Ex.fieldAddr Tryz.underlying232 rfl Tryz.sizeOf230 (by decide) rfl) rfl (ST (Ex.idxArr (i := 92) Tryz.underlying230 Tryz.sizeOf88 rfl rfl (by decide)) rfl ?_)
        have hset2 : (cs ++ [v124]).set 92 (.slice (some ⟨gb, 0, none⟩) 2 cap) = cs.set 92 (.slice (some ⟨gb, 0, none⟩) 2 cap) ++ [v124] := List.set_append_left _ _ (by omega)
        refine WR.putV (cs.set 92 (.slice (some ⟨gb, 0, none⟩) 2 cap) ++ [v124]) H rfl rfl (One.slice _ _ _) (by repeat first | exact .head | apply Upd.tail) hset2 Tryz.sizeOf88 (by rw [List.length_append, hcl]; exact (by decide : (92 : Nat) < 256 + 1)) (Wn.none rfl) ?_
        intro w H
        refine NL (IB (TN (RG (MV rfl rfl (ST (Ex.subC (z := 2 - 2 * ((1 + 1 : Nat) : Int)) rfl rfl rfl) rfl (AS rfl rfl (NL ?_)))))))
        obtain ⟨M, hle, hs, H⟩ := H.freezeSCN (gb := gb) (cap := cap) (t := 5) (by repeat first | exact .head | apply Rem.tail) hok ⟨⟨_, (by repeat first | exact kMh | apply kMt)⟩, trivial⟩
        exact WQ.againP m [(3, _), (11, _), (12, _)] ⟨rfl, rfl, rfl, trivial⟩ ⟨1 + 1, cs.set 92 (.slice (some ⟨gb, 0, none⟩) 2 cap), v124, _, rfl, by omega, by omega, H.pick (L' := [.blk b11 (.cells (cs.set 92 (.slice (some ⟨gb, 0, none⟩) 2 cap) ++ [v124]).toArray 232), RowI 9 encS v124 (trk (1 + 1)), .blk bp0 (.cells #[Value.int .u32 0, Value.int .i32 1, Value.int .u32 0, Value.nilIface, vp0] 166)]) (by repeat first | exact kPn | refine kPc (by repeat first | exact .head | apply Rem.tail) ?_), hp0.mono hle, by rw [List.length_set]; exact hcl, tab_step hcl (fun i o ho => by obtain ⟨v, hv, hs⟩ := htb i o ho; exact ⟨v, hv, hs.mono hle⟩) (by decide) (by decide +kernel) (.inr ⟨_, _, _, rfl, rfl, hs⟩)⟩ (Nat.lt_succ_self _)
      · refine WC.seq ?_
        refine SQ (RG (MV rfl rfl (WR.stepF (Ex.geq rfl rfl) (by decide) (Wn.none rfl) rfl rfl (NL (TN (CF rfl (WC.exit (WQ.thenExit (WQ.thenExit (WQ.exitHere ?_))))))))))
        exact WQ.meetN [(11, _)] ⟨rfl, trivial⟩ ⟨cs, vr, _, rfl, H, hcl, htb⟩
     ·
      rintro e w ⟨cs, vr, M, rfl, H, hcl, htb⟩
      refine TN (SQ (RG (ST (Ex.makeIface Tryz.underlying233 rfl) rfl (AS rfl rfl (NL (TN (RT ?_)))))))
      obtain ⟨M, hle, hb, H⟩ := H.freezeVarN (b := b11) (by repeat first | exact .head | apply Rem.tail) ⟨⟨_, (by repeat first | exact kMh | apply kMt)⟩, trivial⟩
      obtain ⟨M, hle2, hs, H⟩ := H.freezeRowN (v := vr) (enc := encS) (t := 9) (by repeat first | exact .head | apply Rem.tail) ⟨⟨_, (by repeat first | exact kMh | apply kMt)⟩, trivial⟩
      exact WQ.retX1 (its := [.blk bp0 (.cells #[Value.int .u32 0, Value.int .i32 1, Value.int .u32 0, Value.nilIface, vp0] 166)]) rfl rfl H (by repeat first | exact kPn | refine kPc (by repeat first | exact .head | apply Rem.tail) ?_) ⟨_, rfl, ⟨cs, vr, hb.mono hle2, hcl, fun i o ho => by obtain ⟨v, hv, hs⟩ := htb i o ho; exact ⟨v, hv, (hs.mono hle).mono hle2⟩, hs⟩, rfl⟩
theorem Y2f {p0 : (List (Option (List UInt8)) × List (List UInt8))} {p1 : List UInt8} {bp0 : Nat} {r : List UInt8} (h : Y0s p0 p1 = some r) : Ct Tryz.prog 273 [ptr bp0 0, S p1] (fun M => TabO M bp0 232 p0.1 p0.2) (fun v M => v = S r) := by
 refine Ct.of Tryz.func273 (enters Tryz.func273 (by kernel_rfl) rfl) rfl rfl rfl ?_
 intro w0 M0 H hp
 have hp0 := hp
 unfold Y0s at h
 refine SQ (RG (AS rfl rfl (NL (TN (SQ (RG (MV rfl rfl (ST (Ex.lenStr Tryz.underlying9 rfl) rfl (AS rfl rfl (NL (TN (SQ (RG (AS rfl rfl (NL (TN (SQ (SQ ?_))))))))))))))))))
 obtain ⟨v21, hc21, hs21⟩ := hp0.tl
 obtain ⟨n1, hxn1, h⟩ := bnd h
 refine RG (MV rfl rfl (ST (Ex.nilCheckP rfl) rfl (ST (Ex.fieldAddr Tryz.underlying232 rfl Tryz.sizeOf55 (by decide) rfl) rfl (ST (Ex.loadM H rfl hc21 Tryz.isAgg55) rfl (ST (Ex.lenSl Tryz.underlying55 hs21 rfl) rfl (ST (Ex.mulC rfl rfl hxn1) rfl (MV rfl rfl (ST (Ex.lenStr Tryz.underlying9 rfl) rfl (ST (Ex.leq rfl rfl) rfl (NL (TN ?_)))))))))))
 obtain ⟨o2, e3, h⟩ := bnd h
 refine WC.cutX (fun e w => ∃ (n4 : Int) (b5 : Bool) (M : Mem), e = [(0, ptr bp0 0), (1, S p1), (5, I n4), (6, Value.bool b5)] ∧ St w0 M0 M [] w ∧ TabO M bp0 232 p0.1 p0.2 ∧ some (n4, b5) = some o2) [] ?_ ?_ (trivial)
 ·
  refine WC.condB rfl (fun hk6 => ?_) (fun hk6 => ?_)
  ·
   replace hk6 : n1 ≤ (p1.length : Int) := of_decide_eq_true hk6
   rw [if_pos hk6] at e3
   refine SQ ?_
   obtain ⟨v30, hc30, hs30⟩ := hp0.tl
   refine RG (MV rfl rfl (ST (Ex.nilCheckP rfl) rfl (ST (Ex.fieldAddr Tryz.underlying232 rfl Tryz.sizeOf55 (by decide) rfl) rfl (ST (Ex.loadM H rfl hc30 Tryz.isAgg55) rfl (ST (Ex.lenSl Tryz.underlying55 hs30 rfl) rfl (MV rfl rfl (NL (TN ?_))))))))
   obtain ⟨o7, e8, e3⟩ := bnd e3
   refine WC.cutX (fun e w => ∃ (n9 : Int) (b10 : Bool) (M : Mem), e = [(0, ptr bp0 0), (1, S p1), (5, I n9), (6, Value.bool b10)] ∧ St w0 M0 M [] w ∧ TabO M bp0 232 p0.1 p0.2 ∧ some (n9, b10) = some o7) [] ?_ ?_ (trivial)
   ·
    refine BL (WC.loopP (fun m e w => ∃ (n11 : Int) (b12 : Bool) (n13 : Int) (M : Mem), e = [(0, ptr bp0 0), (1, S p1), (5, I n11), (6, Value.bool b12), (30, v30), (31, I (p0.2.length : Int)), (32, I n13)] ∧ St w0 M0 M [] w ∧ TabO M bp0 232 p0.1 p0.2 ∧ Sl M encS v30 p0.2 ∧ Y00 p0 p1 m n11 b12 n13 = some o7) FU [(0, _), (1, _), (5, _), (6, _), (30, _), (31, _), (32, _)] ⟨rfl, rfl, rfl, rfl, rfl, rfl, rfl, trivial⟩ ⟨_, _, _, _, rfl, H, hp0, hs30, e8⟩ ?_)
    rintro m14 e w ⟨n11, b12, n13, M, rfl, H, hp0, hs30, e8⟩
    rcases m14 with _ | m14
    · rw [Y00] at e8; cases e8
    rw [Y00] at e8
    refine SQ (RG (ST (Ex.lss rfl rfl) rfl (NL (TN (SQ ?_)))))
    refine WC.condB rfl (fun hk15 => ?_) (fun hk15 => ?_)
    ·
     replace hk15 : n13 < (p0.2.length : Int) := of_decide_eq_true hk15
     rw [if_pos hk15] at e8
     refine SK (TN (SQ (BL (SQ ?_))))
     obtain ⟨a16, hxa16, e8⟩ := bnd e8
     obtain ⟨bk34, o34, ha34, hc34⟩ := hs30.atC hxa16
     refine RG (ST (Ex.idxAt ha34 Tryz.underlying55 Tryz.sizeOf9 rfl rfl) rfl (ST (Ex.loadM H rfl hc34 Tryz.isAgg9) rfl (AS rfl rfl (NL (TN (SQ ?_))))))
     obtain ⟨n17, hx18, e8⟩ := bnd e8
     refine RG (MV rfl rfl (MV rfl rfl (WR.call H (Y4g hx18) rfl trivial (Wn.none rfl) rfl ?_)))
     intro v38 M w H hle hR
     replace hs30 := hs30.mono hle
     replace hc34 := hc34.mono hle
     replace hp0 := hp0.mono hle
     obtain rfl := hR
     refine AS rfl rfl (NL (TN (SQ (RG (MV rfl rfl (ST (Ex.neqC rfl rfl) rfl (NL (TN ?_))))))))
     refine WC.condB rfl (fun hk19 => ?_) (fun hk19 => ?_)
     ·
      replace hk19 : ¬ (n17 = (0 : Int)) := of_not_decide hk19
      rw [if_neg hk19] at e8
      refine SQ ?_
      obtain ⟨c20, hxc20, e8⟩ := bnd e8
      obtain ⟨q21, hxq21, e8⟩ := bnd e8
      obtain ⟨v48, hc48, ho48⟩ := hp0.at hxq21
      obtain ⟨n22, hxn22, e8⟩ := bnd e8
      obtain ⟨n23, hxn23, e8⟩ := bnd e8
      obtain ⟨n24, hxn24, e8⟩ := bnd e8
      refine WC.draw (m := 14) rfl rfl H ?_
      intro w H
      refine WA.take (i := 0) rfl (by kernel_rfl) (by kernel_rfl) (by kernel_rfl) (fun _ => Ex.move rfl) (Wn.none rfl) rfl rfl (fun _ _ => rfl) (WA.take (i := 1) rfl (by kernel_rfl) (by kernel_rfl) (by kernel_rfl) (fun _ => Ex.move rfl) (Wn.none rfl) rfl rfl (fun _ _ => rfl) (WA.take (i := 2) rfl (by kernel_rfl) (by kernel_rfl) (by kernel_rfl) (fun _ => Ex.move rfl) (Wn.none rfl) rfl rfl (fun _ _ => rfl) (WA.take (i := 3) rfl (by kernel_rfl) (by kernel_rfl) (by kernel_rfl) (fun _ => Ex.move rfl) (Wn.none rfl) rfl rfl (fun _ _ => rfl) (WA.take (i := 4) rfl (by kernel_rfl) (by kernel_rfl) (by kernel_rfl) (fun _ => Ex.idxStrC Tryz.underlying9 rfl rfl hxc20) (Wn.none rfl) rfl rfl (fun _ _ => rfl) (WA.seq (fuel := 0) [5, 6, 7, 8, 9, 10, 11, 12, 13] rfl (by kernel_rfl) (ST (Ex.nilCheckP rfl) rfl (ST (Ex.fieldAddr Tryz.underlying232 rfl Tryz.sizeOf230 (by decide) rfl) rfl (ST (Ex.idxArrO Tryz.underlying230 Tryz.sizeOf88 rfl rfl hxq21) rfl ?_))))))))
      refine ST (Ex.loadM H rfl hc48 Tryz.isAgg88) rfl (ST (Ex.lenSl Tryz.underlying88 ho48.sl rfl) rfl (ST (Ex.subC rfl rfl hxn22) rfl (ST (Ex.mulC rfl rfl hxn23) rfl (ST (Ex.addC rfl rfl hxn24) rfl (AS rfl rfl (NA (WA.done (by kernel_rfl) (TN (RG (AS rfl rfl (NL (IB (TN ?_)))))))))))))
      obtain ⟨n25, hxn25, e8⟩ := bnd e8
      refine RG (ST (Ex.addC rfl rfl hxn25) rfl (MV rfl rfl (NL ?_)))
      exact WQ.againP m14 [(0, _), (1, _), (5, _), (6, _), (30, _), (31, _), (32, _)] ⟨rfl, rfl, rfl, rfl, rfl, rfl, rfl, trivial⟩ ⟨_, _, _, _, rfl, H, hp0, hs30, e8⟩ (Nat.lt_succ_self _)
     ·
      replace hk19 : n17 = (0 : Int) := of_not_decide' hk19
      rw [if_pos hk19] at e8
      refine SK (IB (TN ?_))
      obtain ⟨n26, hxn26, e8⟩ := bnd e8
      refine RG (ST (Ex.addC rfl rfl hxn26) rfl (MV rfl rfl (NL ?_)))
      exact WQ.againP m14 [(0, _), (1, _), (5, _), (6, _), (30, _), (31, _), (32, _)] ⟨rfl, rfl, rfl, rfl, rfl, rfl, rfl, trivial⟩ ⟨_, _, _, _, rfl, H, hp0, hs30, e8⟩ (Nat.lt_succ_self _)
    ·
     replace hk15 : ¬ (n13 < (p0.2.length : Int)) := of_decide_eq_false hk15
     rw [if_neg hk15] at e8
     refine WC.exit (WQ.thenExit (WQ.thenExit (WQ.exitHere ?_)))
     exact WQ.meetN [(0, _), (1, _), (5, _), (6, _)] ⟨rfl, rfl, rfl, rfl, trivial⟩ ⟨_, _, _, rfl, H, hp0, e8⟩
   ·
    rintro e w ⟨n9, b10, M, rfl, H, hp0, q27⟩
    obtain rfl := oI q27
    try dsimp only at e3
    exact WQ.meetN [(0, _), (1, _), (5, _), (6, _)] ⟨rfl, rfl, rfl, rfl, trivial⟩ ⟨_, _, _, rfl, H, hp0, e3⟩
  ·
   replace hk6 : ¬ (n1 ≤ (p1.length : Int)) := of_decide_eq_false hk6
   rw [if_neg hk6] at e3
   refine SQ (RG (AS rfl rfl (NL (TN ?_))))
   obtain ⟨o28, e29, e3⟩ := bnd e3
   refine WC.cutX (fun e w => ∃ (n30 : Int) (b31 : Bool) (M : Mem), e = [(0, ptr bp0 0), (1, S p1), (5, I n30), (6, Value.bool b31)] ∧ St w0 M0 M [] w ∧ TabO M bp0 232 p0.1 p0.2 ∧ some (n30, b31) = some o28) [] ?_ ?_ (trivial)
   ·
    refine BL (WC.loopP (fun m e w => ∃ (n32 : Int) (b33 : Bool) (n34 : Int) (M : Mem), e = [(0, ptr bp0 0), (1, S p1), (5, I n32), (6, Value.bool b33), (10, I n34)] ∧ St w0 M0 M [] w ∧ TabO M bp0 232 p0.1 p0.2 ∧ Y01 p0 p1 m n32 b33 n34 = some o28) FU [(0, _), (1, _), (5, _), (6, _), (10, _)] ⟨rfl, rfl, rfl, rfl, rfl, trivial⟩ ⟨_, _, _, _, rfl, H, hp0, e29⟩ ?_)
    rintro m35 e w ⟨n32, b33, n34, M, rfl, H, hp0, e29⟩
    rcases m35 with _ | m35
    · rw [Y01] at e29; cases e29
    rw [Y01] at e29
    refine SQ (SQ (RG (MV rfl rfl (MV rfl rfl (ST (Ex.lenStr Tryz.underlying9 rfl) rfl (ST (Ex.lss rfl rfl) rfl (NL (TN ?_))))))))
    refine WC.condB rfl (fun hk36 => ?_) (fun hk36 => ?_)
    ·
     replace hk36 : n34 < (p1.length : Int) := of_decide_eq_true hk36
     rw [if_pos hk36] at e29
     refine SK (TN (SQ (BL (SQ ?_))))
     obtain ⟨c37, hxc37, e29⟩ := bnd e29
     refine RG (MV rfl rfl (MV rfl rfl (ST (Ex.idxStrC Tryz.underlying9 rfl rfl hxc37) rfl (AS rfl rfl (NL (TN (SQ ?_)))))))
     obtain ⟨q38, hxq38, e29⟩ := bnd e29
     obtain ⟨v68, hc68, ho68⟩ := hp0.at hxq38
     refine RG (MV rfl rfl (MV rfl rfl (ST (Ex.nilCheckP rfl) rfl (ST (Ex.fieldAddr Tryz.underlying232 rfl Tryz.sizeOf230 (by decide) rfl) rfl (ST (Ex.idxArrO Tryz.underlying230 Tryz.sizeOf88 rfl rfl hxq38) rfl (ST (Ex.loadM H rfl hc68 Tryz.isAgg88) rfl (ST (Ex.neqNilO Tryz.underlying88 ho68 rfl) rfl (NL (TN ?_)))))))))
     refine WC.condB rfl (fun hk39 => ?_) (fun hk39 => ?_)
     ·
      rw [if_pos hk39] at e29
      refine SQ ?_
      obtain ⟨q40, hxq40, e29⟩ := bnd e29
      obtain ⟨v76, hc76, ho76⟩ := hp0.at hxq40
      obtain ⟨n41, hxn41, e29⟩ := bnd e29
      obtain ⟨n42, hxn42, e29⟩ := bnd e29
      refine RG (MV rfl rfl (MV rfl rfl (MV rfl rfl (ST (Ex.nilCheckP rfl) rfl (ST (Ex.fieldAddr Tryz.underlying232 rfl Tryz.sizeOf230 (by decide) rfl) rfl (ST (Ex.idxArrO Tryz.underlying230 Tryz.sizeOf88 rfl rfl hxq40) rfl (ST (Ex.loadM H rfl hc76 Tryz.isAgg88) rfl (ST (Ex.lenSl Tryz.underlying88 ho76.sl rfl) rfl (ST (Ex.subC rfl rfl hxn41) rfl (ST (Ex.addC rfl rfl hxn42) rfl (AS rfl rfl (NL (TN (RG (AS rfl rfl (NL (IB (TN ?_))))))))))))))))))
      obtain ⟨n43, hxn43, e29⟩ := bnd e29
      refine RG (MV rfl rfl (ST (Ex.addC rfl rfl hxn43) rfl (AS rfl rfl (NL ?_))))
      exact WQ.againP m35 [(0, _), (1, _), (5, _), (6, _), (10, _)] ⟨rfl, rfl, rfl, rfl, rfl, trivial⟩ ⟨_, _, _, _, rfl, H, hp0, e29⟩ (Nat.lt_succ_self _)
     ·
      rw [if_neg (by rw [hk39]; exact Bool.false_ne_true)] at e29
      refine SK (IB (TN ?_))
      obtain ⟨n44, hxn44, e29⟩ := bnd e29
      refine RG (MV rfl rfl (ST (Ex.addC rfl rfl hxn44) rfl (AS rfl rfl (NL ?_))))
      exact WQ.againP m35 [(0, _), (1, _), (5, _), (6, _), (10, _)] ⟨rfl, rfl, rfl, rfl, rfl, trivial⟩ ⟨_, _, _, _, rfl, H, hp0, e29⟩ (Nat.lt_succ_self _)
    ·
     replace hk36 : ¬ (n34 < (p1.length : Int)) := of_decide_eq_false hk36
     rw [if_neg hk36] at e29
     refine WC.exit (WQ.thenExit (WQ.thenExit (WQ.exitHere ?_)))
     exact WQ.meetN [(0, _), (1, _), (5, _), (6, _)] ⟨rfl, rfl, rfl, rfl, trivial⟩ ⟨_, _, _, rfl, H, hp0, e29⟩
   ·
    rintro e w ⟨n30, b31, M, rfl, H, hp0, q45⟩
    obtain rfl := oI q45
    try dsimp only at e3
    exact WQ.meetN [(0, _), (1, _), (5, _), (6, _)] ⟨rfl, rfl, rfl, rfl, trivial⟩ ⟨_, _, _, rfl, H, hp0, e3⟩
 ·
  rintro e w ⟨n4, b5, M, rfl, H, hp0, q46⟩
  obtain rfl := oI q46
  try dsimp only at h
  refine TN (SQ (SQ (RG (MV rfl rfl (ST (Ex.not rfl) rfl (NL (TN ?_)))))))
  refine WC.condB rfl (fun hk47 => ?_) (fun hk47 => ?_)
  ·
   replace hk47 : b5 = false := by simpa using hk47
   subst hk47
   rw [if_neg Bool.false_ne_true] at h
   refine SQ (RG (MV rfl rfl (AS rfl rfl (NL (TN (RT ?_))))))
   obtain rfl := oI h
   exact WQ.ret1 rfl rfl H.ext rfl
  ·
   replace hk47 : b5 = true := by simpa using hk47
   subst hk47
   rw [if_pos rfl] at h
   refine SK (TN (SQ ?_))
   obtain ⟨l48, hxl48, h⟩ := bnd h
   refine RG (MV rfl rfl (WR.mkC (enc := encB) (z0 := (0 : UInt8)) xty88 rfl H rfl rfl hxl48 (Wn.none rfl) rfl ?_))
   intro v85 w H
   refine AS rfl rfl (NL (TN (SQ (RG (AS rfl rfl (NL (TN (SQ (SQ (RG (AS rfl rfl (NL (TN ?_)))))))))))))
   obtain ⟨o50, e51, h⟩ := bnd h
   refine WC.cutX (fun e w => ∃ (l52 : List UInt8) (M : Mem), e = [(12, v85)] ∧ St w0 M0 M [RowI 5 encB v85 l52] w ∧ some l52 = some o50) [] ?_ ?_ (trivial)
   ·
    refine BL (WC.loopP (fun m e w => ∃ (l53 : List UInt8) (n54 : Int) (n55 : Int) (M : Mem), e = [(0, ptr bp0 0), (1, S p1), (12, v85), (13, I n54), (14, I n55)] ∧ St w0 M0 M [RowI 5 encB v85 l53] w ∧ TabO M bp0 232 p0.1 p0.2 ∧ Y02 p0 p1 m l53 n54 n55 = some o50) FU [(0, _), (1, _), (12, _), (13, _), (14, _)] ⟨rfl, rfl, rfl, rfl, rfl, trivial⟩ ⟨_, _, _, _, rfl, H, hp0, e51⟩ ?_)
    rintro m56 e w ⟨l53, n54, n55, M, rfl, H, hp0, e51⟩
    rcases m56 with _ | m56
    · rw [Y02] at e51; cases e51
    rw [Y02] at e51
    refine SQ (SQ (RG (MV rfl rfl (MV rfl rfl (ST (Ex.lenStr Tryz.underlying9 rfl) rfl (ST (Ex.lss rfl rfl) rfl (NL (TN ?_))))))))
    refine WC.condB rfl (fun hk57 => ?_) (fun hk57 => ?_)
    ·
     replace hk57 : n55 < (p1.length : Int) := of_decide_eq_true hk57
     rw [if_pos hk57] at e51
     refine SK (TN (SQ (BL (SQ ?_))))
     obtain ⟨c58, hxc58, e51⟩ := bnd e51
     refine RG (MV rfl rfl (MV rfl rfl (ST (Ex.idxStrC Tryz.underlying9 rfl rfl hxc58) rfl (AS rfl rfl (NL (TN (SQ ?_)))))))
     obtain ⟨q59, hxq59, e51⟩ := bnd e51
     obtain ⟨v99, hc99, ho99⟩ := hp0.at hxq59
     refine RG (MV rfl rfl (MV rfl rfl (ST (Ex.nilCheckP rfl) rfl (ST (Ex.fieldAddr Tryz.underlying232 rfl Tryz.sizeOf230 (by decide) rfl) rfl (ST (Ex.idxArrO Tryz.underlying230 Tryz.sizeOf88 rfl rfl hxq59) rfl (ST (Ex.loadM H rfl hc99 Tryz.isAgg88) rfl (ST (Ex.neqNilO Tryz.underlying88 ho99 rfl) rfl (NL (TN ?_)))))))))
     refine WC.condB rfl (fun hk60 => ?_) (fun hk60 => ?_)
     ·
      rw [if_pos hk60] at e51
      obtain ⟨n61, hxn61, e51⟩ := bnd e51
      obtain ⟨q62, hxq62, e51⟩ := bnd e51
      obtain ⟨v110, hc110, ho110⟩ := hp0.at hxq62
      obtain ⟨⟨l63, n64⟩, hx65, e51⟩ := bnd e51
      try dsimp only at e51
      obtain ⟨n66, hxn66, e51⟩ := bnd e51
      refine WC.cutP (fun e w => ∃  (M : Mem), e = [(0, ptr bp0 0), (1, S p1), (12, v85), (13, I n66), (14, I n55)] ∧ St w0 M0 M [RowI 5 encB v85 l63] w ∧ TabO M bp0 232 p0.1 p0.2) ?_ ?_
      ·
       refine WC.draw (m := 13) rfl rfl H ?_
       intro w H
       refine WA.take (i := 0) rfl (by kernel_rfl) (by kernel_rfl) (by kernel_rfl) (fun _ => Ex.move rfl) (Wn.none rfl) rfl rfl (fun _ _ => rfl) (WA.take (i := 1) rfl (by kernel_rfl) (by kernel_rfl) (by kernel_rfl) (fun _ => Ex.move rfl) (Wn.none rfl) rfl rfl (fun _ _ => rfl) (WA.take (i := 2) rfl (by kernel_rfl) (by kernel_rfl) (by kernel_rfl) (fun _ => Ex.move rfl) (Wn.none rfl) rfl rfl (fun _ _ => rfl) (WA.take (i := 4) rfl (by kernel_rfl) (by kernel_rfl) (by kernel_rfl) (fun _ => Ex.move rfl) (Wn.none rfl) rfl rfl (fun _ _ => rfl) (WA.take (i := 5) rfl (by kernel_rfl) (by kernel_rfl) (by kernel_rfl) (fun _ => Ex.move rfl) (Wn.none rfl) rfl rfl (fun _ _ => rfl) (WA.take (i := 6) rfl (by kernel_rfl) (by kernel_rfl) (by kernel_rfl) (fun _ => Ex.nilCheckP rfl) (Wn.none rfl) rfl rfl (fun _ _ => rfl) (WA.take (i := 7) rfl (by kernel_rfl) (by kernel_rfl) (by kernel_rfl) (fun _ => Ex.fieldAddr Tryz.underlying232 rfl Tryz.sizeOf230 (by decide) rfl) (Wn.none rfl) rfl rfl (fun _ _ => rfl) ?_))))))
       refine WA.take (i := 8) rfl (by kernel_rfl) (by kernel_rfl) (by kernel_rfl) (fun _ => Ex.idxArrO Tryz.underlying230 Tryz.sizeOf88 rfl rfl hxq62) (Wn.none rfl) rfl rfl (fun _ _ => rfl) ?_
       refine WA.two (i := 3) (j := 9) (by kernel_rfl) rfl rfl ?_ ?_
       ·
        refine WR.rowFrom (l := l53) Tryz.underlying88 Tryz.sizeOf5 H (by repeat first | exact kMh | apply kMt) hxn61 rfl rfl (Wn.none rfl) rfl ?_
        intro v105 hb105
        refine NA (WA.seq (fuel := 0) [9, 10, 11, 12] rfl (by kernel_rfl) (ST (Ex.loadM H rfl hc110 Tryz.isAgg88) rfl (WR.copyC (l := l53) Tryz.underlying88 xone1_5 (fun _ => rfl) H (fun _ => by repeat first | exact .head | apply Upd.tail) hb105 (ho110.sl) hx65 rfl rfl (Wn.none rfl) rfl ?_)))
        intro w H
        refine ST (Ex.addC rfl rfl hxn66) rfl (AS rfl rfl (NA (WA.done (by kernel_rfl) ?_)))
        exact WQ.meetP [(0, _), (1, _), (12, _), (13, _), (14, _)] ⟨rfl, rfl, rfl, rfl, rfl, trivial⟩ ⟨_, rfl, H, hp0⟩
       ·
        refine ST (Ex.loadM H rfl hc110 Tryz.isAgg88) rfl (NA (WA.seq (fuel := 0) [3, 10, 11, 12] rfl (by kernel_rfl) (WR.rowFrom (l := l53) Tryz.underlying88 Tryz.sizeOf5 H (by repeat first | exact kMh | apply kMt) hxn61 rfl rfl (Wn.none rfl) rfl ?_)))
        intro v105 hb105
        refine WR.copyC (l := l53) Tryz.underlying88 xone1_5 (fun _ => rfl) H (fun _ => by repeat first | exact .head | apply Upd.tail) hb105 (ho110.sl) hx65 rfl rfl (Wn.none rfl) rfl ?_
        intro w H
        refine ST (Ex.addC rfl rfl hxn66) rfl (AS rfl rfl (NA (WA.done (by kernel_rfl) ?_)))
        exact WQ.meetP [(0, _), (1, _), (12, _), (13, _), (14, _)] ⟨rfl, rfl, rfl, rfl, rfl, trivial⟩ ⟨_, rfl, H, hp0⟩
      ·
       rintro e w ⟨M, rfl, H, hp0⟩
       refine IB (TN ?_)
       obtain ⟨n67, hxn67, e51⟩ := bnd e51
       refine RG (MV rfl rfl (ST (Ex.addC rfl rfl hxn67) rfl (AS rfl rfl (NL ?_))))
       exact WQ.againP m56 [(0, _), (1, _), (12, _), (13, _), (14, _)] ⟨rfl, rfl, rfl, rfl, rfl, trivial⟩ ⟨_, _, _, _, rfl, H, hp0, e51⟩ (Nat.lt_succ_self _)
     ·
      rw [if_neg (by rw [hk60]; exact Bool.false_ne_true)] at e51
      refine SQ ?_
      obtain ⟨c68, hxc68, e51⟩ := bnd e51
      obtain ⟨l69, hxl69, e51⟩ := bnd e51
      refine RG (MV rfl rfl (MV rfl rfl (MV rfl rfl (WR.idxRowC (l := l53) H Tryz.underlying88 Tryz.sizeOf5 (by repeat first | exact kMh | apply kMt) rfl rfl hxc68 (Wn.none rfl) rfl ?_))))
      intro g117 hg117
      refine WR.storeRowC (a := c58) H rfl rfl ⟨rfl, rfl⟩ hg117 (fun _ => by repeat first | exact .head | apply Upd.tail) hxl69 Tryz.sizeOf5 (Wn.none rfl) ?_
      intro w H
      refine NL (TN ?_)
      obtain ⟨n70, hxn70, e51⟩ := bnd e51
      refine RG (MV rfl rfl (ST (Ex.addC rfl rfl hxn70) rfl (AS rfl rfl (NL (IB (TN ?_))))))
      obtain ⟨n71, hxn71, e51⟩ := bnd e51
      refine RG (MV rfl rfl (ST (Ex.addC rfl rfl hxn71) rfl (AS rfl rfl (NL ?_))))
      exact WQ.againP m56 [(0, _), (1, _), (12, _), (13, _), (14, _)] ⟨rfl, rfl, rfl, rfl, rfl, trivial⟩ ⟨_, _, _, _, rfl, H, hp0, e51⟩ (Nat.lt_succ_self _)
    ·
     replace hk57 : ¬ (n55 < (p1.length : Int)) := of_decide_eq_false hk57
     rw [if_neg hk57] at e51
     refine WC.exit (WQ.thenExit (WQ.thenExit (WQ.exitHere ?_)))
     exact WQ.meetN [(12, _)] ⟨rfl, trivial⟩ ⟨_, _, rfl, H, e51⟩
   ·
    rintro e w ⟨l52, M, rfl, H, q72⟩
    obtain rfl := oI q72
    refine TN (SQ (RG (MV rfl rfl ?_)))
    obtain ⟨M, hle, hs73, H⟩ := H.freezeRow (v := v85) (enc := encB) (t := 5) (by repeat first | exact .head | apply Rem.tail)
    refine ST (Ex.toStr Tryz.underlying88 Tryz.underlying5 Tryz.underlying9 H (hs73) rfl) rfl (AS rfl rfl (NL (TN (RT ?_))))
    obtain rfl := oI h
    exact WQ.ret1 rfl rfl H.ext rfl
def RplT (M : Mem) (b2 : Nat) : Prop := TabO M b2 232 (tabk 2) (trk 2)
theorem RplT.mono {M M' : Mem} {b2 : Nat} (h : RplT M b2) (hl : M.le M') : RplT M' b2 := TabO.mono h hl
theorem rplBuilt : Y22 [[92], [92, 92], [34], [92, 34]] = some ((tabk 2, trk 2), [[92], [92, 92], [34], [92, 34]]) := by decide +kernel
theorem replT_ct {p0 r : List UInt8} {b2 : Nat} (h : Y0R p0 = some r) : Ct Tryz.prog 273 [ptr b2 0, S p0] (fun M => RplT M b2) (fun v M => v = S r) := Y2f (p0 := (tabk 2, trk 2)) h
def RplM (M : Mem) (x : Array Value) : Prop := (∃ v, x = #[Value.int .u32 0, Value.int .i32 0, Value.int .u32 0, Value.nilIface, v] ∧ Sl M encS v [[92], [92, 92], [34], [92, 34]]) ∨ ∃ b2, x = #[Value.int .u32 1, Value.int .i32 0, Value.int .u32 0, Value.iface 233 (ptr b2 0), Value.slice none 0 0] ∧ RplT M b2
theorem RplM.mono {M M' : Mem} {x : Array Value} (h : RplM M x) (hl : M.le M') : RplM M' x := by
 rcases h with ⟨v, h1, h2⟩ | ⟨b2, h1, h2⟩
 · exact .inl ⟨v, h1, h2.mono hl⟩
 · exact .inr ⟨b2, h1, h2.mono hl⟩
theorem buildOnce_ct {b : Nat} {v : Value} : CtX Tryz.prog 147 [ptr b 0] [.blk b (.cells #[Value.int .u32 0, Value.int .i32 1, Value.int .u32 0, Value.nilIface, v] 166)] (fun M => Sl M encS v [[92], [92, 92], [34], [92, 34]]) (fun r M its => r = .tuple #[] ∧ ∃ b2, RplT M b2 ∧ its = [.blk b (.cells #[Value.int .u32 0, Value.int .i32 1, Value.int .u32 0, Value.iface 233 (ptr b2 0), Value.slice none 0 0] 166)]) := by
 refine CtX.of Tryz.func147 (enters Tryz.func147 (by kernel_rfl) rfl) rfl rfl rfl ?_
 intro w0 M0 H hp
 refine SQ (RG (MV rfl rfl (MV rfl rfl (WR.callX (A := [.blk b (.cells #[Value.int .u32 0, Value.int .i32 1, Value.int .u32 0, Value.nilIface, v] 166)]) (B := []) H (Y3l rplBuilt) (.left (Spl.all _)) rfl hp (Wn.none rfl) rfl ?_))))
 intro v4 M w its H hle hR
 obtain ⟨b2, rfl, hb2, rfl⟩ := hR
 simp only [List.cons_append, List.nil_append] at H
 refine ST (Ex.nilCheckP rfl) rfl (ST (Ex.fieldAddr Tryz.underlying166 rfl Tryz.sizeOf164 (by decide) rfl) rfl (WR.putV [Value.int .u32 0, Value.int .i32 1, Value.int .u32 0, Value.iface 233 (ptr b2 0), v] H rfl rfl ⟨rfl, rfl⟩ Upd.head rfl Tryz.sizeOf164 (show (3 : Nat) < 5 from by decide) (Wn.none rfl) ?_))
 intro w H
 refine NL (TN (RG (MV rfl rfl (ST (Ex.nilCheckP rfl) rfl (ST (Ex.fieldAddr Tryz.underlying166 rfl Tryz.sizeOf55 (by decide) rfl) rfl (WR.putV [Value.int .u32 0, Value.int .i32 1, Value.int .u32 0, Value.iface 233 (ptr b2 0), Value.slice none 0 0] H rfl rfl ⟨rfl, rfl⟩ Upd.head rfl Tryz.sizeOf55 (show (4 : Nat) < 5 from by decide) (Wn.none rfl) ?_))))))
 intro w H
 refine NL ?_
 exact WQ.endX0 rfl H (by repeat first | exact kPn | refine kPc (by repeat first | exact .head | apply Rem.tail) ?_) ⟨rfl, b2, hb2, rfl⟩
theorem onceDo_ct {b : Nat} {x : Array Value} : CtX Tryz.prog 146 [ptr b 0, .func (.func 147) #[ptr b 0] #[]] [.blk b (.cells x 166)] (fun M => RplM M x) (fun r M its => r = .tuple #[] ∧ ∃ b2, RplT M b2 ∧ its = [.blk b (.cells #[Value.int .u32 1, Value.int .i32 0, Value.int .u32 0, Value.iface 233 (ptr b2 0), Value.slice none 0 0] 166)]) := by
 refine ⟨enters Tryz.func146 (by kernel_rfl) rfl, fun w M H hp => ?_⟩
 rcases hp with ⟨v, rfl, hs⟩ | ⟨b2, rfl, hb2⟩
 · have H1 : StX (feet [.blk b (.cells #[Value.int .u32 0, Value.int .i32 0, Value.int .u32 0, Value.nilIface, v] 166)]) w M M [.blk b (.cells #[Value.int .u32 0, Value.int .i32 1, Value.int .u32 0, Value.nilIface, v] 166)] (w.setCell ⟨b, 1, none⟩ (.int .i32 1)) := H.setC (o := 1) (v := .int .i32 1) Upd.head
   refine (oFirst b w (fun w2 => ∃ M2 b2, StX (feet [.blk b (.cells #[Value.int .u32 0, Value.int .i32 0, Value.int .u32 0, Value.nilIface, v] 166)]) w M M2 [.blk b (.cells #[Value.int .u32 0, Value.int .i32 1, Value.int .u32 0, Value.iface 233 (ptr b2 0), Value.slice none 0 0] 166)] w2 ∧ RplT M2 b2) (H.cellOf (o := 0) (List.Mem.head _) rfl) (H.cellOf (o := 1) (List.Mem.head _) rfl) (H.thawOf (List.Mem.head _)) (H.thawOf (List.Mem.head _)) ?_ ?_).mono ?_
   · refine (buildOnce_ct.calls _ M (H1.hand (Spl.whole _)) hs).mono ?_
     rintro e w2 ⟨r, M2, its, rfl, h2, rfl, b2, hb2, rfl⟩
     exact ⟨rfl, M2, b2, H1.back (Spl.whole _) h2, hb2⟩
   · rintro w2 ⟨M2, b2, h2, _⟩
     exact ⟨h2.cellOf (o := 0) (List.Mem.head _) rfl, h2.cellOf (o := 1) (List.Mem.head _) rfl, h2.thawOf (List.Mem.head _), h2.thawOf (List.Mem.head _)⟩
   · rintro e w' ⟨rfl, w2, ⟨M2, b2, h2, hb2⟩, rfl⟩
     have h3 : StX (feet [.blk b (.cells #[Value.int .u32 0, Value.int .i32 0, Value.int .u32 0, Value.nilIface, v] 166)]) w M M2 [.blk b (.cells #[Value.int .u32 1, Value.int .i32 1, Value.int .u32 0, Value.iface 233 (ptr b2 0), Value.slice none 0 0] 166)] (w2.drew.setCell ⟨b, 0, none⟩ (.int .u32 1)) := h2.drew.setC (o := 0) (v := .int .u32 1) Upd.head
     have h4 : StX (feet [.blk b (.cells #[Value.int .u32 0, Value.int .i32 0, Value.int .u32 0, Value.nilIface, v] 166)]) w M M2 [.blk b (.cells #[Value.int .u32 1, Value.int .i32 0, Value.int .u32 0, Value.iface 233 (ptr b2 0), Value.slice none 0 0] 166)] ((w2.drew.setCell ⟨b, 0, none⟩ (.int .u32 1)).setCell ⟨b, 1, none⟩ (.int .i32 0)) := h3.setC (o := 1) (v := .int .i32 0) Upd.head
     exact ⟨_, M2, _, rfl, h4, rfl, b2, hb2, rfl⟩
 · refine (oAgain ⟨b, 0, none⟩ 1 (by decide) _ w (H.cellOf (o := 0) (List.Mem.head _) rfl)).mono ?_
   rintro e w' ⟨rfl, rfl⟩
   exact ⟨_, M, _, rfl, H, rfl, b2, hb2, rfl⟩
theorem methR (b2 : Nat) : MethAt Tryz.prog 233 (ptr b2 0) "Replace" 273 (ptr b2 0) := fun w => by kernel_rfl
theorem Y3c {p0 : List UInt8} {b : Nat} {x : Array Value} {r : List UInt8} (h : Y0R p0 = some r) : CtX Tryz.prog 116 [ptr b 0, S p0] [.blk b (.cells x 166)] (fun M => RplM M x) (fun v M its => ∃ x', v = S r ∧ RplM M x' ∧ its = [.blk b (.cells x' 166)]) := by
 refine CtX.of Tryz.func116 (enters Tryz.func116 (by kernel_rfl) rfl) rfl rfl rfl ?_
 intro w0 M0 H hp
 refine SQ (RG (AS rfl rfl (NL (TN (SQ (RG (MV rfl rfl (ST (Ex.nilCheckP rfl) rfl (ST (Ex.fieldAddr Tryz.underlying166 rfl Tryz.sizeOf162 (by decide) rfl) rfl (MV rfl rfl (ST (Ex.makeFuncF (vs := [ptr b 0]) rfl) rfl (WR.callX (A := [.blk b (.cells x 166)]) (B := []) H (onceDo_ct (b := b) (x := x)) (.left (Spl.all _)) rfl hp (Wn.none rfl) rfl ?_))))))))))))
 intro v10 M w its H hle hR
 obtain ⟨rfl, b2, hb2, rfl⟩ := hR
 simp only [List.cons_append, List.nil_append] at H
 refine NL (TN (SQ (RG (MV rfl rfl (ST (Ex.nilCheckP rfl) rfl (ST (Ex.fieldAddr Tryz.underlying166 rfl Tryz.sizeOf164 (by decide) rfl) rfl (ST (Ex.load1 H rfl (List.Mem.head _) Tryz.isAgg164 (by rfl)) rfl ?_)))))))
 refine MV rfl rfl (WR.callI H (replT_ct h) (methR b2) rfl rfl hb2 (Wn.none rfl) rfl ?_)
 intro v16 M w H hle hR
 obtain rfl := hR
 refine AS rfl rfl (NL (TN (RT ?_)))
 exact WQ.retX1 (its := [.blk b (.cells #[Value.int .u32 1, Value.int .i32 0, Value.int .u32 0, Value.iface 233 (ptr b2 0), Value.slice none 0 0] 166)]) rfl rfl H (by repeat first | exact kPn | refine kPc (by repeat first | exact .head | apply Rem.tail) ?_) ⟨_, rfl, .inr ⟨b2, rfl, hb2.mono hle⟩, rfl⟩
theorem xplacesR : ∀ {fs : Array Field}, Tryz.prog.underlying 166 = some (.struct fs) → ∀ w, (fs.mapM fun f => do pure (f.offset, ← sizeOf f.type) : Sem (Array (Nat × Nat))).run Tryz.prog w = .ok #[(0, 3), (3, 1), (4, 1)] w := by
 intro fs h w
 rw [Tryz.underlying166] at h
 cases h
 simp
theorem Y3G {p0 : List (List UInt8)} {vp0 : Value} {r : Unit} (h : Y1t p0 = some r) : CtX Tryz.prog 115 [vp0] [] (fun M => Sl M encS vp0 p0) (fun v M its => ∃ b x, v = ptr b 0 ∧ RplM M x ∧ its = [.blk b (.cells x 166)]) := by
 unfold Y1t at h
 split at h
 case isFalse => cases h
 rename_i hl
 subst hl
 refine CtX.of Tryz.func115 (enters Tryz.func115 (by kernel_rfl) rfl) rfl rfl rfl ?_
 intro w0 M0 H hp0
 refine SQ (RG (AS rfl rfl (NL (TN (SQ (SQ (RG (MV rfl rfl (ST (Ex.lenSl Tryz.underlying55 hp0 rfl) rfl (ST (Ex.remC (a := 4) (b := 2) (z := 0) rfl rfl rfl) rfl (WR.stepF (Ex.eql rfl rfl) (by decide) (Wn.none rfl) rfl rfl (NL (TN (CF rfl (SK (TN (SQ (RG (MV rfl rfl ?_)))))))))))))))))))
 replace H := H.newRow 9 encS
 refine WR.appC (l := []) xty55 rfl (fun _ => rfl) H rfl (fun _ => by repeat first | exact .head | apply Upd.tail) rfl hp0 (l3 := [[92], [92, 92], [34], [92, 34]]) rfl (Wn.none rfl) rfl ?_
 intro v9 w H
 obtain ⟨M, hle, hs, H1⟩ := H.freezeRowN (v := v9) (enc := encS) (t := 9) (by repeat first | exact .head | apply Rem.tail) trivial
 have hs2 := hs
 obtain ⟨A9, c9, rfl, -⟩ := hs2
 refine ST (Ex.build [Value.int .u32 0, Value.int .i32 0, Value.int .u32 0, Value.nilIface, .slice A9 4 c9] Tryz.underlying166 Tryz.zeroValue166 (xplacesR Tryz.underlying166) rfl (by kernel_rfl)) rfl (WR.box [Value.int .u32 0, Value.int .i32 0, Value.int .u32 0, Value.nilIface, .slice A9 4 c9] H1 rfl rfl (Wn.none rfl) rfl ?_)
 intro b11 w H2
 refine AS rfl rfl (NL (TN (RT ?_)))
 exact WQ.retX1 (its := [.blk b11 (.cells #[Value.int .u32 0, Value.int .i32 0, Value.int .u32 0, Value.nilIface, .slice A9 4 c9] 166)]) rfl rfl H2 (by repeat first | exact kPn | refine kPc (by repeat first | exact .head | apply Rem.tail) ?_) ⟨b11, _, rfl, .inl ⟨_, rfl, hs⟩, rfl⟩
theorem Y40 {s sep : List UInt8} {k : Int} : CtX Tryz.prog 113 [S s, S sep, I k] [] (fun _ => True) (fun v M its => ∃ b1 b2 b3, v = .func (.func 143) #[] #[ptr b1 0, ptr b2 0, ptr b3 0] ∧ its = [.blk b1 (.cells #[S sep] 9), .blk b2 (.cells #[S s] 9), .blk b3 (.cells #[I k] 3)]) := by
 refine CtX.of Tryz.func113 (enters Tryz.func113 (by kernel_rfl) rfl) rfl rfl rfl ?_
 intro w0 M0 H _
 refine SQ (RG (WR.box [_] H rfl rfl (Wn.none rfl) rfl ?_))
 intro b2 w H
 refine WR.box [_] H rfl rfl (Wn.none rfl) rfl ?_
 intro b1 w H
 refine WR.box [_] H rfl rfl (Wn.none rfl) rfl ?_
 intro b3 w H
 refine AS rfl rfl (NL (TN (SQ (RG (ST (Ex.makeFunc rfl) rfl (AS rfl rfl (NL (TN (RT ?_)))))))))
 exact WQ.retX1 (its := [.blk b1 (.cells #[S sep] 9), .blk b2 (.cells #[S s] 9), .blk b3 (.cells #[I k] 3)]) rfl rfl H (by repeat first | exact kPn | refine kPc (by repeat first | exact .head | apply Rem.tail) ?_) ⟨_, _, _, rfl, rfl⟩
theorem Y3d {s sep : List UInt8} : CtX Tryz.prog 79 [S s, S sep] [] (fun _ => True) (fun v M its => ∃ b1 b2 b3, v = .func (.func 143) #[] #[ptr b1 0, ptr b2 0, ptr b3 0] ∧ its = [.blk b1 (.cells #[S sep] 9), .blk b2 (.cells #[S s] 9), .blk b3 (.cells #[I 0] 3)]) := by
 refine CtX.of Tryz.func79 (enters Tryz.func79 (by kernel_rfl) rfl) rfl rfl rfl ?_
 intro w0 M0 H _
 refine SQ (RG (AS rfl rfl (NL (TN (SQ (RG (MV rfl rfl (MV rfl rfl (WR.callX (A := []) (B := []) H Y40 (Spl.all _) rfl trivial (Wn.none rfl) rfl ?_)))))))))
 intro v7 M w its H hle hR
 obtain ⟨b1, b2, b3, rfl, rfl⟩ := hR
 simp only [List.cons_append, List.nil_append] at H
 refine AS rfl rfl (NL (TN (RT ?_)))
 exact WQ.retX1 (its := [.blk b1 (.cells #[S sep] 9), .blk b2 (.cells #[S s] 9), .blk b3 (.cells #[I 0] 3)]) rfl rfl H (by repeat first | exact kPn | refine kPc (by repeat first | exact .head | apply Rem.tail) ?_) ⟨_, _, _, rfl, rfl⟩
theorem Y3B {p0 r : List (List UInt8 × List UInt8 × List UInt8)} {vp0 : Value} (h : Y1i p0 = some r) : Ct Tryz.prog 39 [vp0] (fun M => SlS M 3 xenc24 vp0 p0) (fun v M => SlS M 3 xenc24 v r) := by
 refine Ct.of Tryz.func39 (enters Tryz.func39 (by kernel_rfl) rfl) rfl rfl rfl ?_
 intro w0 M0 H hp0
 unfold Y1i at h
 refine SQ (RG (AS rfl rfl (NL (TN (SQ (SQ ?_))))))
 rcases SlS.nilOr hp0 with ⟨rfl, rfl⟩ | ⟨a, c, rfl⟩
 · refine WC.region ?_
   refine MV rfl rfl (ST (Ex.eqlNilS Tryz.underlying30 rfl) rfl (NL (TN (CT rfl (SQ (RG (AS rfl rfl (NL (TN (RT ?_))))))))))
   obtain ⟨_, rfl⟩ := app_some h
   exact WQ.ret1 rfl rfl H.ext (SlS.nil _ _ (fun _ => rfl))
 · refine WC.region ?_
   refine MV rfl rfl (ST (Ex.eqlNilS Tryz.underlying30 rfl) rfl (NL (TN (CF rfl (SK ?_)))))
   (repeat (first | refine WQ.then ?_))
   refine SQ (RG (WR.litE xty30 xenc24 H (Wn.none rfl) rfl ?_))
   intro v5 w H
   refine MV rfl rfl (WR.appSC (l := []) xty30 rfl xone24 H rfl (fun _ => by repeat first | exact .head | apply Upd.tail) rfl hp0 h (Wn.none rfl) rfl ?_)
   intro v7 w H
   refine AS rfl rfl (NL (TN (RT ?_)))
   obtain ⟨M, hle, hf, H⟩ := H.freezeRowS (v := v7) (enc := xenc24) (t := 24) (by repeat first | exact .head | apply Rem.tail) (fun _ => rfl)
   exact WQ.ret1 rfl rfl H.ext hf
theorem Y0D {p0 : Int} {p1 : Int} {r : (Int × Int)} (h : Y07 p0 p1 = some r) : Ct Tryz.prog 30 [I p0, I p1] (fun M => True) (fun v M => v = Value.agg #[I r.1, I r.2]) := by
 refine Ct.of Tryz.func30 (enters Tryz.func30 (by kernel_rfl) rfl) rfl rfl rfl ?_
 intro w0 M0 H hp
 unfold Y07 at h
 refine SQ (RG (WR.alloc [_, _] H Tryz.zeroValue27 rfl (Wn.none rfl) rfl ?_))
 intro bk4 w H
 refine NL (TN (SQ (RG (MV rfl rfl (MV rfl rfl (ST (Ex.build [I p0, I p1] Tryz.underlying27 Tryz.zeroValue27 (xplaces27 Tryz.underlying27) rfl rfl) rfl (WR.store [_, _] H rfl rfl rfl (by repeat first | exact .head | apply Upd.tail) Tryz.sizeOf27 rfl (by rfl) (by rfl) (Wn.none rfl) ?_)))))))
 intro w H
 refine NL (TN (RT ?_))
 obtain rfl := oI h
 exact WQ.ret1 rfl ⟨_, rfl, H.loadAgg (by repeat first | exact kMh | apply kMt) Tryz.isAgg27 Tryz.sizeOf27 (by rfl)⟩ H.ext rfl
theorem Y3g {p0 : List UInt8} {r : Int} (h : Y1L p0 = some r) : Ct Tryz.prog 29 [S p0] (fun M => Tabs M) (fun v M => v = I r) := by
 refine Ct.of Tryz.func29 (enters Tryz.func29 (by kernel_rfl) rfl) rfl rfl rfl ?_
 intro w0 M0 H hp
 have hg_tabs := hp
 unfold Y1L at h
 refine SQ (RG (AS rfl rfl (NL (TN (SQ (SQ (RG (MV rfl rfl (ST (Ex.lenStr Tryz.underlying9 rfl) rfl (ST (Ex.gtr rfl rfl) rfl (NL (TN ?_))))))))))))
 refine WC.condB rfl (fun hk1 => ?_) (fun hk1 => ?_)
 ·
  replace hk1 : (500 : Int) < (p0.length : Int) := of_decide_eq_true hk1
  rw [if_pos hk1] at h
  refine SQ (RG (AS rfl rfl (NL (TN (RT ?_)))))
  obtain rfl := oI h
  exact WQ.ret1 rfl rfl H.ext rfl
 ·
  replace hk1 : ¬ ((500 : Int) < (p0.length : Int)) := of_decide_eq_false hk1
  rw [if_neg hk1] at h
  refine SK (TN (SQ (SQ ?_)))
  obtain ⟨b2, hx3, h⟩ := bnd h
  refine RG (MV rfl rfl (WR.call H (Y3b hx3) rfl (hg_tabs) (Wn.none rfl) rfl ?_))
  intro v7 M w H hle hR
  replace hg_tabs := hg_tabs.mono hle
  obtain rfl := hR
  refine ST (Ex.not rfl) rfl (NL (TN ?_))
  refine WC.condB rfl (fun hk4 => ?_) (fun hk4 => ?_)
  ·
   replace hk4 : b2 = false := by simpa using hk4
   subst hk4
   rw [if_neg Bool.false_ne_true] at h
   refine SQ (RG (AS rfl rfl (NL (TN (RT ?_)))))
   obtain rfl := oI h
   exact WQ.ret1 rfl rfl H.ext rfl
  ·
   replace hk4 : b2 = true := by simpa using hk4
   subst hk4
   rw [if_pos rfl] at h
   refine SK (TN (SQ (RG (AS rfl rfl (NL (TN (RT ?_)))))))
   obtain rfl := oI h
   exact WQ.ret1 rfl rfl H.ext rfl
theorem Y3M {p0 : List UInt8} {p1 : (UInt8 → Option Bool)} {vp1 : Value} {r : Bool} (h : Y2T p0 p1 = some r) : Ct Tryz.prog 66 [S p0, vp1] (fun M => FnT90 M vp1 p1) (fun v M => v = Value.bool r) := by
 refine Ct.of Tryz.func66 (enters Tryz.func66 (by kernel_rfl) rfl) rfl rfl rfl ?_
 intro w0 M0 H hp
 have hp1 := hp
 unfold Y2T at h
 refine SQ (RG (AS rfl rfl (NL (TN (SQ (SQ (RG (MV rfl rfl (ST (Ex.lenStr Tryz.underlying9 rfl) rfl (MV rfl rfl (NL (TN ?_))))))))))))
 obtain ⟨o1, e2, h⟩ := bnd h
 refine WC.cutX (fun e w => ∃  (M : Mem), e = [] ∧ St w0 M0 M [] w ∧ some (.inl ()) = some o1) [] ?_ ?_ (trivial)
 ·
  refine BL (WC.loopP (fun m e w => ∃ (n3 : Int) (M : Mem), e = [(0, S p0), (1, vp1), (7, I (p0.length : Int)), (8, I n3)] ∧ St w0 M0 M [] w ∧ FnT90 M vp1 p1 ∧ Y1P p0 p1 m n3 = some o1) FU [(0, _), (1, _), (7, _), (8, _)] ⟨rfl, rfl, rfl, rfl, trivial⟩ ⟨_, _, rfl, H, hp1, e2⟩ ?_)
  rintro m4 e w ⟨n3, M, rfl, H, hp1, e2⟩
  rcases m4 with _ | m4
  · rw [Y1P] at e2; cases e2
  rw [Y1P] at e2
  refine SQ (RG (ST (Ex.lss rfl rfl) rfl (NL (TN (SQ ?_)))))
  refine WC.condB rfl (fun hk5 => ?_) (fun hk5 => ?_)
  ·
   replace hk5 : n3 < (p0.length : Int) := of_decide_eq_true hk5
   rw [if_pos hk5] at e2
   refine SK (TN (SQ (BL (SQ (RG (MV rfl rfl (AS rfl rfl (NL (TN (SQ ?_))))))))))
   obtain ⟨c6, hxc6, e2⟩ := bnd e2
   obtain ⟨b7, hx8, e2⟩ := bnd e2
   refine RG (MV rfl rfl (MV rfl rfl (MV rfl rfl (ST (Ex.idxStrC Tryz.underlying9 rfl rfl hxc6) rfl (WR.callF H (hp1.2 _ _ hx8) rfl rfl (Wn.none rfl) rfl ?_)))))
   intro v15 M w H hle hR
   replace hp1 := hp1.mono hle
   obtain rfl := hR
   refine ST (Ex.not rfl) rfl (NL (TN ?_))
   refine WC.condB rfl (fun hk9 => ?_) (fun hk9 => ?_)
   ·
    replace hk9 : b7 = false := by simpa using hk9
    subst hk9
    rw [if_neg Bool.false_ne_true] at e2
    refine SQ (RG (AS rfl rfl (NL (TN (RT ?_)))))
    obtain rfl := oI e2
    try dsimp only at h
    obtain rfl := oI h
    exact WQ.ret1 rfl rfl H.ext rfl
   ·
    replace hk9 : b7 = true := by simpa using hk9
    subst hk9
    rw [if_pos rfl] at e2
    refine SK (IB (TN ?_))
    obtain ⟨n10, hxn10, e2⟩ := bnd e2
    refine RG (ST (Ex.addC rfl rfl hxn10) rfl (MV rfl rfl (NL ?_)))
    exact WQ.againP m4 [(0, _), (1, _), (7, _), (8, _)] ⟨rfl, rfl, rfl, rfl, trivial⟩ ⟨_, _, rfl, H, hp1, e2⟩ (Nat.lt_succ_self _)
  ·
   replace hk5 : ¬ (n3 < (p0.length : Int)) := of_decide_eq_false hk5
   rw [if_neg hk5] at e2
   refine WC.exit (WQ.thenExit (WQ.thenExit (WQ.exitHere ?_)))
   exact WQ.meetN [] trivial ⟨_, rfl, H, e2⟩
 ·
  rintro e w ⟨M, rfl, H, q11⟩
  obtain rfl := oI q11
  try dsimp only at h
  refine TN (SQ (RG (AS rfl rfl (NL (TN (RT ?_))))))
  obtain rfl := oI h
  exact WQ.ret1 rfl rfl H.ext rfl
theorem Y45 {p0 : UInt8} {r : Bool} (h : Y26 p0 = some r) : Ct Tryz.prog 67 [encB p0] (fun M => True) (fun v M => v = Value.bool r) := by
 refine Ct.of Tryz.func67 (enters Tryz.func67 (by kernel_rfl) rfl) rfl rfl rfl ?_
 intro w0 M0 H hp
 unfold Y26 at h
 refine SQ (RG (AS rfl rfl (NL (TN (SQ ?_)))))
 obtain ⟨o1, e2, h⟩ := bnd h
 refine WC.cutX (fun e w => ∃ (b3 : Bool) (M : Mem), e = [(2, Value.bool b3)] ∧ St w0 M0 M [] w ∧ some b3 = some o1) [] ?_ ?_ (trivial)
 ·
  by_cases hk4 : 32 ≤ p0.toNat
  ·
   rw [if_pos hk4] at e2
   refine RG (MV rfl rfl (WR.stepE (v' := .bool true) (Ex.geqB (i := p0.toNat) (j := 32) rfl rfl) (congrArg Value.bool (decide_eq_true hk4)) (Wn.none rfl) rfl rfl (MV rfl rfl (SG (Ex.move rfl) rfl rfl rfl (SG (Ex.leqB (i := p0.toNat) (j := 126) rfl rfl) rfl rfl rfl (PT rfl rfl rfl (AS rfl rfl (NL ?_))))))))
   exact WQ.meetN [(2, _)] ⟨rfl, trivial⟩ ⟨_, _, rfl, H, e2⟩
  ·
   rw [if_neg hk4] at e2
   refine RG (MV rfl rfl (WR.stepE (v' := .bool false) (Ex.geqB (i := p0.toNat) (j := 32) rfl rfl) (congrArg Value.bool (decide_eq_false hk4)) (Wn.none rfl) rfl rfl (MV rfl rfl (GF rfl rfl rfl (GF rfl rfl rfl (PF rfl rfl rfl (AS rfl rfl (NL ?_))))))))
   exact WQ.meetN [(2, _)] ⟨rfl, trivial⟩ ⟨_, _, rfl, H, e2⟩
 ·
  rintro e w ⟨b3, M, rfl, H, q5⟩
  obtain rfl := oI q5
  refine TN (RT ?_)
  obtain rfl := oI h
  exact WQ.ret1 rfl rfl H.ext rfl
theorem Y2m {p0 : List UInt8} {r : Bool} (h : Y1B p0 = some r) : Ct Tryz.prog 31 [S p0] (fun M => True) (fun v M => v = Value.bool r) := by
 refine Ct.of Tryz.func31 (enters Tryz.func31 (by kernel_rfl) rfl) rfl rfl rfl ?_
 intro w0 M0 H hp
 unfold Y1B at h
 refine SQ (RG (AS rfl rfl (NL (TN (SQ ?_)))))
 obtain ⟨o1, e2, h⟩ := bnd h
 refine WC.cutX (fun e w => ∃ (b3 : Bool) (M : Mem), e = [(2, Value.bool b3)] ∧ St w0 M0 M [] w ∧ some b3 = some o1) [] ?_ ?_ (trivial)
 ·
  by_cases hk4 : p0 = []
  ·
   rw [if_pos hk4] at e2
   refine RG (MV rfl rfl (WR.stepE (v' := .bool false) (Ex.strNeqC rfl rfl) (congrArg Value.bool (by rw [decide_eq_true hk4]; rfl)) (Wn.none rfl) rfl rfl ?_))
   refine MV rfl rfl (WR.skipN 3 rfl rfl (PF rfl rfl rfl (MV rfl rfl (GF rfl rfl rfl (GF rfl rfl rfl (PF rfl rfl rfl (AS rfl rfl (NL ?_))))))))
   exact WQ.meetN [(2, _)] ⟨rfl, trivial⟩ ⟨_, _, rfl, H, e2⟩
  ·
   rw [if_neg hk4] at e2
   refine RG (MV rfl rfl (WR.stepE (v' := .bool true) (Ex.strNeqC rfl rfl) (congrArg Value.bool (by rw [decide_eq_false hk4]; rfl)) (Wn.none rfl) rfl rfl ?_))
   by_cases hk5 : (p0.length : Int) ≤ (60 : Int)
   ·
    rw [if_pos hk5] at e2
    obtain ⟨b6, hx7, e2⟩ := bnd e2
    refine MV rfl rfl (SG (Ex.move rfl) rfl rfl rfl (SG (Ex.lenStr Tryz.underlying9 rfl) rfl rfl rfl (WR.stepE (v' := .bool true) (Ex.leq rfl rfl) (congrArg Value.bool (decide_eq_true hk5)) (Wn.some rfl rfl rfl) rfl rfl (PT rfl rfl rfl (MV rfl rfl (SG (Ex.move rfl) rfl rfl rfl (WR.call H (Y3M hx7) rfl ((⟨⟨rfl, rfl⟩, (fun _ _ h => FnV.of (Y45 h) (fun _ _ => trivial))⟩ : FnT90 _ _ _)) (Wn.some rfl rfl rfl) rfl ?_)))))))
    intro v12 M w H hle hR
    obtain rfl := hR
    refine PT rfl rfl rfl (AS rfl rfl (NL ?_))
    exact WQ.meetN [(2, _)] ⟨rfl, trivial⟩ ⟨_, _, rfl, H, e2⟩
   ·
    rw [if_neg hk5] at e2
    refine MV rfl rfl (SG (Ex.move rfl) rfl rfl rfl (SG (Ex.lenStr Tryz.underlying9 rfl) rfl rfl rfl (WR.stepE (v' := .bool false) (Ex.leq rfl rfl) (congrArg Value.bool (decide_eq_false hk5)) (Wn.some rfl rfl rfl) rfl rfl (PT rfl rfl rfl (MV rfl rfl (GF rfl rfl rfl (GF rfl rfl rfl (PF rfl rfl rfl (AS rfl rfl (NL ?_))))))))))
    exact WQ.meetN [(2, _)] ⟨rfl, trivial⟩ ⟨_, _, rfl, H, e2⟩
 ·
  rintro e w ⟨b3, M, rfl, H, q8⟩
  obtain rfl := oI q8
  refine TN (RT ?_)
  obtain rfl := oI h
  exact WQ.ret1 rfl rfl H.ext rfl
theorem Y2V {p1 : List UInt8} {p2 : List UInt8} {p3 : Int} {bp1 : Nat} {bp2 : Nat} {bp3 : Nat} : ItS Tryz.prog 143 [ptr bp1 0, ptr bp2 0, ptr bp3 0] [.blk bp1 (.cells #[S p1] 9), .blk bp2 (.cells #[S p2] 9), .blk bp3 (.cells #[I p3] 3)] (fun M => GlF (fun w => ∃ m, w.cell? ⟨2, 0, none⟩ = some (.int .i64 m)) M ∧ Tabs M) encS (Y1d p1 p2 p3) := by
 refine ItS.of Tryz.func143 (enters Tryz.func143 (by kernel_rfl) rfl) rfl rfl rfl ?_
 intro lid σ Y Z C hY s0 r L0 w0 M0 h hzz H hp
 simp only [List.cons_append, List.nil_append] at H
 obtain ⟨hg_maxl, hg_tabs⟩ := hp
 unfold Y1d at h
 refine SQ (SQ (RG (ST (Ex.load1 H rfl (by repeat first | exact kMh | apply kMt) Tryz.isAgg9 (by rfl)) rfl ?_)))
 refine ST (Ex.lenStr Tryz.underlying9 rfl) rfl (ST (Ex.eql rfl rfl) rfl (NL (TN ?_)))
 refine WC.condB rfl (fun hk1 => ?_) (fun hk1 => ?_)
 ·
  replace hk1 : (p1.length : Int) = (0 : Int) := of_decide_eq_true hk1
  rw [if_pos hk1] at h
  refine SQ ?_
  obtain ⟨o2, e3, h⟩ := bnd h
  refine WC.cutX (fun e w => ∃ (s4 : List UInt8) (s5 : σ) (Lc : List Ph.Item) (M : Mem), e = [] ∧ StX C w0 M0 M (.blk bp1 (.cells #[S p1] 9) :: .blk bp2 (.cells #[S s4] 9) :: .blk bp3 (.cells #[I p3] 3) :: Lc) w ∧ GlF (fun w => ∃ m, w.cell? ⟨2, 0, none⟩ = some (.int .i64 m)) M ∧ Tabs M ∧ ZH Z s5 Lc M ∧ some (.inl (s4, s5)) = some o2) [] ?_ ?_ (trivial)
  ·
   refine BL ?_
   refine WC.loopP (fun m e w => ∃ (s6 : List UInt8) (s7 : σ) (Lc : List Ph.Item) (M : Mem), e = [(0, (yv lid)), (2, ptr bp2 0)] ∧ StX C w0 M0 M (.blk bp2 (.cells #[S s6] 9) :: .blk bp1 (.cells #[S p1] 9) :: .blk bp3 (.cells #[I p3] 3) :: Lc) w ∧ GlF (fun w => ∃ m, w.cell? ⟨2, 0, none⟩ = some (.int .i64 m)) M ∧ Tabs M ∧ ZH Z s7 Lc M ∧ Y1b Y m s6 s7 = some o2) FU [(0, _), (2, _)] ⟨rfl, rfl, trivial⟩ ⟨_, _, _, _, rfl, (H.pick (L' := (.blk bp2 (.cells #[S p2] 9) :: .blk bp1 (.cells #[S p1] 9) :: .blk bp3 (.cells #[I p3] 3) :: L0)) (by repeat (first | refine Pick.cons (by repeat first | exact .head | apply Rem.tail) ?_ | exact Pick.ofSub (by repeat (first | exact List.Sublist.refl _ | apply List.Sublist.cons))))), hg_maxl, hg_tabs, hzz, e3⟩ ?_
   rintro m8 e w ⟨s6, s7, Lc, M, rfl, H, hg_maxl, hg_tabs, hzz, e3⟩
   rcases m8 with _ | m8
   · rw [Y1b] at e3; cases e3
   rw [Y1b] at e3
   refine SQ (SQ (RG (ST (Ex.load1 H rfl (by repeat first | exact kMh | apply kMt) Tryz.isAgg9 (by rfl)) rfl ?_)))
   refine ST (Ex.lenStr Tryz.underlying9 rfl) rfl (ST (Ex.gtr rfl rfl) rfl (NL (TN ?_)))
   refine WC.condB rfl (fun hk9 => ?_) (fun hk9 => ?_)
   ·
    replace hk9 : (0 : Int) < (s6.length : Int) := of_decide_eq_true hk9
    rw [if_pos hk9] at e3
    refine SK (TN (BL (SQ ?_)))
    obtain ⟨⟨n10, n11⟩, hx12, e3⟩ := bnd e3
    try dsimp only at e3
    refine RG (ST (Ex.load1 H rfl (by repeat first | exact kMh | apply kMt) Tryz.isAgg9 (by rfl)) rfl ?_)
    refine WR.call H (Y3e hx12) rfl (hg_tabs) (Wn.none rfl) rfl ?_
    intro v17 M w H hle hR
    replace hg_maxl := hg_maxl.mono hle
    replace hg_tabs := hg_tabs.mono hle
    replace hzz := hzz.mono hle
    try dsimp only at hR
    obtain rfl := hR
    refine MV rfl rfl (ST (Ex.extract rfl rfl) rfl (ST (Ex.extract rfl rfl) rfl (AS rfl rfl (AS rfl rfl (NL (TN (SQ (SQ ?_))))))))
    obtain ⟨s13, hxs13, e3⟩ := bnd e3
    obtain ⟨⟨s14, b15⟩, hx16, e3⟩ := bnd e3
    try dsimp only at e3
    refine RG (MV rfl rfl (ST (Ex.load1 H rfl (by repeat first | exact kMh | apply kMt) Tryz.isAgg9 (by rfl)) rfl ?_))
    refine MV rfl rfl (ST (Ex.sliceH Tryz.underlying9 rfl rfl hxs13) rfl (WR.yieldS H (.right (.right (.right (Spl.whole _)))) hY hzz hx16 rfl rfl (Wn.none rfl) rfl ?_))
    intro w M Lc H hle hzz
    simp only [List.cons_append, List.nil_append] at H
    replace hg_maxl := hg_maxl.mono hle
    replace hg_tabs := hg_tabs.mono hle
    refine ST (Ex.not rfl) rfl (NL (TN ?_))
    refine WC.condB rfl (fun hk17 => ?_) (fun hk17 => ?_)
    ·
     replace hk17 : b15 = false := by simpa using hk17
     subst hk17
     rw [if_neg Bool.false_ne_true] at e3
     refine RT ?_
     obtain rfl := oI e3
     try dsimp only at h
     obtain rfl := oI h
     exact WQ.retZ rfl H (by repeat (first | exact List.Sublist.refl _ | apply List.Sublist.cons)) hzz rfl
    ·
     replace hk17 : b15 = true := by simpa using hk17
     subst hk17
     rw [if_pos rfl] at e3
     refine SK (TN ?_)
     obtain ⟨s18, hxs18, e3⟩ := bnd e3
     refine RG (ST (Ex.load1 H rfl (by repeat first | exact kMh | apply kMt) Tryz.isAgg9 (by rfl)) rfl ?_)
     refine MV rfl rfl (ST (Ex.sliceL Tryz.underlying9 rfl rfl hxs18) rfl (WR.store [_] H rfl rfl rfl (by repeat first | exact .head | apply Upd.tail) Tryz.sizeOf9 rfl (by rfl) (by rfl) (Wn.none rfl) ?_))
     intro w H
     refine NL (IB ?_)
     exact WQ.againP m8 [(0, _), (2, _)] ⟨rfl, rfl, trivial⟩ ⟨_, _, _, _, rfl, H, hg_maxl, hg_tabs, hzz, e3⟩ (Nat.lt_succ_self _)
   ·
    replace hk9 : ¬ ((0 : Int) < (s6.length : Int)) := of_decide_eq_false hk9
    rw [if_neg hk9] at e3
    refine WC.exit (WQ.thenExit (WQ.thenExit (WQ.exitHere ?_)))
    exact WQ.meetN [] trivial ⟨_, _, _, _, rfl, (H.pick (L' := (.blk bp1 (.cells #[S p1] 9) :: .blk bp2 (.cells #[S s6] 9) :: .blk bp3 (.cells #[I p3] 3) :: Lc)) (by repeat (first | refine Pick.cons (by repeat first | exact .head | apply Rem.tail) ?_ | exact Pick.ofSub (by repeat (first | exact List.Sublist.refl _ | apply List.Sublist.cons))))), hg_maxl, hg_tabs, hzz, e3⟩
  ·
   rintro e w ⟨s4, s5, Lc, M, rfl, H, hg_maxl, hg_tabs, hzz, q19⟩
   obtain rfl := oI q19
   try dsimp only at h
   refine TN (RT ?_)
   obtain rfl := oI h
   exact WQ.retZ rfl H (by repeat (first | exact List.Sublist.refl _ | apply List.Sublist.cons)) hzz rfl
 ·
  replace hk1 : ¬ ((p1.length : Int) = (0 : Int)) := of_decide_eq_false hk1
  rw [if_neg hk1] at h
  refine SK (TN (SQ ?_))
  obtain ⟨o22, e23, h⟩ := bnd h
  refine WC.cutX (fun e w => ∃ (s24 : List UInt8) (s25 : σ) (Lc : List Ph.Item) (M : Mem), e = [(0, (yv lid)), (2, ptr bp2 0)] ∧ StX C w0 M0 M (.blk bp2 (.cells #[S s24] 9) :: .blk bp1 (.cells #[S p1] 9) :: .blk bp3 (.cells #[I p3] 3) :: Lc) w ∧ GlF (fun w => ∃ m, w.cell? ⟨2, 0, none⟩ = some (.int .i64 m)) M ∧ Tabs M ∧ ZH Z s25 Lc M ∧ some (.inl (s24, s25)) = some o22) [] ?_ ?_ (trivial)
  ·
   refine BL (WC.loopP (fun m e w => ∃ (s26 : List UInt8) (s27 : σ) (Lc : List Ph.Item) (M : Mem), e = [(0, (yv lid)), (1, ptr bp1 0), (2, ptr bp2 0), (3, ptr bp3 0)] ∧ StX C w0 M0 M (.blk bp1 (.cells #[S p1] 9) :: .blk bp2 (.cells #[S s26] 9) :: .blk bp3 (.cells #[I p3] 3) :: Lc) w ∧ GlF (fun w => ∃ m, w.cell? ⟨2, 0, none⟩ = some (.int .i64 m)) M ∧ Tabs M ∧ ZH Z s27 Lc M ∧ Y0q Y p1 p3 m s26 s27 = some o22) FU [(0, _), (1, _), (2, _), (3, _)] ⟨rfl, rfl, rfl, rfl, trivial⟩ ⟨_, _, _, _, rfl, H, hg_maxl, hg_tabs, hzz, e23⟩ ?_)
   rintro m28 e w ⟨s26, s27, Lc, M, rfl, H, hg_maxl, hg_tabs, hzz, e23⟩
   rcases m28 with _ | m28
   · rw [Y0q] at e23; cases e23
   rw [Y0q] at e23
   refine BL (SQ ?_)
   obtain ⟨n29, hx30, e23⟩ := bnd e23
   refine RG (ST (Ex.load1 H rfl (by repeat first | exact kMh | apply kMt) Tryz.isAgg9 (by rfl)) rfl ?_)
   refine ST (Ex.load1 H rfl (by repeat first | exact kMh | apply kMt) Tryz.isAgg9 (by rfl)) rfl ?_
   refine WR.call H (Y4h hx30) rfl (hg_maxl) (Wn.none rfl) rfl ?_
   intro v31 M w H hle hR
   replace hg_maxl := hg_maxl.mono hle
   replace hg_tabs := hg_tabs.mono hle
   replace hzz := hzz.mono hle
   obtain rfl := hR
   refine AS rfl rfl (NL (TN (SQ (SQ (RG (MV rfl rfl (ST (Ex.lss rfl rfl) rfl (NL (TN ?_)))))))))
   refine WC.condB rfl (fun hk31 => ?_) (fun hk31 => ?_)
   ·
    replace hk31 : n29 < (0 : Int) := of_decide_eq_true hk31
    rw [if_pos hk31] at e23
    refine WC.exit (WQ.thenExit (WQ.exitOut rfl (WQ.thenExit (WQ.exitHere ?_))))
    exact WQ.meetN [(0, _), (2, _)] ⟨rfl, rfl, trivial⟩ ⟨_, _, _, _, rfl, (H.pick (L' := (.blk bp2 (.cells #[S s26] 9) :: .blk bp1 (.cells #[S p1] 9) :: .blk bp3 (.cells #[I p3] 3) :: Lc)) (by repeat (first | refine Pick.cons (by repeat first | exact .head | apply Rem.tail) ?_ | exact Pick.ofSub (by repeat (first | exact List.Sublist.refl _ | apply List.Sublist.cons))))), hg_maxl, hg_tabs, hzz, e23⟩
   ·
    replace hk31 : ¬ (n29 < (0 : Int)) := of_decide_eq_false hk31
    rw [if_neg hk31] at e23
    refine SK (TN (SQ ?_))
    obtain ⟨n32, hxn32, e23⟩ := bnd e23
    obtain ⟨s33, hxs33, e23⟩ := bnd e23
    refine RG (ST (Ex.load1 H rfl (by repeat first | exact kMh | apply kMt) Tryz.isAgg9 (by rfl)) rfl ?_)
    refine MV rfl rfl (ST (Ex.load1 H rfl (by repeat first | exact kMh | apply kMt) Tryz.isAgg3 (by rfl)) rfl ?_)
    refine ST (Ex.addC rfl rfl hxn32) rfl (ST (Ex.sliceH Tryz.underlying9 rfl rfl hxs33) rfl (AS rfl rfl (NL (TN (SQ (SQ ?_))))))
    obtain ⟨⟨s34, b35⟩, hx36, e23⟩ := bnd e23
    try dsimp only at e23
    refine RG (MV rfl rfl (MV rfl rfl (WR.yieldS H (.right (.right (.right (Spl.whole _)))) hY hzz hx36 rfl rfl (Wn.none rfl) rfl ?_)))
    intro w M Lc H hle hzz
    simp only [List.cons_append, List.nil_append] at H
    replace hg_maxl := hg_maxl.mono hle
    replace hg_tabs := hg_tabs.mono hle
    refine ST (Ex.not rfl) rfl (NL (TN ?_))
    refine WC.condB rfl (fun hk37 => ?_) (fun hk37 => ?_)
    ·
     replace hk37 : b35 = false := by simpa using hk37
     subst hk37
     rw [if_neg Bool.false_ne_true] at e23
     refine RT ?_
     obtain rfl := oI e23
     try dsimp only at h
     obtain rfl := oI h
     exact WQ.retZ rfl H (by repeat (first | exact List.Sublist.refl _ | apply List.Sublist.cons)) hzz rfl
    ·
     replace hk37 : b35 = true := by simpa using hk37
     subst hk37
     rw [if_pos rfl] at e23
     refine SK (TN ?_)
     obtain ⟨n38, hxn38, e23⟩ := bnd e23
     obtain ⟨s39, hxs39, e23⟩ := bnd e23
     refine RG (ST (Ex.load1 H rfl (by repeat first | exact kMh | apply kMt) Tryz.isAgg9 (by rfl)) rfl ?_)
     refine MV rfl rfl (ST (Ex.load1 H rfl (by repeat first | exact kMh | apply kMt) Tryz.isAgg9 (by rfl)) rfl ?_)
     refine ST (Ex.lenStr Tryz.underlying9 rfl) rfl (ST (Ex.addC rfl rfl hxn38) rfl (ST (Ex.sliceL Tryz.underlying9 rfl rfl hxs39) rfl (WR.store [_] H rfl rfl rfl (by repeat first | exact .head | apply Upd.tail) Tryz.sizeOf9 rfl (by rfl) (by rfl) (Wn.none rfl) ?_)))
     intro w H
     refine NL (IB ?_)
     exact WQ.againP m28 [(0, _), (1, _), (2, _), (3, _)] ⟨rfl, rfl, rfl, rfl, trivial⟩ ⟨_, _, _, _, rfl, H, hg_maxl, hg_tabs, hzz, e23⟩ (Nat.lt_succ_self _)
  ·
   rintro e w ⟨s24, s25, Lc, M, rfl, H, hg_maxl, hg_tabs, hzz, q40⟩
   obtain rfl := oI q40
   try dsimp only at h
   refine TN ?_
   obtain ⟨⟨s41, b42⟩, hx43, h⟩ := bnd h
   try dsimp only at h
   refine RG (MV rfl rfl (ST (Ex.load1 H rfl (by repeat first | exact kMh | apply kMt) Tryz.isAgg9 (by rfl)) rfl ?_))
   refine WR.yieldS H (.right (.right (.right (Spl.whole _)))) hY hzz hx43 rfl rfl (Wn.none rfl) rfl ?_
   intro w M Lc H hle hzz
   simp only [List.cons_append, List.nil_append] at H
   replace hg_maxl := hg_maxl.mono hle
   replace hg_tabs := hg_tabs.mono hle
   refine NL ?_
   obtain rfl := oI h
   exact WQ.endZ rfl H (by repeat (first | exact List.Sublist.refl _ | apply List.Sublist.cons)) hzz rfl
theorem Y3D {p0 : List UInt8} {p1 : (UInt8 → Option Bool)} {vp1 : Value} {r : Bool} (h : Y2b p0 p1 = some r) : Ct Tryz.prog 68 [S p0, vp1] (fun M => GlF (fun w => ∃ m, w.cell? ⟨2, 0, none⟩ = some (.int .i64 m)) M ∧ Tabs M ∧ FnT90 M vp1 p1) (fun v M => v = Value.bool r) := by
 refine Ct.ofM Tryz.func68 (enters Tryz.func68 (by kernel_rfl) rfl) rfl rfl rfl ?_
 intro w0 M0 H hp
 obtain ⟨hg_maxl, hg_tabs, hp1⟩ := hp
 unfold Y2b at h
 refine SQ (RG (WR.box [_] H rfl hp1.1.1 (Wn.none rfl) rfl ?_))
 intro bk3 w H
 refine WR.alloc [_] H Tryz.zeroValue4 rfl (Wn.none rfl) rfl ?_
 intro bk4 w H
 refine NL (TN (SQ (SQ (RG (MV rfl rfl (WR.callX (A := []) (B := [.blk bk4 (.cells #[Value.bool false] 4), .blk bk3 (.cells #[vp1] 90)]) H Y3d (Spl.all _) rfl trivial (Wn.none rfl) rfl ?_))))))
 intro v7 M w its H hle hR
 replace hg_maxl := hg_maxl.mono hle
 replace hg_tabs := hg_tabs.mono hle
 replace hp1 := hp1.mono hle
 obtain ⟨bk7_0, bk7_1, bk7_2, rfl, rfl⟩ := hR
 simp only [List.cons_append, List.nil_append] at H
 refine NL (TN (BL ?_))
 obtain ⟨o4, e5, h⟩ := bnd h
 refine WC.rangeS (A := [.blk bk7_0 (.cells #[S [46]] 9), .blk bk7_1 (.cells #[S p0] 9), .blk bk7_2 (.cells #[I 0] 3)]) (L := [.blk bk3 (.cells #[vp1] 90), .blk bk4 (.cells #[Value.bool false] 4)]) (B := []) (H.pick (L' := [.blk bk7_0 (.cells #[S [46]] 9), .blk bk7_1 (.cells #[S p0] 9), .blk bk7_2 (.cells #[I 0] 3), .blk bk3 (.cells #[vp1] 90), .blk bk4 (.cells #[Value.bool false] 4)]) (by repeat first | exact kPn | refine kPc (by repeat first | exact .head | apply Rem.tail) ?_)) rfl Y2V (.left (.left (.left (.left (.left (Spl.all _)))))) ⟨hg_maxl, hg_tabs⟩ rfl (fun s L M => ∃ (b1 : Bool) (tg3 : Nat), s = (b1, tg3) ∧ L = [.blk bk3 (.cells #[vp1] 90), .blk bk4 (.cells #[Value.bool b1] 4)] ∧ GlF (fun w => ∃ m, w.cell? ⟨2, 0, none⟩ = some (.int .i64 m)) M ∧ Tabs M ∧ FnT90 M vp1 p1) (fun s => exE [.ret] s.2) exStop (fun s => exE_stop _ s) (Y1w p1) (false, 0) o4 e5 (by rintro s L M M' ⟨b1, tg3, rfl, rfl, hg_maxl, hg_tabs, hp1⟩ hle; exact ⟨_, _, rfl, rfl, hg_maxl.mono hle, hg_tabs.mono hle, hp1.mono hle⟩) rfl ⟨_, _, rfl, rfl, hg_maxl, hg_tabs, hp1⟩ ?_ ?_ ?_
 ·
  rintro lid2 rc2 hrc2 s x6 sx2 L wb2 Mb2 hE e7 ⟨b1, tg3, rfl, rfl, hg_maxl, hg_tabs, hp1⟩ H
  unfold Y1w at e7
  try dsimp only at e7
  refine RG (AS rfl rfl (NL (WQ.begin hrc2 H (by repeat first | exact .head | apply Upd.tail) ?_)))
  intro w H
  refine BL (SQ ?_)
  obtain ⟨o8, e9, e7⟩ := bnd e7
  refine WC.cutX (fun e w => ∃ (b10 : Bool) (M : Mem), e = [(3, ptr bk3 0), (4, ptr bk4 0), (16, Value.bool b10)] ∧ StX (feet (.blk lid2 (.loop (rc2 .ready none)) :: [.blk bk3 (.cells #[vp1] 90), .blk bk4 (.cells #[Value.bool b1] 4)])) wb2 Mb2 M [.blk bk3 (.cells #[vp1] 90), .blk bk4 (.cells #[Value.bool b1] 4), .blk lid2 (.loop (rc2 .busy none))] w ∧ GlF (fun w => ∃ m, w.cell? ⟨2, 0, none⟩ = some (.int .i64 m)) M ∧ Tabs M ∧ FnT90 M vp1 p1 ∧ some b10 = some o8) [] ?_ ?_ (trivial)
  ·
   by_cases hk11 : x6 = []
   ·
    rw [if_pos hk11] at e9
    refine RG (MV rfl rfl (WR.stepE (v' := .bool true) (Ex.strEql rfl rfl) (congrArg Value.bool (decide_eq_true hk11)) (Wn.none rfl) rfl rfl (MV rfl rfl (WR.skipN 4 rfl rfl (PT rfl rfl rfl (NL ?_))))))
    exact WQ.meetN [(3, _), (4, _), (16, _)] ⟨rfl, rfl, rfl, trivial⟩ ⟨_, _, rfl, (H.pick (L' := [.blk bk3 (.cells #[vp1] 90), .blk bk4 (.cells #[Value.bool b1] 4), .blk lid2 (.loop (rc2 .busy none))]) (by repeat first | exact kPn | refine kPc (by repeat first | exact .head | apply Rem.tail) ?_)), hg_maxl, hg_tabs, hp1, e9⟩
   ·
    rw [if_neg hk11] at e9
    obtain ⟨b12, hx13, e9⟩ := bnd e9
    refine RG (MV rfl rfl (WR.stepE (v' := .bool false) (Ex.strEql rfl rfl) (congrArg Value.bool (decide_eq_false hk11)) (Wn.none rfl) rfl rfl (MV rfl rfl (SG (Ex.move rfl) rfl rfl rfl (SG (Ex.load1 H rfl (by repeat first | exact kMh | apply kMt) Tryz.isAgg90 (by rfl)) rfl rfl rfl ?_)))))
    refine WR.call H (Y3M hx13) rfl (hp1) (Wn.some rfl rfl rfl) rfl ?_
    intro v14 M w H hle hR
    replace hg_maxl := hg_maxl.mono hle
    replace hg_tabs := hg_tabs.mono hle
    replace hp1 := hp1.mono hle
    obtain rfl := hR
    refine SG (Ex.not rfl) rfl rfl rfl (PF rfl rfl rfl (NL ?_))
    exact WQ.meetN [(3, _), (4, _), (16, _)] ⟨rfl, rfl, rfl, trivial⟩ ⟨_, _, rfl, (H.pick (L' := [.blk bk3 (.cells #[vp1] 90), .blk bk4 (.cells #[Value.bool b1] 4), .blk lid2 (.loop (rc2 .busy none))]) (by repeat first | exact kPn | refine kPc (by repeat first | exact .head | apply Rem.tail) ?_)), hg_maxl, hg_tabs, hp1, e9⟩
  ·
   rintro e w ⟨b10, M, rfl, H, hg_maxl, hg_tabs, hp1, q14⟩
   obtain rfl := oI q14
   refine TN ?_
   refine WC.condB rfl (fun hk15 => ?_) (fun hk15 => ?_)
   ·
    subst hk15
    rw [if_pos rfl] at e7
    refine SQ (RG (WR.store [_] H rfl rfl rfl (by repeat first | exact .head | apply Upd.tail) Tryz.sizeOf4 rfl (by rfl) (by rfl) (Wn.none rfl) ?_))
    intro w H
    refine NL (TN (RT ?_))
    obtain rfl := oI e7
    exact WQ.rsRet hrc2 (H.pick (L' := [.blk lid2 (.loop (rc2 .busy none)), .blk bk3 (.cells #[vp1] 90), .blk bk4 (.cells #[Value.bool false] 4)]) (by repeat first | exact kPn | refine kPc (by repeat first | exact .head | apply Rem.tail) ?_)) rfl ⟨_, _, rfl, rfl, hg_maxl, hg_tabs, hp1⟩
   ·
    subst hk15
    rw [if_neg Bool.false_ne_true] at e7
    refine SK (IB ?_)
    obtain rfl := oI e7
    exact WQ.rsOn hrc2 (H.pick (L' := [.blk lid2 (.loop (rc2 .busy none)), .blk bk3 (.cells #[vp1] 90), .blk bk4 (.cells #[Value.bool b1] 4)]) (by repeat first | exact kPn | refine kPc (by repeat first | exact .head | apply Rem.tail) ?_)) rfl ⟨_, _, rfl, rfl, hg_maxl, hg_tabs, hp1⟩
 ·
  rintro Dm2 w M L H hle hE ⟨b1, tg3, rfl, rfl, hg_maxl, hg_tabs, hp1⟩
  simp only [List.cons_append, List.nil_append, List.append_nil] at H
  try dsimp only at h
  obtain rfl := exE_none hE
  rw [if_pos rfl] at h
  refine IB (TN (SQ (RG (WR.store [_] H rfl rfl rfl (by repeat first | exact .head | apply Upd.tail) Tryz.sizeOf4 rfl (by rfl) (by rfl) (Wn.none rfl) ?_))))
  intro w H
  refine NL (TN (RT ?_))
  obtain rfl := oI h
  exact WQ.nret1 rfl H (by repeat first | exact .head | apply Rem.tail) (fun w H => ⟨_, rfl, H.load1 (by repeat first | exact kMh | apply kMt) Tryz.isAgg4 (by rfl)⟩) rfl
 ·
  rintro Dm2 w M L c H hle hE ⟨b1, tg3, rfl, rfl, hg_maxl, hg_tabs, hp1⟩
  simp only [List.cons_append, List.nil_append, List.append_nil] at H
  try dsimp only at h
  by_cases kt2 : tg3 = 1
  ·
   subst kt2
   obtain rfl := oI hE
   rw [if_neg (by decide), if_pos rfl] at h
   refine RT ?_
   obtain rfl := oI h
   exact WQ.nret1 rfl H (by repeat first | exact .head | apply Rem.tail) (fun w H => ⟨_, rfl, H.load1 (by repeat first | exact kMh | apply kMt) Tryz.isAgg4 (by rfl)⟩) rfl
  ·
   have kn2_1 := kt2
   rw [if_neg (exE_ne hE), if_neg kn2_1] at h; cases h
theorem Y3N {p0 : UInt8} {r : Bool} (h : Y1z p0 = some r) : Ct Tryz.prog 70 [encB p0] (fun M => True) (fun v M => v = Value.bool r) := by
 refine Ct.of Tryz.func70 (enters Tryz.func70 (by kernel_rfl) rfl) rfl rfl rfl ?_
 intro w0 M0 H hp
 unfold Y1z at h
 refine SQ (RG (AS rfl rfl (NL (TN (SQ ?_)))))
 obtain ⟨o1, e2, h⟩ := bnd h
 refine WC.cutX (fun e w => ∃ (b3 : Bool) (M : Mem), e = [(2, Value.bool b3)] ∧ St w0 M0 M [] w ∧ some b3 = some o1) [] ?_ ?_ (trivial)
 ·
  by_cases hk4 : 97 ≤ p0.toNat
  ·
   rw [if_pos hk4] at e2
   refine RG (MV rfl rfl (WR.stepE (v' := .bool true) (Ex.geqB (i := p0.toNat) (j := 97) rfl rfl) (congrArg Value.bool (decide_eq_true hk4)) (Wn.none rfl) rfl rfl ?_))
   by_cases hk5 : p0.toNat ≤ 122
   ·
    rw [if_pos hk5] at e2
    refine MV rfl rfl (SG (Ex.move rfl) rfl rfl rfl (WR.stepE (v' := .bool true) (Ex.leqB (i := p0.toNat) (j := 122) rfl rfl) (congrArg Value.bool (decide_eq_true hk5)) (Wn.some rfl rfl rfl) rfl rfl (PT rfl rfl rfl (MV rfl rfl (WR.skipN 6 rfl rfl (PT rfl rfl rfl (MV rfl rfl (WR.skipN 6 rfl rfl (PT rfl rfl rfl (AS rfl rfl (NL ?_)))))))))))
    exact WQ.meetN [(2, _)] ⟨rfl, trivial⟩ ⟨_, _, rfl, H, e2⟩
   ·
    rw [if_neg hk5] at e2
    by_cases hk6 : 65 ≤ p0.toNat
    ·
     rw [if_pos hk6] at e2
     by_cases hk7 : p0.toNat ≤ 90
     ·
      rw [if_pos hk7] at e2
      refine MV rfl rfl (SG (Ex.move rfl) rfl rfl rfl (WR.stepE (v' := .bool false) (Ex.leqB (i := p0.toNat) (j := 122) rfl rfl) (congrArg Value.bool (decide_eq_false hk5)) (Wn.some rfl rfl rfl) rfl rfl (PT rfl rfl rfl (MV rfl rfl (SG (Ex.move rfl) rfl rfl rfl (WR.stepE (v' := .bool true) (Ex.geqB (i := p0.toNat) (j := 65) rfl rfl) (congrArg Value.bool (decide_eq_true hk6)) (Wn.some rfl rfl rfl) rfl rfl (SG (Ex.move rfl) rfl rfl rfl (SG (Ex.move rfl) rfl rfl rfl (WR.stepE (v' := .bool true) (Ex.leqB (i := p0.toNat) (j := 90) rfl rfl) (congrArg Value.bool (decide_eq_true hk7)) (Wn.some rfl rfl rfl) rfl rfl (SG (Ex.pickT rfl rfl) rfl rfl rfl (PF rfl rfl rfl (MV rfl rfl (WR.skipN 6 rfl rfl (PT rfl rfl rfl (AS rfl rfl (NL ?_))))))))))))))))
      exact WQ.meetN [(2, _)] ⟨rfl, trivial⟩ ⟨_, _, rfl, H, e2⟩
     ·
      rw [if_neg hk7] at e2
      by_cases hk8 : 48 ≤ p0.toNat
      ·
       rw [if_pos hk8] at e2
       refine MV rfl rfl (SG (Ex.move rfl) rfl rfl rfl (WR.stepE (v' := .bool false) (Ex.leqB (i := p0.toNat) (j := 122) rfl rfl) (congrArg Value.bool (decide_eq_false hk5)) (Wn.some rfl rfl rfl) rfl rfl (PT rfl rfl rfl (MV rfl rfl (SG (Ex.move rfl) rfl rfl rfl (WR.stepE (v' := .bool true) (Ex.geqB (i := p0.toNat) (j := 65) rfl rfl) (congrArg Value.bool (decide_eq_true hk6)) (Wn.some rfl rfl rfl) rfl rfl (SG (Ex.move rfl) rfl rfl rfl (SG (Ex.move rfl) rfl rfl rfl (WR.stepE (v' := .bool false) (Ex.leqB (i := p0.toNat) (j := 90) rfl rfl) (congrArg Value.bool (decide_eq_false hk7)) (Wn.some rfl rfl rfl) rfl rfl (SG (Ex.pickT rfl rfl) rfl rfl rfl (PF rfl rfl rfl (MV rfl rfl (SG (Ex.move rfl) rfl rfl rfl (WR.stepE (v' := .bool true) (Ex.geqB (i := p0.toNat) (j := 48) rfl rfl) (congrArg Value.bool (decide_eq_true hk8)) (Wn.some rfl rfl rfl) rfl rfl (SG (Ex.move rfl) rfl rfl rfl (SG (Ex.move rfl) rfl rfl rfl ?_))))))))))))))))
       refine SG (Ex.leqB (i := p0.toNat) (j := 57) rfl rfl) rfl rfl rfl (SG (Ex.pickT rfl rfl) rfl rfl rfl (PF rfl rfl rfl (AS rfl rfl (NL ?_))))
       exact WQ.meetN [(2, _)] ⟨rfl, trivial⟩ ⟨_, _, rfl, H, e2⟩
      ·
       rw [if_neg hk8] at e2
       refine MV rfl rfl (SG (Ex.move rfl) rfl rfl rfl (WR.stepE (v' := .bool false) (Ex.leqB (i := p0.toNat) (j := 122) rfl rfl) (congrArg Value.bool (decide_eq_false hk5)) (Wn.some rfl rfl rfl) rfl rfl (PT rfl rfl rfl (MV rfl rfl (SG (Ex.move rfl) rfl rfl rfl (WR.stepE (v' := .bool true) (Ex.geqB (i := p0.toNat) (j := 65) rfl rfl) (congrArg Value.bool (decide_eq_true hk6)) (Wn.some rfl rfl rfl) rfl rfl (SG (Ex.move rfl) rfl rfl rfl (SG (Ex.move rfl) rfl rfl rfl (WR.stepE (v' := .bool false) (Ex.leqB (i := p0.toNat) (j := 90) rfl rfl) (congrArg Value.bool (decide_eq_false hk7)) (Wn.some rfl rfl rfl) rfl rfl (SG (Ex.pickT rfl rfl) rfl rfl rfl (PF rfl rfl rfl (MV rfl rfl (SG (Ex.move rfl) rfl rfl rfl (WR.stepE (v' := .bool false) (Ex.geqB (i := p0.toNat) (j := 48) rfl rfl) (congrArg Value.bool (decide_eq_false hk8)) (Wn.some rfl rfl rfl) rfl rfl (SG (Ex.move rfl) rfl rfl rfl (GF rfl rfl rfl ?_))))))))))))))))
       refine GF rfl rfl rfl (SG (Ex.pickF rfl rfl) rfl rfl rfl (PF rfl rfl rfl (AS rfl rfl (NL ?_))))
       exact WQ.meetN [(2, _)] ⟨rfl, trivial⟩ ⟨_, _, rfl, H, e2⟩
    ·
     rw [if_neg hk6] at e2
     by_cases hk9 : 48 ≤ p0.toNat
     ·
      rw [if_pos hk9] at e2
      refine MV rfl rfl (SG (Ex.move rfl) rfl rfl rfl (WR.stepE (v' := .bool false) (Ex.leqB (i := p0.toNat) (j := 122) rfl rfl) (congrArg Value.bool (decide_eq_false hk5)) (Wn.some rfl rfl rfl) rfl rfl (PT rfl rfl rfl (MV rfl rfl (SG (Ex.move rfl) rfl rfl rfl (WR.stepE (v' := .bool false) (Ex.geqB (i := p0.toNat) (j := 65) rfl rfl) (congrArg Value.bool (decide_eq_false hk6)) (Wn.some rfl rfl rfl) rfl rfl (SG (Ex.move rfl) rfl rfl rfl (GF rfl rfl rfl (GF rfl rfl rfl (SG (Ex.pickF rfl rfl) rfl rfl rfl (PF rfl rfl rfl (MV rfl rfl (SG (Ex.move rfl) rfl rfl rfl (WR.stepE (v' := .bool true) (Ex.geqB (i := p0.toNat) (j := 48) rfl rfl) (congrArg Value.bool (decide_eq_true hk9)) (Wn.some rfl rfl rfl) rfl rfl (SG (Ex.move rfl) rfl rfl rfl (SG (Ex.move rfl) rfl rfl rfl (SG (Ex.leqB (i := p0.toNat) (j := 57) rfl rfl) rfl rfl rfl (SG (Ex.pickT rfl rfl) rfl rfl rfl (PF rfl rfl rfl (AS rfl rfl (NL ?_)))))))))))))))))))))
      exact WQ.meetN [(2, _)] ⟨rfl, trivial⟩ ⟨_, _, rfl, H, e2⟩
     ·
      rw [if_neg hk9] at e2
      refine MV rfl rfl (SG (Ex.move rfl) rfl rfl rfl (WR.stepE (v' := .bool false) (Ex.leqB (i := p0.toNat) (j := 122) rfl rfl) (congrArg Value.bool (decide_eq_false hk5)) (Wn.some rfl rfl rfl) rfl rfl (PT rfl rfl rfl (MV rfl rfl (SG (Ex.move rfl) rfl rfl rfl (WR.stepE (v' := .bool false) (Ex.geqB (i := p0.toNat) (j := 65) rfl rfl) (congrArg Value.bool (decide_eq_false hk6)) (Wn.some rfl rfl rfl) rfl rfl (SG (Ex.move rfl) rfl rfl rfl (GF rfl rfl rfl (GF rfl rfl rfl (SG (Ex.pickF rfl rfl) rfl rfl rfl (PF rfl rfl rfl (MV rfl rfl (SG (Ex.move rfl) rfl rfl rfl (WR.stepE (v' := .bool false) (Ex.geqB (i := p0.toNat) (j := 48) rfl rfl) (congrArg Value.bool (decide_eq_false hk9)) (Wn.some rfl rfl rfl) rfl rfl (SG (Ex.move rfl) rfl rfl rfl (GF rfl rfl rfl (GF rfl rfl rfl (SG (Ex.pickF rfl rfl) rfl rfl rfl (PF rfl rfl rfl (AS rfl rfl (NL ?_)))))))))))))))))))))
      exact WQ.meetN [(2, _)] ⟨rfl, trivial⟩ ⟨_, _, rfl, H, e2⟩
  ·
   rw [if_neg hk4] at e2
   refine RG (MV rfl rfl (WR.stepE (v' := .bool false) (Ex.geqB (i := p0.toNat) (j := 97) rfl rfl) (congrArg Value.bool (decide_eq_false hk4)) (Wn.none rfl) rfl rfl ?_))
   by_cases hk10 : 65 ≤ p0.toNat
   ·
    rw [if_pos hk10] at e2
    by_cases hk11 : p0.toNat ≤ 90
    ·
     rw [if_pos hk11] at e2
     refine MV rfl rfl (GF rfl rfl rfl (GF rfl rfl rfl (PF rfl rfl rfl (MV rfl rfl (SG (Ex.move rfl) rfl rfl rfl (WR.stepE (v' := .bool true) (Ex.geqB (i := p0.toNat) (j := 65) rfl rfl) (congrArg Value.bool (decide_eq_true hk10)) (Wn.some rfl rfl rfl) rfl rfl (SG (Ex.move rfl) rfl rfl rfl (SG (Ex.move rfl) rfl rfl rfl (WR.stepE (v' := .bool true) (Ex.leqB (i := p0.toNat) (j := 90) rfl rfl) (congrArg Value.bool (decide_eq_true hk11)) (Wn.some rfl rfl rfl) rfl rfl (SG (Ex.pickT rfl rfl) rfl rfl rfl (PF rfl rfl rfl (MV rfl rfl (WR.skipN 6 rfl rfl (PT rfl rfl rfl (AS rfl rfl (NL ?_))))))))))))))))
     exact WQ.meetN [(2, _)] ⟨rfl, trivial⟩ ⟨_, _, rfl, H, e2⟩
    ·
     rw [if_neg hk11] at e2
     by_cases hk12 : 48 ≤ p0.toNat
     ·
      rw [if_pos hk12] at e2
      refine MV rfl rfl (GF rfl rfl rfl (GF rfl rfl rfl (PF rfl rfl rfl (MV rfl rfl (SG (Ex.move rfl) rfl rfl rfl (WR.stepE (v' := .bool true) (Ex.geqB (i := p0.toNat) (j := 65) rfl rfl) (congrArg Value.bool (decide_eq_true hk10)) (Wn.some rfl rfl rfl) rfl rfl (SG (Ex.move rfl) rfl rfl rfl (SG (Ex.move rfl) rfl rfl rfl (WR.stepE (v' := .bool false) (Ex.leqB (i := p0.toNat) (j := 90) rfl rfl) (congrArg Value.bool (decide_eq_false hk11)) (Wn.some rfl rfl rfl) rfl rfl (SG (Ex.pickT rfl rfl) rfl rfl rfl (PF rfl rfl rfl (MV rfl rfl (SG (Ex.move rfl) rfl rfl rfl (WR.stepE (v' := .bool true) (Ex.geqB (i := p0.toNat) (j := 48) rfl rfl) (congrArg Value.bool (decide_eq_true hk12)) (Wn.some rfl rfl rfl) rfl rfl (SG (Ex.move rfl) rfl rfl rfl (SG (Ex.move rfl) rfl rfl rfl (SG (Ex.leqB (i := p0.toNat) (j := 57) rfl rfl) rfl rfl rfl (SG (Ex.pickT rfl rfl) rfl rfl rfl (PF rfl rfl rfl (AS rfl rfl (NL ?_)))))))))))))))))))))
      exact WQ.meetN [(2, _)] ⟨rfl, trivial⟩ ⟨_, _, rfl, H, e2⟩
     ·
      rw [if_neg hk12] at e2
      refine MV rfl rfl (GF rfl rfl rfl (GF rfl rfl rfl (PF rfl rfl rfl (MV rfl rfl (SG (Ex.move rfl) rfl rfl rfl (WR.stepE (v' := .bool true) (Ex.geqB (i := p0.toNat) (j := 65) rfl rfl) (congrArg Value.bool (decide_eq_true hk10)) (Wn.some rfl rfl rfl) rfl rfl (SG (Ex.move rfl) rfl rfl rfl (SG (Ex.move rfl) rfl rfl rfl (WR.stepE (v' := .bool false) (Ex.leqB (i := p0.toNat) (j := 90) rfl rfl) (congrArg Value.bool (decide_eq_false hk11)) (Wn.some rfl rfl rfl) rfl rfl (SG (Ex.pickT rfl rfl) rfl rfl rfl (PF rfl rfl rfl (MV rfl rfl (SG (Ex.move rfl) rfl rfl rfl (WR.stepE (v' := .bool false) (Ex.geqB (i := p0.toNat) (j := 48) rfl rfl) (congrArg Value.bool (decide_eq_false hk12)) (Wn.some rfl rfl rfl) rfl rfl (SG (Ex.move rfl) rfl rfl rfl (GF rfl rfl rfl (GF rfl rfl rfl (SG (Ex.pickF rfl rfl) rfl rfl rfl (PF rfl rfl rfl (AS rfl rfl (NL ?_)))))))))))))))))))))
      exact WQ.meetN [(2, _)] ⟨rfl, trivial⟩ ⟨_, _, rfl, H, e2⟩
   ·
    rw [if_neg hk10] at e2
    by_cases hk13 : 48 ≤ p0.toNat
    ·
     rw [if_pos hk13] at e2
     refine MV rfl rfl (GF rfl rfl rfl (GF rfl rfl rfl (PF rfl rfl rfl (MV rfl rfl (SG (Ex.move rfl) rfl rfl rfl (WR.stepE (v' := .bool false) (Ex.geqB (i := p0.toNat) (j := 65) rfl rfl) (congrArg Value.bool (decide_eq_false hk10)) (Wn.some rfl rfl rfl) rfl rfl (SG (Ex.move rfl) rfl rfl rfl (GF rfl rfl rfl (GF rfl rfl rfl (SG (Ex.pickF rfl rfl) rfl rfl rfl (PF rfl rfl rfl (MV rfl rfl (SG (Ex.move rfl) rfl rfl rfl (WR.stepE (v' := .bool true) (Ex.geqB (i := p0.toNat) (j := 48) rfl rfl) (congrArg Value.bool (decide_eq_true hk13)) (Wn.some rfl rfl rfl) rfl rfl (SG (Ex.move rfl) rfl rfl rfl (SG (Ex.move rfl) rfl rfl rfl (SG (Ex.leqB (i := p0.toNat) (j := 57) rfl rfl) rfl rfl rfl (SG (Ex.pickT rfl rfl) rfl rfl rfl (PF rfl rfl rfl (AS rfl rfl (NL ?_)))))))))))))))))))))
     exact WQ.meetN [(2, _)] ⟨rfl, trivial⟩ ⟨_, _, rfl, H, e2⟩
    ·
     rw [if_neg hk13] at e2
     refine MV rfl rfl (GF rfl rfl rfl (GF rfl rfl rfl (PF rfl rfl rfl (MV rfl rfl (SG (Ex.move rfl) rfl rfl rfl (WR.stepE (v' := .bool false) (Ex.geqB (i := p0.toNat) (j := 65) rfl rfl) (congrArg Value.bool (decide_eq_false hk10)) (Wn.some rfl rfl rfl) rfl rfl (SG (Ex.move rfl) rfl rfl rfl (GF rfl rfl rfl (GF rfl rfl rfl (SG (Ex.pickF rfl rfl) rfl rfl rfl (PF rfl rfl rfl (MV rfl rfl (SG (Ex.move rfl) rfl rfl rfl (WR.stepE (v' := .bool false) (Ex.geqB (i := p0.toNat) (j := 48) rfl rfl) (congrArg Value.bool (decide_eq_false hk13)) (Wn.some rfl rfl rfl) rfl rfl (SG (Ex.move rfl) rfl rfl rfl (GF rfl rfl rfl (GF rfl rfl rfl (SG (Ex.pickF rfl rfl) rfl rfl rfl (PF rfl rfl rfl (AS rfl rfl (NL ?_)))))))))))))))))))))
     exact WQ.meetN [(2, _)] ⟨rfl, trivial⟩ ⟨_, _, rfl, H, e2⟩
 ·
  rintro e w ⟨b3, M, rfl, H, q14⟩
  obtain rfl := oI q14
  refine TN (RT ?_)
  obtain rfl := oI h
  exact WQ.ret1 rfl rfl H.ext rfl
theorem Y41 {p0 : UInt8} {r : Bool} (h : Y1U p0 = some r) : Ct Tryz.prog 69 [encB p0] (fun M => True) (fun v M => v = Value.bool r) := by
 refine Ct.of Tryz.func69 (enters Tryz.func69 (by kernel_rfl) rfl) rfl rfl rfl ?_
 intro w0 M0 H hp
 unfold Y1U at h
 refine SQ (RG (AS rfl rfl (NL (TN (SQ ?_)))))
 obtain ⟨o1, e2, h⟩ := bnd h
 refine WC.cutX (fun e w => ∃ (b3 : Bool) (M : Mem), e = [(2, Value.bool b3)] ∧ St w0 M0 M [] w ∧ some b3 = some o1) [] ?_ ?_ (trivial)
 ·
  obtain ⟨b4, hx5, e2⟩ := bnd e2
  refine RG (MV rfl rfl (WR.call H (Y3N hx5) rfl trivial (Wn.none rfl) rfl ?_))
  intro v4 M w H hle hR
  obtain rfl := hR
  refine MV rfl rfl ?_
  rcases b4 with _ | _
  ·
   rw [if_neg Bool.false_ne_true] at e2
   refine SG (Ex.move rfl) rfl rfl rfl (SG (Ex.eqlB (c := p0) (d := 45) rfl rfl) rfl rfl rfl (PF rfl rfl rfl (AS rfl rfl (NL ?_))))
   exact WQ.meetN [(2, _)] ⟨rfl, trivial⟩ ⟨_, _, rfl, H, e2⟩
  ·
   rw [if_pos rfl] at e2
   refine GT rfl rfl rfl (GT rfl rfl rfl (PT rfl rfl rfl (AS rfl rfl (NL ?_))))
   exact WQ.meetN [(2, _)] ⟨rfl, trivial⟩ ⟨_, _, rfl, H, e2⟩
 ·
  rintro e w ⟨b3, M, rfl, H, q6⟩
  obtain rfl := oI q6
  refine TN (RT ?_)
  obtain rfl := oI h
  exact WQ.ret1 rfl rfl H.ext rfl
theorem Y3u {p0 : List UInt8} {r : Bool} (h : Y21 p0 = some r) : Ct Tryz.prog 32 [S p0] (fun M => GlF (fun w => ∃ m, w.cell? ⟨2, 0, none⟩ = some (.int .i64 m)) M ∧ Tabs M) (fun v M => v = Value.bool r) := by
 refine Ct.of Tryz.func32 (enters Tryz.func32 (by kernel_rfl) rfl) rfl rfl rfl ?_
 intro w0 M0 H hp
 obtain ⟨hg_maxl, hg_tabs⟩ := hp
 unfold Y21 at h
 refine SQ (RG (AS rfl rfl (NL (TN (SQ ?_)))))
 obtain ⟨o1, e2, h⟩ := bnd h
 refine WC.cutX (fun e w => ∃ (b3 : Bool) (M : Mem), e = [(2, Value.bool b3)] ∧ St w0 M0 M [] w ∧ GlF (fun w => ∃ m, w.cell? ⟨2, 0, none⟩ = some (.int .i64 m)) M ∧ Tabs M ∧ some b3 = some o1) [] ?_ ?_ (trivial)
 ·
  refine RG (MV rfl rfl (ST (Ex.lenStr Tryz.underlying9 rfl) rfl ?_))
  by_cases hk4 : (p0.length : Int) ≤ (60 : Int)
  ·
   rw [if_pos hk4] at e2
   obtain ⟨b5, hx6, e2⟩ := bnd e2
   refine WR.stepE (v' := .bool true) (Ex.leq rfl rfl) (congrArg Value.bool (decide_eq_true hk4)) (Wn.none rfl) rfl rfl (MV rfl rfl (SG (Ex.move rfl) rfl rfl rfl (WR.call H (Y3D hx6) rfl ⟨hg_maxl, hg_tabs, (⟨⟨rfl, rfl⟩, (fun _ _ h => FnV.of (Y41 h) (fun _ _ => trivial))⟩ : FnT90 _ _ _)⟩ (Wn.some rfl rfl rfl) rfl ?_)))
   intro v8 M w H hle hR
   replace hg_maxl := hg_maxl.mono hle
   replace hg_tabs := hg_tabs.mono hle
   obtain rfl := hR
   refine PT rfl rfl rfl (AS rfl rfl (NL ?_))
   exact WQ.meetN [(2, _)] ⟨rfl, trivial⟩ ⟨_, _, rfl, H, hg_maxl, hg_tabs, e2⟩
  ·
   rw [if_neg hk4] at e2
   refine WR.stepE (v' := .bool false) (Ex.leq rfl rfl) (congrArg Value.bool (decide_eq_false hk4)) (Wn.none rfl) rfl rfl (MV rfl rfl (GF rfl rfl rfl (GF rfl rfl rfl (PF rfl rfl rfl (AS rfl rfl (NL ?_))))))
   exact WQ.meetN [(2, _)] ⟨rfl, trivial⟩ ⟨_, _, rfl, H, hg_maxl, hg_tabs, e2⟩
 ·
  rintro e w ⟨b3, M, rfl, H, hg_maxl, hg_tabs, q7⟩
  obtain rfl := oI q7
  refine TN (RT ?_)
  obtain rfl := oI h
  exact WQ.ret1 rfl rfl H.ext rfl
theorem Y1m  {r : (Int × Int)} (h : Y0z = some r) : Ct Tryz.prog 33 [] (fun M => True) (fun v M => v = Value.agg #[I r.1, I r.2]) := by
 refine Ct.of Tryz.func33 (enters Tryz.func33 (by kernel_rfl) rfl) rfl rfl rfl ?_
 intro w0 M0 H hp
 unfold Y0z at h
 refine SQ (RG (WR.alloc [_, _] H Tryz.zeroValue27 rfl (Wn.none rfl) rfl ?_))
 intro bk0 w H
 refine NL (TN (SQ (RG (ST (Ex.build [I 0, I 0] Tryz.underlying27 Tryz.zeroValue27 (xplaces27 Tryz.underlying27) rfl rfl) rfl (WR.store [_, _] H rfl rfl rfl (by repeat first | exact .head | apply Upd.tail) Tryz.sizeOf27 rfl (by rfl) (by rfl) (Wn.none rfl) ?_)))))
 intro w H
 refine NL (TN (RT ?_))
 obtain rfl := oI h
 exact WQ.ret1 rfl ⟨_, rfl, H.loadAgg (by repeat first | exact kMh | apply kMt) Tryz.isAgg27 Tryz.sizeOf27 (by rfl)⟩ H.ext rfl
theorem Y16 {p0 : (List UInt8 × List UInt8 × List UInt8)} {r : (Int × Int)} (h : Y1h p0 = some r) : Ct Tryz.prog 10 [Value.agg #[S p0.1, S p0.2.1, S p0.2.2]] (fun M => GlF (fun w => ∃ m, w.cell? ⟨2, 0, none⟩ = some (.int .i64 m)) M ∧ Tabs M) (fun v M => v = Value.agg #[I r.1, I r.2]) := by
 refine Ct.of Tryz.func10 (enters Tryz.func10 (by kernel_rfl) rfl) rfl rfl rfl ?_
 intro w0 M0 H hp
 obtain ⟨hg_maxl, hg_tabs⟩ := hp
 unfold Y1h at h
 refine SQ (RG (WR.box [_, _, _] H rfl rfl (Wn.none rfl) rfl ?_))
 intro bk1 w H
 refine WR.alloc [_, _] H Tryz.zeroValue27 rfl (Wn.none rfl) rfl ?_
 intro bk2 w H
 refine NL (TN (SQ (SQ ?_)))
 obtain ⟨n1, hx2, h⟩ := bnd h
 refine RG (ST (Ex.fieldAddr Tryz.underlying24 rfl Tryz.sizeOf9 (by decide) rfl) rfl (ST (Ex.load1 H rfl (by repeat first | exact kMh | apply kMt) Tryz.isAgg9 (by rfl)) rfl ?_))
 refine WR.call H (Y3g hx2) rfl (hg_tabs) (Wn.none rfl) rfl ?_
 intro v6 M w H hle hR
 replace hg_maxl := hg_maxl.mono hle
 replace hg_tabs := hg_tabs.mono hle
 obtain rfl := hR
 refine AS rfl rfl (NL (TN (SQ (RG (MV rfl rfl (ST (Ex.neqC rfl rfl) rfl (NL (TN ?_))))))))
 refine WC.condB rfl (fun hk3 => ?_) (fun hk3 => ?_)
 ·
  replace hk3 : ¬ (n1 = (0 : Int)) := of_not_decide hk3
  rw [if_neg hk3] at h
  refine SQ ?_
  obtain ⟨⟨n4, n5⟩, hx6, h⟩ := bnd h
  try dsimp only at h
  refine RG (MV rfl rfl (WR.call H (Y0D hx6) rfl trivial (Wn.none rfl) rfl ?_))
  intro v10 M w H hle hR
  replace hg_maxl := hg_maxl.mono hle
  replace hg_tabs := hg_tabs.mono hle
  try dsimp only at hR
  obtain rfl := hR
  refine WR.store [_, _] H rfl rfl rfl (by repeat first | exact .head | apply Upd.tail) Tryz.sizeOf27 rfl (by rfl) (by rfl) (Wn.none rfl) ?_
  intro w H
  refine NL (TN (RT ?_))
  obtain rfl := oI h
  exact WQ.ret1 rfl ⟨_, rfl, H.loadAgg (by repeat first | exact kMh | apply kMt) Tryz.isAgg27 Tryz.sizeOf27 (by rfl)⟩ H.ext rfl
 ·
  replace hk3 : n1 = (0 : Int) := of_not_decide' hk3
  rw [if_pos hk3] at h
  refine SK (TN (SQ (SQ ?_)))
  obtain ⟨b7, hx8, h⟩ := bnd h
  refine RG (ST (Ex.fieldAddr Tryz.underlying24 rfl Tryz.sizeOf9 (by decide) rfl) rfl (ST (Ex.load1 H rfl (by repeat first | exact kMh | apply kMt) Tryz.isAgg9 (by rfl)) rfl ?_))
  refine WR.call H (Y2m hx8) rfl trivial (Wn.none rfl) rfl ?_
  intro v13 M w H hle hR
  replace hg_maxl := hg_maxl.mono hle
  replace hg_tabs := hg_tabs.mono hle
  obtain rfl := hR
  refine ST (Ex.not rfl) rfl (NL (TN ?_))
  refine WC.condB rfl (fun hk9 => ?_) (fun hk9 => ?_)
  ·
   replace hk9 : b7 = false := by simpa using hk9
   subst hk9
   rw [if_neg Bool.false_ne_true] at h
   refine SQ ?_
   obtain ⟨⟨n10, n11⟩, hx12, h⟩ := bnd h
   try dsimp only at h
   refine RG (WR.call H (Y0D hx12) rfl trivial (Wn.none rfl) rfl ?_)
   intro v15 M w H hle hR
   replace hg_maxl := hg_maxl.mono hle
   replace hg_tabs := hg_tabs.mono hle
   try dsimp only at hR
   obtain rfl := hR
   refine WR.store [_, _] H rfl rfl rfl (by repeat first | exact .head | apply Upd.tail) Tryz.sizeOf27 rfl (by rfl) (by rfl) (Wn.none rfl) ?_
   intro w H
   refine NL (TN (RT ?_))
   obtain rfl := oI h
   exact WQ.ret1 rfl ⟨_, rfl, H.loadAgg (by repeat first | exact kMh | apply kMt) Tryz.isAgg27 Tryz.sizeOf27 (by rfl)⟩ H.ext rfl
  ·
   replace hk9 : b7 = true := by simpa using hk9
   subst hk9
   rw [if_pos rfl] at h
   refine SK (TN (SQ (SQ ?_)))
   obtain ⟨b13, hx14, h⟩ := bnd h
   refine RG (ST (Ex.fieldAddr Tryz.underlying24 rfl Tryz.sizeOf9 (by decide) rfl) rfl (ST (Ex.load1 H rfl (by repeat first | exact kMh | apply kMt) Tryz.isAgg9 (by rfl)) rfl ?_))
   refine WR.call H (Y3u hx14) rfl ⟨hg_maxl, hg_tabs⟩ (Wn.none rfl) rfl ?_
   intro v18 M w H hle hR
   replace hg_maxl := hg_maxl.mono hle
   replace hg_tabs := hg_tabs.mono hle
   obtain rfl := hR
   refine ST (Ex.not rfl) rfl (NL (TN ?_))
   refine WC.condB rfl (fun hk15 => ?_) (fun hk15 => ?_)
   ·
    replace hk15 : b13 = false := by simpa using hk15
    subst hk15
    rw [if_neg Bool.false_ne_true] at h
    refine SQ ?_
    obtain ⟨⟨n16, n17⟩, hx18, h⟩ := bnd h
    try dsimp only at h
    refine RG (WR.call H (Y0D hx18) rfl trivial (Wn.none rfl) rfl ?_)
    intro v20 M w H hle hR
    replace hg_maxl := hg_maxl.mono hle
    replace hg_tabs := hg_tabs.mono hle
    try dsimp only at hR
    obtain rfl := hR
    refine WR.store [_, _] H rfl rfl rfl (by repeat first | exact .head | apply Upd.tail) Tryz.sizeOf27 rfl (by rfl) (by rfl) (Wn.none rfl) ?_
    intro w H
    refine NL (TN (RT ?_))
    obtain rfl := oI h
    exact WQ.ret1 rfl ⟨_, rfl, H.loadAgg (by repeat first | exact kMh | apply kMt) Tryz.isAgg27 Tryz.sizeOf27 (by rfl)⟩ H.ext rfl
   ·
    replace hk15 : b13 = true := by simpa using hk15
    subst hk15
    rw [if_pos rfl] at h
    refine SK (TN (SQ ?_))
    obtain ⟨⟨n19, n20⟩, hx21, h⟩ := bnd h
    try dsimp only at h
    refine RG (WR.call H (Y1m hx21) rfl trivial (Wn.none rfl) rfl ?_)
    intro v21 M w H hle hR
    replace hg_maxl := hg_maxl.mono hle
    replace hg_tabs := hg_tabs.mono hle
    try dsimp only at hR
    obtain rfl := hR
    refine WR.store [_, _] H rfl rfl rfl (by repeat first | exact .head | apply Upd.tail) Tryz.sizeOf27 rfl (by rfl) (by rfl) (Wn.none rfl) ?_
    intro w H
    refine NL (TN (RT ?_))
    obtain rfl := oI h
    exact WQ.ret1 rfl ⟨_, rfl, H.loadAgg (by repeat first | exact kMh | apply kMt) Tryz.isAgg27 Tryz.sizeOf27 (by rfl)⟩ H.ext rfl
theorem Y1O {p0 : (Int × Int)} {r : Bool} (h : Y19 p0 = some r) : Ct Tryz.prog 38 [Value.agg #[I p0.1, I p0.2]] (fun M => True) (fun v M => v = Value.bool r) := by
 refine Ct.of Tryz.func38 (enters Tryz.func38 (by kernel_rfl) rfl) rfl rfl rfl ?_
 intro w0 M0 H hp
 unfold Y19 at h
 refine SQ (RG (WR.box [_, _] H rfl rfl (Wn.none rfl) rfl ?_))
 intro bk1 w H
 refine AS rfl rfl (NL (TN (SQ (RG (ST (Ex.fieldAddr Tryz.underlying27 rfl Tryz.sizeOf3 (by decide) rfl) rfl (ST (Ex.load1 H rfl (by repeat first | exact kMh | apply kMt) Tryz.isAgg3 (by rfl)) rfl ?_))))))
 refine ST (Ex.neqC rfl rfl) rfl (AS rfl rfl (NL (TN (RT ?_))))
 obtain rfl := oI h
 exact WQ.ret1 rfl rfl H.ext rfl
theorem Y4p {p0 : (List UInt8 × Bool × List (List UInt8 × List UInt8 × List UInt8))} {vp0_2 : Value} {r : Int} (h : Y2U p0 = some r) : Ct Tryz.prog 37 [Value.agg #[S p0.1, Value.bool p0.2.1, vp0_2]] (fun M => GlF (fun w => ∃ m, w.cell? ⟨2, 0, none⟩ = some (.int .i64 m)) M ∧ Tabs M ∧ SlS M 3 xenc24 vp0_2 p0.2.2) (fun v M => v = I r) := by
 refine Ct.of Tryz.func37 (enters Tryz.func37 (by kernel_rfl) rfl) rfl rfl rfl ?_
 intro w0 M0 H hp
 obtain ⟨hg_maxl, hg_tabs, hp0_2⟩ := hp
 unfold Y2U at h
 refine SQ (RG (WR.box [_, _, _] H rfl rfl (Wn.none rfl) rfl ?_))
 intro bk1 w H
 refine AS rfl rfl (NL (TN (SQ (SQ ?_))))
 obtain ⟨n1, hx2, h⟩ := bnd h
 refine RG (ST (Ex.fieldAddr Tryz.underlying34 rfl Tryz.sizeOf9 (by decide) rfl) rfl (ST (Ex.load1 H rfl (by repeat first | exact kMh | apply kMt) Tryz.isAgg9 (by rfl)) rfl ?_))
 refine WR.call H (Y3g hx2) rfl (hg_tabs) (Wn.none rfl) rfl ?_
 intro v9 M w H hle hR
 replace hg_maxl := hg_maxl.mono hle
 replace hg_tabs := hg_tabs.mono hle
 replace hp0_2 := hp0_2.mono hle
 obtain rfl := hR
 refine AS rfl rfl (NL (TN (SQ (RG (MV rfl rfl (ST (Ex.neqC rfl rfl) rfl (NL (TN ?_))))))))
 refine WC.condB rfl (fun hk3 => ?_) (fun hk3 => ?_)
 ·
  replace hk3 : ¬ (n1 = (0 : Int)) := of_not_decide hk3
  rw [if_neg hk3] at h
  refine SQ (RG (MV rfl rfl (AS rfl rfl (NL (TN (RT ?_))))))
  obtain rfl := oI h
  exact WQ.ret1 rfl rfl H.ext rfl
 ·
  replace hk3 : n1 = (0 : Int) := of_not_decide' hk3
  rw [if_pos hk3] at h
  refine SK (TN (SQ (SQ ?_)))
  obtain ⟨o4, e5, h⟩ := bnd h
  refine WC.cutX (fun e w => ∃ (b6 : Bool) (M : Mem), e = [(1, ptr bk1 0), (29, Value.bool b6)] ∧ St w0 M0 M [.blk bk1 (.cells #[S p0.1, Value.bool p0.2.1, vp0_2] 34)] w ∧ GlF (fun w => ∃ m, w.cell? ⟨2, 0, none⟩ = some (.int .i64 m)) M ∧ Tabs M ∧ SlS M 3 xenc24 vp0_2 p0.2.2 ∧ some b6 = some o4) [] ?_ ?_ (trivial)
  ·
   by_cases hk7 : p0.2.1 = (!decide (p0.1 = []))
   ·
    rw [if_pos hk7] at e5
    by_cases hk8 : p0.2.1 = true
    ·
     rw [if_pos hk8] at e5
     refine RG (ST (Ex.fieldAddr Tryz.underlying34 rfl Tryz.sizeOf4 (by decide) rfl) rfl (ST (Ex.load1 H rfl (by repeat first | exact kMh | apply kMt) Tryz.isAgg4 (by rfl)) rfl ?_))
     refine ST (Ex.fieldAddr Tryz.underlying34 rfl Tryz.sizeOf9 (by decide) rfl) rfl (ST (Ex.load1 H rfl (by repeat first | exact kMh | apply kMt) Tryz.isAgg9 (by rfl)) rfl ?_)
     refine ST (Ex.strNeqC rfl rfl) rfl (WR.stepE (v' := .bool false) (Ex.neqBo Tryz.underlying4 rfl rfl) (congrArg Value.bool (by rw [decide_eq_true hk7]; rfl)) (Wn.none rfl) rfl rfl ?_)
     refine MV rfl rfl (SG (Ex.fieldAddr Tryz.underlying34 rfl Tryz.sizeOf4 (by decide) rfl) rfl rfl rfl (SG (Ex.load1 H rfl (by repeat first | exact kMh | apply kMt) Tryz.isAgg4 (by rfl)) rfl rfl rfl ?_))
     refine WR.stepE (v' := .bool false) (Ex.not rfl) (congrArg Value.bool (by rw [hk8]; rfl)) (Wn.some rfl rfl rfl) rfl rfl ?_
     refine SG (Ex.move rfl) rfl rfl rfl (WR.skipN 4 rfl rfl (SG (Ex.pickF rfl rfl) rfl rfl rfl (PF rfl rfl rfl (NL ?_))))
     exact WQ.meetN [(1, _), (29, _)] ⟨rfl, rfl, trivial⟩ ⟨_, _, rfl, H, hg_maxl, hg_tabs, hp0_2, e5⟩
    ·
     rw [if_neg hk8] at e5
     refine RG (ST (Ex.fieldAddr Tryz.underlying34 rfl Tryz.sizeOf4 (by decide) rfl) rfl (ST (Ex.load1 H rfl (by repeat first | exact kMh | apply kMt) Tryz.isAgg4 (by rfl)) rfl ?_))
     refine ST (Ex.fieldAddr Tryz.underlying34 rfl Tryz.sizeOf9 (by decide) rfl) rfl (ST (Ex.load1 H rfl (by repeat first | exact kMh | apply kMt) Tryz.isAgg9 (by rfl)) rfl ?_)
     refine ST (Ex.strNeqC rfl rfl) rfl (WR.stepE (v' := .bool false) (Ex.neqBo Tryz.underlying4 rfl rfl) (congrArg Value.bool (by rw [decide_eq_true hk7]; rfl)) (Wn.none rfl) rfl rfl ?_)
     refine MV rfl rfl (SG (Ex.fieldAddr Tryz.underlying34 rfl Tryz.sizeOf4 (by decide) rfl) rfl rfl rfl (SG (Ex.load1 H rfl (by repeat first | exact kMh | apply kMt) Tryz.isAgg4 (by rfl)) rfl rfl rfl ?_))
     refine WR.stepE (v' := .bool true) (Ex.not rfl) (congrArg Value.bool (by rw [(Bool.of_not_eq_true hk8)]; rfl)) (Wn.some rfl rfl rfl) rfl rfl ?_
     refine SG (Ex.move rfl) rfl rfl rfl (SG (Ex.fieldAddr Tryz.underlying34 rfl Tryz.sizeOf30 (by decide) rfl) rfl rfl rfl (SG (Ex.load1 H rfl (by repeat first | exact kMh | apply kMt) Tryz.isAgg30 (by rfl)) rfl rfl rfl ?_))
     refine SG (Ex.lenSlS Tryz.underlying30 hp0_2 rfl) rfl rfl rfl (SG (Ex.neqC rfl rfl) rfl rfl rfl (SG (Ex.pickT rfl rfl) rfl rfl rfl (PF rfl rfl rfl (NL ?_))))
     exact WQ.meetN [(1, _), (29, _)] ⟨rfl, rfl, trivial⟩ ⟨_, _, rfl, H, hg_maxl, hg_tabs, hp0_2, e5⟩
   ·
    rw [if_neg hk7] at e5
    refine RG (ST (Ex.fieldAddr Tryz.underlying34 rfl Tryz.sizeOf4 (by decide) rfl) rfl (ST (Ex.load1 H rfl (by repeat first | exact kMh | apply kMt) Tryz.isAgg4 (by rfl)) rfl ?_))
    refine ST (Ex.fieldAddr Tryz.underlying34 rfl Tryz.sizeOf9 (by decide) rfl) rfl (ST (Ex.load1 H rfl (by repeat first | exact kMh | apply kMt) Tryz.isAgg9 (by rfl)) rfl ?_)
    refine ST (Ex.strNeqC rfl rfl) rfl (WR.stepE (v' := .bool true) (Ex.neqBo Tryz.underlying4 rfl rfl) (congrArg Value.bool (by rw [decide_eq_false hk7]; rfl)) (Wn.none rfl) rfl rfl ?_)
    refine MV rfl rfl (WR.skipN 9 rfl rfl (PT rfl rfl rfl (NL ?_)))
    exact WQ.meetN [(1, _), (29, _)] ⟨rfl, rfl, trivial⟩ ⟨_, _, rfl, H, hg_maxl, hg_tabs, hp0_2, e5⟩
  ·
   rintro e w ⟨b6, M, rfl, H, hg_maxl, hg_tabs, hp0_2, q9⟩
   obtain rfl := oI q9
   refine TN ?_
   refine WC.condB rfl (fun hk10 => ?_) (fun hk10 => ?_)
   ·
    subst hk10
    rw [if_pos rfl] at h
    refine SQ (RG (AS rfl rfl (NL (TN (RT ?_)))))
    obtain rfl := oI h
    exact WQ.ret1 rfl rfl H.ext rfl
   ·
    subst hk10
    rw [if_neg Bool.false_ne_true] at h
    refine SK (TN (SQ (SQ (RG (ST (Ex.fieldAddr Tryz.underlying34 rfl Tryz.sizeOf30 (by decide) rfl) rfl (ST (Ex.load1 H rfl (by repeat first | exact kMh | apply kMt) Tryz.isAgg30 (by rfl)) rfl ?_))))))
    refine ST (Ex.lenSlS Tryz.underlying30 hp0_2 rfl) rfl (MV rfl rfl (NL (TN ?_)))
    obtain ⟨o11, e12, h⟩ := bnd h
    refine WC.cutX (fun e w => ∃  (M : Mem), e = [] ∧ St w0 M0 M [] w ∧ GlF (fun w => ∃ m, w.cell? ⟨2, 0, none⟩ = some (.int .i64 m)) M ∧ Tabs M ∧ some (.inl ()) = some o11) [] ?_ ?_ (trivial)
    ·
     refine BL ?_
     refine WC.loopP (fun m e w => ∃ (n13 : Int) (M : Mem), e = [(31, vp0_2), (32, I (p0.2.2.length : Int)), (33, I n13)] ∧ St w0 M0 M [] w ∧ GlF (fun w => ∃ m, w.cell? ⟨2, 0, none⟩ = some (.int .i64 m)) M ∧ Tabs M ∧ SlS M 3 xenc24 vp0_2 p0.2.2 ∧ Y0T p0 m n13 = some o11) FU [(31, _), (32, _), (33, _)] ⟨rfl, rfl, rfl, trivial⟩ ⟨_, _, rfl, (H.pick (L' := []) (by repeat first | exact kPn | refine kPc (by repeat first | exact .head | apply Rem.tail) ?_)), hg_maxl, hg_tabs, hp0_2, e12⟩ ?_
     rintro m14 e w ⟨n13, M, rfl, H, hg_maxl, hg_tabs, hp0_2, e12⟩
     rcases m14 with _ | m14
     · rw [Y0T] at e12; cases e12
     rw [Y0T] at e12
     refine SQ (RG (ST (Ex.lss rfl rfl) rfl (NL (TN (SQ ?_)))))
     refine WC.condB rfl (fun hk15 => ?_) (fun hk15 => ?_)
     ·
      replace hk15 : n13 < (p0.2.2.length : Int) := of_decide_eq_true hk15
      rw [if_pos hk15] at e12
      refine SK (TN (SQ (BL (SQ ?_))))
      obtain ⟨a16, hxa16, e12⟩ := bnd e12
      obtain ⟨bk35, o35, ha35, hc35⟩ := hp0_2.atC hxa16
      refine RG (ST (Ex.idxAt ha35 Tryz.underlying30 Tryz.sizeOf24 rfl rfl) rfl (ST (Ex.loadAggM H rfl hc35 Tryz.isAgg24 Tryz.sizeOf24 (by rfl)) rfl ?_))
      refine WR.alloc [_, _, _] H Tryz.zeroValue24 rfl (Wn.none rfl) rfl ?_
      intro bk5 w H
      refine WR.store [_, _, _] H rfl rfl rfl (by repeat first | exact .head | apply Upd.tail) Tryz.sizeOf24 rfl (by rfl) (by rfl) (Wn.none rfl) ?_
      intro w H
      refine NL (TN (SQ ?_))
      obtain ⟨⟨n17, n18⟩, hx19, e12⟩ := bnd e12
      try dsimp only at e12
      refine RG (ST (Ex.loadAgg H rfl (by repeat first | exact kMh | apply kMt) Tryz.isAgg24 Tryz.sizeOf24 (by rfl)) rfl ?_)
      refine WR.call H (Y16 hx19) rfl ⟨hg_maxl, hg_tabs⟩ (Wn.none rfl) rfl ?_
      intro v38 M w H hle hR
      replace hg_maxl := hg_maxl.mono hle
      replace hg_tabs := hg_tabs.mono hle
      replace hp0_2 := hp0_2.mono hle
      replace hc35 := hc35.mono hle
      try dsimp only at hR
      obtain rfl := hR
      refine WR.alloc [_, _] H Tryz.zeroValue27 rfl (Wn.none rfl) rfl ?_
      intro bk6 w H
      refine WR.store [_, _] H rfl rfl rfl (by repeat first | exact .head | apply Upd.tail) Tryz.sizeOf27 rfl (by rfl) (by rfl) (Wn.none rfl) ?_
      intro w H
      refine NL (TN (SQ ?_))
      obtain ⟨b20, hx21, e12⟩ := bnd e12
      refine RG (ST (Ex.loadAgg H rfl (by repeat first | exact kMh | apply kMt) Tryz.isAgg27 Tryz.sizeOf27 (by rfl)) rfl ?_)
      refine WR.call H (Y1O hx21) rfl trivial (Wn.none rfl) rfl ?_
      intro v40 M w H hle hR
      replace hg_maxl := hg_maxl.mono hle
      replace hg_tabs := hg_tabs.mono hle
      replace hp0_2 := hp0_2.mono hle
      replace hc35 := hc35.mono hle
      obtain rfl := hR
      refine NL (TN ?_)
      refine WC.condB rfl (fun hk22 => ?_) (fun hk22 => ?_)
      ·
       subst hk22
       rw [if_pos rfl] at e12
       refine SQ (RG (ST (Ex.fieldAddr Tryz.underlying27 rfl Tryz.sizeOf3 (by decide) rfl) rfl (ST (Ex.load1 H rfl (by repeat first | exact kMh | apply kMt) Tryz.isAgg3 (by rfl)) rfl ?_)))
       refine AS rfl rfl (NL (TN (RT ?_)))
       obtain rfl := oI e12
       try dsimp only at h
       obtain rfl := oI h
       exact WQ.ret1 rfl rfl H.ext rfl
      ·
       subst hk22
       rw [if_neg Bool.false_ne_true] at e12
       refine SK (IB (TN ?_))
       obtain ⟨n23, hxn23, e12⟩ := bnd e12
       refine RG (ST (Ex.addC rfl rfl hxn23) rfl (MV rfl rfl (NL ?_)))
       exact WQ.againP m14 [(31, _), (32, _), (33, _)] ⟨rfl, rfl, rfl, trivial⟩ ⟨_, _, rfl, (H.pick (L' := []) (by repeat first | exact kPn | refine kPc (by repeat first | exact .head | apply Rem.tail) ?_)), hg_maxl, hg_tabs, hp0_2, e12⟩ (Nat.lt_succ_self _)
     ·
      replace hk15 : ¬ (n13 < (p0.2.2.length : Int)) := of_decide_eq_false hk15
      rw [if_neg hk15] at e12
      refine WC.exit (WQ.thenExit (WQ.thenExit (WQ.exitHere ?_)))
      exact WQ.meetN [] trivial ⟨_, rfl, H, hg_maxl, hg_tabs, e12⟩
    ·
     rintro e w ⟨M, rfl, H, hg_maxl, hg_tabs, q24⟩
     obtain rfl := oI q24
     try dsimp only at h
     refine TN (SQ (RG (AS rfl rfl (NL (TN (RT ?_))))))
     obtain rfl := oI h
     exact WQ.ret1 rfl rfl H.ext rfl
end Go.Proofs.YtkmjdamkifbddaaGreatDoor
end
section
namespace Go.Proofs.YtkmjdamkifbddaaGreatDoor
open Go Go.RowKit Go.Ph Go.Ph.Pl Go.Ph.Pf
theorem Y1X {p0 : List (List UInt8 × Bool × List (List UInt8 × List UInt8 × List UInt8))} {vp0 : Value} {r : (Int × Int)} (h : Y1l p0 = some r) : Ct Tryz.prog 12 [vp0] (fun M => GlF (fun w => ∃ m, w.cell? ⟨2, 0, none⟩ = some (.int .i64 m)) M ∧ Tabs M ∧ SlR xrl34 M vp0 p0) (fun v M => v = Value.agg #[I r.1, I r.2]) := by
 refine Ct.of Tryz.func12 (enters Tryz.func12 (by kernel_rfl) rfl) rfl rfl rfl ?_
 intro w0 M0 H hp
 obtain ⟨hg_maxl, hg_tabs, hp0⟩ := hp
 unfold Y1l at h
 refine SQ (RG (WR.alloc [_, _] H Tryz.zeroValue27 rfl (Wn.none rfl) rfl ?_))
 intro bk2 w H
 refine NL (TN (SQ (RG (AS rfl rfl (NL (TN (SQ (SQ (RG (MV rfl rfl (ST (Ex.lenSlR Tryz.underlying22 hp0 rfl) rfl (MV rfl rfl (NL (TN ?_))))))))))))))
 obtain ⟨o1, e2, h⟩ := bnd h
 refine WC.cutX (fun e w => ∃ (n3 : Int) (M : Mem), e = [(0, vp0), (2, ptr bk2 0), (3, I n3)] ∧ St w0 M0 M [.blk bk2 (.cells #[I 0, I 0] 27)] w ∧ GlF (fun w => ∃ m, w.cell? ⟨2, 0, none⟩ = some (.int .i64 m)) M ∧ Tabs M ∧ SlR xrl34 M vp0 p0 ∧ some n3 = some o1) [] ?_ ?_ (trivial)
 ·
  refine BL (WC.loopP (fun m e w => ∃ (n4 : Int) (n5 : Int) (M : Mem), e = [(0, vp0), (2, ptr bk2 0), (3, I n4), (9, vp0), (10, I (p0.length : Int)), (11, I n5)] ∧ St w0 M0 M [.blk bk2 (.cells #[I 0, I 0] 27)] w ∧ GlF (fun w => ∃ m, w.cell? ⟨2, 0, none⟩ = some (.int .i64 m)) M ∧ Tabs M ∧ SlR xrl34 M vp0 p0 ∧ Y0L p0 m n4 n5 = some o1) FU [(0, _), (2, _), (3, _), (9, _), (10, _), (11, _)] ⟨rfl, rfl, rfl, rfl, rfl, rfl, trivial⟩ ⟨_, _, _, rfl, H, hg_maxl, hg_tabs, hp0, e2⟩ ?_)
  rintro m6 e w ⟨n4, n5, M, rfl, H, hg_maxl, hg_tabs, hp0, e2⟩
  rcases m6 with _ | m6
  · rw [Y0L] at e2; cases e2
  rw [Y0L] at e2
  refine SQ (RG (ST (Ex.lss rfl rfl) rfl (NL (TN (SQ ?_)))))
  refine WC.condB rfl (fun hk7 => ?_) (fun hk7 => ?_)
  ·
   replace hk7 : n5 < (p0.length : Int) := of_decide_eq_true hk7
   rw [if_pos hk7] at e2
   refine SK (TN (SQ (BL (SQ ?_))))
   obtain ⟨a8, hxa8, e2⟩ := bnd e2
   obtain ⟨bk13, o13, fq13, ha13, hc13, hr13⟩ := hp0.atC hxa8
   obtain ⟨f13_0, f13_1, q13_2⟩ := fq13
   replace hr13 : f13_0 = a8.1 ∧ f13_1 = a8.2.1 ∧ SlS M 3 xenc24 (hv q13_2) a8.2.2 := hr13
   obtain ⟨rfl, rfl, hs13_2⟩ := hr13
   refine RG (ST (Ex.idxAt ha13 Tryz.underlying22 Tryz.sizeOf34 rfl rfl) rfl (ST (Ex.loadAggM H rfl hc13 Tryz.isAgg34 Tryz.sizeOf34 (by rfl)) rfl ?_))
   refine WR.alloc [_, _, _] H Tryz.zeroValue34 rfl (Wn.none rfl) rfl ?_
   intro bk5 w H
   refine WR.store [_, _, _] H rfl rfl rfl (by repeat first | exact .head | apply Upd.tail) Tryz.sizeOf34 rfl (by rfl) (by simp only [List.all_cons, List.all_nil, (hs13_2).one.2]; rfl) (Wn.none rfl) ?_
   intro w H
   refine NL (TN (RG (MV rfl rfl (ST (Ex.fieldAddr Tryz.underlying34 rfl Tryz.sizeOf30 (by decide) rfl) rfl (ST (Ex.load1 H rfl (by repeat first | exact kMh | apply kMt) Tryz.isAgg30 (by rfl)) rfl ?_)))))
   refine ST (Ex.lenSlS Tryz.underlying30 hs13_2 rfl) rfl (ST (Ex.add rfl rfl) rfl (AS rfl rfl (NL (IB (TN ?_)))))
   obtain ⟨n9, hxn9, e2⟩ := bnd e2
   refine RG (ST (Ex.addC rfl rfl hxn9) rfl (MV rfl rfl (NL ?_)))
   exact WQ.againP m6 [(0, _), (2, _), (3, _), (9, _), (10, _), (11, _)] ⟨rfl, rfl, rfl, rfl, rfl, rfl, trivial⟩ ⟨_, _, _, rfl, (H.pick (L' := [.blk bk2 (.cells #[I 0, I 0] 27)]) (by repeat first | exact kPn | refine kPc (by repeat first | exact .head | apply Rem.tail) ?_)), hg_maxl, hg_tabs, hp0, e2⟩ (Nat.lt_succ_self _)
  ·
   replace hk7 : ¬ (n5 < (p0.length : Int)) := of_decide_eq_false hk7
   rw [if_neg hk7] at e2
   refine WC.exit (WQ.thenExit (WQ.thenExit (WQ.exitHere ?_)))
   exact WQ.meetN [(0, _), (2, _), (3, _)] ⟨rfl, rfl, rfl, trivial⟩ ⟨_, _, rfl, H, hg_maxl, hg_tabs, hp0, e2⟩
 ·
  rintro e w ⟨n3, M, rfl, H, hg_maxl, hg_tabs, hp0, q10⟩
  obtain rfl := oI q10
  refine TN (SQ (SQ ?_))
  obtain ⟨o11, e12, h⟩ := bnd h
  refine WC.cutX (fun e w => ∃ (b13 : Bool) (M : Mem), e = [(0, vp0), (2, ptr bk2 0), (27, Value.bool b13)] ∧ St w0 M0 M [.blk bk2 (.cells #[I 0, I 0] 27)] w ∧ GlF (fun w => ∃ m, w.cell? ⟨2, 0, none⟩ = some (.int .i64 m)) M ∧ Tabs M ∧ SlR xrl34 M vp0 p0 ∧ some b13 = some o11) [] ?_ ?_ (trivial)
  ·
   refine RG (MV rfl rfl (ST (Ex.lenSlR Tryz.underlying22 hp0 rfl) rfl ?_))
   by_cases hk14 : (60 : Int) < (p0.length : Int)
   ·
    rw [if_pos hk14] at e12
    refine WR.stepE (v' := .bool true) (Ex.gtr rfl rfl) (congrArg Value.bool (decide_eq_true hk14)) (Wn.none rfl) rfl rfl (MV rfl rfl (GT rfl rfl rfl (GT rfl rfl rfl (PT rfl rfl rfl (NL ?_)))))
    exact WQ.meetN [(0, _), (2, _), (27, _)] ⟨rfl, rfl, rfl, trivial⟩ ⟨_, _, rfl, H, hg_maxl, hg_tabs, hp0, e12⟩
   ·
    rw [if_neg hk14] at e12
    refine WR.stepE (v' := .bool false) (Ex.gtr rfl rfl) (congrArg Value.bool (decide_eq_false hk14)) (Wn.none rfl) rfl rfl (MV rfl rfl (SG (Ex.move rfl) rfl rfl rfl (SG (Ex.gtr rfl rfl) rfl rfl rfl (PF rfl rfl rfl (NL ?_)))))
    exact WQ.meetN [(0, _), (2, _), (27, _)] ⟨rfl, rfl, rfl, trivial⟩ ⟨_, _, rfl, H, hg_maxl, hg_tabs, hp0, e12⟩
  ·
   rintro e w ⟨b13, M, rfl, H, hg_maxl, hg_tabs, hp0, q15⟩
   obtain rfl := oI q15
   refine TN ?_
   refine WC.condB rfl (fun hk16 => ?_) (fun hk16 => ?_)
   ·
    subst hk16
    rw [if_pos rfl] at h
    refine SQ ?_
    obtain ⟨⟨n17, n18⟩, hx19, h⟩ := bnd h
    try dsimp only at h
    refine RG (WR.call H (Y0D hx19) rfl trivial (Wn.none rfl) rfl ?_)
    intro v28 M w H hle hR
    replace hg_maxl := hg_maxl.mono hle
    replace hg_tabs := hg_tabs.mono hle
    replace hp0 := hp0.mono hle
    try dsimp only at hR
    obtain rfl := hR
    refine WR.store [_, _] H rfl rfl rfl (by repeat first | exact .head | apply Upd.tail) Tryz.sizeOf27 rfl (by rfl) (by rfl) (Wn.none rfl) ?_
    intro w H
    refine NL (TN (RT ?_))
    obtain rfl := oI h
    exact WQ.ret1 rfl ⟨_, rfl, H.loadAgg (by repeat first | exact kMh | apply kMt) Tryz.isAgg27 Tryz.sizeOf27 (by rfl)⟩ H.ext rfl
   ·
    subst hk16
    rw [if_neg Bool.false_ne_true] at h
    refine SK (TN (SQ (SQ (RG (MV rfl rfl (ST (Ex.lenSlR Tryz.underlying22 hp0 rfl) rfl (MV rfl rfl (NL (TN ?_)))))))))
    obtain ⟨o20, e21, h⟩ := bnd h
    refine WC.cutX (fun e w => ∃ (n22 : Int) (n23 : Int) (M : Mem), e = [(2, ptr bk2 0)] ∧ St w0 M0 M [.blk bk2 (.cells #[I n22, I n23] 27)] w ∧ GlF (fun w => ∃ m, w.cell? ⟨2, 0, none⟩ = some (.int .i64 m)) M ∧ Tabs M ∧ some (.inl (n22, n23)) = some o20) [] ?_ ?_ (trivial)
    ·
     refine BL (WC.loopP (fun m e w => ∃ (n24 : Int) (n25 : Int) (n26 : Int) (M : Mem), e = [(2, ptr bk2 0), (29, vp0), (30, I (p0.length : Int)), (31, I n26)] ∧ St w0 M0 M [.blk bk2 (.cells #[I n24, I n25] 27)] w ∧ GlF (fun w => ∃ m, w.cell? ⟨2, 0, none⟩ = some (.int .i64 m)) M ∧ Tabs M ∧ SlR xrl34 M vp0 p0 ∧ Y0M p0 m n24 n25 n26 = some o20) FU [(2, _), (29, _), (30, _), (31, _)] ⟨rfl, rfl, rfl, rfl, trivial⟩ ⟨_, _, _, _, rfl, H, hg_maxl, hg_tabs, hp0, e21⟩ ?_)
     rintro m27 e w ⟨n24, n25, n26, M, rfl, H, hg_maxl, hg_tabs, hp0, e21⟩
     rcases m27 with _ | m27
     · rw [Y0M] at e21; cases e21
     rw [Y0M] at e21
     refine SQ (RG (ST (Ex.lss rfl rfl) rfl (NL (TN (SQ ?_)))))
     refine WC.condB rfl (fun hk28 => ?_) (fun hk28 => ?_)
     ·
      replace hk28 : n26 < (p0.length : Int) := of_decide_eq_true hk28
      rw [if_pos hk28] at e21
      refine SK (TN (SQ (BL (SQ ?_))))
      obtain ⟨a29, hxa29, e21⟩ := bnd e21
      obtain ⟨bk34, o34, fq34, ha34, hc34, hr34⟩ := hp0.atC hxa29
      obtain ⟨f34_0, f34_1, q34_2⟩ := fq34
      replace hr34 : f34_0 = a29.1 ∧ f34_1 = a29.2.1 ∧ SlS M 3 xenc24 (hv q34_2) a29.2.2 := hr34
      obtain ⟨rfl, rfl, hs34_2⟩ := hr34
      refine RG (MV rfl rfl (ST (Ex.idxAt ha34 Tryz.underlying22 Tryz.sizeOf34 rfl rfl) rfl (ST (Ex.loadAggM H rfl hc34 Tryz.isAgg34 Tryz.sizeOf34 (by rfl)) rfl ?_)))
      refine WR.alloc [_, _, _] H Tryz.zeroValue34 rfl (Wn.none rfl) rfl ?_
      intro bk7 w H
      refine AS rfl rfl (WR.store [_, _, _] H rfl rfl rfl (by repeat first | exact .head | apply Upd.tail) Tryz.sizeOf34 rfl (by rfl) (by simp only [List.all_cons, List.all_nil, (hs34_2).one.2]; rfl) (Wn.none rfl) ?_)
      intro w H
      refine NL (TN (SQ ?_))
      obtain ⟨n30, hx31, e21⟩ := bnd e21
      refine RG (ST (Ex.loadAgg H rfl (by repeat first | exact kMh | apply kMt) Tryz.isAgg34 Tryz.sizeOf34 (by rfl)) rfl ?_)
      refine WR.call H (Y4p hx31) rfl ⟨hg_maxl, hg_tabs, hs34_2⟩ (Wn.none rfl) rfl ?_
      intro v37 M w H hle hR
      replace hg_maxl := hg_maxl.mono hle
      replace hg_tabs := hg_tabs.mono hle
      replace hp0 := hp0.mono hle
      replace hc34 := hc34.mono hle
      replace hs34_2 := hs34_2.mono hle
      obtain rfl := hR
      refine AS rfl rfl (NL (TN (SQ (RG (MV rfl rfl (ST (Ex.neqC rfl rfl) rfl (NL (TN ?_))))))))
      refine WC.condB rfl (fun hk32 => ?_) (fun hk32 => ?_)
      ·
       replace hk32 : ¬ (n30 = (0 : Int)) := of_not_decide hk32
       rw [if_neg hk32] at e21
       refine SQ ?_
       obtain ⟨⟨n33, n34⟩, hx35, e21⟩ := bnd e21
       try dsimp only at e21
       refine RG (MV rfl rfl (MV rfl rfl (WR.call H (Y0D hx35) rfl trivial (Wn.none rfl) rfl ?_)))
       intro v42 M w H hle hR
       replace hg_maxl := hg_maxl.mono hle
       replace hg_tabs := hg_tabs.mono hle
       replace hp0 := hp0.mono hle
       replace hc34 := hc34.mono hle
       replace hs34_2 := hs34_2.mono hle
       try dsimp only at hR
       obtain rfl := hR
       refine WR.store [_, _] H rfl rfl rfl (by repeat first | exact .head | apply Upd.tail) Tryz.sizeOf27 rfl (by rfl) (by rfl) (Wn.none rfl) ?_
       intro w H
       refine NL (TN (RT ?_))
       obtain rfl := oI e21
       try dsimp only at h
       obtain rfl := oI h
       exact WQ.ret1 rfl ⟨_, rfl, H.loadAgg (by repeat first | exact kMh | apply kMt) Tryz.isAgg27 Tryz.sizeOf27 (by rfl)⟩ H.ext rfl
      ·
       replace hk32 : n30 = (0 : Int) := of_not_decide' hk32
       rw [if_pos hk32] at e21
       refine SK (IB (TN ?_))
       obtain ⟨n36, hxn36, e21⟩ := bnd e21
       refine RG (ST (Ex.addC rfl rfl hxn36) rfl (MV rfl rfl (NL ?_)))
       exact WQ.againP m27 [(2, _), (29, _), (30, _), (31, _)] ⟨rfl, rfl, rfl, rfl, trivial⟩ ⟨_, _, _, _, rfl, (H.pick (L' := [.blk bk2 (.cells #[I n24, I n25] 27)]) (by repeat first | exact kPn | refine kPc (by repeat first | exact .head | apply Rem.tail) ?_)), hg_maxl, hg_tabs, hp0, e21⟩ (Nat.lt_succ_self _)
     ·
      replace hk28 : ¬ (n26 < (p0.length : Int)) := of_decide_eq_false hk28
      rw [if_neg hk28] at e21
      refine WC.exit (WQ.thenExit (WQ.thenExit (WQ.exitHere ?_)))
      exact WQ.meetN [(2, _)] ⟨rfl, trivial⟩ ⟨_, _, _, rfl, H, hg_maxl, hg_tabs, e21⟩
    ·
     rintro e w ⟨n22, n23, M, rfl, H, hg_maxl, hg_tabs, q37⟩
     obtain rfl := oI q37
     try dsimp only at h
     refine TN (SQ ?_)
     obtain ⟨⟨n38, n39⟩, hx40, h⟩ := bnd h
     try dsimp only at h
     refine RG (WR.call H (Y1m hx40) rfl trivial (Wn.none rfl) rfl ?_)
     intro v44 M w H hle hR
     replace hg_maxl := hg_maxl.mono hle
     replace hg_tabs := hg_tabs.mono hle
     try dsimp only at hR
     obtain rfl := hR
     refine WR.store [_, _] H rfl rfl rfl (by repeat first | exact .head | apply Upd.tail) Tryz.sizeOf27 rfl (by rfl) (by rfl) (Wn.none rfl) ?_
     intro w H
     refine NL (TN (RT ?_))
     obtain rfl := oI h
     exact WQ.ret1 rfl ⟨_, rfl, H.loadAgg (by repeat first | exact kMh | apply kMt) Tryz.isAgg27 Tryz.sizeOf27 (by rfl)⟩ H.ext rfl
theorem Y2C {p0 : UInt8} {r : Bool} (h : Y27 p0 = some r) : Ct Tryz.prog 80 [encB p0] (fun M => True) (fun v M => v = Value.bool r) := by
 refine Ct.of Tryz.func80 (enters Tryz.func80 (by kernel_rfl) rfl) rfl rfl rfl ?_
 intro w0 M0 H hp
 unfold Y27 at h
 refine SQ (RG (AS rfl rfl (NL (TN (SQ ?_)))))
 obtain ⟨o1, e2, h⟩ := bnd h
 refine WC.cutX (fun e w => ∃ (b3 : Bool) (M : Mem), e = [(2, Value.bool b3)] ∧ St w0 M0 M [] w ∧ some b3 = some o1) [] ?_ ?_ (trivial)
 ·
  obtain ⟨b4, hx5, e2⟩ := bnd e2
  refine RG (MV rfl rfl (WR.call H (Y3N hx5) rfl trivial (Wn.none rfl) rfl ?_))
  intro v4 M w H hle hR
  obtain rfl := hR
  refine MV rfl rfl ?_
  rcases b4 with _ | _
  ·
   rw [if_neg Bool.false_ne_true] at e2
   obtain ⟨n6, hx7, e2⟩ := bnd e2
   refine SG (Ex.move rfl) rfl rfl rfl (WR.call H (Y2Z hx7) rfl trivial (Wn.some rfl rfl rfl) rfl ?_)
   intro v7 M w H hle hR
   obtain rfl := hR
   refine SG (Ex.geq rfl rfl) rfl rfl rfl (PF rfl rfl rfl (AS rfl rfl (NL ?_)))
   exact WQ.meetN [(2, _)] ⟨rfl, trivial⟩ ⟨_, _, rfl, H, e2⟩
  ·
   rw [if_pos rfl] at e2
   refine WR.skipN 3 rfl rfl (PT rfl rfl rfl (AS rfl rfl (NL ?_)))
   exact WQ.meetN [(2, _)] ⟨rfl, trivial⟩ ⟨_, _, rfl, H, e2⟩
 ·
  rintro e w ⟨b3, M, rfl, H, q8⟩
  obtain rfl := oI q8
  refine TN (RT ?_)
  obtain rfl := oI h
  exact WQ.ret1 rfl rfl H.ext rfl
theorem Y3v {p0 : List UInt8} {r : Bool} (h : Y1o p0 = some r) : Ct Tryz.prog 93 [S p0] (fun M => GlF (fun w => ∃ m, w.cell? ⟨2, 0, none⟩ = some (.int .i64 m)) M ∧ Tabs M) (fun v M => v = Value.bool r) := by
 refine Ct.of Tryz.func93 (enters Tryz.func93 (by kernel_rfl) rfl) rfl rfl rfl ?_
 intro w0 M0 H hp
 obtain ⟨hg_maxl, hg_tabs⟩ := hp
 unfold Y1o at h
 refine SQ (RG (AS rfl rfl (NL (TN (SQ ?_)))))
 obtain ⟨b1, hx2, h⟩ := bnd h
 refine RG (MV rfl rfl (WR.call H (Y3D hx2) rfl ⟨hg_maxl, hg_tabs, (⟨⟨rfl, rfl⟩, (fun _ _ h => FnV.of (Y2C h) (fun _ _ => trivial))⟩ : FnT90 _ _ _)⟩ (Wn.none rfl) rfl ?_))
 intro v4 M w H hle hR
 replace hg_maxl := hg_maxl.mono hle
 replace hg_tabs := hg_tabs.mono hle
 obtain rfl := hR
 refine AS rfl rfl (NL (TN (RT ?_)))
 obtain rfl := oI h
 exact WQ.ret1 rfl rfl H.ext rfl
theorem Y2N {p0 : List UInt8} {r : List UInt8} (h : Y2j p0 = some r) : Ct Tryz.prog 81 [S p0] (fun M => True) (fun v M => v = S r) := by
 refine Ct.of Tryz.func81 (enters Tryz.func81 (by kernel_rfl) rfl) rfl rfl rfl ?_
 intro w0 M0 H hp
 unfold Y2j at h
 refine SQ (RG (AS rfl rfl (NL (TN (SQ ?_)))))
 obtain ⟨_, hx1, h⟩ := bnd h
 obtain ⟨s2, hxs2, h⟩ := bnd h
 obtain ⟨s3, hxs3, h⟩ := bnd h
 obtain ⟨s4, hxs4, h⟩ := bnd h
 refine RG (WR.lit (enc := encS) xty55 ([[92], [92, 92], [34], [92, 34]] : List (List UInt8)) H rfl (by rfl) (fun _ => rfl) rfl rfl (Wn.none rfl) rfl ?_)
 intro v3 M w H hle hs3
 refine WR.callX (A := []) (B := []) H (Y3G hx1) (Spl.all _) rfl (hs3) (Wn.none rfl) rfl ?_
 intro v4 M w its H hle hR
 replace hs3 := hs3.mono hle
 obtain ⟨bk4, x4, rfl, hr4, rfl⟩ := hR
 simp only [List.cons_append, List.nil_append] at H
 refine MV rfl rfl ?_
 refine WR.callX (A := [.blk bk4 (.cells x4 166)]) (B := []) (H.pick (L' := [.blk bk4 (.cells x4 166)]) (by repeat first | exact kPn | refine kPc (by repeat first | exact .head | apply Rem.tail) ?_)) (Y3c hxs2) (.left (Spl.all _)) rfl hr4 (Wn.none rfl) rfl ?_
 intro v6 M w its H hle hR
 replace hs3 := hs3.mono hle
 replace hr4 := hr4.mono hle
 obtain ⟨x6, rfl, hr6, rfl⟩ := hR
 simp only [List.cons_append, List.nil_append] at H
 refine ST (Ex.strAddC rfl rfl hxs3) rfl (ST (Ex.strAddC rfl rfl hxs4) rfl (AS rfl rfl (NL (TN (RT ?_)))))
 obtain rfl := oI h
 exact WQ.ret1 rfl rfl H.ext rfl
theorem Y1e {p0 : (List UInt8 × List UInt8 × List UInt8)} {r : List UInt8} (h : Y0r p0 = some r) : Ct Tryz.prog 56 [Value.agg #[S p0.1, S p0.2.1, S p0.2.2]] (fun M => GlF (fun w => ∃ m, w.cell? ⟨2, 0, none⟩ = some (.int .i64 m)) M ∧ Tabs M) (fun v M => v = S r) := by
 refine Ct.of Tryz.func56 (enters Tryz.func56 (by kernel_rfl) rfl) rfl rfl rfl ?_
 intro w0 M0 H hp
 obtain ⟨hg_maxl, hg_tabs⟩ := hp
 unfold Y0r at h
 refine SQ (RG (WR.box [_, _, _] H rfl rfl (Wn.none rfl) rfl ?_))
 intro bk1 w H
 refine AS rfl rfl (NL (TN (SQ (SQ ?_))))
 obtain ⟨b1, hx2, h⟩ := bnd h
 refine RG (ST (Ex.fieldAddr Tryz.underlying24 rfl Tryz.sizeOf9 (by decide) rfl) rfl (ST (Ex.load1 H rfl (by repeat first | exact kMh | apply kMt) Tryz.isAgg9 (by rfl)) rfl ?_))
 refine WR.call H (Y3v hx2) rfl ⟨hg_maxl, hg_tabs⟩ (Wn.none rfl) rfl ?_
 intro v5 M w H hle hR
 replace hg_maxl := hg_maxl.mono hle
 replace hg_tabs := hg_tabs.mono hle
 obtain rfl := hR
 refine NL (TN ?_)
 refine WC.condB rfl (fun hk3 => ?_) (fun hk3 => ?_)
 ·
  subst hk3
  rw [if_pos rfl] at h
  refine SQ ?_
  obtain ⟨s4, hxs4, h⟩ := bnd h
  obtain ⟨s5, hxs5, h⟩ := bnd h
  refine RG (ST (Ex.fieldAddr Tryz.underlying24 rfl Tryz.sizeOf9 (by decide) rfl) rfl (ST (Ex.load1 H rfl (by repeat first | exact kMh | apply kMt) Tryz.isAgg9 (by rfl)) rfl ?_))
  refine ST (Ex.strAddC rfl rfl hxs4) rfl (ST (Ex.fieldAddr Tryz.underlying24 rfl Tryz.sizeOf9 (by decide) rfl) rfl (ST (Ex.load1 H rfl (by repeat first | exact kMh | apply kMt) Tryz.isAgg9 (by rfl)) rfl ?_))
  refine ST (Ex.strAddC rfl rfl hxs5) rfl (AS rfl rfl (NL (TN (RT ?_))))
  obtain rfl := oI h
  exact WQ.ret1 rfl rfl H.ext rfl
 ·
  subst hk3
  rw [if_neg Bool.false_ne_true] at h
  refine SK (TN (SQ ?_))
  obtain ⟨s6, hx7, h⟩ := bnd h
  obtain ⟨s8, hxs8, h⟩ := bnd h
  obtain ⟨s9, hxs9, h⟩ := bnd h
  refine WC.cutP (fun e w => ∃  (M : Mem), e = [(2, S s9)] ∧ St w0 M0 M [] w ∧ GlF (fun w => ∃ m, w.cell? ⟨2, 0, none⟩ = some (.int .i64 m)) M ∧ Tabs M) ?_ ?_
  ·
   refine WC.draw (m := 8) rfl rfl H ?_
   intro w H
   refine WA.take (i := 0) rfl (by kernel_rfl) (by kernel_rfl) (by kernel_rfl) (fun _ => Ex.fieldAddr Tryz.underlying24 rfl Tryz.sizeOf9 (by decide) rfl) (Wn.none rfl) rfl rfl (fun _ _ => rfl) (WA.take (i := 4) rfl (by kernel_rfl) (by kernel_rfl) (by kernel_rfl) (fun _ => Ex.fieldAddr Tryz.underlying24 rfl Tryz.sizeOf9 (by decide) rfl) (Wn.none rfl) rfl rfl (fun _ _ => rfl) (WA.takeM (i := 1) [5] rfl (by kernel_rfl) (by kernel_rfl) (by kernel_rfl) (Ex.load1 H rfl (by repeat first | exact kMh | apply kMt) Tryz.isAgg9 (by rfl)) (Wn.none rfl) rfl rfl (fun _ _ => rfl) ?_))
   refine WA.two (i := 2) (j := 5) (by kernel_rfl) rfl rfl ?_ ?_
   ·
    refine WR.call H (Y2N hx7) rfl trivial (Wn.none rfl) rfl ?_
    intro v14 M w H hle hR
    replace hg_maxl := hg_maxl.mono hle
    replace hg_tabs := hg_tabs.mono hle
    obtain rfl := hR
    refine NA (WA.take (i := 3) rfl (by kernel_rfl) (by kernel_rfl) (by kernel_rfl) (fun _ => Ex.strAddC rfl rfl hxs8) (Wn.none rfl) rfl rfl (fun _ _ => rfl) (WA.seq (fuel := 0) [5, 6, 7] rfl (by kernel_rfl) (ST (Ex.load1 H rfl (by repeat first | exact kMh | apply kMt) Tryz.isAgg9 (by rfl)) rfl ?_)))
    refine ST (Ex.strAddC rfl rfl hxs9) rfl (AS rfl rfl (NA (WA.done (by kernel_rfl) ?_)))
    exact WQ.meetP [(2, _)] ⟨rfl, trivial⟩ ⟨_, rfl, (H.pick (L' := []) (by repeat first | exact kPn | refine kPc (by repeat first | exact .head | apply Rem.tail) ?_)), hg_maxl, hg_tabs⟩
   ·
    refine ST (Ex.load1 H rfl (by repeat first | exact kMh | apply kMt) Tryz.isAgg9 (by rfl)) rfl ?_
    refine NA (WA.seq (fuel := 0) [2, 3, 6, 7] rfl (by kernel_rfl) (WR.call H (Y2N hx7) rfl trivial (Wn.none rfl) rfl ?_))
    intro v14 M w H hle hR
    replace hg_maxl := hg_maxl.mono hle
    replace hg_tabs := hg_tabs.mono hle
    obtain rfl := hR
    refine ST (Ex.strAddC rfl rfl hxs8) rfl (ST (Ex.strAddC rfl rfl hxs9) rfl (AS rfl rfl (NA (WA.done (by kernel_rfl) ?_))))
    exact WQ.meetP [(2, _)] ⟨rfl, trivial⟩ ⟨_, rfl, (H.pick (L' := []) (by repeat first | exact kPn | refine kPc (by repeat first | exact .head | apply Rem.tail) ?_)), hg_maxl, hg_tabs⟩
  ·
   rintro e w ⟨M, rfl, H, hg_maxl, hg_tabs⟩
   refine TN (RT ?_)
   obtain rfl := oI h
   exact WQ.ret1 rfl rfl H.ext rfl
theorem Y3w {p0 : List UInt8} {p1 : List UInt8} {r : Bool} (h : Y0P p0 p1 = some r) : Ct Tryz.prog 168 [S p0, S p1] (fun M => True) (fun v M => v = Value.bool r) := by
 refine Ct.of Tryz.func168 (enters Tryz.func168 (by kernel_rfl) rfl) rfl rfl rfl ?_
 intro w0 M0 H hp
 unfold Y0P at h
 refine SQ (RG (AS rfl rfl (NL (TN (SQ ?_)))))
 obtain ⟨o1, e2, h⟩ := bnd h
 refine WC.cutX (fun e w => ∃ (b3 : Bool) (M : Mem), e = [(4, Value.bool b3)] ∧ St w0 M0 M [] w ∧ some b3 = some o1) [] ?_ ?_ (trivial)
 ·
  refine RG (MV rfl rfl (ST (Ex.lenStr Tryz.underlying9 rfl) rfl (MV rfl rfl (ST (Ex.lenStr Tryz.underlying9 rfl) rfl ?_))))
  by_cases hk4 : (p1.length : Int) ≤ (p0.length : Int)
  ·
   rw [if_pos hk4] at e2
   obtain ⟨s5, hxs5, e2⟩ := bnd e2
   refine WR.stepE (v' := .bool true) (Ex.geq rfl rfl) (congrArg Value.bool (decide_eq_true hk4)) (Wn.none rfl) rfl rfl (MV rfl rfl (SG (Ex.move rfl) rfl rfl rfl (SG (Ex.move rfl) rfl rfl rfl (SG (Ex.lenStr Tryz.underlying9 rfl) rfl rfl rfl (SG (Ex.sliceH Tryz.underlying9 rfl rfl hxs5) rfl rfl rfl (SG (Ex.move rfl) rfl rfl rfl (SG (Ex.strEql rfl rfl) rfl rfl rfl (PT rfl rfl rfl (AS rfl rfl (NL ?_))))))))))
   exact WQ.meetN [(4, _)] ⟨rfl, trivial⟩ ⟨_, _, rfl, H, e2⟩
  ·
   rw [if_neg hk4] at e2
   refine WR.stepE (v' := .bool false) (Ex.geq rfl rfl) (congrArg Value.bool (decide_eq_false hk4)) (Wn.none rfl) rfl rfl (MV rfl rfl (WR.skipN 6 rfl rfl (PF rfl rfl rfl (AS rfl rfl (NL ?_)))))
   exact WQ.meetN [(4, _)] ⟨rfl, trivial⟩ ⟨_, _, rfl, H, e2⟩
 ·
  rintro e w ⟨b3, M, rfl, H, q6⟩
  obtain rfl := oI q6
  refine TN (RT ?_)
  obtain rfl := oI h
  exact WQ.ret1 rfl rfl H.ext rfl
theorem Y2g {p0 : List UInt8} {p1 : List UInt8} {r : Bool} (h : Y0E p0 p1 = some r) : Ct Tryz.prog 135 [S p0, S p1] (fun M => True) (fun v M => v = Value.bool r) := by
 refine Ct.of Tryz.func135 (enters Tryz.func135 (by kernel_rfl) rfl) rfl rfl rfl ?_
 intro w0 M0 H hp
 unfold Y0E at h
 refine SQ (RG (AS rfl rfl (NL (TN (SQ ?_)))))
 obtain ⟨b1, hx2, h⟩ := bnd h
 refine RG (MV rfl rfl (MV rfl rfl (WR.call H (Y3w hx2) rfl trivial (Wn.none rfl) rfl ?_)))
 intro v7 M w H hle hR
 obtain rfl := hR
 refine AS rfl rfl (NL (TN (RT ?_)))
 obtain rfl := oI h
 exact WQ.ret1 rfl rfl H.ext rfl
theorem Y2x {p0 : List UInt8} {p1 : List UInt8} {r : Bool} (h : Y0B p0 p1 = some r) : Ct Tryz.prog 108 [S p0, S p1] (fun M => True) (fun v M => v = Value.bool r) := by
 refine Ct.of Tryz.func108 (enters Tryz.func108 (by kernel_rfl) rfl) rfl rfl rfl ?_
 intro w0 M0 H hp
 unfold Y0B at h
 refine SQ (RG (AS rfl rfl (NL (TN (SQ ?_)))))
 obtain ⟨o1, e2, h⟩ := bnd h
 refine WC.cutX (fun e w => ∃ (b3 : Bool) (M : Mem), e = [(4, Value.bool b3)] ∧ St w0 M0 M [] w ∧ some b3 = some o1) [] ?_ ?_ (trivial)
 ·
  refine RG (MV rfl rfl (ST (Ex.lenStr Tryz.underlying9 rfl) rfl (MV rfl rfl (ST (Ex.lenStr Tryz.underlying9 rfl) rfl ?_))))
  by_cases hk4 : (p1.length : Int) ≤ (p0.length : Int)
  ·
   rw [if_pos hk4] at e2
   obtain ⟨n5, hxn5, e2⟩ := bnd e2
   obtain ⟨s6, hxs6, e2⟩ := bnd e2
   refine WR.stepE (v' := .bool true) (Ex.geq rfl rfl) (congrArg Value.bool (decide_eq_true hk4)) (Wn.none rfl) rfl rfl (MV rfl rfl (SG (Ex.move rfl) rfl rfl rfl (SG (Ex.move rfl) rfl rfl rfl (SG (Ex.lenStr Tryz.underlying9 rfl) rfl rfl rfl (SG (Ex.move rfl) rfl rfl rfl (SG (Ex.lenStr Tryz.underlying9 rfl) rfl rfl rfl (SG (Ex.subC rfl rfl hxn5) rfl rfl rfl (SG (Ex.sliceL Tryz.underlying9 rfl rfl hxs6) rfl rfl rfl (SG (Ex.move rfl) rfl rfl rfl (SG (Ex.strEql rfl rfl) rfl rfl rfl (PT rfl rfl rfl (AS rfl rfl (NL ?_)))))))))))))
   exact WQ.meetN [(4, _)] ⟨rfl, trivial⟩ ⟨_, _, rfl, H, e2⟩
  ·
   rw [if_neg hk4] at e2
   refine WR.stepE (v' := .bool false) (Ex.geq rfl rfl) (congrArg Value.bool (decide_eq_false hk4)) (Wn.none rfl) rfl rfl (MV rfl rfl (WR.skipN 9 rfl rfl (PF rfl rfl rfl (AS rfl rfl (NL ?_)))))
   exact WQ.meetN [(4, _)] ⟨rfl, trivial⟩ ⟨_, _, rfl, H, e2⟩
 ·
  rintro e w ⟨b3, M, rfl, H, q7⟩
  obtain rfl := oI q7
  refine TN (RT ?_)
  obtain rfl := oI h
  exact WQ.ret1 rfl rfl H.ext rfl
theorem Y3S {p0 : List UInt8} {p1 : List UInt8} {r : Bool} (h : Y13 p0 p1 = some r) : Ct Tryz.prog 136 [S p0, S p1] (fun M => True) (fun v M => v = Value.bool r) := by
 refine Ct.of Tryz.func136 (enters Tryz.func136 (by kernel_rfl) rfl) rfl rfl rfl ?_
 intro w0 M0 H hp
 unfold Y13 at h
 refine SQ (RG (AS rfl rfl (NL (TN (SQ ?_)))))
 obtain ⟨b1, hx2, h⟩ := bnd h
 refine RG (MV rfl rfl (MV rfl rfl (WR.call H (Y2x hx2) rfl trivial (Wn.none rfl) rfl ?_)))
 intro v7 M w H hle hR
 obtain rfl := hR
 refine AS rfl rfl (NL (TN (RT ?_)))
 obtain rfl := oI h
 exact WQ.ret1 rfl rfl H.ext rfl
theorem Y4u {p0 : List UInt8} {r : Bool} (h : Y2F p0 = some r) : Ct Tryz.prog 109 [S p0] (fun M => GlF (fun w => ∃ m, w.cell? ⟨2, 0, none⟩ = some (.int .i64 m)) M) (fun v M => v = Value.bool r) := by
 refine Ct.of Tryz.func109 (enters Tryz.func109 (by kernel_rfl) rfl) rfl rfl rfl ?_
 intro w0 M0 H hp
 have hg_maxl := hp
 unfold Y2F at h
 refine SQ (RG (AS rfl rfl (NL (TN (SQ (SQ (RG (MV rfl rfl (ST (Ex.lenStr Tryz.underlying9 rfl) rfl (MV rfl rfl (NL (TN ?_))))))))))))
 obtain ⟨o1, e2, h⟩ := bnd h
 refine WC.cutX (fun e w => ∃  (M : Mem), e = [(0, S p0)] ∧ St w0 M0 M [] w ∧ GlF (fun w => ∃ m, w.cell? ⟨2, 0, none⟩ = some (.int .i64 m)) M ∧ some (.inl ()) = some o1) [] ?_ ?_ (trivial)
 ·
  refine BL (WC.loopP (fun m e w => ∃ (n3 : Int) (M : Mem), e = [(0, S p0), (5, I (p0.length : Int)), (6, I n3)] ∧ St w0 M0 M [] w ∧ GlF (fun w => ∃ m, w.cell? ⟨2, 0, none⟩ = some (.int .i64 m)) M ∧ Y1n p0 m n3 = some o1) FU [(0, _), (5, _), (6, _)] ⟨rfl, rfl, rfl, trivial⟩ ⟨_, _, rfl, H, hg_maxl, e2⟩ ?_)
  rintro m4 e w ⟨n3, M, rfl, H, hg_maxl, e2⟩
  rcases m4 with _ | m4
  · rw [Y1n] at e2; cases e2
  rw [Y1n] at e2
  refine SQ (RG (ST (Ex.lss rfl rfl) rfl (NL (TN (SQ ?_)))))
  refine WC.condB rfl (fun hk5 => ?_) (fun hk5 => ?_)
  ·
   replace hk5 : n3 < (p0.length : Int) := of_decide_eq_true hk5
   rw [if_pos hk5] at e2
   refine SK (TN (SQ (BL (SQ (RG (MV rfl rfl (AS rfl rfl (NL (TN (SQ ?_))))))))))
   obtain ⟨o6, e7, e2⟩ := bnd e2
   refine WC.cutX (fun e w => ∃ (b8 : Bool) (M : Mem), e = [(0, S p0), (5, I (p0.length : Int)), (6, I n3), (18, Value.bool b8)] ∧ St w0 M0 M [] w ∧ GlF (fun w => ∃ m, w.cell? ⟨2, 0, none⟩ = some (.int .i64 m)) M ∧ some b8 = some o6) [] ?_ ?_ (trivial)
   ·
    obtain ⟨c9, hxc9, e7⟩ := bnd e7
    refine RG (MV rfl rfl (MV rfl rfl (ST (Ex.idxStrC Tryz.underlying9 rfl rfl hxc9) rfl ?_)))
    by_cases hk10 : c9.toNat < 32
    ·
     rw [if_pos hk10] at e7
     refine WR.stepE (v' := .bool true) (Ex.lssB (i := c9.toNat) (j := 32) rfl rfl) (congrArg Value.bool (decide_eq_true hk10)) (Wn.none rfl) rfl rfl (MV rfl rfl (WR.skipN 4 rfl rfl (PT rfl rfl rfl (NL ?_))))
     exact WQ.meetN [(0, _), (5, _), (6, _), (18, _)] ⟨rfl, rfl, rfl, rfl, trivial⟩ ⟨_, _, rfl, H, hg_maxl, e7⟩
    ·
     rw [if_neg hk10] at e7
     obtain ⟨c11, hxc11, e7⟩ := bnd e7
     refine WR.stepE (v' := .bool false) (Ex.lssB (i := c9.toNat) (j := 32) rfl rfl) (congrArg Value.bool (decide_eq_false hk10)) (Wn.none rfl) rfl rfl (MV rfl rfl (SG (Ex.move rfl) rfl rfl rfl (SG (Ex.move rfl) rfl rfl rfl (SG (Ex.idxStrC Tryz.underlying9 rfl rfl hxc11) rfl rfl rfl (SG (Ex.gtrB (i := c11.toNat) (j := 126) rfl rfl) rfl rfl rfl (PF rfl rfl rfl (NL ?_)))))))
     exact WQ.meetN [(0, _), (5, _), (6, _), (18, _)] ⟨rfl, rfl, rfl, rfl, trivial⟩ ⟨_, _, rfl, H, hg_maxl, e7⟩
   ·
    rintro e w ⟨b8, M, rfl, H, hg_maxl, q12⟩
    obtain rfl := oI q12
    refine TN ?_
    refine WC.condB rfl (fun hk13 => ?_) (fun hk13 => ?_)
    ·
     subst hk13
     rw [if_pos rfl] at e2
     refine SQ (RG (AS rfl rfl (NL (TN (RT ?_)))))
     obtain rfl := oI e2
     try dsimp only at h
     obtain rfl := oI h
     exact WQ.ret1 rfl rfl H.ext rfl
    ·
     subst hk13
     rw [if_neg Bool.false_ne_true] at e2
     refine SK (IB (TN ?_))
     obtain ⟨n14, hxn14, e2⟩ := bnd e2
     refine RG (ST (Ex.addC rfl rfl hxn14) rfl (MV rfl rfl (NL ?_)))
     exact WQ.againP m4 [(0, _), (5, _), (6, _)] ⟨rfl, rfl, rfl, trivial⟩ ⟨_, _, rfl, H, hg_maxl, e2⟩ (Nat.lt_succ_self _)
  ·
   replace hk5 : ¬ (n3 < (p0.length : Int)) := of_decide_eq_false hk5
   rw [if_neg hk5] at e2
   refine WC.exit (WQ.thenExit (WQ.thenExit (WQ.exitHere ?_)))
   exact WQ.meetN [(0, _)] ⟨rfl, trivial⟩ ⟨_, rfl, H, hg_maxl, e2⟩
 ·
  rintro e w ⟨M, rfl, H, hg_maxl, q15⟩
  obtain rfl := oI q15
  try dsimp only at h
  refine TN (SQ ?_)
  obtain ⟨o16, e17, h⟩ := bnd h
  refine WC.cutX (fun e w => ∃ (b18 : Bool) (M : Mem), e = [(2, Value.bool b18)] ∧ St w0 M0 M [] w ∧ GlF (fun w => ∃ m, w.cell? ⟨2, 0, none⟩ = some (.int .i64 m)) M ∧ some b18 = some o16) [] ?_ ?_ (trivial)
  ·
   obtain ⟨b19, hx20, e17⟩ := bnd e17
   refine RG (MV rfl rfl (WR.call H (Y2g hx20) rfl trivial (Wn.none rfl) rfl ?_))
   intro v21 M w H hle hR
   replace hg_maxl := hg_maxl.mono hle
   obtain rfl := hR
   refine ST (Ex.not rfl) rfl (MV rfl rfl ?_)
   rcases b19 with _ | _
   ·
    rw [if_neg Bool.false_ne_true] at e17
    obtain ⟨b21, hx22, e17⟩ := bnd e17
    refine SG (Ex.move rfl) rfl rfl rfl (WR.call H (Y3S hx22) rfl trivial (Wn.some rfl rfl rfl) rfl ?_)
    intro v25 M w H hle hR
    replace hg_maxl := hg_maxl.mono hle
    obtain rfl := hR
    refine SG (Ex.not rfl) rfl rfl rfl (PT rfl rfl rfl (MV rfl rfl ?_))
    rcases b21 with _ | _
    ·
     rw [if_neg Bool.false_ne_true] at e17
     obtain ⟨b23, hx24, e17⟩ := bnd e17
     refine SG (Ex.move rfl) rfl rfl rfl (WR.call H (Y3Z hx24) rfl (hg_maxl) (Wn.some rfl rfl rfl) rfl ?_)
     intro v30 M w H hle hR
     replace hg_maxl := hg_maxl.mono hle
     obtain rfl := hR
     refine SG (Ex.not rfl) rfl rfl rfl (PT rfl rfl rfl (AS rfl rfl (NL ?_)))
     exact WQ.meetN [(2, _)] ⟨rfl, trivial⟩ ⟨_, _, rfl, H, hg_maxl, e17⟩
    ·
     rw [if_pos rfl] at e17
     refine WR.skipN 3 rfl rfl (PF rfl rfl rfl (AS rfl rfl (NL ?_)))
     exact WQ.meetN [(2, _)] ⟨rfl, trivial⟩ ⟨_, _, rfl, H, hg_maxl, e17⟩
   ·
    rw [if_pos rfl] at e17
    refine WR.skipN 3 rfl rfl (PF rfl rfl rfl (MV rfl rfl (WR.skipN 3 rfl rfl (PF rfl rfl rfl (AS rfl rfl (NL ?_))))))
    exact WQ.meetN [(2, _)] ⟨rfl, trivial⟩ ⟨_, _, rfl, H, hg_maxl, e17⟩
  ·
   rintro e w ⟨b18, M, rfl, H, hg_maxl, q25⟩
   obtain rfl := oI q25
   refine TN (RT ?_)
   obtain rfl := oI h
   exact WQ.ret1 rfl rfl H.ext rfl
theorem Y4i {p0 : List UInt8} {r : (List UInt8 × (Int × Int))} (h : Y3z p0 = some r) : Ct Tryz.prog 78 [S p0] (fun M => GlF (fun w => ∃ m, w.cell? ⟨2, 0, none⟩ = some (.int .i64 m)) M ∧ Tabs M) (fun v M => v = Value.tuple #[S r.1, Value.agg #[I r.2.1, I r.2.2]]) := by
 refine Ct.ofM Tryz.func78 (enters Tryz.func78 (by kernel_rfl) rfl) rfl rfl rfl ?_
 intro w0 M0 H hp
 obtain ⟨hg_maxl, hg_tabs⟩ := hp
 unfold Y3z at h
 refine SQ (RG (AS rfl rfl (WR.alloc [_, _] H Tryz.zeroValue27 rfl (Wn.none rfl) rfl ?_)))
 intro bk3 w H
 refine NL (TN (SQ (SQ (RG (MV rfl rfl (ST (Ex.lenStr Tryz.underlying9 rfl) rfl (ST (Ex.gtr rfl rfl) rfl (NL (TN ?_)))))))))
 refine WC.condB rfl (fun hk1 => ?_) (fun hk1 => ?_)
 ·
  replace hk1 : (1000 : Int) < (p0.length : Int) := of_decide_eq_true hk1
  rw [if_pos hk1] at h
  refine SQ ?_
  obtain ⟨⟨n2, n3⟩, hx4, h⟩ := bnd h
  try dsimp only at h
  refine RG (WR.call H (Y0D hx4) rfl trivial (Wn.none rfl) rfl ?_)
  intro v11 M w H hle hR
  replace hg_maxl := hg_maxl.mono hle
  replace hg_tabs := hg_tabs.mono hle
  try dsimp only at hR
  obtain rfl := hR
  refine AS rfl rfl (WR.store [_, _] H rfl rfl rfl (by repeat first | exact .head | apply Upd.tail) Tryz.sizeOf27 rfl (by rfl) (by rfl) (Wn.none rfl) ?_)
  intro w H
  refine NL (TN (RT ?_))
  obtain rfl := oI h
  exact WQ.mret2 rfl rfl ⟨_, rfl, H.loadAgg (by repeat first | exact kMh | apply kMt) Tryz.isAgg27 Tryz.sizeOf27 (by rfl)⟩ H.ext rfl
 ·
  replace hk1 : ¬ ((1000 : Int) < (p0.length : Int)) := of_decide_eq_false hk1
  rw [if_neg hk1] at h
  refine SK (TN (SQ (SQ ?_)))
  obtain ⟨b5, hx6, h⟩ := bnd h
  refine RG (MV rfl rfl (WR.call H (Y3b hx6) rfl (hg_tabs) (Wn.none rfl) rfl ?_))
  intro v13 M w H hle hR
  replace hg_maxl := hg_maxl.mono hle
  replace hg_tabs := hg_tabs.mono hle
  obtain rfl := hR
  refine ST (Ex.not rfl) rfl (NL (TN ?_))
  refine WC.condB rfl (fun hk7 => ?_) (fun hk7 => ?_)
  ·
   replace hk7 : b5 = false := by simpa using hk7
   subst hk7
   rw [if_neg Bool.false_ne_true] at h
   refine SQ ?_
   obtain ⟨⟨n8, n9⟩, hx10, h⟩ := bnd h
   try dsimp only at h
   refine RG (WR.call H (Y0D hx10) rfl trivial (Wn.none rfl) rfl ?_)
   intro v15 M w H hle hR
   replace hg_maxl := hg_maxl.mono hle
   replace hg_tabs := hg_tabs.mono hle
   try dsimp only at hR
   obtain rfl := hR
   refine AS rfl rfl (WR.store [_, _] H rfl rfl rfl (by repeat first | exact .head | apply Upd.tail) Tryz.sizeOf27 rfl (by rfl) (by rfl) (Wn.none rfl) ?_)
   intro w H
   refine NL (TN (RT ?_))
   obtain rfl := oI h
   exact WQ.mret2 rfl rfl ⟨_, rfl, H.loadAgg (by repeat first | exact kMh | apply kMt) Tryz.isAgg27 Tryz.sizeOf27 (by rfl)⟩ H.ext rfl
  ·
   replace hk7 : b5 = true := by simpa using hk7
   subst hk7
   rw [if_pos rfl] at h
   refine SK (TN (SQ (SQ ?_)))
   obtain ⟨b11, hx12, h⟩ := bnd h
   refine RG (MV rfl rfl (WR.call H (Y4u hx12) rfl (hg_maxl) (Wn.none rfl) rfl ?_))
   intro v17 M w H hle hR
   replace hg_maxl := hg_maxl.mono hle
   replace hg_tabs := hg_tabs.mono hle
   obtain rfl := hR
   refine NL (TN ?_)
   refine WC.condB rfl (fun hk13 => ?_) (fun hk13 => ?_)
   ·
    subst hk13
    rw [if_pos rfl] at h
    refine SQ ?_
    obtain ⟨⟨n14, n15⟩, hx16, h⟩ := bnd h
    try dsimp only at h
    refine RG (MV rfl rfl (WR.call H (Y1m hx16) rfl trivial (Wn.none rfl) rfl ?_))
    intro v19 M w H hle hR
    replace hg_maxl := hg_maxl.mono hle
    replace hg_tabs := hg_tabs.mono hle
    try dsimp only at hR
    obtain rfl := hR
    refine AS rfl rfl (WR.store [_, _] H rfl rfl rfl (by repeat first | exact .head | apply Upd.tail) Tryz.sizeOf27 rfl (by rfl) (by rfl) (Wn.none rfl) ?_)
    intro w H
    refine NL (TN (RT ?_))
    obtain rfl := oI h
    exact WQ.mret2 rfl rfl ⟨_, rfl, H.loadAgg (by repeat first | exact kMh | apply kMt) Tryz.isAgg27 Tryz.sizeOf27 (by rfl)⟩ H.ext rfl
   ·
    subst hk13
    rw [if_neg Bool.false_ne_true] at h
    cases h
theorem Y2O {p0 : List UInt8} {r : List UInt8} (h : Y2Q p0 = some r) : Ct Tryz.prog 43 [S p0] (fun M => GlF (fun w => ∃ m, w.cell? ⟨2, 0, none⟩ = some (.int .i64 m)) M ∧ Tabs M) (fun v M => v = S r) := by
 refine Ct.ofM Tryz.func43 (enters Tryz.func43 (by kernel_rfl) rfl) rfl rfl rfl ?_
 intro w0 M0 H hp
 obtain ⟨hg_maxl, hg_tabs⟩ := hp
 unfold Y2Q at h
 refine SQ (RG (WR.box [_] H rfl rfl (Wn.none rfl) rfl ?_))
 intro bk1 w H
 refine WR.alloc [_] H Tryz.zeroValue9 rfl (Wn.none rfl) rfl ?_
 intro bk2 w H
 refine NL (TN (SQ (SQ ?_)))
 obtain ⟨⟨s1, ⟨n2, n3⟩⟩, hx4, h⟩ := bnd h
 try dsimp only at h
 refine RG (ST (Ex.load1 H rfl (by repeat first | exact kMh | apply kMt) Tryz.isAgg9 (by rfl)) rfl ?_)
 refine WR.call H (Y4i hx4) rfl ⟨hg_maxl, hg_tabs⟩ (Wn.none rfl) rfl ?_
 intro v8 M w H hle hR
 replace hg_maxl := hg_maxl.mono hle
 replace hg_tabs := hg_tabs.mono hle
 try dsimp only at hR
 obtain rfl := hR
 refine MV rfl rfl (ST (Ex.extract rfl rfl) rfl (ST (Ex.extract rfl rfl) rfl (WR.alloc [_, _] H Tryz.zeroValue27 rfl (Wn.none rfl) rfl ?_)))
 intro bk4 w H
 refine AS rfl rfl (WR.store [_, _] H rfl rfl rfl (by repeat first | exact .head | apply Upd.tail) Tryz.sizeOf27 rfl (by rfl) (by rfl) (Wn.none rfl) ?_)
 intro w H
 refine NL (TN (SQ (RG (MV rfl rfl (ST (Ex.load1 H rfl (by repeat first | exact kMh | apply kMt) Tryz.isAgg9 (by rfl)) rfl ?_)))))
 refine ST (Ex.strNeqC rfl rfl) rfl (NL (TN ?_))
 refine WC.condB rfl (fun hk5 => ?_) (fun hk5 => ?_)
 ·
  replace hk5 : ¬ (s1 = p0) := of_not_decide hk5
  rw [if_neg hk5] at h
  refine SQ (RG (MV rfl rfl (WR.store [_] H rfl rfl rfl (by repeat first | exact .head | apply Upd.tail) Tryz.sizeOf9 rfl (by rfl) (by rfl) (Wn.none rfl) ?_)))
  intro w H
  refine NL (TN (RT ?_))
  obtain rfl := oI h
  exact WQ.mret1 rfl ⟨_, rfl, H.load1 (by repeat first | exact kMh | apply kMt) Tryz.isAgg9 (by rfl)⟩ H.ext rfl
 ·
  replace hk5 : s1 = p0 := of_not_decide' hk5
  rw [if_pos hk5] at h
  refine SK (TN (SQ (SQ (RG (ST (Ex.load1 H rfl (by repeat first | exact kMh | apply kMt) Tryz.isAgg9 (by rfl)) rfl ?_)))))
  refine WR.callX (A := []) (B := [.blk bk4 (.cells #[I n2, I n3] 27), .blk bk2 (.cells #[S []] 9), .blk bk1 (.cells #[S p0] 9)]) H Y3d (Spl.all _) rfl trivial (Wn.none rfl) rfl ?_
  intro v16 M w its H hle hR
  replace hg_maxl := hg_maxl.mono hle
  replace hg_tabs := hg_tabs.mono hle
  obtain ⟨bk16_0, bk16_1, bk16_2, rfl, rfl⟩ := hR
  simp only [List.cons_append, List.nil_append] at H
  refine NL (TN (BL ?_))
  obtain ⟨o9, e10, h⟩ := bnd h
  refine WC.rangeS (A := [.blk bk16_0 (.cells #[S [32]] 9), .blk bk16_1 (.cells #[S p0] 9), .blk bk16_2 (.cells #[I 0] 3)]) (L := [.blk bk1 (.cells #[S p0] 9), .blk bk2 (.cells #[S []] 9)]) (B := []) (H.pick (L' := [.blk bk16_0 (.cells #[S [32]] 9), .blk bk16_1 (.cells #[S p0] 9), .blk bk16_2 (.cells #[I 0] 3), .blk bk1 (.cells #[S p0] 9), .blk bk2 (.cells #[S []] 9)]) (by repeat first | exact kPn | refine kPc (by repeat first | exact .head | apply Rem.tail) ?_)) rfl Y2V (.left (.left (.left (.left (.left (Spl.all _)))))) ⟨hg_maxl, hg_tabs⟩ rfl (fun s L M => ∃ (s6 : List UInt8) (tg8 : Nat), s = (s6, tg8) ∧ L = [.blk bk1 (.cells #[S p0] 9), .blk bk2 (.cells #[S s6] 9)] ∧ GlF (fun w => ∃ m, w.cell? ⟨2, 0, none⟩ = some (.int .i64 m)) M ∧ Tabs M) (fun s => exE [.ret] s.2) exStop (fun s => exE_stop _ s) (Y2K p0) ([], 0) o9 e10 (by rintro s L M M' ⟨s6, tg8, rfl, rfl, hg_maxl, hg_tabs⟩ hle; exact ⟨_, _, rfl, rfl, hg_maxl.mono hle, hg_tabs.mono hle⟩) rfl ⟨_, _, rfl, rfl, hg_maxl, hg_tabs⟩ ?_ ?_ ?_
  ·
   rintro lid7 rc7 hrc7 s x11 sx7 L wb7 Mb7 hE e12 ⟨s6, tg8, rfl, rfl, hg_maxl, hg_tabs⟩ H
   unfold Y2K at e12
   try dsimp only at e12
   refine RG (AS rfl rfl (NL (WQ.begin hrc7 H (by repeat first | exact .head | apply Upd.tail) ?_)))
   intro w H
   refine BL (SQ ?_)
   obtain ⟨o13, e14, e12⟩ := bnd e12
   refine WC.cutX (fun e w => ∃ (b15 : Bool) (M : Mem), e = [(1, ptr bk1 0), (2, ptr bk2 0), (24, Value.bool b15)] ∧ StX (feet (.blk lid7 (.loop (rc7 .ready none)) :: [.blk bk1 (.cells #[S p0] 9), .blk bk2 (.cells #[S s6] 9)])) wb7 Mb7 M [.blk bk1 (.cells #[S p0] 9), .blk bk2 (.cells #[S s6] 9), .blk lid7 (.loop (rc7 .busy none))] w ∧ GlF (fun w => ∃ m, w.cell? ⟨2, 0, none⟩ = some (.int .i64 m)) M ∧ Tabs M ∧ some b15 = some o13) [] ?_ ?_ (trivial)
   ·
    by_cases hk16 : x11 = []
    ·
     rw [if_pos hk16] at e14
     refine RG (MV rfl rfl (WR.stepE (v' := .bool true) (Ex.strEql rfl rfl) (congrArg Value.bool (decide_eq_true hk16)) (Wn.none rfl) rfl rfl (MV rfl rfl (WR.skipN 3 rfl rfl (PT rfl rfl rfl (NL ?_))))))
     exact WQ.meetN [(1, _), (2, _), (24, _)] ⟨rfl, rfl, rfl, trivial⟩ ⟨_, _, rfl, (H.pick (L' := [.blk bk1 (.cells #[S p0] 9), .blk bk2 (.cells #[S s6] 9), .blk lid7 (.loop (rc7 .busy none))]) (by repeat first | exact kPn | refine kPc (by repeat first | exact .head | apply Rem.tail) ?_)), hg_maxl, hg_tabs, e14⟩
    ·
     rw [if_neg hk16] at e14
     obtain ⟨b17, hx18, e14⟩ := bnd e14
     refine RG (MV rfl rfl (WR.stepE (v' := .bool false) (Ex.strEql rfl rfl) (congrArg Value.bool (decide_eq_false hk16)) (Wn.none rfl) rfl rfl (MV rfl rfl (SG (Ex.move rfl) rfl rfl rfl (WR.call H (Y3M hx18) rfl ((⟨⟨rfl, rfl⟩, (fun _ _ h => FnV.of (Y2C h) (fun _ _ => trivial))⟩ : FnT90 _ _ _)) (Wn.some rfl rfl rfl) rfl ?_)))))
     intro v22 M w H hle hR
     replace hg_maxl := hg_maxl.mono hle
     replace hg_tabs := hg_tabs.mono hle
     obtain rfl := hR
     refine SG (Ex.not rfl) rfl rfl rfl (PF rfl rfl rfl (NL ?_))
     exact WQ.meetN [(1, _), (2, _), (24, _)] ⟨rfl, rfl, rfl, trivial⟩ ⟨_, _, rfl, (H.pick (L' := [.blk bk1 (.cells #[S p0] 9), .blk bk2 (.cells #[S s6] 9), .blk lid7 (.loop (rc7 .busy none))]) (by repeat first | exact kPn | refine kPc (by repeat first | exact .head | apply Rem.tail) ?_)), hg_maxl, hg_tabs, e14⟩
   ·
    rintro e w ⟨b15, M, rfl, H, hg_maxl, hg_tabs, q19⟩
    obtain rfl := oI q19
    refine TN ?_
    refine WC.condB rfl (fun hk20 => ?_) (fun hk20 => ?_)
    ·
     subst hk20
     rw [if_pos rfl] at e12
     refine SQ ?_
     obtain ⟨s21, hx22, e12⟩ := bnd e12
     refine RG (ST (Ex.load1 H rfl (by repeat first | exact kMh | apply kMt) Tryz.isAgg9 (by rfl)) rfl ?_)
     refine WR.call H (Y2N hx22) rfl trivial (Wn.none rfl) rfl ?_
     intro v26 M w H hle hR
     replace hg_maxl := hg_maxl.mono hle
     replace hg_tabs := hg_tabs.mono hle
     obtain rfl := hR
     refine WR.store [_] H rfl rfl rfl (by repeat first | exact .head | apply Upd.tail) Tryz.sizeOf9 rfl (by rfl) (by rfl) (Wn.none rfl) ?_
     intro w H
     refine NL (TN (RT ?_))
     obtain rfl := oI e12
     exact WQ.rsRet hrc7 (H.pick (L' := [.blk lid7 (.loop (rc7 .busy none)), .blk bk1 (.cells #[S p0] 9), .blk bk2 (.cells #[S s21] 9)]) (by repeat first | exact kPn | refine kPc (by repeat first | exact .head | apply Rem.tail) ?_)) rfl ⟨_, _, rfl, rfl, hg_maxl, hg_tabs⟩
    ·
     subst hk20
     rw [if_neg Bool.false_ne_true] at e12
     refine SK (IB ?_)
     obtain rfl := oI e12
     exact WQ.rsOn hrc7 (H.pick (L' := [.blk lid7 (.loop (rc7 .busy none)), .blk bk1 (.cells #[S p0] 9), .blk bk2 (.cells #[S s6] 9)]) (by repeat first | exact kPn | refine kPc (by repeat first | exact .head | apply Rem.tail) ?_)) rfl ⟨_, _, rfl, rfl, hg_maxl, hg_tabs⟩
  ·
   rintro Dm7 w M L H hle hE ⟨s6, tg8, rfl, rfl, hg_maxl, hg_tabs⟩
   simp only [List.cons_append, List.nil_append, List.append_nil] at H
   try dsimp only at h
   obtain rfl := exE_none hE
   rw [if_pos rfl] at h
   refine IB (TN (SQ (RG (ST (Ex.load1 H rfl (by repeat first | exact kMh | apply kMt) Tryz.isAgg9 (by rfl)) rfl ?_))))
   refine WR.store [_] H rfl rfl rfl (by repeat first | exact .head | apply Upd.tail) Tryz.sizeOf9 rfl (by rfl) (by rfl) (Wn.none rfl) ?_
   intro w H
   refine NL (TN (RT ?_))
   obtain rfl := oI h
   exact WQ.nret1 rfl H (by repeat first | exact .head | apply Rem.tail) (fun w H => ⟨_, rfl, H.load1 (by repeat first | exact kMh | apply kMt) Tryz.isAgg9 (by rfl)⟩) rfl
  ·
   rintro Dm7 w M L c H hle hE ⟨s6, tg8, rfl, rfl, hg_maxl, hg_tabs⟩
   simp only [List.cons_append, List.nil_append, List.append_nil] at H
   try dsimp only at h
   by_cases kt7 : tg8 = 1
   ·
    subst kt7
    obtain rfl := oI hE
    rw [if_neg (by decide), if_pos rfl] at h
    refine RT ?_
    obtain rfl := oI h
    exact WQ.nret1 rfl H (by repeat first | exact .head | apply Rem.tail) (fun w H => ⟨_, rfl, H.load1 (by repeat first | exact kMh | apply kMt) Tryz.isAgg9 (by rfl)⟩) rfl
   ·
    have kn7_1 := kt7
    rw [if_neg (exE_ne hE), if_neg kn7_1] at h; cases h
theorem Y46 {p0 : (List UInt8 × List UInt8 × List UInt8)} {r : List UInt8} (h : Y39 p0 = some r) : Ct Tryz.prog 40 [Value.agg #[S p0.1, S p0.2.1, S p0.2.2]] (fun M => GlF (fun w => ∃ m, w.cell? ⟨2, 0, none⟩ = some (.int .i64 m)) M ∧ Tabs M) (fun v M => v = S r) := by
 refine Ct.of Tryz.func40 (enters Tryz.func40 (by kernel_rfl) rfl) rfl rfl rfl ?_
 intro w0 M0 H hp
 obtain ⟨hg_maxl, hg_tabs⟩ := hp
 unfold Y39 at h
 refine SQ (RG (WR.box [_, _, _] H rfl rfl (Wn.none rfl) rfl ?_))
 intro bk1 w H
 refine AS rfl rfl (NL (TN (SQ (SQ (RG (ST (Ex.fieldAddr Tryz.underlying24 rfl Tryz.sizeOf9 (by decide) rfl) rfl (ST (Ex.load1 H rfl (by repeat first | exact kMh | apply kMt) Tryz.isAgg9 (by rfl)) rfl ?_)))))))
 refine ST (Ex.strEql rfl rfl) rfl (NL (TN ?_))
 refine WC.condB rfl (fun hk1 => ?_) (fun hk1 => ?_)
 ·
  replace hk1 : p0.1 = [] := of_decide_eq_true hk1
  rw [if_pos hk1] at h
  refine SQ ?_
  obtain ⟨s2, hx3, h⟩ := bnd h
  refine RG (ST (Ex.loadAgg H rfl (by repeat first | exact kMh | apply kMt) Tryz.isAgg24 Tryz.sizeOf24 (by rfl)) rfl ?_)
  refine WR.call H (Y1e hx3) rfl ⟨hg_maxl, hg_tabs⟩ (Wn.none rfl) rfl ?_
  intro v7 M w H hle hR
  replace hg_maxl := hg_maxl.mono hle
  replace hg_tabs := hg_tabs.mono hle
  obtain rfl := hR
  refine AS rfl rfl (NL (TN (RT ?_)))
  obtain rfl := oI h
  exact WQ.ret1 rfl rfl H.ext rfl
 ·
  replace hk1 : ¬ (p0.1 = []) := of_decide_eq_false hk1
  rw [if_neg hk1] at h
  refine SK (TN (SQ ?_))
  obtain ⟨s4, hx5, h⟩ := bnd h
  obtain ⟨s6, hxs6, h⟩ := bnd h
  obtain ⟨s7, hx8, h⟩ := bnd h
  obtain ⟨s9, hxs9, h⟩ := bnd h
  obtain ⟨s10, hxs10, h⟩ := bnd h
  refine WC.cutP (fun e w => ∃  (M : Mem), e = [(2, S s10)] ∧ St w0 M0 M [] w ∧ GlF (fun w => ∃ m, w.cell? ⟨2, 0, none⟩ = some (.int .i64 m)) M ∧ Tabs M) ?_ ?_
  ·
   refine WC.draw (m := 9) rfl rfl H ?_
   intro w H
   refine WA.take (i := 0) rfl (by kernel_rfl) (by kernel_rfl) (by kernel_rfl) (fun _ => Ex.fieldAddr Tryz.underlying24 rfl Tryz.sizeOf9 (by decide) rfl) (Wn.none rfl) rfl rfl (fun _ _ => rfl) (WA.takeM (i := 1) [4] rfl (by kernel_rfl) (by kernel_rfl) (by kernel_rfl) (Ex.load1 H rfl (by repeat first | exact kMh | apply kMt) Tryz.isAgg9 (by rfl)) (Wn.none rfl) rfl rfl (fun _ _ => rfl) ?_)
   refine WA.two (i := 2) (j := 4) (by kernel_rfl) rfl rfl ?_ ?_
   ·
    refine WR.call H (Y2O hx5) rfl ⟨hg_maxl, hg_tabs⟩ (Wn.none rfl) rfl ?_
    intro v10 M w H hle hR
    replace hg_maxl := hg_maxl.mono hle
    replace hg_tabs := hg_tabs.mono hle
    obtain rfl := hR
    refine NA (WA.take (i := 3) rfl (by kernel_rfl) (by kernel_rfl) (by kernel_rfl) (fun _ => Ex.strAddC rfl rfl hxs6) (Wn.none rfl) rfl rfl (fun _ _ => rfl) (WA.seq (fuel := 0) [4, 5, 6, 7, 8] rfl (by kernel_rfl) (ST (Ex.loadAgg H rfl (by repeat first | exact kMh | apply kMt) Tryz.isAgg24 Tryz.sizeOf24 (by rfl)) rfl ?_)))
    refine WR.call H (Y1e hx8) rfl ⟨hg_maxl, hg_tabs⟩ (Wn.none rfl) rfl ?_
    intro v13 M w H hle hR
    replace hg_maxl := hg_maxl.mono hle
    replace hg_tabs := hg_tabs.mono hle
    obtain rfl := hR
    refine ST (Ex.strAddC rfl rfl hxs9) rfl (ST (Ex.strAddC rfl rfl hxs10) rfl (AS rfl rfl (NA (WA.done (by kernel_rfl) ?_))))
    exact WQ.meetP [(2, _)] ⟨rfl, trivial⟩ ⟨_, rfl, (H.pick (L' := []) (by repeat first | exact kPn | refine kPc (by repeat first | exact .head | apply Rem.tail) ?_)), hg_maxl, hg_tabs⟩
   ·
    refine ST (Ex.loadAgg H rfl (by repeat first | exact kMh | apply kMt) Tryz.isAgg24 Tryz.sizeOf24 (by rfl)) rfl ?_
    refine NA (ON 2 (by kernel_rfl) rfl (WR.call H (Y2O hx5) rfl ⟨hg_maxl, hg_tabs⟩ (Wn.none rfl) rfl ?_))
    intro v10 M w H hle hR
    replace hg_maxl := hg_maxl.mono hle
    replace hg_tabs := hg_tabs.mono hle
    obtain rfl := hR
    refine NA (WA.take (i := 3) rfl (by kernel_rfl) (by kernel_rfl) (by kernel_rfl) (fun _ => Ex.strAddC rfl rfl hxs6) (Wn.none rfl) rfl rfl (fun _ _ => rfl) (WA.seq (fuel := 0) [5, 6, 7, 8] rfl (by kernel_rfl) (WR.call H (Y1e hx8) rfl ⟨hg_maxl, hg_tabs⟩ (Wn.none rfl) rfl ?_)))
    intro v13 M w H hle hR
    replace hg_maxl := hg_maxl.mono hle
    replace hg_tabs := hg_tabs.mono hle
    obtain rfl := hR
    refine ST (Ex.strAddC rfl rfl hxs9) rfl (ST (Ex.strAddC rfl rfl hxs10) rfl (AS rfl rfl (NA (WA.done (by kernel_rfl) ?_))))
    exact WQ.meetP [(2, _)] ⟨rfl, trivial⟩ ⟨_, rfl, (H.pick (L' := []) (by repeat first | exact kPn | refine kPc (by repeat first | exact .head | apply Rem.tail) ?_)), hg_maxl, hg_tabs⟩
  ·
   rintro e w ⟨M, rfl, H, hg_maxl, hg_tabs⟩
   refine TN (RT ?_)
   obtain rfl := oI h
   exact WQ.ret1 rfl rfl H.ext rfl
theorem Y3m {p0 : List UInt8} {p1 : List UInt8} {r : List UInt8} (h : Y11 p0 p1 = some r) : Ct Tryz.prog 77 [S p0, S p1] (fun M => True) (fun v M => v = S r) := by
 refine Ct.of Tryz.func77 (enters Tryz.func77 (by kernel_rfl) rfl) rfl rfl rfl ?_
 intro w0 M0 H hp
 unfold Y11 at h
 refine SQ (RG (AS rfl rfl (NL (TN (SQ (SQ ?_))))))
 obtain ⟨b1, hx2, h⟩ := bnd h
 refine RG (MV rfl rfl (MV rfl rfl (WR.call H (Y2x hx2) rfl trivial (Wn.none rfl) rfl ?_)))
 intro v7 M w H hle hR
 obtain rfl := hR
 refine NL (TN ?_)
 refine WC.condB rfl (fun hk3 => ?_) (fun hk3 => ?_)
 ·
  subst hk3
  rw [if_pos rfl] at h
  refine SQ ?_
  obtain ⟨n4, hxn4, h⟩ := bnd h
  obtain ⟨s5, hxs5, h⟩ := bnd h
  refine RG (MV rfl rfl (MV rfl rfl (ST (Ex.lenStr Tryz.underlying9 rfl) rfl (MV rfl rfl (ST (Ex.lenStr Tryz.underlying9 rfl) rfl (ST (Ex.subC rfl rfl hxn4) rfl (ST (Ex.sliceH Tryz.underlying9 rfl rfl hxs5) rfl (AS rfl rfl (NL (TN (RT ?_)))))))))))
  obtain rfl := oI h
  exact WQ.ret1 rfl rfl H.ext rfl
 ·
  subst hk3
  rw [if_neg Bool.false_ne_true] at h
  refine SK (TN (SQ (RG (MV rfl rfl (AS rfl rfl (NL (TN (RT ?_))))))))
  obtain rfl := oI h
  exact WQ.ret1 rfl rfl H.ext rfl
theorem Y3O {p0 : List UInt8} {p1 : List UInt8} {r : List UInt8} (h : Y1C p0 p1 = some r) : Ct Tryz.prog 42 [S p0, S p1] (fun M => True) (fun v M => v = S r) := by
 refine Ct.of Tryz.func42 (enters Tryz.func42 (by kernel_rfl) rfl) rfl rfl rfl ?_
 intro w0 M0 H hp
 unfold Y1C at h
 refine SQ (RG (AS rfl rfl (NL (TN (SQ ?_)))))
 obtain ⟨s1, hx2, h⟩ := bnd h
 refine RG (MV rfl rfl (MV rfl rfl (WR.call H (Y3m hx2) rfl trivial (Wn.none rfl) rfl ?_)))
 intro v7 M w H hle hR
 obtain rfl := hR
 refine AS rfl rfl (NL (TN (RT ?_)))
 obtain rfl := oI h
 exact WQ.ret1 rfl rfl H.ext rfl
theorem Y4j {p0 : List (List UInt8 × Bool × List (List UInt8 × List UInt8 × List UInt8))} {vp0 : Value} {r : (List UInt8 × (Int × Int))} (h : Y3A p0 = some r) : Ct Tryz.prog 16 [vp0] (fun M => GlF (fun w => ∃ m, w.cell? ⟨2, 0, none⟩ = some (.int .i64 m)) M ∧ Tabs M ∧ SlR xrl34 M vp0 p0) (fun v M => v = Value.tuple #[S r.1, Value.agg #[I r.2.1, I r.2.2]]) := by
 refine Ct.of Tryz.func16 (enters Tryz.func16 (by kernel_rfl) rfl) rfl rfl rfl ?_
 intro w0 M0 H hp
 obtain ⟨hg_maxl, hg_tabs, hp0⟩ := hp
 unfold Y3A at h
 refine SQ (RG (AS rfl rfl (WR.alloc [_, _] H Tryz.zeroValue27 rfl (Wn.none rfl) rfl ?_)))
 intro bk3 w H
 refine NL (TN (SQ (SQ ?_)))
 obtain ⟨⟨n1, n2⟩, hx3, h⟩ := bnd h
 try dsimp only at h
 refine RG (MV rfl rfl (WR.call H (Y1X hx3) rfl ⟨hg_maxl, hg_tabs, hp0⟩ (Wn.none rfl) rfl ?_))
 intro v14 M w H hle hR
 replace hg_maxl := hg_maxl.mono hle
 replace hg_tabs := hg_tabs.mono hle
 replace hp0 := hp0.mono hle
 try dsimp only at hR
 obtain rfl := hR
 refine WR.alloc [_, _] H Tryz.zeroValue27 rfl (Wn.none rfl) rfl ?_
 intro bk4 w H
 refine WR.store [_, _] H rfl rfl rfl (by repeat first | exact .head | apply Upd.tail) Tryz.sizeOf27 rfl (by rfl) (by rfl) (Wn.none rfl) ?_
 intro w H
 refine NL (TN (SQ ?_))
 obtain ⟨b4, hx5, h⟩ := bnd h
 refine RG (ST (Ex.loadAgg H rfl (by repeat first | exact kMh | apply kMt) Tryz.isAgg27 Tryz.sizeOf27 (by rfl)) rfl ?_)
 refine WR.call H (Y1O hx5) rfl trivial (Wn.none rfl) rfl ?_
 intro v16 M w H hle hR
 replace hg_maxl := hg_maxl.mono hle
 replace hg_tabs := hg_tabs.mono hle
 replace hp0 := hp0.mono hle
 obtain rfl := hR
 refine NL (TN ?_)
 refine WC.condB rfl (fun hk6 => ?_) (fun hk6 => ?_)
 ·
  subst hk6
  rw [if_pos rfl] at h
  refine SQ (WC.draw (m := 3) rfl rfl H ?_)
  intro w H
  refine WA.take (i := 1) rfl (by kernel_rfl) (by kernel_rfl) (by kernel_rfl) (fun _ => Ex.assign rfl) (Wn.none rfl) rfl rfl (fun _ _ => rfl) (WA.seq (fuel := 0) [0, 2] rfl (by kernel_rfl) (ST (Ex.loadAgg H rfl (by repeat first | exact kMh | apply kMt) Tryz.isAgg27 Tryz.sizeOf27 (by rfl)) rfl ?_))
  refine WR.store [_, _] H rfl rfl rfl (by repeat first | exact .head | apply Upd.tail) Tryz.sizeOf27 rfl (by rfl) (by rfl) (Wn.none rfl) ?_
  intro w H
  refine NA (WA.done (by kernel_rfl) (TN (RT ?_)))
  obtain rfl := oI h
  exact WQ.ret2 rfl rfl ⟨_, rfl, H.loadAgg (by repeat first | exact kMh | apply kMt) Tryz.isAgg27 Tryz.sizeOf27 (by rfl)⟩ H.ext rfl
 ·
  subst hk6
  rw [if_neg Bool.false_ne_true] at h
  refine SK (TN (SQ (RG (AS rfl rfl (NL (TN (SQ (SQ (RG (MV rfl rfl (ST (Ex.lenSlR Tryz.underlying22 hp0 rfl) rfl (MV rfl rfl (NL (TN ?_))))))))))))))
  obtain ⟨o7, e8, h⟩ := bnd h
  refine WC.cutX (fun e w => ∃ (l10 : List (List UInt8)) (v11 : Value) (M : Mem), e = [(3, ptr bk3 0), (5, v11)] ∧ St w0 M0 M [.blk bk3 (.cells #[I 0, I 0] 27), RowI 9 encS v11 l10] w ∧ GlF (fun w => ∃ m, w.cell? ⟨2, 0, none⟩ = some (.int .i64 m)) M ∧ Tabs M ∧ some l10 = some o7) [] ?_ ?_ (trivial)
  ·
   refine BL ?_
   replace H := H.newRow 9 encS
   refine WC.loopP (fun m e w => ∃ (l13 : List (List UInt8)) (v14 : Value) (n15 : Int) (M : Mem), e = [(3, ptr bk3 0), (5, v14), (18, vp0), (19, I (p0.length : Int)), (20, I n15)] ∧ St w0 M0 M [.blk bk3 (.cells #[I 0, I 0] 27), RowI 9 encS v14 l13] w ∧ GlF (fun w => ∃ m, w.cell? ⟨2, 0, none⟩ = some (.int .i64 m)) M ∧ Tabs M ∧ SlR xrl34 M vp0 p0 ∧ Y1W p0 m l13 n15 = some o7) FU [(3, _), (5, _), (18, _), (19, _), (20, _)] ⟨rfl, rfl, rfl, rfl, rfl, trivial⟩ ⟨_, _, _, _, rfl, (H.pick (L' := [.blk bk3 (.cells #[I 0, I 0] 27), RowI 9 encS (Value.slice none 0 0) []]) (by repeat first | exact kPn | refine kPc (by repeat first | exact .head | apply Rem.tail) ?_)), hg_maxl, hg_tabs, hp0, e8⟩ ?_
   rintro m16 e w ⟨l13, v14, n15, M, rfl, H, hg_maxl, hg_tabs, hp0, e8⟩
   rcases m16 with _ | m16
   · rw [Y1W] at e8; cases e8
   rw [Y1W] at e8
   refine SQ (RG (ST (Ex.lss rfl rfl) rfl (NL (TN (SQ ?_)))))
   refine WC.condB rfl (fun hk18 => ?_) (fun hk18 => ?_)
   ·
    replace hk18 : n15 < (p0.length : Int) := of_decide_eq_true hk18
    rw [if_pos hk18] at e8
    refine SK (TN (SQ (BL (SQ ?_))))
    obtain ⟨a19, hxa19, e8⟩ := bnd e8
    obtain ⟨bk22, o22, fq22, ha22, hc22, hr22⟩ := hp0.atC hxa19
    obtain ⟨f22_0, f22_1, q22_2⟩ := fq22
    replace hr22 : f22_0 = a19.1 ∧ f22_1 = a19.2.1 ∧ SlS M 3 xenc24 (hv q22_2) a19.2.2 := hr22
    obtain ⟨rfl, rfl, hs22_2⟩ := hr22
    refine RG (ST (Ex.idxAt ha22 Tryz.underlying22 Tryz.sizeOf34 rfl rfl) rfl (ST (Ex.loadAggM H rfl hc22 Tryz.isAgg34 Tryz.sizeOf34 (by rfl)) rfl ?_))
    refine WR.alloc [_, _, _] H Tryz.zeroValue34 rfl (Wn.none rfl) rfl ?_
    intro bk7 w H
    refine WR.store [_, _, _] H rfl rfl rfl (by repeat first | exact .head | apply Upd.tail) Tryz.sizeOf34 rfl (by rfl) (by simp only [List.all_cons, List.all_nil, (hs22_2).one.2]; rfl) (Wn.none rfl) ?_
    intro w H
    refine NL (TN (SQ (RG (AS rfl rfl (NL (TN (SQ (SQ (RG (ST (Ex.fieldAddr Tryz.underlying34 rfl Tryz.sizeOf30 (by decide) rfl) rfl (ST (Ex.load1 H rfl (by repeat first | exact kMh | apply kMt) Tryz.isAgg30 (by rfl)) rfl ?_)))))))))))
    refine ST (Ex.lenSlS Tryz.underlying30 hs22_2 rfl) rfl (MV rfl rfl (NL (TN ?_)))
    obtain ⟨o20, e21, e8⟩ := bnd e8
    refine WC.cutX (fun e w => ∃ (l23 : List (List UInt8)) (v24 : Value) (M : Mem), e = [(3, ptr bk3 0), (5, v14), (7, ptr bk7 0), (8, v24), (18, vp0), (19, I (p0.length : Int)), (20, I n15)] ∧ St w0 M0 M [.blk bk3 (.cells #[I 0, I 0] 27), RowI 9 encS v14 l13, .blk bk7 (.cells #[S a19.1, Value.bool a19.2.1, (hv q22_2)] 34), RowI 9 encS v24 l23] w ∧ GlF (fun w => ∃ m, w.cell? ⟨2, 0, none⟩ = some (.int .i64 m)) M ∧ Tabs M ∧ SlS M 3 xenc24 (hv q22_2) a19.2.2 ∧ SlR xrl34 M vp0 p0 ∧ some l23 = some o20) [] ?_ ?_ (trivial)
    ·
     refine BL ?_
     replace H := H.newRow 9 encS
     refine WC.loopP (fun m e w => ∃ (l26 : List (List UInt8)) (v27 : Value) (n28 : Int) (M : Mem), e = [(3, ptr bk3 0), (5, v14), (7, ptr bk7 0), (8, v27), (18, vp0), (19, I (p0.length : Int)), (20, I n15), (25, (hv q22_2)), (26, I (a19.2.2.length : Int)), (27, I n28)] ∧ St w0 M0 M [.blk bk3 (.cells #[I 0, I 0] 27), RowI 9 encS v14 l13, .blk bk7 (.cells #[S a19.1, Value.bool a19.2.1, (hv q22_2)] 34), RowI 9 encS v27 l26] w ∧ GlF (fun w => ∃ m, w.cell? ⟨2, 0, none⟩ = some (.int .i64 m)) M ∧ Tabs M ∧ SlS M 3 xenc24 (hv q22_2) a19.2.2 ∧ SlR xrl34 M vp0 p0 ∧ Y1V a19 m l26 n28 = some o20) FU [(3, _), (5, _), (7, _), (8, _), (18, _), (19, _), (20, _), (25, _), (26, _), (27, _)] ⟨rfl, rfl, rfl, rfl, rfl, rfl, rfl, rfl, rfl, rfl, trivial⟩ ⟨_, _, _, _, rfl, (H.pick (L' := [.blk bk3 (.cells #[I 0, I 0] 27), RowI 9 encS v14 l13, .blk bk7 (.cells #[S a19.1, Value.bool a19.2.1, (hv q22_2)] 34), RowI 9 encS (Value.slice none 0 0) []]) (by repeat first | exact kPn | refine kPc (by repeat first | exact .head | apply Rem.tail) ?_)), hg_maxl, hg_tabs, hs22_2, hp0, e21⟩ ?_
     rintro m29 e w ⟨l26, v27, n28, M, rfl, H, hg_maxl, hg_tabs, hs22_2, hp0, e21⟩
     rcases m29 with _ | m29
     · rw [Y1V] at e21; cases e21
     rw [Y1V] at e21
     refine SQ (RG (ST (Ex.lss rfl rfl) rfl (NL (TN (SQ ?_)))))
     refine WC.condB rfl (fun hk31 => ?_) (fun hk31 => ?_)
     ·
      replace hk31 : n28 < (a19.2.2.length : Int) := of_decide_eq_true hk31
      rw [if_pos hk31] at e21
      refine SK (TN (SQ (BL (SQ ?_))))
      obtain ⟨a32, hxa32, e21⟩ := bnd e21
      obtain ⟨bk29, o29, ha29, hc29⟩ := hs22_2.atC hxa32
      refine RG (ST (Ex.idxAt ha29 Tryz.underlying30 Tryz.sizeOf24 rfl rfl) rfl (ST (Ex.loadAggM H rfl hc29 Tryz.isAgg24 Tryz.sizeOf24 (by rfl)) rfl ?_))
      refine WR.alloc [_, _, _] H Tryz.zeroValue24 rfl (Wn.none rfl) rfl ?_
      intro bk10 w H
      refine WR.store [_, _, _] H rfl rfl rfl (by repeat first | exact .head | apply Upd.tail) Tryz.sizeOf24 rfl (by rfl) (by rfl) (Wn.none rfl) ?_
      intro w H
      refine NL (TN ?_)
      obtain ⟨s33, hx34, e21⟩ := bnd e21
      obtain ⟨l35, hxl35, e21⟩ := bnd e21
      refine RG (MV rfl rfl (ST (Ex.loadAgg H rfl (by repeat first | exact kMh | apply kMt) Tryz.isAgg24 Tryz.sizeOf24 (by rfl)) rfl ?_))
      refine WR.call H (Y46 hx34) rfl ⟨hg_maxl, hg_tabs⟩ (Wn.none rfl) rfl ?_
      intro v33 M w H hle hR
      replace hg_maxl := hg_maxl.mono hle
      replace hg_tabs := hg_tabs.mono hle
      replace hp0 := hp0.mono hle
      replace hs22_2 := hs22_2.mono hle
      replace hc29 := hc29.mono hle
      obtain rfl := hR
      refine WR.lit (enc := encS) xty55 ([s33] : List (List UInt8)) H rfl (by rfl) (fun _ => rfl) rfl rfl (Wn.none rfl) rfl ?_
      intro v34 M w H hle hs34
      replace hg_maxl := hg_maxl.mono hle
      replace hg_tabs := hg_tabs.mono hle
      replace hp0 := hp0.mono hle
      replace hs22_2 := hs22_2.mono hle
      replace hc29 := hc29.mono hle
      refine WR.appC (l := l26) xty55 rfl (fun _ => rfl) H rfl (fun _ => by repeat first | exact .head | apply Upd.tail) rfl (hs34) hxl35 (Wn.none rfl) rfl ?_
      intro v35 w H
      refine AS rfl rfl (NL (IB (TN ?_)))
      obtain ⟨n36, hxn36, e21⟩ := bnd e21
      refine RG (ST (Ex.addC rfl rfl hxn36) rfl (MV rfl rfl (NL ?_)))
      exact WQ.againP m29 [(3, _), (5, _), (7, _), (8, _), (18, _), (19, _), (20, _), (25, _), (26, _), (27, _)] ⟨rfl, rfl, rfl, rfl, rfl, rfl, rfl, rfl, rfl, rfl, trivial⟩ ⟨_, _, _, _, rfl, (H.pick (L' := [.blk bk3 (.cells #[I 0, I 0] 27), RowI 9 encS v14 l13, .blk bk7 (.cells #[S a19.1, Value.bool a19.2.1, (hv q22_2)] 34), RowI 9 encS v35 l35]) (by repeat first | exact kPn | refine kPc (by repeat first | exact .head | apply Rem.tail) ?_)), hg_maxl, hg_tabs, hs22_2, hp0, e21⟩ (Nat.lt_succ_self _)
     ·
      replace hk31 : ¬ (n28 < (a19.2.2.length : Int)) := of_decide_eq_false hk31
      rw [if_neg hk31] at e21
      refine WC.exit (WQ.thenExit (WQ.thenExit (WQ.exitHere ?_)))
      exact WQ.meetN [(3, _), (5, _), (7, _), (8, _), (18, _), (19, _), (20, _)] ⟨rfl, rfl, rfl, rfl, rfl, rfl, rfl, trivial⟩ ⟨_, _, _, rfl, H, hg_maxl, hg_tabs, hs22_2, hp0, e21⟩
    ·
     rintro e w ⟨l23, v24, M, rfl, H, hg_maxl, hg_tabs, hs22_2, hp0, q37⟩
     obtain rfl := oI q37
     refine TN (SQ ?_)
     obtain ⟨s39, hx40, e8⟩ := bnd e8
     refine RG (MV rfl rfl ?_)
     obtain ⟨M, hle, hs38, H⟩ := H.freezeRow (v := v24) (enc := encS) (t := 9) (by repeat first | exact .head | apply Rem.tail)
     replace hg_maxl := hg_maxl.mono hle
     replace hg_tabs := hg_tabs.mono hle
     replace hp0 := hp0.mono hle
     replace hs22_2 := hs22_2.mono hle
     refine WR.call H (Y2B hx40) rfl (hs38) (Wn.none rfl) rfl ?_
     intro v38 M w H hle hR
     replace hg_maxl := hg_maxl.mono hle
     replace hg_tabs := hg_tabs.mono hle
     replace hp0 := hp0.mono hle
     replace hs22_2 := hs22_2.mono hle
     replace hs38 := hs38.mono hle
     obtain rfl := hR
     refine AS rfl rfl (NL (TN (SQ (SQ (RG (ST (Ex.fieldAddr Tryz.underlying34 rfl Tryz.sizeOf4 (by decide) rfl) rfl (ST (Ex.load1 H rfl (by repeat first | exact kMh | apply kMt) Tryz.isAgg4 (by rfl)) rfl ?_)))))))
     refine NL (TN ?_)
     obtain ⟨o41, e42, e8⟩ := bnd e8
     refine WC.cutX (fun e w => ∃ (s43 : List UInt8) (M : Mem), e = [(3, ptr bk3 0), (5, v14), (11, S s43), (18, vp0), (19, I (p0.length : Int)), (20, I n15)] ∧ St w0 M0 M [.blk bk3 (.cells #[I 0, I 0] 27), RowI 9 encS v14 l13] w ∧ GlF (fun w => ∃ m, w.cell? ⟨2, 0, none⟩ = some (.int .i64 m)) M ∧ Tabs M ∧ SlR xrl34 M vp0 p0 ∧ some s43 = some o41) [] ?_ ?_ (trivial)
     ·
      refine WC.condB rfl (fun hk44 => ?_) (fun hk44 => ?_)
      ·
       rw [if_pos hk44] at e42
       obtain ⟨s45, hx46, e42⟩ := bnd e42
       obtain ⟨s47, hxs47, e42⟩ := bnd e42
       obtain ⟨s48, hxs48, e42⟩ := bnd e42
       obtain ⟨s49, hx50, e42⟩ := bnd e42
       obtain ⟨s51, hxs51, e42⟩ := bnd e42
       refine RG (ST (Ex.fieldAddr Tryz.underlying34 rfl Tryz.sizeOf9 (by decide) rfl) rfl (ST (Ex.load1 H rfl (by repeat first | exact kMh | apply kMt) Tryz.isAgg9 (by rfl)) rfl ?_))
       refine WR.call H (Y2O hx46) rfl ⟨hg_maxl, hg_tabs⟩ (Wn.none rfl) rfl ?_
       intro v43 M w H hle hR
       replace hg_maxl := hg_maxl.mono hle
       replace hg_tabs := hg_tabs.mono hle
       replace hs38 := hs38.mono hle
       replace hp0 := hp0.mono hle
       replace hs22_2 := hs22_2.mono hle
       obtain rfl := hR
       refine ST (Ex.strAddC rfl rfl hxs47) rfl (MV rfl rfl (ST (Ex.strAddC rfl rfl hxs48) rfl (WR.call H (Y3O hx50) rfl trivial (Wn.none rfl) rfl ?_)))
       intro v47 M w H hle hR
       replace hg_maxl := hg_maxl.mono hle
       replace hg_tabs := hg_tabs.mono hle
       replace hs38 := hs38.mono hle
       replace hp0 := hp0.mono hle
       replace hs22_2 := hs22_2.mono hle
       obtain rfl := hR
       refine ST (Ex.strAddC rfl rfl hxs51) rfl (AS rfl rfl (NL ?_))
       exact WQ.meetN [(3, _), (5, _), (11, _), (18, _), (19, _), (20, _)] ⟨rfl, rfl, rfl, rfl, rfl, rfl, trivial⟩ ⟨_, _, rfl, (H.pick (L' := [.blk bk3 (.cells #[I 0, I 0] 27), RowI 9 encS v14 l13]) (by repeat first | exact kPn | refine kPc (by repeat first | exact .head | apply Rem.tail) ?_)), hg_maxl, hg_tabs, hp0, e42⟩
      ·
       rw [if_neg (by rw [hk44]; exact Bool.false_ne_true)] at e42
       refine SK ?_
       exact WQ.meetN [(3, _), (5, _), (11, _), (18, _), (19, _), (20, _)] ⟨rfl, rfl, rfl, rfl, rfl, rfl, trivial⟩ ⟨_, _, rfl, (H.pick (L' := [.blk bk3 (.cells #[I 0, I 0] 27), RowI 9 encS v14 l13]) (by repeat first | exact kPn | refine kPc (by repeat first | exact .head | apply Rem.tail) ?_)), hg_maxl, hg_tabs, hp0, e42⟩
     ·
      rintro e w ⟨s43, M, rfl, H, hg_maxl, hg_tabs, hp0, q52⟩
      obtain rfl := oI q52
      refine TN ?_
      obtain ⟨l53, hxl53, e8⟩ := bnd e8
      refine RG (MV rfl rfl (MV rfl rfl (WR.lit (enc := encS) xty55 ([s43] : List (List UInt8)) H rfl (by rfl) (fun _ => rfl) rfl rfl (Wn.none rfl) rfl ?_)))
      intro v51 M w H hle hs51
      replace hg_maxl := hg_maxl.mono hle
      replace hg_tabs := hg_tabs.mono hle
      replace hp0 := hp0.mono hle
      refine WR.appC (l := l13) xty55 rfl (fun _ => rfl) H rfl (fun _ => by repeat first | exact .head | apply Upd.tail) rfl (hs51) hxl53 (Wn.none rfl) rfl ?_
      intro v52 w H
      refine AS rfl rfl (NL (IB (TN ?_)))
      obtain ⟨n54, hxn54, e8⟩ := bnd e8
      refine RG (ST (Ex.addC rfl rfl hxn54) rfl (MV rfl rfl (NL ?_)))
      exact WQ.againP m16 [(3, _), (5, _), (18, _), (19, _), (20, _)] ⟨rfl, rfl, rfl, rfl, rfl, trivial⟩ ⟨_, _, _, _, rfl, H, hg_maxl, hg_tabs, hp0, e8⟩ (Nat.lt_succ_self _)
   ·
    replace hk18 : ¬ (n15 < (p0.length : Int)) := of_decide_eq_false hk18
    rw [if_neg hk18] at e8
    refine WC.exit (WQ.thenExit (WQ.thenExit (WQ.exitHere ?_)))
    exact WQ.meetN [(3, _), (5, _)] ⟨rfl, rfl, trivial⟩ ⟨_, _, _, rfl, H, hg_maxl, hg_tabs, e8⟩
  ·
   rintro e w ⟨l10, v11, M, rfl, H, hg_maxl, hg_tabs, q55⟩
   obtain rfl := oI q55
   refine TN (SQ ?_)
   obtain ⟨s57, hx58, h⟩ := bnd h
   refine RG (MV rfl rfl ?_)
   obtain ⟨M, hle, hs56, H⟩ := H.freezeRow (v := v11) (enc := encS) (t := 9) (by repeat first | exact .head | apply Rem.tail)
   replace hg_maxl := hg_maxl.mono hle
   replace hg_tabs := hg_tabs.mono hle
   refine WR.call H (Y2B hx58) rfl (hs56) (Wn.none rfl) rfl ?_
   intro v55 M w H hle hR
   replace hg_maxl := hg_maxl.mono hle
   replace hg_tabs := hg_tabs.mono hle
   replace hs56 := hs56.mono hle
   obtain rfl := hR
   refine AS rfl rfl (NL (TN (SQ (SQ (RG (MV rfl rfl (ST (Ex.lenStr Tryz.underlying9 rfl) rfl (ST (Ex.gtr rfl rfl) rfl (NL (TN ?_))))))))))
   refine WC.condB rfl (fun hk59 => ?_) (fun hk59 => ?_)
   ·
    replace hk59 : (4000 : Int) < (s57.length : Int) := of_decide_eq_true hk59
    rw [if_pos hk59] at h
    refine SQ ?_
    obtain ⟨⟨n60, n61⟩, hx62, h⟩ := bnd h
    try dsimp only at h
    refine RG (WR.call H (Y0D hx62) rfl trivial (Wn.none rfl) rfl ?_)
    intro v59 M w H hle hR
    replace hg_maxl := hg_maxl.mono hle
    replace hg_tabs := hg_tabs.mono hle
    replace hs56 := hs56.mono hle
    try dsimp only at hR
    obtain rfl := hR
    refine AS rfl rfl (WR.store [_, _] H rfl rfl rfl (by repeat first | exact .head | apply Upd.tail) Tryz.sizeOf27 rfl (by rfl) (by rfl) (Wn.none rfl) ?_)
    intro w H
    refine NL (TN (RT ?_))
    obtain rfl := oI h
    exact WQ.ret2 rfl rfl ⟨_, rfl, H.loadAgg (by repeat first | exact kMh | apply kMt) Tryz.isAgg27 Tryz.sizeOf27 (by rfl)⟩ H.ext rfl
   ·
    replace hk59 : ¬ ((4000 : Int) < (s57.length : Int)) := of_decide_eq_false hk59
    rw [if_neg hk59] at h
    refine SK (TN (SQ ?_))
    obtain ⟨⟨n63, n64⟩, hx65, h⟩ := bnd h
    try dsimp only at h
    refine RG (MV rfl rfl (WR.call H (Y1m hx65) rfl trivial (Wn.none rfl) rfl ?_))
    intro v61 M w H hle hR
    replace hg_maxl := hg_maxl.mono hle
    replace hg_tabs := hg_tabs.mono hle
    replace hs56 := hs56.mono hle
    try dsimp only at hR
    obtain rfl := hR
    refine AS rfl rfl (WR.store [_, _] H rfl rfl rfl (by repeat first | exact .head | apply Upd.tail) Tryz.sizeOf27 rfl (by rfl) (by rfl) (Wn.none rfl) ?_)
    intro w H
    refine NL (TN (RT ?_))
    obtain rfl := oI h
    exact WQ.ret2 rfl rfl ⟨_, rfl, H.loadAgg (by repeat first | exact kMh | apply kMt) Tryz.isAgg27 Tryz.sizeOf27 (by rfl)⟩ H.ext rfl
theorem parse_ret {K : World → Prop} {b1 b2 b3 : Nat} {w : World} (hK : K w) : (∀ ar w, (callFunc 45 ar).run Tryz.prog w = .ok (.enter 45 ar) w) ∧ CallsDIn (Wd none) 0 Tryz.prog 45 ([ptr b1 0, ptr b2 0, ptr b3 0] : List Value).toArray .returning w fun e u' w' => (∃ v, e = .returned v) ∧ settle u' = .returning ∧ K w' := by
 refine ⟨enters Tryz.func45 (by kernel_rfl) rfl, callsD_of Tryz.func45 rfl rfl rfl rfl rfl rfl ?_⟩
 refine BL (SQ (RG (ST (Ex.eqlNil (M := fun _ => none) (b := true) Tryz.underlying20 (.inl ⟨rfl, rfl⟩) rfl) rfl (NL (TN (CT rfl (RG (AS rfl rfl (NL ?_)))))))))
 exact WQ.inBlock (WQ.postD0 rfl hK)
theorem parse_pan {s : List UInt8} {n : Int} {b1 b2 b3 m : Nat} {z1 z2 z3 : Value} {e : Env} {w0 w : World} {M0 M : Mem} {L : List Ph.Item} {R : Value → Mem → Prop} (H : St w0 M0 M L w) (hp : Pick L [.blk b2 (.cells #[z1] 22), .blk b3 (.cells #[z2, z3] 27)]) (hb : PtM M b1 (.cells #[S s] 9))
 (h2 : get e 2 = some (ptr b2 0)) (h3 : get e 3 = some (ptr b3 0)) (hR : ∀ M, R (.tuple #[.slice none 0 0, .agg #[I 11, I (min n (s.length : Int))]]) M) :
 WQ (bodyPostDIn (Wd none) 0 Tryz.prog Tryz.f19 (Ret w0 M0 R)) (.panic (onePanic (.iface 69 (.agg #[I n])))) m [dfrOf 45 [ptr b1 0, ptr b2 0, ptr b3 0]] e w := fun a ha => by
 show LeavesIn _ _ _ _ _ _ _ _ _
 rw [ha.defers]
 refine leaves_one (enters Tryz.func45 (by kernel_rfl) rfl) (by simp) (callsD_of Tryz.func45 rfl rfl rfl rfl rfl rfl ?_)
 replace H := H.pick hp
 refine BL (SQ (RG (ST (Ex.eqlNil (M := M) (b := false) Tryz.underlying20 (.inr ⟨rfl, _, _, rfl⟩) rfl) rfl (NL (TN (CF rfl (SQ (RG (ST (Ex.assertSame Tryz.underlying69 rfl) rfl (ST (Ex.extract rfl rfl) rfl (ST (Ex.extract rfl rfl) rfl (NL (TN (CT rfl (SQ (RG (WR.alloc [_] H Tryz.zeroValue69 rfl (Wn.none rfl) rfl ?_)))))))))))))))))
 intro b4 w H
 refine WR.store [_] H rfl rfl rfl (by repeat first | exact .head | apply Upd.tail) Tryz.sizeOf69 rfl (by rfl) (by rfl) (Wn.none rfl) ?_
 intro w H
 refine NL (TN (RG (ST (Ex.fieldAddr Tryz.underlying69 rfl Tryz.sizeOf3 (by decide) rfl) rfl (ST (Ex.load1 H rfl (by repeat first | exact kMh | apply kMt) Tryz.isAgg3 (by rfl)) rfl ?_))))
 refine ST (Ex.loadM H rfl (hb.cell (j := 0) rfl) Tryz.isAgg9) rfl (ST (Ex.lenStr Tryz.underlying9 rfl) rfl (ST (Ex.min2 rfl rfl) rfl (WR.call H (Y0D (p0 := 11) (p1 := min n (s.length : Int)) (r := (11, min n (s.length : Int))) rfl) rfl trivial (Wn.none rfl) rfl ?_)))
 intro v17 M w H hle hR2
 try dsimp only at hR2
 obtain rfl := hR2
 refine WR.putV [_] H rfl rfl (One.slice _ _ _) (by repeat first | exact .head | apply Upd.tail) (by rfl) Tryz.sizeOf22 (by first | decide | (simp; done) | (simp; omega)) (Wn.none rfl) ?_
 intro w H
 refine WR.store [_, _] H rfl rfl rfl (by repeat first | exact .head | apply Upd.tail) Tryz.sizeOf27 rfl (by rfl) (by rfl) (Wn.none rfl) ?_
 intro w H
 refine NL ?_
 refine WQ.inBlock (WQ.postD0 rfl ⟨_, resv_run2 (P := Tryz.prog) (e := e) (x := .cell 2 22) (y := .cell 3 27) (v1 := .slice none 0 0) (v2 := .agg #[I 11, I (min n (s.length : Int))]) rfl ⟨_, h2, H.load1 (by repeat first | exact kMh | apply kMt) Tryz.isAgg22 (by rfl)⟩ ⟨_, h3, H.loadAgg (by repeat first | exact kMh | apply kMt) Tryz.isAgg27 Tryz.sizeOf27 (by rfl)⟩ a ha, _, M, rfl, H.ext, hR M⟩)
theorem Y3U {p0 : UInt8} {r : Bool} (h : Y14 p0 = some r) : Ct Tryz.prog 62 [encB p0] (fun M => True) (fun v M => v = Value.bool r) := by
 refine Ct.of Tryz.func62 (enters Tryz.func62 (by kernel_rfl) rfl) rfl rfl rfl ?_
 intro w0 M0 H hp
 unfold Y14 at h
 refine SQ (RG (AS rfl rfl (NL (TN (SQ ?_)))))
 obtain ⟨o1, e2, h⟩ := bnd h
 refine WC.cutX (fun e w => ∃ (b3 : Bool) (M : Mem), e = [(2, Value.bool b3)] ∧ St w0 M0 M [] w ∧ some b3 = some o1) [] ?_ ?_ (trivial)
 ·
  by_cases hk4 : p0 = 32
  ·
   rw [if_pos hk4] at e2
   refine RG (MV rfl rfl (WR.stepE (v' := .bool true) (Ex.eqlB (c := p0) (d := 32) rfl rfl) (congrArg Value.bool (decide_eq_true hk4)) (Wn.none rfl) rfl rfl (MV rfl rfl (GT rfl rfl rfl (GT rfl rfl rfl (PT rfl rfl rfl (AS rfl rfl (NL ?_))))))))
   exact WQ.meetN [(2, _)] ⟨rfl, trivial⟩ ⟨_, _, rfl, H, e2⟩
  ·
   rw [if_neg hk4] at e2
   refine RG (MV rfl rfl (WR.stepE (v' := .bool false) (Ex.eqlB (c := p0) (d := 32) rfl rfl) (congrArg Value.bool (decide_eq_false hk4)) (Wn.none rfl) rfl rfl (MV rfl rfl (SG (Ex.move rfl) rfl rfl rfl (SG (Ex.eqlB (c := p0) (d := 9) rfl rfl) rfl rfl rfl (PF rfl rfl rfl (AS rfl rfl (NL ?_))))))))
   exact WQ.meetN [(2, _)] ⟨rfl, trivial⟩ ⟨_, _, rfl, H, e2⟩
 ·
  rintro e w ⟨b3, M, rfl, H, q5⟩
  obtain rfl := oI q5
  refine TN (RT ?_)
  obtain rfl := oI h
  exact WQ.ret1 rfl rfl H.ext rfl
theorem Y03 {p0 : (List UInt8 × Int)} {bp0 : Nat} {r : ((List UInt8 × Int) ⊕ Int)} (h : Y0c p0 = some r) : CtS Tryz.prog 49 [ptr bp0 0] [.blk bp0 (.cells #[S p0.1, I p0.2] 72)] (fun M => True) (fun x => fun v M its => v = Value.tuple #[] ∧ its = [.blk bp0 (.cells #[S x.1, I x.2] 72)]) (fun n => Value.iface 69 (Value.agg #[I n])) r := by
 refine CtS.of Tryz.func49 (enters Tryz.func49 (by kernel_rfl) rfl) rfl rfl rfl ?_
 intro w0 M0 H hp
 unfold Y0c at h
 obtain rfl := oI h
 refine RG (MV rfl rfl (ST (Ex.nilCheckP rfl) rfl (ST (Ex.fieldAddr Tryz.underlying72 rfl Tryz.sizeOf3 (by decide) rfl) rfl (ST (Ex.load1 H rfl (by repeat first | exact kMh | apply kMt) Tryz.isAgg3 (by rfl)) rfl ?_))))
 refine ST (Ex.build [I p0.2] Tryz.underlying69 Tryz.zeroValue69 (xplaces69 Tryz.underlying69) rfl rfl) rfl (ST (Ex.ifaceV (by kernel_rfl) rfl) rfl (WR.panicI rfl (Wn.none rfl) ?_))
 (repeat (first | refine WQ.pThen ?_ | refine WQ.pIn ?_ | refine WQ.pCut ?_ | refine WQ.pSc ?_))
 exact WQ.pBody H
theorem Y2l {p0 : (List UInt8 × Int)} {bp0 : Nat} {r : ((List UInt8 × Int) ⊕ Int)} (h : Y12 p0 = some r) : CtS Tryz.prog 155 [ptr bp0 0] [.blk bp0 (.cells #[S p0.1, I p0.2] 72)] (fun M => True) (fun x => fun v M its => v = Value.tuple #[] ∧ its = [.blk bp0 (.cells #[S x.1, I x.2] 72)]) (fun n => Value.iface 69 (Value.agg #[I n])) r := by
 refine CtS.of Tryz.func155 (enters Tryz.func155 (by kernel_rfl) rfl) rfl rfl rfl ?_
 intro w0 M0 H hp
 unfold Y12 at h
 refine SQ (RG (AS rfl rfl (NL (TN ?_))))
 obtain ⟨o1, e2, h⟩ := bnd h
 refine BL (WC.loopP (fun m e w => ∃ (s3 : List UInt8) (n4 : Int) (n5 : Int) (M : Mem), e = [(0, ptr bp0 0), (2, I n5)] ∧ StX (feet [.blk bp0 (.cells #[S p0.1, I p0.2] 72)]) w0 M0 M [.blk bp0 (.cells #[S s3, I n4] 72)] w ∧ Y05  m s3 n4 n5 = some o1) FU [(0, _), (2, _)] ⟨rfl, rfl, trivial⟩ ⟨_, _, _, _, rfl, H, e2⟩ ?_)
 rintro m6 e w ⟨s3, n4, n5, M, rfl, H, e2⟩
 rcases m6 with _ | m6
 · rw [Y05] at e2; cases e2
 rw [Y05] at e2
 refine SQ (BL (SQ (SQ (WC.draw (m := 10) rfl rfl H ?_))))
 intro w H
 refine WA.take (i := 0) rfl (by kernel_rfl) (by kernel_rfl) (by kernel_rfl) (fun _ => Ex.move rfl) (Wn.none rfl) rfl rfl (fun _ _ => rfl) (WA.take (i := 1) rfl (by kernel_rfl) (by kernel_rfl) (by kernel_rfl) (fun _ => Ex.nilCheckP rfl) (Wn.none rfl) rfl rfl (fun _ _ => rfl) (WA.take (i := 2) rfl (by kernel_rfl) (by kernel_rfl) (by kernel_rfl) (fun _ => Ex.fieldAddr Tryz.underlying72 rfl Tryz.sizeOf3 (by decide) rfl) (Wn.none rfl) rfl rfl (fun _ _ => rfl) (WA.take (i := 4) rfl (by kernel_rfl) (by kernel_rfl) (by kernel_rfl) (fun _ => Ex.move rfl) (Wn.none rfl) rfl rfl (fun _ _ => rfl) (WA.take (i := 5) rfl (by kernel_rfl) (by kernel_rfl) (by kernel_rfl) (fun _ => Ex.nilCheckP rfl) (Wn.none rfl) rfl rfl (fun _ _ => rfl) (WA.take (i := 6) rfl (by kernel_rfl) (by kernel_rfl) (by kernel_rfl) (fun _ => Ex.fieldAddr Tryz.underlying72 rfl Tryz.sizeOf9 (by decide) rfl) (Wn.none rfl) rfl rfl (fun _ _ => rfl) ?_)))))
 refine WA.takeM (i := 7) [3] rfl (by kernel_rfl) (by kernel_rfl) (by kernel_rfl) (Ex.load1 H rfl (by repeat first | exact kMh | apply kMt) Tryz.isAgg9 (by rfl)) (Wn.none rfl) rfl rfl (fun _ _ => rfl) ?_
 refine WA.take (i := 8) rfl (by kernel_rfl) (by kernel_rfl) (by kernel_rfl) (fun _ => Ex.lenStr Tryz.underlying9 rfl) (Wn.none rfl) rfl rfl (fun _ _ => rfl) (WA.seq (fuel := 0) [3, 9] rfl (by kernel_rfl) (ST (Ex.load1 H rfl (by repeat first | exact kMh | apply kMt) Tryz.isAgg3 (by rfl)) rfl ?_))
 refine ST (Ex.geq rfl rfl) rfl (NA (WA.done (by kernel_rfl) (TN ?_)))
 obtain ⟨o7, e8, e2⟩ := bnd e2
 refine WC.cutX (fun e w => ∃ (s9 : List UInt8) (n10 : Int) (M : Mem), e = [(0, ptr bp0 0), (2, I n5)] ∧ StX (feet [.blk bp0 (.cells #[S p0.1, I p0.2] 72)]) w0 M0 M [.blk bp0 (.cells #[S s9, I n10] 72)] w ∧ some (.inl (s9, n10)) = some o7) [] ?_ ?_ (trivial)
 ·
  refine WC.condB rfl (fun hk11 => ?_) (fun hk11 => ?_)
  ·
   replace hk11 : (s3.length : Int) ≤ n4 := of_decide_eq_true hk11
   rw [if_pos hk11] at e8
   obtain ⟨o14, hx13, e8⟩ := bnd e8
   rcases o14 with o12 | n15
   ·
    try dsimp only at e8
    refine RG (MV rfl rfl ?_)
    refine WR.callX (A := [.blk bp0 (.cells #[S s3, I n4] 72)]) (B := []) (H.pick (L' := [.blk bp0 (.cells #[S s3, I n4] 72)]) (by repeat first | exact kPn | refine kPc (by repeat first | exact .head | apply Rem.tail) ?_)) (Y03 hx13) (.left (Spl.all _)) rfl trivial (Wn.none rfl) rfl ?_
    intro v21 M w its H hle hR
    try dsimp only at hR
    obtain ⟨rfl, rfl⟩ := hR
    simp only [List.cons_append, List.nil_append] at H
    refine NL ?_
    exact WQ.meetN [(0, _), (2, _)] ⟨rfl, rfl, trivial⟩ ⟨_, _, _, rfl, H, e8⟩
   ·
    try dsimp only at e8
    obtain rfl := oI e8
    try dsimp only at e2
    obtain rfl := oI e2
    try dsimp only at h
    obtain rfl := oI h
    refine RG (MV rfl rfl ?_)
    refine WR.callPan (A := [.blk bp0 (.cells #[S s3, I n4] 72)]) (B := []) (H.pick (L' := [.blk bp0 (.cells #[S s3, I n4] 72)]) (by repeat first | exact kPn | refine kPc (by repeat first | exact .head | apply Rem.tail) ?_)) (Y03 hx13) (.left (Spl.all _)) rfl trivial (Wn.none rfl) ?_
    intro M w H hle
    (repeat (first | refine WQ.pThen ?_ | refine WQ.pIn ?_ | refine WQ.pCut ?_ | refine WQ.pSc ?_))
    exact WQ.pBody H
  ·
   replace hk11 : ¬ ((s3.length : Int) ≤ n4) := of_decide_eq_false hk11
   rw [if_neg hk11] at e8
   refine SK ?_
   exact WQ.meetN [(0, _), (2, _)] ⟨rfl, rfl, trivial⟩ ⟨_, _, _, rfl, H, e8⟩
 ·
  rintro e w ⟨s9, n10, M, rfl, H, q16⟩
  obtain rfl := oI q16
  try dsimp only at e2
  refine TN (SQ ?_)
  obtain ⟨c17, hxc17, e2⟩ := bnd e2
  refine WC.draw (m := 9) rfl rfl H ?_
  intro w H
  refine WA.take (i := 0) rfl (by kernel_rfl) (by kernel_rfl) (by kernel_rfl) (fun _ => Ex.move rfl) (Wn.none rfl) rfl rfl (fun _ _ => rfl) (WA.take (i := 1) rfl (by kernel_rfl) (by kernel_rfl) (by kernel_rfl) (fun _ => Ex.nilCheckP rfl) (Wn.none rfl) rfl rfl (fun _ _ => rfl) (WA.take (i := 2) rfl (by kernel_rfl) (by kernel_rfl) (by kernel_rfl) (fun _ => Ex.fieldAddr Tryz.underlying72 rfl Tryz.sizeOf9 (by decide) rfl) (Wn.none rfl) rfl rfl (fun _ _ => rfl) (WA.take (i := 4) rfl (by kernel_rfl) (by kernel_rfl) (by kernel_rfl) (fun _ => Ex.move rfl) (Wn.none rfl) rfl rfl (fun _ _ => rfl) (WA.take (i := 5) rfl (by kernel_rfl) (by kernel_rfl) (by kernel_rfl) (fun _ => Ex.nilCheckP rfl) (Wn.none rfl) rfl rfl (fun _ _ => rfl) (WA.take (i := 6) rfl (by kernel_rfl) (by kernel_rfl) (by kernel_rfl) (fun _ => Ex.fieldAddr Tryz.underlying72 rfl Tryz.sizeOf3 (by decide) rfl) (Wn.none rfl) rfl rfl (fun _ _ => rfl) ?_)))))
  refine WA.takeM (i := 3) [7] rfl (by kernel_rfl) (by kernel_rfl) (by kernel_rfl) (Ex.load1 H rfl (by repeat first | exact kMh | apply kMt) Tryz.isAgg9 (by rfl)) (Wn.none rfl) rfl rfl (fun _ _ => rfl) ?_
  refine WA.seq (fuel := 0) [7, 8] rfl (by kernel_rfl) (ST (Ex.load1 H rfl (by repeat first | exact kMh | apply kMt) Tryz.isAgg3 (by rfl)) rfl ?_)
  refine ST (Ex.idxStrC Tryz.underlying9 rfl rfl hxc17) rfl (NA (WA.done (by kernel_rfl) (TN (BL (SQ (RG (ST (Ex.eqlB (c := c17) (d := 40) rfl rfl) rfl (AS rfl rfl (NL (TN ?_))))))))))
  obtain ⟨o18, e19, e2⟩ := bnd e2
  refine WC.cutX (fun e w => ∃ (s20 : List UInt8) (n21 : Int) (n22 : Int) (M : Mem), e = [(0, ptr bp0 0), (2, I n22)] ∧ StX (feet [.blk bp0 (.cells #[S p0.1, I p0.2] 72)]) w0 M0 M [.blk bp0 (.cells #[S s20, I n21] 72)] w ∧ some (.inl (s20, n21, n22)) = some o18) [] ?_ ?_ (trivial)
  ·
   refine WC.condB rfl (fun hk23 => ?_) (fun hk23 => ?_)
   ·
    replace hk23 : c17 = 40 := of_decide_eq_true hk23
    rw [if_pos hk23] at e19
    obtain ⟨n24, hxn24, e19⟩ := bnd e19
    refine RG (MV rfl rfl (ST (Ex.addC rfl rfl hxn24) rfl (AS rfl rfl (NL ?_))))
    exact WQ.meetN [(0, _), (2, _)] ⟨rfl, rfl, trivial⟩ ⟨_, _, _, _, rfl, H, e19⟩
   ·
    replace hk23 : ¬ (c17 = 40) := of_decide_eq_false hk23
    rw [if_neg hk23] at e19
    refine SQ (RG (ST (Ex.eqlB (c := c17) (d := 41) rfl rfl) rfl (AS rfl rfl (NL (TN ?_)))))
    refine WC.condB rfl (fun hk25 => ?_) (fun hk25 => ?_)
    ·
     replace hk25 : c17 = 41 := of_decide_eq_true hk25
     rw [if_pos hk25] at e19
     refine SQ ?_
     obtain ⟨n26, hxn26, e19⟩ := bnd e19
     refine RG (MV rfl rfl (ST (Ex.subC rfl rfl hxn26) rfl (AS rfl rfl (NL (TN (SQ (RG (MV rfl rfl (ST (Ex.eql rfl rfl) rfl (NL (TN ?_)))))))))))
     refine WC.condB rfl (fun hk27 => ?_) (fun hk27 => ?_)
     ·
      replace hk27 : n26 = (0 : Int) := of_decide_eq_true hk27
      rw [if_pos hk27] at e19
      refine SQ ?_
      obtain ⟨n28, hxn28, e19⟩ := bnd e19
      refine RG (MV rfl rfl (ST (Ex.nilCheckP rfl) rfl (ST (Ex.fieldAddr Tryz.underlying72 rfl Tryz.sizeOf3 (by decide) rfl) rfl (ST (Ex.load1 H rfl (by repeat first | exact kMh | apply kMt) Tryz.isAgg3 (by rfl)) rfl ?_))))
      refine ST (Ex.addC rfl rfl hxn28) rfl (ST (Ex.nilCheckP rfl) rfl (ST (Ex.fieldAddr Tryz.underlying72 rfl Tryz.sizeOf3 (by decide) rfl) rfl (WR.store1 [_, _] H rfl rfl (by repeat first | exact .head | apply Upd.tail) (by rfl) Tryz.sizeOf3 (by first | decide | (simp; done) | (simp; omega)) (by rfl) (by rfl) (Wn.none rfl) ?_)))
      intro w H
      refine NL (TN (RT ?_))
      obtain rfl := oI e19
      try dsimp only at e2
      obtain rfl := oI e2
      try dsimp only at h
      obtain rfl := oI h
      exact WQ.retX0 (its := [.blk bp0 (.cells #[S s9, I n28] 72)]) rfl H (by repeat first | exact kPn | refine kPc (by repeat first | exact .head | apply Rem.tail) ?_) ⟨rfl, rfl⟩
     ·
      replace hk27 : ¬ (n26 = (0 : Int)) := of_decide_eq_false hk27
      rw [if_neg hk27] at e19
      refine SK ?_
      exact WQ.meetN [(0, _), (2, _)] ⟨rfl, rfl, trivial⟩ ⟨_, _, _, _, rfl, H, e19⟩
    ·
     replace hk25 : ¬ (c17 = 41) := of_decide_eq_false hk25
     rw [if_neg hk25] at e19
     refine SQ (RG (ST (Ex.eqlB (c := c17) (d := 92) rfl rfl) rfl (AS rfl rfl (NL (TN ?_)))))
     refine WC.condB rfl (fun hk29 => ?_) (fun hk29 => ?_)
     ·
      replace hk29 : c17 = 92 := of_decide_eq_true hk29
      rw [if_pos hk29] at e19
      obtain ⟨n30, hxn30, e19⟩ := bnd e19
      refine RG (MV rfl rfl (ST (Ex.nilCheckP rfl) rfl (ST (Ex.fieldAddr Tryz.underlying72 rfl Tryz.sizeOf3 (by decide) rfl) rfl (ST (Ex.load1 H rfl (by repeat first | exact kMh | apply kMt) Tryz.isAgg3 (by rfl)) rfl ?_))))
      refine ST (Ex.addC rfl rfl hxn30) rfl (ST (Ex.nilCheckP rfl) rfl (ST (Ex.fieldAddr Tryz.underlying72 rfl Tryz.sizeOf3 (by decide) rfl) rfl (WR.store1 [_, _] H rfl rfl (by repeat first | exact .head | apply Upd.tail) (by rfl) Tryz.sizeOf3 (by first | decide | (simp; done) | (simp; omega)) (by rfl) (by rfl) (Wn.none rfl) ?_)))
      intro w H
      refine NL ?_
      exact WQ.meetN [(0, _), (2, _)] ⟨rfl, rfl, trivial⟩ ⟨_, _, _, _, rfl, H, e19⟩
     ·
      replace hk29 : ¬ (c17 = 92) := of_decide_eq_false hk29
      rw [if_neg hk29] at e19
      refine SK ?_
      exact WQ.meetN [(0, _), (2, _)] ⟨rfl, rfl, trivial⟩ ⟨_, _, _, _, rfl, H, e19⟩
  ·
   rintro e w ⟨s20, n21, n22, M, rfl, H, q31⟩
   obtain rfl := oI q31
   try dsimp only at e2
   refine IB (IB (TN ?_))
   obtain ⟨n32, hxn32, e2⟩ := bnd e2
   refine RG (MV rfl rfl (ST (Ex.nilCheckP rfl) rfl (ST (Ex.fieldAddr Tryz.underlying72 rfl Tryz.sizeOf3 (by decide) rfl) rfl (ST (Ex.load1 H rfl (by repeat first | exact kMh | apply kMt) Tryz.isAgg3 (by rfl)) rfl ?_))))
   refine ST (Ex.addC rfl rfl hxn32) rfl (ST (Ex.nilCheckP rfl) rfl (ST (Ex.fieldAddr Tryz.underlying72 rfl Tryz.sizeOf3 (by decide) rfl) rfl (WR.store1 [_, _] H rfl rfl (by repeat first | exact .head | apply Upd.tail) (by rfl) Tryz.sizeOf3 (by first | decide | (simp; done) | (simp; omega)) (by rfl) (by rfl) (Wn.none rfl) ?_)))
   intro w H
   refine NL ?_
   exact WQ.againP m6 [(0, _), (2, _)] ⟨rfl, rfl, trivial⟩ ⟨_, _, _, _, rfl, H, e2⟩ (Nat.lt_succ_self _)
theorem Y2E {p0 : (List UInt8 × Int)} {bp0 : Nat} {r : ((List UInt8 × Int) ⊕ Int)} (h : Y1R p0 = some r) : CtS Tryz.prog 121 [ptr bp0 0] [.blk bp0 (.cells #[S p0.1, I p0.2] 72)] (fun M => True) (fun x => fun v M its => v = Value.tuple #[] ∧ its = [.blk bp0 (.cells #[S x.1, I x.2] 72)]) (fun n => Value.iface 69 (Value.agg #[I n])) r := by
 refine CtS.of Tryz.func121 (enters Tryz.func121 (by kernel_rfl) rfl) rfl rfl rfl ?_
 intro w0 M0 H hp
 unfold Y1R at h
 obtain ⟨o1, e2, h⟩ := bnd h
 refine WC.cutX (fun e w => ∃ (s3 : List UInt8) (n4 : Int) (M : Mem), e = [] ∧ StX (feet [.blk bp0 (.cells #[S p0.1, I p0.2] 72)]) w0 M0 M [.blk bp0 (.cells #[S s3, I n4] 72)] w ∧ some (.inl (s3, n4)) = some o1) [] ?_ ?_ (trivial)
 ·
  refine BL (WC.loopP (fun m e w => ∃ (s5 : List UInt8) (n6 : Int) (M : Mem), e = [(0, ptr bp0 0)] ∧ StX (feet [.blk bp0 (.cells #[S p0.1, I p0.2] 72)]) w0 M0 M [.blk bp0 (.cells #[S s5, I n6] 72)] w ∧ Y0b  m s5 n6 = some o1) FU [(0, _)] ⟨rfl, trivial⟩ ⟨_, _, _, rfl, H, e2⟩ ?_)
  rintro m7 e w ⟨s5, n6, M, rfl, H, e2⟩
  rcases m7 with _ | m7
  · rw [Y0b] at e2; cases e2
  rw [Y0b] at e2
  refine SQ (SQ (WC.draw (m := 10) rfl rfl H ?_))
  intro w H
  refine WA.take (i := 0) rfl (by kernel_rfl) (by kernel_rfl) (by kernel_rfl) (fun _ => Ex.move rfl) (Wn.none rfl) rfl rfl (fun _ _ => rfl) (WA.take (i := 1) rfl (by kernel_rfl) (by kernel_rfl) (by kernel_rfl) (fun _ => Ex.nilCheckP rfl) (Wn.none rfl) rfl rfl (fun _ _ => rfl) (WA.take (i := 2) rfl (by kernel_rfl) (by kernel_rfl) (by kernel_rfl) (fun _ => Ex.fieldAddr Tryz.underlying72 rfl Tryz.sizeOf3 (by decide) rfl) (Wn.none rfl) rfl rfl (fun _ _ => rfl) (WA.take (i := 4) rfl (by kernel_rfl) (by kernel_rfl) (by kernel_rfl) (fun _ => Ex.move rfl) (Wn.none rfl) rfl rfl (fun _ _ => rfl) (WA.take (i := 5) rfl (by kernel_rfl) (by kernel_rfl) (by kernel_rfl) (fun _ => Ex.nilCheckP rfl) (Wn.none rfl) rfl rfl (fun _ _ => rfl) (WA.take (i := 6) rfl (by kernel_rfl) (by kernel_rfl) (by kernel_rfl) (fun _ => Ex.fieldAddr Tryz.underlying72 rfl Tryz.sizeOf9 (by decide) rfl) (Wn.none rfl) rfl rfl (fun _ _ => rfl) ?_)))))
  refine WA.takeM (i := 7) [3] rfl (by kernel_rfl) (by kernel_rfl) (by kernel_rfl) (Ex.load1 H rfl (by repeat first | exact kMh | apply kMt) Tryz.isAgg9 (by rfl)) (Wn.none rfl) rfl rfl (fun _ _ => rfl) ?_
  refine WA.take (i := 8) rfl (by kernel_rfl) (by kernel_rfl) (by kernel_rfl) (fun _ => Ex.lenStr Tryz.underlying9 rfl) (Wn.none rfl) rfl rfl (fun _ _ => rfl) (WA.seq (fuel := 0) [3, 9] rfl (by kernel_rfl) (ST (Ex.load1 H rfl (by repeat first | exact kMh | apply kMt) Tryz.isAgg3 (by rfl)) rfl ?_))
  refine ST (Ex.lss rfl rfl) rfl (NA (WA.done (by kernel_rfl) (TN ?_)))
  refine WC.condB rfl (fun hk8 => ?_) (fun hk8 => ?_)
  ·
   replace hk8 : n6 < (s5.length : Int) := of_decide_eq_true hk8
   rw [if_pos hk8] at e2
   refine SK (TN (BL (SQ ?_)))
   obtain ⟨c9, hxc9, e2⟩ := bnd e2
   refine WC.draw (m := 10) rfl rfl H ?_
   intro w H
   refine WA.take (i := 0) rfl (by kernel_rfl) (by kernel_rfl) (by kernel_rfl) (fun _ => Ex.move rfl) (Wn.none rfl) rfl rfl (fun _ _ => rfl) (WA.take (i := 1) rfl (by kernel_rfl) (by kernel_rfl) (by kernel_rfl) (fun _ => Ex.nilCheckP rfl) (Wn.none rfl) rfl rfl (fun _ _ => rfl) (WA.take (i := 2) rfl (by kernel_rfl) (by kernel_rfl) (by kernel_rfl) (fun _ => Ex.fieldAddr Tryz.underlying72 rfl Tryz.sizeOf9 (by decide) rfl) (Wn.none rfl) rfl rfl (fun _ _ => rfl) (WA.take (i := 4) rfl (by kernel_rfl) (by kernel_rfl) (by kernel_rfl) (fun _ => Ex.move rfl) (Wn.none rfl) rfl rfl (fun _ _ => rfl) (WA.take (i := 5) rfl (by kernel_rfl) (by kernel_rfl) (by kernel_rfl) (fun _ => Ex.nilCheckP rfl) (Wn.none rfl) rfl rfl (fun _ _ => rfl) (WA.take (i := 6) rfl (by kernel_rfl) (by kernel_rfl) (by kernel_rfl) (fun _ => Ex.fieldAddr Tryz.underlying72 rfl Tryz.sizeOf3 (by decide) rfl) (Wn.none rfl) rfl rfl (fun _ _ => rfl) ?_)))))
   refine WA.takeM (i := 3) [7] rfl (by kernel_rfl) (by kernel_rfl) (by kernel_rfl) (Ex.load1 H rfl (by repeat first | exact kMh | apply kMt) Tryz.isAgg9 (by rfl)) (Wn.none rfl) rfl rfl (fun _ _ => rfl) ?_
   refine WA.seq (fuel := 0) [7, 8, 9] rfl (by kernel_rfl) (ST (Ex.load1 H rfl (by repeat first | exact kMh | apply kMt) Tryz.isAgg3 (by rfl)) rfl ?_)
   refine ST (Ex.idxStrC Tryz.underlying9 rfl rfl hxc9) rfl (AS rfl rfl (NA (WA.done (by kernel_rfl) (TN (BL (SQ ?_))))))
   obtain ⟨b10, hx11, e2⟩ := bnd e2
   refine RG (MV rfl rfl (WR.call H (Y3U hx11) rfl trivial (Wn.none rfl) rfl ?_))
   intro v24 M w H hle hR
   obtain rfl := hR
   refine AS rfl rfl (NL (TN ?_))
   refine WC.condB rfl (fun hk12 => ?_) (fun hk12 => ?_)
   ·
    subst hk12
    rw [if_pos rfl] at e2
    obtain ⟨n13, hxn13, e2⟩ := bnd e2
    refine RG (MV rfl rfl (ST (Ex.nilCheckP rfl) rfl (ST (Ex.fieldAddr Tryz.underlying72 rfl Tryz.sizeOf3 (by decide) rfl) rfl (ST (Ex.load1 H rfl (by repeat first | exact kMh | apply kMt) Tryz.isAgg3 (by rfl)) rfl ?_))))
    refine ST (Ex.addC rfl rfl hxn13) rfl (ST (Ex.nilCheckP rfl) rfl (ST (Ex.fieldAddr Tryz.underlying72 rfl Tryz.sizeOf3 (by decide) rfl) rfl (WR.store1 [_, _] H rfl rfl (by repeat first | exact .head | apply Upd.tail) (by rfl) Tryz.sizeOf3 (by first | decide | (simp; done) | (simp; omega)) (by rfl) (by rfl) (Wn.none rfl) ?_)))
    intro w H
    refine NL (IB (IB ?_))
    exact WQ.againP m7 [(0, _)] ⟨rfl, trivial⟩ ⟨_, _, _, rfl, H, e2⟩ (Nat.lt_succ_self _)
   ·
    subst hk12
    rw [if_neg Bool.false_ne_true] at e2
    refine SQ (RG (MV rfl rfl (ST (Ex.eqlB (c := c9) (d := 40) rfl rfl) rfl (AS rfl rfl (NL (TN ?_))))))
    refine WC.condB rfl (fun hk14 => ?_) (fun hk14 => ?_)
    ·
     replace hk14 : c9 = 40 := of_decide_eq_true hk14
     rw [if_pos hk14] at e2
     obtain ⟨o17, hx16, e2⟩ := bnd e2
     rcases o17 with o15 | n18
     ·
      try dsimp only at e2
      refine RG (MV rfl rfl ?_)
      refine WR.callX (A := [.blk bp0 (.cells #[S s5, I n6] 72)]) (B := []) (H.pick (L' := [.blk bp0 (.cells #[S s5, I n6] 72)]) (by repeat first | exact kPn | refine kPc (by repeat first | exact .head | apply Rem.tail) ?_)) (Y2l hx16) (.left (Spl.all _)) rfl trivial (Wn.none rfl) rfl ?_
      intro v36 M w its H hle hR
      try dsimp only at hR
      obtain ⟨rfl, rfl⟩ := hR
      simp only [List.cons_append, List.nil_append] at H
      refine NL (IB (IB ?_))
      exact WQ.againP m7 [(0, _)] ⟨rfl, trivial⟩ ⟨_, _, _, rfl, H, e2⟩ (Nat.lt_succ_self _)
     ·
      try dsimp only at e2
      obtain rfl := oI e2
      try dsimp only at h
      obtain rfl := oI h
      refine RG (MV rfl rfl ?_)
      refine WR.callPan (A := [.blk bp0 (.cells #[S s5, I n6] 72)]) (B := []) (H.pick (L' := [.blk bp0 (.cells #[S s5, I n6] 72)]) (by repeat first | exact kPn | refine kPc (by repeat first | exact .head | apply Rem.tail) ?_)) (Y2l hx16) (.left (Spl.all _)) rfl trivial (Wn.none rfl) ?_
      intro M w H hle
      (repeat (first | refine WQ.pThen ?_ | refine WQ.pIn ?_ | refine WQ.pCut ?_ | refine WQ.pSc ?_))
      exact WQ.pBody H
    ·
     replace hk14 : ¬ (c9 = 40) := of_decide_eq_false hk14
     rw [if_neg hk14] at e2
     refine RT ?_
     obtain rfl := oI e2
     try dsimp only at h
     obtain rfl := oI h
     exact WQ.retX0 (its := [.blk bp0 (.cells #[S s5, I n6] 72)]) rfl H (by repeat first | exact kPn | refine kPc (by repeat first | exact .head | apply Rem.tail) ?_) ⟨rfl, rfl⟩
  ·
   replace hk8 : ¬ (n6 < (s5.length : Int)) := of_decide_eq_false hk8
   rw [if_neg hk8] at e2
   refine WC.exit (WQ.thenExit (WQ.thenExit (WQ.exitHere ?_)))
   exact WQ.meetN [] trivial ⟨_, _, _, rfl, H, e2⟩
 ·
  rintro e w ⟨s3, n4, M, rfl, H, q19⟩
  obtain rfl := oI q19
  try dsimp only at h
  obtain rfl := oI h
  exact WQ.endX0 (its := [.blk bp0 (.cells #[S s3, I n4] 72)]) rfl H (by repeat first | exact kPn | refine kPc (by repeat first | exact .head | apply Rem.tail) ?_) ⟨rfl, rfl⟩
theorem Y2D {p0 : (List UInt8 × Int)} {bp0 : Nat} {r : ((List UInt8 × (List UInt8 × Int)) ⊕ Int)} (h : Y1j p0 = some r) : CtS Tryz.prog 122 [ptr bp0 0] [.blk bp0 (.cells #[S p0.1, I p0.2] 72)] (fun M => True) (fun x => fun v M its => v = S x.1 ∧ its = [.blk bp0 (.cells #[S x.2.1, I x.2.2] 72)]) (fun n => Value.iface 69 (Value.agg #[I n])) r := by
 refine CtS.of Tryz.func122 (enters Tryz.func122 (by kernel_rfl) rfl) rfl rfl rfl ?_
 intro w0 M0 H hp
 unfold Y1j at h
 refine SQ (RG (AS rfl rfl (NL (TN (SQ (RG (AS rfl rfl (NL (TN (SQ ?_))))))))))
 obtain ⟨n1, hxn1, h⟩ := bnd h
 refine RG (MV rfl rfl (ST (Ex.nilCheckP rfl) rfl (ST (Ex.fieldAddr Tryz.underlying72 rfl Tryz.sizeOf3 (by decide) rfl) rfl (ST (Ex.load1 H rfl (by repeat first | exact kMh | apply kMt) Tryz.isAgg3 (by rfl)) rfl ?_))))
 refine ST (Ex.addC rfl rfl hxn1) rfl (ST (Ex.nilCheckP rfl) rfl (ST (Ex.fieldAddr Tryz.underlying72 rfl Tryz.sizeOf3 (by decide) rfl) rfl (WR.store1 [_, _] H rfl rfl (by repeat first | exact .head | apply Upd.tail) (by rfl) Tryz.sizeOf3 (by first | decide | (simp; done) | (simp; omega)) (by rfl) (by rfl) (Wn.none rfl) ?_)))
 intro w H
 refine NL (TN ?_)
 obtain ⟨o2, e3, h⟩ := bnd h
 refine BL ?_
 replace H := H.newRow 5 encB
 refine WC.loopP (fun m e w => ∃ (s4 : List UInt8) (n5 : Int) (l7 : List UInt8) (v8 : Value) (M : Mem), e = [(0, ptr bp0 0), (3, v8)] ∧ StX (feet [.blk bp0 (.cells #[S p0.1, I p0.2] 72)]) w0 M0 M [.blk bp0 (.cells #[S s4, I n5] 72), RowI 5 encB v8 l7] w ∧ Y0f  m s4 n5 l7 = some o2) FU [(0, _), (3, _)] ⟨rfl, rfl, trivial⟩ ⟨_, _, _, _, _, rfl, (H.pick (L' := [.blk bp0 (.cells #[S p0.1, I n1] 72), RowI 5 encB (Value.slice none 0 0) []]) (by repeat first | exact kPn | refine kPc (by repeat first | exact .head | apply Rem.tail) ?_)), e3⟩ ?_
 rintro m9 e w ⟨s4, n5, l7, v8, M, rfl, H, e3⟩
 rcases m9 with _ | m9
 · rw [Y0f] at e3; cases e3
 rw [Y0f] at e3
 refine SQ (BL (SQ (SQ (WC.draw (m := 10) rfl rfl H ?_))))
 intro w H
 refine WA.take (i := 0) rfl (by kernel_rfl) (by kernel_rfl) (by kernel_rfl) (fun _ => Ex.move rfl) (Wn.none rfl) rfl rfl (fun _ _ => rfl) (WA.take (i := 1) rfl (by kernel_rfl) (by kernel_rfl) (by kernel_rfl) (fun _ => Ex.nilCheckP rfl) (Wn.none rfl) rfl rfl (fun _ _ => rfl) (WA.take (i := 2) rfl (by kernel_rfl) (by kernel_rfl) (by kernel_rfl) (fun _ => Ex.fieldAddr Tryz.underlying72 rfl Tryz.sizeOf3 (by decide) rfl) (Wn.none rfl) rfl rfl (fun _ _ => rfl) (WA.take (i := 4) rfl (by kernel_rfl) (by kernel_rfl) (by kernel_rfl) (fun _ => Ex.move rfl) (Wn.none rfl) rfl rfl (fun _ _ => rfl) (WA.take (i := 5) rfl (by kernel_rfl) (by kernel_rfl) (by kernel_rfl) (fun _ => Ex.nilCheckP rfl) (Wn.none rfl) rfl rfl (fun _ _ => rfl) (WA.take (i := 6) rfl (by kernel_rfl) (by kernel_rfl) (by kernel_rfl) (fun _ => Ex.fieldAddr Tryz.underlying72 rfl Tryz.sizeOf9 (by decide) rfl) (Wn.none rfl) rfl rfl (fun _ _ => rfl) ?_)))))
 refine WA.takeM (i := 7) [3] rfl (by kernel_rfl) (by kernel_rfl) (by kernel_rfl) (Ex.load1 H rfl (by repeat first | exact kMh | apply kMt) Tryz.isAgg9 (by rfl)) (Wn.none rfl) rfl rfl (fun _ _ => rfl) ?_
 refine WA.take (i := 8) rfl (by kernel_rfl) (by kernel_rfl) (by kernel_rfl) (fun _ => Ex.lenStr Tryz.underlying9 rfl) (Wn.none rfl) rfl rfl (fun _ _ => rfl) (WA.seq (fuel := 0) [3, 9] rfl (by kernel_rfl) (ST (Ex.load1 H rfl (by repeat first | exact kMh | apply kMt) Tryz.isAgg3 (by rfl)) rfl ?_))
 refine ST (Ex.geq rfl rfl) rfl (NA (WA.done (by kernel_rfl) (TN ?_)))
 obtain ⟨o11, e12, e3⟩ := bnd e3
 refine WC.cutX (fun e w => ∃ (s13 : List UInt8) (n14 : Int) (M : Mem), e = [(0, ptr bp0 0), (3, v8)] ∧ StX (feet [.blk bp0 (.cells #[S p0.1, I p0.2] 72)]) w0 M0 M [.blk bp0 (.cells #[S s13, I n14] 72), RowI 5 encB v8 l7] w ∧ some (.inl (s13, n14)) = some o11) [] ?_ ?_ (trivial)
 ·
  refine WC.condB rfl (fun hk15 => ?_) (fun hk15 => ?_)
  ·
   replace hk15 : (s4.length : Int) ≤ n5 := of_decide_eq_true hk15
   rw [if_pos hk15] at e12
   obtain ⟨o18, hx17, e12⟩ := bnd e12
   rcases o18 with o16 | n19
   ·
    try dsimp only at e12
    refine RG (MV rfl rfl ?_)
    refine WR.callX (A := [.blk bp0 (.cells #[S s4, I n5] 72)]) (B := [RowI 5 encB v8 l7]) (H.pick (L' := [.blk bp0 (.cells #[S s4, I n5] 72), RowI 5 encB v8 l7]) (by repeat first | exact kPn | refine kPc (by repeat first | exact .head | apply Rem.tail) ?_)) (Y03 hx17) (.left (Spl.all _)) rfl trivial (Wn.none rfl) rfl ?_
    intro v30 M w its H hle hR
    try dsimp only at hR
    obtain ⟨rfl, rfl⟩ := hR
    simp only [List.cons_append, List.nil_append] at H
    refine NL ?_
    exact WQ.meetN [(0, _), (3, _)] ⟨rfl, rfl, trivial⟩ ⟨_, _, _, rfl, H, e12⟩
   ·
    try dsimp only at e12
    obtain rfl := oI e12
    try dsimp only at e3
    obtain rfl := oI e3
    try dsimp only at h
    obtain rfl := oI h
    refine RG (MV rfl rfl ?_)
    refine WR.callPan (A := [.blk bp0 (.cells #[S s4, I n5] 72)]) (B := [RowI 5 encB v8 l7]) (H.pick (L' := [.blk bp0 (.cells #[S s4, I n5] 72), RowI 5 encB v8 l7]) (by repeat first | exact kPn | refine kPc (by repeat first | exact .head | apply Rem.tail) ?_)) (Y03 hx17) (.left (Spl.all _)) rfl trivial (Wn.none rfl) ?_
    intro M w H hle
    (repeat (first | refine WQ.pThen ?_ | refine WQ.pIn ?_ | refine WQ.pCut ?_ | refine WQ.pSc ?_))
    exact WQ.pBody H
  ·
   replace hk15 : ¬ ((s4.length : Int) ≤ n5) := of_decide_eq_false hk15
   rw [if_neg hk15] at e12
   refine SK ?_
   exact WQ.meetN [(0, _), (3, _)] ⟨rfl, rfl, trivial⟩ ⟨_, _, _, rfl, H, e12⟩
 ·
  rintro e w ⟨s13, n14, M, rfl, H, q20⟩
  obtain rfl := oI q20
  try dsimp only at e3
  refine TN (SQ ?_)
  obtain ⟨c21, hxc21, e3⟩ := bnd e3
  refine WC.draw (m := 10) rfl rfl H ?_
  intro w H
  refine WA.take (i := 0) rfl (by kernel_rfl) (by kernel_rfl) (by kernel_rfl) (fun _ => Ex.move rfl) (Wn.none rfl) rfl rfl (fun _ _ => rfl) (WA.take (i := 1) rfl (by kernel_rfl) (by kernel_rfl) (by kernel_rfl) (fun _ => Ex.nilCheckP rfl) (Wn.none rfl) rfl rfl (fun _ _ => rfl) (WA.take (i := 2) rfl (by kernel_rfl) (by kernel_rfl) (by kernel_rfl) (fun _ => Ex.fieldAddr Tryz.underlying72 rfl Tryz.sizeOf9 (by decide) rfl) (Wn.none rfl) rfl rfl (fun _ _ => rfl) (WA.take (i := 4) rfl (by kernel_rfl) (by kernel_rfl) (by kernel_rfl) (fun _ => Ex.move rfl) (Wn.none rfl) rfl rfl (fun _ _ => rfl) (WA.take (i := 5) rfl (by kernel_rfl) (by kernel_rfl) (by kernel_rfl) (fun _ => Ex.nilCheckP rfl) (Wn.none rfl) rfl rfl (fun _ _ => rfl) (WA.take (i := 6) rfl (by kernel_rfl) (by kernel_rfl) (by kernel_rfl) (fun _ => Ex.fieldAddr Tryz.underlying72 rfl Tryz.sizeOf3 (by decide) rfl) (Wn.none rfl) rfl rfl (fun _ _ => rfl) ?_)))))
  refine WA.takeM (i := 3) [7] rfl (by kernel_rfl) (by kernel_rfl) (by kernel_rfl) (Ex.load1 H rfl (by repeat first | exact kMh | apply kMt) Tryz.isAgg9 (by rfl)) (Wn.none rfl) rfl rfl (fun _ _ => rfl) ?_
  refine WA.seq (fuel := 0) [7, 8, 9] rfl (by kernel_rfl) (ST (Ex.load1 H rfl (by repeat first | exact kMh | apply kMt) Tryz.isAgg3 (by rfl)) rfl ?_)
  refine ST (Ex.idxStrC Tryz.underlying9 rfl rfl hxc21) rfl (AS rfl rfl (NA (WA.done (by kernel_rfl) (TN (SQ (RG (MV rfl rfl (NL (TN (BL (SQ (RG (ST (Ex.eqlB (c := c21) (d := 34) rfl rfl) rfl (AS rfl rfl (NL (TN ?_))))))))))))))))
  refine WC.condB rfl (fun hk22 => ?_) (fun hk22 => ?_)
  ·
   replace hk22 : c21 = 34 := of_decide_eq_true hk22
   rw [if_pos hk22] at e3
   refine SQ ?_
   obtain ⟨n23, hxn23, e3⟩ := bnd e3
   refine RG (MV rfl rfl (ST (Ex.nilCheckP rfl) rfl (ST (Ex.fieldAddr Tryz.underlying72 rfl Tryz.sizeOf3 (by decide) rfl) rfl (ST (Ex.load1 H rfl (by repeat first | exact kMh | apply kMt) Tryz.isAgg3 (by rfl)) rfl ?_))))
   refine ST (Ex.addC rfl rfl hxn23) rfl (ST (Ex.nilCheckP rfl) rfl (ST (Ex.fieldAddr Tryz.underlying72 rfl Tryz.sizeOf3 (by decide) rfl) rfl (WR.store1 [_, _] H rfl rfl (by repeat first | exact .head | apply Upd.tail) (by rfl) Tryz.sizeOf3 (by first | decide | (simp; done) | (simp; omega)) (by rfl) (by rfl) (Wn.none rfl) ?_)))
   intro w H
   refine NL (TN (SQ (RG (MV rfl rfl ?_))))
   obtain ⟨M, hle, hs24, H⟩ := H.freezeRowN (v := v8) (enc := encB) (t := 5) (by repeat first | exact .head | apply Rem.tail) ⟨⟨_, (by repeat first | exact kMh | apply kMt)⟩, trivial⟩
   refine ST (Ex.toStr Tryz.underlying88 Tryz.underlying5 Tryz.underlying9 H (hs24) rfl) rfl (AS rfl rfl (NL (TN (RT ?_))))
   obtain rfl := oI e3
   try dsimp only at h
   obtain rfl := oI h
   exact WQ.retX1 (its := [.blk bp0 (.cells #[S s13, I n23] 72)]) rfl rfl H (by repeat first | exact kPn | refine kPc (by repeat first | exact .head | apply Rem.tail) ?_) ⟨rfl, rfl⟩
  ·
   replace hk22 : ¬ (c21 = 34) := of_decide_eq_false hk22
   rw [if_neg hk22] at e3
   refine SQ (RG (ST (Ex.eqlB (c := c21) (d := 92) rfl rfl) rfl (AS rfl rfl (NL (TN ?_)))))
   obtain ⟨o25, e26, e3⟩ := bnd e3
   refine WC.cutX (fun e w => ∃ (s27 : List UInt8) (n28 : Int) (l30 : List UInt8) (v31 : Value) (M : Mem), e = [(0, ptr bp0 0), (3, v31)] ∧ StX (feet [.blk bp0 (.cells #[S p0.1, I p0.2] 72)]) w0 M0 M [.blk bp0 (.cells #[S s27, I n28] 72), RowI 5 encB v31 l30] w ∧ some (.inl (s27, n28, l30)) = some o25) [] ?_ ?_ (trivial)
   ·
    refine WC.condB rfl (fun hk32 => ?_) (fun hk32 => ?_)
    ·
     replace hk32 : c21 = 92 := of_decide_eq_true hk32
     rw [if_pos hk32] at e26
     refine SQ (SQ ?_)
     obtain ⟨n33, hxn33, e26⟩ := bnd e26
     refine RG (MV rfl rfl (ST (Ex.nilCheckP rfl) rfl (ST (Ex.fieldAddr Tryz.underlying72 rfl Tryz.sizeOf3 (by decide) rfl) rfl (ST (Ex.load1 H rfl (by repeat first | exact kMh | apply kMt) Tryz.isAgg3 (by rfl)) rfl ?_))))
     refine ST (Ex.addC rfl rfl hxn33) rfl (ST (Ex.nilCheckP rfl) rfl (ST (Ex.fieldAddr Tryz.underlying72 rfl Tryz.sizeOf3 (by decide) rfl) rfl (WR.store1 [_, _] H rfl rfl (by repeat first | exact .head | apply Upd.tail) (by rfl) Tryz.sizeOf3 (by first | decide | (simp; done) | (simp; omega)) (by rfl) (by rfl) (Wn.none rfl) ?_)))
     intro w H
     refine NL (TN (SQ (WC.draw (m := 10) rfl rfl H ?_)))
     intro w H
     refine WA.take (i := 0) rfl (by kernel_rfl) (by kernel_rfl) (by kernel_rfl) (fun _ => Ex.move rfl) (Wn.none rfl) rfl rfl (fun _ _ => rfl) (WA.take (i := 1) rfl (by kernel_rfl) (by kernel_rfl) (by kernel_rfl) (fun _ => Ex.nilCheckP rfl) (Wn.none rfl) rfl rfl (fun _ _ => rfl) (WA.take (i := 2) rfl (by kernel_rfl) (by kernel_rfl) (by kernel_rfl) (fun _ => Ex.fieldAddr Tryz.underlying72 rfl Tryz.sizeOf3 (by decide) rfl) (Wn.none rfl) rfl rfl (fun _ _ => rfl) (WA.take (i := 4) rfl (by kernel_rfl) (by kernel_rfl) (by kernel_rfl) (fun _ => Ex.move rfl) (Wn.none rfl) rfl rfl (fun _ _ => rfl) (WA.take (i := 5) rfl (by kernel_rfl) (by kernel_rfl) (by kernel_rfl) (fun _ => Ex.nilCheckP rfl) (Wn.none rfl) rfl rfl (fun _ _ => rfl) (WA.take (i := 6) rfl (by kernel_rfl) (by kernel_rfl) (by kernel_rfl) (fun _ => Ex.fieldAddr Tryz.underlying72 rfl Tryz.sizeOf9 (by decide) rfl) (Wn.none rfl) rfl rfl (fun _ _ => rfl) ?_)))))
     refine WA.takeM (i := 7) [3] rfl (by kernel_rfl) (by kernel_rfl) (by kernel_rfl) (Ex.load1 H rfl (by repeat first | exact kMh | apply kMt) Tryz.isAgg9 (by rfl)) (Wn.none rfl) rfl rfl (fun _ _ => rfl) ?_
     refine WA.take (i := 8) rfl (by kernel_rfl) (by kernel_rfl) (by kernel_rfl) (fun _ => Ex.lenStr Tryz.underlying9 rfl) (Wn.none rfl) rfl rfl (fun _ _ => rfl) (WA.seq (fuel := 0) [3, 9] rfl (by kernel_rfl) (ST (Ex.load1 H rfl (by repeat first | exact kMh | apply kMt) Tryz.isAgg3 (by rfl)) rfl ?_))
     refine ST (Ex.geq rfl rfl) rfl (NA (WA.done (by kernel_rfl) (TN ?_)))
     obtain ⟨o34, e35, e26⟩ := bnd e26
     refine WC.cutX (fun e w => ∃ (s36 : List UInt8) (n37 : Int) (M : Mem), e = [(0, ptr bp0 0), (3, v8)] ∧ StX (feet [.blk bp0 (.cells #[S p0.1, I p0.2] 72)]) w0 M0 M [.blk bp0 (.cells #[S s36, I n37] 72), RowI 5 encB v8 l7] w ∧ some (.inl (s36, n37)) = some o34) [] ?_ ?_ (trivial)
     ·
      refine WC.condB rfl (fun hk38 => ?_) (fun hk38 => ?_)
      ·
       replace hk38 : (s13.length : Int) ≤ n33 := of_decide_eq_true hk38
       rw [if_pos hk38] at e35
       obtain ⟨o41, hx40, e35⟩ := bnd e35
       rcases o41 with o39 | n42
       ·
        try dsimp only at e35
        refine RG (MV rfl rfl ?_)
        refine WR.callX (A := [.blk bp0 (.cells #[S s13, I n33] 72)]) (B := [RowI 5 encB v8 l7]) (H.pick (L' := [.blk bp0 (.cells #[S s13, I n33] 72), RowI 5 encB v8 l7]) (by repeat first | exact kPn | refine kPc (by repeat first | exact .head | apply Rem.tail) ?_)) (Y03 hx40) (.left (Spl.all _)) rfl trivial (Wn.none rfl) rfl ?_
        intro v76 M w its H hle hR
        try dsimp only at hR
        obtain ⟨rfl, rfl⟩ := hR
        simp only [List.cons_append, List.nil_append] at H
        refine NL ?_
        exact WQ.meetN [(0, _), (3, _)] ⟨rfl, rfl, trivial⟩ ⟨_, _, _, rfl, H, e35⟩
       ·
        try dsimp only at e35
        obtain rfl := oI e35
        try dsimp only at e26
        obtain rfl := oI e26
        try dsimp only at e3
        obtain rfl := oI e3
        try dsimp only at h
        obtain rfl := oI h
        refine RG (MV rfl rfl ?_)
        refine WR.callPan (A := [.blk bp0 (.cells #[S s13, I n33] 72)]) (B := [RowI 5 encB v8 l7]) (H.pick (L' := [.blk bp0 (.cells #[S s13, I n33] 72), RowI 5 encB v8 l7]) (by repeat first | exact kPn | refine kPc (by repeat first | exact .head | apply Rem.tail) ?_)) (Y03 hx40) (.left (Spl.all _)) rfl trivial (Wn.none rfl) ?_
        intro M w H hle
        (repeat (first | refine WQ.pThen ?_ | refine WQ.pIn ?_ | refine WQ.pCut ?_ | refine WQ.pSc ?_))
        exact WQ.pBody H
      ·
       replace hk38 : ¬ ((s13.length : Int) ≤ n33) := of_decide_eq_false hk38
       rw [if_neg hk38] at e35
       refine SK ?_
       exact WQ.meetN [(0, _), (3, _)] ⟨rfl, rfl, trivial⟩ ⟨_, _, _, rfl, H, e35⟩
     ·
      rintro e w ⟨s36, n37, M, rfl, H, q43⟩
      obtain rfl := oI q43
      try dsimp only at e26
      refine TN ?_
      obtain ⟨c44, hxc44, e26⟩ := bnd e26
      obtain ⟨l45, hxl45, e26⟩ := bnd e26
      refine WC.draw (m := 13) rfl rfl H ?_
      intro w H
      refine WA.take (i := 0) rfl (by kernel_rfl) (by kernel_rfl) (by kernel_rfl) (fun _ => Ex.move rfl) (Wn.none rfl) rfl rfl (fun _ _ => rfl) (WA.take (i := 1) rfl (by kernel_rfl) (by kernel_rfl) (by kernel_rfl) (fun _ => Ex.move rfl) (Wn.none rfl) rfl rfl (fun _ _ => rfl) (WA.take (i := 2) rfl (by kernel_rfl) (by kernel_rfl) (by kernel_rfl) (fun _ => Ex.nilCheckP rfl) (Wn.none rfl) rfl rfl (fun _ _ => rfl) (WA.take (i := 3) rfl (by kernel_rfl) (by kernel_rfl) (by kernel_rfl) (fun _ => Ex.fieldAddr Tryz.underlying72 rfl Tryz.sizeOf9 (by decide) rfl) (Wn.none rfl) rfl rfl (fun _ _ => rfl) (WA.take (i := 5) rfl (by kernel_rfl) (by kernel_rfl) (by kernel_rfl) (fun _ => Ex.move rfl) (Wn.none rfl) rfl rfl (fun _ _ => rfl) (WA.take (i := 6) rfl (by kernel_rfl) (by kernel_rfl) (by kernel_rfl) (fun _ => Ex.nilCheckP rfl) (Wn.none rfl) rfl rfl (fun _ _ => rfl) (WA.take (i := 7) rfl (by kernel_rfl) (by kernel_rfl) (by kernel_rfl) (fun _ => Ex.fieldAddr Tryz.underlying72 rfl Tryz.sizeOf3 (by decide) rfl) (Wn.none rfl) rfl rfl (fun _ _ => rfl) ?_))))))
      refine WA.takeM (i := 4) [8] rfl (by kernel_rfl) (by kernel_rfl) (by kernel_rfl) (Ex.load1 H rfl (by repeat first | exact kMh | apply kMt) Tryz.isAgg9 (by rfl)) (Wn.none rfl) rfl rfl (fun _ _ => rfl) ?_
      refine WA.seq (fuel := 0) [8, 9, 10, 11, 12] rfl (by kernel_rfl) (ST (Ex.load1 H rfl (by repeat first | exact kMh | apply kMt) Tryz.isAgg3 (by rfl)) rfl ?_)
      refine ST (Ex.idxStrC Tryz.underlying9 rfl rfl hxc44) rfl (WR.lit (enc := encB) xty88 ([c44] : List UInt8) H rfl (by rfl) (fun _ => rfl) rfl rfl (Wn.none rfl) rfl ?_)
      intro v87 M w H hle hs87
      refine WR.appC (l := l7) xty88 rfl (fun _ => rfl) H rfl (fun _ => by repeat first | exact .head | apply Upd.tail) rfl (hs87) hxl45 (Wn.none rfl) rfl ?_
      intro v88 w H
      refine AS rfl rfl (NA (WA.done (by kernel_rfl) ?_))
      exact WQ.meetN [(0, _), (3, _)] ⟨rfl, rfl, trivial⟩ ⟨_, _, _, _, _, rfl, H, e26⟩
    ·
     replace hk32 : ¬ (c21 = 92) := of_decide_eq_false hk32
     rw [if_neg hk32] at e26
     obtain ⟨l48, hxl48, e26⟩ := bnd e26
     refine RG (MV rfl rfl (MV rfl rfl (WR.lit (enc := encB) xty88 ([c21] : List UInt8) H rfl (by rfl) (fun _ => rfl) rfl rfl (Wn.none rfl) rfl ?_)))
     intro v43 M w H hle hs43
     refine WR.appC (l := l7) xty88 rfl (fun _ => rfl) H rfl (fun _ => by repeat first | exact .head | apply Upd.tail) rfl (hs43) hxl48 (Wn.none rfl) rfl ?_
     intro v44 w H
     refine AS rfl rfl (NL ?_)
     exact WQ.meetN [(0, _), (3, _)] ⟨rfl, rfl, trivial⟩ ⟨_, _, _, _, _, rfl, H, e26⟩
   ·
    rintro e w ⟨s27, n28, l30, v31, M, rfl, H, q49⟩
    obtain rfl := oI q49
    try dsimp only at e3
    refine IB (IB (TN ?_))
    obtain ⟨n50, hxn50, e3⟩ := bnd e3
    refine RG (MV rfl rfl (ST (Ex.nilCheckP rfl) rfl (ST (Ex.fieldAddr Tryz.underlying72 rfl Tryz.sizeOf3 (by decide) rfl) rfl (ST (Ex.load1 H rfl (by repeat first | exact kMh | apply kMt) Tryz.isAgg3 (by rfl)) rfl ?_))))
    refine ST (Ex.addC rfl rfl hxn50) rfl (ST (Ex.nilCheckP rfl) rfl (ST (Ex.fieldAddr Tryz.underlying72 rfl Tryz.sizeOf3 (by decide) rfl) rfl (WR.store1 [_, _] H rfl rfl (by repeat first | exact .head | apply Upd.tail) (by rfl) Tryz.sizeOf3 (by first | decide | (simp; done) | (simp; omega)) (by rfl) (by rfl) (Wn.none rfl) ?_)))
    intro w H
    refine NL ?_
    exact WQ.againP m9 [(0, _), (3, _)] ⟨rfl, rfl, trivial⟩ ⟨_, _, _, _, _, rfl, H, e3⟩ (Nat.lt_succ_self _)
theorem Y0n {p0 : (List UInt8 × Int)} {bp0 : Nat} {r : ((Elt × (List UInt8 × Int)) ⊕ Int)} (h : Y0i p0 = some r) : CtS Tryz.prog 84 [ptr bp0 0] [.blk bp0 (.cells #[S p0.1, I p0.2] 72)] (fun M => True) (fun x => fun v M its => v = encA 76 136 x.1 ∧ its = [.blk bp0 (.cells #[S x.2.1, I x.2.2] 72)]) (fun n => Value.iface 69 (Value.agg #[I n])) r := by
 refine CtS.of Tryz.func84 (enters Tryz.func84 (by kernel_rfl) rfl) rfl rfl rfl ?_
 intro w0 M0 H hp
 unfold Y0i at h
 refine SQ (RG (AS rfl rfl (NL (TN (SQ ?_)))))
 obtain ⟨o3, hx2, h⟩ := bnd h
 rcases o3 with o1 | n4
 ·
  try dsimp only at h
  refine RG (MV rfl rfl ?_)
  refine WR.callX (A := [.blk bp0 (.cells #[S p0.1, I p0.2] 72)]) (B := []) (H.pick (L' := [.blk bp0 (.cells #[S p0.1, I p0.2] 72)]) (by repeat first | exact kPn | refine kPc (by repeat first | exact .head | apply Rem.tail) ?_)) (Y2E hx2) (.left (Spl.all _)) rfl trivial (Wn.none rfl) rfl ?_
  intro v6 M w its H hle hR
  try dsimp only at hR
  obtain ⟨rfl, rfl⟩ := hR
  simp only [List.cons_append, List.nil_append] at H
  refine NL (TN (SQ (SQ (WC.draw (m := 10) rfl rfl H ?_))))
  intro w H
  refine WA.take (i := 0) rfl (by kernel_rfl) (by kernel_rfl) (by kernel_rfl) (fun _ => Ex.move rfl) (Wn.none rfl) rfl rfl (fun _ _ => rfl) (WA.take (i := 1) rfl (by kernel_rfl) (by kernel_rfl) (by kernel_rfl) (fun _ => Ex.nilCheckP rfl) (Wn.none rfl) rfl rfl (fun _ _ => rfl) (WA.take (i := 2) rfl (by kernel_rfl) (by kernel_rfl) (by kernel_rfl) (fun _ => Ex.fieldAddr Tryz.underlying72 rfl Tryz.sizeOf3 (by decide) rfl) (Wn.none rfl) rfl rfl (fun _ _ => rfl) (WA.take (i := 4) rfl (by kernel_rfl) (by kernel_rfl) (by kernel_rfl) (fun _ => Ex.move rfl) (Wn.none rfl) rfl rfl (fun _ _ => rfl) (WA.take (i := 5) rfl (by kernel_rfl) (by kernel_rfl) (by kernel_rfl) (fun _ => Ex.nilCheckP rfl) (Wn.none rfl) rfl rfl (fun _ _ => rfl) (WA.take (i := 6) rfl (by kernel_rfl) (by kernel_rfl) (by kernel_rfl) (fun _ => Ex.fieldAddr Tryz.underlying72 rfl Tryz.sizeOf9 (by decide) rfl) (Wn.none rfl) rfl rfl (fun _ _ => rfl) ?_)))))
  refine WA.takeM (i := 7) [3] rfl (by kernel_rfl) (by kernel_rfl) (by kernel_rfl) (Ex.load1 H rfl (by repeat first | exact kMh | apply kMt) Tryz.isAgg9 (by rfl)) (Wn.none rfl) rfl rfl (fun _ _ => rfl) ?_
  refine WA.take (i := 8) rfl (by kernel_rfl) (by kernel_rfl) (by kernel_rfl) (fun _ => Ex.lenStr Tryz.underlying9 rfl) (Wn.none rfl) rfl rfl (fun _ _ => rfl) (WA.seq (fuel := 0) [3, 9] rfl (by kernel_rfl) (ST (Ex.load1 H rfl (by repeat first | exact kMh | apply kMt) Tryz.isAgg3 (by rfl)) rfl ?_))
  refine ST (Ex.geq rfl rfl) rfl (NA (WA.done (by kernel_rfl) (TN ?_)))
  refine WC.condB rfl (fun hk5 => ?_) (fun hk5 => ?_)
  ·
   replace hk5 : (o1.1.length : Int) ≤ o1.2 := of_decide_eq_true hk5
   rw [if_pos hk5] at h
   refine SQ (RG (AS rfl rfl (NL (TN (RT ?_)))))
   obtain rfl := oI h
   exact WQ.retX1 (its := [.blk bp0 (.cells #[S o1.1, I o1.2] 72)]) rfl rfl H (by repeat first | exact kPn | refine kPc (by repeat first | exact .head | apply Rem.tail) ?_) ⟨rfl, rfl⟩
  ·
   replace hk5 : ¬ ((o1.1.length : Int) ≤ o1.2) := of_decide_eq_false hk5
   rw [if_neg hk5] at h
   refine SK (TN (SQ ?_))
   obtain ⟨c6, hxc6, h⟩ := bnd h
   refine WC.draw (m := 10) rfl rfl H ?_
   intro w H
   refine WA.take (i := 0) rfl (by kernel_rfl) (by kernel_rfl) (by kernel_rfl) (fun _ => Ex.move rfl) (Wn.none rfl) rfl rfl (fun _ _ => rfl) (WA.take (i := 1) rfl (by kernel_rfl) (by kernel_rfl) (by kernel_rfl) (fun _ => Ex.nilCheckP rfl) (Wn.none rfl) rfl rfl (fun _ _ => rfl) (WA.take (i := 2) rfl (by kernel_rfl) (by kernel_rfl) (by kernel_rfl) (fun _ => Ex.fieldAddr Tryz.underlying72 rfl Tryz.sizeOf9 (by decide) rfl) (Wn.none rfl) rfl rfl (fun _ _ => rfl) (WA.take (i := 4) rfl (by kernel_rfl) (by kernel_rfl) (by kernel_rfl) (fun _ => Ex.move rfl) (Wn.none rfl) rfl rfl (fun _ _ => rfl) (WA.take (i := 5) rfl (by kernel_rfl) (by kernel_rfl) (by kernel_rfl) (fun _ => Ex.nilCheckP rfl) (Wn.none rfl) rfl rfl (fun _ _ => rfl) (WA.take (i := 6) rfl (by kernel_rfl) (by kernel_rfl) (by kernel_rfl) (fun _ => Ex.fieldAddr Tryz.underlying72 rfl Tryz.sizeOf3 (by decide) rfl) (Wn.none rfl) rfl rfl (fun _ _ => rfl) ?_)))))
   refine WA.takeM (i := 3) [7] rfl (by kernel_rfl) (by kernel_rfl) (by kernel_rfl) (Ex.load1 H rfl (by repeat first | exact kMh | apply kMt) Tryz.isAgg9 (by rfl)) (Wn.none rfl) rfl rfl (fun _ _ => rfl) ?_
   refine WA.seq (fuel := 0) [7, 8, 9] rfl (by kernel_rfl) (ST (Ex.load1 H rfl (by repeat first | exact kMh | apply kMt) Tryz.isAgg3 (by rfl)) rfl ?_)
   refine ST (Ex.idxStrC Tryz.underlying9 rfl rfl hxc6) rfl (AS rfl rfl (NA (WA.done (by kernel_rfl) (TN (SQ (SQ (RG (MV rfl rfl (ST (Ex.eqlB (c := c6) (d := 34) rfl rfl) rfl (NL (TN ?_)))))))))))
   refine WC.condB rfl (fun hk7 => ?_) (fun hk7 => ?_)
   ·
    replace hk7 : c6 = 34 := of_decide_eq_true hk7
    rw [if_pos hk7] at h
    refine SQ ?_
    obtain ⟨o11, hx10, h⟩ := bnd h
    rcases o11 with ⟨s8, o9⟩ | n12
    ·
     try dsimp only at h
     refine RG (MV rfl rfl ?_)
     refine WR.callX (A := [.blk bp0 (.cells #[S o1.1, I o1.2] 72)]) (B := []) (H.pick (L' := [.blk bp0 (.cells #[S o1.1, I o1.2] 72)]) (by repeat first | exact kPn | refine kPc (by repeat first | exact .head | apply Rem.tail) ?_)) (Y2D hx10) (.left (Spl.all _)) rfl trivial (Wn.none rfl) rfl ?_
     intro v29 M w its H hle hR
     try dsimp only at hR
     obtain ⟨rfl, rfl⟩ := hR
     simp only [List.cons_append, List.nil_append] at H
     refine ST (Ex.build [S s8, Value.bool true] Tryz.underlying136 Tryz.zeroValue136 (xplaces136 Tryz.underlying136) rfl rfl) rfl (ST (Ex.anyW (ts := 76) (s := s8) (b := true) (by kernel_rfl) rfl) rfl (AS rfl rfl (NL (TN (RT ?_)))))
     obtain rfl := oI h
     exact WQ.retX1 (its := [.blk bp0 (.cells #[S o9.1, I o9.2] 72)]) rfl rfl H (by repeat first | exact kPn | refine kPc (by repeat first | exact .head | apply Rem.tail) ?_) ⟨rfl, rfl⟩
    ·
     try dsimp only at h
     obtain rfl := oI h
     refine RG (MV rfl rfl ?_)
     refine WR.callPan (A := [.blk bp0 (.cells #[S o1.1, I o1.2] 72)]) (B := []) (H.pick (L' := [.blk bp0 (.cells #[S o1.1, I o1.2] 72)]) (by repeat first | exact kPn | refine kPc (by repeat first | exact .head | apply Rem.tail) ?_)) (Y2D hx10) (.left (Spl.all _)) rfl trivial (Wn.none rfl) ?_
     intro M w H hle
     (repeat (first | refine WQ.pThen ?_ | refine WQ.pIn ?_ | refine WQ.pCut ?_ | refine WQ.pSc ?_))
     exact WQ.pBody H
   ·
    replace hk7 : ¬ (c6 = 34) := of_decide_eq_false hk7
    rw [if_neg hk7] at h
    refine SK (TN (SQ (SQ ?_)))
    obtain ⟨n13, hx14, h⟩ := bnd h
    refine RG (MV rfl rfl (WR.call H (Y2Z hx14) rfl trivial (Wn.none rfl) rfl ?_))
    intro v33 M w H hle hR
    obtain rfl := hR
    refine ST (Ex.geq rfl rfl) rfl (NL (TN ?_))
    refine WC.condB rfl (fun hk15 => ?_) (fun hk15 => ?_)
    ·
     replace hk15 : (0 : Int) ≤ n13 := of_decide_eq_true hk15
     rw [if_pos hk15] at h
     refine SQ ?_
     obtain ⟨n16, hxn16, h⟩ := bnd h
     refine RG (MV rfl rfl (ST (Ex.nilCheckP rfl) rfl (ST (Ex.fieldAddr Tryz.underlying72 rfl Tryz.sizeOf3 (by decide) rfl) rfl (ST (Ex.load1 H rfl (by repeat first | exact kMh | apply kMt) Tryz.isAgg3 (by rfl)) rfl ?_))))
     refine ST (Ex.addC rfl rfl hxn16) rfl (ST (Ex.nilCheckP rfl) rfl (ST (Ex.fieldAddr Tryz.underlying72 rfl Tryz.sizeOf3 (by decide) rfl) rfl (WR.store1 [_, _] H rfl rfl (by repeat first | exact .head | apply Upd.tail) (by rfl) Tryz.sizeOf3 (by first | decide | (simp; done) | (simp; omega)) (by rfl) (by rfl) (Wn.none rfl) ?_)))
     intro w H
     refine NL (TN (SQ (RG (MV rfl rfl (ST (Ex.anyS (tw := 136) (c := c6) (by kernel_rfl) rfl) rfl (AS rfl rfl (NL (TN (RT ?_)))))))))
     obtain rfl := oI h
     exact WQ.retX1 (its := [.blk bp0 (.cells #[S o1.1, I n16] 72)]) rfl rfl H (by repeat first | exact kPn | refine kPc (by repeat first | exact .head | apply Rem.tail) ?_) ⟨rfl, rfl⟩
    ·
     replace hk15 : ¬ ((0 : Int) ≤ n13) := of_decide_eq_false hk15
     rw [if_neg hk15] at h
     refine SK (TN (SQ (RG (MV rfl rfl (ST (Ex.nilCheckP rfl) rfl (ST (Ex.fieldAddr Tryz.underlying72 rfl Tryz.sizeOf3 (by decide) rfl) rfl (ST (Ex.load1 H rfl (by repeat first | exact kMh | apply kMt) Tryz.isAgg3 (by rfl)) rfl ?_)))))))
     refine AS rfl rfl (NL (TN (SQ ?_)))
     obtain ⟨o17, e18, h⟩ := bnd h
     refine WC.cutX (fun e w => ∃ (s19 : List UInt8) (n20 : Int) (M : Mem), e = [(0, ptr bp0 0), (4, I o1.2)] ∧ StX (feet [.blk bp0 (.cells #[S p0.1, I p0.2] 72)]) w0 M0 M [.blk bp0 (.cells #[S s19, I n20] 72)] w ∧ some (s19, n20) = some o17) [] ?_ ?_ (trivial)
     ·
      refine BL (WC.loopP (fun m e w => ∃ (s21 : List UInt8) (n22 : Int) (M : Mem), e = [(0, ptr bp0 0), (4, I o1.2)] ∧ StX (feet [.blk bp0 (.cells #[S p0.1, I p0.2] 72)]) w0 M0 M [.blk bp0 (.cells #[S s21, I n22] 72)] w ∧ Y0k  m s21 n22 = some o17) FU [(0, _), (4, _)] ⟨rfl, rfl, trivial⟩ ⟨_, _, _, rfl, H, e18⟩ ?_)
      rintro m23 e w ⟨s21, n22, M, rfl, H, e18⟩
      rcases m23 with _ | m23
      · rw [Y0k] at e18; cases e18
      rw [Y0k] at e18
      refine SQ (SQ ?_)
      obtain ⟨o24, e25, e18⟩ := bnd e18
      refine WC.cutX (fun e w => ∃ (b26 : Bool) (M : Mem), e = [(0, ptr bp0 0), (4, I o1.2), (81, Value.bool b26)] ∧ StX (feet [.blk bp0 (.cells #[S p0.1, I p0.2] 72)]) w0 M0 M [.blk bp0 (.cells #[S s21, I n22] 72)] w ∧ some b26 = some o24) [] ?_ ?_ (trivial)
      ·
       refine WC.draw (m := 34) rfl rfl H ?_
       intro w H
       refine WA.take (i := 0) rfl (by kernel_rfl) (by kernel_rfl) (by kernel_rfl) (fun _ => Ex.move rfl) (Wn.none rfl) rfl rfl (fun _ _ => rfl) (WA.take (i := 1) rfl (by kernel_rfl) (by kernel_rfl) (by kernel_rfl) (fun _ => Ex.nilCheckP rfl) (Wn.none rfl) rfl rfl (fun _ _ => rfl) (WA.take (i := 2) rfl (by kernel_rfl) (by kernel_rfl) (by kernel_rfl) (fun _ => Ex.fieldAddr Tryz.underlying72 rfl Tryz.sizeOf3 (by decide) rfl) (Wn.none rfl) rfl rfl (fun _ _ => rfl) (WA.take (i := 4) rfl (by kernel_rfl) (by kernel_rfl) (by kernel_rfl) (fun _ => Ex.move rfl) (Wn.none rfl) rfl rfl (fun _ _ => rfl) (WA.take (i := 5) rfl (by kernel_rfl) (by kernel_rfl) (by kernel_rfl) (fun _ => Ex.nilCheckP rfl) (Wn.none rfl) rfl rfl (fun _ _ => rfl) (WA.take (i := 6) rfl (by kernel_rfl) (by kernel_rfl) (by kernel_rfl) (fun _ => Ex.fieldAddr Tryz.underlying72 rfl Tryz.sizeOf9 (by decide) rfl) (Wn.none rfl) rfl rfl (fun _ _ => rfl) ?_)))))
       refine WA.takeM (i := 7) [3] rfl (by kernel_rfl) (by kernel_rfl) (by kernel_rfl) (Ex.load1 H rfl (by repeat first | exact kMh | apply kMt) Tryz.isAgg9 (by rfl)) (Wn.none rfl) rfl rfl (fun _ _ => rfl) ?_
       refine WA.take (i := 8) rfl (by kernel_rfl) (by kernel_rfl) (by kernel_rfl) (fun _ => Ex.lenStr Tryz.underlying9 rfl) (Wn.none rfl) rfl rfl (fun _ _ => rfl) (ON 3 (by kernel_rfl) rfl (ST (Ex.load1 H rfl (by repeat first | exact kMh | apply kMt) Tryz.isAgg3 (by rfl)) rfl ?_))
       refine NA ?_
       by_cases hk27 : n22 < (s21.length : Int)
       ·
        rw [if_pos hk27] at e25
        obtain ⟨c28, hxc28, e25⟩ := bnd e25
        obtain ⟨b29, hx30, e25⟩ := bnd e25
        rcases b29 with _ | _
        ·
         rw [if_neg Bool.false_ne_true] at e25
         obtain ⟨c31, hxc31, e25⟩ := bnd e25
         refine WA.seq (fuel := 23) [9, 10] rfl (by kernel_rfl) (WR.stepE (v' := .bool true) (Ex.lss rfl rfl) (congrArg Value.bool (decide_eq_true hk27)) (Wn.none rfl) rfl rfl (MV rfl rfl (NA (WA.take (i := 11) rfl (by kernel_rfl) (by kernel_rfl) (by kernel_rfl) (fun _ => Ex.move rfl) (Wn.some rfl rfl rfl) rfl rfl (fun _ _ => rfl) (WA.take (i := 12) rfl (by kernel_rfl) (by kernel_rfl) (by kernel_rfl) (fun _ => Ex.nilCheckP rfl) (Wn.some rfl rfl rfl) rfl rfl (fun _ _ => rfl) (WA.take (i := 13) rfl (by kernel_rfl) (by kernel_rfl) (by kernel_rfl) (fun _ => Ex.fieldAddr Tryz.underlying72 rfl Tryz.sizeOf9 (by decide) rfl) (Wn.some rfl rfl rfl) rfl rfl (fun _ _ => rfl) (WA.take (i := 15) rfl (by kernel_rfl) (by kernel_rfl) (by kernel_rfl) (fun _ => Ex.move rfl) (Wn.some rfl rfl rfl) rfl rfl (fun _ _ => rfl) (WA.take (i := 16) rfl (by kernel_rfl) (by kernel_rfl) (by kernel_rfl) (fun _ => Ex.nilCheckP rfl) (Wn.some rfl rfl rfl) rfl rfl (fun _ _ => rfl) ?_))))))))
         refine WA.take (i := 17) rfl (by kernel_rfl) (by kernel_rfl) (by kernel_rfl) (fun _ => Ex.fieldAddr Tryz.underlying72 rfl Tryz.sizeOf3 (by decide) rfl) (Wn.some rfl rfl rfl) rfl rfl (fun _ _ => rfl) (WA.takeM (i := 14) [18] rfl (by kernel_rfl) (by kernel_rfl) (by kernel_rfl) (Ex.load1 H rfl (by repeat first | exact kMh | apply kMt) Tryz.isAgg9 (by rfl)) (Wn.some rfl rfl rfl) rfl rfl (fun _ _ => rfl) ?_)
         refine WA.seq (fuel := 12) [18, 19, 20, 21] rfl (by kernel_rfl) (SG (Ex.load1 H rfl (by repeat first | exact kMh | apply kMt) Tryz.isAgg3 (by rfl)) rfl rfl rfl ?_)
         refine SG (Ex.idxStrC Tryz.underlying9 rfl rfl hxc28) rfl rfl rfl (WR.call H (Y2C hx30) rfl trivial (Wn.some rfl rfl rfl) rfl ?_)
         intro v68 M w H hle hR
         obtain rfl := hR
         refine SG (Ex.move rfl) rfl rfl rfl (NA (WA.take (i := 22) rfl (by kernel_rfl) (by kernel_rfl) (by kernel_rfl) (fun _ => Ex.move rfl) (Wn.some rfl rfl rfl) rfl rfl (fun _ _ => rfl) (WA.take (i := 23) rfl (by kernel_rfl) (by kernel_rfl) (by kernel_rfl) (fun _ => Ex.nilCheckP rfl) (Wn.some rfl rfl rfl) rfl rfl (fun _ _ => rfl) (WA.take (i := 24) rfl (by kernel_rfl) (by kernel_rfl) (by kernel_rfl) (fun _ => Ex.fieldAddr Tryz.underlying72 rfl Tryz.sizeOf9 (by decide) rfl) (Wn.some rfl rfl rfl) rfl rfl (fun _ _ => rfl) (WA.take (i := 26) rfl (by kernel_rfl) (by kernel_rfl) (by kernel_rfl) (fun _ => Ex.move rfl) (Wn.some rfl rfl rfl) rfl rfl (fun _ _ => rfl) (WA.take (i := 27) rfl (by kernel_rfl) (by kernel_rfl) (by kernel_rfl) (fun _ => Ex.nilCheckP rfl) (Wn.some rfl rfl rfl) rfl rfl (fun _ _ => rfl) (WA.take (i := 28) rfl (by kernel_rfl) (by kernel_rfl) (by kernel_rfl) (fun _ => Ex.fieldAddr Tryz.underlying72 rfl Tryz.sizeOf3 (by decide) rfl) (Wn.some rfl rfl rfl) rfl rfl (fun _ _ => rfl) ?_)))))))
         refine WA.takeM (i := 25) [29] rfl (by kernel_rfl) (by kernel_rfl) (by kernel_rfl) (Ex.load1 H rfl (by repeat first | exact kMh | apply kMt) Tryz.isAgg9 (by rfl)) (Wn.some rfl rfl rfl) rfl rfl (fun _ _ => rfl) ?_
         refine WA.seq (fuel := 0) [29, 30, 31, 32, 33] rfl (by kernel_rfl) (SG (Ex.load1 H rfl (by repeat first | exact kMh | apply kMt) Tryz.isAgg3 (by rfl)) rfl rfl rfl ?_)
         refine SG (Ex.idxStrC Tryz.underlying9 rfl rfl hxc31) rfl rfl rfl (SG (Ex.eqlB (c := c31) (d := 46) rfl rfl) rfl rfl rfl (SG (Ex.pickF rfl rfl) rfl rfl rfl (PT rfl rfl rfl (NA (WA.done (by kernel_rfl) ?_)))))
         exact WQ.meetN [(0, _), (4, _), (81, _)] ⟨rfl, rfl, rfl, trivial⟩ ⟨_, _, rfl, H, e25⟩
        ·
         rw [if_pos rfl] at e25
         refine WA.seq (fuel := 23) [9, 10] rfl (by kernel_rfl) (WR.stepE (v' := .bool true) (Ex.lss rfl rfl) (congrArg Value.bool (decide_eq_true hk27)) (Wn.none rfl) rfl rfl (MV rfl rfl (NA (WA.take (i := 11) rfl (by kernel_rfl) (by kernel_rfl) (by kernel_rfl) (fun _ => Ex.move rfl) (Wn.some rfl rfl rfl) rfl rfl (fun _ _ => rfl) (WA.take (i := 12) rfl (by kernel_rfl) (by kernel_rfl) (by kernel_rfl) (fun _ => Ex.nilCheckP rfl) (Wn.some rfl rfl rfl) rfl rfl (fun _ _ => rfl) (WA.take (i := 13) rfl (by kernel_rfl) (by kernel_rfl) (by kernel_rfl) (fun _ => Ex.fieldAddr Tryz.underlying72 rfl Tryz.sizeOf9 (by decide) rfl) (Wn.some rfl rfl rfl) rfl rfl (fun _ _ => rfl) (WA.take (i := 15) rfl (by kernel_rfl) (by kernel_rfl) (by kernel_rfl) (fun _ => Ex.move rfl) (Wn.some rfl rfl rfl) rfl rfl (fun _ _ => rfl) (WA.take (i := 16) rfl (by kernel_rfl) (by kernel_rfl) (by kernel_rfl) (fun _ => Ex.nilCheckP rfl) (Wn.some rfl rfl rfl) rfl rfl (fun _ _ => rfl) ?_))))))))
         refine WA.take (i := 17) rfl (by kernel_rfl) (by kernel_rfl) (by kernel_rfl) (fun _ => Ex.fieldAddr Tryz.underlying72 rfl Tryz.sizeOf3 (by decide) rfl) (Wn.some rfl rfl rfl) rfl rfl (fun _ _ => rfl) (WA.takeM (i := 14) [18] rfl (by kernel_rfl) (by kernel_rfl) (by kernel_rfl) (Ex.load1 H rfl (by repeat first | exact kMh | apply kMt) Tryz.isAgg9 (by rfl)) (Wn.some rfl rfl rfl) rfl rfl (fun _ _ => rfl) ?_)
         refine WA.seq (fuel := 12) [18, 19, 20, 21] rfl (by kernel_rfl) (SG (Ex.load1 H rfl (by repeat first | exact kMh | apply kMt) Tryz.isAgg3 (by rfl)) rfl rfl rfl ?_)
         refine SG (Ex.idxStrC Tryz.underlying9 rfl rfl hxc28) rfl rfl rfl (WR.call H (Y2C hx30) rfl trivial (Wn.some rfl rfl rfl) rfl ?_)
         intro v68 M w H hle hR
         obtain rfl := hR
         refine SG (Ex.move rfl) rfl rfl rfl (NA (WA.takes (fuel := 8) [22, 23, 24, 25] rfl (by kernel_rfl) (by kernel_rfl) rfl (WA.seq (fuel := 0) [26, 27, 28, 29, 30, 31, 32, 33] rfl (by kernel_rfl) (WR.skipN 6 rfl rfl (SG (Ex.pickT rfl rfl) rfl rfl rfl (PT rfl rfl rfl (NA (WA.done (by kernel_rfl) ?_))))))))
         exact WQ.meetN [(0, _), (4, _), (81, _)] ⟨rfl, rfl, rfl, trivial⟩ ⟨_, _, rfl, H, e25⟩
       ·
        rw [if_neg hk27] at e25
        refine WA.seq (fuel := 23) [9, 10] rfl (by kernel_rfl) (WR.stepE (v' := .bool false) (Ex.lss rfl rfl) (congrArg Value.bool (decide_eq_false hk27)) (Wn.none rfl) rfl rfl (MV rfl rfl (NA (WA.takes (fuel := 19) [11, 12, 13, 14] rfl (by kernel_rfl) (by kernel_rfl) rfl (WA.seq (fuel := 12) [15, 16, 17, 18, 19, 20, 21] rfl (by kernel_rfl) (WR.skipN 7 rfl rfl (NA (WA.takes (fuel := 8) [22, 23, 24, 25] rfl (by kernel_rfl) (by kernel_rfl) rfl (WA.seq (fuel := 0) [26, 27, 28, 29, 30, 31, 32, 33] rfl (by kernel_rfl) (WR.skipN 7 rfl rfl (PF rfl rfl rfl (NA (WA.done (by kernel_rfl) ?_)))))))))))))
        exact WQ.meetN [(0, _), (4, _), (81, _)] ⟨rfl, rfl, rfl, trivial⟩ ⟨_, _, rfl, H, e25⟩
      ·
       rintro e w ⟨b26, M, rfl, H, q32⟩
       obtain rfl := oI q32
       refine TN ?_
       refine WC.condB rfl (fun hk33 => ?_) (fun hk33 => ?_)
       ·
        subst hk33
        rw [if_pos rfl] at e18
        refine SK (TN (BL ?_))
        obtain ⟨n34, hxn34, e18⟩ := bnd e18
        refine RG (MV rfl rfl (ST (Ex.nilCheckP rfl) rfl (ST (Ex.fieldAddr Tryz.underlying72 rfl Tryz.sizeOf3 (by decide) rfl) rfl (ST (Ex.load1 H rfl (by repeat first | exact kMh | apply kMt) Tryz.isAgg3 (by rfl)) rfl ?_))))
        refine ST (Ex.addC rfl rfl hxn34) rfl (ST (Ex.nilCheckP rfl) rfl (ST (Ex.fieldAddr Tryz.underlying72 rfl Tryz.sizeOf3 (by decide) rfl) rfl (WR.store1 [_, _] H rfl rfl (by repeat first | exact .head | apply Upd.tail) (by rfl) Tryz.sizeOf3 (by first | decide | (simp; done) | (simp; omega)) (by rfl) (by rfl) (Wn.none rfl) ?_)))
        intro w H
        refine NL (IB ?_)
        exact WQ.againP m23 [(0, _), (4, _)] ⟨rfl, rfl, trivial⟩ ⟨_, _, _, rfl, H, e18⟩ (Nat.lt_succ_self _)
       ·
        subst hk33
        rw [if_neg Bool.false_ne_true] at e18
        refine WC.exit (WQ.thenExit (WQ.thenExit (WQ.exitHere ?_)))
        exact WQ.meetN [(0, _), (4, _)] ⟨rfl, rfl, trivial⟩ ⟨_, _, _, rfl, H, e18⟩
     ·
      rintro e w ⟨s19, n20, M, rfl, H, q35⟩
      obtain rfl := oI q35
      try dsimp only at h
      refine TN (SQ (SQ (RG (MV rfl rfl (ST (Ex.nilCheckP rfl) rfl (ST (Ex.fieldAddr Tryz.underlying72 rfl Tryz.sizeOf3 (by decide) rfl) rfl (ST (Ex.load1 H rfl (by repeat first | exact kMh | apply kMt) Tryz.isAgg3 (by rfl)) rfl ?_)))))))
      refine MV rfl rfl (ST (Ex.eql rfl rfl) rfl (NL (TN ?_)))
      obtain ⟨o36, e37, h⟩ := bnd h
      refine WC.cutX (fun e w => ∃ (s38 : List UInt8) (n39 : Int) (M : Mem), e = [(0, ptr bp0 0), (4, I o1.2)] ∧ StX (feet [.blk bp0 (.cells #[S p0.1, I p0.2] 72)]) w0 M0 M [.blk bp0 (.cells #[S s38, I n39] 72)] w ∧ some (.inl (s38, n39)) = some o36) [] ?_ ?_ (trivial)
      ·
       refine WC.condB rfl (fun hk40 => ?_) (fun hk40 => ?_)
       ·
        replace hk40 : n20 = o1.2 := of_decide_eq_true hk40
        rw [if_pos hk40] at e37
        obtain ⟨o43, hx42, e37⟩ := bnd e37
        rcases o43 with o41 | n44
        ·
         try dsimp only at e37
         refine RG (MV rfl rfl ?_)
         refine WR.callX (A := [.blk bp0 (.cells #[S s19, I n20] 72)]) (B := []) (H.pick (L' := [.blk bp0 (.cells #[S s19, I n20] 72)]) (by repeat first | exact kPn | refine kPc (by repeat first | exact .head | apply Rem.tail) ?_)) (Y03 hx42) (.left (Spl.all _)) rfl trivial (Wn.none rfl) rfl ?_
         intro v96 M w its H hle hR
         try dsimp only at hR
         obtain ⟨rfl, rfl⟩ := hR
         simp only [List.cons_append, List.nil_append] at H
         refine NL ?_
         exact WQ.meetN [(0, _), (4, _)] ⟨rfl, rfl, trivial⟩ ⟨_, _, _, rfl, H, e37⟩
        ·
         try dsimp only at e37
         obtain rfl := oI e37
         try dsimp only at h
         obtain rfl := oI h
         refine RG (MV rfl rfl ?_)
         refine WR.callPan (A := [.blk bp0 (.cells #[S s19, I n20] 72)]) (B := []) (H.pick (L' := [.blk bp0 (.cells #[S s19, I n20] 72)]) (by repeat first | exact kPn | refine kPc (by repeat first | exact .head | apply Rem.tail) ?_)) (Y03 hx42) (.left (Spl.all _)) rfl trivial (Wn.none rfl) ?_
         intro M w H hle
         (repeat (first | refine WQ.pThen ?_ | refine WQ.pIn ?_ | refine WQ.pCut ?_ | refine WQ.pSc ?_))
         exact WQ.pBody H
       ·
        replace hk40 : ¬ (n20 = o1.2) := of_decide_eq_false hk40
        rw [if_neg hk40] at e37
        refine SK ?_
        exact WQ.meetN [(0, _), (4, _)] ⟨rfl, rfl, trivial⟩ ⟨_, _, _, rfl, H, e37⟩
      ·
       rintro e w ⟨s38, n39, M, rfl, H, q45⟩
       obtain rfl := oI q45
       try dsimp only at h
       refine TN (SQ ?_)
       obtain ⟨s46, hxs46, h⟩ := bnd h
       refine WC.draw (m := 13) rfl rfl H ?_
       intro w H
       refine WA.take (i := 0) rfl (by kernel_rfl) (by kernel_rfl) (by kernel_rfl) (fun _ => Ex.move rfl) (Wn.none rfl) rfl rfl (fun _ _ => rfl) (WA.take (i := 1) rfl (by kernel_rfl) (by kernel_rfl) (by kernel_rfl) (fun _ => Ex.nilCheckP rfl) (Wn.none rfl) rfl rfl (fun _ _ => rfl) (WA.take (i := 2) rfl (by kernel_rfl) (by kernel_rfl) (by kernel_rfl) (fun _ => Ex.fieldAddr Tryz.underlying72 rfl Tryz.sizeOf9 (by decide) rfl) (Wn.none rfl) rfl rfl (fun _ _ => rfl) (WA.take (i := 4) rfl (by kernel_rfl) (by kernel_rfl) (by kernel_rfl) (fun _ => Ex.move rfl) (Wn.none rfl) rfl rfl (fun _ _ => rfl) (WA.take (i := 5) rfl (by kernel_rfl) (by kernel_rfl) (by kernel_rfl) (fun _ => Ex.move rfl) (Wn.none rfl) rfl rfl (fun _ _ => rfl) (WA.take (i := 6) rfl (by kernel_rfl) (by kernel_rfl) (by kernel_rfl) (fun _ => Ex.nilCheckP rfl) (Wn.none rfl) rfl rfl (fun _ _ => rfl) (WA.take (i := 7) rfl (by kernel_rfl) (by kernel_rfl) (by kernel_rfl) (fun _ => Ex.fieldAddr Tryz.underlying72 rfl Tryz.sizeOf3 (by decide) rfl) (Wn.none rfl) rfl rfl (fun _ _ => rfl) ?_))))))
       refine WA.takeM (i := 3) [8] rfl (by kernel_rfl) (by kernel_rfl) (by kernel_rfl) (Ex.load1 H rfl (by repeat first | exact kMh | apply kMt) Tryz.isAgg9 (by rfl)) (Wn.none rfl) rfl rfl (fun _ _ => rfl) ?_
       refine WA.seq (fuel := 0) [8, 9, 10, 11, 12] rfl (by kernel_rfl) (ST (Ex.load1 H rfl (by repeat first | exact kMh | apply kMt) Tryz.isAgg3 (by rfl)) rfl ?_)
       refine ST (Ex.sliceC Tryz.underlying9 rfl rfl rfl hxs46) rfl (ST (Ex.build [S s46, Value.bool false] Tryz.underlying136 Tryz.zeroValue136 (xplaces136 Tryz.underlying136) rfl rfl) rfl (ST (Ex.anyW (ts := 76) (s := s46) (b := false) (by kernel_rfl) rfl) rfl (AS rfl rfl (NA (WA.done (by kernel_rfl) (TN (RT ?_)))))))
       obtain rfl := oI h
       exact WQ.retX1 (its := [.blk bp0 (.cells #[S s38, I n39] 72)]) rfl rfl H (by repeat first | exact kPn | refine kPc (by repeat first | exact .head | apply Rem.tail) ?_) ⟨rfl, rfl⟩
 ·
  try dsimp only at h
  obtain rfl := oI h
  refine RG (MV rfl rfl ?_)
  refine WR.callPan (A := [.blk bp0 (.cells #[S p0.1, I p0.2] 72)]) (B := []) (H.pick (L' := [.blk bp0 (.cells #[S p0.1, I p0.2] 72)]) (by repeat first | exact kPn | refine kPc (by repeat first | exact .head | apply Rem.tail) ?_)) (Y2E hx2) (.left (Spl.all _)) rfl trivial (Wn.none rfl) ?_
  intro M w H hle
  (repeat (first | refine WQ.pThen ?_ | refine WQ.pIn ?_ | refine WQ.pCut ?_ | refine WQ.pSc ?_))
  exact WQ.pBody H
theorem Y0o {p0 : (List UInt8 × Int)} {bp0 : Nat} {r : ((Elt × (List UInt8 × Int)) ⊕ Int)} (h : Y0d p0 = some r) : CtS Tryz.prog 46 [ptr bp0 0] [.blk bp0 (.cells #[S p0.1, I p0.2] 72)] (fun M => True) (fun x => fun v M its => v = encA 76 136 x.1 ∧ its = [.blk bp0 (.cells #[S x.2.1, I x.2.2] 72)]) (fun n => Value.iface 69 (Value.agg #[I n])) r := by
 refine CtS.of Tryz.func46 (enters Tryz.func46 (by kernel_rfl) rfl) rfl rfl rfl ?_
 intro w0 M0 H hp
 unfold Y0d at h
 refine SQ (RG (AS rfl rfl (NL (TN (SQ (RG (MV rfl rfl (ST (Ex.nilCheckP rfl) rfl (ST (Ex.fieldAddr Tryz.underlying72 rfl Tryz.sizeOf3 (by decide) rfl) rfl (ST (Ex.load1 H rfl (by repeat first | exact kMh | apply kMt) Tryz.isAgg3 (by rfl)) rfl ?_))))))))))
 refine AS rfl rfl (NL (TN (SQ ?_)))
 obtain ⟨o4, hx3, h⟩ := bnd h
 rcases o4 with ⟨n1, o2⟩ | n5
 ·
  try dsimp only at h
  refine RG (MV rfl rfl ?_)
  refine WR.callX (A := [.blk bp0 (.cells #[S p0.1, I p0.2] 72)]) (B := []) (H.pick (L' := [.blk bp0 (.cells #[S p0.1, I p0.2] 72)]) (by repeat first | exact kPn | refine kPc (by repeat first | exact .head | apply Rem.tail) ?_)) (Y0n hx3) (.left (Spl.all _)) rfl trivial (Wn.none rfl) rfl ?_
  intro v10 M w its H hle hR
  try dsimp only at hR
  obtain ⟨rfl, rfl⟩ := hR
  simp only [List.cons_append, List.nil_append] at H
  refine AS rfl rfl (NL (TN (SQ (RG (MV rfl rfl (MV rfl rfl (ST (Ex.nilCheckP rfl) rfl (ST (Ex.fieldAddr Tryz.underlying72 rfl Tryz.sizeOf3 (by decide) rfl) rfl (WR.store1 [_, _] H rfl rfl (by repeat first | exact .head | apply Upd.tail) (by rfl) Tryz.sizeOf3 (by first | decide | (simp; done) | (simp; omega)) (by rfl) (by rfl) (Wn.none rfl) ?_)))))))))
  intro w H
  refine NL (TN (SQ (RG (MV rfl rfl (AS rfl rfl (NL (TN (RT ?_))))))))
  obtain rfl := oI h
  exact WQ.retX1 (its := [.blk bp0 (.cells #[S o2.1, I p0.2] 72)]) rfl rfl H (by repeat first | exact kPn | refine kPc (by repeat first | exact .head | apply Rem.tail) ?_) ⟨rfl, rfl⟩
 ·
  try dsimp only at h
  obtain rfl := oI h
  refine RG (MV rfl rfl ?_)
  refine WR.callPan (A := [.blk bp0 (.cells #[S p0.1, I p0.2] 72)]) (B := []) (H.pick (L' := [.blk bp0 (.cells #[S p0.1, I p0.2] 72)]) (by repeat first | exact kPn | refine kPc (by repeat first | exact .head | apply Rem.tail) ?_)) (Y0n hx3) (.left (Spl.all _)) rfl trivial (Wn.none rfl) ?_
  intro M w H hle
  (repeat (first | refine WQ.pThen ?_ | refine WQ.pIn ?_ | refine WQ.pCut ?_ | refine WQ.pSc ?_))
  exact WQ.pBody H
theorem Y09 {p0 : (List UInt8 × Int)} {bp0 : Nat} {r : ((List (List UInt8 × Bool) × (List UInt8 × Int)) ⊕ Int)} (h : Y0G p0 = some r) : CtS Tryz.prog 85 [ptr bp0 0] [.blk bp0 (.cells #[S p0.1, I p0.2] 72)] (fun M => True) (fun x => fun v M its => ∃ x0, v = x0 ∧ SlS M 2 xenc136 x0 x.1 ∧ its = [.blk bp0 (.cells #[S x.2.1, I x.2.2] 72)]) (fun n => Value.iface 69 (Value.agg #[I n])) r := by
 refine CtS.of Tryz.func85 (enters Tryz.func85 (by kernel_rfl) rfl) rfl rfl rfl ?_
 intro w0 M0 H hp
 unfold Y0G at h
 refine SQ (RG (AS rfl rfl (NL (TN (SQ (RG (AS rfl rfl (NL (TN ?_)))))))))
 obtain ⟨o1, e2, h⟩ := bnd h
 refine BL ?_
 replace H := H.newRowS 136 2 xenc136
 refine WC.loopP (fun m e w => ∃ (s3 : List UInt8) (n4 : Int) (l6 : List (List UInt8 × Bool)) (v7 : Value) (M : Mem), e = [(0, ptr bp0 0), (3, v7)] ∧ StX (feet [.blk bp0 (.cells #[S p0.1, I p0.2] 72)]) w0 M0 M [.blk bp0 (.cells #[S s3, I n4] 72), RowS 136 2 xenc136 v7 l6] w ∧ Y0g  m s3 n4 l6 = some o1) FU [(0, _), (3, _)] ⟨rfl, rfl, trivial⟩ ⟨_, _, _, _, _, rfl, (H.pick (L' := [.blk bp0 (.cells #[S p0.1, I p0.2] 72), RowS 136 2 xenc136 (Value.slice none 0 0) []]) (by repeat first | exact kPn | refine kPc (by repeat first | exact .head | apply Rem.tail) ?_)), e2⟩ ?_
 rintro m8 e w ⟨s3, n4, l6, v7, M, rfl, H, e2⟩
 rcases m8 with _ | m8
 · rw [Y0g] at e2; cases e2
 rw [Y0g] at e2
 refine BL (SQ ?_)
 obtain ⟨o13, hx12, e2⟩ := bnd e2
 rcases o13 with ⟨n10, o11⟩ | n14
 ·
  try dsimp only at e2
  refine RG (MV rfl rfl ?_)
  refine WR.callX (A := [.blk bp0 (.cells #[S s3, I n4] 72)]) (B := [RowS 136 2 xenc136 v7 l6]) (H.pick (L' := [.blk bp0 (.cells #[S s3, I n4] 72), RowS 136 2 xenc136 v7 l6]) (by repeat first | exact kPn | refine kPc (by repeat first | exact .head | apply Rem.tail) ?_)) (Y0o hx12) (.left (Spl.all _)) rfl trivial (Wn.none rfl) rfl ?_
  intro v7 M w its H hle hR
  try dsimp only at hR
  obtain ⟨rfl, rfl⟩ := hR
  simp only [List.cons_append, List.nil_append] at H
  refine NL (TN (BL (SQ ?_)))
  obtain ⟨⟨w15, b16⟩, hx17, e2⟩ := bnd e2
  try dsimp only at e2
  refine RG (ST (Ex.anyOk Tryz.underlying136 Tryz.zeroValue136 rfl hx17 rfl) rfl (ST (Ex.extract rfl rfl) rfl (ST (Ex.extract rfl rfl) rfl (NL (TN ?_)))))
  refine WC.condB rfl (fun hk18 => ?_) (fun hk18 => ?_)
  ·
   subst hk18
   rw [if_pos rfl] at e2
   refine SQ (RG (WR.alloc [_, _] H Tryz.zeroValue136 rfl (Wn.none rfl) rfl ?_))
   intro bk4 w H
   refine WR.store [_, _] H rfl rfl rfl (by repeat first | exact .head | apply Upd.tail) Tryz.sizeOf136 rfl (by rfl) (by rfl) (Wn.none rfl) ?_
   intro w H
   refine NL (TN (SQ ?_))
   obtain ⟨o22, hx21, e2⟩ := bnd e2
   rcases o22 with ⟨n19, o20⟩ | n23
   ·
    try dsimp only at e2
    refine RG (MV rfl rfl ?_)
    refine WR.callX (A := [.blk bp0 (.cells #[S o11.1, I o11.2] 72)]) (B := [.blk bk4 (.cells #[S w15.1, Value.bool w15.2] 136), RowS 136 2 xenc136 v7 l6]) (H.pick (L' := [.blk bp0 (.cells #[S o11.1, I o11.2] 72), .blk bk4 (.cells #[S w15.1, Value.bool w15.2] 136), RowS 136 2 xenc136 v7 l6]) (by repeat first | exact kPn | refine kPc (by repeat first | exact .head | apply Rem.tail) ?_)) (Y0n hx21) (.left (Spl.all _)) rfl trivial (Wn.none rfl) rfl ?_
    intro v13 M w its H hle hR
    try dsimp only at hR
    obtain ⟨rfl, rfl⟩ := hR
    simp only [List.cons_append, List.nil_append] at H
    refine NL (TN ?_)
    obtain ⟨l24, hxl24, e2⟩ := bnd e2
    refine RG (MV rfl rfl (ST (Ex.loadAgg H rfl (by repeat first | exact kMh | apply kMt) Tryz.isAgg136 Tryz.sizeOf136 (by rfl)) rfl ?_))
    refine WR.litS (enc := xenc136) xty107 ([(w15.1, w15.2)] : List (List UInt8 × Bool)) H (fun _ => rfl) rfl (by kernel_rfl) rfl rfl rfl (Wn.none rfl) rfl ?_
    intro v16 M w H hle hs16
    refine WR.appSC (l := l6) xty107 rfl xone136 H rfl (fun _ => by repeat first | exact .head | apply Upd.tail) rfl (hs16) hxl24 (Wn.none rfl) rfl ?_
    intro v17 w H
    refine AS rfl rfl (NL (IB (IB ?_)))
    exact WQ.againP m8 [(0, _), (3, _)] ⟨rfl, rfl, trivial⟩ ⟨_, _, _, _, _, rfl, (H.pick (L' := [.blk bp0 (.cells #[S o20.1, I o20.2] 72), RowS 136 2 xenc136 v17 l24]) (by repeat first | exact kPn | refine kPc (by repeat first | exact .head | apply Rem.tail) ?_)), e2⟩ (Nat.lt_succ_self _)
   ·
    try dsimp only at e2
    obtain rfl := oI e2
    try dsimp only at h
    obtain rfl := oI h
    refine RG (MV rfl rfl ?_)
    refine WR.callPan (A := [.blk bp0 (.cells #[S o11.1, I o11.2] 72)]) (B := [.blk bk4 (.cells #[S w15.1, Value.bool w15.2] 136), RowS 136 2 xenc136 v7 l6]) (H.pick (L' := [.blk bp0 (.cells #[S o11.1, I o11.2] 72), .blk bk4 (.cells #[S w15.1, Value.bool w15.2] 136), RowS 136 2 xenc136 v7 l6]) (by repeat first | exact kPn | refine kPc (by repeat first | exact .head | apply Rem.tail) ?_)) (Y0n hx21) (.left (Spl.all _)) rfl trivial (Wn.none rfl) ?_
    intro M w H hle
    (repeat (first | refine WQ.pThen ?_ | refine WQ.pIn ?_ | refine WQ.pCut ?_ | refine WQ.pSc ?_))
    exact WQ.pBody H
  ·
   subst hk18
   rw [if_neg Bool.false_ne_true] at e2
   refine SQ (RG (AS rfl rfl (NL (TN (SQ (RG (MV rfl rfl (AS rfl rfl (NL (TN (RT ?_)))))))))))
   obtain ⟨M, hle, hs25, H⟩ := H.freezeRowSN (v := v7) (enc := xenc136) (t := 136) (by repeat first | exact .head | apply Rem.tail) (fun _ => rfl) ⟨⟨_, (by repeat first | exact kMh | apply kMt)⟩, trivial⟩
   obtain rfl := oI e2
   try dsimp only at h
   obtain rfl := oI h
   exact WQ.retX1 (its := [.blk bp0 (.cells #[S o11.1, I o11.2] 72)]) rfl rfl H (by repeat first | exact kPn | refine kPc (by repeat first | exact .head | apply Rem.tail) ?_) ⟨_, rfl, hs25, rfl⟩
 ·
  try dsimp only at e2
  obtain rfl := oI e2
  try dsimp only at h
  obtain rfl := oI h
  refine RG (MV rfl rfl ?_)
  refine WR.callPan (A := [.blk bp0 (.cells #[S s3, I n4] 72)]) (B := [RowS 136 2 xenc136 v7 l6]) (H.pick (L' := [.blk bp0 (.cells #[S s3, I n4] 72), RowS 136 2 xenc136 v7 l6]) (by repeat first | exact kPn | refine kPc (by repeat first | exact .head | apply Rem.tail) ?_)) (Y0o hx12) (.left (Spl.all _)) rfl trivial (Wn.none rfl) ?_
  intro M w H hle
  (repeat (first | refine WQ.pThen ?_ | refine WQ.pIn ?_ | refine WQ.pCut ?_ | refine WQ.pSc ?_))
  exact WQ.pBody H
theorem Y0a {p0 : (List UInt8 × Int)} {p1 : UInt8} {bp0 : Nat} {r : ((Bool × (List UInt8 × Int)) ⊕ Int)} (h : Y0v p0 p1 = some r) : CtS Tryz.prog 48 [ptr bp0 0, encB p1] [.blk bp0 (.cells #[S p0.1, I p0.2] 72)] (fun M => True) (fun x => fun v M its => v = Value.bool x.1 ∧ its = [.blk bp0 (.cells #[S x.2.1, I x.2.2] 72)]) (fun n => Value.iface 69 (Value.agg #[I n])) r := by
 refine CtS.of Tryz.func48 (enters Tryz.func48 (by kernel_rfl) rfl) rfl rfl rfl ?_
 intro w0 M0 H hp
 unfold Y0v at h
 refine SQ (RG (AS rfl rfl (NL (TN (SQ (SQ ?_))))))
 obtain ⟨o4, hx3, h⟩ := bnd h
 rcases o4 with ⟨n1, o2⟩ | n5
 ·
  try dsimp only at h
  refine RG (MV rfl rfl ?_)
  refine WR.callX (A := [.blk bp0 (.cells #[S p0.1, I p0.2] 72)]) (B := []) (H.pick (L' := [.blk bp0 (.cells #[S p0.1, I p0.2] 72)]) (by repeat first | exact kPn | refine kPc (by repeat first | exact .head | apply Rem.tail) ?_)) (Y0o hx3) (.left (Spl.all _)) rfl trivial (Wn.none rfl) rfl ?_
  intro v6 M w its H hle hR
  try dsimp only at hR
  obtain ⟨rfl, rfl⟩ := hR
  simp only [List.cons_append, List.nil_append] at H
  refine MV rfl rfl (ST (Ex.anyS (tw := 136) (c := p1) (by kernel_rfl) rfl) rfl (ST (Ex.neqAnyS Tryz.underlying20 (by decide) (by kernel_rfl) Tryz.underlying76 rfl rfl) rfl (NL (TN ?_))))
  refine WC.condB rfl (fun hk6 => ?_) (fun hk6 => ?_)
  ·
   replace hk6 : ¬ (n1 = (eltS p1)) := of_not_decide hk6
   rw [if_neg hk6] at h
   refine SQ (RG (AS rfl rfl (NL (TN (RT ?_)))))
   obtain rfl := oI h
   exact WQ.retX1 (its := [.blk bp0 (.cells #[S o2.1, I o2.2] 72)]) rfl rfl H (by repeat first | exact kPn | refine kPc (by repeat first | exact .head | apply Rem.tail) ?_) ⟨rfl, rfl⟩
  ·
   replace hk6 : n1 = (eltS p1) := of_not_decide' hk6
   rw [if_pos hk6] at h
   refine SK (TN (SQ ?_))
   obtain ⟨o10, hx9, h⟩ := bnd h
   rcases o10 with ⟨n7, o8⟩ | n11
   ·
    try dsimp only at h
    refine RG (MV rfl rfl ?_)
    refine WR.callX (A := [.blk bp0 (.cells #[S o2.1, I o2.2] 72)]) (B := []) (H.pick (L' := [.blk bp0 (.cells #[S o2.1, I o2.2] 72)]) (by repeat first | exact kPn | refine kPc (by repeat first | exact .head | apply Rem.tail) ?_)) (Y0n hx9) (.left (Spl.all _)) rfl trivial (Wn.none rfl) rfl ?_
    intro v11 M w its H hle hR
    try dsimp only at hR
    obtain ⟨rfl, rfl⟩ := hR
    simp only [List.cons_append, List.nil_append] at H
    refine NL (TN (SQ (RG (AS rfl rfl (NL (TN (RT ?_)))))))
    obtain rfl := oI h
    exact WQ.retX1 (its := [.blk bp0 (.cells #[S o8.1, I o8.2] 72)]) rfl rfl H (by repeat first | exact kPn | refine kPc (by repeat first | exact .head | apply Rem.tail) ?_) ⟨rfl, rfl⟩
   ·
    try dsimp only at h
    obtain rfl := oI h
    refine RG (MV rfl rfl ?_)
    refine WR.callPan (A := [.blk bp0 (.cells #[S o2.1, I o2.2] 72)]) (B := []) (H.pick (L' := [.blk bp0 (.cells #[S o2.1, I o2.2] 72)]) (by repeat first | exact kPn | refine kPc (by repeat first | exact .head | apply Rem.tail) ?_)) (Y0n hx9) (.left (Spl.all _)) rfl trivial (Wn.none rfl) ?_
    intro M w H hle
    (repeat (first | refine WQ.pThen ?_ | refine WQ.pIn ?_ | refine WQ.pCut ?_ | refine WQ.pSc ?_))
    exact WQ.pBody H
 ·
  try dsimp only at h
  obtain rfl := oI h
  refine RG (MV rfl rfl ?_)
  refine WR.callPan (A := [.blk bp0 (.cells #[S p0.1, I p0.2] 72)]) (B := []) (H.pick (L' := [.blk bp0 (.cells #[S p0.1, I p0.2] 72)]) (by repeat first | exact kPn | refine kPc (by repeat first | exact .head | apply Rem.tail) ?_)) (Y0o hx3) (.left (Spl.all _)) rfl trivial (Wn.none rfl) ?_
  intro M w H hle
  (repeat (first | refine WQ.pThen ?_ | refine WQ.pIn ?_ | refine WQ.pCut ?_ | refine WQ.pSc ?_))
  exact WQ.pBody H
theorem Y0H {p0 : (List UInt8 × Int)} {p1 : UInt8} {bp0 : Nat} {r : ((List UInt8 × Int) ⊕ Int)} (h : Y0O p0 p1 = some r) : CtS Tryz.prog 88 [ptr bp0 0, encB p1] [.blk bp0 (.cells #[S p0.1, I p0.2] 72)] (fun M => True) (fun x => fun v M its => v = Value.tuple #[] ∧ its = [.blk bp0 (.cells #[S x.1, I x.2] 72)]) (fun n => Value.iface 69 (Value.agg #[I n])) r := by
 refine CtS.of Tryz.func88 (enters Tryz.func88 (by kernel_rfl) rfl) rfl rfl rfl ?_
 intro w0 M0 H hp
 unfold Y0O at h
 refine SQ ?_
 obtain ⟨o4, hx3, h⟩ := bnd h
 rcases o4 with ⟨b1, o2⟩ | n5
 ·
  try dsimp only at h
  refine RG (MV rfl rfl (MV rfl rfl ?_))
  refine WR.callX (A := [.blk bp0 (.cells #[S p0.1, I p0.2] 72)]) (B := []) (H.pick (L' := [.blk bp0 (.cells #[S p0.1, I p0.2] 72)]) (by repeat first | exact kPn | refine kPc (by repeat first | exact .head | apply Rem.tail) ?_)) (Y0a hx3) (.left (Spl.all _)) rfl trivial (Wn.none rfl) rfl ?_
  intro v6 M w its H hle hR
  try dsimp only at hR
  obtain ⟨rfl, rfl⟩ := hR
  simp only [List.cons_append, List.nil_append] at H
  refine ST (Ex.not rfl) rfl (NL (TN ?_))
  refine WC.condB rfl (fun hk6 => ?_) (fun hk6 => ?_)
  ·
   replace hk6 : b1 = false := by simpa using hk6
   subst hk6
   rw [if_neg Bool.false_ne_true] at h
   obtain ⟨o9, hx8, h⟩ := bnd h
   rcases o9 with o7 | n10
   ·
    try dsimp only at h
    refine RG (MV rfl rfl ?_)
    refine WR.callX (A := [.blk bp0 (.cells #[S o2.1, I o2.2] 72)]) (B := []) (H.pick (L' := [.blk bp0 (.cells #[S o2.1, I o2.2] 72)]) (by repeat first | exact kPn | refine kPc (by repeat first | exact .head | apply Rem.tail) ?_)) (Y03 hx8) (.left (Spl.all _)) rfl trivial (Wn.none rfl) rfl ?_
    intro v9 M w its H hle hR
    try dsimp only at hR
    obtain ⟨rfl, rfl⟩ := hR
    simp only [List.cons_append, List.nil_append] at H
    refine NL ?_
    obtain rfl := oI h
    exact WQ.endX0 (its := [.blk bp0 (.cells #[S o7.1, I o7.2] 72)]) rfl H (by repeat first | exact kPn | refine kPc (by repeat first | exact .head | apply Rem.tail) ?_) ⟨rfl, rfl⟩
   ·
    try dsimp only at h
    obtain rfl := oI h
    refine RG (MV rfl rfl ?_)
    refine WR.callPan (A := [.blk bp0 (.cells #[S o2.1, I o2.2] 72)]) (B := []) (H.pick (L' := [.blk bp0 (.cells #[S o2.1, I o2.2] 72)]) (by repeat first | exact kPn | refine kPc (by repeat first | exact .head | apply Rem.tail) ?_)) (Y03 hx8) (.left (Spl.all _)) rfl trivial (Wn.none rfl) ?_
    intro M w H hle
    (repeat (first | refine WQ.pThen ?_ | refine WQ.pIn ?_ | refine WQ.pCut ?_ | refine WQ.pSc ?_))
    exact WQ.pBody H
  ·
   replace hk6 : b1 = true := by simpa using hk6
   subst hk6
   rw [if_pos rfl] at h
   refine SK ?_
   obtain rfl := oI h
   exact WQ.endX0 (its := [.blk bp0 (.cells #[S o2.1, I o2.2] 72)]) rfl H (by repeat first | exact kPn | refine kPc (by repeat first | exact .head | apply Rem.tail) ?_) ⟨rfl, rfl⟩
 ·
  try dsimp only at h
  obtain rfl := oI h
  refine RG (MV rfl rfl (MV rfl rfl ?_))
  refine WR.callPan (A := [.blk bp0 (.cells #[S p0.1, I p0.2] 72)]) (B := []) (H.pick (L' := [.blk bp0 (.cells #[S p0.1, I p0.2] 72)]) (by repeat first | exact kPn | refine kPc (by repeat first | exact .head | apply Rem.tail) ?_)) (Y0a hx3) (.left (Spl.all _)) rfl trivial (Wn.none rfl) ?_
  intro M w H hle
  (repeat (first | refine WQ.pThen ?_ | refine WQ.pIn ?_ | refine WQ.pCut ?_ | refine WQ.pSc ?_))
  exact WQ.pBody H
end Go.Proofs.YtkmjdamkifbddaaGreatDoor
end
