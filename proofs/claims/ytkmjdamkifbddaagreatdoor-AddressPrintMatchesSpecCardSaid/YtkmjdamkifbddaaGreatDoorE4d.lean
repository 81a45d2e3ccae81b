/-
  Ect1, Ect2: own texts of this repository (wip/tpl, wip/plans), merged and shaken by wip/tools/pack.py.
-/
import Derived.Test.YtkmjdamkifbddaaGreatDoorProg
import Derived.KernelRfl
import Derived.Test.YtkmjdamkifbddaaGreatDoorE4c
set_option maxRecDepth 100000
set_option linter.unusedVariables false
set_option linter.unusedSimpArgs false
section
namespace Go.Proofs.YtkmjdamkifbddaaGreatDoor
open Go Go.RowKit Go.Ph Go.Ph.Pl Go.Ph.Pf
abbrev xenc24 (x : (Ls × Ls × Ls)) : List Value := [S x.1, S x.2.1, S x.2.2]
abbrev xenc136 (x : (Ls × Bool)) : List Value := [S x.1, Value.bool x.2]
theorem xty55 : ElemTy Tryz.prog 55 9 (.string ⟨#[]⟩) 1 16 := q1I Tu55 Kr rfl Dc
theorem xty88 : ElemTy Tryz.prog 88 5 (.int .u8 0) 1 1 := q1I Tu88 Kr rfl Dc
theorem xone1_5 : (Tryz.prog.info? 5).map (·.size) = some 1 := by kernel_rfl
theorem xty30 : ElemTy Tryz.prog 30 24 (.agg #[.string ⟨#[]⟩, .string ⟨#[]⟩, .string ⟨#[]⟩]) 3 48 := q1I Tu30 Kr rfl Dc
theorem xone24 : ∀ (a : (Ls × Ls × Ls)), ∀ u ∈ xenc24 a, u.oneCell' = true := by
 intro a u hu
 simp only [xenc24, l1a, l0U, or_false] at hu
 rcases hu with rfl | rfl | rfl <;> rfl
abbrev xenr34 (f : (Ls × Bool × Hd)) : List Value := [S f.1, Value.bool f.2.1, hv f.2.2]
abbrev xrl34 : Rl (Ls × Bool × Hd) (Ls × Bool × List (Ls × Ls × Ls)) where
 k := 3
 enc := xenr34
 rel M f x := f.1 = x.1 ∧ f.2.1 = x.2.1 ∧ SlS M 3 xenc24 (hv f.2.2) x.2.2
 len := fun _ => rfl
 one := by
  intro f u hu
  simp only [l1a, l0U, or_false] at hu
  rcases hu with rfl | rfl | rfl <;> rfl
 up := by intro M M' hl f x h; exact ⟨h.1, h.2.1, h.2.2.mono hl⟩
theorem xplaces24 : ∀ {fs : Array Field}, Tryz.prog.underlying 24 = some (.struct fs) → ∀ w, (fs.mapM fun f => do pure (f.offset, ← sizeOf f.type) : Sem (Array (Nat × Nat))).run Tryz.prog w = .ok #[(0, 1), (1, 1), (2, 1)] w := by
 intro fs h w
 rw [Tu24] at h
 cases h
 simp
theorem xplaces34 : ∀ {fs : Array Field}, Tryz.prog.underlying 34 = some (.struct fs) → ∀ w, (fs.mapM fun f => do pure (f.offset, ← sizeOf f.type) : Sem (Array (Nat × Nat))).run Tryz.prog w = .ok #[(0, 1), (1, 1), (2, 1)] w := by
 intro fs h w
 rw [Tu34] at h
 cases h
 simp
theorem xty22 : ElemTy Tryz.prog 22 34 (.agg #[.string ⟨#[]⟩, .bool false, .slice none 0 0]) 3 48 := q1I Tu22 Kr rfl Dc
theorem xplaces27 : ∀ {fs : Array Field}, Tryz.prog.underlying 27 = some (.struct fs) → ∀ w, (fs.mapM fun f => do pure (f.offset, ← sizeOf f.type) : Sem (Array (Nat × Nat))).run Tryz.prog w = .ok #[(0, 1), (1, 1)] w := by
 intro fs h w
 rw [Tu27] at h
 cases h
 simp
def FnT90 (M : Mem) (v : Value) (g : (UInt8 → Option Bool)) : Prop := One v ∧ ∀ (a0 : UInt8) (r : Bool), g a0 = some r → FnV Tryz.prog M v [encB a0] (fun v M => v = Value.bool r)
theorem FnT90.mono {M M' : Mem} {v : Value} {g : (UInt8 → Option Bool)} (h : FnT90 M v g) (hl : M.le M') : FnT90 M' v g := ⟨h.1, fun a0 r hr => (h.2 a0 r hr).mono hl⟩
theorem xplaces72 : ∀ {fs : Array Field}, Tryz.prog.underlying 72 = some (.struct fs) → ∀ w, (fs.mapM fun f => do pure (f.offset, ← sizeOf f.type) : Sem (Array (Nat × Nat))).run Tryz.prog w = .ok #[(0, 1), (1, 1)] w := by
 intro fs h w
 rw [Tu72] at h
 cases h
 simp
theorem xplaces69 : ∀ {fs : Array Field}, Tryz.prog.underlying 69 = some (.struct fs) → ∀ w, (fs.mapM fun f => do pure (f.offset, ← sizeOf f.type) : Sem (Array (Nat × Nat))).run Tryz.prog w = .ok #[(0, 1)] w := by
 intro fs h w
 rw [Tu69] at h
 cases h
 simp
theorem xplaces136 : ∀ {fs : Array Field}, Tryz.prog.underlying 136 = some (.struct fs) → ∀ w, (fs.mapM fun f => do pure (f.offset, ← sizeOf f.type) : Sem (Array (Nat × Nat))).run Tryz.prog w = .ok #[(0, 1), (1, 1)] w := by
 intro fs h w
 rw [Tu136] at h
 cases h
 simp
theorem xty107 : ElemTy Tryz.prog 107 136 (.agg #[.string ⟨#[]⟩, .bool false]) 2 24 := q1I Tu107 Kr rfl Dc
theorem xone136 : ∀ (a : (Ls × Bool)), ∀ u ∈ xenc136 a, u.oneCell' = true := by
 intro a u hu
 simp only [xenc136, l1a, l0U, or_false] at hu
 rcases hu with rfl | rfl <;> rfl
theorem xeq27 (a0 b0 : Int) (a1 b1 : Int) (w : World) : (Op.equalIn 10000 27 (.agg #[.int .i64 a0, .int .i64 a1]) (.agg #[.int .i64 b0, .int .i64 b1])).run Tryz.prog w = .ok (decide (a0 = b0 ∧ a1 = b1)) w := by
 rw [run_equalIn_struct w 9999 27 _ _ (by rw [Program.fieldsOf, Tu27]) Kr]
 rw [Program.fieldsOf, Tu27]
 by_cases h0 : a0 = b0
 rotate_left
 · simp [Op.eqFields, part, h0, Ta3, run_equalIn_int _ _ _ _ _ _ _ Tu3]
 by_cases h1 : a1 = b1
 rotate_left
 · simp [Op.eqFields, part, h0, h1, Ta3, run_equalIn_int _ _ _ _ _ _ _ Tu3]
 simp [Op.eqFields, part, h0, h1, Ta3, run_equalIn_int _ _ _ _ _ _ _ Tu3]
theorem indexByte_ixB (l : Ls) (c : UInt8) : Lib.indexByte l c = ixB l c := by
 unfold ixB
 induction l with
 | nil => simp [Lib.indexByte]
 | cons b l ih =>
   simp only [Lib.indexByte, List.idxOf_cons, l02]
   by_cases h : b = c
   · subst h; simp
   have h' : (b == c) = false := by simpa using h
   rw [h', ih]
   simp only [l0k, if_false, cond_false]
   by_cases hl : l.idxOf c < l.length
   · have h1 : l.idxOf c + 1 < l.length + 1 := by omega
     have h2 : ¬ (((l.idxOf c : Int) == -1) = true) := by simp only [beq_iff_eq]; omega
     simp only [hl, h1, if_true, h2, if_false, l0k]
     omega
   have h1 : ¬ (l.idxOf c + 1 < l.length + 1) := by omega
   simp only [hl, h1, if_false]
   rfl
theorem join_jn (sep : Ls) : ∀ l : List Ls, Lib.join l sep = jn sep l
 | [] => rfl
 | [x] => Lib.join_one x sep
 | x :: y :: r => by
   have h := join_jn sep (y :: r)
   rw [Lib.join_cons] at h ⊢
   rw [jn, ← h]
   simp [Lib.joinTail]
theorem Y3m {p0 : Ls} {r : Bool} (h : Y12 p0 = some r) : Ct Tryz.prog 65 [S p0] (fun M => Tabs M) (fun v M => v = Value.bool r) := by
 unfold Y12 at h
 split at h
 case isFalse => cases h
 rename_i hb
 cases h
 exact validString_spec p0 hb
theorem Y52 {p0 : Ls} {r : Bool} (h : R_Valid p0 = some r) : Ct Tryz.prog 71 [S p0] (fun M => True) (fun v M => v = Value.bool r) := by
 unfold R_Valid at h
 split at h
 case isFalse => cases h
 rename_i hb
 cases h
 exact valid_spec p0 hb
theorem grapheme_Split_ct {p0 : Ls} {r : List Ls} (h : grapheme_Split p0 = some r) : Ct Tryz.prog 139 [S p0] (fun M => Tabs M) (fun v M => Sl M encS v r) := by
 unfold grapheme_Split at h
 split at h
 case isFalse => cases h
 rename_i hb
 cases h
 exact split_spec p0 hb
theorem Y4X {p0 : Ls} {r : List Ls} (h : Y4x p0 = some r) : Ct Tryz.prog 149 [S p0] (fun M => True) (fun v M => Sl M encS v r) := by
 unfold Y4x at h
 split at h
 case isFalse => cases h
 rename_i hb
 cases h
 exact rpieces_spec p0 hb
theorem Y53 {p0 : Ls} {r : List Int} (h : R_Runes p0 = some r) : Ct Tryz.prog 148 [S p0] (fun M => True) (fun v M => Sl M encI v r) := by
 unfold R_Runes at h
 split at h
 case isFalse => cases h
 rename_i hb
 cases h
 exact runes_spec p0 hb
theorem Y4G {p0 : Ls} {r : Ls} (h : Y3d p0 = some r) : Ct Tryz.prog 55 [S p0] (fun M => True) (fun v M => v = S r) := by
 unfold Y3d at h
 split at h
 case isFalse => cases h
 rename_i hb
 cases h
 exact lower_spec p0 hb
theorem Y55 {p0 : Ls} {r : Int} (h : R_SetOf p0 = some r) : Ct Tryz.prog 152 [S p0] (fun M => True) (fun v M => v = I r) := by
 unfold R_SetOf at h
 split at h
 case isFalse => cases h
 rename_i hb
 cases h
 exact setOf_spec p0 hb
theorem Y59 {p0 : Int} {r : Ls} (h : R_Utf8 p0 = some r) : Ct Tryz.prog 150 [I p0] (fun M => True) (fun v M => v = S r) := by
 unfold R_Utf8 at h
 cases h
 exact Y16 p0
theorem Y4A {p0 : Ls} {r : Ls} (h : Y3r p0 = some r) : Ct Tryz.prog 110 [S p0] (fun M => True) (fun v M => v = S r) := by
 unfold Y3r at h
 cases h
 exact best_spec p0
theorem Y5a {p0 : Ls} {r : Ls} (h : R_Best p0 = some r) : Ct Tryz.prog 118 [S p0] (fun M => True) (fun v M => v = S r) := by
 unfold R_Best at h
 split at h
 case isFalse => cases h
 rename_i hb
 cases h
 exact rbest_spec p0 hb
theorem Y4p {p0 : Ls} {p1 : Ls} {r : (Ls × (Int × Int))} (h : Y2t p0 p1 = some r) : Ct Tryz.prog 140 [S p0, S p1] (fun M => Tabs M) (fun v M => ∃ x0, v = Value.tuple #[x0, Value.agg #[I r.2.1, I r.2.2]] ∧ Sl M encB x0 r.1) := by
 unfold Y2t at h
 split at h
 case isFalse => cases h
 rename_i hb
 split at h
 · rename_i k hk
   split at h
   · rename_i hv
     split at h
     · rename_i b he; cases h; exact encode_ok hb.1 hb.2 hk hv he
     rename_i e he; cases h; exact (encode_err hb.1 hb.2 hk hv he).mono fun v M hv => ⟨_, hv, Sl.nil _ _⟩
   rename_i hv; cases h; exact (encode_mal p0 p1 hb.1 hb.2 k hk (by simpa using hv)).mono fun v M hv => ⟨_, hv, Sl.nil _ _⟩
 rename_i hk; cases h; exact (encode_unk p0 p1 hb.1 hb.2 hk).mono fun v M hv => ⟨_, hv, Sl.nil _ _⟩
theorem Y4U {p0 : Int} {p1 : Ls} {r : (Ls × Int)} (h : Y3W p0 p1 = some r) : Ct Tryz.prog 151 [I p0, S p1] (fun M => True) (fun v M => ∃ x0, v = Value.tuple #[x0, I r.2] ∧ Sl M encB x0 r.1) := by
 unfold Y3W at h
 split at h
 case isFalse => cases h
 rename_i hb
 obtain ⟨k, rfl⟩ := l0V hb.1
 split at h
 · rename_i b he; cases h; exact encoded_ok Om hb.2.2.1 hb.2.2.2 he
 rename_i e he; cases h; exact (encoded_err Om hb.2.2.1 hb.2.2.2 he).mono fun v M hv => ⟨_, hv, Sl.nil _ _⟩
theorem Y4r {p0 : Ls} {vp0 : Value} {r : (Ls × (Int × Int))} (h : Y38 p0 = some r) : Ct Tryz.prog 171 [vp0] (fun M => Sl M encB vp0 p0) (fun v M => ∃ x0, v = Value.tuple #[x0, Value.agg #[I r.2.1, I r.2.2]] ∧ Sl M encB x0 r.1) := by
 unfold Y38 at h
 split at h
 case isFalse => cases h
 rename_i hb
 cases h
 exact encode_spec vp0 p0 hb
theorem Y4V {p0 : Ls} {vp0 : Value} {r : Ls} (h : Y3A p0 = some r) : Ct Tryz.prog 153 [vp0] (fun M => Sl M encB vp0 p0) (fun v M => v = S r) := by
 unfold Y3A at h
 split at h
 case isFalse => cases h
 rename_i hb
 cases h
 exact chars64_spec vp0 p0 hb
theorem Y3q {p0 : Ls} {r : Int × Int} (h : Y0G p0 = some r) : Ct Tryz.prog 130 [S p0] (fun M => Tabs M) (fun v M => v = Value.tuple #[Value.int .i32 r.1, I r.2]) := by
 unfold Y0G at h
 split at h
 case isFalse => cases h
 rename_i hb
 cases h
 exact decode_spec p0 hb
theorem countByte_P (c : UInt8) : ∀ l : Ls, Lib.countByte l c = ((l.countP fun x => decide ([c] = [x]) : Nat) : Int) := by
 intro l
 induction l with
 | nil => rfl
 | cons a l ih =>
   rw [l1G]
   by_cases h : c = a
   · subst h; simp [Lib.countByte] at ih ⊢; omega
   have h' : ¬ a = c := fun e => h e.symm
   simp [Lib.countByte, h, h'] at ih ⊢; omega
theorem Y4s {p0 p1 : Ls} {r : Int} (h : Y1t p0 p1 = some r) : Ct Tryz.prog 218 [S p0, S p1] (fun _ => True) (fun v M => v = I r) := by
 unfold Y1t at h
 split at h
 case isFalse => cases h
 rename_i hb
 cases h
 obtain ⟨c, rfl⟩ : ∃ c, p1 = [c] := List.length_eq_one_iff.1 hb.1
 refine ⟨enters Tf218 Kr G, fun w M ha hp => ?_⟩
 exact (Tryz.strings_Count_one ⟨p0.toArray⟩ c w).mono fun e w' ⟨he, hw⟩ => ⟨_, M, he, by subst hw; exact q1Y ha, by rw [countByte_P]⟩
theorem Y37 {p0 : Ls} {p1 : UInt8} {r : Int} (h : Y0s p0 p1 = some r) : Ct Tryz.prog 114 [S p0, encB p1] (fun M => True) (fun v M => v = I r) := by
 cases h
 refine ⟨enters Tf114 Kr G, fun w M ha hp => ?_⟩
 exact (Tryz.strings_IndexByte ⟨p0.toArray⟩ (p1.toNat : Int) w).mono fun e w' ⟨he, hw⟩ => ⟨_, M, he, by subst hw; exact q1Y ha, by rw [← indexByte_ixB]; simp⟩
theorem Y1D {p0 : List Ls} {p1 : Ls} {vp0 : Value} {r : Ls} (h : Y0v p0 p1 = some r) : Ct Tryz.prog 41 [vp0, S p1] (fun M => Sl M encS vp0 p0) (fun v M => v = S r) := by
 unfold Y0v at h
 split at h
 case isFalse => cases h
 rename_i hb
 cases h
 refine ⟨enters Tryz.func41 Kr G, fun w M ha hp => ?_⟩
 obtain ⟨A, cp, rfl, hc, hn⟩ := Sl.cells hp ha
 rcases l2d p0.length with h0 | h0
 · obtain rfl := l0b h0
   exact (Tryz.strings_Join_none A cp ⟨p1.toArray⟩ w).mono fun e w' ⟨he, hw⟩ => ⟨_, M, he, by subst hw; exact q1Y ha, rfl⟩
 cases A with
 | none => obtain ⟨rfl, _⟩ := hn rfl; simp at h0
 | some ad =>
   obtain ⟨A', c', he', h1, ⟨h2, h3⟩, h4⟩ := hp
   cases he'
   obtain ⟨b, o, cs, t0, fz, e1, e2, e3⟩ := h4 (fun h => by rw [h] at h0; simp at h0)
   cases e1
   have hmap : (p0.map (fun l => (⟨l.toArray⟩ : ByteArray))).map (·.data.toList) = p0 := by
    rw [l1u]
    conv => rhs; rw [← List.map_id p0]
    exact l1n (fun l _ => G)
   have hcall := Tryz.strings_Join b o cp (p0.map (fun l => (⟨l.toArray⟩ : ByteArray))) ⟨p1.toArray⟩ w (fun j x hx => by
    rw [List.getElem?_map] at hx
    obtain ⟨y, hy, rfl⟩ := Option.map_eq_some_iff.1 hx
    have := hc ⟨b, o, none⟩ rfl j (encS y) (by rw [List.getElem?_map, hy]; rfl)
    simpa [Addr.add_lit] using this) (ha.lt e2) (by simpa using hb.1) (by simpa using h1) (by rw [hmap, join_jn]; simpa using hb.2)
   rw [hmap, join_jn] at hcall
   simp only [l0c] at hcall
   exact hcall.mono fun e w' ⟨he, hw⟩ => ⟨_, M, he, ⟨BelowX.of hw _, Mem.le.refl M, fun b' o' hb' => by rw [hw.block b' (ha.lt hb')]; exact ha b' o' hb', fun b' hb' => rfl⟩, by simp⟩
theorem Y4q {p0 : Ls} {p1 : Ls} {p2 : Int} {r : List Ls} (h : Y1v p0 p1 p2 = some r) : Ct Tryz.prog 184 [S p0, S p1, I p2] (fun M => GlF (fun w => ∃ m, w.cell? ⟨2, 0, none⟩ = some (.int .i64 m)) M) (fun v M => Sl M encS v r) := by
 unfold Y1v at h
 split at h
 case isFalse => cases h
 rename_i hb
 cases h
 refine ⟨enters Tryz.func184 Kr G, fun w M ha hp => ?_⟩
 obtain ⟨m, hm⟩ := hp w ha
 obtain ⟨n, rfl⟩ := l0V (Int.le_trans Dc hb.2.2.1)
 have hs : (⟨p0.toArray⟩ : ByteArray).size = p0.length := by simp [ByteArray.size]
 have hd : (Lib.splitB ⟨p1.toArray⟩ 0 (min n ((⟨p0.toArray⟩ : ByteArray).size + 1) - 1) ⟨p0.toArray⟩).map (·.data.toList) = Lib.splitN p0 p1 ((n : Int).toNat) := by rw [Lib.splitB_data, hs]; rfl
 have hl := Lib.splitB_length_le ⟨p1.toArray⟩ 0 (min n ((⟨p0.toArray⟩ : ByteArray).size + 1) - 1) ⟨p0.toArray⟩
 have hlen := congrArg List.length hd
 rw [l0c] at hlen
 refine (Tryz.strings_SplitN ⟨p0.toArray⟩ ⟨p1.toArray⟩ n m w Om hm (by simpa [ByteArray.size] using hb.2.1) Om Om).mono fun e w' ⟨he, hw⟩ => ⟨_, M.set w.heap.size _, he, by subst hw; exact Ext.ofAlloc ha _, ?_⟩
 rw [hlen]
 exact Sl.splitN (t := 9) (fz := (0, 0)) hd Om Om (by simp [Mem.set])
theorem Y3Y {p0 : Ls} {p1 : Ls} {p2 : Ls} {r : Ls} (h : Y0X p0 p1 p2 = some r) : Ct Tryz.prog 172 [S p0, S p1, S p2] (fun M => GlF (fun w => ∃ m, w.cell? ⟨2, 0, none⟩ = some (.int .i64 m)) M) (fun v M => v = S r) := by
 unfold Y0X at h
 split at h
 case isFalse => cases h
 rename_i hb
 cases h
 refine ⟨enters Tryz.func172 Kr G, fun w M ha hp => ?_⟩
 obtain ⟨m, hm⟩ := hp w ha
 have hs : (⟨p0.toArray⟩ : ByteArray).size = p0.length := by simp [ByteArray.size]
 have hc : Lib.countB ⟨p0.toArray⟩ ⟨p1.toArray⟩ ≤ p0.length := by simpa [ByteArray.size] using Lib.countB_le ⟨p1.toArray⟩ (by simpa [ByteArray.size] using hb.2.1) _ ⟨p0.toArray⟩ (l0h _)
 have hc2 := l0D p2.length hc
 exact (Tryz.strings_ReplaceAll ⟨p0.toArray⟩ ⟨p1.toArray⟩ ⟨p2.toArray⟩ m w Om hm (by simpa [ByteArray.size] using hb.2.1) (by simp only [ByteArray.size, l1m]; omega)).mono fun e w' ⟨he, hw⟩ => ⟨_, M, he, Ext.ofBelow ha hw, rfl⟩
theorem Y4d {p0 : Ls} {p1 : Ls} {r : Bool} (h : Y1o p0 p1 = some r) : Ct Tryz.prog 137 [S p0, S p1] (fun M => GlF (fun w => ∃ m, w.cell? ⟨2, 0, none⟩ = some (.int .i64 m)) M) (fun v M => v = Value.bool r) := by
 unfold Y1o at h
 split at h
 case isFalse => cases h
 rename_i hb
 cases h
 refine ⟨enters Tryz.func137 Kr G, fun w M ha hp => ?_⟩
 obtain ⟨m, hm⟩ := hp w ha
 exact (Tryz.strings_Contains ⟨p0.toArray⟩ ⟨p1.toArray⟩ m w (by simpa [ByteArray.size] using hb) hm).mono fun e w' ⟨he, hw⟩ => ⟨_, M, he, by subst hw; exact q1Y ha, rfl⟩
theorem Y4t {p0 : Ls} {p1 : Ls} {r : Int} (h : Y1K p0 p1 = some r) : Ct Tryz.prog 144 [S p0, S p1] (fun M => GlF (fun w => ∃ m, w.cell? ⟨2, 0, none⟩ = some (.int .i64 m)) M) (fun v M => v = I r) := by
 unfold Y1K at h
 split at h
 case isFalse => cases h
 rename_i hb
 cases h
 refine ⟨enters Tf144 Kr G, fun w M ha hp => ?_⟩
 obtain ⟨m, hm⟩ := hp w ha
 exact (Tryz.strings_Index ⟨p0.toArray⟩ ⟨p1.toArray⟩ m w (by simpa [ByteArray.size] using hb) hm).mono fun e w' ⟨he, hw⟩ => ⟨_, M, he, by subst hw; exact q1Y ha, rfl⟩
theorem copyCheck_ct {b : Nat} {p v : Value} {M0 : Mem} (hb : BPM M0 b p) : CtX Tryz.prog 106 [ptr b 0] [.blk b (.cells #[p, v] 96)] (fun _ => True) (fun r _ its => r = .tuple #[] ∧ its = [.blk b (.cells #[ptr b 0, v] 96)]) := by
 refine CtX.of Tf106 (enters Tf106 Kr G) G G G ?_
 intro w M H _
 obtain ⟨j, hj, hjs⟩ := Option.map_eq_some_iff.1 (show (Tryz.prog.info? 96).map (·.size) = some 2 by kernel_rfl)
 have hl : liesAt Tryz.prog Tryz.prog.depth 96 (2 / Tryz.prog.cellsOf 96) 0 96 1 = true := by kernel_rfl
 have hbk := H.blk (List.Mem.head _)
 refine WC.seq (WC.region ?_)
 refine MV G G (FN G G Tu96 G Ts94 G G (ST (XL H Ta94) G ?_))
 rcases hb with rfl | rfl
 · refine q01 (Ex.ptrNil Tu94 G) (q00 G) G G ?_
   refine WR.nil (WQ.then (WC.condT G (WC.region ?_)))
   refine MV G G (MV G G (ST (Ex.toUnsafe Tu94 Tu144 hj (by rw [hjs]; decide) (T := 96) (cells := 2) (a := ⟨b, 0, none⟩) (by simp [World.shape?, hbk]) (by show (0 : Nat) < 2; decide) G) G ?_))
   refine ST (Ex.noEscape Tf133 Kr Kr Kr Kr G) G (ST (Ex.fromUnsafe Tu144 Tu94 hj (T := 96) (cells := 2) (a := ⟨b, 0, none⟩) (by simp [World.shape?, hbk]) hl G) G ?_)
   refine FN G G Tu96 G Ts94 G G (q0O [_, _] H G G ⟨G, G⟩ Ku Kf Ts94 (by first | decide | (simp; done) | (simp; omega)) (q00 G) ?_)
   intro w H
   refine NL ?_
   exact WQ.endX0 G H Kp ⟨G, G⟩
 refine q01 (Ex.ptrNil Tu94 G) (q00 G) G G ?_
 refine WR.nil (WQ.then (WC.condF G (WC.seq (WC.region ?_))))
 refine MV G G (FN G G Tu96 G Ts94 G G (ST (XL H Ta94) G ?_))
 refine MV G G (ST (Ex.ptrNeqSame Tu94 hj G G) G ?_)
 refine WR.nil (WQ.then (WC.condF G (WC.skip ?_)))
 exact WQ.endX0 G H Kp ⟨G, G⟩
theorem xplacesT : ∀ {fs : Array Field}, Tryz.prog.underlying 232 = some (.struct fs) → ∀ w, (fs.mapM fun f => do pure (f.offset, ← sizeOf f.type) : Sem (Array (Nat × Nat))).run Tryz.prog w = .ok #[(0, 256), (256, 1)] w := by
 intro fs h w
 rw [Tu232] at h
 cases h
 simp
theorem tab0 {M : Mem} : ∀ (i : Nat) (o : Option Ls), (tabk 0)[i]? = some o → ∃ v, (List.replicate 256 (Value.slice none 0 0))[i]? = some v ∧ SlO M v o := by
 intro i o h
 have h0 : tabk 0 = List.replicate 256 none := by decide +kernel
 rw [h0] at h
 have hi : i < 256 := by have := (List.getElem?_eq_some_iff.1 h).1; simpa using this
 rw [List.getElem?_replicate, if_pos hi] at h
 cases h
 exact ⟨_, by rw [List.getElem?_replicate, if_pos hi], .inl ⟨G, G⟩⟩
theorem tab_step {M : Mem} {cs : List Value} {O k : Nat} {u : Value} {nn : Ls} (hcl : cs.length = 256) (htb : ∀ (i : Nat) (o : Option Ls), (tabk k)[i]? = some o → ∃ v, cs[i]? = some v ∧ SlO M v o) (hO : O < 256) (ht : tabk (k + 1) = (tabk k).set O (some nn)) (hs : SlO M u (some nn)) :
 ∀ (i : Nat) (o : Option Ls), (tabk (k + 1))[i]? = some o → ∃ v, (cs.set O u)[i]? = some v ∧ SlO M v o := by
 intro i o h
 rw [ht, List.getElem?_set] at h
 split at h
 · rename_i he
   subst he
   split at h
   · cases h
     exact ⟨u, by rw [List.getElem?_set_self Om], hs⟩
   cases h
 rename_i he
 obtain ⟨v, hv, hs'⟩ := htb i o h
 exact ⟨v, by rw [List.getElem?_set_ne he]; exact hv, hs'⟩
theorem Y3y {p0 : List Ls} {bp0 : Nat} {vp0 : Value} {r : ((List (Option Ls) × List Ls) × List Ls)} (h : Y2c p0 = some r) : CtX Tryz.prog 178 [ptr bp0 0] [.blk bp0 (.cells #[Value.int .u32 0, Value.int .i32 1, Value.int .u32 0, Value.nilIface, vp0] 166)] (fun M => Sl M encS vp0 p0) (fun v M its => ∃ b0_, v = (Value.iface 233 (ptr b0_ 0)) ∧ TabO M b0_ 232 r.1.1 r.1.2 ∧ its = [.blk bp0 (.cells #[Value.int .u32 0, Value.int .i32 1, Value.int .u32 0, Value.nilIface, vp0] 166)]) := by
 refine CtX.of Tryz.func178 (enters Tryz.func178 Kr G) G G G ?_
 intro w0 M0 H hp
 have hp0 := hp
 unfold Y2c at h
 refine SQ (RG (AS G G (NL (TN (SQ (RG (MV G G (FN G G Tu166 G Ts55 G G (ST (XL H Ta55) G ?_)))))))))
 refine AS G G (NL (TN (SQ (SQ ?_))))
 obtain ⟨o1, e2, h⟩ := bnd h
 refine q0l (fun e w => ∃ (b3 : Bool) (M : Mem), e = [(3, vp0), (28, Value.bool b3)] ∧ StX (feet [.blk bp0 (.cells #[Value.int .u32 0, Value.int .i32 1, Value.int .u32 0, Value.nilIface, vp0] 166)]) w0 M0 M [.blk bp0 (.cells #[Value.int .u32 0, Value.int .i32 1, Value.int .u32 0, Value.nilIface, vp0] 166)] w ∧ Sl M encS vp0 p0 ∧ some b3 = some o1) [] ?_ ?_ (trivial)
 ·
  refine RG (MV G G (ST (q0A Tu55 hp0 G) G ?_))
  by_cases hk4 : (p0.length : Int) = (2 : Int)
  ·
   rw [if_pos hk4] at e2
   obtain ⟨a5, hxa5, e2⟩ := bnd e2
   obtain ⟨bk24, o24, ha24, hc24⟩ := hp0.atC hxa5
   refine DT hk4 (q0c G G) G (MV G G (SG (q02 G) G G G (SG (q0t ha24 Tu55 Ts9 G G) G G G (SG (q08 H G hc24 Ta9) G G G (SG (q0k Tu9 G) G G G (SG (q0K G G) G G G (PT G G G (NL ?_))))))))
   exact MN ⟨_, _, G, H, hp0, e2⟩
  rw [if_neg hk4] at e2
  refine DF hk4 (q0c G G) G (MV G G (q0i 5 G G (PF G G G (NL ?_))))
  exact MN ⟨_, _, G, H, hp0, e2⟩
 rintro e w ⟨b3, M, rfl, H, hp0, q6⟩
 obtain rfl := oI q6
 refine TN ?_
 refine q0o G (fun hk7 => ?_) (fun hk7 => ?_)
 ·
  subst hk7
  rw [if_pos rfl] at h
  cases h
 subst hk7
 rw [if_neg l07] at h
 refine SK (TN (SQ (RG (AS G G (NL (TN (SQ (SQ (RG (AS G G (NL (TN ?_))))))))))))
 obtain ⟨o10, e11, h⟩ := bnd h
 refine q0l (fun e w => ∃ (b12 : Bool) (M : Mem), e = [(3, vp0), (4, Value.bool b12)] ∧ StX (feet [.blk bp0 (.cells #[Value.int .u32 0, Value.int .i32 1, Value.int .u32 0, Value.nilIface, vp0] 166)]) w0 M0 M [.blk bp0 (.cells #[Value.int .u32 0, Value.int .i32 1, Value.int .u32 0, Value.nilIface, vp0] 166)] w ∧ Sl M encS vp0 p0 ∧ some (.inl b12) = some o10) [] ?_ ?_ (trivial)
 ·
  refine BL (q0J (fun m e w => ∃ (b13 : Bool) (n14 : Int) (M : Mem), e = [(3, vp0), (4, Value.bool b13), (5, I n14)] ∧ StX (feet [.blk bp0 (.cells #[Value.int .u32 0, Value.int .i32 1, Value.int .u32 0, Value.nilIface, vp0] 166)]) w0 M0 M [.blk bp0 (.cells #[Value.int .u32 0, Value.int .i32 1, Value.int .u32 0, Value.nilIface, vp0] 166)] w ∧ Sl M encS vp0 p0 ∧ Y0t p0 m b13 n14 = some o10) FU [(3, _), (4, _), (5, _)] ⟨rfl, rfl, rfl, trivial⟩ ⟨_, _, _, rfl, H, hp0, e11⟩ ?_)
  rintro m15 e w ⟨b13, n14, M, rfl, H, hp0, e11⟩
  rcases m15 with _ | m15
  · rw [Y0t] at e11; cases e11
  rw [Y0t] at e11
  refine SQ (SQ (RG (MV G G (MV G G (ST (q0A Tu55 hp0 G) G (ST (q0n G G) G (NL (TN ?_))))))))
  refine CB (p := n14 < (p0.length : Int)) G (fun hk16 => ?_) fun hk16 => ?_
  ·
   rw [if_pos hk16] at e11
   refine SK (TN (SQ (BL (SQ (SQ ?_)))))
   obtain ⟨a17, hxa17, e11⟩ := bnd e11
   obtain ⟨bk45, o45, ha45, hc45⟩ := hp0.atC hxa17
   refine RG (MV G G (MV G G (ST (q0t ha45 Tu55 Ts9 G G) G (ST (q08 H G hc45 Ta9) G (ST (q0k Tu9 G) G (ST (q1v G G) G (NL (TN ?_))))))))
   refine q0o G (fun hk18 => ?_) (fun hk18 => ?_)
   ·
    replace hk18 : ¬ ((a17.length : Int) = (1 : Int)) := of_not_decide hk18
    rw [if_neg hk18] at e11
    cases e11
   replace hk18 : (a17.length : Int) = (1 : Int) := of_not_decide' hk18
   rw [if_pos hk18] at e11
   refine SK (TN (SQ ?_))
   obtain ⟨n19, hxn19, e11⟩ := bnd e11
   obtain ⟨a20, hxa20, e11⟩ := bnd e11
   obtain ⟨bk55, o55, ha55, hc55⟩ := hp0.atC hxa20
   refine RG (MV G G (MV G G (ST (q0u G G hxn19) G (ST (q0t ha55 Tu55 Ts9 G G) G (ST (q08 H G hc55 Ta9) G (ST (q0k Tu9 G) G (ST (q1v G G) G (NL (TN ?_)))))))))
   refine q0o G (fun hk21 => ?_) (fun hk21 => ?_)
   ·
    replace hk21 : ¬ ((a20.length : Int) = (1 : Int)) := of_not_decide hk21
    rw [if_neg hk21] at e11
    refine RG (AS G G (NL (IB (TN ?_))))
    obtain ⟨n22, hxn22, e11⟩ := bnd e11
    refine RG (MV G G (ST (q0u G G hxn22) G (AS G G (NL ?_))))
    exact AG m15 ⟨_, _, _, G, H, hp0, e11⟩ (l0a _)
   replace hk21 : (a20.length : Int) = (1 : Int) := of_not_decide' hk21
   rw [if_pos hk21] at e11
   refine SK (IB (TN ?_))
   obtain ⟨n23, hxn23, e11⟩ := bnd e11
   refine RG (MV G G (ST (q0u G G hxn23) G (AS G G (NL ?_))))
   exact AG m15 ⟨_, _, _, G, H, hp0, e11⟩ (l0a _)
  rw [if_neg hk16] at e11
  refine q0m (q06 (q06 (q0f ?_)))
  exact MN ⟨_, _, G, H, hp0, e11⟩
 rintro e w ⟨b12, M, rfl, H, hp0, q24⟩
 obtain rfl := oI q24
 try dsimp only at h
 refine TN (SQ (SQ (RG (MV G G (NL (TN ?_))))))
 refine q0o G (fun hk25 => ?_) (fun hk25 => ?_)
 ·
  subst hk25
  rw [if_pos rfl] at h
  cases h
 subst hk25
 rw [if_neg l07] at h
 split at h
 case isFalse => cases h
 rename_i hlit
 subst hlit
 cases h
 refine SK (TN (SQ (RG (MV G G (ST (q0A Tu55 hp0 G) G (ST (Ex.quoC (a := 4) (b := 2) (z := 2) G G G) G (WR.mkC (enc := encS) (z0 := ([] : Ls)) (a := 0) (c := 2) (l := []) xty55 G H G G G (q00 G) G ?_)))))))
 intro v94 w H0
 obtain ⟨A94, c94, hv94⟩ := H0.lenRow Km
 refine ST (q0L (List.replicate 256 (Value.slice none 0 0) ++ [v94]) Tu232 Tryz.zeroValue232 (xplacesT Tu232) G (by subst hv94; kernel_rfl)) G ?_
 refine q0g (List.replicate 256 (Value.slice none 0 0) ++ [Value.slice none 0 0]) H0 Tryz.zeroValue232 Kr (q00 G) G ?_
 intro b11 w H
 refine q0b (List.replicate 256 (Value.slice none 0 0) ++ [v94]) H G G G Ku Tryz.sizeOf232 G Kf (by subst hv94; rfl) (q00 G) ?_
 intro w H
 refine NL (TN (SQ (SQ (RG (MV G G (ST (q0A Tu55 hp0 G) G (ST (Ex.subC (a := 4) (b := 2) (z := 2) G G G) G (AS G G (NL (TN ?_))))))))))
 refine q0l (fun e w => ∃ (cs : List Value) (vr : Value) (M : Mem), e = [(11, ptr b11 0)] ∧ StX (feet [.blk bp0 (.cells #[Value.int .u32 0, Value.int .i32 1, Value.int .u32 0, Value.nilIface, vp0] 166)]) w0 M0 M [.blk b11 (.cells (cs ++ [vr]).toArray 232), RowI 9 encS vr (trk 2), .blk bp0 (.cells #[Value.int .u32 0, Value.int .i32 1, Value.int .u32 0, Value.nilIface, vp0] 166)] w ∧ cs.length = 256 ∧ (∀ (i : Nat) (o : Option Ls), (tabk 2)[i]? = some o → ∃ v, cs[i]? = some v ∧ SlO M v o)) [] ?_ ?_ (trivial)
 ·
  refine BL (q0J (fun m e w => ∃ (k : Nat) (cs : List Value) (vr : Value) (M : Mem), e = [(3, vp0), (11, ptr b11 0), (12, I (2 - 2 * (k : Int)))] ∧ k ≤ 2 ∧ 2 - k < m ∧ StX (feet [.blk bp0 (.cells #[Value.int .u32 0, Value.int .i32 1, Value.int .u32 0, Value.nilIface, vp0] 166)]) w0 M0 M [.blk b11 (.cells (cs ++ [vr]).toArray 232), RowI 9 encS vr (trk k), .blk bp0 (.cells #[Value.int .u32 0, Value.int .i32 1, Value.int .u32 0, Value.nilIface, vp0] 166)] w ∧ Sl M encS vp0 [[92], [92, 92], [34], [92, 34]] ∧ cs.length = 256 ∧ (∀ (i : Nat) (o : Option Ls), (tabk k)[i]? = some o → ∃ v, cs[i]? = some v ∧ SlO M v o)) FU [(3, _), (11, _), (12, _)] ⟨rfl, rfl, rfl, trivial⟩ ⟨0, List.replicate 256 (Value.slice none 0 0), v94, _, rfl, by omega, by unfold FU; omega, H, hp0, by rw [l0R], tab0⟩ ?_)
  rintro m e w ⟨k, cs, vr, M, rfl, hk, hm, H, hp0, hcl, htb⟩
  obtain ⟨m, rfl⟩ : ∃ q, m = q + 1 := ⟨m - 1, by omega⟩
  obtain rfl | rfl | rfl : k = 0 ∨ k = 1 ∨ k = 2 := by omega
  · refine WC.seq ?_
    refine SQ (RG (MV G G (q1z (q1b G G) Dc (q00 G) G G (NL (TN (CT G (SK (TN (SQ (BL (SQ ?_)))))))))))
    obtain ⟨b105, o105, ha105, hc105⟩ := hp0.atC (i := 2) (a := [34]) rfl
    refine RG (MV G G (MV G G (ST (q0t ha105 Tu55 Ts9 G G) G (ST (q08 H G hc105 Ta9) G (ST (q0N (i := 0) (c := 34) Tu9 G G G) G (AS G G (NL (TN (SQ ?_)))))))))
    obtain ⟨b111, o111, ha111, hc111⟩ := hp0.atC (i := 3) (a := [92, 34]) rfl
    refine RG (MV G G (MV G G (ST (q0u (z := 3) G G G) G (ST (q0t ha111 Tu55 Ts9 G G) G (ST (q08 H G hc111 Ta9) G (AS G G (NL (TN (SQ (SQ ?_))))))))))
    have hnil : cs[34]? = some (Value.slice none 0 0) := by
     obtain ⟨v, hv, hs⟩ := htb 34 none (by decide +kernel)
     rcases hs with ⟨_, rfl⟩ | ⟨l, a, c, h, _⟩
     · exact hv
     cases h
    have hcell : (cs ++ [vr])[34]? = some (Value.slice none 0 0) := by rw [List.getElem?_append_left Om]; exact hnil
    refine RG (MV G G (ST (q03 Tu232 G Ts230 Dc G) G (ST (q1V (i := 34) Tu230 Ts88 G G Dc) G (ST (Ex.load1 H G Km Ta88 hcell) G ?_))))
    refine ST (Ex.eqlNilS Tu88 G) G (NL (TN (CT G (RG (ST (q03 Tu232 G Ts55 Dc G) G ?_)))))
    have hlast : (cs ++ [vr])[256]? = some vr := by rw [List.getElem?_append_right Om, hcl]; rfl
    refine ST (Ex.load1 H G Km Ta55 hlast) G ?_
    refine MV G G (q0B (enc := encB) xty88 ([34] : Ls) H G Kf (fun _ => G) G G (q00 G) G ?_)
    intro v121 M w H hle hs121
    replace hp0 := hp0.mono hle
    replace htb : ∀ (i : Nat) (o : Option Ls), (tabk 0)[i]? = some o → ∃ v, cs[i]? = some v ∧ SlO M v o := fun i o ho => by obtain ⟨v, hv, hs⟩ := htb i o ho; exact ⟨v, hv, hs.mono hle⟩
    refine ST (q1S Tu88 Tu5 Tu9 H hs121 G) G (q0B (enc := encS) xty55 ([[34]] : List Ls) H G Kf (fun _ => G) G G (q00 G) G ?_)
    intro v123 M w H hle hs123
    replace hp0 := hp0.mono hle
    replace htb : ∀ (i : Nat) (o : Option Ls), (tabk 0)[i]? = some o → ∃ v, cs[i]? = some v ∧ SlO M v o := fun i o ho => by obtain ⟨v, hv, hs⟩ := htb i o ho; exact ⟨v, hv, hs.mono hle⟩
    refine q1l (l := trk 0) (l3 := trk (0 + 1)) xty55 G (fun _ => G) H G (fun _ => by repeat first | exact .head | apply Upd.tail) G hs123 (by decide +kernel) (q00 G) G ?_
    intro v124 w H
    have ho124 : One v124 := H.rowOne Km
    refine ST (q03 Tu232 G Ts55 Dc G) G ?_
    have hset1 : (cs ++ [vr]).set 256 v124 = cs ++ [v124] := by rw [l1V _ _ Om, hcl]; rfl
    refine q0O (cs ++ [v124]) H G G ho124 Ku hset1 Ts55 (by rw [l00, hcl]; exact (by decide : (256 : Nat) < 256 + 1)) (q00 G) ?_
    intro w H
    refine NL (TN (RG (MV G G (MV G G (WR.toBytesC H Tu9 Tu88 Tu5 G (toB_ok (l := [92, 34]) Dc) (q00 G) G ?_)))))
    intro gb cap w hok H
    refine ST (q03 Tu232 G Ts230 Dc G) G (ST (q1V (i := 34) Tu230 Ts88 G G Dc) G ?_)
    have hset2 : (cs ++ [v124]).set 34 (.slice (some ⟨gb, 0, none⟩) 2 cap) = cs.set 34 (.slice (some ⟨gb, 0, none⟩) 2 cap) ++ [v124] := List.set_append_left _ _ Om
    refine q0O (cs.set 34 (.slice (some ⟨gb, 0, none⟩) 2 cap) ++ [v124]) H G G (q1p _ _ _) Ku hset2 Ts88 (by rw [l00, hcl]; exact (by decide : (34 : Nat) < 256 + 1)) (q00 G) ?_
    intro w H
    refine NL (IB (TN (RG (MV G G (ST (Ex.subC (z := 2 - 2 * ((0 + 1 : Nat) : Int)) G G G) G (AS G G (NL ?_)))))))
    obtain ⟨M, hle, hs, H⟩ := H.freezeSCN (gb := gb) (cap := cap) (t := 5) Kv hok ⟨⟨_, Km⟩, trivial⟩
    exact AG m ⟨0 + 1, cs.set 34 (.slice (some ⟨gb, 0, none⟩) 2 cap), v124, _, G, by omega, by omega, H.pick (L' := [.blk b11 (.cells (cs.set 34 (.slice (some ⟨gb, 0, none⟩) 2 cap) ++ [v124]).toArray 232), RowI 9 encS v124 (trk (0 + 1)), .blk bp0 (.cells #[Value.int .u32 0, Value.int .i32 1, Value.int .u32 0, Value.nilIface, vp0] 166)]) Kp, hp0.mono hle, by rw [l1j]; exact hcl, tab_step hcl (fun i o ho => by obtain ⟨v, hv, hs⟩ := htb i o ho; exact ⟨v, hv, hs.mono hle⟩) Dc (by decide +kernel) (.inr ⟨_, _, _, G, G, hs⟩)⟩ (l0a _)
  · refine WC.seq ?_
    refine SQ (RG (MV G G (q1z (q1b G G) Dc (q00 G) G G (NL (TN (CT G (SK (TN (SQ (BL (SQ ?_)))))))))))
    obtain ⟨b105, o105, ha105, hc105⟩ := hp0.atC (i := 0) (a := [92]) rfl
    refine RG (MV G G (MV G G (ST (q0t ha105 Tu55 Ts9 G G) G (ST (q08 H G hc105 Ta9) G (ST (q0N (i := 0) (c := 92) Tu9 G G G) G (AS G G (NL (TN (SQ ?_)))))))))
    obtain ⟨b111, o111, ha111, hc111⟩ := hp0.atC (i := 1) (a := [92, 92]) rfl
    refine RG (MV G G (MV G G (ST (q0u (z := 1) G G G) G (ST (q0t ha111 Tu55 Ts9 G G) G (ST (q08 H G hc111 Ta9) G (AS G G (NL (TN (SQ (SQ ?_))))))))))
    have hnil : cs[92]? = some (Value.slice none 0 0) := by
     obtain ⟨v, hv, hs⟩ := htb 92 none (by decide +kernel)
     rcases hs with ⟨_, rfl⟩ | ⟨l, a, c, h, _⟩
     · exact hv
     cases h
    have hcell : (cs ++ [vr])[92]? = some (Value.slice none 0 0) := by rw [List.getElem?_append_left Om]; exact hnil
    refine RG (MV G G (ST (q03 Tu232 G Ts230 Dc G) G (ST (q1V (i := 92) Tu230 Ts88 G G Dc) G (ST (Ex.load1 H G Km Ta88 hcell) G ?_))))
    refine ST (Ex.eqlNilS Tu88 G) G (NL (TN (CT G (RG (ST (q03 Tu232 G Ts55 Dc G) G ?_)))))
    have hlast : (cs ++ [vr])[256]? = some vr := by rw [List.getElem?_append_right Om, hcl]; rfl
    refine ST (Ex.load1 H G Km Ta55 hlast) G ?_
    refine MV G G (q0B (enc := encB) xty88 ([92] : Ls) H G Kf (fun _ => G) G G (q00 G) G ?_)
    intro v121 M w H hle hs121
    replace hp0 := hp0.mono hle
    replace htb : ∀ (i : Nat) (o : Option Ls), (tabk 1)[i]? = some o → ∃ v, cs[i]? = some v ∧ SlO M v o := fun i o ho => by obtain ⟨v, hv, hs⟩ := htb i o ho; exact ⟨v, hv, hs.mono hle⟩
    refine ST (q1S Tu88 Tu5 Tu9 H hs121 G) G (q0B (enc := encS) xty55 ([[92]] : List Ls) H G Kf (fun _ => G) G G (q00 G) G ?_)
    intro v123 M w H hle hs123
    replace hp0 := hp0.mono hle
    replace htb : ∀ (i : Nat) (o : Option Ls), (tabk 1)[i]? = some o → ∃ v, cs[i]? = some v ∧ SlO M v o := fun i o ho => by obtain ⟨v, hv, hs⟩ := htb i o ho; exact ⟨v, hv, hs.mono hle⟩
    refine q1l (l := trk 1) (l3 := trk (1 + 1)) xty55 G (fun _ => G) H G (fun _ => by repeat first | exact .head | apply Upd.tail) G hs123 (by decide +kernel) (q00 G) G ?_
    intro v124 w H
    have ho124 : One v124 := H.rowOne Km
    refine ST (q03 Tu232 G Ts55 Dc G) G ?_
    have hset1 : (cs ++ [vr]).set 256 v124 = cs ++ [v124] := by rw [l1V _ _ Om, hcl]; rfl
    refine q0O (cs ++ [v124]) H G G ho124 Ku hset1 Ts55 (by rw [l00, hcl]; exact (by decide : (256 : Nat) < 256 + 1)) (q00 G) ?_
    intro w H
    refine NL (TN (RG (MV G G (MV G G (WR.toBytesC H Tu9 Tu88 Tu5 G (toB_ok (l := [92, 92]) Dc) (q00 G) G ?_)))))
    intro gb cap w hok H
    refine ST (q03 Tu232 G Ts230 Dc G) G (ST (q1V (i := 92) Tu230 Ts88 G G Dc) G ?_)
    have hset2 : (cs ++ [v124]).set 92 (.slice (some ⟨gb, 0, none⟩) 2 cap) = cs.set 92 (.slice (some ⟨gb, 0, none⟩) 2 cap) ++ [v124] := List.set_append_left _ _ Om
    refine q0O (cs.set 92 (.slice (some ⟨gb, 0, none⟩) 2 cap) ++ [v124]) H G G (q1p _ _ _) Ku hset2 Ts88 (by rw [l00, hcl]; exact (by decide : (92 : Nat) < 256 + 1)) (q00 G) ?_
    intro w H
    refine NL (IB (TN (RG (MV G G (ST (Ex.subC (z := 2 - 2 * ((1 + 1 : Nat) : Int)) G G G) G (AS G G (NL ?_)))))))
    obtain ⟨M, hle, hs, H⟩ := H.freezeSCN (gb := gb) (cap := cap) (t := 5) Kv hok ⟨⟨_, Km⟩, trivial⟩
    exact AG m ⟨1 + 1, cs.set 92 (.slice (some ⟨gb, 0, none⟩) 2 cap), v124, _, G, by omega, by omega, H.pick (L' := [.blk b11 (.cells (cs.set 92 (.slice (some ⟨gb, 0, none⟩) 2 cap) ++ [v124]).toArray 232), RowI 9 encS v124 (trk (1 + 1)), .blk bp0 (.cells #[Value.int .u32 0, Value.int .i32 1, Value.int .u32 0, Value.nilIface, vp0] 166)]) Kp, hp0.mono hle, by rw [l1j]; exact hcl, tab_step hcl (fun i o ho => by obtain ⟨v, hv, hs⟩ := htb i o ho; exact ⟨v, hv, hs.mono hle⟩) Dc (by decide +kernel) (.inr ⟨_, _, _, G, G, hs⟩)⟩ (l0a _)
  refine WC.seq ?_
  refine SQ (RG (MV G G (q0U (q1b G G) Dc (q00 G) G G (NL (TN (CF G (q0m (q06 (q06 (q0f ?_))))))))))
  exact MN ⟨cs, vr, _, G, H, hcl, htb⟩
 rintro e w ⟨cs, vr, M, rfl, H, hcl, htb⟩
 refine TN (SQ (RG (ST (Ex.makeIface Tryz.underlying233 G) G (AS G G (NL (TN (RT ?_)))))))
 obtain ⟨M, hle, hb, H⟩ := H.freezeVarN (b := b11) Kv ⟨⟨_, Km⟩, trivial⟩
 obtain ⟨M, hle2, hs, H⟩ := H.freezeRowN (v := vr) (enc := encS) (t := 9) Kv ⟨⟨_, Km⟩, trivial⟩
 exact q1n (its := [.blk bp0 (.cells #[Value.int .u32 0, Value.int .i32 1, Value.int .u32 0, Value.nilIface, vp0] 166)]) G G H Kp ⟨_, G, ⟨cs, vr, hb.mono hle2, hcl, fun i o ho => by obtain ⟨v, hv, hs⟩ := htb i o ho; exact ⟨v, hv, (hs.mono hle).mono hle2⟩, hs⟩, G⟩
theorem Y2r {p0 : (List (Option Ls) × List Ls)} {p1 : Ls} {bp0 : Nat} {r : Ls} (h : Y0r p0 p1 = some r) : Ct Tryz.prog 273 [ptr bp0 0, S p1] (fun M => TabO M bp0 232 p0.1 p0.2) (fun v M => v = S r) := by
 refine Ct.of Tryz.func273 (enters Tryz.func273 Kr G) G G G ?_
 intro w0 M0 H hp
 have hp0 := hp
 unfold Y0r at h
 refine SQ (RG (AS G G (NL (TN (SQ (RG (MV G G (ST (q0k Tu9 G) G (AS G G (NL (TN (SQ (RG (AS G G (NL (TN (SQ (SQ ?_))))))))))))))))))
 obtain ⟨v21, hc21, hs21⟩ := hp0.tl
 obtain ⟨n1, hxn1, h⟩ := bnd h
 refine RG (MV G G (FN G G Tu232 G Ts55 G G (ST (q08 H G hc21 Ta55) G (ST (q0A Tu55 hs21 G) G (ST (Ex.mulC G G hxn1) G (MV G G (ST (q0k Tu9 G) G (ST (q1G G G) G (NL (TN ?_))))))))))
 obtain ⟨o2, e3, h⟩ := bnd h
 refine q0l (fun e w => ∃ (n4 : Int) (b5 : Bool) (M : Mem), e = [(0, ptr bp0 0), (1, S p1), (5, I n4), (6, Value.bool b5)] ∧ St w0 M0 M [] w ∧ TabO M bp0 232 p0.1 p0.2 ∧ some (n4, b5) = some o2) [] ?_ ?_ (trivial)
 ·
  refine CB (p := n1 ≤ (p1.length : Int)) G (fun hk6 => ?_) fun hk6 => ?_
  ·
   rw [if_pos hk6] at e3
   refine SQ ?_
   obtain ⟨v30, hc30, hs30⟩ := hp0.tl
   refine RG (MV G G (FN G G Tu232 G Ts55 G G (ST (q08 H G hc30 Ta55) G (ST (q0A Tu55 hs30 G) G (MV G G (NL (TN ?_)))))))
   obtain ⟨o7, e8, e3⟩ := bnd e3
   refine q0l (fun e w => ∃ (n9 : Int) (b10 : Bool) (M : Mem), e = [(0, ptr bp0 0), (1, S p1), (5, I n9), (6, Value.bool b10)] ∧ St w0 M0 M [] w ∧ TabO M bp0 232 p0.1 p0.2 ∧ some (n9, b10) = some o7) [] ?_ ?_ (trivial)
   ·
    refine BL (q0J (fun m e w => ∃ (n11 : Int) (b12 : Bool) (n13 : Int) (M : Mem), e = [(0, ptr bp0 0), (1, S p1), (5, I n11), (6, Value.bool b12), (30, v30), (31, I (p0.2.length : Int)), (32, I n13)] ∧ St w0 M0 M [] w ∧ TabO M bp0 232 p0.1 p0.2 ∧ Sl M encS v30 p0.2 ∧ Y00 p0 p1 m n11 b12 n13 = some o7) FU [(0, _), (1, _), (5, _), (6, _), (30, _), (31, _), (32, _)] ⟨rfl, rfl, rfl, rfl, rfl, rfl, rfl, trivial⟩ ⟨_, _, _, _, rfl, H, hp0, hs30, e8⟩ ?_)
    rintro m14 e w ⟨n11, b12, n13, M, rfl, H, hp0, hs30, e8⟩
    rcases m14 with _ | m14
    · rw [Y00] at e8; cases e8
    rw [Y00] at e8
    refine SQ (RG (ST (q0n G G) G (NL (TN (SQ ?_)))))
    refine CB (p := n13 < (p0.2.length : Int)) G (fun hk15 => ?_) fun hk15 => ?_
    ·
     rw [if_pos hk15] at e8
     refine SK (TN (SQ (BL (SQ ?_))))
     obtain ⟨a16, hxa16, e8⟩ := bnd e8
     obtain ⟨bk34, o34, ha34, hc34⟩ := hs30.atC hxa16
     refine RG (ST (q0t ha34 Tu55 Ts9 G G) G (ST (q08 H G hc34 Ta9) G (AS G G (NL (TN (SQ ?_))))))
     obtain ⟨n17, hx18, e8⟩ := bnd e8
     refine RG (MV G G (MV G G (q05 H (Y4s hx18) G trivial (q00 G) G ?_)))
     intro v38 M w H hle hR
     replace hs30 := hs30.mono hle
     replace hc34 := hc34.mono hle
     replace hp0 := hp0.mono hle
     obtain rfl := hR
     refine AS G G (NL (TN (SQ (RG (MV G G (ST (q1v G G) G (NL (TN ?_))))))))
     refine q0o G (fun hk19 => ?_) (fun hk19 => ?_)
     ·
      replace hk19 : ¬ (n17 = (0 : Int)) := of_not_decide hk19
      rw [if_neg hk19] at e8
      refine SQ ?_
      obtain ⟨c20, hxc20, e8⟩ := bnd e8
      obtain ⟨q21, hxq21, e8⟩ := bnd e8
      obtain ⟨v48, hc48, ho48⟩ := hp0.at hxq21
      obtain ⟨n22, hxn22, e8⟩ := bnd e8
      obtain ⟨n23, hxn23, e8⟩ := bnd e8
      obtain ⟨n24, hxn24, e8⟩ := bnd e8
      refine q0F (m := 14) G G H ?_
      intro w H
      refine TK 0 G (fun _ => q02 G) G (TK 1 G (fun _ => q02 G) G (TK 2 G (fun _ => q02 G) G (TK 3 G (fun _ => q02 G) G (TK 4 G (fun _ => q0N Tu9 G G hxc20) G (q0s (fuel := 0) [5, 6, 7, 8, 9, 10, 11, 12, 13] G Kr (FN G G Tu232 G Ts230 G G (ST (Ex.idxArrO Tu230 Ts88 G G hxq21) G ?_)))))))
      refine ST (q08 H G hc48 Ta88) G (ST (q0A Tu88 ho48.sl G) G (ST (Ex.subC G G hxn22) G (ST (Ex.mulC G G hxn23) G (ST (q0u G G hxn24) G (AS G G (NA (q0h Kr (TN (RG (AS G G (NL (IB (TN ?_)))))))))))))
      obtain ⟨n25, hxn25, e8⟩ := bnd e8
      refine RG (ST (q0u G G hxn25) G (MV G G (NL ?_)))
      exact AG m14 ⟨_, _, _, _, G, H, hp0, hs30, e8⟩ (l0a _)
     replace hk19 : n17 = (0 : Int) := of_not_decide' hk19
     rw [if_pos hk19] at e8
     refine SK (IB (TN ?_))
     obtain ⟨n26, hxn26, e8⟩ := bnd e8
     refine RG (ST (q0u G G hxn26) G (MV G G (NL ?_)))
     exact AG m14 ⟨_, _, _, _, G, H, hp0, hs30, e8⟩ (l0a _)
    rw [if_neg hk15] at e8
    refine q0m (q06 (q06 (q0f ?_)))
    exact MN ⟨_, _, _, G, H, hp0, e8⟩
   rintro e w ⟨n9, b10, M, rfl, H, hp0, q27⟩
   obtain rfl := oI q27
   try dsimp only at e3
   exact MN ⟨_, _, _, G, H, hp0, e3⟩
  rw [if_neg hk6] at e3
  refine SQ (RG (AS G G (NL (TN ?_))))
  obtain ⟨o28, e29, e3⟩ := bnd e3
  refine q0l (fun e w => ∃ (n30 : Int) (b31 : Bool) (M : Mem), e = [(0, ptr bp0 0), (1, S p1), (5, I n30), (6, Value.bool b31)] ∧ St w0 M0 M [] w ∧ TabO M bp0 232 p0.1 p0.2 ∧ some (n30, b31) = some o28) [] ?_ ?_ (trivial)
  ·
   refine BL (q0J (fun m e w => ∃ (n32 : Int) (b33 : Bool) (n34 : Int) (M : Mem), e = [(0, ptr bp0 0), (1, S p1), (5, I n32), (6, Value.bool b33), (10, I n34)] ∧ St w0 M0 M [] w ∧ TabO M bp0 232 p0.1 p0.2 ∧ Y01 p0 p1 m n32 b33 n34 = some o28) FU [(0, _), (1, _), (5, _), (6, _), (10, _)] ⟨rfl, rfl, rfl, rfl, rfl, trivial⟩ ⟨_, _, _, _, rfl, H, hp0, e29⟩ ?_)
   rintro m35 e w ⟨n32, b33, n34, M, rfl, H, hp0, e29⟩
   rcases m35 with _ | m35
   · rw [Y01] at e29; cases e29
   rw [Y01] at e29
   refine SQ (SQ (RG (MV G G (MV G G (ST (q0k Tu9 G) G (ST (q0n G G) G (NL (TN ?_))))))))
   refine CB (p := n34 < (p1.length : Int)) G (fun hk36 => ?_) fun hk36 => ?_
   ·
    rw [if_pos hk36] at e29
    refine SK (TN (SQ (BL (SQ ?_))))
    obtain ⟨c37, hxc37, e29⟩ := bnd e29
    refine RG (MV G G (MV G G (ST (q0N Tu9 G G hxc37) G (AS G G (NL (TN (SQ ?_)))))))
    obtain ⟨q38, hxq38, e29⟩ := bnd e29
    obtain ⟨v68, hc68, ho68⟩ := hp0.at hxq38
    refine RG (MV G G (MV G G (FN G G Tu232 G Ts230 G G (ST (Ex.idxArrO Tu230 Ts88 G G hxq38) G (ST (q08 H G hc68 Ta88) G (ST (Ex.neqNilO Tu88 ho68 G) G (NL (TN ?_))))))))
    refine q0o G (fun hk39 => ?_) (fun hk39 => ?_)
    ·
     rw [if_pos hk39] at e29
     refine SQ ?_
     obtain ⟨q40, hxq40, e29⟩ := bnd e29
     obtain ⟨v76, hc76, ho76⟩ := hp0.at hxq40
     obtain ⟨n41, hxn41, e29⟩ := bnd e29
     obtain ⟨n42, hxn42, e29⟩ := bnd e29
     refine RG (MV G G (MV G G (MV G G (FN G G Tu232 G Ts230 G G (ST (Ex.idxArrO Tu230 Ts88 G G hxq40) G (ST (q08 H G hc76 Ta88) G (ST (q0A Tu88 ho76.sl G) G (ST (Ex.subC G G hxn41) G (ST (q0u G G hxn42) G (AS G G (NL (TN (RG (AS G G (NL (IB (TN ?_)))))))))))))))))
     obtain ⟨n43, hxn43, e29⟩ := bnd e29
     refine RG (MV G G (ST (q0u G G hxn43) G (AS G G (NL ?_))))
     exact AG m35 ⟨_, _, _, _, G, H, hp0, e29⟩ (l0a _)
    rw [if_neg (by rw [hk39]; exact l07)] at e29
    refine SK (IB (TN ?_))
    obtain ⟨n44, hxn44, e29⟩ := bnd e29
    refine RG (MV G G (ST (q0u G G hxn44) G (AS G G (NL ?_))))
    exact AG m35 ⟨_, _, _, _, G, H, hp0, e29⟩ (l0a _)
   rw [if_neg hk36] at e29
   refine q0m (q06 (q06 (q0f ?_)))
   exact MN ⟨_, _, _, G, H, hp0, e29⟩
  rintro e w ⟨n30, b31, M, rfl, H, hp0, q45⟩
  obtain rfl := oI q45
  try dsimp only at e3
  exact MN ⟨_, _, _, G, H, hp0, e3⟩
 rintro e w ⟨n4, b5, M, rfl, H, hp0, q46⟩
 obtain rfl := oI q46
 try dsimp only at h
 refine TN (SQ (SQ (RG (MV G G (ST (q0R G) G (NL (TN ?_)))))))
 refine q0o G (fun hk47 => ?_) (fun hk47 => ?_)
 ·
  replace hk47 : b5 = false := by simpa using hk47
  subst hk47
  rw [if_neg l07] at h
  refine SQ (RG (MV G G (AS G G (NL (TN (RT ?_))))))
  obtain rfl := oI h
  exact q07 G G H.ext G
 replace hk47 : b5 = true := by simpa using hk47
 subst hk47
 rw [if_pos rfl] at h
 refine SK (TN (SQ ?_))
 obtain ⟨l48, hxl48, h⟩ := bnd h
 refine RG (MV G G (WR.mkC (enc := encB) (z0 := (0 : UInt8)) xty88 G H G G hxl48 (q00 G) G ?_))
 intro v85 w H
 refine AS G G (NL (TN (SQ (RG (AS G G (NL (TN (SQ (SQ (RG (AS G G (NL (TN ?_)))))))))))))
 obtain ⟨o50, e51, h⟩ := bnd h
 refine q0l (fun e w => ∃ (l52 : Ls) (M : Mem), e = [(12, v85)] ∧ St w0 M0 M [RowI 5 encB v85 l52] w ∧ some l52 = some o50) [] ?_ ?_ (trivial)
 ·
  refine BL (q0J (fun m e w => ∃ (l53 : Ls) (n54 : Int) (n55 : Int) (M : Mem), e = [(0, ptr bp0 0), (1, S p1), (12, v85), (13, I n54), (14, I n55)] ∧ St w0 M0 M [RowI 5 encB v85 l53] w ∧ TabO M bp0 232 p0.1 p0.2 ∧ Y02 p0 p1 m l53 n54 n55 = some o50) FU [(0, _), (1, _), (12, _), (13, _), (14, _)] ⟨rfl, rfl, rfl, rfl, rfl, trivial⟩ ⟨_, _, _, _, rfl, H, hp0, e51⟩ ?_)
  rintro m56 e w ⟨l53, n54, n55, M, rfl, H, hp0, e51⟩
  rcases m56 with _ | m56
  · rw [Y02] at e51; cases e51
  rw [Y02] at e51
  refine SQ (SQ (RG (MV G G (MV G G (ST (q0k Tu9 G) G (ST (q0n G G) G (NL (TN ?_))))))))
  refine CB (p := n55 < (p1.length : Int)) G (fun hk57 => ?_) fun hk57 => ?_
  ·
   rw [if_pos hk57] at e51
   refine SK (TN (SQ (BL (SQ ?_))))
   obtain ⟨c58, hxc58, e51⟩ := bnd e51
   refine RG (MV G G (MV G G (ST (q0N Tu9 G G hxc58) G (AS G G (NL (TN (SQ ?_)))))))
   obtain ⟨q59, hxq59, e51⟩ := bnd e51
   obtain ⟨v99, hc99, ho99⟩ := hp0.at hxq59
   refine RG (MV G G (MV G G (FN G G Tu232 G Ts230 G G (ST (Ex.idxArrO Tu230 Ts88 G G hxq59) G (ST (q08 H G hc99 Ta88) G (ST (Ex.neqNilO Tu88 ho99 G) G (NL (TN ?_))))))))
   refine q0o G (fun hk60 => ?_) (fun hk60 => ?_)
   ·
    rw [if_pos hk60] at e51
    obtain ⟨n61, hxn61, e51⟩ := bnd e51
    obtain ⟨q62, hxq62, e51⟩ := bnd e51
    obtain ⟨v110, hc110, ho110⟩ := hp0.at hxq62
    obtain ⟨⟨l63, n64⟩, hx65, e51⟩ := bnd e51
    try dsimp only at e51
    obtain ⟨n66, hxn66, e51⟩ := bnd e51
    refine q1Z (fun e w => ∃  (M : Mem), e = [(0, ptr bp0 0), (1, S p1), (12, v85), (13, I n66), (14, I n55)] ∧ St w0 M0 M [RowI 5 encB v85 l63] w ∧ TabO M bp0 232 p0.1 p0.2) ?_ ?_
    ·
     refine q0F (m := 13) G G H ?_
     intro w H
     refine TK 0 G (fun _ => q02 G) G (TK 1 G (fun _ => q02 G) G (TK 2 G (fun _ => q02 G) G (TK 4 G (fun _ => q02 G) G (TK 5 G (fun _ => q02 G) G (TK 6 G (fun _ => q0E G) G (TK 7 G (fun _ => q03 Tu232 G Ts230 Dc G) G ?_))))))
     refine TK 8 G (fun _ => Ex.idxArrO Tu230 Ts88 G G hxq62) G ?_
     refine q0P (i := 3) (j := 9) Kr G G ?_ ?_
     ·
      refine WR.rowFrom (l := l53) Tu88 Ts5 H Km hxn61 G G (q00 G) G ?_
      intro v105 hb105
      refine NA (q0s (fuel := 0) [9, 10, 11, 12] G Kr (ST (q08 H G hc110 Ta88) G (WR.copyC (l := l53) Tu88 xone1_5 (fun _ => G) H (fun _ => by repeat first | exact .head | apply Upd.tail) hb105 (ho110.sl) hx65 G G (q00 G) G ?_)))
      intro w H
      refine ST (q0u G G hxn66) G (AS G G (NA (q0h Kr ?_)))
      exact MP ⟨_, G, H, hp0⟩
     refine ST (q08 H G hc110 Ta88) G (NA (q0s (fuel := 0) [3, 10, 11, 12] G Kr (WR.rowFrom (l := l53) Tu88 Ts5 H Km hxn61 G G (q00 G) G ?_)))
     intro v105 hb105
     refine WR.copyC (l := l53) Tu88 xone1_5 (fun _ => G) H (fun _ => by repeat first | exact .head | apply Upd.tail) hb105 (ho110.sl) hx65 G G (q00 G) G ?_
     intro w H
     refine ST (q0u G G hxn66) G (AS G G (NA (q0h Kr ?_)))
     exact MP ⟨_, G, H, hp0⟩
    rintro e w ⟨M, rfl, H, hp0⟩
    refine IB (TN ?_)
    obtain ⟨n67, hxn67, e51⟩ := bnd e51
    refine RG (MV G G (ST (q0u G G hxn67) G (AS G G (NL ?_))))
    exact AG m56 ⟨_, _, _, _, G, H, hp0, e51⟩ (l0a _)
   rw [if_neg (by rw [hk60]; exact l07)] at e51
   refine SQ ?_
   obtain ⟨c68, hxc68, e51⟩ := bnd e51
   obtain ⟨l69, hxl69, e51⟩ := bnd e51
   refine RG (MV G G (MV G G (MV G G (WR.idxRowC (l := l53) H Tu88 Ts5 Km G G hxc68 (q00 G) G ?_))))
   intro g117 hg117
   refine WR.storeRowC (a := c58) H G G ⟨G, G⟩ hg117 (fun _ => by repeat first | exact .head | apply Upd.tail) hxl69 Ts5 (q00 G) ?_
   intro w H
   refine NL (TN ?_)
   obtain ⟨n70, hxn70, e51⟩ := bnd e51
   refine RG (MV G G (ST (q0u G G hxn70) G (AS G G (NL (IB (TN ?_))))))
   obtain ⟨n71, hxn71, e51⟩ := bnd e51
   refine RG (MV G G (ST (q0u G G hxn71) G (AS G G (NL ?_))))
   exact AG m56 ⟨_, _, _, _, G, H, hp0, e51⟩ (l0a _)
  rw [if_neg hk57] at e51
  refine q0m (q06 (q06 (q0f ?_)))
  exact MN ⟨_, _, G, H, e51⟩
 rintro e w ⟨l52, M, rfl, H, q72⟩
 obtain rfl := oI q72
 refine TN (SQ (RG (MV G G ?_)))
 obtain ⟨M, hle, hs73, H⟩ := H.freezeRow (v := v85) (enc := encB) (t := 5) Kv
 refine ST (q1S Tu88 Tu5 Tu9 H (hs73) G) G (AS G G (NL (TN (RT ?_))))
 obtain rfl := oI h
 exact q07 G G H.ext G
def RplT (M : Mem) (b2 : Nat) : Prop := TabO M b2 232 (tabk 2) (trk 2)
theorem RplT.mono {M M' : Mem} {b2 : Nat} (h : RplT M b2) (hl : M.le M') : RplT M' b2 := TabO.mono h hl
theorem rplBuilt : Y2c [[92], [92, 92], [34], [92, 34]] = some ((tabk 2, trk 2), [[92], [92, 92], [34], [92, 34]]) := by decide +kernel
theorem replT_ct {p0 r : Ls} {b2 : Nat} (h : Y0W p0 = some r) : Ct Tryz.prog 273 [ptr b2 0, S p0] (fun M => RplT M b2) (fun v M => v = S r) := Y2r (p0 := (tabk 2, trk 2)) h
def RplM (M : Mem) (x : Array Value) : Prop := (∃ v, x = #[Value.int .u32 0, Value.int .i32 0, Value.int .u32 0, Value.nilIface, v] ∧ Sl M encS v [[92], [92, 92], [34], [92, 34]]) ∨ ∃ b2, x = #[Value.int .u32 1, Value.int .i32 0, Value.int .u32 0, Value.iface 233 (ptr b2 0), Value.slice none 0 0] ∧ RplT M b2
theorem RplM.mono {M M' : Mem} {x : Array Value} (h : RplM M x) (hl : M.le M') : RplM M' x := by
 rcases h with ⟨v, h1, h2⟩ | ⟨b2, h1, h2⟩
 · exact .inl ⟨v, h1, h2.mono hl⟩
 exact .inr ⟨b2, h1, h2.mono hl⟩
theorem buildOnce_ct {b : Nat} {v : Value} : CtX Tryz.prog 147 [ptr b 0] [.blk b (.cells #[Value.int .u32 0, Value.int .i32 1, Value.int .u32 0, Value.nilIface, v] 166)] (fun M => Sl M encS v [[92], [92, 92], [34], [92, 34]]) (fun r M its => r = .tuple #[] ∧ ∃ b2, RplT M b2 ∧ its = [.blk b (.cells #[Value.int .u32 0, Value.int .i32 1, Value.int .u32 0, Value.iface 233 (ptr b2 0), Value.slice none 0 0] 166)]) := by
 refine CtX.of Tryz.func147 (enters Tryz.func147 Kr G) G G G ?_
 intro w0 M0 H hp
 refine SQ (RG (MV G G (MV G G (q0w (A := [.blk b (.cells #[Value.int .u32 0, Value.int .i32 1, Value.int .u32 0, Value.nilIface, v] 166)]) (B := []) H (Y3y rplBuilt) (.left (q0j _)) G hp (q00 G) G ?_))))
 intro v4 M w its H hle hR
 obtain ⟨b2, rfl, hb2, rfl⟩ := hR
 simp only [l05, l06] at H
 refine FN G G Tu166 G Tryz.sizeOf164 G G (q0O [Value.int .u32 0, Value.int .i32 1, Value.int .u32 0, Value.iface 233 (ptr b2 0), v] H G G ⟨G, G⟩ Upd.head G Tryz.sizeOf164 (show (3 : Nat) < 5 from by decide) (q00 G) ?_)
 intro w H
 refine NL (TN (RG (MV G G (FN G G Tu166 G Ts55 G G (q0O [Value.int .u32 0, Value.int .i32 1, Value.int .u32 0, Value.iface 233 (ptr b2 0), Value.slice none 0 0] H G G ⟨G, G⟩ Upd.head G Ts55 (show (4 : Nat) < 5 from by decide) (q00 G) ?_)))))
 intro w H
 refine NL ?_
 exact WQ.endX0 G H Kp ⟨G, b2, hb2, G⟩
theorem onceDo_ct {b : Nat} {x : Array Value} : CtX Tryz.prog 146 [ptr b 0, .func (.func 147) #[ptr b 0] #[]] [.blk b (.cells x 166)] (fun M => RplM M x) (fun r M its => r = .tuple #[] ∧ ∃ b2, RplT M b2 ∧ its = [.blk b (.cells #[Value.int .u32 1, Value.int .i32 0, Value.int .u32 0, Value.iface 233 (ptr b2 0), Value.slice none 0 0] 166)]) := by
 refine ⟨enters Tryz.func146 Kr G, fun w M H hp => ?_⟩
 rcases hp with ⟨v, rfl, hs⟩ | ⟨b2, rfl, hb2⟩
 · have H1 : StX (feet [.blk b (.cells #[Value.int .u32 0, Value.int .i32 0, Value.int .u32 0, Value.nilIface, v] 166)]) w M M [.blk b (.cells #[Value.int .u32 0, Value.int .i32 1, Value.int .u32 0, Value.nilIface, v] 166)] (w.setCell ⟨b, 1, none⟩ (.int .i32 1)) := H.setC (o := 1) (v := .int .i32 1) Upd.head
   refine (oFirst b w (fun w2 => ∃ M2 b2, StX (feet [.blk b (.cells #[Value.int .u32 0, Value.int .i32 0, Value.int .u32 0, Value.nilIface, v] 166)]) w M M2 [.blk b (.cells #[Value.int .u32 0, Value.int .i32 1, Value.int .u32 0, Value.iface 233 (ptr b2 0), Value.slice none 0 0] 166)] w2 ∧ RplT M2 b2) (H.cellOf (o := 0) (List.Mem.head _) rfl) (H.cellOf (o := 1) (List.Mem.head _) rfl) (H.thawOf (List.Mem.head _)) (H.thawOf (List.Mem.head _)) ?_ ?_).mono ?_
   · refine (buildOnce_ct.calls _ M (H1.hand (q1P _)) hs).mono ?_
     rintro e w2 ⟨r, M2, its, rfl, h2, rfl, b2, hb2, rfl⟩
     exact ⟨G, M2, b2, H1.back (q1P _) h2, hb2⟩
   · rintro w2 ⟨M2, b2, h2, _⟩
     exact ⟨h2.cellOf (o := 0) (List.Mem.head _) G, h2.cellOf (o := 1) (List.Mem.head _) G, h2.thawOf (List.Mem.head _), h2.thawOf (List.Mem.head _)⟩
   rintro e w' ⟨rfl, w2, ⟨M2, b2, h2, hb2⟩, rfl⟩
   have h3 : StX (feet [.blk b (.cells #[Value.int .u32 0, Value.int .i32 0, Value.int .u32 0, Value.nilIface, v] 166)]) w M M2 [.blk b (.cells #[Value.int .u32 1, Value.int .i32 1, Value.int .u32 0, Value.iface 233 (ptr b2 0), Value.slice none 0 0] 166)] (w2.drew.setCell ⟨b, 0, none⟩ (.int .u32 1)) := h2.drew.setC (o := 0) (v := .int .u32 1) Upd.head
   have h4 : StX (feet [.blk b (.cells #[Value.int .u32 0, Value.int .i32 0, Value.int .u32 0, Value.nilIface, v] 166)]) w M M2 [.blk b (.cells #[Value.int .u32 1, Value.int .i32 0, Value.int .u32 0, Value.iface 233 (ptr b2 0), Value.slice none 0 0] 166)] ((w2.drew.setCell ⟨b, 0, none⟩ (.int .u32 1)).setCell ⟨b, 1, none⟩ (.int .i32 0)) := h3.setC (o := 1) (v := .int .i32 0) Upd.head
   exact ⟨_, M2, _, G, h4, G, b2, hb2, G⟩
 refine (oAgain ⟨b, 0, none⟩ 1 Dc _ w (H.cellOf (o := 0) (List.Mem.head _) G)).mono ?_
 rintro e w' ⟨rfl, rfl⟩
 exact ⟨_, M, _, G, H, G, b2, hb2, G⟩
theorem methR (b2 : Nat) : MethAt Tryz.prog 233 (ptr b2 0) "Replace" 273 (ptr b2 0) := fun w => by kernel_rfl
theorem Y3n {p0 : Ls} {b : Nat} {x : Array Value} {r : Ls} (h : Y0W p0 = some r) : CtX Tryz.prog 116 [ptr b 0, S p0] [.blk b (.cells x 166)] (fun M => RplM M x) (fun v M its => ∃ x', v = S r ∧ RplM M x' ∧ its = [.blk b (.cells x' 166)]) := by
 refine CtX.of Tryz.func116 (enters Tryz.func116 Kr G) G G G ?_
 intro w0 M0 H hp
 refine SQ (RG (AS G G (NL (TN (SQ (RG (MV G G (FN G G Tu166 G Tryz.sizeOf162 G G (MV G G (ST (Ex.makeFuncF (vs := [ptr b 0]) G) G (q0w (A := [.blk b (.cells x 166)]) (B := []) H (onceDo_ct (b := b) (x := x)) (.left (q0j _)) G hp (q00 G) G ?_)))))))))))
 intro v10 M w its H hle hR
 obtain ⟨rfl, b2, hb2, rfl⟩ := hR
 simp only [l05, l06] at H
 refine NL (TN (SQ (RG (MV G G (FN G G Tu166 G Tryz.sizeOf164 G G (ST (Ex.load1 H G (List.Mem.head _) Tryz.isAgg164 Kf) G ?_))))))
 refine MV G G (WR.callI H (replT_ct h) (methR b2) G G hb2 (q00 G) G ?_)
 intro v16 M w H hle hR
 obtain rfl := hR
 refine AS G G (NL (TN (RT ?_)))
 exact q1n (its := [.blk b (.cells #[Value.int .u32 1, Value.int .i32 0, Value.int .u32 0, Value.iface 233 (ptr b2 0), Value.slice none 0 0] 166)]) G G H Kp ⟨_, G, .inr ⟨b2, G, hb2.mono hle⟩, G⟩
theorem xplacesR : ∀ {fs : Array Field}, Tryz.prog.underlying 166 = some (.struct fs) → ∀ w, (fs.mapM fun f => do pure (f.offset, ← sizeOf f.type) : Sem (Array (Nat × Nat))).run Tryz.prog w = .ok #[(0, 3), (3, 1), (4, 1)] w := by
 intro fs h w
 rw [Tu166] at h
 cases h
 simp
theorem Y3U {p0 : List Ls} {vp0 : Value} {r : Unit} (h : Y0R p0 = some r) : CtX Tryz.prog 115 [vp0] [] (fun M => Sl M encS vp0 p0) (fun v M its => ∃ b x, v = ptr b 0 ∧ RplM M x ∧ its = [.blk b (.cells x 166)]) := by
 unfold Y0R at h
 split at h
 case isFalse => cases h
 rename_i hl
 subst hl
 refine CtX.of Tryz.func115 (enters Tryz.func115 Kr G) G G G ?_
 intro w0 M0 H hp0
 refine SQ (RG (AS G G (NL (TN (SQ (SQ (RG (MV G G (ST (q0A Tu55 hp0 G) G (ST (Ex.remC (a := 4) (b := 2) (z := 0) G G G) G (q0U (q0c G G) Dc (q00 G) G G (NL (TN (CF G (SK (TN (SQ (RG (MV G G ?_)))))))))))))))))))
 replace H := H.newRow 9 encS
 refine q1l (l := []) xty55 G (fun _ => G) H G (fun _ => by repeat first | exact .head | apply Upd.tail) G hp0 (l3 := [[92], [92, 92], [34], [92, 34]]) G (q00 G) G ?_
 intro v9 w H
 obtain ⟨M, hle, hs, H1⟩ := H.freezeRowN (v := v9) (enc := encS) (t := 9) Kv trivial
 have hs2 := hs
 obtain ⟨A9, c9, rfl, -⟩ := hs2
 refine ST (q0L [Value.int .u32 0, Value.int .i32 0, Value.int .u32 0, Value.nilIface, .slice A9 4 c9] Tu166 Tryz.zeroValue166 (xplacesR Tu166) G Kr) G (q1t [Value.int .u32 0, Value.int .i32 0, Value.int .u32 0, Value.nilIface, .slice A9 4 c9] H1 G G (q00 G) G ?_)
 intro b11 w H2
 refine AS G G (NL (TN (RT ?_)))
 exact q1n (its := [.blk b11 (.cells #[Value.int .u32 0, Value.int .i32 0, Value.int .u32 0, Value.nilIface, .slice A9 4 c9] 166)]) G G H2 Kp ⟨b11, _, G, .inl ⟨_, G, hs⟩, G⟩
theorem Y4e {s sep : Ls} {k : Int} : CtX Tryz.prog 113 [S s, S sep, I k] [] (fun _ => True) (fun v M its => ∃ b1 b2 b3, v = .func (.func 143) #[] #[ptr b1 0, ptr b2 0, ptr b3 0] ∧ its = [.blk b1 (.cells #[S sep] 9), .blk b2 (.cells #[S s] 9), .blk b3 (.cells #[I k] 3)]) := by
 refine CtX.of Tryz.func113 (enters Tryz.func113 Kr G) G G G ?_
 intro w0 M0 H _
 refine SQ (RG (q1t [_] H G G (q00 G) G ?_))
 intro b2 w H
 refine q1t [_] H G G (q00 G) G ?_
 intro b1 w H
 refine q1t [_] H G G (q00 G) G ?_
 intro b3 w H
 refine AS G G (NL (TN (SQ (RG (ST (q1Q G) G (AS G G (NL (TN (RT ?_)))))))))
 exact q1n (its := [.blk b1 (.cells #[S sep] 9), .blk b2 (.cells #[S s] 9), .blk b3 (.cells #[I k] 3)]) G G H Kp ⟨_, _, _, G, G⟩
theorem Y3o {s sep : Ls} : CtX Tryz.prog 79 [S s, S sep] [] (fun _ => True) (fun v M its => ∃ b1 b2 b3, v = .func (.func 143) #[] #[ptr b1 0, ptr b2 0, ptr b3 0] ∧ its = [.blk b1 (.cells #[S sep] 9), .blk b2 (.cells #[S s] 9), .blk b3 (.cells #[I 0] 3)]) := by
 refine CtX.of Tryz.func79 (enters Tryz.func79 Kr G) G G G ?_
 intro w0 M0 H _
 refine SQ (RG (AS G G (NL (TN (SQ (RG (MV G G (MV G G (q0w (A := []) (B := []) H Y4e (q0j _) G trivial (q00 G) G ?_)))))))))
 intro v7 M w its H hle hR
 obtain ⟨b1, b2, b3, rfl, rfl⟩ := hR
 simp only [l05, l06] at H
 refine AS G G (NL (TN (RT ?_)))
 exact q1n (its := [.blk b1 (.cells #[S sep] 9), .blk b2 (.cells #[S s] 9), .blk b3 (.cells #[I 0] 3)]) G G H Kp ⟨_, _, _, G, G⟩
theorem Y3M {p0 r : List (Ls × Ls × Ls)} {vp0 : Value} (h : Y1r p0 = some r) : Ct Tryz.prog 39 [vp0] (fun M => SlS M 3 xenc24 vp0 p0) (fun v M => SlS M 3 xenc24 v r) := by
 refine Ct.of Tryz.func39 (enters Tryz.func39 Kr G) G G G ?_
 intro w0 M0 H hp0
 unfold Y1r at h
 refine SQ (RG (AS G G (NL (TN (SQ (SQ ?_))))))
 rcases SlS.nilOr hp0 with ⟨rfl, rfl⟩ | ⟨a, c, rfl⟩
 · refine WC.region ?_
   refine MV G G (ST (Ex.eqlNilS Tu30 G) G (NL (TN (CT G (SQ (RG (AS G G (NL (TN (RT ?_))))))))))
   obtain ⟨_, rfl⟩ := app_some h
   exact q07 G G H.ext (SlS.nil _ _ (fun _ => G))
 refine WC.region ?_
 refine MV G G (ST (Ex.eqlNilS Tu30 G) G (NL (TN (CF G (SK ?_)))))
 (repeat (first | refine WQ.then ?_))
 refine SQ (RG (WR.litE xty30 xenc24 H (q00 G) G ?_))
 intro v5 w H
 refine MV G G (q2d (l := []) xty30 G xone24 H G (fun _ => by repeat first | exact .head | apply Upd.tail) G hp0 h (q00 G) G ?_)
 intro v7 w H
 refine AS G G (NL (TN (RT ?_)))
 obtain ⟨M, hle, hf, H⟩ := H.freezeRowS (v := v7) (enc := xenc24) (t := 24) Kv (fun _ => rfl)
 exact q07 G G H.ext hf
theorem Y0E {p0 : Int} {p1 : Int} {r : (Int × Int)} (h : Y09 p0 p1 = some r) : Ct Tryz.prog 30 [I p0, I p1] (fun M => True) (fun v M => v = Value.agg #[I r.1, I r.2]) := by
 refine Ct.of Tryz.func30 (enters Tryz.func30 Kr G) G G G ?_
 intro w0 M0 H hp
 unfold Y09 at h
 refine SQ (RG (q0g [_, _] H Tz27 G (q00 G) G ?_))
 intro bk4 w H
 refine NL (TN (SQ (RG (MV G G (MV G G (ST (q0L [I p0, I p1] Tu27 Tz27 (xplaces27 Tu27) G G) G (q0b [_, _] H G G G Ku Ts27 G Kf Kf (q00 G) ?_)))))))
 intro w H
 refine NL (TN (RT ?_))
 obtain rfl := oI h
 exact q07 G ⟨_, G, H.loadAgg Km Ta27 Ts27 Kf⟩ H.ext G
theorem Y3t {p0 : Ls} {r : Int} (h : Y20 p0 = some r) : Ct Tryz.prog 29 [S p0] (fun M => Tabs M) (fun v M => v = I r) := by
 refine Ct.of Tryz.func29 (enters Tryz.func29 Kr G) G G G ?_
 intro w0 M0 H hp
 have gT := hp
 unfold Y20 at h
 refine SQ (RG (AS G G (NL (TN (SQ (SQ (RG (MV G G (ST (q0k Tu9 G) G (ST (q0K G G) G (NL (TN ?_))))))))))))
 refine CB (p := (500 : Int) < (p0.length : Int)) G (fun hk1 => ?_) fun hk1 => ?_
 ·
  rw [if_pos hk1] at h
  refine SQ (RG (AS G G (NL (TN (RT ?_)))))
  obtain rfl := oI h
  exact q07 G G H.ext G
 rw [if_neg hk1] at h
 refine SK (TN (SQ (SQ ?_)))
 obtain ⟨b2, hx3, h⟩ := bnd h
 refine RG (MV G G (q05 H (Y3m hx3) G (gT) (q00 G) G ?_))
 intro v7 M w H hle hR
 replace gT := gT.mono hle
 obtain rfl := hR
 refine ST (q0R G) G (NL (TN ?_))
 refine q0o G (fun hk4 => ?_) (fun hk4 => ?_)
 ·
  replace hk4 : b2 = false := by simpa using hk4
  subst hk4
  rw [if_neg l07] at h
  refine SQ (RG (AS G G (NL (TN (RT ?_)))))
  obtain rfl := oI h
  exact q07 G G H.ext G
 replace hk4 : b2 = true := by simpa using hk4
 subst hk4
 rw [if_pos rfl] at h
 refine SK (TN (SQ (RG (AS G G (NL (TN (RT ?_)))))))
 obtain rfl := oI h
 exact q07 G G H.ext G
theorem Y3Z {p0 : Ls} {p1 : (UInt8 → Option Bool)} {vp1 : Value} {r : Bool} (h : Y31 p0 p1 = some r) : Ct Tryz.prog 66 [S p0, vp1] (fun M => FnT90 M vp1 p1) (fun v M => v = Value.bool r) := by
 refine Ct.of Tryz.func66 (enters Tryz.func66 Kr G) G G G ?_
 intro w0 M0 H hp
 have hp1 := hp
 unfold Y31 at h
 refine SQ (RG (AS G G (NL (TN (SQ (SQ (RG (MV G G (ST (q0k Tu9 G) G (MV G G (NL (TN ?_))))))))))))
 obtain ⟨o1, e2, h⟩ := bnd h
 refine q0l (fun e w => ∃  (M : Mem), e = [] ∧ St w0 M0 M [] w ∧ some (.inl ()) = some o1) [] ?_ ?_ (trivial)
 ·
  refine BL (q0J (fun m e w => ∃ (n3 : Int) (M : Mem), e = [(0, S p0), (1, vp1), (7, I (p0.length : Int)), (8, I n3)] ∧ St w0 M0 M [] w ∧ FnT90 M vp1 p1 ∧ Y22 p0 p1 m n3 = some o1) FU [(0, _), (1, _), (7, _), (8, _)] ⟨rfl, rfl, rfl, rfl, trivial⟩ ⟨_, _, rfl, H, hp1, e2⟩ ?_)
  rintro m4 e w ⟨n3, M, rfl, H, hp1, e2⟩
  rcases m4 with _ | m4
  · rw [Y22] at e2; cases e2
  rw [Y22] at e2
  refine SQ (RG (ST (q0n G G) G (NL (TN (SQ ?_)))))
  refine CB (p := n3 < (p0.length : Int)) G (fun hk5 => ?_) fun hk5 => ?_
  ·
   rw [if_pos hk5] at e2
   refine SK (TN (SQ (BL (SQ (RG (MV G G (AS G G (NL (TN (SQ ?_))))))))))
   obtain ⟨c6, hxc6, e2⟩ := bnd e2
   obtain ⟨b7, hx8, e2⟩ := bnd e2
   refine RG (MV G G (MV G G (MV G G (ST (q0N Tu9 G G hxc6) G (WR.callF H (hp1.2 _ _ hx8) G G (q00 G) G ?_)))))
   intro v15 M w H hle hR
   replace hp1 := hp1.mono hle
   obtain rfl := hR
   refine ST (q0R G) G (NL (TN ?_))
   refine q0o G (fun hk9 => ?_) (fun hk9 => ?_)
   ·
    replace hk9 : b7 = false := by simpa using hk9
    subst hk9
    rw [if_neg l07] at e2
    refine SQ (RG (AS G G (NL (TN (RT ?_)))))
    obtain rfl := oI e2
    try dsimp only at h
    obtain rfl := oI h
    exact q07 G G H.ext G
   replace hk9 : b7 = true := by simpa using hk9
   subst hk9
   rw [if_pos rfl] at e2
   refine SK (IB (TN ?_))
   obtain ⟨n10, hxn10, e2⟩ := bnd e2
   refine RG (ST (q0u G G hxn10) G (MV G G (NL ?_)))
   exact AG m4 ⟨_, _, G, H, hp1, e2⟩ (l0a _)
  rw [if_neg hk5] at e2
  refine q0m (q06 (q06 (q0f ?_)))
  exact MN ⟨_, G, H, e2⟩
 rintro e w ⟨M, rfl, H, q11⟩
 obtain rfl := oI q11
 try dsimp only at h
 refine TN (SQ (RG (AS G G (NL (TN (RT ?_))))))
 obtain rfl := oI h
 exact q07 G G H.ext G
theorem Y4k {p0 : UInt8} {r : Bool} (h : Y2i p0 = some r) : Ct Tryz.prog 67 [encB p0] (fun M => True) (fun v M => v = Value.bool r) := by
 refine Ct.of Tryz.func67 (enters Tryz.func67 Kr G) G G G ?_
 intro w0 M0 H hp
 unfold Y2i at h
 refine SQ (RG (AS G G (NL (TN (SQ ?_)))))
 obtain ⟨o1, e2, h⟩ := bnd h
 refine q0l (fun e w => ∃ (b3 : Bool) (M : Mem), e = [(2, Value.bool b3)] ∧ St w0 M0 M [] w ∧ some b3 = some o1) [] ?_ ?_ (trivial)
 ·
  by_cases hk4 : 32 ≤ p0.toNat
  ·
   rw [if_pos hk4] at e2
   refine RG (MV G G (DT hk4 (q1w (i := p0.toNat) (j := 32) G G) G (MV G G (SG (q02 G) G G G (SG (q1F (i := p0.toNat) (j := 126) G G) G G G (PT G G G (AS G G (NL ?_))))))))
   exact MN ⟨_, _, G, H, e2⟩
  rw [if_neg hk4] at e2
  refine RG (MV G G (DF hk4 (q1w (i := p0.toNat) (j := 32) G G) G (MV G G (GF G G G (GF G G G (PF G G G (AS G G (NL ?_))))))))
  exact MN ⟨_, _, G, H, e2⟩
 rintro e w ⟨b3, M, rfl, H, q5⟩
 obtain rfl := oI q5
 refine TN (RT ?_)
 obtain rfl := oI h
 exact q07 G G H.ext G
theorem Y2y {p0 : Ls} {r : Bool} (h : Y25 p0 = some r) : Ct Tryz.prog 31 [S p0] (fun M => True) (fun v M => v = Value.bool r) := by
 refine Ct.of Tryz.func31 (enters Tryz.func31 Kr G) G G G ?_
 intro w0 M0 H hp
 unfold Y25 at h
 refine SQ (RG (AS G G (NL (TN (SQ ?_)))))
 obtain ⟨o1, e2, h⟩ := bnd h
 refine q0l (fun e w => ∃ (b3 : Bool) (M : Mem), e = [(2, Value.bool b3)] ∧ St w0 M0 M [] w ∧ some b3 = some o1) [] ?_ ?_ (trivial)
 ·
  by_cases hk4 : p0 = []
  ·
   rw [if_pos hk4] at e2
   refine RG (MV G G (q09 (v' := .bool false) (q1u G G) (congrArg Value.bool (by rw [decide_eq_true hk4]; rfl)) (q00 G) G G ?_))
   refine MV G G (q0i 3 G G (PF G G G (MV G G (GF G G G (GF G G G (PF G G G (AS G G (NL ?_))))))))
   exact MN ⟨_, _, G, H, e2⟩
  rw [if_neg hk4] at e2
  refine RG (MV G G (q09 (v' := .bool true) (q1u G G) (congrArg Value.bool (by rw [decide_eq_false hk4]; rfl)) (q00 G) G G ?_))
  by_cases hk5 : (p0.length : Int) ≤ (60 : Int)
  ·
   rw [if_pos hk5] at e2
   obtain ⟨b6, hx7, e2⟩ := bnd e2
   refine MV G G (SG (q02 G) G G G (SG (q0k Tu9 G) G G G (DU hk5 (q1G G G) G G G (PT G G G (MV G G (SG (q02 G) G G G (q05 H (Y3Z hx7) G ((⟨⟨G, G⟩, (fun _ _ h => FnV.of (Y4k h) (fun _ _ => trivial))⟩ : FnT90 _ _ _)) (q04 G G G) G ?_)))))))
   intro v12 M w H hle hR
   obtain rfl := hR
   refine PT G G G (AS G G (NL ?_))
   exact MN ⟨_, _, G, H, e2⟩
  rw [if_neg hk5] at e2
  refine MV G G (SG (q02 G) G G G (SG (q0k Tu9 G) G G G (DG hk5 (q1G G G) G G G (PT G G G (MV G G (GF G G G (GF G G G (PF G G G (AS G G (NL ?_))))))))))
  exact MN ⟨_, _, G, H, e2⟩
 rintro e w ⟨b3, M, rfl, H, q8⟩
 obtain rfl := oI q8
 refine TN (RT ?_)
 obtain rfl := oI h
 exact q07 G G H.ext G
theorem Y33 {p1 : Ls} {p2 : Ls} {p3 : Int} {bp1 : Nat} {bp2 : Nat} {bp3 : Nat} : ItS Tryz.prog 143 [ptr bp1 0, ptr bp2 0, ptr bp3 0] [.blk bp1 (.cells #[S p1] 9), .blk bp2 (.cells #[S p2] 9), .blk bp3 (.cells #[I p3] 3)] (fun M => GlF (fun w => ∃ m, w.cell? ⟨2, 0, none⟩ = some (.int .i64 m)) M ∧ Tabs M) encS (Y1m p1 p2 p3) := by
 refine ItS.of Tryz.func143 (enters Tryz.func143 Kr G) G G G ?_
 intro lid σ Y Z C hY s0 r L0 w0 M0 h hzz H hp
 simp only [l05, l06] at H
 obtain ⟨gM, gT⟩ := hp
 unfold Y1m at h
 refine SQ (SQ (RG (ST (XL H Ta9) G ?_)))
 refine ST (q0k Tu9 G) G (ST (q0c G G) G (NL (TN ?_)))
 refine CB (p := (p1.length : Int) = (0 : Int)) G (fun hk1 => ?_) fun hk1 => ?_
 ·
  rw [if_pos hk1] at h
  refine SQ ?_
  obtain ⟨o2, e3, h⟩ := bnd h
  refine q0l (fun e w => ∃ (s4 : Ls) (s5 : σ) (Lc : List Ph.Item) (M : Mem), e = [] ∧ StX C w0 M0 M (.blk bp1 (.cells #[S p1] 9) :: .blk bp2 (.cells #[S s4] 9) :: .blk bp3 (.cells #[I p3] 3) :: Lc) w ∧ GlF (fun w => ∃ m, w.cell? ⟨2, 0, none⟩ = some (.int .i64 m)) M ∧ Tabs M ∧ ZH Z s5 Lc M ∧ some (.inl (s4, s5)) = some o2) [] ?_ ?_ (trivial)
  ·
   refine BL ?_
   refine q0J (fun m e w => ∃ (s6 : Ls) (s7 : σ) (Lc : List Ph.Item) (M : Mem), e = [(0, (yv lid)), (2, ptr bp2 0)] ∧ StX C w0 M0 M (.blk bp2 (.cells #[S s6] 9) :: .blk bp1 (.cells #[S p1] 9) :: .blk bp3 (.cells #[I p3] 3) :: Lc) w ∧ GlF (fun w => ∃ m, w.cell? ⟨2, 0, none⟩ = some (.int .i64 m)) M ∧ Tabs M ∧ ZH Z s7 Lc M ∧ Y1j Y m s6 s7 = some o2) FU [(0, _), (2, _)] ⟨rfl, rfl, trivial⟩ ⟨_, _, _, _, rfl, (H.pick (L' := (.blk bp2 (.cells #[S p2] 9) :: .blk bp1 (.cells #[S p1] 9) :: .blk bp3 (.cells #[I p3] 3) :: L0)) (by repeat (first | refine Pick.cons Kv ?_ | exact Pick.ofSub (by repeat (first | exact List.Sublist.refl _ | apply List.Sublist.cons))))), gM, gT, hzz, e3⟩ ?_
   rintro m8 e w ⟨s6, s7, Lc, M, rfl, H, gM, gT, hzz, e3⟩
   rcases m8 with _ | m8
   · rw [Y1j] at e3; cases e3
   rw [Y1j] at e3
   refine SQ (SQ (RG (ST (XL H Ta9) G ?_)))
   refine ST (q0k Tu9 G) G (ST (q0K G G) G (NL (TN ?_)))
   refine CB (p := (0 : Int) < (s6.length : Int)) G (fun hk9 => ?_) fun hk9 => ?_
   ·
    rw [if_pos hk9] at e3
    refine SK (TN (BL (SQ ?_)))
    obtain ⟨⟨n10, n11⟩, hx12, e3⟩ := bnd e3
    try dsimp only at e3
    refine RG (ST (XL H Ta9) G ?_)
    refine q05 H (Y3q hx12) G (gT) (q00 G) G ?_
    intro v17 M w H hle hR
    replace gM := gM.mono hle
    replace gT := gT.mono hle
    replace hzz := hzz.mono hle
    try dsimp only at hR
    obtain rfl := hR
    refine MV G G (ST (q0e G G) G (ST (q0e G G) G (AS G G (AS G G (NL (TN (SQ (SQ ?_))))))))
    obtain ⟨s13, hxs13, e3⟩ := bnd e3
    obtain ⟨⟨s14, b15⟩, hx16, e3⟩ := bnd e3
    try dsimp only at e3
    refine RG (MV G G (ST (XL H Ta9) G ?_))
    refine MV G G (ST (Ex.sliceH Tu9 G G hxs13) G (WR.yieldS H (.right (.right (.right (q1P _)))) hY hzz hx16 G G (q00 G) G ?_))
    intro w M Lc H hle hzz
    simp only [l05, l06] at H
    replace gM := gM.mono hle
    replace gT := gT.mono hle
    refine ST (q0R G) G (NL (TN ?_))
    refine q0o G (fun hk17 => ?_) (fun hk17 => ?_)
    ·
     replace hk17 : b15 = false := by simpa using hk17
     subst hk17
     rw [if_neg l07] at e3
     refine RT ?_
     obtain rfl := oI e3
     try dsimp only at h
     obtain rfl := oI h
     exact WQ.retZ G H (by repeat (first | exact List.Sublist.refl _ | apply List.Sublist.cons)) hzz G
    replace hk17 : b15 = true := by simpa using hk17
    subst hk17
    rw [if_pos rfl] at e3
    refine SK (TN ?_)
    obtain ⟨s18, hxs18, e3⟩ := bnd e3
    refine RG (ST (XL H Ta9) G ?_)
    refine MV G G (ST (Ex.sliceL Tu9 G G hxs18) G (q0b [_] H G G G Ku Ts9 G Kf Kf (q00 G) ?_))
    intro w H
    refine NL (IB ?_)
    exact AG m8 ⟨_, _, _, _, G, H, gM, gT, hzz, e3⟩ (l0a _)
   rw [if_neg hk9] at e3
   refine q0m (q06 (q06 (q0f ?_)))
   exact MN ⟨_, _, _, _, G, (H.pick (L' := (.blk bp1 (.cells #[S p1] 9) :: .blk bp2 (.cells #[S s6] 9) :: .blk bp3 (.cells #[I p3] 3) :: Lc)) (by repeat (first | refine Pick.cons Kv ?_ | exact Pick.ofSub (by repeat (first | exact List.Sublist.refl _ | apply List.Sublist.cons))))), gM, gT, hzz, e3⟩
  rintro e w ⟨s4, s5, Lc, M, rfl, H, gM, gT, hzz, q19⟩
  obtain rfl := oI q19
  try dsimp only at h
  refine TN (RT ?_)
  obtain rfl := oI h
  exact WQ.retZ G H (by repeat (first | exact List.Sublist.refl _ | apply List.Sublist.cons)) hzz G
 rw [if_neg hk1] at h
 refine SK (TN (SQ ?_))
 obtain ⟨o22, e23, h⟩ := bnd h
 refine q0l (fun e w => ∃ (s24 : Ls) (s25 : σ) (Lc : List Ph.Item) (M : Mem), e = [(0, (yv lid)), (2, ptr bp2 0)] ∧ StX C w0 M0 M (.blk bp2 (.cells #[S s24] 9) :: .blk bp1 (.cells #[S p1] 9) :: .blk bp3 (.cells #[I p3] 3) :: Lc) w ∧ GlF (fun w => ∃ m, w.cell? ⟨2, 0, none⟩ = some (.int .i64 m)) M ∧ Tabs M ∧ ZH Z s25 Lc M ∧ some (.inl (s24, s25)) = some o22) [] ?_ ?_ (trivial)
 ·
  refine BL (q0J (fun m e w => ∃ (s26 : Ls) (s27 : σ) (Lc : List Ph.Item) (M : Mem), e = [(0, (yv lid)), (1, ptr bp1 0), (2, ptr bp2 0), (3, ptr bp3 0)] ∧ StX C w0 M0 M (.blk bp1 (.cells #[S p1] 9) :: .blk bp2 (.cells #[S s26] 9) :: .blk bp3 (.cells #[I p3] 3) :: Lc) w ∧ GlF (fun w => ∃ m, w.cell? ⟨2, 0, none⟩ = some (.int .i64 m)) M ∧ Tabs M ∧ ZH Z s27 Lc M ∧ Y0q Y p1 p3 m s26 s27 = some o22) FU [(0, _), (1, _), (2, _), (3, _)] ⟨rfl, rfl, rfl, rfl, trivial⟩ ⟨_, _, _, _, rfl, H, gM, gT, hzz, e23⟩ ?_)
  rintro m28 e w ⟨s26, s27, Lc, M, rfl, H, gM, gT, hzz, e23⟩
  rcases m28 with _ | m28
  · rw [Y0q] at e23; cases e23
  rw [Y0q] at e23
  refine BL (SQ ?_)
  obtain ⟨n29, hx30, e23⟩ := bnd e23
  refine RG (ST (XL H Ta9) G ?_)
  refine ST (XL H Ta9) G ?_
  refine q05 H (Y4t hx30) G (gM) (q00 G) G ?_
  intro v31 M w H hle hR
  replace gM := gM.mono hle
  replace gT := gT.mono hle
  replace hzz := hzz.mono hle
  obtain rfl := hR
  refine AS G G (NL (TN (SQ (SQ (RG (MV G G (ST (q0n G G) G (NL (TN ?_)))))))))
  refine CB (p := n29 < (0 : Int)) G (fun hk31 => ?_) fun hk31 => ?_
  ·
   rw [if_pos hk31] at e23
   refine q0m (q06 (WQ.exitOut G (q06 (q0f ?_))))
   exact MN ⟨_, _, _, _, G, (H.pick (L' := (.blk bp2 (.cells #[S s26] 9) :: .blk bp1 (.cells #[S p1] 9) :: .blk bp3 (.cells #[I p3] 3) :: Lc)) (by repeat (first | refine Pick.cons Kv ?_ | exact Pick.ofSub (by repeat (first | exact List.Sublist.refl _ | apply List.Sublist.cons))))), gM, gT, hzz, e23⟩
  rw [if_neg hk31] at e23
  refine SK (TN (SQ ?_))
  obtain ⟨n32, hxn32, e23⟩ := bnd e23
  obtain ⟨s33, hxs33, e23⟩ := bnd e23
  refine RG (ST (XL H Ta9) G ?_)
  refine MV G G (ST (XL H Ta3) G ?_)
  refine ST (q0u G G hxn32) G (ST (Ex.sliceH Tu9 G G hxs33) G (AS G G (NL (TN (SQ (SQ ?_))))))
  obtain ⟨⟨s34, b35⟩, hx36, e23⟩ := bnd e23
  try dsimp only at e23
  refine RG (MV G G (MV G G (WR.yieldS H (.right (.right (.right (q1P _)))) hY hzz hx36 G G (q00 G) G ?_)))
  intro w M Lc H hle hzz
  simp only [l05, l06] at H
  replace gM := gM.mono hle
  replace gT := gT.mono hle
  refine ST (q0R G) G (NL (TN ?_))
  refine q0o G (fun hk37 => ?_) (fun hk37 => ?_)
  ·
   replace hk37 : b35 = false := by simpa using hk37
   subst hk37
   rw [if_neg l07] at e23
   refine RT ?_
   obtain rfl := oI e23
   try dsimp only at h
   obtain rfl := oI h
   exact WQ.retZ G H (by repeat (first | exact List.Sublist.refl _ | apply List.Sublist.cons)) hzz G
  replace hk37 : b35 = true := by simpa using hk37
  subst hk37
  rw [if_pos rfl] at e23
  refine SK (TN ?_)
  obtain ⟨n38, hxn38, e23⟩ := bnd e23
  obtain ⟨s39, hxs39, e23⟩ := bnd e23
  refine RG (ST (XL H Ta9) G ?_)
  refine MV G G (ST (XL H Ta9) G ?_)
  refine ST (q0k Tu9 G) G (ST (q0u G G hxn38) G (ST (Ex.sliceL Tu9 G G hxs39) G (q0b [_] H G G G Ku Ts9 G Kf Kf (q00 G) ?_)))
  intro w H
  refine NL (IB ?_)
  exact AG m28 ⟨_, _, _, _, G, H, gM, gT, hzz, e23⟩ (l0a _)
 rintro e w ⟨s24, s25, Lc, M, rfl, H, gM, gT, hzz, q40⟩
 obtain rfl := oI q40
 try dsimp only at h
 refine TN ?_
 obtain ⟨⟨s41, b42⟩, hx43, h⟩ := bnd h
 try dsimp only at h
 refine RG (MV G G (ST (XL H Ta9) G ?_))
 refine WR.yieldS H (.right (.right (.right (q1P _)))) hY hzz hx43 G G (q00 G) G ?_
 intro w M Lc H hle hzz
 simp only [l05, l06] at H
 replace gM := gM.mono hle
 replace gT := gT.mono hle
 refine NL ?_
 obtain rfl := oI h
 exact WQ.endZ G H (by repeat (first | exact List.Sublist.refl _ | apply List.Sublist.cons)) hzz G
theorem Y3P {p0 : Ls} {p1 : (UInt8 → Option Bool)} {vp1 : Value} {r : Bool} (h : Y2o p0 p1 = some r) : Ct Tryz.prog 68 [S p0, vp1] (fun M => GlF (fun w => ∃ m, w.cell? ⟨2, 0, none⟩ = some (.int .i64 m)) M ∧ Tabs M ∧ FnT90 M vp1 p1) (fun v M => v = Value.bool r) := by
 refine Ct.ofM Tryz.func68 (enters Tryz.func68 Kr G) G G G ?_
 intro w0 M0 H hp
 obtain ⟨gM, gT, hp1⟩ := hp
 unfold Y2o at h
 refine SQ (RG (q1t [_] H G hp1.1.1 (q00 G) G ?_))
 intro bk3 w H
 refine q0g [_] H Tz4 G (q00 G) G ?_
 intro bk4 w H
 refine NL (TN (SQ (SQ (RG (MV G G (q0w (A := []) (B := [.blk bk4 (.cells #[Value.bool false] 4), .blk bk3 (.cells #[vp1] 90)]) H Y3o (q0j _) G trivial (q00 G) G ?_))))))
 intro v7 M w its H hle hR
 replace gM := gM.mono hle
 replace gT := gT.mono hle
 replace hp1 := hp1.mono hle
 obtain ⟨bk7_0, bk7_1, bk7_2, rfl, rfl⟩ := hR
 simp only [l05, l06] at H
 refine NL (TN (BL ?_))
 obtain ⟨o4, e5, h⟩ := bnd h
 refine WC.rangeS (A := [.blk bk7_0 (.cells #[S [46]] 9), .blk bk7_1 (.cells #[S p0] 9), .blk bk7_2 (.cells #[I 0] 3)]) (L := [.blk bk3 (.cells #[vp1] 90), .blk bk4 (.cells #[Value.bool false] 4)]) (B := []) (H.pick (L' := [.blk bk7_0 (.cells #[S [46]] 9), .blk bk7_1 (.cells #[S p0] 9), .blk bk7_2 (.cells #[I 0] 3), .blk bk3 (.cells #[vp1] 90), .blk bk4 (.cells #[Value.bool false] 4)]) Kp) rfl Y33 (.left (.left (.left (.left (.left (q0j _)))))) ⟨gM, gT⟩ rfl (fun s L M => ∃ (b1 : Bool) (tg3 : Nat), s = (b1, tg3) ∧ L = [.blk bk3 (.cells #[vp1] 90), .blk bk4 (.cells #[Value.bool b1] 4)] ∧ GlF (fun w => ∃ m, w.cell? ⟨2, 0, none⟩ = some (.int .i64 m)) M ∧ Tabs M ∧ FnT90 M vp1 p1) (fun s => exE [.ret] s.2) exStop (fun s => exE_stop _ s) (Y1F p1) (false, 0) o4 e5 (by rintro s L M M' ⟨b1, tg3, rfl, rfl, gM, gT, hp1⟩ hle; exact ⟨_, _, rfl, rfl, gM.mono hle, gT.mono hle, hp1.mono hle⟩) rfl ⟨_, _, rfl, rfl, gM, gT, hp1⟩ ?_ ?_ ?_
 ·
  rintro lid2 rc2 hrc2 s x6 sx2 L wb2 Mb2 hE e7 ⟨b1, tg3, rfl, rfl, gM, gT, hp1⟩ H
  unfold Y1F at e7
  try dsimp only at e7
  refine RG (AS G G (NL (WQ.begin hrc2 H Ku ?_)))
  intro w H
  refine BL (SQ ?_)
  obtain ⟨o8, e9, e7⟩ := bnd e7
  refine q0l (fun e w => ∃ (b10 : Bool) (M : Mem), e = [(3, ptr bk3 0), (4, ptr bk4 0), (16, Value.bool b10)] ∧ StX (feet (.blk lid2 (.loop (rc2 .ready none)) :: [.blk bk3 (.cells #[vp1] 90), .blk bk4 (.cells #[Value.bool b1] 4)])) wb2 Mb2 M [.blk bk3 (.cells #[vp1] 90), .blk bk4 (.cells #[Value.bool b1] 4), .blk lid2 (.loop (rc2 .busy none))] w ∧ GlF (fun w => ∃ m, w.cell? ⟨2, 0, none⟩ = some (.int .i64 m)) M ∧ Tabs M ∧ FnT90 M vp1 p1 ∧ some b10 = some o8) [] ?_ ?_ (trivial)
  ·
   by_cases hk11 : x6 = []
   ·
    rw [if_pos hk11] at e9
    refine RG (MV G G (DT hk11 (q0I G G) G (MV G G (q0i 4 G G (PT G G G (NL ?_))))))
    exact MN ⟨_, _, G, (H.pick (L' := [.blk bk3 (.cells #[vp1] 90), .blk bk4 (.cells #[Value.bool b1] 4), .blk lid2 (.loop (rc2 .busy none))]) Kp), gM, gT, hp1, e9⟩
   rw [if_neg hk11] at e9
   obtain ⟨b12, hx13, e9⟩ := bnd e9
   refine RG (MV G G (DF hk11 (q0I G G) G (MV G G (SG (q02 G) G G G (SG (XL H Tryz.isAgg90) G G G ?_)))))
   refine q05 H (Y3Z hx13) G (hp1) (q04 G G G) G ?_
   intro v14 M w H hle hR
   replace gM := gM.mono hle
   replace gT := gT.mono hle
   replace hp1 := hp1.mono hle
   obtain rfl := hR
   refine SG (q0R G) G G G (PF G G G (NL ?_))
   exact MN ⟨_, _, G, (H.pick (L' := [.blk bk3 (.cells #[vp1] 90), .blk bk4 (.cells #[Value.bool b1] 4), .blk lid2 (.loop (rc2 .busy none))]) Kp), gM, gT, hp1, e9⟩
  rintro e w ⟨b10, M, rfl, H, gM, gT, hp1, q14⟩
  obtain rfl := oI q14
  refine TN ?_
  refine q0o G (fun hk15 => ?_) (fun hk15 => ?_)
  ·
   subst hk15
   rw [if_pos rfl] at e7
   refine SQ (RG (q0b [_] H G G G Ku Ts4 G Kf Kf (q00 G) ?_))
   intro w H
   refine NL (TN (RT ?_))
   obtain rfl := oI e7
   exact WQ.rsRet hrc2 (H.pick (L' := [.blk lid2 (.loop (rc2 .busy none)), .blk bk3 (.cells #[vp1] 90), .blk bk4 (.cells #[Value.bool false] 4)]) Kp) G ⟨_, _, G, G, gM, gT, hp1⟩
  subst hk15
  rw [if_neg l07] at e7
  refine SK (IB ?_)
  obtain rfl := oI e7
  exact WQ.rsOn hrc2 (H.pick (L' := [.blk lid2 (.loop (rc2 .busy none)), .blk bk3 (.cells #[vp1] 90), .blk bk4 (.cells #[Value.bool b1] 4)]) Kp) G ⟨_, _, G, G, gM, gT, hp1⟩
 ·
  rintro Dm2 w M L H hle hE ⟨b1, tg3, rfl, rfl, gM, gT, hp1⟩
  simp only [l05, l06, l0j] at H
  try dsimp only at h
  obtain rfl := exE_none hE
  rw [if_pos rfl] at h
  refine IB (TN (SQ (RG (q0b [_] H G G G Ku Ts4 G Kf Kf (q00 G) ?_))))
  intro w H
  refine NL (TN (RT ?_))
  obtain rfl := oI h
  exact WQ.nret1 G H Kv (fun w H => ⟨_, G, H.load1 Km Ta4 Kf⟩) G
 rintro Dm2 w M L c H hle hE ⟨b1, tg3, rfl, rfl, gM, gT, hp1⟩
 simp only [l05, l06, l0j] at H
 try dsimp only at h
 by_cases kt2 : tg3 = 1
 ·
  subst kt2
  obtain rfl := oI hE
  rw [if_neg Dc, if_pos rfl] at h
  refine RT ?_
  obtain rfl := oI h
  exact WQ.nret1 G H Kv (fun w H => ⟨_, G, H.load1 Km Ta4 Kf⟩) G
 have kn2_1 := kt2
 rw [if_neg (exE_ne hE), if_neg kn2_1] at h; cases h
theorem Y3p {p0 : UInt8} {r : Bool} (h : Y1L p0 = some r) : Ct Tryz.prog 70 [encB p0] (fun M => True) (fun v M => v = Value.bool r) := by
 refine Ct.of Tryz.func70 (enters Tryz.func70 Kr G) G G G ?_
 intro w0 M0 H hp
 unfold Y1L at h
 refine SQ (RG (AS G G (NL (TN (SQ ?_)))))
 obtain ⟨o1, e2, h⟩ := bnd h
 refine q0l (fun e w => ∃ (b3 : Bool) (M : Mem), e = [(2, Value.bool b3)] ∧ St w0 M0 M [] w ∧ some b3 = some o1) [] ?_ ?_ (trivial)
 ·
  by_cases hk4 : 97 ≤ p0.toNat
  ·
   rw [if_pos hk4] at e2
   refine RG (MV G G (DT hk4 (q1w (i := p0.toNat) (j := 97) G G) G ?_))
   by_cases hk5 : p0.toNat ≤ 122
   ·
    rw [if_pos hk5] at e2
    refine MV G G (SG (q02 G) G G G (DU hk5 (q1F (i := p0.toNat) (j := 122) G G) G G G (PT G G G (MV G G (q0i 6 G G (PT G G G (MV G G (q0i 6 G G (PT G G G (AS G G (NL ?_)))))))))))
    exact MN ⟨_, _, G, H, e2⟩
   rw [if_neg hk5] at e2
   by_cases hk6 : 65 ≤ p0.toNat
   ·
    rw [if_pos hk6] at e2
    by_cases hk7 : p0.toNat ≤ 90
    ·
     rw [if_pos hk7] at e2
     refine MV G G (SG (q02 G) G G G (DG hk5 (q1F (i := p0.toNat) (j := 122) G G) G G G (PT G G G (MV G G (SG (q02 G) G G G (DU hk6 (q1w (i := p0.toNat) (j := 65) G G) G G G (SG (q02 G) G G G (SG (q02 G) G G G (DU hk7 (q1F (i := p0.toNat) (j := 90) G G) G G G (SG (q0q G G) G G G (PF G G G (MV G G (q0i 6 G G (PT G G G (AS G G (NL ?_))))))))))))))))
     exact MN ⟨_, _, G, H, e2⟩
    rw [if_neg hk7] at e2
    by_cases hk8 : 48 ≤ p0.toNat
    ·
     rw [if_pos hk8] at e2
     refine MV G G (SG (q02 G) G G G (DG hk5 (q1F (i := p0.toNat) (j := 122) G G) G G G (PT G G G (MV G G (SG (q02 G) G G G (DU hk6 (q1w (i := p0.toNat) (j := 65) G G) G G G (SG (q02 G) G G G (SG (q02 G) G G G (DG hk7 (q1F (i := p0.toNat) (j := 90) G G) G G G (SG (q0q G G) G G G (PF G G G (MV G G (SG (q02 G) G G G (DU hk8 (q1w (i := p0.toNat) (j := 48) G G) G G G (SG (q02 G) G G G (SG (q02 G) G G G ?_))))))))))))))))
     refine SG (q1F (i := p0.toNat) (j := 57) G G) G G G (SG (q0q G G) G G G (PF G G G (AS G G (NL ?_))))
     exact MN ⟨_, _, G, H, e2⟩
    rw [if_neg hk8] at e2
    refine MV G G (SG (q02 G) G G G (DG hk5 (q1F (i := p0.toNat) (j := 122) G G) G G G (PT G G G (MV G G (SG (q02 G) G G G (DU hk6 (q1w (i := p0.toNat) (j := 65) G G) G G G (SG (q02 G) G G G (SG (q02 G) G G G (DG hk7 (q1F (i := p0.toNat) (j := 90) G G) G G G (SG (q0q G G) G G G (PF G G G (MV G G (SG (q02 G) G G G (DG hk8 (q1w (i := p0.toNat) (j := 48) G G) G G G (SG (q02 G) G G G (GF G G G ?_))))))))))))))))
    refine GF G G G (SG (q0r G G) G G G (PF G G G (AS G G (NL ?_))))
    exact MN ⟨_, _, G, H, e2⟩
   rw [if_neg hk6] at e2
   by_cases hk9 : 48 ≤ p0.toNat
   ·
    rw [if_pos hk9] at e2
    refine MV G G (SG (q02 G) G G G (DG hk5 (q1F (i := p0.toNat) (j := 122) G G) G G G (PT G G G (MV G G (SG (q02 G) G G G (DG hk6 (q1w (i := p0.toNat) (j := 65) G G) G G G (SG (q02 G) G G G (GF G G G (GF G G G (SG (q0r G G) G G G (PF G G G (MV G G (SG (q02 G) G G G (DU hk9 (q1w (i := p0.toNat) (j := 48) G G) G G G (SG (q02 G) G G G (SG (q02 G) G G G (SG (q1F (i := p0.toNat) (j := 57) G G) G G G (SG (q0q G G) G G G (PF G G G (AS G G (NL ?_)))))))))))))))))))))
    exact MN ⟨_, _, G, H, e2⟩
   rw [if_neg hk9] at e2
   refine MV G G (SG (q02 G) G G G (DG hk5 (q1F (i := p0.toNat) (j := 122) G G) G G G (PT G G G (MV G G (SG (q02 G) G G G (DG hk6 (q1w (i := p0.toNat) (j := 65) G G) G G G (SG (q02 G) G G G (GF G G G (GF G G G (SG (q0r G G) G G G (PF G G G (MV G G (SG (q02 G) G G G (DG hk9 (q1w (i := p0.toNat) (j := 48) G G) G G G (SG (q02 G) G G G (GF G G G (GF G G G (SG (q0r G G) G G G (PF G G G (AS G G (NL ?_)))))))))))))))))))))
   exact MN ⟨_, _, G, H, e2⟩
  rw [if_neg hk4] at e2
  refine RG (MV G G (DF hk4 (q1w (i := p0.toNat) (j := 97) G G) G ?_))
  by_cases hk10 : 65 ≤ p0.toNat
  ·
   rw [if_pos hk10] at e2
   by_cases hk11 : p0.toNat ≤ 90
   ·
    rw [if_pos hk11] at e2
    refine MV G G (GF G G G (GF G G G (PF G G G (MV G G (SG (q02 G) G G G (DU hk10 (q1w (i := p0.toNat) (j := 65) G G) G G G (SG (q02 G) G G G (SG (q02 G) G G G (DU hk11 (q1F (i := p0.toNat) (j := 90) G G) G G G (SG (q0q G G) G G G (PF G G G (MV G G (q0i 6 G G (PT G G G (AS G G (NL ?_))))))))))))))))
    exact MN ⟨_, _, G, H, e2⟩
   rw [if_neg hk11] at e2
   by_cases hk12 : 48 ≤ p0.toNat
   ·
    rw [if_pos hk12] at e2
    refine MV G G (GF G G G (GF G G G (PF G G G (MV G G (SG (q02 G) G G G (DU hk10 (q1w (i := p0.toNat) (j := 65) G G) G G G (SG (q02 G) G G G (SG (q02 G) G G G (DG hk11 (q1F (i := p0.toNat) (j := 90) G G) G G G (SG (q0q G G) G G G (PF G G G (MV G G (SG (q02 G) G G G (DU hk12 (q1w (i := p0.toNat) (j := 48) G G) G G G (SG (q02 G) G G G (SG (q02 G) G G G (SG (q1F (i := p0.toNat) (j := 57) G G) G G G (SG (q0q G G) G G G (PF G G G (AS G G (NL ?_)))))))))))))))))))))
    exact MN ⟨_, _, G, H, e2⟩
   rw [if_neg hk12] at e2
   refine MV G G (GF G G G (GF G G G (PF G G G (MV G G (SG (q02 G) G G G (DU hk10 (q1w (i := p0.toNat) (j := 65) G G) G G G (SG (q02 G) G G G (SG (q02 G) G G G (DG hk11 (q1F (i := p0.toNat) (j := 90) G G) G G G (SG (q0q G G) G G G (PF G G G (MV G G (SG (q02 G) G G G (DG hk12 (q1w (i := p0.toNat) (j := 48) G G) G G G (SG (q02 G) G G G (GF G G G (GF G G G (SG (q0r G G) G G G (PF G G G (AS G G (NL ?_)))))))))))))))))))))
   exact MN ⟨_, _, G, H, e2⟩
  rw [if_neg hk10] at e2
  by_cases hk13 : 48 ≤ p0.toNat
  ·
   rw [if_pos hk13] at e2
   refine MV G G (GF G G G (GF G G G (PF G G G (MV G G (SG (q02 G) G G G (DG hk10 (q1w (i := p0.toNat) (j := 65) G G) G G G (SG (q02 G) G G G (GF G G G (GF G G G (SG (q0r G G) G G G (PF G G G (MV G G (SG (q02 G) G G G (DU hk13 (q1w (i := p0.toNat) (j := 48) G G) G G G (SG (q02 G) G G G (SG (q02 G) G G G (SG (q1F (i := p0.toNat) (j := 57) G G) G G G (SG (q0q G G) G G G (PF G G G (AS G G (NL ?_)))))))))))))))))))))
   exact MN ⟨_, _, G, H, e2⟩
  rw [if_neg hk13] at e2
  refine MV G G (GF G G G (GF G G G (PF G G G (MV G G (SG (q02 G) G G G (DG hk10 (q1w (i := p0.toNat) (j := 65) G G) G G G (SG (q02 G) G G G (GF G G G (GF G G G (SG (q0r G G) G G G (PF G G G (MV G G (SG (q02 G) G G G (DG hk13 (q1w (i := p0.toNat) (j := 48) G G) G G G (SG (q02 G) G G G (GF G G G (GF G G G (SG (q0r G G) G G G (PF G G G (AS G G (NL ?_)))))))))))))))))))))
  exact MN ⟨_, _, G, H, e2⟩
 rintro e w ⟨b3, M, rfl, H, q14⟩
 obtain rfl := oI q14
 refine TN (RT ?_)
 obtain rfl := oI h
 exact q07 G G H.ext G
theorem Y4f {p0 : UInt8} {r : Bool} (h : Y27 p0 = some r) : Ct Tryz.prog 69 [encB p0] (fun M => True) (fun v M => v = Value.bool r) := by
 refine Ct.of Tryz.func69 (enters Tryz.func69 Kr G) G G G ?_
 intro w0 M0 H hp
 unfold Y27 at h
 refine SQ (RG (AS G G (NL (TN (SQ ?_)))))
 obtain ⟨o1, e2, h⟩ := bnd h
 refine q0l (fun e w => ∃ (b3 : Bool) (M : Mem), e = [(2, Value.bool b3)] ∧ St w0 M0 M [] w ∧ some b3 = some o1) [] ?_ ?_ (trivial)
 ·
  obtain ⟨b4, hx5, e2⟩ := bnd e2
  refine RG (MV G G (q05 H (Y3p hx5) G trivial (q00 G) G ?_))
  intro v4 M w H hle hR
  obtain rfl := hR
  refine MV G G ?_
  rcases b4 with _ | _
  ·
   rw [if_neg l07] at e2
   refine SG (q02 G) G G G (SG (q1A (c := p0) (d := 45) G G) G G G (PF G G G (AS G G (NL ?_))))
   exact MN ⟨_, _, G, H, e2⟩
  rw [if_pos rfl] at e2
  refine GT G G G (GT G G G (PT G G G (AS G G (NL ?_))))
  exact MN ⟨_, _, G, H, e2⟩
 rintro e w ⟨b3, M, rfl, H, q6⟩
 obtain rfl := oI q6
 refine TN (RT ?_)
 obtain rfl := oI h
 exact q07 G G H.ext G
theorem Y3F {p0 : Ls} {r : Bool} (h : Y2b p0 = some r) : Ct Tryz.prog 32 [S p0] (fun M => GlF (fun w => ∃ m, w.cell? ⟨2, 0, none⟩ = some (.int .i64 m)) M ∧ Tabs M) (fun v M => v = Value.bool r) := by
 refine Ct.of Tryz.func32 (enters Tryz.func32 Kr G) G G G ?_
 intro w0 M0 H hp
 obtain ⟨gM, gT⟩ := hp
 unfold Y2b at h
 refine SQ (RG (AS G G (NL (TN (SQ ?_)))))
 obtain ⟨o1, e2, h⟩ := bnd h
 refine q0l (fun e w => ∃ (b3 : Bool) (M : Mem), e = [(2, Value.bool b3)] ∧ St w0 M0 M [] w ∧ GlF (fun w => ∃ m, w.cell? ⟨2, 0, none⟩ = some (.int .i64 m)) M ∧ Tabs M ∧ some b3 = some o1) [] ?_ ?_ (trivial)
 ·
  refine RG (MV G G (ST (q0k Tu9 G) G ?_))
  by_cases hk4 : (p0.length : Int) ≤ (60 : Int)
  ·
   rw [if_pos hk4] at e2
   obtain ⟨b5, hx6, e2⟩ := bnd e2
   refine DT hk4 (q1G G G) G (MV G G (SG (q02 G) G G G (q05 H (Y3P hx6) G ⟨gM, gT, (⟨⟨G, G⟩, (fun _ _ h => FnV.of (Y4f h) (fun _ _ => trivial))⟩ : FnT90 _ _ _)⟩ (q04 G G G) G ?_)))
   intro v8 M w H hle hR
   replace gM := gM.mono hle
   replace gT := gT.mono hle
   obtain rfl := hR
   refine PT G G G (AS G G (NL ?_))
   exact MN ⟨_, _, G, H, gM, gT, e2⟩
  rw [if_neg hk4] at e2
  refine DF hk4 (q1G G G) G (MV G G (GF G G G (GF G G G (PF G G G (AS G G (NL ?_))))))
  exact MN ⟨_, _, G, H, gM, gT, e2⟩
 rintro e w ⟨b3, M, rfl, H, gM, gT, q7⟩
 obtain rfl := oI q7
 refine TN (RT ?_)
 obtain rfl := oI h
 exact q07 G G H.ext G
theorem Y0P  {r : (Int × Int)} (h : Y0F = some r) : Ct Tryz.prog 33 [] (fun M => True) (fun v M => v = Value.agg #[I r.1, I r.2]) := by
 refine Ct.of Tryz.func33 (enters Tryz.func33 Kr G) G G G ?_
 intro w0 M0 H hp
 unfold Y0F at h
 refine SQ (RG (q0g [_, _] H Tz27 G (q00 G) G ?_))
 intro bk0 w H
 refine NL (TN (SQ (RG (ST (q0L [I 0, I 0] Tu27 Tz27 (xplaces27 Tu27) G G) G (q0b [_, _] H G G G Ku Ts27 G Kf Kf (q00 G) ?_)))))
 intro w H
 refine NL (TN (RT ?_))
 obtain rfl := oI h
 exact q07 G ⟨_, G, H.loadAgg Km Ta27 Ts27 Kf⟩ H.ext G
theorem Y1c {p0 : (Ls × Ls × Ls)} {r : (Int × Int)} (h : Y1q p0 = some r) : Ct Tryz.prog 10 [Value.agg #[S p0.1, S p0.2.1, S p0.2.2]] (fun M => GlF (fun w => ∃ m, w.cell? ⟨2, 0, none⟩ = some (.int .i64 m)) M ∧ Tabs M) (fun v M => v = Value.agg #[I r.1, I r.2]) := by
 refine Ct.of Tryz.func10 (enters Tryz.func10 Kr G) G G G ?_
 intro w0 M0 H hp
 obtain ⟨gM, gT⟩ := hp
 unfold Y1q at h
 refine SQ (RG (q1t [_, _, _] H G G (q00 G) G ?_))
 intro bk1 w H
 refine q0g [_, _] H Tz27 G (q00 G) G ?_
 intro bk2 w H
 refine NL (TN (SQ (SQ ?_)))
 obtain ⟨n1, hx2, h⟩ := bnd h
 refine RG (ST (q03 Tu24 G Ts9 Dc G) G (ST (XL H Ta9) G ?_))
 refine q05 H (Y3t hx2) G (gT) (q00 G) G ?_
 intro v6 M w H hle hR
 replace gM := gM.mono hle
 replace gT := gT.mono hle
 obtain rfl := hR
 refine AS G G (NL (TN (SQ (RG (MV G G (ST (q1v G G) G (NL (TN ?_))))))))
 refine q0o G (fun hk3 => ?_) (fun hk3 => ?_)
 ·
  replace hk3 : ¬ (n1 = (0 : Int)) := of_not_decide hk3
  rw [if_neg hk3] at h
  refine SQ ?_
  obtain ⟨⟨n4, n5⟩, hx6, h⟩ := bnd h
  try dsimp only at h
  refine RG (MV G G (q05 H (Y0E hx6) G trivial (q00 G) G ?_))
  intro v10 M w H hle hR
  replace gM := gM.mono hle
  replace gT := gT.mono hle
  try dsimp only at hR
  obtain rfl := hR
  refine q0b [_, _] H G G G Ku Ts27 G Kf Kf (q00 G) ?_
  intro w H
  refine NL (TN (RT ?_))
  obtain rfl := oI h
  exact q07 G ⟨_, G, H.loadAgg Km Ta27 Ts27 Kf⟩ H.ext G
 replace hk3 : n1 = (0 : Int) := of_not_decide' hk3
 rw [if_pos hk3] at h
 refine SK (TN (SQ (SQ ?_)))
 obtain ⟨b7, hx8, h⟩ := bnd h
 refine RG (ST (q03 Tu24 G Ts9 Dc G) G (ST (XL H Ta9) G ?_))
 refine q05 H (Y2y hx8) G trivial (q00 G) G ?_
 intro v13 M w H hle hR
 replace gM := gM.mono hle
 replace gT := gT.mono hle
 obtain rfl := hR
 refine ST (q0R G) G (NL (TN ?_))
 refine q0o G (fun hk9 => ?_) (fun hk9 => ?_)
 ·
  replace hk9 : b7 = false := by simpa using hk9
  subst hk9
  rw [if_neg l07] at h
  refine SQ ?_
  obtain ⟨⟨n10, n11⟩, hx12, h⟩ := bnd h
  try dsimp only at h
  refine RG (q05 H (Y0E hx12) G trivial (q00 G) G ?_)
  intro v15 M w H hle hR
  replace gM := gM.mono hle
  replace gT := gT.mono hle
  try dsimp only at hR
  obtain rfl := hR
  refine q0b [_, _] H G G G Ku Ts27 G Kf Kf (q00 G) ?_
  intro w H
  refine NL (TN (RT ?_))
  obtain rfl := oI h
  exact q07 G ⟨_, G, H.loadAgg Km Ta27 Ts27 Kf⟩ H.ext G
 replace hk9 : b7 = true := by simpa using hk9
 subst hk9
 rw [if_pos rfl] at h
 refine SK (TN (SQ (SQ ?_)))
 obtain ⟨b13, hx14, h⟩ := bnd h
 refine RG (ST (q03 Tu24 G Ts9 Dc G) G (ST (XL H Ta9) G ?_))
 refine q05 H (Y3F hx14) G ⟨gM, gT⟩ (q00 G) G ?_
 intro v18 M w H hle hR
 replace gM := gM.mono hle
 replace gT := gT.mono hle
 obtain rfl := hR
 refine ST (q0R G) G (NL (TN ?_))
 refine q0o G (fun hk15 => ?_) (fun hk15 => ?_)
 ·
  replace hk15 : b13 = false := by simpa using hk15
  subst hk15
  rw [if_neg l07] at h
  refine SQ ?_
  obtain ⟨⟨n16, n17⟩, hx18, h⟩ := bnd h
  try dsimp only at h
  refine RG (q05 H (Y0E hx18) G trivial (q00 G) G ?_)
  intro v20 M w H hle hR
  replace gM := gM.mono hle
  replace gT := gT.mono hle
  try dsimp only at hR
  obtain rfl := hR
  refine q0b [_, _] H G G G Ku Ts27 G Kf Kf (q00 G) ?_
  intro w H
  refine NL (TN (RT ?_))
  obtain rfl := oI h
  exact q07 G ⟨_, G, H.loadAgg Km Ta27 Ts27 Kf⟩ H.ext G
 replace hk15 : b13 = true := by simpa using hk15
 subst hk15
 rw [if_pos rfl] at h
 refine SK (TN (SQ ?_))
 obtain ⟨⟨n19, n20⟩, hx21, h⟩ := bnd h
 try dsimp only at h
 refine RG (q05 H (Y0P hx21) G trivial (q00 G) G ?_)
 intro v21 M w H hle hR
 replace gM := gM.mono hle
 replace gT := gT.mono hle
 try dsimp only at hR
 obtain rfl := hR
 refine q0b [_, _] H G G G Ku Ts27 G Kf Kf (q00 G) ?_
 intro w H
 refine NL (TN (RT ?_))
 obtain rfl := oI h
 exact q07 G ⟨_, G, H.loadAgg Km Ta27 Ts27 Kf⟩ H.ext G
theorem Y2k {p0 : (Int × Int)} {r : Bool} (h : Y1x p0 = some r) : Ct Tryz.prog 38 [Value.agg #[I p0.1, I p0.2]] (fun M => True) (fun v M => v = Value.bool r) := by
 refine Ct.of Tryz.func38 (enters Tryz.func38 Kr G) G G G ?_
 intro w0 M0 H hp
 unfold Y1x at h
 refine SQ (RG (q1t [_, _] H G G (q00 G) G ?_))
 intro bk1 w H
 refine AS G G (NL (TN (SQ (RG (ST (q03 Tu27 G Ts3 Dc G) G (ST (XL H Ta3) G ?_))))))
 refine ST (q1v G G) G (AS G G (NL (TN (RT ?_))))
 obtain rfl := oI h
 exact q07 G G H.ext G
theorem Y4B {p0 : (Ls × Bool × List (Ls × Ls × Ls))} {vp0_2 : Value} {r : Int} (h : Y32 p0 = some r) : Ct Tryz.prog 37 [Value.agg #[S p0.1, Value.bool p0.2.1, vp0_2]] (fun M => GlF (fun w => ∃ m, w.cell? ⟨2, 0, none⟩ = some (.int .i64 m)) M ∧ Tabs M ∧ SlS M 3 xenc24 vp0_2 p0.2.2) (fun v M => v = I r) := by
 refine Ct.of Tryz.func37 (enters Tryz.func37 Kr G) G G G ?_
 intro w0 M0 H hp
 obtain ⟨gM, gT, hp0_2⟩ := hp
 unfold Y32 at h
 refine SQ (RG (q1t [_, _, _] H G G (q00 G) G ?_))
 intro bk1 w H
 refine AS G G (NL (TN (SQ (SQ ?_))))
 obtain ⟨n1, hx2, h⟩ := bnd h
 refine RG (ST (q03 Tu34 G Ts9 Dc G) G (ST (XL H Ta9) G ?_))
 refine q05 H (Y3t hx2) G (gT) (q00 G) G ?_
 intro v9 M w H hle hR
 replace gM := gM.mono hle
 replace gT := gT.mono hle
 replace hp0_2 := hp0_2.mono hle
 obtain rfl := hR
 refine AS G G (NL (TN (SQ (RG (MV G G (ST (q1v G G) G (NL (TN ?_))))))))
 refine q0o G (fun hk3 => ?_) (fun hk3 => ?_)
 ·
  replace hk3 : ¬ (n1 = (0 : Int)) := of_not_decide hk3
  rw [if_neg hk3] at h
  refine SQ (RG (MV G G (AS G G (NL (TN (RT ?_))))))
  obtain rfl := oI h
  exact q07 G G H.ext G
 replace hk3 : n1 = (0 : Int) := of_not_decide' hk3
 rw [if_pos hk3] at h
 refine SK (TN (SQ (SQ ?_)))
 obtain ⟨o4, e5, h⟩ := bnd h
 refine q0l (fun e w => ∃ (b6 : Bool) (M : Mem), e = [(1, ptr bk1 0), (29, Value.bool b6)] ∧ St w0 M0 M [.blk bk1 (.cells #[S p0.1, Value.bool p0.2.1, vp0_2] 34)] w ∧ GlF (fun w => ∃ m, w.cell? ⟨2, 0, none⟩ = some (.int .i64 m)) M ∧ Tabs M ∧ SlS M 3 xenc24 vp0_2 p0.2.2 ∧ some b6 = some o4) [] ?_ ?_ (trivial)
 ·
  by_cases hk7 : p0.2.1 = (!decide (p0.1 = []))
  ·
   rw [if_pos hk7] at e5
   by_cases hk8 : p0.2.1 = true
   ·
    rw [if_pos hk8] at e5
    refine RG (ST (q03 Tu34 G Ts4 Dc G) G (ST (XL H Ta4) G ?_))
    refine ST (q03 Tu34 G Ts9 Dc G) G (ST (XL H Ta9) G ?_)
    refine ST (q1u G G) G (q09 (v' := .bool false) (Ex.neqBo Tu4 G G) (congrArg Value.bool (by rw [decide_eq_true hk7]; rfl)) (q00 G) G G ?_)
    refine MV G G (SG (q03 Tu34 G Ts4 Dc G) G G G (SG (XL H Ta4) G G G ?_))
    refine q09 (v' := .bool false) (q0R G) (congrArg Value.bool (by rw [hk8]; rfl)) (q04 G G G) G G ?_
    refine SG (q02 G) G G G (q0i 4 G G (SG (q0r G G) G G G (PF G G G (NL ?_))))
    exact MN ⟨_, _, G, H, gM, gT, hp0_2, e5⟩
   rw [if_neg hk8] at e5
   refine RG (ST (q03 Tu34 G Ts4 Dc G) G (ST (XL H Ta4) G ?_))
   refine ST (q03 Tu34 G Ts9 Dc G) G (ST (XL H Ta9) G ?_)
   refine ST (q1u G G) G (q09 (v' := .bool false) (Ex.neqBo Tu4 G G) (congrArg Value.bool (by rw [decide_eq_true hk7]; rfl)) (q00 G) G G ?_)
   refine MV G G (SG (q03 Tu34 G Ts4 Dc G) G G G (SG (XL H Ta4) G G G ?_))
   refine q09 (v' := .bool true) (q0R G) (congrArg Value.bool (by rw [(l1e hk8)]; rfl)) (q04 G G G) G G ?_
   refine SG (q02 G) G G G (SG (q03 Tu34 G Ts30 Dc G) G G G (SG (XL H Ta30) G G G ?_))
   refine SG (q1k Tu30 hp0_2 G) G G G (SG (q1v G G) G G G (SG (q0q G G) G G G (PF G G G (NL ?_))))
   exact MN ⟨_, _, G, H, gM, gT, hp0_2, e5⟩
  rw [if_neg hk7] at e5
  refine RG (ST (q03 Tu34 G Ts4 Dc G) G (ST (XL H Ta4) G ?_))
  refine ST (q03 Tu34 G Ts9 Dc G) G (ST (XL H Ta9) G ?_)
  refine ST (q1u G G) G (q09 (v' := .bool true) (Ex.neqBo Tu4 G G) (congrArg Value.bool (by rw [decide_eq_false hk7]; rfl)) (q00 G) G G ?_)
  refine MV G G (q0i 9 G G (PT G G G (NL ?_)))
  exact MN ⟨_, _, G, H, gM, gT, hp0_2, e5⟩
 rintro e w ⟨b6, M, rfl, H, gM, gT, hp0_2, q9⟩
 obtain rfl := oI q9
 refine TN ?_
 refine q0o G (fun hk10 => ?_) (fun hk10 => ?_)
 ·
  subst hk10
  rw [if_pos rfl] at h
  refine SQ (RG (AS G G (NL (TN (RT ?_)))))
  obtain rfl := oI h
  exact q07 G G H.ext G
 subst hk10
 rw [if_neg l07] at h
 refine SK (TN (SQ (SQ (RG (ST (q03 Tu34 G Ts30 Dc G) G (ST (XL H Ta30) G ?_))))))
 refine ST (q1k Tu30 hp0_2 G) G (MV G G (NL (TN ?_)))
 obtain ⟨o11, e12, h⟩ := bnd h
 refine q0l (fun e w => ∃  (M : Mem), e = [] ∧ St w0 M0 M [] w ∧ GlF (fun w => ∃ m, w.cell? ⟨2, 0, none⟩ = some (.int .i64 m)) M ∧ Tabs M ∧ some (.inl ()) = some o11) [] ?_ ?_ (trivial)
 ·
  refine BL ?_
  refine q0J (fun m e w => ∃ (n13 : Int) (M : Mem), e = [(31, vp0_2), (32, I (p0.2.2.length : Int)), (33, I n13)] ∧ St w0 M0 M [] w ∧ GlF (fun w => ∃ m, w.cell? ⟨2, 0, none⟩ = some (.int .i64 m)) M ∧ Tabs M ∧ SlS M 3 xenc24 vp0_2 p0.2.2 ∧ Y0Z p0 m n13 = some o11) FU [(31, _), (32, _), (33, _)] ⟨rfl, rfl, rfl, trivial⟩ ⟨_, _, rfl, (H.pick (L' := []) Kp), gM, gT, hp0_2, e12⟩ ?_
  rintro m14 e w ⟨n13, M, rfl, H, gM, gT, hp0_2, e12⟩
  rcases m14 with _ | m14
  · rw [Y0Z] at e12; cases e12
  rw [Y0Z] at e12
  refine SQ (RG (ST (q0n G G) G (NL (TN (SQ ?_)))))
  refine CB (p := n13 < (p0.2.2.length : Int)) G (fun hk15 => ?_) fun hk15 => ?_
  ·
   rw [if_pos hk15] at e12
   refine SK (TN (SQ (BL (SQ ?_))))
   obtain ⟨a16, hxa16, e12⟩ := bnd e12
   obtain ⟨bk35, o35, ha35, hc35⟩ := hp0_2.atC hxa16
   refine RG (ST (q0t ha35 Tu30 Ts24 G G) G (ST (q1e H G hc35 Ta24 Ts24 Kf) G ?_))
   refine q0g [_, _, _] H Tz24 G (q00 G) G ?_
   intro bk5 w H
   refine q0b [_, _, _] H G G G Ku Ts24 G Kf Kf (q00 G) ?_
   intro w H
   refine NL (TN (SQ ?_))
   obtain ⟨⟨n17, n18⟩, hx19, e12⟩ := bnd e12
   try dsimp only at e12
   refine RG (ST (q0v H G Km Ta24 Ts24 Kf) G ?_)
   refine q05 H (Y1c hx19) G ⟨gM, gT⟩ (q00 G) G ?_
   intro v38 M w H hle hR
   replace gM := gM.mono hle
   replace gT := gT.mono hle
   replace hp0_2 := hp0_2.mono hle
   replace hc35 := hc35.mono hle
   try dsimp only at hR
   obtain rfl := hR
   refine q0g [_, _] H Tz27 G (q00 G) G ?_
   intro bk6 w H
   refine q0b [_, _] H G G G Ku Ts27 G Kf Kf (q00 G) ?_
   intro w H
   refine NL (TN (SQ ?_))
   obtain ⟨b20, hx21, e12⟩ := bnd e12
   refine RG (ST (q0v H G Km Ta27 Ts27 Kf) G ?_)
   refine q05 H (Y2k hx21) G trivial (q00 G) G ?_
   intro v40 M w H hle hR
   replace gM := gM.mono hle
   replace gT := gT.mono hle
   replace hp0_2 := hp0_2.mono hle
   replace hc35 := hc35.mono hle
   obtain rfl := hR
   refine NL (TN ?_)
   refine q0o G (fun hk22 => ?_) (fun hk22 => ?_)
   ·
    subst hk22
    rw [if_pos rfl] at e12
    refine SQ (RG (ST (q03 Tu27 G Ts3 Dc G) G (ST (XL H Ta3) G ?_)))
    refine AS G G (NL (TN (RT ?_)))
    obtain rfl := oI e12
    try dsimp only at h
    obtain rfl := oI h
    exact q07 G G H.ext G
   subst hk22
   rw [if_neg l07] at e12
   refine SK (IB (TN ?_))
   obtain ⟨n23, hxn23, e12⟩ := bnd e12
   refine RG (ST (q0u G G hxn23) G (MV G G (NL ?_)))
   exact AG m14 ⟨_, _, G, (H.pick (L' := []) Kp), gM, gT, hp0_2, e12⟩ (l0a _)
  rw [if_neg hk15] at e12
  refine q0m (q06 (q06 (q0f ?_)))
  exact MN ⟨_, G, H, gM, gT, e12⟩
 rintro e w ⟨M, rfl, H, gM, gT, q24⟩
 obtain rfl := oI q24
 try dsimp only at h
 refine TN (SQ (RG (AS G G (NL (TN (RT ?_))))))
 obtain rfl := oI h
 exact q07 G G H.ext G
end Go.Proofs.YtkmjdamkifbddaaGreatDoor
end
section
namespace Go.Proofs.YtkmjdamkifbddaaGreatDoor
open Go Go.RowKit Go.Ph Go.Ph.Pl Go.Ph.Pf
theorem Y28 {p0 : List (Ls × Bool × List (Ls × Ls × Ls))} {vp0 : Value} {r : (Int × Int)} (h : Y1P p0 = some r) : Ct Tryz.prog 12 [vp0] (fun M => GlF (fun w => ∃ m, w.cell? ⟨2, 0, none⟩ = some (.int .i64 m)) M ∧ Tabs M ∧ SlR xrl34 M vp0 p0) (fun v M => v = Value.agg #[I r.1, I r.2]) := by
 refine Ct.of Tryz.func12 (enters Tryz.func12 Kr G) G G G ?_
 intro w0 M0 H hp
 obtain ⟨gM, gT, hp0⟩ := hp
 unfold Y1P at h
 refine SQ (RG (q0g [_, _] H Tz27 G (q00 G) G ?_))
 intro bk2 w H
 refine NL (TN (SQ (RG (AS G G (NL (TN (SQ (SQ (RG (MV G G (ST (q1q Tu22 hp0 G) G (MV G G (NL (TN ?_))))))))))))))
 obtain ⟨o1, e2, h⟩ := bnd h
 refine q0l (fun e w => ∃ (n3 : Int) (M : Mem), e = [(0, vp0), (2, ptr bk2 0), (3, I n3)] ∧ St w0 M0 M [.blk bk2 (.cells #[I 0, I 0] 27)] w ∧ GlF (fun w => ∃ m, w.cell? ⟨2, 0, none⟩ = some (.int .i64 m)) M ∧ Tabs M ∧ SlR xrl34 M vp0 p0 ∧ some n3 = some o1) [] ?_ ?_ (trivial)
 ·
  refine BL (q0J (fun m e w => ∃ (n4 : Int) (n5 : Int) (M : Mem), e = [(0, vp0), (2, ptr bk2 0), (3, I n4), (9, vp0), (10, I (p0.length : Int)), (11, I n5)] ∧ St w0 M0 M [.blk bk2 (.cells #[I 0, I 0] 27)] w ∧ GlF (fun w => ∃ m, w.cell? ⟨2, 0, none⟩ = some (.int .i64 m)) M ∧ Tabs M ∧ SlR xrl34 M vp0 p0 ∧ Y0M p0 m n4 n5 = some o1) FU [(0, _), (2, _), (3, _), (9, _), (10, _), (11, _)] ⟨rfl, rfl, rfl, rfl, rfl, rfl, trivial⟩ ⟨_, _, _, rfl, H, gM, gT, hp0, e2⟩ ?_)
  rintro m6 e w ⟨n4, n5, M, rfl, H, gM, gT, hp0, e2⟩
  rcases m6 with _ | m6
  · rw [Y0M] at e2; cases e2
  rw [Y0M] at e2
  refine SQ (RG (ST (q0n G G) G (NL (TN (SQ ?_)))))
  refine CB (p := n5 < (p0.length : Int)) G (fun hk7 => ?_) fun hk7 => ?_
  ·
   rw [if_pos hk7] at e2
   refine SK (TN (SQ (BL (SQ ?_))))
   obtain ⟨a8, hxa8, e2⟩ := bnd e2
   obtain ⟨bk13, o13, fq13, ha13, hc13, hr13⟩ := hp0.atC hxa8
   obtain ⟨f13_0, f13_1, q13_2⟩ := fq13
   replace hr13 : f13_0 = a8.1 ∧ f13_1 = a8.2.1 ∧ SlS M 3 xenc24 (hv q13_2) a8.2.2 := hr13
   obtain ⟨rfl, rfl, hs13_2⟩ := hr13
   refine RG (ST (q0t ha13 Tu22 Ts34 G G) G (ST (q1e H G hc13 Ta34 Ts34 Kf) G ?_))
   refine q0g [_, _, _] H Tz34 G (q00 G) G ?_
   intro bk5 w H
   refine q0b [_, _, _] H G G G Ku Ts34 G Kf (by simp only [l0A, l1W, (hs13_2).one.2]; rfl) (q00 G) ?_
   intro w H
   refine NL (TN (RG (MV G G (ST (q03 Tu34 G Ts30 Dc G) G (ST (XL H Ta30) G ?_)))))
   refine ST (q1k Tu30 hs13_2 G) G (ST (Ex.add G G) G (AS G G (NL (IB (TN ?_)))))
   obtain ⟨n9, hxn9, e2⟩ := bnd e2
   refine RG (ST (q0u G G hxn9) G (MV G G (NL ?_)))
   exact AG m6 ⟨_, _, _, G, (H.pick (L' := [.blk bk2 (.cells #[I 0, I 0] 27)]) Kp), gM, gT, hp0, e2⟩ (l0a _)
  rw [if_neg hk7] at e2
  refine q0m (q06 (q06 (q0f ?_)))
  exact MN ⟨_, _, G, H, gM, gT, hp0, e2⟩
 rintro e w ⟨n3, M, rfl, H, gM, gT, hp0, q10⟩
 obtain rfl := oI q10
 refine TN (SQ (SQ ?_))
 obtain ⟨o11, e12, h⟩ := bnd h
 refine q0l (fun e w => ∃ (b13 : Bool) (M : Mem), e = [(0, vp0), (2, ptr bk2 0), (27, Value.bool b13)] ∧ St w0 M0 M [.blk bk2 (.cells #[I 0, I 0] 27)] w ∧ GlF (fun w => ∃ m, w.cell? ⟨2, 0, none⟩ = some (.int .i64 m)) M ∧ Tabs M ∧ SlR xrl34 M vp0 p0 ∧ some b13 = some o11) [] ?_ ?_ (trivial)
 ·
  refine RG (MV G G (ST (q1q Tu22 hp0 G) G ?_))
  by_cases hk14 : (60 : Int) < (p0.length : Int)
  ·
   rw [if_pos hk14] at e12
   refine DT hk14 (q0K G G) G (MV G G (GT G G G (GT G G G (PT G G G (NL ?_)))))
   exact MN ⟨_, _, G, H, gM, gT, hp0, e12⟩
  rw [if_neg hk14] at e12
  refine DF hk14 (q0K G G) G (MV G G (SG (q02 G) G G G (SG (q0K G G) G G G (PF G G G (NL ?_)))))
  exact MN ⟨_, _, G, H, gM, gT, hp0, e12⟩
 rintro e w ⟨b13, M, rfl, H, gM, gT, hp0, q15⟩
 obtain rfl := oI q15
 refine TN ?_
 refine q0o G (fun hk16 => ?_) (fun hk16 => ?_)
 ·
  subst hk16
  rw [if_pos rfl] at h
  refine SQ ?_
  obtain ⟨⟨n17, n18⟩, hx19, h⟩ := bnd h
  try dsimp only at h
  refine RG (q05 H (Y0E hx19) G trivial (q00 G) G ?_)
  intro v28 M w H hle hR
  replace gM := gM.mono hle
  replace gT := gT.mono hle
  replace hp0 := hp0.mono hle
  try dsimp only at hR
  obtain rfl := hR
  refine q0b [_, _] H G G G Ku Ts27 G Kf Kf (q00 G) ?_
  intro w H
  refine NL (TN (RT ?_))
  obtain rfl := oI h
  exact q07 G ⟨_, G, H.loadAgg Km Ta27 Ts27 Kf⟩ H.ext G
 subst hk16
 rw [if_neg l07] at h
 refine SK (TN (SQ (SQ (RG (MV G G (ST (q1q Tu22 hp0 G) G (MV G G (NL (TN ?_)))))))))
 obtain ⟨o20, e21, h⟩ := bnd h
 refine q0l (fun e w => ∃ (n22 : Int) (n23 : Int) (M : Mem), e = [(2, ptr bk2 0)] ∧ St w0 M0 M [.blk bk2 (.cells #[I n22, I n23] 27)] w ∧ GlF (fun w => ∃ m, w.cell? ⟨2, 0, none⟩ = some (.int .i64 m)) M ∧ Tabs M ∧ some (.inl (n22, n23)) = some o20) [] ?_ ?_ (trivial)
 ·
  refine BL (q0J (fun m e w => ∃ (n24 : Int) (n25 : Int) (n26 : Int) (M : Mem), e = [(2, ptr bk2 0), (29, vp0), (30, I (p0.length : Int)), (31, I n26)] ∧ St w0 M0 M [.blk bk2 (.cells #[I n24, I n25] 27)] w ∧ GlF (fun w => ∃ m, w.cell? ⟨2, 0, none⟩ = some (.int .i64 m)) M ∧ Tabs M ∧ SlR xrl34 M vp0 p0 ∧ Y0N p0 m n24 n25 n26 = some o20) FU [(2, _), (29, _), (30, _), (31, _)] ⟨rfl, rfl, rfl, rfl, trivial⟩ ⟨_, _, _, _, rfl, H, gM, gT, hp0, e21⟩ ?_)
  rintro m27 e w ⟨n24, n25, n26, M, rfl, H, gM, gT, hp0, e21⟩
  rcases m27 with _ | m27
  · rw [Y0N] at e21; cases e21
  rw [Y0N] at e21
  refine SQ (RG (ST (q0n G G) G (NL (TN (SQ ?_)))))
  refine CB (p := n26 < (p0.length : Int)) G (fun hk28 => ?_) fun hk28 => ?_
  ·
   rw [if_pos hk28] at e21
   refine SK (TN (SQ (BL (SQ ?_))))
   obtain ⟨a29, hxa29, e21⟩ := bnd e21
   obtain ⟨bk34, o34, fq34, ha34, hc34, hr34⟩ := hp0.atC hxa29
   obtain ⟨f34_0, f34_1, q34_2⟩ := fq34
   replace hr34 : f34_0 = a29.1 ∧ f34_1 = a29.2.1 ∧ SlS M 3 xenc24 (hv q34_2) a29.2.2 := hr34
   obtain ⟨rfl, rfl, hs34_2⟩ := hr34
   refine RG (MV G G (ST (q0t ha34 Tu22 Ts34 G G) G (ST (q1e H G hc34 Ta34 Ts34 Kf) G ?_)))
   refine q0g [_, _, _] H Tz34 G (q00 G) G ?_
   intro bk7 w H
   refine AS G G (q0b [_, _, _] H G G G Ku Ts34 G Kf (by simp only [l0A, l1W, (hs34_2).one.2]; rfl) (q00 G) ?_)
   intro w H
   refine NL (TN (SQ ?_))
   obtain ⟨n30, hx31, e21⟩ := bnd e21
   refine RG (ST (q0v H G Km Ta34 Ts34 Kf) G ?_)
   refine q05 H (Y4B hx31) G ⟨gM, gT, hs34_2⟩ (q00 G) G ?_
   intro v37 M w H hle hR
   replace gM := gM.mono hle
   replace gT := gT.mono hle
   replace hp0 := hp0.mono hle
   replace hc34 := hc34.mono hle
   replace hs34_2 := hs34_2.mono hle
   obtain rfl := hR
   refine AS G G (NL (TN (SQ (RG (MV G G (ST (q1v G G) G (NL (TN ?_))))))))
   refine q0o G (fun hk32 => ?_) (fun hk32 => ?_)
   ·
    replace hk32 : ¬ (n30 = (0 : Int)) := of_not_decide hk32
    rw [if_neg hk32] at e21
    refine SQ ?_
    obtain ⟨⟨n33, n34⟩, hx35, e21⟩ := bnd e21
    try dsimp only at e21
    refine RG (MV G G (MV G G (q05 H (Y0E hx35) G trivial (q00 G) G ?_)))
    intro v42 M w H hle hR
    replace gM := gM.mono hle
    replace gT := gT.mono hle
    replace hp0 := hp0.mono hle
    replace hc34 := hc34.mono hle
    replace hs34_2 := hs34_2.mono hle
    try dsimp only at hR
    obtain rfl := hR
    refine q0b [_, _] H G G G Ku Ts27 G Kf Kf (q00 G) ?_
    intro w H
    refine NL (TN (RT ?_))
    obtain rfl := oI e21
    try dsimp only at h
    obtain rfl := oI h
    exact q07 G ⟨_, G, H.loadAgg Km Ta27 Ts27 Kf⟩ H.ext G
   replace hk32 : n30 = (0 : Int) := of_not_decide' hk32
   rw [if_pos hk32] at e21
   refine SK (IB (TN ?_))
   obtain ⟨n36, hxn36, e21⟩ := bnd e21
   refine RG (ST (q0u G G hxn36) G (MV G G (NL ?_)))
   exact AG m27 ⟨_, _, _, _, G, (H.pick (L' := [.blk bk2 (.cells #[I n24, I n25] 27)]) Kp), gM, gT, hp0, e21⟩ (l0a _)
  rw [if_neg hk28] at e21
  refine q0m (q06 (q06 (q0f ?_)))
  exact MN ⟨_, _, _, G, H, gM, gT, e21⟩
 rintro e w ⟨n22, n23, M, rfl, H, gM, gT, q37⟩
 obtain rfl := oI q37
 try dsimp only at h
 refine TN (SQ ?_)
 obtain ⟨⟨n38, n39⟩, hx40, h⟩ := bnd h
 try dsimp only at h
 refine RG (q05 H (Y0P hx40) G trivial (q00 G) G ?_)
 intro v44 M w H hle hR
 replace gM := gM.mono hle
 replace gT := gT.mono hle
 try dsimp only at hR
 obtain rfl := hR
 refine q0b [_, _] H G G G Ku Ts27 G Kf Kf (q00 G) ?_
 intro w H
 refine NL (TN (RT ?_))
 obtain rfl := oI h
 exact q07 G ⟨_, G, H.loadAgg Km Ta27 Ts27 Kf⟩ H.ext G
theorem Y2P {p0 : UInt8} {r : Bool} (h : Y23 p0 = some r) : Ct Tryz.prog 80 [encB p0] (fun M => True) (fun v M => v = Value.bool r) := by
 refine Ct.of Tryz.func80 (enters Tryz.func80 Kr G) G G G ?_
 intro w0 M0 H hp
 unfold Y23 at h
 refine SQ (RG (AS G G (NL (TN (SQ ?_)))))
 obtain ⟨o1, e2, h⟩ := bnd h
 refine q0l (fun e w => ∃ (b3 : Bool) (M : Mem), e = [(2, Value.bool b3)] ∧ St w0 M0 M [] w ∧ some b3 = some o1) [] ?_ ?_ (trivial)
 ·
  obtain ⟨b4, hx5, e2⟩ := bnd e2
  refine RG (MV G G (q05 H (Y3p hx5) G trivial (q00 G) G ?_))
  intro v4 M w H hle hR
  obtain rfl := hR
  refine MV G G ?_
  rcases b4 with _ | _
  ·
   rw [if_neg l07] at e2
   obtain ⟨n6, hx7, e2⟩ := bnd e2
   refine SG (q02 G) G G G (q05 H (Y37 hx7) G trivial (q04 G G G) G ?_)
   intro v7 M w H hle hR
   obtain rfl := hR
   refine SG (q1b G G) G G G (PF G G G (AS G G (NL ?_)))
   exact MN ⟨_, _, G, H, e2⟩
  rw [if_pos rfl] at e2
  refine q0i 3 G G (PT G G G (AS G G (NL ?_)))
  exact MN ⟨_, _, G, H, e2⟩
 rintro e w ⟨b3, M, rfl, H, q8⟩
 obtain rfl := oI q8
 refine TN (RT ?_)
 obtain rfl := oI h
 exact q07 G G H.ext G
theorem Y3G {p0 : Ls} {r : Bool} (h : Y1T p0 = some r) : Ct Tryz.prog 93 [S p0] (fun M => GlF (fun w => ∃ m, w.cell? ⟨2, 0, none⟩ = some (.int .i64 m)) M ∧ Tabs M) (fun v M => v = Value.bool r) := by
 refine Ct.of Tryz.func93 (enters Tryz.func93 Kr G) G G G ?_
 intro w0 M0 H hp
 obtain ⟨gM, gT⟩ := hp
 unfold Y1T at h
 refine SQ (RG (AS G G (NL (TN (SQ ?_)))))
 obtain ⟨b1, hx2, h⟩ := bnd h
 refine RG (MV G G (q05 H (Y3P hx2) G ⟨gM, gT, (⟨⟨G, G⟩, (fun _ _ h => FnV.of (Y2P h) (fun _ _ => trivial))⟩ : FnT90 _ _ _)⟩ (q00 G) G ?_))
 intro v4 M w H hle hR
 replace gM := gM.mono hle
 replace gT := gT.mono hle
 obtain rfl := hR
 refine AS G G (NL (TN (RT ?_)))
 obtain rfl := oI h
 exact q07 G G H.ext G
theorem Y2X {p0 : Ls} {r : Ls} (h : Y1U p0 = some r) : Ct Tryz.prog 81 [S p0] (fun M => True) (fun v M => v = S r) := by
 refine Ct.of Tryz.func81 (enters Tryz.func81 Kr G) G G G ?_
 intro w0 M0 H hp
 unfold Y1U at h
 refine SQ (RG (AS G G (NL (TN (SQ ?_)))))
 obtain ⟨_, hx1, h⟩ := bnd h
 obtain ⟨s2, hxs2, h⟩ := bnd h
 obtain ⟨s3, hxs3, h⟩ := bnd h
 obtain ⟨s4, hxs4, h⟩ := bnd h
 refine RG (q0B (enc := encS) xty55 ([[92], [92, 92], [34], [92, 34]] : List Ls) H G Kf (fun _ => G) G G (q00 G) G ?_)
 intro v3 M w H hle hs3
 refine q0w (A := []) (B := []) H (Y3U hx1) (q0j _) G (hs3) (q00 G) G ?_
 intro v4 M w its H hle hR
 replace hs3 := hs3.mono hle
 obtain ⟨bk4, x4, rfl, hr4, rfl⟩ := hR
 simp only [l05, l06] at H
 refine MV G G ?_
 refine q0w (A := [.blk bk4 (.cells x4 166)]) (B := []) (H.pick (L' := [.blk bk4 (.cells x4 166)]) Kp) (Y3n hxs2) (.left (q0j _)) G hr4 (q00 G) G ?_
 intro v6 M w its H hle hR
 replace hs3 := hs3.mono hle
 replace hr4 := hr4.mono hle
 obtain ⟨x6, rfl, hr6, rfl⟩ := hR
 simp only [l05, l06] at H
 refine ST (q0p G G hxs3) G (ST (q0p G G hxs4) G (AS G G (NL (TN (RT ?_)))))
 obtain rfl := oI h
 exact q07 G G H.ext G
theorem Y1n {p0 : (Ls × Ls × Ls)} {r : Ls} (h : Y0k p0 = some r) : Ct Tryz.prog 56 [Value.agg #[S p0.1, S p0.2.1, S p0.2.2]] (fun M => GlF (fun w => ∃ m, w.cell? ⟨2, 0, none⟩ = some (.int .i64 m)) M ∧ Tabs M) (fun v M => v = S r) := by
 refine Ct.of Tryz.func56 (enters Tryz.func56 Kr G) G G G ?_
 intro w0 M0 H hp
 obtain ⟨gM, gT⟩ := hp
 unfold Y0k at h
 refine SQ (RG (q1t [_, _, _] H G G (q00 G) G ?_))
 intro bk1 w H
 refine AS G G (NL (TN (SQ (SQ ?_))))
 obtain ⟨b1, hx2, h⟩ := bnd h
 refine RG (ST (q03 Tu24 G Ts9 Dc G) G (ST (XL H Ta9) G ?_))
 refine q05 H (Y3G hx2) G ⟨gM, gT⟩ (q00 G) G ?_
 intro v5 M w H hle hR
 replace gM := gM.mono hle
 replace gT := gT.mono hle
 obtain rfl := hR
 refine NL (TN ?_)
 refine q0o G (fun hk3 => ?_) (fun hk3 => ?_)
 ·
  subst hk3
  rw [if_pos rfl] at h
  refine SQ ?_
  obtain ⟨s4, hxs4, h⟩ := bnd h
  obtain ⟨s5, hxs5, h⟩ := bnd h
  refine RG (ST (q03 Tu24 G Ts9 Dc G) G (ST (XL H Ta9) G ?_))
  refine ST (q0p G G hxs4) G (ST (q03 Tu24 G Ts9 Dc G) G (ST (XL H Ta9) G ?_))
  refine ST (q0p G G hxs5) G (AS G G (NL (TN (RT ?_))))
  obtain rfl := oI h
  exact q07 G G H.ext G
 subst hk3
 rw [if_neg l07] at h
 refine SK (TN (SQ ?_))
 obtain ⟨s6, hx7, h⟩ := bnd h
 obtain ⟨s8, hxs8, h⟩ := bnd h
 obtain ⟨s9, hxs9, h⟩ := bnd h
 refine q1Z (fun e w => ∃  (M : Mem), e = [(2, S s9)] ∧ St w0 M0 M [] w ∧ GlF (fun w => ∃ m, w.cell? ⟨2, 0, none⟩ = some (.int .i64 m)) M ∧ Tabs M) ?_ ?_
 ·
  refine q0F (m := 8) G G H ?_
  intro w H
  refine TK 0 G (fun _ => q03 Tu24 G Ts9 Dc G) G (TK 4 G (fun _ => q03 Tu24 G Ts9 Dc G) G (q1c (i := 1) [5] G Kr Kr Kr (XL H Ta9) (q00 G) G G (fun _ _ => G) ?_))
  refine q0P (i := 2) (j := 5) Kr G G ?_ ?_
  ·
   refine q05 H (Y2X hx7) G trivial (q00 G) G ?_
   intro v14 M w H hle hR
   replace gM := gM.mono hle
   replace gT := gT.mono hle
   obtain rfl := hR
   refine NA (TK 3 G (fun _ => q0p G G hxs8) G (q0s (fuel := 0) [5, 6, 7] G Kr (ST (XL H Ta9) G ?_)))
   refine ST (q0p G G hxs9) G (AS G G (NA (q0h Kr ?_)))
   exact MP ⟨_, G, (H.pick (L' := []) Kp), gM, gT⟩
  refine ST (XL H Ta9) G ?_
  refine NA (q0s (fuel := 0) [2, 3, 6, 7] G Kr (q05 H (Y2X hx7) G trivial (q00 G) G ?_))
  intro v14 M w H hle hR
  replace gM := gM.mono hle
  replace gT := gT.mono hle
  obtain rfl := hR
  refine ST (q0p G G hxs8) G (ST (q0p G G hxs9) G (AS G G (NA (q0h Kr ?_))))
  exact MP ⟨_, G, (H.pick (L' := []) Kp), gM, gT⟩
 rintro e w ⟨M, rfl, H, gM, gT⟩
 refine TN (RT ?_)
 obtain rfl := oI h
 exact q07 G G H.ext G
theorem Y3H {p0 : Ls} {p1 : Ls} {r : Bool} (h : Y0U p0 p1 = some r) : Ct Tryz.prog 168 [S p0, S p1] (fun M => True) (fun v M => v = Value.bool r) := by
 refine Ct.of Tryz.func168 (enters Tryz.func168 Kr G) G G G ?_
 intro w0 M0 H hp
 unfold Y0U at h
 refine SQ (RG (AS G G (NL (TN (SQ ?_)))))
 obtain ⟨o1, e2, h⟩ := bnd h
 refine q0l (fun e w => ∃ (b3 : Bool) (M : Mem), e = [(4, Value.bool b3)] ∧ St w0 M0 M [] w ∧ some b3 = some o1) [] ?_ ?_ (trivial)
 ·
  refine RG (MV G G (ST (q0k Tu9 G) G (MV G G (ST (q0k Tu9 G) G ?_))))
  by_cases hk4 : (p1.length : Int) ≤ (p0.length : Int)
  ·
   rw [if_pos hk4] at e2
   obtain ⟨s5, hxs5, e2⟩ := bnd e2
   refine DT hk4 (q1b G G) G (MV G G (SG (q02 G) G G G (SG (q02 G) G G G (SG (q0k Tu9 G) G G G (SG (Ex.sliceH Tu9 G G hxs5) G G G (SG (q02 G) G G G (SG (q0I G G) G G G (PT G G G (AS G G (NL ?_))))))))))
   exact MN ⟨_, _, G, H, e2⟩
  rw [if_neg hk4] at e2
  refine DF hk4 (q1b G G) G (MV G G (q0i 6 G G (PF G G G (AS G G (NL ?_)))))
  exact MN ⟨_, _, G, H, e2⟩
 rintro e w ⟨b3, M, rfl, H, q6⟩
 obtain rfl := oI q6
 refine TN (RT ?_)
 obtain rfl := oI h
 exact q07 G G H.ext G
theorem Y2s {p0 : Ls} {p1 : Ls} {r : Bool} (h : Y0p p0 p1 = some r) : Ct Tryz.prog 135 [S p0, S p1] (fun M => True) (fun v M => v = Value.bool r) := by
 refine Ct.of Tryz.func135 (enters Tryz.func135 Kr G) G G G ?_
 intro w0 M0 H hp
 unfold Y0p at h
 refine SQ (RG (AS G G (NL (TN (SQ ?_)))))
 obtain ⟨b1, hx2, h⟩ := bnd h
 refine RG (MV G G (MV G G (q05 H (Y3H hx2) G trivial (q00 G) G ?_)))
 intro v7 M w H hle hR
 obtain rfl := hR
 refine AS G G (NL (TN (RT ?_)))
 obtain rfl := oI h
 exact q07 G G H.ext G
theorem Y2K {p0 : Ls} {p1 : Ls} {r : Bool} (h : Y0f p0 p1 = some r) : Ct Tryz.prog 108 [S p0, S p1] (fun M => True) (fun v M => v = Value.bool r) := by
 refine Ct.of Tf108 (enters Tf108 Kr G) G G G ?_
 intro w0 M0 H hp
 unfold Y0f at h
 refine SQ (RG (AS G G (NL (TN (SQ ?_)))))
 obtain ⟨o1, e2, h⟩ := bnd h
 refine q0l (fun e w => ∃ (b3 : Bool) (M : Mem), e = [(4, Value.bool b3)] ∧ St w0 M0 M [] w ∧ some b3 = some o1) [] ?_ ?_ (trivial)
 ·
  refine RG (MV G G (ST (q0k Tu9 G) G (MV G G (ST (q0k Tu9 G) G ?_))))
  by_cases hk4 : (p1.length : Int) ≤ (p0.length : Int)
  ·
   rw [if_pos hk4] at e2
   obtain ⟨n5, hxn5, e2⟩ := bnd e2
   obtain ⟨s6, hxs6, e2⟩ := bnd e2
   refine DT hk4 (q1b G G) G (MV G G (SG (q02 G) G G G (SG (q02 G) G G G (SG (q0k Tu9 G) G G G (SG (q02 G) G G G (SG (q0k Tu9 G) G G G (SG (Ex.subC G G hxn5) G G G (SG (Ex.sliceL Tu9 G G hxs6) G G G (SG (q02 G) G G G (SG (q0I G G) G G G (PT G G G (AS G G (NL ?_)))))))))))))
   exact MN ⟨_, _, G, H, e2⟩
  rw [if_neg hk4] at e2
  refine DF hk4 (q1b G G) G (MV G G (q0i 9 G G (PF G G G (AS G G (NL ?_)))))
  exact MN ⟨_, _, G, H, e2⟩
 rintro e w ⟨b3, M, rfl, H, q7⟩
 obtain rfl := oI q7
 refine TN (RT ?_)
 obtain rfl := oI h
 exact q07 G G H.ext G
theorem Y45 {p0 : Ls} {p1 : Ls} {r : Bool} (h : Y0V p0 p1 = some r) : Ct Tryz.prog 136 [S p0, S p1] (fun M => True) (fun v M => v = Value.bool r) := by
 refine Ct.of Tryz.func136 (enters Tryz.func136 Kr G) G G G ?_
 intro w0 M0 H hp
 unfold Y0V at h
 refine SQ (RG (AS G G (NL (TN (SQ ?_)))))
 obtain ⟨b1, hx2, h⟩ := bnd h
 refine RG (MV G G (MV G G (q05 H (Y2K hx2) G trivial (q00 G) G ?_)))
 intro v7 M w H hle hR
 obtain rfl := hR
 refine AS G G (NL (TN (RT ?_)))
 obtain rfl := oI h
 exact q07 G G H.ext G
theorem Y4H {p0 : Ls} {r : Bool} (h : Y3f p0 = some r) : Ct Tryz.prog 109 [S p0] (fun M => GlF (fun w => ∃ m, w.cell? ⟨2, 0, none⟩ = some (.int .i64 m)) M) (fun v M => v = Value.bool r) := by
 refine Ct.of Tryz.func109 (enters Tryz.func109 Kr G) G G G ?_
 intro w0 M0 H hp
 have gM := hp
 unfold Y3f at h
 refine SQ (RG (AS G G (NL (TN (SQ (SQ (RG (MV G G (ST (q0k Tu9 G) G (MV G G (NL (TN ?_))))))))))))
 obtain ⟨o1, e2, h⟩ := bnd h
 refine q0l (fun e w => ∃  (M : Mem), e = [(0, S p0)] ∧ St w0 M0 M [] w ∧ GlF (fun w => ∃ m, w.cell? ⟨2, 0, none⟩ = some (.int .i64 m)) M ∧ some (.inl ()) = some o1) [] ?_ ?_ (trivial)
 ·
  refine BL (q0J (fun m e w => ∃ (n3 : Int) (M : Mem), e = [(0, S p0), (5, I (p0.length : Int)), (6, I n3)] ∧ St w0 M0 M [] w ∧ GlF (fun w => ∃ m, w.cell? ⟨2, 0, none⟩ = some (.int .i64 m)) M ∧ Y1w p0 m n3 = some o1) FU [(0, _), (5, _), (6, _)] ⟨rfl, rfl, rfl, trivial⟩ ⟨_, _, rfl, H, gM, e2⟩ ?_)
  rintro m4 e w ⟨n3, M, rfl, H, gM, e2⟩
  rcases m4 with _ | m4
  · rw [Y1w] at e2; cases e2
  rw [Y1w] at e2
  refine SQ (RG (ST (q0n G G) G (NL (TN (SQ ?_)))))
  refine CB (p := n3 < (p0.length : Int)) G (fun hk5 => ?_) fun hk5 => ?_
  ·
   rw [if_pos hk5] at e2
   refine SK (TN (SQ (BL (SQ (RG (MV G G (AS G G (NL (TN (SQ ?_))))))))))
   obtain ⟨o6, e7, e2⟩ := bnd e2
   refine q0l (fun e w => ∃ (b8 : Bool) (M : Mem), e = [(0, S p0), (5, I (p0.length : Int)), (6, I n3), (18, Value.bool b8)] ∧ St w0 M0 M [] w ∧ GlF (fun w => ∃ m, w.cell? ⟨2, 0, none⟩ = some (.int .i64 m)) M ∧ some b8 = some o6) [] ?_ ?_ (trivial)
   ·
    obtain ⟨c9, hxc9, e7⟩ := bnd e7
    refine RG (MV G G (MV G G (ST (q0N Tu9 G G hxc9) G ?_)))
    by_cases hk10 : c9.toNat < 32
    ·
     rw [if_pos hk10] at e7
     refine DT hk10 (Ex.lssB (i := c9.toNat) (j := 32) G G) G (MV G G (q0i 4 G G (PT G G G (NL ?_))))
     exact MN ⟨_, _, G, H, gM, e7⟩
    rw [if_neg hk10] at e7
    obtain ⟨c11, hxc11, e7⟩ := bnd e7
    refine DF hk10 (Ex.lssB (i := c9.toNat) (j := 32) G G) G (MV G G (SG (q02 G) G G G (SG (q02 G) G G G (SG (q0N Tu9 G G hxc11) G G G (SG (Ex.gtrB (i := c11.toNat) (j := 126) G G) G G G (PF G G G (NL ?_)))))))
    exact MN ⟨_, _, G, H, gM, e7⟩
   rintro e w ⟨b8, M, rfl, H, gM, q12⟩
   obtain rfl := oI q12
   refine TN ?_
   refine q0o G (fun hk13 => ?_) (fun hk13 => ?_)
   ·
    subst hk13
    rw [if_pos rfl] at e2
    refine SQ (RG (AS G G (NL (TN (RT ?_)))))
    obtain rfl := oI e2
    try dsimp only at h
    obtain rfl := oI h
    exact q07 G G H.ext G
   subst hk13
   rw [if_neg l07] at e2
   refine SK (IB (TN ?_))
   obtain ⟨n14, hxn14, e2⟩ := bnd e2
   refine RG (ST (q0u G G hxn14) G (MV G G (NL ?_)))
   exact AG m4 ⟨_, _, G, H, gM, e2⟩ (l0a _)
  rw [if_neg hk5] at e2
  refine q0m (q06 (q06 (q0f ?_)))
  exact MN ⟨_, G, H, gM, e2⟩
 rintro e w ⟨M, rfl, H, gM, q15⟩
 obtain rfl := oI q15
 try dsimp only at h
 refine TN (SQ ?_)
 obtain ⟨o16, e17, h⟩ := bnd h
 refine q0l (fun e w => ∃ (b18 : Bool) (M : Mem), e = [(2, Value.bool b18)] ∧ St w0 M0 M [] w ∧ GlF (fun w => ∃ m, w.cell? ⟨2, 0, none⟩ = some (.int .i64 m)) M ∧ some b18 = some o16) [] ?_ ?_ (trivial)
 ·
  obtain ⟨b19, hx20, e17⟩ := bnd e17
  refine RG (MV G G (q05 H (Y2s hx20) G trivial (q00 G) G ?_))
  intro v21 M w H hle hR
  replace gM := gM.mono hle
  obtain rfl := hR
  refine ST (q0R G) G (MV G G ?_)
  rcases b19 with _ | _
  ·
   rw [if_neg l07] at e17
   obtain ⟨b21, hx22, e17⟩ := bnd e17
   refine SG (q02 G) G G G (q05 H (Y45 hx22) G trivial (q04 G G G) G ?_)
   intro v25 M w H hle hR
   replace gM := gM.mono hle
   obtain rfl := hR
   refine SG (q0R G) G G G (PT G G G (MV G G ?_))
   rcases b21 with _ | _
   ·
    rw [if_neg l07] at e17
    obtain ⟨b23, hx24, e17⟩ := bnd e17
    refine SG (q02 G) G G G (q05 H (Y4d hx24) G (gM) (q04 G G G) G ?_)
    intro v30 M w H hle hR
    replace gM := gM.mono hle
    obtain rfl := hR
    refine SG (q0R G) G G G (PT G G G (AS G G (NL ?_)))
    exact MN ⟨_, _, G, H, gM, e17⟩
   rw [if_pos rfl] at e17
   refine q0i 3 G G (PF G G G (AS G G (NL ?_)))
   exact MN ⟨_, _, G, H, gM, e17⟩
  rw [if_pos rfl] at e17
  refine q0i 3 G G (PF G G G (MV G G (q0i 3 G G (PF G G G (AS G G (NL ?_))))))
  exact MN ⟨_, _, G, H, gM, e17⟩
 rintro e w ⟨b18, M, rfl, H, gM, q25⟩
 obtain rfl := oI q25
 refine TN (RT ?_)
 obtain rfl := oI h
 exact q07 G G H.ext G
theorem Y4I {p0 : Ls} {p1 : Ls} {r : (Ls × Ls)} (h : Y3g p0 p1 = some r) : Ct Tryz.prog 111 [S p0, S p1] (fun M => True) (fun v M => ∃ b0_0 b0_1, v = (Value.func (.func 138) #[] #[ptr b0_0 0, ptr b0_1 0]) ∧ PtM M b0_0 (.cells #[S r.1] 9) ∧ PtM M b0_1 (.cells #[S r.2] 9)) := by
 refine Ct.of Tryz.func111 (enters Tryz.func111 Kr G) G G G ?_
 intro w0 M0 H hp
 unfold Y3g at h
 refine SQ (RG (q1t [_] H G G (q00 G) G ?_))
 intro bk2 w H
 refine q1t [_] H G G (q00 G) G ?_
 intro bk3 w H
 refine AS G G (NL (TN (SQ (RG ?_))))
 obtain ⟨M, hle, hb1, H⟩ := H.freezeVar (b := bk3) Kv
 obtain ⟨M, hle, hb2, H⟩ := H.freezeVar (b := bk2) Kv
 replace hb1 := hb1.mono hle
 refine ST (q1Q G) G (AS G G (NL (TN (RT ?_))))
 obtain rfl := oI h
 exact q07 G G H.ext (⟨_, _, G, hb1, hb2⟩)
theorem Y4Q {p0 : Ls} {vp0 : Value} {r : Ls} (h : Y3c p0 = some r) : Ct Tryz.prog 141 [vp0] (fun M => GlF (fun w => ∃ m, w.cell? ⟨2, 0, none⟩ = some (.int .i64 m)) M ∧ Sl M encB vp0 p0) (fun v M => v = S r) := by
 refine Ct.of Tryz.func141 (enters Tryz.func141 Kr G) G G G ?_
 intro w0 M0 H hp
 obtain ⟨gM, hp0⟩ := hp
 unfold Y3c at h
 refine SQ (RG (AS G G (NL (TN (SQ ?_)))))
 obtain ⟨⟨l1, ⟨n2, n3⟩⟩, hx4, h⟩ := bnd h
 try dsimp only at h
 refine RG (MV G G (q05 H (Y4r hx4) G (hp0) (q00 G) G ?_))
 intro v7 M w H hle hR
 replace gM := gM.mono hle
 replace hp0 := hp0.mono hle
 try dsimp only at hR
 obtain ⟨x7_0, rfl, f7_0⟩ := hR
 refine MV G G (ST (q0e G G) G (ST (q0e G G) G (q0g [_, _] H Tz27 G (q00 G) G ?_)))
 intro bk4 w H
 refine AS G G (q0b [_, _] H G G G Ku Ts27 G Kf Kf (q00 G) ?_)
 intro w H
 refine NL (TN (SQ ?_))
 obtain ⟨s5, hx6, h⟩ := bnd h
 refine RG (MV G G (ST (q1S Tu88 Tu5 Tu9 H (f7_0) G) G (q05 H (Y3Y hx6) G (gM) (q00 G) G ?_)))
 intro v12 M w H hle hR
 replace gM := gM.mono hle
 replace hp0 := hp0.mono hle
 replace f7_0 := f7_0.mono hle
 obtain rfl := hR
 refine AS G G (NL (TN (RT ?_)))
 obtain rfl := oI h
 exact q07 G G H.ext G
theorem Y1u {p0 : Ls} {p1 : UInt8} {bp0 : Nat} {pp0 : Value} {vp0 : Value} {r : (Bool × Ls)} (h : Y0g p0 p1 = some r) : CtX Tryz.prog 157 [ptr bp0 0, encB p1] [.blk bp0 (.cells #[pp0, vp0] 96), RowI 5 encB vp0 p0] (fun M => BPM M bp0 pp0) (fun v M its => ∃ x0 qp0 up0, v = x0 ∧ NilB M x0 r.1 ∧ BPM M bp0 qp0 ∧ its = [.blk bp0 (.cells #[qp0, up0] 96), RowI 5 encB up0 r.2]) := by
 refine CtX.of Tryz.func157 (enters Tryz.func157 Kr G) G G G ?_
 intro w0 M0 H hp
 have hp0 := hp
 unfold Y0g at h
 refine SQ (RG (AS G G (NL (TN (SQ (RG (MV G G ?_)))))))
 refine q0w (A := [.blk bp0 (.cells #[pp0, vp0] 96)]) (B := [RowI 5 encB vp0 p0]) (H.pick (L' := [.blk bp0 (.cells #[pp0, vp0] 96), RowI 5 encB vp0 p0]) Kp) (copyCheck_ct hp0) (.left (q0j _)) G trivial (q00 G) G ?_
 intro v6 M w its H hle hR
 replace hp0 := hp0.mono hle
 obtain ⟨rfl, rfl⟩ := hR
 simp only [l05, l06] at H
 refine NL (TN (SQ ?_))
 obtain ⟨l2, hxl2, h⟩ := bnd h
 refine RG (MV G G (MV G G (FN G G Tu96 G Ts88 G G (ST (XL H Ta88) G ?_))))
 refine MV G G (q0B (enc := encB) xty88 ([p1] : Ls) H G Kf (fun _ => G) G G (q00 G) G ?_)
 intro v13 M w H hle hs13
 refine q1l (l := p0) xty88 G (fun _ => G) H G (fun _ => by repeat first | exact .head | apply Upd.tail) G (hs13) hxl2 (q00 G) G ?_
 intro v14 w H
 refine FN G G Tu96 G Ts88 G G (q0O [_, _] H G G (H.rowOne Km) Ku Kf Ts88 (by first | decide | (simp; done) | (simp; omega)) (q00 G) ?_)
 intro w H
 refine NL (TN (SQ (RG (AS G G (NL (TN (RT ?_)))))))
 obtain rfl := oI h
 exact q1n (its := [.blk bp0 (.cells #[(ptr bp0 0), v14] 96), RowI 5 encB v14 l2]) G G H Kp ⟨_, _, _, G, (.inl ⟨G, G⟩), BPM.self, G⟩
theorem Y47 {p0 : UInt8} {r : UInt8} (h : Y2e p0 = some r) : Ct Tryz.prog 174 [encB p0] (fun M => True) (fun v M => v = encB r) := by
 refine Ct.of Tryz.func174 (enters Tryz.func174 Kr G) G G G ?_
 intro w0 M0 H hp
 unfold Y2e at h
 refine SQ (RG (AS G G (NL (TN (SQ ?_)))))
 obtain ⟨c1, hxc1, h⟩ := bnd h
 refine RG (MV G G (ST (Ex.andB (c := p0) (d := 15) G G) G (ST (q0N Tu9 G G hxc1) G (AS G G (NL (TN (RT ?_)))))))
 obtain rfl := oI h
 exact q07 G G H.ext G
theorem Y3I {p0 : Ls} {p1 : Ls} {bp0 : Nat} {pp0 : Value} {vp0 : Value} {vp1 : Value} {r : (Int × Bool × Ls)} (h : Y1M p0 p1 = some r) : CtX Tryz.prog 173 [ptr bp0 0, vp1] [.blk bp0 (.cells #[pp0, vp0] 96), RowI 5 encB vp0 p0] (fun M => BPM M bp0 pp0 ∧ Sl M encB vp1 p1) (fun v M its => ∃ x1 qp0 up0, v = Value.tuple #[I r.1, x1] ∧ NilB M x1 r.2.1 ∧ BPM M bp0 qp0 ∧ its = [.blk bp0 (.cells #[qp0, up0] 96), RowI 5 encB up0 r.2.2]) := by
 refine CtX.of Tryz.func173 (enters Tryz.func173 Kr G) G G G ?_
 intro w0 M0 H hp
 obtain ⟨hp0, hp1⟩ := hp
 unfold Y1M at h
 refine SQ (RG (AS G G (AS G G (NL (TN (SQ (RG (MV G G ?_))))))))
 refine q0w (A := [.blk bp0 (.cells #[pp0, vp0] 96)]) (B := [RowI 5 encB vp0 p0]) (H.pick (L' := [.blk bp0 (.cells #[pp0, vp0] 96), RowI 5 encB vp0 p0]) Kp) (copyCheck_ct hp0) (.left (q0j _)) G trivial (q00 G) G ?_
 intro v7 M w its H hle hR
 replace hp1 := hp1.mono hle
 replace hp0 := hp0.mono hle
 obtain ⟨rfl, rfl⟩ := hR
 simp only [l05, l06] at H
 refine NL (TN (SQ ?_))
 obtain ⟨l2, hxl2, h⟩ := bnd h
 refine RG (MV G G (MV G G (FN G G Tu96 G Ts88 G G (ST (XL H Ta88) G ?_))))
 refine MV G G (q1l (l := p0) xty88 G (fun _ => G) H G (fun _ => by repeat first | exact .head | apply Upd.tail) G (hp1) hxl2 (q00 G) G ?_)
 intro v14 w H
 refine FN G G Tu96 G Ts88 G G (q0O [_, _] H G G (H.rowOne Km) Ku Kf Ts88 (by first | decide | (simp; done) | (simp; omega)) (q00 G) ?_)
 intro w H
 refine NL (TN (SQ (RG (MV G G (ST (q0A Tu88 hp1 G) G (AS G G (AS G G (NL (TN (RT ?_))))))))))
 obtain rfl := oI h
 exact WQ.retX2 (its := [.blk bp0 (.cells #[(ptr bp0 0), v14] 96), RowI 5 encB v14 l2]) G G G H Kp ⟨_, _, _, G, (.inl ⟨G, G⟩), BPM.self, G⟩
theorem Y2w {p0 : Ls} {bp0 : Nat} {pp0 : Value} {vp0 : Value} {r : Ls} (h : Y17 p0 = some r) : CtX Tryz.prog 76 [ptr bp0 0] [.blk bp0 (.cells #[pp0, vp0] 96), RowI 5 encB vp0 p0] (fun M => BPM M bp0 pp0) (fun v M its => v = S r ∧ its = []) := by
 refine CtX.of Tf76 (enters Tf76 Kr G) G G G ?_
 intro w0 M0 H hp
 have hp0 := hp
 unfold Y17 at h
 refine SQ (RG (AS G G (NL (TN (SQ ?_)))))
 refine q1Z (fun e w => ∃  (M : Mem), e = [(2, S p0)] ∧ StX (feet [.blk bp0 (.cells #[pp0, vp0] 96), RowI 5 encB vp0 p0]) w0 M0 M [.blk bp0 (.cells #[pp0, vp0] 96)] w) ?_ ?_
 ·
  refine q0F (m := 12) G G H ?_
  intro w H
  refine TK 0 G (fun _ => q02 G) G (TK 1 G (fun _ => q0E G) G (TK 2 G (fun _ => q03 Tu96 G Ts88 Dc G) G (TK 5 G (fun _ => q02 G) G (TK 6 G (fun _ => q0E G) G (TK 7 G (fun _ => q03 Tu96 G Ts88 Dc G) G ?_)))))
  refine q0P (i := 3) (j := 8) Kr G G ?_ ?_
  ·
   refine ST (XL H Ta88) G ?_
   refine NA ?_
   refine q0P (i := 4) (j := 8) Kr G G ?_ ?_
   ·
    refine q2e Tu128 H Km G (q00 G) G ?_
    intro q7 w H hq7
    refine NA (q0s (fuel := 0) [8, 9, 10, 11] G Kr (ST (XL H Ta88) G ?_))
    refine ST (q0G (l := p0) Tu88 H Km G) G ?_
    refine q2f Tu128 Kr H Kv hq7 G G (q00 G) G ?_
    intro w H
    refine AS G G (NA (q0h Kr ?_))
    exact MP ⟨_, G, H⟩
   refine ST (XL H Ta88) G ?_
   refine NA ?_
   refine q0P (i := 4) (j := 9) Kr G G ?_ ?_
   ·
    refine q2e Tu128 H Km G (q00 G) G ?_
    intro q7 w H hq7
    refine NA (q0s (fuel := 0) [9, 10, 11] G Kr (ST (q0G (l := p0) Tu88 H Km G) G ?_))
    refine q2f Tu128 Kr H Kv hq7 G G (q00 G) G ?_
    intro w H
    refine AS G G (NA (q0h Kr ?_))
    exact MP ⟨_, G, H⟩
   refine ST (q0G (l := p0) Tu88 H Km G) G ?_
   refine NA (q0s (fuel := 0) [4, 10, 11] G Kr (q2e Tu128 H Km G (q00 G) G ?_))
   intro q7 w H hq7
   refine q2f Tu128 Kr H Kv hq7 G G (q00 G) G ?_
   intro w H
   refine AS G G (NA (q0h Kr ?_))
   exact MP ⟨_, G, H⟩
  refine ST (XL H Ta88) G ?_
  refine NA ?_
  refine q0P (i := 3) (j := 9) Kr G G ?_ ?_
  ·
   refine ST (XL H Ta88) G ?_
   refine NA ?_
   refine q0P (i := 4) (j := 9) Kr G G ?_ ?_
   ·
    refine q2e Tu128 H Km G (q00 G) G ?_
    intro q7 w H hq7
    refine NA (q0s (fuel := 0) [9, 10, 11] G Kr (ST (q0G (l := p0) Tu88 H Km G) G ?_))
    refine q2f Tu128 Kr H Kv hq7 G G (q00 G) G ?_
    intro w H
    refine AS G G (NA (q0h Kr ?_))
    exact MP ⟨_, G, H⟩
   refine ST (q0G (l := p0) Tu88 H Km G) G ?_
   refine NA (q0s (fuel := 0) [4, 10, 11] G Kr (q2e Tu128 H Km G (q00 G) G ?_))
   intro q7 w H hq7
   refine q2f Tu128 Kr H Kv hq7 G G (q00 G) G ?_
   intro w H
   refine AS G G (NA (q0h Kr ?_))
   exact MP ⟨_, G, H⟩
  refine ST (q0G (l := p0) Tu88 H Km G) G ?_
  refine NA (q0s (fuel := 0) [3, 4, 10, 11] G Kr (ST (XL H Ta88) G ?_))
  refine q2e Tu128 H Km G (q00 G) G ?_
  intro q7 w H hq7
  refine q2f Tu128 Kr H Kv hq7 G G (q00 G) G ?_
  intro w H
  refine AS G G (NA (q0h Kr ?_))
  exact MP ⟨_, G, H⟩
 rintro e w ⟨M, rfl, H⟩
 refine TN (RT ?_)
 obtain rfl := oI h
 exact q1n (its := []) G G H Kp ⟨G, G⟩
theorem Y4R {p0 : Ls} {vp0 : Value} {r : Ls} (h : Y3B p0 = some r) : Ct Tryz.prog 142 [vp0] (fun M => Sl M encB vp0 p0) (fun v M => v = S r) := by
 refine Ct.of Tryz.func142 (enters Tryz.func142 Kr G) G G G ?_
 intro w0 M0 H hp
 have hp0 := hp
 unfold Y3B at h
 refine SQ (RG (AS G G (NL (TN (SQ (RG (q0g [_, _] H Tz96 G (q00 G) G ?_)))))))
 intro bk3 w H
 refine NL (TN (SQ (SQ (RG (MV G G (ST (q0A Tu88 hp0 G) G (MV G G (NL (TN ?_)))))))))
 obtain ⟨o1, e2, h⟩ := bnd h
 refine q0l (fun e w => ∃ (v3 : Value) (l6 : Ls) (v7 : Value) (M : Mem), e = [(3, ptr bk3 0)] ∧ St w0 M0 M [.blk bk3 (.cells #[v3, v7] 96), RowI 5 encB v7 l6] w ∧ BPM M bk3 v3 ∧ some l6 = some o1) [] ?_ ?_ (trivial)
 ·
  refine BL ?_
  replace H := H.newRow 5 encB
  refine q0J (fun m e w => ∃ (v8 : Value) (l11 : Ls) (v12 : Value) (n13 : Int) (M : Mem), e = [(3, ptr bk3 0), (6, vp0), (7, I (p0.length : Int)), (8, I n13)] ∧ St w0 M0 M [.blk bk3 (.cells #[v8, v12] 96), RowI 5 encB v12 l11] w ∧ BPM M bk3 v8 ∧ Sl M encB vp0 p0 ∧ Y1d p0 m l11 n13 = some o1) FU [(3, _), (6, _), (7, _), (8, _)] ⟨rfl, rfl, rfl, rfl, trivial⟩ ⟨_, _, _, _, _, rfl, (H.pick (L' := [.blk bk3 (.cells #[(Value.pointer none), (Value.slice none 0 0)] 96), RowI 5 encB (Value.slice none 0 0) []]) Kp), BPM.nil, hp0, e2⟩ ?_
  rintro m14 e w ⟨v8, l11, v12, n13, M, rfl, H, hs9, hp0, e2⟩
  rcases m14 with _ | m14
  · rw [Y1d] at e2; cases e2
  rw [Y1d] at e2
  refine SQ (RG (ST (q0n G G) G (NL (TN (SQ ?_)))))
  refine CB (p := n13 < (p0.length : Int)) G (fun hk16 => ?_) fun hk16 => ?_
  ·
   rw [if_pos hk16] at e2
   refine SK (TN (SQ (BL (SQ ?_))))
   obtain ⟨c17, hxc17, e2⟩ := bnd e2
   obtain ⟨bk10, o10, ha10, hc10⟩ := hp0.atC hxc17
   refine RG (ST (q0t ha10 Tu88 Ts5 G G) G (ST (q08 H G hc10 Ta5) G (AS G G (NL (TN (BL (SQ (RG (MV G G (ST (q1A (c := c17) (d := 32) G G) G (AS G G (NL (TN ?_)))))))))))))
   refine CB (p := c17 = 32) G (fun hk18 => ?_) fun hk18 => ?_
   ·
    rw [if_pos hk18] at e2
    obtain ⟨⟨b19, l20⟩, hx21, e2⟩ := bnd e2
    try dsimp only at e2
    refine RG ?_
    refine q0w (A := [.blk bk3 (.cells #[v8, v12] 96), RowI 5 encB v12 l11]) (B := []) (H.pick (L' := [.blk bk3 (.cells #[v8, v12] 96), RowI 5 encB v12 l11]) Kp) (Y1u hx21) (.left (.left (q0j _))) G (hs9) (q00 G) G ?_
    intro v22 M w its H hle hR
    replace hp0 := hp0.mono hle
    replace hc10 := hc10.mono hle
    replace hs9 := hs9.mono hle
    try dsimp only at hR
    obtain ⟨x22_0, q22_0, u22_0, rfl, f22_0, hq22_0, rfl⟩ := hR
    simp only [l05, l06] at H
    refine NL (IB (IB (TN ?_)))
    obtain ⟨n22, hxn22, e2⟩ := bnd e2
    refine RG (ST (q0u G G hxn22) G (MV G G (NL ?_)))
    exact AG m14 ⟨_, _, _, _, _, G, H, hq22_0, hp0, e2⟩ (l0a _)
   rw [if_neg hk18] at e2
   refine SQ ?_
   obtain ⟨b23, hx24, e2⟩ := bnd e2
   refine RG (MV G G (q05 H (Y3p hx24) G trivial (q00 G) G ?_))
   intro v25 M w H hle hR
   replace hp0 := hp0.mono hle
   replace hc10 := hc10.mono hle
   replace hs9 := hs9.mono hle
   obtain rfl := hR
   refine AS G G (NL (TN ?_))
   refine q0o G (fun hk25 => ?_) (fun hk25 => ?_)
   ·
    subst hk25
    rw [if_pos rfl] at e2
    obtain ⟨⟨b26, l27⟩, hx28, e2⟩ := bnd e2
    try dsimp only at e2
    refine RG (MV G G ?_)
    refine q0w (A := [.blk bk3 (.cells #[v8, v12] 96), RowI 5 encB v12 l11]) (B := []) (H.pick (L' := [.blk bk3 (.cells #[v8, v12] 96), RowI 5 encB v12 l11]) Kp) (Y1u hx28) (.left (.left (q0j _))) G (hs9) (q00 G) G ?_
    intro v27 M w its H hle hR
    replace hp0 := hp0.mono hle
    replace hc10 := hc10.mono hle
    replace hs9 := hs9.mono hle
    try dsimp only at hR
    obtain ⟨x27_0, q27_0, u27_0, rfl, f27_0, hq27_0, rfl⟩ := hR
    simp only [l05, l06] at H
    refine NL (IB (IB (TN ?_)))
    obtain ⟨n29, hxn29, e2⟩ := bnd e2
    refine RG (ST (q0u G G hxn29) G (MV G G (NL ?_)))
    exact AG m14 ⟨_, _, _, _, _, G, H, hq27_0, hp0, e2⟩ (l0a _)
   subst hk25
   rw [if_neg l07] at e2
   obtain ⟨c30, hx31, e2⟩ := bnd e2
   obtain ⟨c32, hx33, e2⟩ := bnd e2
   obtain ⟨⟨n34, b35, l36⟩, hx37, e2⟩ := bnd e2
   try dsimp only at e2
   refine RG (MV G G (ST (Ex.shrB (c := c17) (m := 4) G G Dc) G (q05 H (Y47 hx31) G trivial (q00 G) G ?_)))
   intro v14 M w H hle hR
   replace hp0 := hp0.mono hle
   replace hc10 := hc10.mono hle
   replace hs9 := hs9.mono hle
   obtain rfl := hR
   refine MV G G (q05 H (Y47 hx33) G trivial (q00 G) G ?_)
   intro v16 M w H hle hR
   replace hp0 := hp0.mono hle
   replace hc10 := hc10.mono hle
   replace hs9 := hs9.mono hle
   obtain rfl := hR
   refine q0B (enc := encB) xty88 ([61, c30, c32] : Ls) H G Kf (fun _ => G) G G (q00 G) G ?_
   intro v17 M w H hle hs17
   replace hp0 := hp0.mono hle
   replace hc10 := hc10.mono hle
   replace hs9 := hs9.mono hle
   refine q0w (A := [.blk bk3 (.cells #[v8, v12] 96), RowI 5 encB v12 l11]) (B := []) (H.pick (L' := [.blk bk3 (.cells #[v8, v12] 96), RowI 5 encB v12 l11]) Kp) (Y3I hx37) (.left (.left (q0j _))) G ⟨hs9, hs17⟩ (q00 G) G ?_
   intro v18 M w its H hle hR
   replace hp0 := hp0.mono hle
   replace hc10 := hc10.mono hle
   replace hs9 := hs9.mono hle
   replace hs17 := hs17.mono hle
   try dsimp only at hR
   obtain ⟨x18_1, q18_0, u18_0, rfl, f18_1, hq18_0, rfl⟩ := hR
   simp only [l05, l06] at H
   refine NL (IB (IB (TN ?_)))
   obtain ⟨n38, hxn38, e2⟩ := bnd e2
   refine RG (ST (q0u G G hxn38) G (MV G G (NL ?_)))
   exact AG m14 ⟨_, _, _, _, _, G, H, hq18_0, hp0, e2⟩ (l0a _)
  rw [if_neg hk16] at e2
  refine q0m (q06 (q06 (q0f ?_)))
  exact MN ⟨_, _, _, _, G, H, hs9, e2⟩
 rintro e w ⟨v3, l6, v7, M, rfl, H, hs4, q39⟩
 obtain rfl := oI q39
 refine TN (SQ ?_)
 obtain ⟨s40, hx41, h⟩ := bnd h
 refine RG ?_
 refine q0w (A := [.blk bk3 (.cells #[v3, v7] 96), RowI 5 encB v7 l6]) (B := []) (H.pick (L' := [.blk bk3 (.cells #[v3, v7] 96), RowI 5 encB v7 l6]) Kp) (Y2w hx41) (.left (.left (q0j _))) G (hs4) (q00 G) G ?_
 intro v29 M w its H hle hR
 replace hs4 := hs4.mono hle
 obtain ⟨rfl, rfl⟩ := hR
 simp only [l05, l06] at H
 refine AS G G (NL (TN (RT ?_)))
 obtain rfl := oI h
 exact q07 G G H.ext G
theorem Y0Q {p0 : Ls} {p1 : Ls} {r : Ls} (h : Y2l p0 p1 = some r) : Ct Tryz.prog 112 [S p0, S p1] (fun M => GlF (fun w => ∃ m, w.cell? ⟨2, 0, none⟩ = some (.int .i64 m)) M ∧ Tabs M) (fun v M => v = S r) := by
 refine Ct.of Tryz.func112 (enters Tryz.func112 Kr G) G G G ?_
 intro w0 M0 H hp
 obtain ⟨gM, gT⟩ := hp
 unfold Y2l at h
 refine SQ (RG (AS G G (NL (TN (SQ ?_)))))
 obtain ⟨⟨l1, ⟨n2, n3⟩⟩, hx4, h⟩ := bnd h
 try dsimp only at h
 refine RG (MV G G (MV G G (q05 H (Y4p hx4) G (gT) (q00 G) G ?_)))
 intro v10 M w H hle hR
 replace gM := gM.mono hle
 replace gT := gT.mono hle
 try dsimp only at hR
 obtain ⟨x10_0, rfl, f10_0⟩ := hR
 refine MV G G (ST (q0e G G) G (ST (q0e G G) G (q0g [_, _] H Tz27 G (q00 G) G ?_)))
 intro bk6 w H
 refine AS G G (q0b [_, _] H G G G Ku Ts27 G Kf Kf (q00 G) ?_)
 intro w H
 refine NL (TN (SQ (SQ (RG (MV G G (ST (q0I G G) G (NL (TN ?_))))))))
 refine CB (p := p0 = [117, 116, 102, 56]) G (fun hk5 => ?_) fun hk5 => ?_
 ·
  rw [if_pos hk5] at h
  refine SQ ?_
  obtain ⟨s6, hxs6, h⟩ := bnd h
  obtain ⟨s7, hxs7, h⟩ := bnd h
  obtain ⟨s8, hx9, h⟩ := bnd h
  obtain ⟨s10, hxs10, h⟩ := bnd h
  obtain ⟨s11, hxs11, h⟩ := bnd h
  refine RG (MV G G (ST (q0p G G hxs6) G (ST (q0p G G hxs7) G (MV G G (q05 H (Y4Q hx9) G ⟨gM, f10_0⟩ (q00 G) G ?_)))))
  intro v19 M w H hle hR
  replace gM := gM.mono hle
  replace gT := gT.mono hle
  replace f10_0 := f10_0.mono hle
  obtain rfl := hR
  refine ST (q0p G G hxs10) G (ST (q0p G G hxs11) G (AS G G (NL (TN (RT ?_)))))
  obtain rfl := oI h
  exact q07 G G H.ext G
 rw [if_neg hk5] at h
 refine SK (TN (SQ ?_))
 obtain ⟨s12, hxs12, h⟩ := bnd h
 obtain ⟨s13, hxs13, h⟩ := bnd h
 obtain ⟨s14, hx15, h⟩ := bnd h
 obtain ⟨s16, hxs16, h⟩ := bnd h
 obtain ⟨s17, hxs17, h⟩ := bnd h
 refine RG (MV G G (ST (q0p G G hxs12) G (ST (q0p G G hxs13) G (MV G G (q05 H (Y4R hx15) G (f10_0) (q00 G) G ?_)))))
 intro v26 M w H hle hR
 replace gM := gM.mono hle
 replace gT := gT.mono hle
 replace f10_0 := f10_0.mono hle
 obtain rfl := hR
 refine ST (q0p G G hxs16) G (ST (q0p G G hxs17) G (AS G G (NL (TN (RT ?_)))))
 obtain rfl := oI h
 exact q07 G G H.ext G
theorem Y4u {p1 : Ls} {p2 : Ls} {bp1 : Nat} {bp2 : Nat} : ItS Tryz.prog 138 [ptr bp1 0, ptr bp2 0] [] (fun M => GlF (fun w => ∃ m, w.cell? ⟨2, 0, none⟩ = some (.int .i64 m)) M ∧ Tabs M ∧ PtM M bp1 (.cells #[S p1] 9) ∧ PtM M bp2 (.cells #[S p2] 9)) encS (Y2m p1 p2) := by
 refine ItS.of Tryz.func138 (enters Tryz.func138 Kr G) G G G ?_
 intro lid σ Y Z C hY s0 r L0 w0 M0 h hzz H hp
 simp only [l05, l06] at H
 obtain ⟨gM, gT, hp1, hp2⟩ := hp
 unfold Y2m at h
 refine SQ ?_
 obtain ⟨l1, hx2, h⟩ := bnd h
 refine RG (ST (q08 H G (hp1.cell (j := 0) G) Ta9) G (q05 H (grapheme_Split_ct hx2) G (gT) (q00 G) G ?_))
 intro v9 M w H hle hR
 replace gM := gM.mono hle
 replace gT := gT.mono hle
 replace hzz := hzz.mono hle
 replace hp1 := hp1.mono hle
 replace hp2 := hp2.mono hle
 have f9_0 := hR
 refine ST (q0A Tu55 f9_0 G) G (MV G G (NL (TN ?_)))
 obtain ⟨o3, e4, h⟩ := bnd h
 refine q0l (fun e w => ∃ (s5 : σ) (Lc : List Ph.Item) (M : Mem), e = [] ∧ StX C w0 M0 M (Lc) w ∧ GlF (fun w => ∃ m, w.cell? ⟨2, 0, none⟩ = some (.int .i64 m)) M ∧ Tabs M ∧ ZH Z s5 Lc M ∧ some (.inl s5) = some o3) [] ?_ ?_ (trivial)
 ·
  refine BL (q0J (fun m e w => ∃ (n6 : Int) (s7 : σ) (Lc : List Ph.Item) (M : Mem), e = [(0, (yv lid)), (2, ptr bp2 0), (9, v9), (10, I (l1.length : Int)), (11, I n6)] ∧ StX C w0 M0 M (Lc) w ∧ GlF (fun w => ∃ m, w.cell? ⟨2, 0, none⟩ = some (.int .i64 m)) M ∧ Tabs M ∧ PtM M bp2 (.cells #[S p2] 9) ∧ Sl M encS v9 l1 ∧ ZH Z s7 Lc M ∧ Y0z Y p2 l1 m n6 s7 = some o3) FU [(0, _), (2, _), (9, _), (10, _), (11, _)] ⟨rfl, rfl, rfl, rfl, rfl, trivial⟩ ⟨_, _, _, _, rfl, H, gM, gT, hp2, f9_0, hzz, e4⟩ ?_)
  rintro m8 e w ⟨n6, s7, Lc, M, rfl, H, gM, gT, hp2, f9_0, hzz, e4⟩
  rcases m8 with _ | m8
  · rw [Y0z] at e4; cases e4
  rw [Y0z] at e4
  refine SQ (RG (ST (q0n G G) G (NL (TN (SQ ?_)))))
  refine CB (p := n6 < (l1.length : Int)) G (fun hk9 => ?_) fun hk9 => ?_
  ·
   rw [if_pos hk9] at e4
   refine SK (TN (SQ (BL (SQ ?_))))
   obtain ⟨a10, hxa10, e4⟩ := bnd e4
   obtain ⟨bk13, o13, ha13, hc13⟩ := f9_0.atC hxa10
   refine RG (ST (q0t ha13 Tu55 Ts9 G G) G (ST (q08 H G hc13 Ta9) G (AS G G (NL (TN (SQ (SQ ?_)))))))
   obtain ⟨s11, hx12, e4⟩ := bnd e4
   refine RG (ST (q08 H G (hp2.cell (j := 0) G) Ta9) G (MV G G (q05 H (Y0Q hx12) G ⟨gM, gT⟩ (q00 G) G ?_)))
   intro v17 M w H hle hR
   replace gM := gM.mono hle
   replace gT := gT.mono hle
   replace hzz := hzz.mono hle
   replace f9_0 := f9_0.mono hle
   replace hc13 := hc13.mono hle
   replace hp2 := hp2.mono hle
   obtain rfl := hR
   refine ST (q0k Tu9 G) G (ST (q1G G G) G (NL (TN ?_)))
   refine CB (p := (s11.length : Int) ≤ (75 : Int)) G (fun hk13 => ?_) fun hk13 => ?_
   ·
    rw [if_pos hk13] at e4
    refine SQ (SQ ?_)
    obtain ⟨⟨s14, b15⟩, hx16, e4⟩ := bnd e4
    try dsimp only at e4
    refine RG (MV G G (MV G G (WR.yieldS H (q1P _) hY hzz hx16 G G (q00 G) G ?_)))
    intro w M Lc H hle hzz
    simp only [l05, l06] at H
    replace gM := gM.mono hle
    replace gT := gT.mono hle
    replace f9_0 := f9_0.mono hle
    replace hc13 := hc13.mono hle
    replace hp2 := hp2.mono hle
    refine ST (q0R G) G (NL (TN ?_))
    refine q0o G (fun hk17 => ?_) (fun hk17 => ?_)
    ·
     replace hk17 : b15 = false := by simpa using hk17
     subst hk17
     rw [if_neg l07] at e4
     refine RT ?_
     obtain rfl := oI e4
     try dsimp only at h
     obtain rfl := oI h
     exact WQ.retZ G H (by repeat (first | exact List.Sublist.refl _ | apply List.Sublist.cons)) hzz G
    replace hk17 : b15 = true := by simpa using hk17
    subst hk17
    rw [if_pos rfl] at e4
    refine SK (TN (q0m (q06 (q0f (TN ?_)))))
    obtain ⟨n18, hxn18, e4⟩ := bnd e4
    refine RG (ST (q0u G G hxn18) G (MV G G (NL ?_)))
    exact AG m8 ⟨_, _, _, _, G, H, gM, gT, hp2, f9_0, hzz, e4⟩ (l0a _)
   rw [if_neg hk13] at e4
   refine SK (TN (SQ (RG (MV G G (q2g H Tu9 G (q00 G) G ?_)))))
   intro bk25 w H
   refine NL (TN ?_)
   obtain ⟨o19, e20, e4⟩ := bnd e4
   refine q0l (fun e w => ∃ (s21 : σ) (Lc : List Ph.Item) (M : Mem), e = [(0, (yv lid)), (2, ptr bp2 0), (9, v9), (10, I (l1.length : Int)), (11, I n6)] ∧ StX C w0 M0 M (Lc) w ∧ GlF (fun w => ∃ m, w.cell? ⟨2, 0, none⟩ = some (.int .i64 m)) M ∧ Tabs M ∧ PtM M bp2 (.cells #[S p2] 9) ∧ Sl M encS v9 l1 ∧ ZH Z s21 Lc M ∧ some (.inl s21) = some o19) [] ?_ ?_ (trivial)
   ·
    refine BL (q0J (fun m e w => ∃ (ps22 : Nat) (s23 : σ) (Lc : List Ph.Item) (M : Mem), e = [(0, (yv lid)), (2, ptr bp2 0), (9, v9), (10, I (l1.length : Int)), (11, I n6), (25, ptr bk25 0)] ∧ StX C w0 M0 M (.blk bk25 (.stringIter ⟨((a10) : Ls).toArray⟩ ps22) :: Lc) w ∧ GlF (fun w => ∃ m, w.cell? ⟨2, 0, none⟩ = some (.int .i64 m)) M ∧ Tabs M ∧ PtM M bp2 (.cells #[S p2] 9) ∧ Sl M encS v9 l1 ∧ ZH Z s23 Lc M ∧ Y13 Y a10 m ps22 s23 = some o19) FU [(0, _), (2, _), (9, _), (10, _), (11, _), (25, _)] ⟨rfl, rfl, rfl, rfl, rfl, rfl, trivial⟩ ⟨_, _, _, _, rfl, H, gM, gT, hp2, f9_0, hzz, e20⟩ ?_)
    rintro m24 e w ⟨ps22, s23, Lc, M, rfl, H, gM, gT, hp2, f9_0, hzz, e20⟩
    rcases m24 with _ | m24
    · rw [Y13] at e20; cases e20
    rw [Y13] at e20
    refine SQ ?_
    by_cases hk25 : ps22 < a10.length
    ·
     rw [if_pos hk25] at e20
     refine RG (WR.nextT H hk25 G Ku (q00 G) G ?_)
     intro w H
     refine ST (q0e G G) G (NL (TN (SQ (CT G (SK (TN (BL (SQ (RG (ST (q0e G G) G (AS G G (NL (TN (SQ ?_))))))))))))))
     obtain ⟨⟨s26, b27⟩, hx28, e20⟩ := bnd e20
     try dsimp only at e20
     refine RG (MV G G (MV G G (ST (Ex.runeStr Tu21 Tu9 G) G (WR.yieldS H (.right (q1P _)) hY hzz hx28 G G (q00 G) G ?_))))
     intro w M Lc H hle hzz
     simp only [l05, l06] at H
     replace gM := gM.mono hle
     replace gT := gT.mono hle
     replace f9_0 := f9_0.mono hle
     replace hp2 := hp2.mono hle
     refine ST (q0R G) G (NL (TN ?_))
     refine q0o G (fun hk29 => ?_) (fun hk29 => ?_)
     ·
      replace hk29 : b27 = false := by simpa using hk29
      subst hk29
      rw [if_neg l07] at e20
      refine RT ?_
      obtain rfl := oI e20
      try dsimp only at e4
      obtain rfl := oI e4
      try dsimp only at h
      obtain rfl := oI h
      exact WQ.retZ G H (by repeat (first | exact List.Sublist.refl _ | apply List.Sublist.cons)) hzz G
     replace hk29 : b27 = true := by simpa using hk29
     subst hk29
     rw [if_pos rfl] at e20
     refine SK (IB ?_)
     exact AG m24 ⟨_, _, _, _, G, H, gM, gT, hp2, f9_0, hzz, e20⟩ (l0a _)
    rw [if_neg hk25] at e20
    refine RG (WR.nextF H (l1Q hk25) G Km (q00 G) G ?_)
    refine ST (q0e G G) G (NL (TN (SQ (CF G (q0m (q06 (q06 (q0f ?_))))))))
    exact MN ⟨_, _, _, G, (H.pick (L' := (Lc)) (by repeat (first | refine Pick.cons Kv ?_ | exact Pick.ofSub (by repeat (first | exact List.Sublist.refl _ | apply List.Sublist.cons))))), gM, gT, hp2, f9_0, hzz, e20⟩
   rintro e w ⟨s21, Lc, M, rfl, H, gM, gT, hp2, f9_0, hzz, q30⟩
   obtain rfl := oI q30
   try dsimp only at e4
   refine IB (TN ?_)
   obtain ⟨n31, hxn31, e4⟩ := bnd e4
   refine RG (ST (q0u G G hxn31) G (MV G G (NL ?_)))
   exact AG m8 ⟨_, _, _, _, G, H, gM, gT, hp2, f9_0, hzz, e4⟩ (l0a _)
  rw [if_neg hk9] at e4
  refine q0m (q06 (q06 (q0f ?_)))
  exact MN ⟨_, _, _, G, H, gM, gT, hzz, e4⟩
 rintro e w ⟨s5, Lc, M, rfl, H, gM, gT, hzz, q34⟩
 obtain rfl := oI q34
 try dsimp only at h
 obtain rfl := oI h
 exact WQ.endZ G H (by repeat (first | exact List.Sublist.refl _ | apply List.Sublist.cons)) hzz G
set_option maxHeartbeats 4000000 in
theorem Y4C {p0 : Ls} {r : (Ls × (Int × Int))} (h : Y0w p0 = some r) : Ct Tryz.prog 78 [S p0] (fun M => GlF (fun w => ∃ m, w.cell? ⟨2, 0, none⟩ = some (.int .i64 m)) M ∧ Tabs M) (fun v M => v = Value.tuple #[S r.1, Value.agg #[I r.2.1, I r.2.2]]) := by
 refine Ct.ofM Tryz.func78 (enters Tryz.func78 Kr G) G G G ?_
 intro w0 M0 H hp
 obtain ⟨gM, gT⟩ := hp
 unfold Y0w at h
 refine SQ (RG (AS G G (q0g [_, _] H Tz27 G (q00 G) G ?_)))
 intro bk3 w H
 refine NL (TN (SQ (SQ (RG (MV G G (ST (q0k Tu9 G) G (ST (q0K G G) G (NL (TN ?_)))))))))
 refine CB (p := (1000 : Int) < (p0.length : Int)) G (fun hk1 => ?_) fun hk1 => ?_
 ·
  rw [if_pos hk1] at h
  refine SQ ?_
  obtain ⟨⟨n2, n3⟩, hx4, h⟩ := bnd h
  try dsimp only at h
  refine RG (q05 H (Y0E hx4) G trivial (q00 G) G ?_)
  intro v11 M w H hle hR
  replace gM := gM.mono hle
  replace gT := gT.mono hle
  try dsimp only at hR
  obtain rfl := hR
  refine AS G G (q0b [_, _] H G G G Ku Ts27 G Kf Kf (q00 G) ?_)
  intro w H
  refine NL (TN (RT ?_))
  obtain rfl := oI h
  exact WQ.mret2 G G ⟨_, G, H.loadAgg Km Ta27 Ts27 Kf⟩ H.ext G
 rw [if_neg hk1] at h
 refine SK (TN (SQ (SQ ?_)))
 obtain ⟨b5, hx6, h⟩ := bnd h
 refine RG (MV G G (q05 H (Y3m hx6) G (gT) (q00 G) G ?_))
 intro v13 M w H hle hR
 replace gM := gM.mono hle
 replace gT := gT.mono hle
 obtain rfl := hR
 refine ST (q0R G) G (NL (TN ?_))
 refine q0o G (fun hk7 => ?_) (fun hk7 => ?_)
 ·
  replace hk7 : b5 = false := by simpa using hk7
  subst hk7
  rw [if_neg l07] at h
  refine SQ ?_
  obtain ⟨⟨n8, n9⟩, hx10, h⟩ := bnd h
  try dsimp only at h
  refine RG (q05 H (Y0E hx10) G trivial (q00 G) G ?_)
  intro v15 M w H hle hR
  replace gM := gM.mono hle
  replace gT := gT.mono hle
  try dsimp only at hR
  obtain rfl := hR
  refine AS G G (q0b [_, _] H G G G Ku Ts27 G Kf Kf (q00 G) ?_)
  intro w H
  refine NL (TN (RT ?_))
  obtain rfl := oI h
  exact WQ.mret2 G G ⟨_, G, H.loadAgg Km Ta27 Ts27 Kf⟩ H.ext G
 replace hk7 : b5 = true := by simpa using hk7
 subst hk7
 rw [if_pos rfl] at h
 refine SK (TN (SQ (SQ ?_)))
 obtain ⟨b11, hx12, h⟩ := bnd h
 refine RG (MV G G (q05 H (Y4H hx12) G (gM) (q00 G) G ?_))
 intro v17 M w H hle hR
 replace gM := gM.mono hle
 replace gT := gT.mono hle
 obtain rfl := hR
 refine NL (TN ?_)
 refine q0o G (fun hk13 => ?_) (fun hk13 => ?_)
 ·
  subst hk13
  rw [if_pos rfl] at h
  refine SQ ?_
  obtain ⟨⟨n14, n15⟩, hx16, h⟩ := bnd h
  try dsimp only at h
  refine RG (MV G G (q05 H (Y0P hx16) G trivial (q00 G) G ?_))
  intro v19 M w H hle hR
  replace gM := gM.mono hle
  replace gT := gT.mono hle
  try dsimp only at hR
  obtain rfl := hR
  refine AS G G (q0b [_, _] H G G G Ku Ts27 G Kf Kf (q00 G) ?_)
  intro w H
  refine NL (TN (RT ?_))
  obtain rfl := oI h
  exact WQ.mret2 G G ⟨_, G, H.loadAgg Km Ta27 Ts27 Kf⟩ H.ext G
 subst hk13
 rw [if_neg l07] at h
 refine SK (TN (SQ ?_))
 obtain ⟨s17, hx18, h⟩ := bnd h
 refine RG (MV G G (q05 H (Y4A hx18) G trivial (q00 G) G ?_))
 intro v21 M w H hle hR
 replace gM := gM.mono hle
 replace gT := gT.mono hle
 obtain rfl := hR
 refine q0g [_] H Tz9 G (q00 G) G ?_
 intro bk4 w H
 refine q0b [_] H G G G Ku Ts9 G Kf Kf (q00 G) ?_
 intro w H
 refine NL (TN (SQ (RG (q0g [_] H Tz55 G (q00 G) G ?_))))
 intro bk5 w H
 refine NL (TN (SQ (RG (q0g [_] H Tz9 G (q00 G) G ?_))))
 intro bk6 w H
 refine q0b [_] H G G G Ku Ts9 G Kf Kf (q00 G) ?_
 intro w H
 refine NL (TN (SQ (SQ ?_)))
 obtain ⟨⟨z19, z21⟩, hx23, h⟩ := bnd h
 try dsimp only at h
 refine RG (ST (XL H Ta9) G ?_)
 refine MV G G (q05 H (Y4I hx23) G trivial (q00 G) G ?_)
 intro v24 M w H hle hR
 replace gM := gM.mono hle
 replace gT := gT.mono hle
 try dsimp only at hR
 obtain ⟨bk24_0_0, bk24_0_1, rfl, f24_0_0, f24_0_1⟩ := hR
 refine NL (TN (BL ?_))
 replace H := H.newRow 9 encS
 obtain ⟨o30, e31, h⟩ := bnd h
 refine WC.rangeS (A := []) (L := [.blk bk3 (.cells #[I 0, I 0] 27), .blk bk4 (.cells #[S s17] 9), .blk bk5 (.cells #[(Value.slice none 0 0)] 55), RowI 9 encS (Value.slice none 0 0) [], .blk bk6 (.cells #[S []] 9)]) (B := []) (H.pick (L' := [.blk bk3 (.cells #[I 0, I 0] 27), .blk bk4 (.cells #[S s17] 9), .blk bk5 (.cells #[(Value.slice none 0 0)] 55), RowI 9 encS (Value.slice none 0 0) [], .blk bk6 (.cells #[S []] 9)]) Kp) rfl Y4u (.left (.left (.left (.left (.left (q0j _)))))) ⟨gM, gT, f24_0_0, f24_0_1⟩ rfl (fun s L M => ∃ (l25 : List Ls) (v26 : Value) (s27 : Ls), s = (l25, s27) ∧ L = [.blk bk3 (.cells #[I 0, I 0] 27), .blk bk4 (.cells #[S s17] 9), .blk bk5 (.cells #[v26] 55), RowI 9 encS v26 l25, .blk bk6 (.cells #[S s27] 9)] ∧ GlF (fun w => ∃ m, w.cell? ⟨2, 0, none⟩ = some (.int .i64 m)) M ∧ Tabs M) (fun _ => none) goOn (fun _ => rfl) (Y1p s17) ([], []) o30 e31 (by rintro s L M M' ⟨l25, v26, s27, rfl, rfl, gM, gT⟩ hle; exact ⟨_, _, _, rfl, rfl, gM.mono hle, gT.mono hle⟩) rfl ⟨_, _, _, rfl, rfl, gM, gT⟩ ?_ ?_ ?_
 ·
  rintro lid28 rc28 hrc28 s x32 sx28 L wb28 Mb28 hE e33 ⟨l25, v26, s27, rfl, rfl, gM, gT⟩ H
  unfold Y1p at e33
  try dsimp only at e33
  refine RG (AS G G (NL (WQ.begin hrc28 H Ku ?_)))
  intro w H
  refine BL (SQ (SQ ?_))
  obtain ⟨o34, e35, e33⟩ := bnd e33
  refine q0l (fun e w => ∃ (b36 : Bool) (M : Mem), e = [(3, ptr bk3 0), (4, ptr bk4 0), (5, ptr bk5 0), (6, ptr bk6 0), (7, S x32), (36, Value.bool b36)] ∧ StX (feet (.blk lid28 (.loop (rc28 .ready none)) :: [.blk bk3 (.cells #[I 0, I 0] 27), .blk bk4 (.cells #[S s17] 9), .blk bk5 (.cells #[v26] 55), RowI 9 encS v26 l25, .blk bk6 (.cells #[S s27] 9)])) wb28 Mb28 M [.blk bk3 (.cells #[I 0, I 0] 27), .blk bk4 (.cells #[S s17] 9), .blk bk5 (.cells #[v26] 55), RowI 9 encS v26 l25, .blk bk6 (.cells #[S s27] 9), .blk lid28 (.loop (rc28 .busy none))] w ∧ GlF (fun w => ∃ m, w.cell? ⟨2, 0, none⟩ = some (.int .i64 m)) M ∧ Tabs M ∧ some b36 = some o34) [] ?_ ?_ (trivial)
  ·
   by_cases hk37 : s27 = []
   ·
    rw [if_pos hk37] at e35
    refine RG (ST (XL H Ta9) G ?_)
    refine q09 (v' := .bool false) (q1u G G) (congrArg Value.bool (by rw [decide_eq_true hk37]; rfl)) (q00 G) G G ?_
    refine MV G G (q0i 7 G G (PF G G G (NL ?_)))
    exact MN ⟨_, _, G, (H.pick (L' := [.blk bk3 (.cells #[I 0, I 0] 27), .blk bk4 (.cells #[S s17] 9), .blk bk5 (.cells #[v26] 55), RowI 9 encS v26 l25, .blk bk6 (.cells #[S s27] 9), .blk lid28 (.loop (rc28 .busy none))]) Kp), gM, gT, e35⟩
   rw [if_neg hk37] at e35
   obtain ⟨s38, hxs38, e35⟩ := bnd e35
   obtain ⟨s39, hx40, e35⟩ := bnd e35
   refine RG (ST (XL H Ta9) G ?_)
   refine q09 (v' := .bool true) (q1u G G) (congrArg Value.bool (by rw [decide_eq_false hk37]; rfl)) (q00 G) G G ?_
   refine MV G G (SG (XL H Ta9) G G G ?_)
   refine SG (XL H Ta9) G G G ?_
   refine SG (q02 G) G G G (SG (q0p G G hxs38) G G G (q05 H (Y0Q hx40) G ⟨gM, gT⟩ (q04 G G G) G ?_))
   intro v33 M w H hle hR
   replace gM := gM.mono hle
   replace gT := gT.mono hle
   obtain rfl := hR
   refine SG (q0k Tu9 G) G G G (SG (q0K G G) G G G (PT G G G (NL ?_)))
   exact MN ⟨_, _, G, (H.pick (L' := [.blk bk3 (.cells #[I 0, I 0] 27), .blk bk4 (.cells #[S s17] 9), .blk bk5 (.cells #[v26] 55), RowI 9 encS v26 l25, .blk bk6 (.cells #[S s27] 9), .blk lid28 (.loop (rc28 .busy none))]) Kp), gM, gT, e35⟩
  rintro e w ⟨b36, M, rfl, H, gM, gT, q41⟩
  obtain rfl := oI q41
  refine TN ?_
  refine q0o G (fun hk42 => ?_) (fun hk42 => ?_)
  ·
   subst hk42
   rw [if_pos rfl] at e33
   refine SQ ?_
   obtain ⟨s43, hx44, e33⟩ := bnd e33
   obtain ⟨l45, hxl45, e33⟩ := bnd e33
   refine q1Z (fun e w => ∃ (v46 : Value) (M : Mem), e = [(3, ptr bk3 0), (4, ptr bk4 0), (5, ptr bk5 0), (6, ptr bk6 0), (7, S x32)] ∧ StX (feet (.blk lid28 (.loop (rc28 .ready none)) :: [.blk bk3 (.cells #[I 0, I 0] 27), .blk bk4 (.cells #[S s17] 9), .blk bk5 (.cells #[v26] 55), RowI 9 encS v26 l25, .blk bk6 (.cells #[S s27] 9)])) wb28 Mb28 M [.blk bk3 (.cells #[I 0, I 0] 27), .blk bk4 (.cells #[S s17] 9), .blk bk5 (.cells #[v46] 55), RowI 9 encS v46 l45, .blk bk6 (.cells #[S s27] 9), .blk lid28 (.loop (rc28 .busy none))] w ∧ GlF (fun w => ∃ m, w.cell? ⟨2, 0, none⟩ = some (.int .i64 m)) M ∧ Tabs M) ?_ ?_
   ·
    refine q0F (m := 7) G G H ?_
    intro w H
    refine WA.three (i := 0) (j := 1) (k := 2) Kr G G G ?_ ?_ ?_
    ·
     refine ST (XL H Ta55) G ?_
     refine NA ?_
     refine q0P (i := 1) (j := 2) Kr G G ?_ ?_
     ·
      refine ST (XL H Ta9) G ?_
      refine NA (q0s (fuel := 0) [2, 3, 4, 5, 6] G Kr (ST (XL H Ta9) G ?_))
      refine q05 H (Y0Q hx44) G ⟨gM, gT⟩ (q00 G) G ?_
      intro v40 M w H hle hR
      replace gM := gM.mono hle
      replace gT := gT.mono hle
      obtain rfl := hR
      refine q0B (enc := encS) xty55 ([s43] : List Ls) H G Kf (fun _ => G) G G (q00 G) G ?_
      intro v41 M w H hle hs41
      replace gM := gM.mono hle
      replace gT := gT.mono hle
      refine q1l (l := l25) xty55 G (fun _ => G) H G (fun _ => by repeat first | exact .head | apply Upd.tail) G (hs41) hxl45 (q00 G) G ?_
      intro v42 w H
      refine q0O [_] H G G (H.rowOne Km) Ku Kf Ts55 (by first | decide | (simp; done) | (simp; omega)) (q00 G) ?_
      intro w H
      refine NA (q0h Kr ?_)
      exact MP ⟨_, _, G, H, gM, gT⟩
     refine ST (XL H Ta9) G ?_
     refine NA (q0s (fuel := 0) [1, 3, 4, 5, 6] G Kr (ST (XL H Ta9) G ?_))
     refine q05 H (Y0Q hx44) G ⟨gM, gT⟩ (q00 G) G ?_
     intro v40 M w H hle hR
     replace gM := gM.mono hle
     replace gT := gT.mono hle
     obtain rfl := hR
     refine q0B (enc := encS) xty55 ([s43] : List Ls) H G Kf (fun _ => G) G G (q00 G) G ?_
     intro v41 M w H hle hs41
     replace gM := gM.mono hle
     replace gT := gT.mono hle
     refine q1l (l := l25) xty55 G (fun _ => G) H G (fun _ => by repeat first | exact .head | apply Upd.tail) G (hs41) hxl45 (q00 G) G ?_
     intro v42 w H
     refine q0O [_] H G G (H.rowOne Km) Ku Kf Ts55 (by first | decide | (simp; done) | (simp; omega)) (q00 G) ?_
     intro w H
     refine NA (q0h Kr ?_)
     exact MP ⟨_, _, G, H, gM, gT⟩
    ·
     refine ST (XL H Ta9) G ?_
     refine NA ?_
     refine q0P (i := 0) (j := 2) Kr G G ?_ ?_
     ·
      refine ST (XL H Ta55) G ?_
      refine NA (q0s (fuel := 0) [2, 3, 4, 5, 6] G Kr (ST (XL H Ta9) G ?_))
      refine q05 H (Y0Q hx44) G ⟨gM, gT⟩ (q00 G) G ?_
      intro v40 M w H hle hR
      replace gM := gM.mono hle
      replace gT := gT.mono hle
      obtain rfl := hR
      refine q0B (enc := encS) xty55 ([s43] : List Ls) H G Kf (fun _ => G) G G (q00 G) G ?_
      intro v41 M w H hle hs41
      replace gM := gM.mono hle
      replace gT := gT.mono hle
      refine q1l (l := l25) xty55 G (fun _ => G) H G (fun _ => by repeat first | exact .head | apply Upd.tail) G (hs41) hxl45 (q00 G) G ?_
      intro v42 w H
      refine q0O [_] H G G (H.rowOne Km) Ku Kf Ts55 (by first | decide | (simp; done) | (simp; omega)) (q00 G) ?_
      intro w H
      refine NA (q0h Kr ?_)
      exact MP ⟨_, _, G, H, gM, gT⟩
     refine ST (XL H Ta9) G ?_
     refine NA ?_
     refine q0P (i := 0) (j := 3) Kr G G ?_ ?_
     ·
      refine ST (XL H Ta55) G ?_
      refine NA (q0s (fuel := 0) [3, 4, 5, 6] G Kr (q05 H (Y0Q hx44) G ⟨gM, gT⟩ (q00 G) G ?_))
      intro v40 M w H hle hR
      replace gM := gM.mono hle
      replace gT := gT.mono hle
      obtain rfl := hR
      refine q0B (enc := encS) xty55 ([s43] : List Ls) H G Kf (fun _ => G) G G (q00 G) G ?_
      intro v41 M w H hle hs41
      replace gM := gM.mono hle
      replace gT := gT.mono hle
      refine q1l (l := l25) xty55 G (fun _ => G) H G (fun _ => by repeat first | exact .head | apply Upd.tail) G (hs41) hxl45 (q00 G) G ?_
      intro v42 w H
      refine q0O [_] H G G (H.rowOne Km) Ku Kf Ts55 (by first | decide | (simp; done) | (simp; omega)) (q00 G) ?_
      intro w H
      refine NA (q0h Kr ?_)
      exact MP ⟨_, _, G, H, gM, gT⟩
     refine q05 H (Y0Q hx44) G ⟨gM, gT⟩ (q00 G) G ?_
     intro v40 M w H hle hR
     replace gM := gM.mono hle
     replace gT := gT.mono hle
     obtain rfl := hR
     refine NA ?_
     refine q0P (i := 0) (j := 4) Kr G G ?_ ?_
     ·
      refine ST (XL H Ta55) G ?_
      refine NA (q0s (fuel := 0) [4, 5, 6] G Kr (q0B (enc := encS) xty55 ([s43] : List Ls) H G Kf (fun _ => G) G G (q00 G) G ?_))
      intro v41 M w H hle hs41
      replace gM := gM.mono hle
      replace gT := gT.mono hle
      refine q1l (l := l25) xty55 G (fun _ => G) H G (fun _ => by repeat first | exact .head | apply Upd.tail) G (hs41) hxl45 (q00 G) G ?_
      intro v42 w H
      refine q0O [_] H G G (H.rowOne Km) Ku Kf Ts55 (by first | decide | (simp; done) | (simp; omega)) (q00 G) ?_
      intro w H
      refine NA (q0h Kr ?_)
      exact MP ⟨_, _, G, H, gM, gT⟩
     refine q0B (enc := encS) xty55 ([s43] : List Ls) H G Kf (fun _ => G) G G (q00 G) G ?_
     intro v41 M w H hle hs41
     replace gM := gM.mono hle
     replace gT := gT.mono hle
     refine NA (q0s (fuel := 0) [0, 5, 6] G Kr (ST (XL H Ta55) G ?_))
     refine q1l (l := l25) xty55 G (fun _ => G) H G (fun _ => by repeat first | exact .head | apply Upd.tail) G (hs41) hxl45 (q00 G) G ?_
     intro v42 w H
     refine q0O [_] H G G (H.rowOne Km) Ku Kf Ts55 (by first | decide | (simp; done) | (simp; omega)) (q00 G) ?_
     intro w H
     refine NA (q0h Kr ?_)
     exact MP ⟨_, _, G, H, gM, gT⟩
    refine ST (XL H Ta9) G ?_
    refine NA ?_
    refine q0P (i := 0) (j := 1) Kr G G ?_ ?_
    ·
     refine ST (XL H Ta55) G ?_
     refine NA (q0s (fuel := 0) [1, 3, 4, 5, 6] G Kr (ST (XL H Ta9) G ?_))
     refine q05 H (Y0Q hx44) G ⟨gM, gT⟩ (q00 G) G ?_
     intro v40 M w H hle hR
     replace gM := gM.mono hle
     replace gT := gT.mono hle
     obtain rfl := hR
     refine q0B (enc := encS) xty55 ([s43] : List Ls) H G Kf (fun _ => G) G G (q00 G) G ?_
     intro v41 M w H hle hs41
     replace gM := gM.mono hle
     replace gT := gT.mono hle
     refine q1l (l := l25) xty55 G (fun _ => G) H G (fun _ => by repeat first | exact .head | apply Upd.tail) G (hs41) hxl45 (q00 G) G ?_
     intro v42 w H
     refine q0O [_] H G G (H.rowOne Km) Ku Kf Ts55 (by first | decide | (simp; done) | (simp; omega)) (q00 G) ?_
     intro w H
     refine NA (q0h Kr ?_)
     exact MP ⟨_, _, G, H, gM, gT⟩
    refine ST (XL H Ta9) G ?_
    refine NA ?_
    refine q0P (i := 0) (j := 3) Kr G G ?_ ?_
    ·
     refine ST (XL H Ta55) G ?_
     refine NA (q0s (fuel := 0) [3, 4, 5, 6] G Kr (q05 H (Y0Q hx44) G ⟨gM, gT⟩ (q00 G) G ?_))
     intro v40 M w H hle hR
     replace gM := gM.mono hle
     replace gT := gT.mono hle
     obtain rfl := hR
     refine q0B (enc := encS) xty55 ([s43] : List Ls) H G Kf (fun _ => G) G G (q00 G) G ?_
     intro v41 M w H hle hs41
     replace gM := gM.mono hle
     replace gT := gT.mono hle
     refine q1l (l := l25) xty55 G (fun _ => G) H G (fun _ => by repeat first | exact .head | apply Upd.tail) G (hs41) hxl45 (q00 G) G ?_
     intro v42 w H
     refine q0O [_] H G G (H.rowOne Km) Ku Kf Ts55 (by first | decide | (simp; done) | (simp; omega)) (q00 G) ?_
     intro w H
     refine NA (q0h Kr ?_)
     exact MP ⟨_, _, G, H, gM, gT⟩
    refine q05 H (Y0Q hx44) G ⟨gM, gT⟩ (q00 G) G ?_
    intro v40 M w H hle hR
    replace gM := gM.mono hle
    replace gT := gT.mono hle
    obtain rfl := hR
    refine NA ?_
    refine q0P (i := 0) (j := 4) Kr G G ?_ ?_
    ·
     refine ST (XL H Ta55) G ?_
     refine NA (q0s (fuel := 0) [4, 5, 6] G Kr (q0B (enc := encS) xty55 ([s43] : List Ls) H G Kf (fun _ => G) G G (q00 G) G ?_))
     intro v41 M w H hle hs41
     replace gM := gM.mono hle
     replace gT := gT.mono hle
     refine q1l (l := l25) xty55 G (fun _ => G) H G (fun _ => by repeat first | exact .head | apply Upd.tail) G (hs41) hxl45 (q00 G) G ?_
     intro v42 w H
     refine q0O [_] H G G (H.rowOne Km) Ku Kf Ts55 (by first | decide | (simp; done) | (simp; omega)) (q00 G) ?_
     intro w H
     refine NA (q0h Kr ?_)
     exact MP ⟨_, _, G, H, gM, gT⟩
    refine q0B (enc := encS) xty55 ([s43] : List Ls) H G Kf (fun _ => G) G G (q00 G) G ?_
    intro v41 M w H hle hs41
    replace gM := gM.mono hle
    replace gT := gT.mono hle
    refine NA (q0s (fuel := 0) [0, 5, 6] G Kr (ST (XL H Ta55) G ?_))
    refine q1l (l := l25) xty55 G (fun _ => G) H G (fun _ => by repeat first | exact .head | apply Upd.tail) G (hs41) hxl45 (q00 G) G ?_
    intro v42 w H
    refine q0O [_] H G G (H.rowOne Km) Ku Kf Ts55 (by first | decide | (simp; done) | (simp; omega)) (q00 G) ?_
    intro w H
    refine NA (q0h Kr ?_)
    exact MP ⟨_, _, G, H, gM, gT⟩
   rintro e w ⟨v46, M, rfl, H, gM, gT⟩
   refine TN (RG (q0b [_] H G G G Ku Ts9 G Kf Kf (q00 G) ?_))
   intro w H
   refine NL (TN ?_)
   obtain ⟨s47, hxs47, e33⟩ := bnd e33
   refine RG (ST (XL H Ta9) G ?_)
   refine MV G G (ST (q0p G G hxs47) G (q0b [_] H G G G Ku Ts9 G Kf Kf (q00 G) ?_))
   intro w H
   refine NL (IB ?_)
   obtain rfl := oI e33
   exact WQ.rsOn hrc28 (H.pick (L' := [.blk lid28 (.loop (rc28 .busy none)), .blk bk3 (.cells #[I 0, I 0] 27), .blk bk4 (.cells #[S s17] 9), .blk bk5 (.cells #[v46] 55), RowI 9 encS v46 l45, .blk bk6 (.cells #[S s47] 9)]) Kp) G ⟨_, _, _, G, G, gM, gT⟩
  subst hk42
  rw [if_neg l07] at e33
  refine SK (TN ?_)
  obtain ⟨s48, hxs48, e33⟩ := bnd e33
  refine RG (ST (XL H Ta9) G ?_)
  refine MV G G (ST (q0p G G hxs48) G (q0b [_] H G G G Ku Ts9 G Kf Kf (q00 G) ?_))
  intro w H
  refine NL (IB ?_)
  obtain rfl := oI e33
  exact WQ.rsOn hrc28 (H.pick (L' := [.blk lid28 (.loop (rc28 .busy none)), .blk bk3 (.cells #[I 0, I 0] 27), .blk bk4 (.cells #[S s17] 9), .blk bk5 (.cells #[v26] 55), RowI 9 encS v26 l25, .blk bk6 (.cells #[S s48] 9)]) Kp) G ⟨_, _, _, G, G, gM, gT⟩
 ·
  rintro Dm28 w M L H hle hE ⟨l25, v26, s27, rfl, rfl, gM, gT⟩
  simp only [l05, l06, l0j] at H
  try dsimp only at h
  refine IB (TN (SQ ?_))
  obtain ⟨s49, hx50, h⟩ := bnd h
  obtain ⟨l51, hxl51, h⟩ := bnd h
  obtain ⟨s53, hx54, h⟩ := bnd h
  obtain ⟨⟨n55, n56⟩, hx57, h⟩ := bnd h
  try dsimp only at h
  refine q1Z (fun e w => ∃  (M : Mem), e = [(2, S s53), (3, ptr bk3 0)] ∧ St w0 M0 M [.blk bk3 (.cells #[I n55, I n56] 27), .blk Dm28 (.deferred (some []))] w ∧ GlF (fun w => ∃ m, w.cell? ⟨2, 0, none⟩ = some (.int .i64 m)) M ∧ Tabs M) ?_ ?_
  ·
   refine q0F (m := 10) G G H ?_
   intro w H
   refine q1c (i := 1) [0, 2] G Kr Kr Kr (XL H Ta9) (q00 G) G G (fun _ _ => G) ?_
   refine q1c (i := 2) [0] G Kr Kr Kr (XL H Ta9) (q00 G) G G (fun _ _ => G) ?_
   refine q0P (i := 0) (j := 3) Kr G G ?_ ?_
   ·
    refine ST (XL H Ta55) G ?_
    refine NA (q0s (fuel := 0) [3, 4, 5, 6, 7, 8, 9] G Kr (q05 H (Y0Q hx50) G ⟨gM, gT⟩ (q00 G) G ?_))
    intro v49 M w H hle hR
    replace gM := gM.mono hle
    replace gT := gT.mono hle
    obtain rfl := hR
    refine q0B (enc := encS) xty55 ([s49] : List Ls) H G Kf (fun _ => G) G G (q00 G) G ?_
    intro v50 M w H hle hs50
    replace gM := gM.mono hle
    replace gT := gT.mono hle
    refine q1l (l := l25) xty55 G (fun _ => G) H G (fun _ => by repeat first | exact .head | apply Upd.tail) G (hs50) hxl51 (q00 G) G ?_
    intro v51 w H
    obtain ⟨M, hle, hs52, H⟩ := H.freezeRow (v := v51) (enc := encS) (t := 9) Kv
    replace gM := gM.mono hle
    replace gT := gT.mono hle
    replace hs50 := hs50.mono hle
    refine q05 H (Y1D hx54) G (hs52) (q00 G) G ?_
    intro v52 M w H hle hR
    replace gM := gM.mono hle
    replace gT := gT.mono hle
    replace hs50 := hs50.mono hle
    replace hs52 := hs52.mono hle
    obtain rfl := hR
    refine q05 H (Y0P hx57) G trivial (q00 G) G ?_
    intro v53 M w H hle hR
    replace gM := gM.mono hle
    replace gT := gT.mono hle
    replace hs50 := hs50.mono hle
    replace hs52 := hs52.mono hle
    try dsimp only at hR
    obtain rfl := hR
    refine AS G G (q0b [_, _] H G G G Ku Ts27 G Kf Kf (q00 G) ?_)
    intro w H
    refine NA (q0h Kr ?_)
    exact MP ⟨_, G, (H.pick (L' := [.blk bk3 (.cells #[I n55, I n56] 27), .blk Dm28 (.deferred (some []))]) Kp), gM, gT⟩
   refine q05 H (Y0Q hx50) G ⟨gM, gT⟩ (q00 G) G ?_
   intro v49 M w H hle hR
   replace gM := gM.mono hle
   replace gT := gT.mono hle
   obtain rfl := hR
   refine NA ?_
   refine q0P (i := 0) (j := 4) Kr G G ?_ ?_
   ·
    refine ST (XL H Ta55) G ?_
    refine NA (q0s (fuel := 0) [4, 5, 6, 7, 8, 9] G Kr (q0B (enc := encS) xty55 ([s49] : List Ls) H G Kf (fun _ => G) G G (q00 G) G ?_))
    intro v50 M w H hle hs50
    replace gM := gM.mono hle
    replace gT := gT.mono hle
    refine q1l (l := l25) xty55 G (fun _ => G) H G (fun _ => by repeat first | exact .head | apply Upd.tail) G (hs50) hxl51 (q00 G) G ?_
    intro v51 w H
    obtain ⟨M, hle, hs52, H⟩ := H.freezeRow (v := v51) (enc := encS) (t := 9) Kv
    replace gM := gM.mono hle
    replace gT := gT.mono hle
    replace hs50 := hs50.mono hle
    refine q05 H (Y1D hx54) G (hs52) (q00 G) G ?_
    intro v52 M w H hle hR
    replace gM := gM.mono hle
    replace gT := gT.mono hle
    replace hs50 := hs50.mono hle
    replace hs52 := hs52.mono hle
    obtain rfl := hR
    refine q05 H (Y0P hx57) G trivial (q00 G) G ?_
    intro v53 M w H hle hR
    replace gM := gM.mono hle
    replace gT := gT.mono hle
    replace hs50 := hs50.mono hle
    replace hs52 := hs52.mono hle
    try dsimp only at hR
    obtain rfl := hR
    refine AS G G (q0b [_, _] H G G G Ku Ts27 G Kf Kf (q00 G) ?_)
    intro w H
    refine NA (q0h Kr ?_)
    exact MP ⟨_, G, (H.pick (L' := [.blk bk3 (.cells #[I n55, I n56] 27), .blk Dm28 (.deferred (some []))]) Kp), gM, gT⟩
   refine q0B (enc := encS) xty55 ([s49] : List Ls) H G Kf (fun _ => G) G G (q00 G) G ?_
   intro v50 M w H hle hs50
   replace gM := gM.mono hle
   replace gT := gT.mono hle
   refine NA (q0s (fuel := 0) [0, 5, 6, 7, 8, 9] G Kr (ST (XL H Ta55) G ?_))
   refine q1l (l := l25) xty55 G (fun _ => G) H G (fun _ => by repeat first | exact .head | apply Upd.tail) G (hs50) hxl51 (q00 G) G ?_
   intro v51 w H
   obtain ⟨M, hle, hs52, H⟩ := H.freezeRow (v := v51) (enc := encS) (t := 9) Kv
   replace gM := gM.mono hle
   replace gT := gT.mono hle
   replace hs50 := hs50.mono hle
   refine q05 H (Y1D hx54) G (hs52) (q00 G) G ?_
   intro v52 M w H hle hR
   replace gM := gM.mono hle
   replace gT := gT.mono hle
   replace hs50 := hs50.mono hle
   replace hs52 := hs52.mono hle
   obtain rfl := hR
   refine q05 H (Y0P hx57) G trivial (q00 G) G ?_
   intro v53 M w H hle hR
   replace gM := gM.mono hle
   replace gT := gT.mono hle
   replace hs50 := hs50.mono hle
   replace hs52 := hs52.mono hle
   try dsimp only at hR
   obtain rfl := hR
   refine AS G G (q0b [_, _] H G G G Ku Ts27 G Kf Kf (q00 G) ?_)
   intro w H
   refine NA (q0h Kr ?_)
   exact MP ⟨_, G, (H.pick (L' := [.blk bk3 (.cells #[I n55, I n56] 27), .blk Dm28 (.deferred (some []))]) Kp), gM, gT⟩
  rintro e w ⟨M, rfl, H, gM, gT⟩
  refine TN (RT ?_)
  obtain rfl := oI h
  exact WQ.nret2 G H Kv (fun w H => ⟨G, ⟨_, G, H.loadAgg Km Ta27 Ts27 Kf⟩⟩) G
 intro Dm w M L c H hle hE; cases hE
theorem Y2Y {p0 : Ls} {r : Ls} (h : Y1V p0 = some r) : Ct Tryz.prog 43 [S p0] (fun M => GlF (fun w => ∃ m, w.cell? ⟨2, 0, none⟩ = some (.int .i64 m)) M ∧ Tabs M) (fun v M => v = S r) := by
 refine Ct.ofM Tryz.func43 (enters Tryz.func43 Kr G) G G G ?_
 intro w0 M0 H hp
 obtain ⟨gM, gT⟩ := hp
 unfold Y1V at h
 refine SQ (RG (q1t [_] H G G (q00 G) G ?_))
 intro bk1 w H
 refine q0g [_] H Tz9 G (q00 G) G ?_
 intro bk2 w H
 refine NL (TN (SQ (SQ ?_)))
 obtain ⟨⟨s1, ⟨n2, n3⟩⟩, hx4, h⟩ := bnd h
 try dsimp only at h
 refine RG (ST (XL H Ta9) G ?_)
 refine q05 H (Y4C hx4) G ⟨gM, gT⟩ (q00 G) G ?_
 intro v8 M w H hle hR
 replace gM := gM.mono hle
 replace gT := gT.mono hle
 try dsimp only at hR
 obtain rfl := hR
 refine MV G G (ST (q0e G G) G (ST (q0e G G) G (q0g [_, _] H Tz27 G (q00 G) G ?_)))
 intro bk4 w H
 refine AS G G (q0b [_, _] H G G G Ku Ts27 G Kf Kf (q00 G) ?_)
 intro w H
 refine NL (TN (SQ (RG (MV G G (ST (XL H Ta9) G ?_)))))
 refine ST (q1u G G) G (NL (TN ?_))
 refine q0o G (fun hk5 => ?_) (fun hk5 => ?_)
 ·
  replace hk5 : ¬ (s1 = p0) := of_not_decide hk5
  rw [if_neg hk5] at h
  refine SQ (RG (MV G G (q0b [_] H G G G Ku Ts9 G Kf Kf (q00 G) ?_)))
  intro w H
  refine NL (TN (RT ?_))
  obtain rfl := oI h
  exact WQ.mret1 G ⟨_, G, H.load1 Km Ta9 Kf⟩ H.ext G
 replace hk5 : s1 = p0 := of_not_decide' hk5
 rw [if_pos hk5] at h
 refine SK (TN (SQ (SQ (RG (ST (XL H Ta9) G ?_)))))
 refine q0w (A := []) (B := [.blk bk4 (.cells #[I n2, I n3] 27), .blk bk2 (.cells #[S []] 9), .blk bk1 (.cells #[S p0] 9)]) H Y3o (q0j _) G trivial (q00 G) G ?_
 intro v16 M w its H hle hR
 replace gM := gM.mono hle
 replace gT := gT.mono hle
 obtain ⟨bk16_0, bk16_1, bk16_2, rfl, rfl⟩ := hR
 simp only [l05, l06] at H
 refine NL (TN (BL ?_))
 obtain ⟨o9, e10, h⟩ := bnd h
 refine WC.rangeS (A := [.blk bk16_0 (.cells #[S [32]] 9), .blk bk16_1 (.cells #[S p0] 9), .blk bk16_2 (.cells #[I 0] 3)]) (L := [.blk bk1 (.cells #[S p0] 9), .blk bk2 (.cells #[S []] 9)]) (B := []) (H.pick (L' := [.blk bk16_0 (.cells #[S [32]] 9), .blk bk16_1 (.cells #[S p0] 9), .blk bk16_2 (.cells #[I 0] 3), .blk bk1 (.cells #[S p0] 9), .blk bk2 (.cells #[S []] 9)]) Kp) rfl Y33 (.left (.left (.left (.left (.left (q0j _)))))) ⟨gM, gT⟩ rfl (fun s L M => ∃ (s6 : Ls) (tg8 : Nat), s = (s6, tg8) ∧ L = [.blk bk1 (.cells #[S p0] 9), .blk bk2 (.cells #[S s6] 9)] ∧ GlF (fun w => ∃ m, w.cell? ⟨2, 0, none⟩ = some (.int .i64 m)) M ∧ Tabs M) (fun s => exE [.ret] s.2) exStop (fun s => exE_stop _ s) (Y1B p0) ([], 0) o9 e10 (by rintro s L M M' ⟨s6, tg8, rfl, rfl, gM, gT⟩ hle; exact ⟨_, _, rfl, rfl, gM.mono hle, gT.mono hle⟩) rfl ⟨_, _, rfl, rfl, gM, gT⟩ ?_ ?_ ?_
 ·
  rintro lid7 rc7 hrc7 s x11 sx7 L wb7 Mb7 hE e12 ⟨s6, tg8, rfl, rfl, gM, gT⟩ H
  unfold Y1B at e12
  try dsimp only at e12
  refine RG (AS G G (NL (WQ.begin hrc7 H Ku ?_)))
  intro w H
  refine BL (SQ ?_)
  obtain ⟨o13, e14, e12⟩ := bnd e12
  refine q0l (fun e w => ∃ (b15 : Bool) (M : Mem), e = [(1, ptr bk1 0), (2, ptr bk2 0), (24, Value.bool b15)] ∧ StX (feet (.blk lid7 (.loop (rc7 .ready none)) :: [.blk bk1 (.cells #[S p0] 9), .blk bk2 (.cells #[S s6] 9)])) wb7 Mb7 M [.blk bk1 (.cells #[S p0] 9), .blk bk2 (.cells #[S s6] 9), .blk lid7 (.loop (rc7 .busy none))] w ∧ GlF (fun w => ∃ m, w.cell? ⟨2, 0, none⟩ = some (.int .i64 m)) M ∧ Tabs M ∧ some b15 = some o13) [] ?_ ?_ (trivial)
  ·
   by_cases hk16 : x11 = []
   ·
    rw [if_pos hk16] at e14
    refine RG (MV G G (DT hk16 (q0I G G) G (MV G G (q0i 3 G G (PT G G G (NL ?_))))))
    exact MN ⟨_, _, G, (H.pick (L' := [.blk bk1 (.cells #[S p0] 9), .blk bk2 (.cells #[S s6] 9), .blk lid7 (.loop (rc7 .busy none))]) Kp), gM, gT, e14⟩
   rw [if_neg hk16] at e14
   obtain ⟨b17, hx18, e14⟩ := bnd e14
   refine RG (MV G G (DF hk16 (q0I G G) G (MV G G (SG (q02 G) G G G (q05 H (Y3Z hx18) G ((⟨⟨G, G⟩, (fun _ _ h => FnV.of (Y2P h) (fun _ _ => trivial))⟩ : FnT90 _ _ _)) (q04 G G G) G ?_)))))
   intro v22 M w H hle hR
   replace gM := gM.mono hle
   replace gT := gT.mono hle
   obtain rfl := hR
   refine SG (q0R G) G G G (PF G G G (NL ?_))
   exact MN ⟨_, _, G, (H.pick (L' := [.blk bk1 (.cells #[S p0] 9), .blk bk2 (.cells #[S s6] 9), .blk lid7 (.loop (rc7 .busy none))]) Kp), gM, gT, e14⟩
  rintro e w ⟨b15, M, rfl, H, gM, gT, q19⟩
  obtain rfl := oI q19
  refine TN ?_
  refine q0o G (fun hk20 => ?_) (fun hk20 => ?_)
  ·
   subst hk20
   rw [if_pos rfl] at e12
   refine SQ ?_
   obtain ⟨s21, hx22, e12⟩ := bnd e12
   refine RG (ST (XL H Ta9) G ?_)
   refine q05 H (Y2X hx22) G trivial (q00 G) G ?_
   intro v26 M w H hle hR
   replace gM := gM.mono hle
   replace gT := gT.mono hle
   obtain rfl := hR
   refine q0b [_] H G G G Ku Ts9 G Kf Kf (q00 G) ?_
   intro w H
   refine NL (TN (RT ?_))
   obtain rfl := oI e12
   exact WQ.rsRet hrc7 (H.pick (L' := [.blk lid7 (.loop (rc7 .busy none)), .blk bk1 (.cells #[S p0] 9), .blk bk2 (.cells #[S s21] 9)]) Kp) G ⟨_, _, G, G, gM, gT⟩
  subst hk20
  rw [if_neg l07] at e12
  refine SK (IB ?_)
  obtain rfl := oI e12
  exact WQ.rsOn hrc7 (H.pick (L' := [.blk lid7 (.loop (rc7 .busy none)), .blk bk1 (.cells #[S p0] 9), .blk bk2 (.cells #[S s6] 9)]) Kp) G ⟨_, _, G, G, gM, gT⟩
 ·
  rintro Dm7 w M L H hle hE ⟨s6, tg8, rfl, rfl, gM, gT⟩
  simp only [l05, l06, l0j] at H
  try dsimp only at h
  obtain rfl := exE_none hE
  rw [if_pos rfl] at h
  refine IB (TN (SQ (RG (ST (XL H Ta9) G ?_))))
  refine q0b [_] H G G G Ku Ts9 G Kf Kf (q00 G) ?_
  intro w H
  refine NL (TN (RT ?_))
  obtain rfl := oI h
  exact WQ.nret1 G H Kv (fun w H => ⟨_, G, H.load1 Km Ta9 Kf⟩) G
 rintro Dm7 w M L c H hle hE ⟨s6, tg8, rfl, rfl, gM, gT⟩
 simp only [l05, l06, l0j] at H
 try dsimp only at h
 by_cases kt7 : tg8 = 1
 ·
  subst kt7
  obtain rfl := oI hE
  rw [if_neg Dc, if_pos rfl] at h
  refine RT ?_
  obtain rfl := oI h
  exact WQ.nret1 G H Kv (fun w H => ⟨_, G, H.load1 Km Ta9 Kf⟩) G
 have kn7_1 := kt7
 rw [if_neg (exE_ne hE), if_neg kn7_1] at h; cases h
theorem Y4l {p0 : (Ls × Ls × Ls)} {r : Ls} (h : Y2j p0 = some r) : Ct Tryz.prog 40 [Value.agg #[S p0.1, S p0.2.1, S p0.2.2]] (fun M => GlF (fun w => ∃ m, w.cell? ⟨2, 0, none⟩ = some (.int .i64 m)) M ∧ Tabs M) (fun v M => v = S r) := by
 refine Ct.of Tryz.func40 (enters Tryz.func40 Kr G) G G G ?_
 intro w0 M0 H hp
 obtain ⟨gM, gT⟩ := hp
 unfold Y2j at h
 refine SQ (RG (q1t [_, _, _] H G G (q00 G) G ?_))
 intro bk1 w H
 refine AS G G (NL (TN (SQ (SQ (RG (ST (q03 Tu24 G Ts9 Dc G) G (ST (XL H Ta9) G ?_)))))))
 refine ST (q0I G G) G (NL (TN ?_))
 refine CB (p := p0.1 = []) G (fun hk1 => ?_) fun hk1 => ?_
 ·
  rw [if_pos hk1] at h
  refine SQ ?_
  obtain ⟨s2, hx3, h⟩ := bnd h
  refine RG (ST (q0v H G Km Ta24 Ts24 Kf) G ?_)
  refine q05 H (Y1n hx3) G ⟨gM, gT⟩ (q00 G) G ?_
  intro v7 M w H hle hR
  replace gM := gM.mono hle
  replace gT := gT.mono hle
  obtain rfl := hR
  refine AS G G (NL (TN (RT ?_)))
  obtain rfl := oI h
  exact q07 G G H.ext G
 rw [if_neg hk1] at h
 refine SK (TN (SQ ?_))
 obtain ⟨s4, hx5, h⟩ := bnd h
 obtain ⟨s6, hxs6, h⟩ := bnd h
 obtain ⟨s7, hx8, h⟩ := bnd h
 obtain ⟨s9, hxs9, h⟩ := bnd h
 obtain ⟨s10, hxs10, h⟩ := bnd h
 refine q1Z (fun e w => ∃  (M : Mem), e = [(2, S s10)] ∧ St w0 M0 M [] w ∧ GlF (fun w => ∃ m, w.cell? ⟨2, 0, none⟩ = some (.int .i64 m)) M ∧ Tabs M) ?_ ?_
 ·
  refine q0F (m := 9) G G H ?_
  intro w H
  refine TK 0 G (fun _ => q03 Tu24 G Ts9 Dc G) G (q1c (i := 1) [4] G Kr Kr Kr (XL H Ta9) (q00 G) G G (fun _ _ => G) ?_)
  refine q0P (i := 2) (j := 4) Kr G G ?_ ?_
  ·
   refine q05 H (Y2Y hx5) G ⟨gM, gT⟩ (q00 G) G ?_
   intro v10 M w H hle hR
   replace gM := gM.mono hle
   replace gT := gT.mono hle
   obtain rfl := hR
   refine NA (TK 3 G (fun _ => q0p G G hxs6) G (q0s (fuel := 0) [4, 5, 6, 7, 8] G Kr (ST (q0v H G Km Ta24 Ts24 Kf) G ?_)))
   refine q05 H (Y1n hx8) G ⟨gM, gT⟩ (q00 G) G ?_
   intro v13 M w H hle hR
   replace gM := gM.mono hle
   replace gT := gT.mono hle
   obtain rfl := hR
   refine ST (q0p G G hxs9) G (ST (q0p G G hxs10) G (AS G G (NA (q0h Kr ?_))))
   exact MP ⟨_, G, (H.pick (L' := []) Kp), gM, gT⟩
  refine ST (q0v H G Km Ta24 Ts24 Kf) G ?_
  refine NA (ON 2 Kr G (q05 H (Y2Y hx5) G ⟨gM, gT⟩ (q00 G) G ?_))
  intro v10 M w H hle hR
  replace gM := gM.mono hle
  replace gT := gT.mono hle
  obtain rfl := hR
  refine NA (TK 3 G (fun _ => q0p G G hxs6) G (q0s (fuel := 0) [5, 6, 7, 8] G Kr (q05 H (Y1n hx8) G ⟨gM, gT⟩ (q00 G) G ?_)))
  intro v13 M w H hle hR
  replace gM := gM.mono hle
  replace gT := gT.mono hle
  obtain rfl := hR
  refine ST (q0p G G hxs9) G (ST (q0p G G hxs10) G (AS G G (NA (q0h Kr ?_))))
  exact MP ⟨_, G, (H.pick (L' := []) Kp), gM, gT⟩
 rintro e w ⟨M, rfl, H, gM, gT⟩
 refine TN (RT ?_)
 obtain rfl := oI h
 exact q07 G G H.ext G
theorem Y3z {p0 : Ls} {p1 : Ls} {r : Ls} (h : Y0J p0 p1 = some r) : Ct Tryz.prog 77 [S p0, S p1] (fun M => True) (fun v M => v = S r) := by
 refine Ct.of Tryz.func77 (enters Tryz.func77 Kr G) G G G ?_
 intro w0 M0 H hp
 unfold Y0J at h
 refine SQ (RG (AS G G (NL (TN (SQ (SQ ?_))))))
 obtain ⟨b1, hx2, h⟩ := bnd h
 refine RG (MV G G (MV G G (q05 H (Y2K hx2) G trivial (q00 G) G ?_)))
 intro v7 M w H hle hR
 obtain rfl := hR
 refine NL (TN ?_)
 refine q0o G (fun hk3 => ?_) (fun hk3 => ?_)
 ·
  subst hk3
  rw [if_pos rfl] at h
  refine SQ ?_
  obtain ⟨n4, hxn4, h⟩ := bnd h
  obtain ⟨s5, hxs5, h⟩ := bnd h
  refine RG (MV G G (MV G G (ST (q0k Tu9 G) G (MV G G (ST (q0k Tu9 G) G (ST (Ex.subC G G hxn4) G (ST (Ex.sliceH Tu9 G G hxs5) G (AS G G (NL (TN (RT ?_)))))))))))
  obtain rfl := oI h
  exact q07 G G H.ext G
 subst hk3
 rw [if_neg l07] at h
 refine SK (TN (SQ (RG (MV G G (AS G G (NL (TN (RT ?_))))))))
 obtain rfl := oI h
 exact q07 G G H.ext G
theorem Y40 {p0 : Ls} {p1 : Ls} {r : Ls} (h : Y0x p0 p1 = some r) : Ct Tryz.prog 42 [S p0, S p1] (fun M => True) (fun v M => v = S r) := by
 refine Ct.of Tryz.func42 (enters Tryz.func42 Kr G) G G G ?_
 intro w0 M0 H hp
 unfold Y0x at h
 refine SQ (RG (AS G G (NL (TN (SQ ?_)))))
 obtain ⟨s1, hx2, h⟩ := bnd h
 refine RG (MV G G (MV G G (q05 H (Y3z hx2) G trivial (q00 G) G ?_)))
 intro v7 M w H hle hR
 obtain rfl := hR
 refine AS G G (NL (TN (RT ?_)))
 obtain rfl := oI h
 exact q07 G G H.ext G
theorem Y3Q {p0 : List (Ls × Bool × List (Ls × Ls × Ls))} {vp0 : Value} {r : (Ls × (Int × Int))} (h : Y2N p0 = some r) : Ct Tryz.prog 16 [vp0] (fun M => GlF (fun w => ∃ m, w.cell? ⟨2, 0, none⟩ = some (.int .i64 m)) M ∧ Tabs M ∧ SlR xrl34 M vp0 p0) (fun v M => v = Value.tuple #[S r.1, Value.agg #[I r.2.1, I r.2.2]]) := by
 refine Ct.of Tryz.func16 (enters Tryz.func16 Kr G) G G G ?_
 intro w0 M0 H hp
 obtain ⟨gM, gT, hp0⟩ := hp
 unfold Y2N at h
 refine SQ (RG (AS G G (q0g [_, _] H Tz27 G (q00 G) G ?_)))
 intro bk3 w H
 refine NL (TN (SQ (SQ ?_)))
 obtain ⟨⟨n1, n2⟩, hx3, h⟩ := bnd h
 try dsimp only at h
 refine RG (MV G G (q05 H (Y28 hx3) G ⟨gM, gT, hp0⟩ (q00 G) G ?_))
 intro v14 M w H hle hR
 replace gM := gM.mono hle
 replace gT := gT.mono hle
 replace hp0 := hp0.mono hle
 try dsimp only at hR
 obtain rfl := hR
 refine q0g [_, _] H Tz27 G (q00 G) G ?_
 intro bk4 w H
 refine q0b [_, _] H G G G Ku Ts27 G Kf Kf (q00 G) ?_
 intro w H
 refine NL (TN (SQ ?_))
 obtain ⟨b4, hx5, h⟩ := bnd h
 refine RG (ST (q0v H G Km Ta27 Ts27 Kf) G ?_)
 refine q05 H (Y2k hx5) G trivial (q00 G) G ?_
 intro v16 M w H hle hR
 replace gM := gM.mono hle
 replace gT := gT.mono hle
 replace hp0 := hp0.mono hle
 obtain rfl := hR
 refine NL (TN ?_)
 refine q0o G (fun hk6 => ?_) (fun hk6 => ?_)
 ·
  subst hk6
  rw [if_pos rfl] at h
  refine SQ (q0F (m := 3) G G H ?_)
  intro w H
  refine TK 1 G (fun _ => Ex.assign G) G (q0s (fuel := 0) [0, 2] G Kr (ST (q0v H G Km Ta27 Ts27 Kf) G ?_))
  refine q0b [_, _] H G G G Ku Ts27 G Kf Kf (q00 G) ?_
  intro w H
  refine NA (q0h Kr (TN (RT ?_)))
  obtain rfl := oI h
  exact q0H G G ⟨_, G, H.loadAgg Km Ta27 Ts27 Kf⟩ H.ext G
 subst hk6
 rw [if_neg l07] at h
 refine SK (TN (SQ (RG (AS G G (NL (TN (SQ (SQ (RG (MV G G (ST (q1q Tu22 hp0 G) G (MV G G (NL (TN ?_))))))))))))))
 obtain ⟨o7, e8, h⟩ := bnd h
 refine q0l (fun e w => ∃ (l10 : List Ls) (v11 : Value) (M : Mem), e = [(3, ptr bk3 0), (5, v11)] ∧ St w0 M0 M [.blk bk3 (.cells #[I 0, I 0] 27), RowI 9 encS v11 l10] w ∧ GlF (fun w => ∃ m, w.cell? ⟨2, 0, none⟩ = some (.int .i64 m)) M ∧ Tabs M ∧ some l10 = some o7) [] ?_ ?_ (trivial)
 ·
  refine BL ?_
  replace H := H.newRow 9 encS
  refine q0J (fun m e w => ∃ (l13 : List Ls) (v14 : Value) (n15 : Int) (M : Mem), e = [(3, ptr bk3 0), (5, v14), (18, vp0), (19, I (p0.length : Int)), (20, I n15)] ∧ St w0 M0 M [.blk bk3 (.cells #[I 0, I 0] 27), RowI 9 encS v14 l13] w ∧ GlF (fun w => ∃ m, w.cell? ⟨2, 0, none⟩ = some (.int .i64 m)) M ∧ Tabs M ∧ SlR xrl34 M vp0 p0 ∧ Y0B p0 m l13 n15 = some o7) FU [(3, _), (5, _), (18, _), (19, _), (20, _)] ⟨rfl, rfl, rfl, rfl, rfl, trivial⟩ ⟨_, _, _, _, rfl, (H.pick (L' := [.blk bk3 (.cells #[I 0, I 0] 27), RowI 9 encS (Value.slice none 0 0) []]) Kp), gM, gT, hp0, e8⟩ ?_
  rintro m16 e w ⟨l13, v14, n15, M, rfl, H, gM, gT, hp0, e8⟩
  rcases m16 with _ | m16
  · rw [Y0B] at e8; cases e8
  rw [Y0B] at e8
  refine SQ (RG (ST (q0n G G) G (NL (TN (SQ ?_)))))
  refine CB (p := n15 < (p0.length : Int)) G (fun hk18 => ?_) fun hk18 => ?_
  ·
   rw [if_pos hk18] at e8
   refine SK (TN (SQ (BL (SQ ?_))))
   obtain ⟨a19, hxa19, e8⟩ := bnd e8
   obtain ⟨bk22, o22, fq22, ha22, hc22, hr22⟩ := hp0.atC hxa19
   obtain ⟨f22_0, f22_1, q22_2⟩ := fq22
   replace hr22 : f22_0 = a19.1 ∧ f22_1 = a19.2.1 ∧ SlS M 3 xenc24 (hv q22_2) a19.2.2 := hr22
   obtain ⟨rfl, rfl, hs22_2⟩ := hr22
   refine RG (ST (q0t ha22 Tu22 Ts34 G G) G (ST (q1e H G hc22 Ta34 Ts34 Kf) G ?_))
   refine q0g [_, _, _] H Tz34 G (q00 G) G ?_
   intro bk7 w H
   refine q0b [_, _, _] H G G G Ku Ts34 G Kf (by simp only [l0A, l1W, (hs22_2).one.2]; rfl) (q00 G) ?_
   intro w H
   refine NL (TN (SQ (RG (AS G G (NL (TN (SQ (SQ (RG (ST (q03 Tu34 G Ts30 Dc G) G (ST (XL H Ta30) G ?_)))))))))))
   refine ST (q1k Tu30 hs22_2 G) G (MV G G (NL (TN ?_)))
   obtain ⟨o20, e21, e8⟩ := bnd e8
   refine q0l (fun e w => ∃ (l23 : List Ls) (v24 : Value) (M : Mem), e = [(3, ptr bk3 0), (5, v14), (7, ptr bk7 0), (8, v24), (18, vp0), (19, I (p0.length : Int)), (20, I n15)] ∧ St w0 M0 M [.blk bk3 (.cells #[I 0, I 0] 27), RowI 9 encS v14 l13, .blk bk7 (.cells #[S a19.1, Value.bool a19.2.1, (hv q22_2)] 34), RowI 9 encS v24 l23] w ∧ GlF (fun w => ∃ m, w.cell? ⟨2, 0, none⟩ = some (.int .i64 m)) M ∧ Tabs M ∧ SlS M 3 xenc24 (hv q22_2) a19.2.2 ∧ SlR xrl34 M vp0 p0 ∧ some l23 = some o20) [] ?_ ?_ (trivial)
   ·
    refine BL ?_
    replace H := H.newRow 9 encS
    refine q0J (fun m e w => ∃ (l26 : List Ls) (v27 : Value) (n28 : Int) (M : Mem), e = [(3, ptr bk3 0), (5, v14), (7, ptr bk7 0), (8, v27), (18, vp0), (19, I (p0.length : Int)), (20, I n15), (25, (hv q22_2)), (26, I (a19.2.2.length : Int)), (27, I n28)] ∧ St w0 M0 M [.blk bk3 (.cells #[I 0, I 0] 27), RowI 9 encS v14 l13, .blk bk7 (.cells #[S a19.1, Value.bool a19.2.1, (hv q22_2)] 34), RowI 9 encS v27 l26] w ∧ GlF (fun w => ∃ m, w.cell? ⟨2, 0, none⟩ = some (.int .i64 m)) M ∧ Tabs M ∧ SlS M 3 xenc24 (hv q22_2) a19.2.2 ∧ SlR xrl34 M vp0 p0 ∧ Y0A a19 m l26 n28 = some o20) FU [(3, _), (5, _), (7, _), (8, _), (18, _), (19, _), (20, _), (25, _), (26, _), (27, _)] ⟨rfl, rfl, rfl, rfl, rfl, rfl, rfl, rfl, rfl, rfl, trivial⟩ ⟨_, _, _, _, rfl, (H.pick (L' := [.blk bk3 (.cells #[I 0, I 0] 27), RowI 9 encS v14 l13, .blk bk7 (.cells #[S a19.1, Value.bool a19.2.1, (hv q22_2)] 34), RowI 9 encS (Value.slice none 0 0) []]) Kp), gM, gT, hs22_2, hp0, e21⟩ ?_
    rintro m29 e w ⟨l26, v27, n28, M, rfl, H, gM, gT, hs22_2, hp0, e21⟩
    rcases m29 with _ | m29
    · rw [Y0A] at e21; cases e21
    rw [Y0A] at e21
    refine SQ (RG (ST (q0n G G) G (NL (TN (SQ ?_)))))
    refine CB (p := n28 < (a19.2.2.length : Int)) G (fun hk31 => ?_) fun hk31 => ?_
    ·
     rw [if_pos hk31] at e21
     refine SK (TN (SQ (BL (SQ ?_))))
     obtain ⟨a32, hxa32, e21⟩ := bnd e21
     obtain ⟨bk29, o29, ha29, hc29⟩ := hs22_2.atC hxa32
     refine RG (ST (q0t ha29 Tu30 Ts24 G G) G (ST (q1e H G hc29 Ta24 Ts24 Kf) G ?_))
     refine q0g [_, _, _] H Tz24 G (q00 G) G ?_
     intro bk10 w H
     refine q0b [_, _, _] H G G G Ku Ts24 G Kf Kf (q00 G) ?_
     intro w H
     refine NL (TN ?_)
     obtain ⟨s33, hx34, e21⟩ := bnd e21
     obtain ⟨l35, hxl35, e21⟩ := bnd e21
     refine RG (MV G G (ST (q0v H G Km Ta24 Ts24 Kf) G ?_))
     refine q05 H (Y4l hx34) G ⟨gM, gT⟩ (q00 G) G ?_
     intro v33 M w H hle hR
     replace gM := gM.mono hle
     replace gT := gT.mono hle
     replace hp0 := hp0.mono hle
     replace hs22_2 := hs22_2.mono hle
     replace hc29 := hc29.mono hle
     obtain rfl := hR
     refine q0B (enc := encS) xty55 ([s33] : List Ls) H G Kf (fun _ => G) G G (q00 G) G ?_
     intro v34 M w H hle hs34
     replace gM := gM.mono hle
     replace gT := gT.mono hle
     replace hp0 := hp0.mono hle
     replace hs22_2 := hs22_2.mono hle
     replace hc29 := hc29.mono hle
     refine q1l (l := l26) xty55 G (fun _ => G) H G (fun _ => by repeat first | exact .head | apply Upd.tail) G (hs34) hxl35 (q00 G) G ?_
     intro v35 w H
     refine AS G G (NL (IB (TN ?_)))
     obtain ⟨n36, hxn36, e21⟩ := bnd e21
     refine RG (ST (q0u G G hxn36) G (MV G G (NL ?_)))
     exact AG m29 ⟨_, _, _, _, G, (H.pick (L' := [.blk bk3 (.cells #[I 0, I 0] 27), RowI 9 encS v14 l13, .blk bk7 (.cells #[S a19.1, Value.bool a19.2.1, (hv q22_2)] 34), RowI 9 encS v35 l35]) Kp), gM, gT, hs22_2, hp0, e21⟩ (l0a _)
    rw [if_neg hk31] at e21
    refine q0m (q06 (q06 (q0f ?_)))
    exact MN ⟨_, _, _, G, H, gM, gT, hs22_2, hp0, e21⟩
   rintro e w ⟨l23, v24, M, rfl, H, gM, gT, hs22_2, hp0, q37⟩
   obtain rfl := oI q37
   refine TN (SQ ?_)
   obtain ⟨s39, hx40, e8⟩ := bnd e8
   refine RG (MV G G ?_)
   obtain ⟨M, hle, hs38, H⟩ := H.freezeRow (v := v24) (enc := encS) (t := 9) Kv
   replace gM := gM.mono hle
   replace gT := gT.mono hle
   replace hp0 := hp0.mono hle
   replace hs22_2 := hs22_2.mono hle
   refine q05 H (Y1D hx40) G (hs38) (q00 G) G ?_
   intro v38 M w H hle hR
   replace gM := gM.mono hle
   replace gT := gT.mono hle
   replace hp0 := hp0.mono hle
   replace hs22_2 := hs22_2.mono hle
   replace hs38 := hs38.mono hle
   obtain rfl := hR
   refine AS G G (NL (TN (SQ (SQ (RG (ST (q03 Tu34 G Ts4 Dc G) G (ST (XL H Ta4) G ?_)))))))
   refine NL (TN ?_)
   obtain ⟨o41, e42, e8⟩ := bnd e8
   refine q0l (fun e w => ∃ (s43 : Ls) (M : Mem), e = [(3, ptr bk3 0), (5, v14), (11, S s43), (18, vp0), (19, I (p0.length : Int)), (20, I n15)] ∧ St w0 M0 M [.blk bk3 (.cells #[I 0, I 0] 27), RowI 9 encS v14 l13] w ∧ GlF (fun w => ∃ m, w.cell? ⟨2, 0, none⟩ = some (.int .i64 m)) M ∧ Tabs M ∧ SlR xrl34 M vp0 p0 ∧ some s43 = some o41) [] ?_ ?_ (trivial)
   ·
    refine q0o G (fun hk44 => ?_) (fun hk44 => ?_)
    ·
     rw [if_pos hk44] at e42
     obtain ⟨s45, hx46, e42⟩ := bnd e42
     obtain ⟨s47, hxs47, e42⟩ := bnd e42
     obtain ⟨s48, hxs48, e42⟩ := bnd e42
     obtain ⟨s49, hx50, e42⟩ := bnd e42
     obtain ⟨s51, hxs51, e42⟩ := bnd e42
     refine RG (ST (q03 Tu34 G Ts9 Dc G) G (ST (XL H Ta9) G ?_))
     refine q05 H (Y2Y hx46) G ⟨gM, gT⟩ (q00 G) G ?_
     intro v43 M w H hle hR
     replace gM := gM.mono hle
     replace gT := gT.mono hle
     replace hs38 := hs38.mono hle
     replace hp0 := hp0.mono hle
     replace hs22_2 := hs22_2.mono hle
     obtain rfl := hR
     refine ST (q0p G G hxs47) G (MV G G (ST (q0p G G hxs48) G (q05 H (Y40 hx50) G trivial (q00 G) G ?_)))
     intro v47 M w H hle hR
     replace gM := gM.mono hle
     replace gT := gT.mono hle
     replace hs38 := hs38.mono hle
     replace hp0 := hp0.mono hle
     replace hs22_2 := hs22_2.mono hle
     obtain rfl := hR
     refine ST (q0p G G hxs51) G (AS G G (NL ?_))
     exact MN ⟨_, _, G, (H.pick (L' := [.blk bk3 (.cells #[I 0, I 0] 27), RowI 9 encS v14 l13]) Kp), gM, gT, hp0, e42⟩
    rw [if_neg (by rw [hk44]; exact l07)] at e42
    refine SK ?_
    exact MN ⟨_, _, G, (H.pick (L' := [.blk bk3 (.cells #[I 0, I 0] 27), RowI 9 encS v14 l13]) Kp), gM, gT, hp0, e42⟩
   rintro e w ⟨s43, M, rfl, H, gM, gT, hp0, q52⟩
   obtain rfl := oI q52
   refine TN ?_
   obtain ⟨l53, hxl53, e8⟩ := bnd e8
   refine RG (MV G G (MV G G (q0B (enc := encS) xty55 ([s43] : List Ls) H G Kf (fun _ => G) G G (q00 G) G ?_)))
   intro v51 M w H hle hs51
   replace gM := gM.mono hle
   replace gT := gT.mono hle
   replace hp0 := hp0.mono hle
   refine q1l (l := l13) xty55 G (fun _ => G) H G (fun _ => by repeat first | exact .head | apply Upd.tail) G (hs51) hxl53 (q00 G) G ?_
   intro v52 w H
   refine AS G G (NL (IB (TN ?_)))
   obtain ⟨n54, hxn54, e8⟩ := bnd e8
   refine RG (ST (q0u G G hxn54) G (MV G G (NL ?_)))
   exact AG m16 ⟨_, _, _, _, G, H, gM, gT, hp0, e8⟩ (l0a _)
  rw [if_neg hk18] at e8
  refine q0m (q06 (q06 (q0f ?_)))
  exact MN ⟨_, _, _, G, H, gM, gT, e8⟩
 rintro e w ⟨l10, v11, M, rfl, H, gM, gT, q55⟩
 obtain rfl := oI q55
 refine TN (SQ ?_)
 obtain ⟨s57, hx58, h⟩ := bnd h
 refine RG (MV G G ?_)
 obtain ⟨M, hle, hs56, H⟩ := H.freezeRow (v := v11) (enc := encS) (t := 9) Kv
 replace gM := gM.mono hle
 replace gT := gT.mono hle
 refine q05 H (Y1D hx58) G (hs56) (q00 G) G ?_
 intro v55 M w H hle hR
 replace gM := gM.mono hle
 replace gT := gT.mono hle
 replace hs56 := hs56.mono hle
 obtain rfl := hR
 refine AS G G (NL (TN (SQ (SQ (RG (MV G G (ST (q0k Tu9 G) G (ST (q0K G G) G (NL (TN ?_))))))))))
 refine CB (p := (4000 : Int) < (s57.length : Int)) G (fun hk59 => ?_) fun hk59 => ?_
 ·
  rw [if_pos hk59] at h
  refine SQ ?_
  obtain ⟨⟨n60, n61⟩, hx62, h⟩ := bnd h
  try dsimp only at h
  refine RG (q05 H (Y0E hx62) G trivial (q00 G) G ?_)
  intro v59 M w H hle hR
  replace gM := gM.mono hle
  replace gT := gT.mono hle
  replace hs56 := hs56.mono hle
  try dsimp only at hR
  obtain rfl := hR
  refine AS G G (q0b [_, _] H G G G Ku Ts27 G Kf Kf (q00 G) ?_)
  intro w H
  refine NL (TN (RT ?_))
  obtain rfl := oI h
  exact q0H G G ⟨_, G, H.loadAgg Km Ta27 Ts27 Kf⟩ H.ext G
 rw [if_neg hk59] at h
 refine SK (TN (SQ ?_))
 obtain ⟨⟨n63, n64⟩, hx65, h⟩ := bnd h
 try dsimp only at h
 refine RG (MV G G (q05 H (Y0P hx65) G trivial (q00 G) G ?_))
 intro v61 M w H hle hR
 replace gM := gM.mono hle
 replace gT := gT.mono hle
 replace hs56 := hs56.mono hle
 try dsimp only at hR
 obtain rfl := hR
 refine AS G G (q0b [_, _] H G G G Ku Ts27 G Kf Kf (q00 G) ?_)
 intro w H
 refine NL (TN (RT ?_))
 obtain rfl := oI h
 exact q0H G G ⟨_, G, H.loadAgg Km Ta27 Ts27 Kf⟩ H.ext G
theorem parse_ret {K : World → Prop} {b1 b2 b3 : Nat} {w : World} (hK : K w) : (∀ ar w, (callFunc 45 ar).run Tryz.prog w = .ok (.enter 45 ar) w) ∧ CallsDIn (Wd none) 0 Tryz.prog 45 ([ptr b1 0, ptr b2 0, ptr b3 0] : List Value).toArray .returning w fun e u' w' => (∃ v, e = .returned v) ∧ settle u' = .returning ∧ K w' := by
 refine ⟨enters Tryz.func45 Kr G, callsD_of Tryz.func45 G G G G G G ?_⟩
 refine BL (SQ (RG (ST (Ex.eqlNil (M := fun _ => none) (b := true) Tu20 (.inl ⟨G, G⟩) G) G (NL (TN (CT G (RG (AS G G (NL ?_)))))))))
 exact WQ.inBlock (WQ.postD0 G hK)
theorem parse_pan {s : Ls} {n : Int} {b1 b2 b3 m : Nat} {z1 z2 z3 : Value} {e : Env} {w0 w : World} {M0 M : Mem} {L : List Ph.Item} {R : Value → Mem → Prop} (H : St w0 M0 M L w) (hp : Pick L [.blk b2 (.cells #[z1] 22), .blk b3 (.cells #[z2, z3] 27)]) (hb : PtM M b1 (.cells #[S s] 9))
 (h2 : get e 2 = some (ptr b2 0)) (h3 : get e 3 = some (ptr b3 0)) (hR : ∀ M, R (.tuple #[.slice none 0 0, .agg #[I 11, I (min n (s.length : Int))]]) M) :
 WQ (bodyPostDIn (Wd none) 0 Tryz.prog Tryz.f19 (Ret w0 M0 R)) (.panic (onePanic (.iface 69 (.agg #[I n])))) m [dfrOf 45 [ptr b1 0, ptr b2 0, ptr b3 0]] e w := fun a ha => by
 show LeavesIn _ _ _ _ _ _ _ _ _
 rw [ha.defers]
 refine leaves_one (enters Tryz.func45 Kr G) Sm (callsD_of Tryz.func45 G G G G G G ?_)
 replace H := H.pick hp
 refine BL (SQ (RG (ST (Ex.eqlNil (M := M) (b := false) Tu20 (.inr ⟨G, _, _, G⟩) G) G (NL (TN (CF G (SQ (RG (ST (Ex.assertSame Tu69 G) G (ST (q0e G G) G (ST (q0e G G) G (NL (TN (CT G (SQ (RG (q0g [_] H Tryz.zeroValue69 G (q00 G) G ?_)))))))))))))))))
 intro b4 w H
 refine q0b [_] H G G G Ku Tryz.sizeOf69 G Kf Kf (q00 G) ?_
 intro w H
 refine NL (TN (RG (ST (q03 Tu69 G Ts3 Dc G) G (ST (XL H Ta3) G ?_))))
 refine ST (q08 H G (hb.cell (j := 0) G) Ta9) G (ST (q0k Tu9 G) G (ST (Ex.min2 G G) G (q05 H (Y0E (p0 := 11) (p1 := min n (s.length : Int)) (r := (11, min n (s.length : Int))) G) G trivial (q00 G) G ?_)))
 intro v17 M w H hle hR2
 try dsimp only at hR2
 obtain rfl := hR2
 refine q0O [_] H G G (q1p _ _ _) Ku Kf Ts22 (by first | decide | (simp; done) | (simp; omega)) (q00 G) ?_
 intro w H
 refine q0b [_, _] H G G G Ku Ts27 G Kf Kf (q00 G) ?_
 intro w H
 refine NL ?_
 refine WQ.inBlock (WQ.postD0 G ⟨_, resv_run2 (P := Tryz.prog) (e := e) (x := .cell 2 22) (y := .cell 3 27) (v1 := .slice none 0 0) (v2 := .agg #[I 11, I (min n (s.length : Int))]) G ⟨_, h2, H.load1 Km Ta22 Kf⟩ ⟨_, h3, H.loadAgg Km Ta27 Ts27 Kf⟩ a ha, _, M, G, H.ext, hR M⟩)
theorem Y48 {p0 : UInt8} {r : Bool} (h : Y0Y p0 = some r) : Ct Tryz.prog 62 [encB p0] (fun M => True) (fun v M => v = Value.bool r) := by
 refine Ct.of Tryz.func62 (enters Tryz.func62 Kr G) G G G ?_
 intro w0 M0 H hp
 unfold Y0Y at h
 refine SQ (RG (AS G G (NL (TN (SQ ?_)))))
 obtain ⟨o1, e2, h⟩ := bnd h
 refine q0l (fun e w => ∃ (b3 : Bool) (M : Mem), e = [(2, Value.bool b3)] ∧ St w0 M0 M [] w ∧ some b3 = some o1) [] ?_ ?_ (trivial)
 ·
  by_cases hk4 : p0 = 32
  ·
   rw [if_pos hk4] at e2
   refine RG (MV G G (DT hk4 (q1A (c := p0) (d := 32) G G) G (MV G G (GT G G G (GT G G G (PT G G G (AS G G (NL ?_))))))))
   exact MN ⟨_, _, G, H, e2⟩
  rw [if_neg hk4] at e2
  refine RG (MV G G (DF hk4 (q1A (c := p0) (d := 32) G G) G (MV G G (SG (q02 G) G G G (SG (q1A (c := p0) (d := 9) G G) G G G (PF G G G (AS G G (NL ?_))))))))
  exact MN ⟨_, _, G, H, e2⟩
 rintro e w ⟨b3, M, rfl, H, q5⟩
 obtain rfl := oI q5
 refine TN (RT ?_)
 obtain rfl := oI h
 exact q07 G G H.ext G
theorem Y03 {p0 : (Ls × Int)} {bp0 : Nat} {r : ((Ls × Int) ⊕ Int)} (h : Y0c p0 = some r) : CtS Tryz.prog 49 [ptr bp0 0] [.blk bp0 (.cells #[S p0.1, I p0.2] 72)] (fun M => True) (fun x => fun v M its => v = Value.tuple #[] ∧ its = [.blk bp0 (.cells #[S x.1, I x.2] 72)]) (fun n => Value.iface 69 (Value.agg #[I n])) r := by
 refine CtS.of Tryz.func49 (enters Tryz.func49 Kr G) G G G ?_
 intro w0 M0 H hp
 unfold Y0c at h
 obtain rfl := oI h
 refine RG (MV G G (FN G G Tu72 G Ts3 G G (ST (XL H Ta3) G ?_)))
 refine ST (q0L [I p0.2] Tu69 Tryz.zeroValue69 (xplaces69 Tu69) G G) G (ST (Ex.ifaceV Kr G) G (WR.panicI G (q00 G) ?_))
 (repeat (first | refine q0M ?_ | refine q0W ?_ | refine q0S ?_ | refine q0X ?_))
 exact q0T H
theorem Y2x {p0 : (Ls × Int)} {bp0 : Nat} {r : ((Ls × Int) ⊕ Int)} (h : Y18 p0 = some r) : CtS Tryz.prog 155 [ptr bp0 0] [.blk bp0 (.cells #[S p0.1, I p0.2] 72)] (fun M => True) (fun x => fun v M its => v = Value.tuple #[] ∧ its = [.blk bp0 (.cells #[S x.1, I x.2] 72)]) (fun n => Value.iface 69 (Value.agg #[I n])) r := by
 refine CtS.of Tryz.func155 (enters Tryz.func155 Kr G) G G G ?_
 intro w0 M0 H hp
 unfold Y18 at h
 refine SQ (RG (AS G G (NL (TN ?_))))
 obtain ⟨o1, e2, h⟩ := bnd h
 refine BL (q0J (fun m e w => ∃ (s3 : Ls) (n4 : Int) (n5 : Int) (M : Mem), e = [(0, ptr bp0 0), (2, I n5)] ∧ StX (feet [.blk bp0 (.cells #[S p0.1, I p0.2] 72)]) w0 M0 M [.blk bp0 (.cells #[S s3, I n4] 72)] w ∧ Y05  m s3 n4 n5 = some o1) FU [(0, _), (2, _)] ⟨rfl, rfl, trivial⟩ ⟨_, _, _, _, rfl, H, e2⟩ ?_)
 rintro m6 e w ⟨s3, n4, n5, M, rfl, H, e2⟩
 rcases m6 with _ | m6
 · rw [Y05] at e2; cases e2
 rw [Y05] at e2
 refine SQ (BL (SQ (SQ (q0F (m := 10) G G H ?_))))
 intro w H
 refine TK 0 G (fun _ => q02 G) G (TK 1 G (fun _ => q0E G) G (TK 2 G (fun _ => q03 Tu72 G Ts3 Dc G) G (TK 4 G (fun _ => q02 G) G (TK 5 G (fun _ => q0E G) G (TK 6 G (fun _ => q03 Tu72 G Ts9 Dc G) G ?_)))))
 refine q1c (i := 7) [3] G Kr Kr Kr (XL H Ta9) (q00 G) G G (fun _ _ => G) ?_
 refine TK 8 G (fun _ => q0k Tu9 G) G (q0s (fuel := 0) [3, 9] G Kr (ST (XL H Ta3) G ?_))
 refine ST (q1b G G) G (NA (q0h Kr (TN ?_)))
 obtain ⟨o7, e8, e2⟩ := bnd e2
 refine q0l (fun e w => ∃ (s9 : Ls) (n10 : Int) (M : Mem), e = [(0, ptr bp0 0), (2, I n5)] ∧ StX (feet [.blk bp0 (.cells #[S p0.1, I p0.2] 72)]) w0 M0 M [.blk bp0 (.cells #[S s9, I n10] 72)] w ∧ some (.inl (s9, n10)) = some o7) [] ?_ ?_ (trivial)
 ·
  refine CB (p := (s3.length : Int) ≤ n4) G (fun hk11 => ?_) fun hk11 => ?_
  ·
   rw [if_pos hk11] at e8
   obtain ⟨o14, hx13, e8⟩ := bnd e8
   rcases o14 with o12 | n15
   ·
    try dsimp only at e8
    refine RG (MV G G ?_)
    refine q0w (A := [.blk bp0 (.cells #[S s3, I n4] 72)]) (B := []) (H.pick (L' := [.blk bp0 (.cells #[S s3, I n4] 72)]) Kp) (Y03 hx13) (.left (q0j _)) G trivial (q00 G) G ?_
    intro v21 M w its H hle hR
    try dsimp only at hR
    obtain ⟨rfl, rfl⟩ := hR
    simp only [l05, l06] at H
    refine NL ?_
    exact MN ⟨_, _, _, G, H, e8⟩
   try dsimp only at e8
   obtain rfl := oI e8
   try dsimp only at e2
   obtain rfl := oI e2
   try dsimp only at h
   obtain rfl := oI h
   refine RG (MV G G ?_)
   refine q0C (A := [.blk bp0 (.cells #[S s3, I n4] 72)]) (B := []) (H.pick (L' := [.blk bp0 (.cells #[S s3, I n4] 72)]) Kp) (Y03 hx13) (.left (q0j _)) G trivial (q00 G) ?_
   intro M w H hle
   (repeat (first | refine q0M ?_ | refine q0W ?_ | refine q0S ?_ | refine q0X ?_))
   exact q0T H
  rw [if_neg hk11] at e8
  refine SK ?_
  exact MN ⟨_, _, _, G, H, e8⟩
 rintro e w ⟨s9, n10, M, rfl, H, q16⟩
 obtain rfl := oI q16
 try dsimp only at e2
 refine TN (SQ ?_)
 obtain ⟨c17, hxc17, e2⟩ := bnd e2
 refine q0F (m := 9) G G H ?_
 intro w H
 refine TK 0 G (fun _ => q02 G) G (TK 1 G (fun _ => q0E G) G (TK 2 G (fun _ => q03 Tu72 G Ts9 Dc G) G (TK 4 G (fun _ => q02 G) G (TK 5 G (fun _ => q0E G) G (TK 6 G (fun _ => q03 Tu72 G Ts3 Dc G) G ?_)))))
 refine q1c (i := 3) [7] G Kr Kr Kr (XL H Ta9) (q00 G) G G (fun _ _ => G) ?_
 refine q0s (fuel := 0) [7, 8] G Kr (ST (XL H Ta3) G ?_)
 refine ST (q0N Tu9 G G hxc17) G (NA (q0h Kr (TN (BL (SQ (RG (ST (q1A (c := c17) (d := 40) G G) G (AS G G (NL (TN ?_))))))))))
 obtain ⟨o18, e19, e2⟩ := bnd e2
 refine q0l (fun e w => ∃ (s20 : Ls) (n21 : Int) (n22 : Int) (M : Mem), e = [(0, ptr bp0 0), (2, I n22)] ∧ StX (feet [.blk bp0 (.cells #[S p0.1, I p0.2] 72)]) w0 M0 M [.blk bp0 (.cells #[S s20, I n21] 72)] w ∧ some (.inl (s20, n21, n22)) = some o18) [] ?_ ?_ (trivial)
 ·
  refine CB (p := c17 = 40) G (fun hk23 => ?_) fun hk23 => ?_
  ·
   rw [if_pos hk23] at e19
   obtain ⟨n24, hxn24, e19⟩ := bnd e19
   refine RG (MV G G (ST (q0u G G hxn24) G (AS G G (NL ?_))))
   exact MN ⟨_, _, _, _, G, H, e19⟩
  rw [if_neg hk23] at e19
  refine SQ (RG (ST (q1A (c := c17) (d := 41) G G) G (AS G G (NL (TN ?_)))))
  refine CB (p := c17 = 41) G (fun hk25 => ?_) fun hk25 => ?_
  ·
   rw [if_pos hk25] at e19
   refine SQ ?_
   obtain ⟨n26, hxn26, e19⟩ := bnd e19
   refine RG (MV G G (ST (Ex.subC G G hxn26) G (AS G G (NL (TN (SQ (RG (MV G G (ST (q0c G G) G (NL (TN ?_)))))))))))
   refine CB (p := n26 = (0 : Int)) G (fun hk27 => ?_) fun hk27 => ?_
   ·
    rw [if_pos hk27] at e19
    refine SQ ?_
    obtain ⟨n28, hxn28, e19⟩ := bnd e19
    refine RG (MV G G (FN G G Tu72 G Ts3 G G (ST (XL H Ta3) G ?_)))
    refine ST (q0u G G hxn28) G (FN G G Tu72 G Ts3 G G (q1s [_, _] H G G Ku Kf Ts3 (by first | decide | (simp; done) | (simp; omega)) Kf Kf (q00 G) ?_))
    intro w H
    refine NL (TN (RT ?_))
    obtain rfl := oI e19
    try dsimp only at e2
    obtain rfl := oI e2
    try dsimp only at h
    obtain rfl := oI h
    exact WQ.retX0 (its := [.blk bp0 (.cells #[S s9, I n28] 72)]) G H Kp ⟨G, G⟩
   rw [if_neg hk27] at e19
   refine SK ?_
   exact MN ⟨_, _, _, _, G, H, e19⟩
  rw [if_neg hk25] at e19
  refine SQ (RG (ST (q1A (c := c17) (d := 92) G G) G (AS G G (NL (TN ?_)))))
  refine CB (p := c17 = 92) G (fun hk29 => ?_) fun hk29 => ?_
  ·
   rw [if_pos hk29] at e19
   obtain ⟨n30, hxn30, e19⟩ := bnd e19
   refine RG (MV G G (FN G G Tu72 G Ts3 G G (ST (XL H Ta3) G ?_)))
   refine ST (q0u G G hxn30) G (FN G G Tu72 G Ts3 G G (q1s [_, _] H G G Ku Kf Ts3 (by first | decide | (simp; done) | (simp; omega)) Kf Kf (q00 G) ?_))
   intro w H
   refine NL ?_
   exact MN ⟨_, _, _, _, G, H, e19⟩
  rw [if_neg hk29] at e19
  refine SK ?_
  exact MN ⟨_, _, _, _, G, H, e19⟩
 rintro e w ⟨s20, n21, n22, M, rfl, H, q31⟩
 obtain rfl := oI q31
 try dsimp only at e2
 refine IB (IB (TN ?_))
 obtain ⟨n32, hxn32, e2⟩ := bnd e2
 refine RG (MV G G (FN G G Tu72 G Ts3 G G (ST (XL H Ta3) G ?_)))
 refine ST (q0u G G hxn32) G (FN G G Tu72 G Ts3 G G (q1s [_, _] H G G Ku Kf Ts3 (by first | decide | (simp; done) | (simp; omega)) Kf Kf (q00 G) ?_))
 intro w H
 refine NL ?_
 exact AG m6 ⟨_, _, _, _, G, H, e2⟩ (l0a _)
end Go.Proofs.YtkmjdamkifbddaaGreatDoor
end
