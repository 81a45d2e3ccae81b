/-
  Kct2: own texts of this repository (wip/tpl, wip/plans), merged and shaken by wip/tools/pack.py.
-/
import Derived.KernelRfl
import Derived.Test.YtkmjdamkifbddaaGreatDoorE2c
set_option maxRecDepth 100000
set_option linter.unusedVariables false
set_option linter.unusedSimpArgs false
section
namespace Go.Proofs.YtkmjdamkifbddaaGreatDoor
open Go Go.RowKit Go.Ph Go.Ph.Pl Go.Ph.Pf
theorem address_dotted_ct {p0 : List UInt8} {r : Bool} (h : address_dotted p0 = some r) : Ct Tryz.prog 93 [S p0] (fun M => GlF (fun w => ∃ m, w.cell? ⟨2, 0, none⟩ = some (.int .i64 m)) M ∧ Tabs M) (fun v M => v = Value.bool r) := by
  refine Ct.of Tryz.func93 (enters Tryz.func93 (by kernel_rfl) rfl) rfl rfl rfl ?_
  intro w0 M0 H hp
  obtain ⟨hg_maxl, hg_tabs⟩ := hp
  unfold address_dotted at h
  refine SQ (RG (AS rfl rfl (NL (TN (SQ ?_)))))
  obtain ⟨b1, hx2, h⟩ := bnd h
  refine RG (MV rfl rfl (WR.call H (address_parts_ct hx2) rfl ⟨hg_maxl, hg_tabs, (⟨⟨rfl, rfl⟩, (fun _ _ h => FnV.of (address_atom_ct h) (fun _ _ => trivial))⟩ : FnT90 _ _ _)⟩ (Wn.none rfl) rfl ?_))
  intro v4 M w H hle hR
  replace hg_maxl := hg_maxl.mono hle
  replace hg_tabs := hg_tabs.mono hle
  obtain rfl := hR
  refine AS rfl rfl (NL (TN (RT ?_)))
  obtain rfl := oI h
  exact WQ.ret1 rfl rfl H.ext rfl
theorem address_quoted_ct {p0 : List UInt8} {r : List UInt8} (h : address_quoted p0 = some r) : Ct Tryz.prog 81 [S p0] (fun M => True) (fun v M => v = S r) := by
  refine Ct.of Tryz.func81 (enters Tryz.func81 (by kernel_rfl) rfl) rfl rfl rfl ?_
  intro w0 M0 H hp
  unfold address_quoted at h
  refine SQ (RG (AS rfl rfl (NL (TN (SQ ?_)))))
  obtain ⟨_, hx1, h⟩ := bnd h
  obtain ⟨s2, hxs2, h⟩ := bnd h
  obtain ⟨s3, hxs3, h⟩ := bnd h
  obtain ⟨s4, hxs4, h⟩ := bnd h
  refine RG (WR.lit (enc := encS) xty55 ([[92], [92, 92], [34], [92, 34]] : List (List UInt8)) H rfl (by rfl) (fun _ => rfl) rfl rfl (Wn.none rfl) rfl ?_)
  intro v3 M w H hle hs3
  refine WR.callX (A := []) (B := []) H (strings_NewReplacer_ct hx1) (Spl.all _) rfl (hs3) (Wn.none rfl) rfl ?_
  intro v4 M w its H hle hR
  replace hs3 := hs3.mono hle
  obtain ⟨bk4, x4, rfl, hr4, rfl⟩ := hR
  simp only [List.cons_append, List.nil_append] at H
  refine MV rfl rfl ?_
  refine WR.callX (A := [.blk bk4 (.cells x4 166)]) (B := []) (H.pick (L' := [.blk bk4 (.cells x4 166)]) (by repeat first | exact kPn | refine kPc (by repeat first | exact .head | apply Rem.tail) ?_)) (strings_Replacer_Replace_ct hxs2) (.left (Spl.all _)) rfl hr4 (Wn.none rfl) rfl ?_
  intro v6 M w its H hle hR
  replace hs3 := hs3.mono hle
  replace hr4 := hr4.mono hle
  obtain ⟨x6, rfl, hr6, rfl⟩ := hR
  simp only [List.cons_append, List.nil_append] at H
  refine ST (Ex.strAddC rfl rfl hxs3) rfl (ST (Ex.strAddC rfl rfl hxs4) rfl (AS rfl rfl (NL (TN (RT ?_)))))
  obtain rfl := oI h
  exact WQ.ret1 rfl rfl H.ext rfl
theorem address_specification_ct {p0 : (List UInt8 × List UInt8 × List UInt8)} {r : List UInt8} (h : address_specification p0 = some r) : Ct Tryz.prog 56 [Value.agg #[S p0.1, S p0.2.1, S p0.2.2]] (fun M => GlF (fun w => ∃ m, w.cell? ⟨2, 0, none⟩ = some (.int .i64 m)) M ∧ Tabs M) (fun v M => v = S r) := by
  refine Ct.of Tryz.func56 (enters Tryz.func56 (by kernel_rfl) rfl) rfl rfl rfl ?_
  intro w0 M0 H hp
  obtain ⟨hg_maxl, hg_tabs⟩ := hp
  unfold address_specification at h
  refine SQ (RG (WR.box [_, _, _] H rfl rfl (Wn.none rfl) rfl ?_))
  intro bk1 w H
  refine AS rfl rfl (NL (TN (SQ (SQ ?_))))
  obtain ⟨b1, hx2, h⟩ := bnd h
  refine RG (ST (Ex.fieldAddr Tryz.underlying24 rfl Tryz.sizeOf9 (by decide) rfl) rfl (ST (Ex.load1 H rfl (by repeat first | exact kMh | apply kMt) Tryz.isAgg9 (by rfl)) rfl ?_))
  refine WR.call H (address_dotted_ct hx2) rfl ⟨hg_maxl, hg_tabs⟩ (Wn.none rfl) rfl ?_
  intro v5 M w H hle hR
  replace hg_maxl := hg_maxl.mono hle
  replace hg_tabs := hg_tabs.mono hle
  obtain rfl := hR
  refine NL (TN ?_)
  refine WC.condB rfl (fun hk3 => ?_) (fun hk3 => ?_)
  ·
   subst hk3
   rw [if_pos rfl] at h
   refine SQ ?_
   obtain ⟨s4, hxs4, h⟩ := bnd h
   obtain ⟨s5, hxs5, h⟩ := bnd h
   refine RG (ST (Ex.fieldAddr Tryz.underlying24 rfl Tryz.sizeOf9 (by decide) rfl) rfl (ST (Ex.load1 H rfl (by repeat first | exact kMh | apply kMt) Tryz.isAgg9 (by rfl)) rfl ?_))
   refine ST (Ex.strAddC rfl rfl hxs4) rfl (ST (Ex.fieldAddr Tryz.underlying24 rfl Tryz.sizeOf9 (by decide) rfl) rfl (ST (Ex.load1 H rfl (by repeat first | exact kMh | apply kMt) Tryz.isAgg9 (by rfl)) rfl ?_))
   refine ST (Ex.strAddC rfl rfl hxs5) rfl (AS rfl rfl (NL (TN (RT ?_))))
   obtain rfl := oI h
   exact WQ.ret1 rfl rfl H.ext rfl
  ·
   subst hk3
   rw [if_neg Bool.false_ne_true] at h
   refine SK (TN (SQ ?_))
   obtain ⟨s6, hx7, h⟩ := bnd h
   obtain ⟨s8, hxs8, h⟩ := bnd h
   obtain ⟨s9, hxs9, h⟩ := bnd h
   refine WC.cutP (fun e w => ∃  (M : Mem), e = [(2, S s9)] ∧ St w0 M0 M [] w ∧ GlF (fun w => ∃ m, w.cell? ⟨2, 0, none⟩ = some (.int .i64 m)) M ∧ Tabs M) ?_ ?_
   ·
    refine WC.draw (m := 8) rfl rfl H ?_
    intro w H
    refine WA.take (i := 0) rfl (by kernel_rfl) (by kernel_rfl) (by kernel_rfl) (fun _ => Ex.fieldAddr Tryz.underlying24 rfl Tryz.sizeOf9 (by decide) rfl) (Wn.none rfl) rfl rfl (fun _ _ => rfl) (WA.take (i := 4) rfl (by kernel_rfl) (by kernel_rfl) (by kernel_rfl) (fun _ => Ex.fieldAddr Tryz.underlying24 rfl Tryz.sizeOf9 (by decide) rfl) (Wn.none rfl) rfl rfl (fun _ _ => rfl) (WA.takeM (i := 1) [5] rfl (by kernel_rfl) (by kernel_rfl) (by kernel_rfl) (Ex.load1 H rfl (by repeat first | exact kMh | apply kMt) Tryz.isAgg9 (by rfl)) (Wn.none rfl) rfl rfl (fun _ _ => rfl) ?_))
    refine WA.two (i := 2) (j := 5) (by kernel_rfl) rfl rfl ?_ ?_
    ·
     refine WR.call H (address_quoted_ct hx7) rfl trivial (Wn.none rfl) rfl ?_
     intro v14 M w H hle hR
     replace hg_maxl := hg_maxl.mono hle
     replace hg_tabs := hg_tabs.mono hle
     obtain rfl := hR
     refine NA (WA.take (i := 3) rfl (by kernel_rfl) (by kernel_rfl) (by kernel_rfl) (fun _ => Ex.strAddC rfl rfl hxs8) (Wn.none rfl) rfl rfl (fun _ _ => rfl) (WA.seq (fuel := 0) [5, 6, 7] rfl (by kernel_rfl) (ST (Ex.load1 H rfl (by repeat first | exact kMh | apply kMt) Tryz.isAgg9 (by rfl)) rfl ?_)))
     refine ST (Ex.strAddC rfl rfl hxs9) rfl (AS rfl rfl (NA (WA.done (by kernel_rfl) ?_)))
     exact WQ.meetP [(2, _)] ⟨rfl, trivial⟩ ⟨_, rfl, (H.pick (L' := []) (by repeat first | exact kPn | refine kPc (by repeat first | exact .head | apply Rem.tail) ?_)), hg_maxl, hg_tabs⟩
    ·
     refine ST (Ex.load1 H rfl (by repeat first | exact kMh | apply kMt) Tryz.isAgg9 (by rfl)) rfl ?_
     refine NA (WA.seq (fuel := 0) [2, 3, 6, 7] rfl (by kernel_rfl) (WR.call H (address_quoted_ct hx7) rfl trivial (Wn.none rfl) rfl ?_))
     intro v14 M w H hle hR
     replace hg_maxl := hg_maxl.mono hle
     replace hg_tabs := hg_tabs.mono hle
     obtain rfl := hR
     refine ST (Ex.strAddC rfl rfl hxs8) rfl (ST (Ex.strAddC rfl rfl hxs9) rfl (AS rfl rfl (NA (WA.done (by kernel_rfl) ?_))))
     exact WQ.meetP [(2, _)] ⟨rfl, trivial⟩ ⟨_, rfl, (H.pick (L' := []) (by repeat first | exact kPn | refine kPc (by repeat first | exact .head | apply Rem.tail) ?_)), hg_maxl, hg_tabs⟩
   ·
    rintro e w ⟨M, rfl, H, hg_maxl, hg_tabs⟩
    refine TN (RT ?_)
    obtain rfl := oI h
    exact WQ.ret1 rfl rfl H.ext rfl
theorem stringslite_HasPrefix_ct {p0 : List UInt8} {p1 : List UInt8} {r : Bool} (h : stringslite_HasPrefix p0 p1 = some r) : Ct Tryz.prog 168 [S p0, S p1] (fun M => True) (fun v M => v = Value.bool r) := by
  refine Ct.of Tryz.func168 (enters Tryz.func168 (by kernel_rfl) rfl) rfl rfl rfl ?_
  intro w0 M0 H hp
  unfold stringslite_HasPrefix at h
  refine SQ (RG (AS rfl rfl (NL (TN (SQ ?_)))))
  obtain ⟨o1, e2, h⟩ := bnd h
  refine WC.cutX (fun e w => ∃ (b3 : Bool) (M : Mem), e = [(4, Value.bool b3)] ∧ St w0 M0 M [] w ∧ some b3 = some o1) [] ?_ ?_ (trivial)
  ·
   refine RG (MV rfl rfl (ST (Ex.lenStr Tryz.underlying9 rfl) rfl (MV rfl rfl (ST (Ex.lenStr Tryz.underlying9 rfl) rfl ?_))))
   by_cases hk4 : (p1.length : Int) ≤ (p0.length : Int)
   ·
    rw [if_pos hk4] at e2
    obtain ⟨s5, hxs5, e2⟩ := bnd e2
    refine WR.stepE (v' := .bool true) (Ex.geq rfl rfl) (congrArg Value.bool (decide_eq_true hk4)) (Wn.none rfl) rfl rfl (MV rfl rfl (SG (Ex.move rfl) rfl rfl rfl (SG (Ex.move rfl) rfl rfl rfl (SG (Ex.lenStr Tryz.underlying9 rfl) rfl rfl rfl (SG (Ex.sliceH Tryz.underlying9 rfl rfl hxs5) rfl rfl rfl (SG (Ex.move rfl) rfl rfl rfl (SG (Ex.strEql rfl rfl) rfl rfl rfl (PT rfl rfl rfl (AS rfl rfl (NL ?_))))))))))
    exact WQ.meetN [(4, _)] ⟨rfl, trivial⟩ ⟨_, _, rfl, H, e2⟩
   ·
    rw [if_neg hk4] at e2
    refine WR.stepE (v' := .bool false) (Ex.geq rfl rfl) (congrArg Value.bool (decide_eq_false hk4)) (Wn.none rfl) rfl rfl (MV rfl rfl (WR.skipN 6 rfl rfl (PF rfl rfl rfl (AS rfl rfl (NL ?_)))))
    exact WQ.meetN [(4, _)] ⟨rfl, trivial⟩ ⟨_, _, rfl, H, e2⟩
  ·
   rintro e w ⟨b3, M, rfl, H, q6⟩
   obtain rfl := oI q6
   refine TN (RT ?_)
   obtain rfl := oI h
   exact WQ.ret1 rfl rfl H.ext rfl
theorem strings_HasPrefix_ct {p0 : List UInt8} {p1 : List UInt8} {r : Bool} (h : strings_HasPrefix p0 p1 = some r) : Ct Tryz.prog 135 [S p0, S p1] (fun M => True) (fun v M => v = Value.bool r) := by
  refine Ct.of Tryz.func135 (enters Tryz.func135 (by kernel_rfl) rfl) rfl rfl rfl ?_
  intro w0 M0 H hp
  unfold strings_HasPrefix at h
  refine SQ (RG (AS rfl rfl (NL (TN (SQ ?_)))))
  obtain ⟨b1, hx2, h⟩ := bnd h
  refine RG (MV rfl rfl (MV rfl rfl (WR.call H (stringslite_HasPrefix_ct hx2) rfl trivial (Wn.none rfl) rfl ?_)))
  intro v7 M w H hle hR
  obtain rfl := hR
  refine AS rfl rfl (NL (TN (RT ?_)))
  obtain rfl := oI h
  exact WQ.ret1 rfl rfl H.ext rfl
theorem stringslite_HasSuffix_ct {p0 : List UInt8} {p1 : List UInt8} {r : Bool} (h : stringslite_HasSuffix p0 p1 = some r) : Ct Tryz.prog 108 [S p0, S p1] (fun M => True) (fun v M => v = Value.bool r) := by
  refine Ct.of Tryz.func108 (enters Tryz.func108 (by kernel_rfl) rfl) rfl rfl rfl ?_
  intro w0 M0 H hp
  unfold stringslite_HasSuffix at h
  refine SQ (RG (AS rfl rfl (NL (TN (SQ ?_)))))
  obtain ⟨o1, e2, h⟩ := bnd h
  refine WC.cutX (fun e w => ∃ (b3 : Bool) (M : Mem), e = [(4, Value.bool b3)] ∧ St w0 M0 M [] w ∧ some b3 = some o1) [] ?_ ?_ (trivial)
  ·
   refine RG (MV rfl rfl (ST (Ex.lenStr Tryz.underlying9 rfl) rfl (MV rfl rfl (ST (Ex.lenStr Tryz.underlying9 rfl) rfl ?_))))
   by_cases hk4 : (p1.length : Int) ≤ (p0.length : Int)
   ·
    rw [if_pos hk4] at e2
    obtain ⟨n5, hxn5, e2⟩ := bnd e2
    obtain ⟨s6, hxs6, e2⟩ := bnd e2
    refine WR.stepE (v' := .bool true) (Ex.geq rfl rfl) (congrArg Value.bool (decide_eq_true hk4)) (Wn.none rfl) rfl rfl (MV rfl rfl (SG (Ex.move rfl) rfl rfl rfl (SG (Ex.move rfl) rfl rfl rfl (SG (Ex.lenStr Tryz.underlying9 rfl) rfl rfl rfl (SG (Ex.move rfl) rfl rfl rfl (SG (Ex.lenStr Tryz.underlying9 rfl) rfl rfl rfl (SG (Ex.subC rfl rfl hxn5) rfl rfl rfl (SG (Ex.sliceL Tryz.underlying9 rfl rfl hxs6) rfl rfl rfl (SG (Ex.move rfl) rfl rfl rfl (SG (Ex.strEql rfl rfl) rfl rfl rfl (PT rfl rfl rfl (AS rfl rfl (NL ?_)))))))))))))
    exact WQ.meetN [(4, _)] ⟨rfl, trivial⟩ ⟨_, _, rfl, H, e2⟩
   ·
    rw [if_neg hk4] at e2
    refine WR.stepE (v' := .bool false) (Ex.geq rfl rfl) (congrArg Value.bool (decide_eq_false hk4)) (Wn.none rfl) rfl rfl (MV rfl rfl (WR.skipN 9 rfl rfl (PF rfl rfl rfl (AS rfl rfl (NL ?_)))))
    exact WQ.meetN [(4, _)] ⟨rfl, trivial⟩ ⟨_, _, rfl, H, e2⟩
  ·
   rintro e w ⟨b3, M, rfl, H, q7⟩
   obtain rfl := oI q7
   refine TN (RT ?_)
   obtain rfl := oI h
   exact WQ.ret1 rfl rfl H.ext rfl
theorem strings_HasSuffix_ct {p0 : List UInt8} {p1 : List UInt8} {r : Bool} (h : strings_HasSuffix p0 p1 = some r) : Ct Tryz.prog 136 [S p0, S p1] (fun M => True) (fun v M => v = Value.bool r) := by
  refine Ct.of Tryz.func136 (enters Tryz.func136 (by kernel_rfl) rfl) rfl rfl rfl ?_
  intro w0 M0 H hp
  unfold strings_HasSuffix at h
  refine SQ (RG (AS rfl rfl (NL (TN (SQ ?_)))))
  obtain ⟨b1, hx2, h⟩ := bnd h
  refine RG (MV rfl rfl (MV rfl rfl (WR.call H (stringslite_HasSuffix_ct hx2) rfl trivial (Wn.none rfl) rfl ?_)))
  intro v7 M w H hle hR
  obtain rfl := hR
  refine AS rfl rfl (NL (TN (RT ?_)))
  obtain rfl := oI h
  exact WQ.ret1 rfl rfl H.ext rfl
theorem words_plain_ct {p0 : List UInt8} {r : Bool} (h : words_plain p0 = some r) : Ct Tryz.prog 109 [S p0] (fun M => GlF (fun w => ∃ m, w.cell? ⟨2, 0, none⟩ = some (.int .i64 m)) M) (fun v M => v = Value.bool r) := by
  refine Ct.of Tryz.func109 (enters Tryz.func109 (by kernel_rfl) rfl) rfl rfl rfl ?_
  intro w0 M0 H hp
  have hg_maxl := hp
  unfold words_plain at h
  refine SQ (RG (AS rfl rfl (NL (TN (SQ (SQ (RG (MV rfl rfl (ST (Ex.lenStr Tryz.underlying9 rfl) rfl (MV rfl rfl (NL (TN ?_))))))))))))
  obtain ⟨o1, e2, h⟩ := bnd h
  refine WC.cutX (fun e w => ∃  (M : Mem), e = [(0, S p0)] ∧ St w0 M0 M [] w ∧ GlF (fun w => ∃ m, w.cell? ⟨2, 0, none⟩ = some (.int .i64 m)) M ∧ some (.inl ()) = some o1) [] ?_ ?_ (trivial)
  ·
   refine BL (WC.loopP (fun m e w => ∃ (n3 : Int) (M : Mem), e = [(0, S p0), (5, I (p0.length : Int)), (6, I n3)] ∧ St w0 M0 M [] w ∧ GlF (fun w => ∃ m, w.cell? ⟨2, 0, none⟩ = some (.int .i64 m)) M ∧ words_plain_L1 p0 m n3 = some o1) FU [(0, _), (5, _), (6, _)] ⟨rfl, rfl, rfl, trivial⟩ ⟨_, _, rfl, H, hg_maxl, e2⟩ ?_)
   rintro m4 e w ⟨n3, M, rfl, H, hg_maxl, e2⟩
   rcases m4 with _ | m4
   · rw [words_plain_L1] at e2; cases e2
   rw [words_plain_L1] at e2
   refine SQ (RG (ST (Ex.lss rfl rfl) rfl (NL (TN (SQ ?_)))))
   refine WC.condB rfl (fun hk5 => ?_) (fun hk5 => ?_)
   ·
    replace hk5 : n3 < (p0.length : Int) := of_decide_eq_true hk5
    rw [if_pos hk5] at e2
    refine SK (TN (SQ (BL (SQ (RG (MV rfl rfl (AS rfl rfl (NL (TN (SQ ?_))))))))))
    obtain ⟨o6, e7, e2⟩ := bnd e2
    refine WC.cutX (fun e w => ∃ (b8 : Bool) (M : Mem), e = [(0, S p0), (5, I (p0.length : Int)), (6, I n3), (18, Value.bool b8)] ∧ St w0 M0 M [] w ∧ GlF (fun w => ∃ m, w.cell? ⟨2, 0, none⟩ = some (.int .i64 m)) M ∧ some b8 = some o6) [] ?_ ?_ (trivial)
    ·
     obtain ⟨c9, hxc9, e7⟩ := bnd e7
     refine RG (MV rfl rfl (MV rfl rfl (ST (Ex.idxStrC Tryz.underlying9 rfl rfl hxc9) rfl ?_)))
     by_cases hk10 : c9.toNat < 32
     ·
      rw [if_pos hk10] at e7
      refine WR.stepE (v' := .bool true) (Ex.lssB (i := c9.toNat) (j := 32) rfl rfl) (congrArg Value.bool (decide_eq_true hk10)) (Wn.none rfl) rfl rfl (MV rfl rfl (WR.skipN 4 rfl rfl (PT rfl rfl rfl (NL ?_))))
      exact WQ.meetN [(0, _), (5, _), (6, _), (18, _)] ⟨rfl, rfl, rfl, rfl, trivial⟩ ⟨_, _, rfl, H, hg_maxl, e7⟩
     ·
      rw [if_neg hk10] at e7
      obtain ⟨c11, hxc11, e7⟩ := bnd e7
      refine WR.stepE (v' := .bool false) (Ex.lssB (i := c9.toNat) (j := 32) rfl rfl) (congrArg Value.bool (decide_eq_false hk10)) (Wn.none rfl) rfl rfl (MV rfl rfl (SG (Ex.move rfl) rfl rfl rfl (SG (Ex.move rfl) rfl rfl rfl (SG (Ex.idxStrC Tryz.underlying9 rfl rfl hxc11) rfl rfl rfl (SG (Ex.gtrB (i := c11.toNat) (j := 126) rfl rfl) rfl rfl rfl (PF rfl rfl rfl (NL ?_)))))))
      exact WQ.meetN [(0, _), (5, _), (6, _), (18, _)] ⟨rfl, rfl, rfl, rfl, trivial⟩ ⟨_, _, rfl, H, hg_maxl, e7⟩
    ·
     rintro e w ⟨b8, M, rfl, H, hg_maxl, q12⟩
     obtain rfl := oI q12
     refine TN ?_
     refine WC.condB rfl (fun hk13 => ?_) (fun hk13 => ?_)
     ·
      subst hk13
      rw [if_pos rfl] at e2
      refine SQ (RG (AS rfl rfl (NL (TN (RT ?_)))))
      obtain rfl := oI e2
      try dsimp only at h
      obtain rfl := oI h
      exact WQ.ret1 rfl rfl H.ext rfl
     ·
      subst hk13
      rw [if_neg Bool.false_ne_true] at e2
      refine SK (IB (TN ?_))
      obtain ⟨n14, hxn14, e2⟩ := bnd e2
      refine RG (ST (Ex.addC rfl rfl hxn14) rfl (MV rfl rfl (NL ?_)))
      exact WQ.againP m4 [(0, _), (5, _), (6, _)] ⟨rfl, rfl, rfl, trivial⟩ ⟨_, _, rfl, H, hg_maxl, e2⟩ (Nat.lt_succ_self _)
   ·
    replace hk5 : ¬ (n3 < (p0.length : Int)) := of_decide_eq_false hk5
    rw [if_neg hk5] at e2
    refine WC.exit (WQ.thenExit (WQ.thenExit (WQ.exitHere ?_)))
    exact WQ.meetN [(0, _)] ⟨rfl, trivial⟩ ⟨_, rfl, H, hg_maxl, e2⟩
  ·
   rintro e w ⟨M, rfl, H, hg_maxl, q15⟩
   obtain rfl := oI q15
   try dsimp only at h
   refine TN (SQ ?_)
   obtain ⟨o16, e17, h⟩ := bnd h
   refine WC.cutX (fun e w => ∃ (b18 : Bool) (M : Mem), e = [(2, Value.bool b18)] ∧ St w0 M0 M [] w ∧ GlF (fun w => ∃ m, w.cell? ⟨2, 0, none⟩ = some (.int .i64 m)) M ∧ some b18 = some o16) [] ?_ ?_ (trivial)
   ·
    obtain ⟨b19, hx20, e17⟩ := bnd e17
    refine RG (MV rfl rfl (WR.call H (strings_HasPrefix_ct hx20) rfl trivial (Wn.none rfl) rfl ?_))
    intro v21 M w H hle hR
    replace hg_maxl := hg_maxl.mono hle
    obtain rfl := hR
    refine ST (Ex.not rfl) rfl (MV rfl rfl ?_)
    rcases b19 with _ | _
    ·
     rw [if_neg Bool.false_ne_true] at e17
     obtain ⟨b21, hx22, e17⟩ := bnd e17
     refine SG (Ex.move rfl) rfl rfl rfl (WR.call H (strings_HasSuffix_ct hx22) rfl trivial (Wn.some rfl rfl rfl) rfl ?_)
     intro v25 M w H hle hR
     replace hg_maxl := hg_maxl.mono hle
     obtain rfl := hR
     refine SG (Ex.not rfl) rfl rfl rfl (PT rfl rfl rfl (MV rfl rfl ?_))
     rcases b21 with _ | _
     ·
      rw [if_neg Bool.false_ne_true] at e17
      obtain ⟨b23, hx24, e17⟩ := bnd e17
      refine SG (Ex.move rfl) rfl rfl rfl (WR.call H (strings_Contains_ct hx24) rfl (hg_maxl) (Wn.some rfl rfl rfl) rfl ?_)
      intro v30 M w H hle hR
      replace hg_maxl := hg_maxl.mono hle
      obtain rfl := hR
      refine SG (Ex.not rfl) rfl rfl rfl (PT rfl rfl rfl (AS rfl rfl (NL ?_)))
      exact WQ.meetN [(2, _)] ⟨rfl, trivial⟩ ⟨_, _, rfl, H, hg_maxl, e17⟩
     ·
      rw [if_pos rfl] at e17
      refine WR.skipN 3 rfl rfl (PF rfl rfl rfl (AS rfl rfl (NL ?_)))
      exact WQ.meetN [(2, _)] ⟨rfl, trivial⟩ ⟨_, _, rfl, H, hg_maxl, e17⟩
    ·
     rw [if_pos rfl] at e17
     refine WR.skipN 3 rfl rfl (PF rfl rfl rfl (MV rfl rfl (WR.skipN 3 rfl rfl (PF rfl rfl rfl (AS rfl rfl (NL ?_))))))
     exact WQ.meetN [(2, _)] ⟨rfl, trivial⟩ ⟨_, _, rfl, H, hg_maxl, e17⟩
   ·
    rintro e w ⟨b18, M, rfl, H, hg_maxl, q25⟩
    obtain rfl := oI q25
    refine TN (RT ?_)
    obtain rfl := oI h
    exact WQ.ret1 rfl rfl H.ext rfl
theorem words_Encode_ct {p0 : List UInt8} {r : (List UInt8 × (Int × Int))} (h : words_Encode p0 = some r) : Ct Tryz.prog 78 [S p0] (fun M => GlF (fun w => ∃ m, w.cell? ⟨2, 0, none⟩ = some (.int .i64 m)) M ∧ Tabs M) (fun v M => v = Value.tuple #[S r.1, Value.agg #[I r.2.1, I r.2.2]]) := by
  refine Ct.ofM Tryz.func78 (enters Tryz.func78 (by kernel_rfl) rfl) rfl rfl rfl ?_
  intro w0 M0 H hp
  obtain ⟨hg_maxl, hg_tabs⟩ := hp
  unfold words_Encode at h
  refine SQ (RG (AS rfl rfl (WR.alloc [_, _] H Tryz.zeroValue27 rfl (Wn.none rfl) rfl ?_)))
  intro bk3 w H
  refine NL (TN (SQ (SQ (RG (MV rfl rfl (ST (Ex.lenStr Tryz.underlying9 rfl) rfl (ST (Ex.gtr rfl rfl) rfl (NL (TN ?_)))))))))
  refine WC.condB rfl (fun hk1 => ?_) (fun hk1 => ?_)
  ·
   replace hk1 : (1000 : Int) < (p0.length : Int) := of_decide_eq_true hk1
   rw [if_pos hk1] at h
   refine SQ ?_
   obtain ⟨⟨n2, n3⟩, hx4, h⟩ := bnd h
   try dsimp only at h
   refine RG (WR.call H (basic_Fault_ct hx4) rfl trivial (Wn.none rfl) rfl ?_)
   intro v11 M w H hle hR
   replace hg_maxl := hg_maxl.mono hle
   replace hg_tabs := hg_tabs.mono hle
   try dsimp only at hR
   obtain rfl := hR
   refine AS rfl rfl (WR.store [_, _] H rfl rfl rfl (by repeat first | exact .head | apply Upd.tail) Tryz.sizeOf27 rfl (by rfl) (by rfl) (Wn.none rfl) ?_)
   intro w H
   refine NL (TN (RT ?_))
   obtain rfl := oI h
   exact WQ.mret2 rfl rfl ⟨_, rfl, H.loadAgg (by repeat first | exact kMh | apply kMt) Tryz.isAgg27 Tryz.sizeOf27 (by rfl)⟩ H.ext rfl
  ·
   replace hk1 : ¬ ((1000 : Int) < (p0.length : Int)) := of_decide_eq_false hk1
   rw [if_neg hk1] at h
   refine SK (TN (SQ (SQ ?_)))
   obtain ⟨b5, hx6, h⟩ := bnd h
   refine RG (MV rfl rfl (WR.call H (utf8_ValidString_ct hx6) rfl (hg_tabs) (Wn.none rfl) rfl ?_))
   intro v13 M w H hle hR
   replace hg_maxl := hg_maxl.mono hle
   replace hg_tabs := hg_tabs.mono hle
   obtain rfl := hR
   refine ST (Ex.not rfl) rfl (NL (TN ?_))
   refine WC.condB rfl (fun hk7 => ?_) (fun hk7 => ?_)
   ·
    replace hk7 : b5 = false := by simpa using hk7
    subst hk7
    rw [if_neg Bool.false_ne_true] at h
    refine SQ ?_
    obtain ⟨⟨n8, n9⟩, hx10, h⟩ := bnd h
    try dsimp only at h
    refine RG (WR.call H (basic_Fault_ct hx10) rfl trivial (Wn.none rfl) rfl ?_)
    intro v15 M w H hle hR
    replace hg_maxl := hg_maxl.mono hle
    replace hg_tabs := hg_tabs.mono hle
    try dsimp only at hR
    obtain rfl := hR
    refine AS rfl rfl (WR.store [_, _] H rfl rfl rfl (by repeat first | exact .head | apply Upd.tail) Tryz.sizeOf27 rfl (by rfl) (by rfl) (Wn.none rfl) ?_)
    intro w H
    refine NL (TN (RT ?_))
    obtain rfl := oI h
    exact WQ.mret2 rfl rfl ⟨_, rfl, H.loadAgg (by repeat first | exact kMh | apply kMt) Tryz.isAgg27 Tryz.sizeOf27 (by rfl)⟩ H.ext rfl
   ·
    replace hk7 : b5 = true := by simpa using hk7
    subst hk7
    rw [if_pos rfl] at h
    refine SK (TN (SQ (SQ ?_)))
    obtain ⟨b11, hx12, h⟩ := bnd h
    refine RG (MV rfl rfl (WR.call H (words_plain_ct hx12) rfl (hg_maxl) (Wn.none rfl) rfl ?_))
    intro v17 M w H hle hR
    replace hg_maxl := hg_maxl.mono hle
    replace hg_tabs := hg_tabs.mono hle
    obtain rfl := hR
    refine NL (TN ?_)
    refine WC.condB rfl (fun hk13 => ?_) (fun hk13 => ?_)
    ·
     subst hk13
     rw [if_pos rfl] at h
     refine SQ ?_
     obtain ⟨⟨n14, n15⟩, hx16, h⟩ := bnd h
     try dsimp only at h
     refine RG (MV rfl rfl (WR.call H (basic_None_ct hx16) rfl trivial (Wn.none rfl) rfl ?_))
     intro v19 M w H hle hR
     replace hg_maxl := hg_maxl.mono hle
     replace hg_tabs := hg_tabs.mono hle
     try dsimp only at hR
     obtain rfl := hR
     refine AS rfl rfl (WR.store [_, _] H rfl rfl rfl (by repeat first | exact .head | apply Upd.tail) Tryz.sizeOf27 rfl (by rfl) (by rfl) (Wn.none rfl) ?_)
     intro w H
     refine NL (TN (RT ?_))
     obtain rfl := oI h
     exact WQ.mret2 rfl rfl ⟨_, rfl, H.loadAgg (by repeat first | exact kMh | apply kMt) Tryz.isAgg27 Tryz.sizeOf27 (by rfl)⟩ H.ext rfl
    ·
     subst hk13
     rw [if_neg Bool.false_ne_true] at h
     cases h
theorem address_phrase_ct {p0 : List UInt8} {r : List UInt8} (h : address_phrase p0 = some r) : Ct Tryz.prog 43 [S p0] (fun M => GlF (fun w => ∃ m, w.cell? ⟨2, 0, none⟩ = some (.int .i64 m)) M ∧ Tabs M) (fun v M => v = S r) := by
  refine Ct.ofM Tryz.func43 (enters Tryz.func43 (by kernel_rfl) rfl) rfl rfl rfl ?_
  intro w0 M0 H hp
  obtain ⟨hg_maxl, hg_tabs⟩ := hp
  unfold address_phrase at h
  refine SQ (RG (WR.box [_] H rfl rfl (Wn.none rfl) rfl ?_))
  intro bk1 w H
  refine WR.alloc [_] H Tryz.zeroValue9 rfl (Wn.none rfl) rfl ?_
  intro bk2 w H
  refine NL (TN (SQ (SQ ?_)))
  obtain ⟨⟨s1, ⟨n2, n3⟩⟩, hx4, h⟩ := bnd h
  try dsimp only at h
  refine RG (ST (Ex.load1 H rfl (by repeat first | exact kMh | apply kMt) Tryz.isAgg9 (by rfl)) rfl ?_)
  refine WR.call H (words_Encode_ct hx4) rfl ⟨hg_maxl, hg_tabs⟩ (Wn.none rfl) rfl ?_
  intro v8 M w H hle hR
  replace hg_maxl := hg_maxl.mono hle
  replace hg_tabs := hg_tabs.mono hle
  try dsimp only at hR
  obtain rfl := hR
  refine MV rfl rfl (ST (Ex.extract rfl rfl) rfl (ST (Ex.extract rfl rfl) rfl (WR.alloc [_, _] H Tryz.zeroValue27 rfl (Wn.none rfl) rfl ?_)))
  intro bk4 w H
  refine AS rfl rfl (WR.store [_, _] H rfl rfl rfl (by repeat first | exact .head | apply Upd.tail) Tryz.sizeOf27 rfl (by rfl) (by rfl) (Wn.none rfl) ?_)
  intro w H
  refine NL (TN (SQ (RG (MV rfl rfl (ST (Ex.load1 H rfl (by repeat first | exact kMh | apply kMt) Tryz.isAgg9 (by rfl)) rfl ?_)))))
  refine ST (Ex.strNeqC rfl rfl) rfl (NL (TN ?_))
  refine WC.condB rfl (fun hk5 => ?_) (fun hk5 => ?_)
  ·
   replace hk5 : ¬ (s1 = p0) := of_not_decide hk5
   rw [if_neg hk5] at h
   refine SQ (RG (MV rfl rfl (WR.store [_] H rfl rfl rfl (by repeat first | exact .head | apply Upd.tail) Tryz.sizeOf9 rfl (by rfl) (by rfl) (Wn.none rfl) ?_)))
   intro w H
   refine NL (TN (RT ?_))
   obtain rfl := oI h
   exact WQ.mret1 rfl ⟨_, rfl, H.load1 (by repeat first | exact kMh | apply kMt) Tryz.isAgg9 (by rfl)⟩ H.ext rfl
  ·
   replace hk5 : s1 = p0 := of_not_decide' hk5
   rw [if_pos hk5] at h
   refine SK (TN (SQ (SQ (RG (ST (Ex.load1 H rfl (by repeat first | exact kMh | apply kMt) Tryz.isAgg9 (by rfl)) rfl ?_)))))
   refine WR.callX (A := []) (B := [.blk bk4 (.cells #[I n2, I n3] 27), .blk bk2 (.cells #[S []] 9), .blk bk1 (.cells #[S p0] 9)]) H strings_SplitSeq_ct (Spl.all _) rfl trivial (Wn.none rfl) rfl ?_
   intro v16 M w its H hle hR
   replace hg_maxl := hg_maxl.mono hle
   replace hg_tabs := hg_tabs.mono hle
   obtain ⟨bk16_0, bk16_1, bk16_2, rfl, rfl⟩ := hR
   simp only [List.cons_append, List.nil_append] at H
   refine NL (TN (BL ?_))
   obtain ⟨o9, e10, h⟩ := bnd h
   refine WC.rangeS (A := [.blk bk16_0 (.cells #[S [32]] 9), .blk bk16_1 (.cells #[S p0] 9), .blk bk16_2 (.cells #[I 0] 3)]) (L := [.blk bk1 (.cells #[S p0] 9), .blk bk2 (.cells #[S []] 9)]) (B := []) (H.pick (L' := [.blk bk16_0 (.cells #[S [32]] 9), .blk bk16_1 (.cells #[S p0] 9), .blk bk16_2 (.cells #[I 0] 3), .blk bk1 (.cells #[S p0] 9), .blk bk2 (.cells #[S []] 9)]) (by repeat first | exact kPn | refine kPc (by repeat first | exact .head | apply Rem.tail) ?_)) rfl strings_splitSeq_1_ct (.left (.left (.left (.left (.left (Spl.all _)))))) ⟨hg_maxl, hg_tabs⟩ rfl (fun s L M => ∃ (s6 : List UInt8) (tg8 : Nat), s = (s6, tg8) ∧ L = [.blk bk1 (.cells #[S p0] 9), .blk bk2 (.cells #[S s6] 9)] ∧ GlF (fun w => ∃ m, w.cell? ⟨2, 0, none⟩ = some (.int .i64 m)) M ∧ Tabs M) (fun s => exE [.ret] s.2) exStop (fun s => exE_stop _ s) (address_phrase_Y7 p0) ([], 0) o9 e10 (by rintro s L M M' ⟨s6, tg8, rfl, rfl, hg_maxl, hg_tabs⟩ hle; exact ⟨_, _, rfl, rfl, hg_maxl.mono hle, hg_tabs.mono hle⟩) rfl ⟨_, _, rfl, rfl, hg_maxl, hg_tabs⟩ ?_ ?_ ?_
   ·
    rintro lid7 rc7 hrc7 s x11 sx7 L wb7 Mb7 hE e12 ⟨s6, tg8, rfl, rfl, hg_maxl, hg_tabs⟩ H
    unfold address_phrase_Y7 at e12
    try dsimp only at e12
    refine RG (AS rfl rfl (NL (WQ.begin hrc7 H (by repeat first | exact .head | apply Upd.tail) ?_)))
    intro w H
    refine BL (SQ ?_)
    obtain ⟨o13, e14, e12⟩ := bnd e12
    refine WC.cutX (fun e w => ∃ (b15 : Bool) (M : Mem), e = [(1, ptr bk1 0), (2, ptr bk2 0), (24, Value.bool b15)] ∧ StX (feet (.blk lid7 (.loop (rc7 .ready none)) :: [.blk bk1 (.cells #[S p0] 9), .blk bk2 (.cells #[S s6] 9)])) wb7 Mb7 M [.blk bk1 (.cells #[S p0] 9), .blk bk2 (.cells #[S s6] 9), .blk lid7 (.loop (rc7 .busy none))] w ∧ GlF (fun w => ∃ m, w.cell? ⟨2, 0, none⟩ = some (.int .i64 m)) M ∧ Tabs M ∧ some b15 = some o13) [] ?_ ?_ (trivial)
    ·
     by_cases hk16 : x11 = []
     ·
      rw [if_pos hk16] at e14
      refine RG (MV rfl rfl (WR.stepE (v' := .bool true) (Ex.strEql rfl rfl) (congrArg Value.bool (decide_eq_true hk16)) (Wn.none rfl) rfl rfl (MV rfl rfl (WR.skipN 3 rfl rfl (PT rfl rfl rfl (NL ?_))))))
      exact WQ.meetN [(1, _), (2, _), (24, _)] ⟨rfl, rfl, rfl, trivial⟩ ⟨_, _, rfl, (H.pick (L' := [.blk bk1 (.cells #[S p0] 9), .blk bk2 (.cells #[S s6] 9), .blk lid7 (.loop (rc7 .busy none))]) (by repeat first | exact kPn | refine kPc (by repeat first | exact .head | apply Rem.tail) ?_)), hg_maxl, hg_tabs, e14⟩
     ·
      rw [if_neg hk16] at e14
      obtain ⟨b17, hx18, e14⟩ := bnd e14
      refine RG (MV rfl rfl (WR.stepE (v' := .bool false) (Ex.strEql rfl rfl) (congrArg Value.bool (decide_eq_false hk16)) (Wn.none rfl) rfl rfl (MV rfl rfl (SG (Ex.move rfl) rfl rfl rfl (WR.call H (basic_All_ct hx18) rfl ((⟨⟨rfl, rfl⟩, (fun _ _ h => FnV.of (address_atom_ct h) (fun _ _ => trivial))⟩ : FnT90 _ _ _)) (Wn.some rfl rfl rfl) rfl ?_)))))
      intro v22 M w H hle hR
      replace hg_maxl := hg_maxl.mono hle
      replace hg_tabs := hg_tabs.mono hle
      obtain rfl := hR
      refine SG (Ex.not rfl) rfl rfl rfl (PF rfl rfl rfl (NL ?_))
      exact WQ.meetN [(1, _), (2, _), (24, _)] ⟨rfl, rfl, rfl, trivial⟩ ⟨_, _, rfl, (H.pick (L' := [.blk bk1 (.cells #[S p0] 9), .blk bk2 (.cells #[S s6] 9), .blk lid7 (.loop (rc7 .busy none))]) (by repeat first | exact kPn | refine kPc (by repeat first | exact .head | apply Rem.tail) ?_)), hg_maxl, hg_tabs, e14⟩
    ·
     rintro e w ⟨b15, M, rfl, H, hg_maxl, hg_tabs, q19⟩
     obtain rfl := oI q19
     refine TN ?_
     refine WC.condB rfl (fun hk20 => ?_) (fun hk20 => ?_)
     ·
      subst hk20
      rw [if_pos rfl] at e12
      refine SQ ?_
      obtain ⟨s21, hx22, e12⟩ := bnd e12
      refine RG (ST (Ex.load1 H rfl (by repeat first | exact kMh | apply kMt) Tryz.isAgg9 (by rfl)) rfl ?_)
      refine WR.call H (address_quoted_ct hx22) rfl trivial (Wn.none rfl) rfl ?_
      intro v26 M w H hle hR
      replace hg_maxl := hg_maxl.mono hle
      replace hg_tabs := hg_tabs.mono hle
      obtain rfl := hR
      refine WR.store [_] H rfl rfl rfl (by repeat first | exact .head | apply Upd.tail) Tryz.sizeOf9 rfl (by rfl) (by rfl) (Wn.none rfl) ?_
      intro w H
      refine NL (TN (RT ?_))
      obtain rfl := oI e12
      exact WQ.rsRet hrc7 (H.pick (L' := [.blk lid7 (.loop (rc7 .busy none)), .blk bk1 (.cells #[S p0] 9), .blk bk2 (.cells #[S s21] 9)]) (by repeat first | exact kPn | refine kPc (by repeat first | exact .head | apply Rem.tail) ?_)) rfl ⟨_, _, rfl, rfl, hg_maxl, hg_tabs⟩
     ·
      subst hk20
      rw [if_neg Bool.false_ne_true] at e12
      refine SK (IB ?_)
      obtain rfl := oI e12
      exact WQ.rsOn hrc7 (H.pick (L' := [.blk lid7 (.loop (rc7 .busy none)), .blk bk1 (.cells #[S p0] 9), .blk bk2 (.cells #[S s6] 9)]) (by repeat first | exact kPn | refine kPc (by repeat first | exact .head | apply Rem.tail) ?_)) rfl ⟨_, _, rfl, rfl, hg_maxl, hg_tabs⟩
   ·
    rintro Dm7 w M L H hle hE ⟨s6, tg8, rfl, rfl, hg_maxl, hg_tabs⟩
    simp only [List.cons_append, List.nil_append, List.append_nil] at H
    try dsimp only at h
    obtain rfl := exE_none hE
    rw [if_pos rfl] at h
    refine IB (TN (SQ (RG (ST (Ex.load1 H rfl (by repeat first | exact kMh | apply kMt) Tryz.isAgg9 (by rfl)) rfl ?_))))
    refine WR.store [_] H rfl rfl rfl (by repeat first | exact .head | apply Upd.tail) Tryz.sizeOf9 rfl (by rfl) (by rfl) (Wn.none rfl) ?_
    intro w H
    refine NL (TN (RT ?_))
    obtain rfl := oI h
    exact WQ.nret1 rfl H (by repeat first | exact .head | apply Rem.tail) (fun w H => ⟨_, rfl, H.load1 (by repeat first | exact kMh | apply kMt) Tryz.isAgg9 (by rfl)⟩) rfl
   ·
    rintro Dm7 w M L c H hle hE ⟨s6, tg8, rfl, rfl, hg_maxl, hg_tabs⟩
    simp only [List.cons_append, List.nil_append, List.append_nil] at H
    try dsimp only at h
    by_cases kt7 : tg8 = 1
    ·
     subst kt7
     obtain rfl := oI hE
     rw [if_neg (by decide), if_pos rfl] at h
     refine RT ?_
     obtain rfl := oI h
     exact WQ.nret1 rfl H (by repeat first | exact .head | apply Rem.tail) (fun w H => ⟨_, rfl, H.load1 (by repeat first | exact kMh | apply kMt) Tryz.isAgg9 (by rfl)⟩) rfl
    ·
     have kn7_1 := kt7
     rw [if_neg (exE_ne hE), if_neg kn7_1] at h; cases h
theorem address_mailbox_ct {p0 : (List UInt8 × List UInt8 × List UInt8)} {r : List UInt8} (h : address_mailbox p0 = some r) : Ct Tryz.prog 40 [Value.agg #[S p0.1, S p0.2.1, S p0.2.2]] (fun M => GlF (fun w => ∃ m, w.cell? ⟨2, 0, none⟩ = some (.int .i64 m)) M ∧ Tabs M) (fun v M => v = S r) := by
  refine Ct.of Tryz.func40 (enters Tryz.func40 (by kernel_rfl) rfl) rfl rfl rfl ?_
  intro w0 M0 H hp
  obtain ⟨hg_maxl, hg_tabs⟩ := hp
  unfold address_mailbox at h
  refine SQ (RG (WR.box [_, _, _] H rfl rfl (Wn.none rfl) rfl ?_))
  intro bk1 w H
  refine AS rfl rfl (NL (TN (SQ (SQ (RG (ST (Ex.fieldAddr Tryz.underlying24 rfl Tryz.sizeOf9 (by decide) rfl) rfl (ST (Ex.load1 H rfl (by repeat first | exact kMh | apply kMt) Tryz.isAgg9 (by rfl)) rfl ?_)))))))
  refine ST (Ex.strEql rfl rfl) rfl (NL (TN ?_))
  refine WC.condB rfl (fun hk1 => ?_) (fun hk1 => ?_)
  ·
   replace hk1 : p0.1 = [] := of_decide_eq_true hk1
   rw [if_pos hk1] at h
   refine SQ ?_
   obtain ⟨s2, hx3, h⟩ := bnd h
   refine RG (ST (Ex.loadAgg H rfl (by repeat first | exact kMh | apply kMt) Tryz.isAgg24 Tryz.sizeOf24 (by rfl)) rfl ?_)
   refine WR.call H (address_specification_ct hx3) rfl ⟨hg_maxl, hg_tabs⟩ (Wn.none rfl) rfl ?_
   intro v7 M w H hle hR
   replace hg_maxl := hg_maxl.mono hle
   replace hg_tabs := hg_tabs.mono hle
   obtain rfl := hR
   refine AS rfl rfl (NL (TN (RT ?_)))
   obtain rfl := oI h
   exact WQ.ret1 rfl rfl H.ext rfl
  ·
   replace hk1 : ¬ (p0.1 = []) := of_decide_eq_false hk1
   rw [if_neg hk1] at h
   refine SK (TN (SQ ?_))
   obtain ⟨s4, hx5, h⟩ := bnd h
   obtain ⟨s6, hxs6, h⟩ := bnd h
   obtain ⟨s7, hx8, h⟩ := bnd h
   obtain ⟨s9, hxs9, h⟩ := bnd h
   obtain ⟨s10, hxs10, h⟩ := bnd h
   refine WC.cutP (fun e w => ∃  (M : Mem), e = [(2, S s10)] ∧ St w0 M0 M [] w ∧ GlF (fun w => ∃ m, w.cell? ⟨2, 0, none⟩ = some (.int .i64 m)) M ∧ Tabs M) ?_ ?_
   ·
    refine WC.draw (m := 9) rfl rfl H ?_
    intro w H
    refine WA.take (i := 0) rfl (by kernel_rfl) (by kernel_rfl) (by kernel_rfl) (fun _ => Ex.fieldAddr Tryz.underlying24 rfl Tryz.sizeOf9 (by decide) rfl) (Wn.none rfl) rfl rfl (fun _ _ => rfl) (WA.takeM (i := 1) [4] rfl (by kernel_rfl) (by kernel_rfl) (by kernel_rfl) (Ex.load1 H rfl (by repeat first | exact kMh | apply kMt) Tryz.isAgg9 (by rfl)) (Wn.none rfl) rfl rfl (fun _ _ => rfl) ?_)
    refine WA.two (i := 2) (j := 4) (by kernel_rfl) rfl rfl ?_ ?_
    ·
     refine WR.call H (address_phrase_ct hx5) rfl ⟨hg_maxl, hg_tabs⟩ (Wn.none rfl) rfl ?_
     intro v10 M w H hle hR
     replace hg_maxl := hg_maxl.mono hle
     replace hg_tabs := hg_tabs.mono hle
     obtain rfl := hR
     refine NA (WA.take (i := 3) rfl (by kernel_rfl) (by kernel_rfl) (by kernel_rfl) (fun _ => Ex.strAddC rfl rfl hxs6) (Wn.none rfl) rfl rfl (fun _ _ => rfl) (WA.seq (fuel := 0) [4, 5, 6, 7, 8] rfl (by kernel_rfl) (ST (Ex.loadAgg H rfl (by repeat first | exact kMh | apply kMt) Tryz.isAgg24 Tryz.sizeOf24 (by rfl)) rfl ?_)))
     refine WR.call H (address_specification_ct hx8) rfl ⟨hg_maxl, hg_tabs⟩ (Wn.none rfl) rfl ?_
     intro v13 M w H hle hR
     replace hg_maxl := hg_maxl.mono hle
     replace hg_tabs := hg_tabs.mono hle
     obtain rfl := hR
     refine ST (Ex.strAddC rfl rfl hxs9) rfl (ST (Ex.strAddC rfl rfl hxs10) rfl (AS rfl rfl (NA (WA.done (by kernel_rfl) ?_))))
     exact WQ.meetP [(2, _)] ⟨rfl, trivial⟩ ⟨_, rfl, (H.pick (L' := []) (by repeat first | exact kPn | refine kPc (by repeat first | exact .head | apply Rem.tail) ?_)), hg_maxl, hg_tabs⟩
    ·
     refine ST (Ex.loadAgg H rfl (by repeat first | exact kMh | apply kMt) Tryz.isAgg24 Tryz.sizeOf24 (by rfl)) rfl ?_
     refine NA (ON 2 (by kernel_rfl) rfl (WR.call H (address_phrase_ct hx5) rfl ⟨hg_maxl, hg_tabs⟩ (Wn.none rfl) rfl ?_))
     intro v10 M w H hle hR
     replace hg_maxl := hg_maxl.mono hle
     replace hg_tabs := hg_tabs.mono hle
     obtain rfl := hR
     refine NA (WA.take (i := 3) rfl (by kernel_rfl) (by kernel_rfl) (by kernel_rfl) (fun _ => Ex.strAddC rfl rfl hxs6) (Wn.none rfl) rfl rfl (fun _ _ => rfl) (WA.seq (fuel := 0) [5, 6, 7, 8] rfl (by kernel_rfl) (WR.call H (address_specification_ct hx8) rfl ⟨hg_maxl, hg_tabs⟩ (Wn.none rfl) rfl ?_)))
     intro v13 M w H hle hR
     replace hg_maxl := hg_maxl.mono hle
     replace hg_tabs := hg_tabs.mono hle
     obtain rfl := hR
     refine ST (Ex.strAddC rfl rfl hxs9) rfl (ST (Ex.strAddC rfl rfl hxs10) rfl (AS rfl rfl (NA (WA.done (by kernel_rfl) ?_))))
     exact WQ.meetP [(2, _)] ⟨rfl, trivial⟩ ⟨_, rfl, (H.pick (L' := []) (by repeat first | exact kPn | refine kPc (by repeat first | exact .head | apply Rem.tail) ?_)), hg_maxl, hg_tabs⟩
   ·
    rintro e w ⟨M, rfl, H, hg_maxl, hg_tabs⟩
    refine TN (RT ?_)
    obtain rfl := oI h
    exact WQ.ret1 rfl rfl H.ext rfl
theorem stringslite_TrimSuffix_ct {p0 : List UInt8} {p1 : List UInt8} {r : List UInt8} (h : stringslite_TrimSuffix p0 p1 = some r) : Ct Tryz.prog 77 [S p0, S p1] (fun M => True) (fun v M => v = S r) := by
  refine Ct.of Tryz.func77 (enters Tryz.func77 (by kernel_rfl) rfl) rfl rfl rfl ?_
  intro w0 M0 H hp
  unfold stringslite_TrimSuffix at h
  refine SQ (RG (AS rfl rfl (NL (TN (SQ (SQ ?_))))))
  obtain ⟨b1, hx2, h⟩ := bnd h
  refine RG (MV rfl rfl (MV rfl rfl (WR.call H (stringslite_HasSuffix_ct hx2) rfl trivial (Wn.none rfl) rfl ?_)))
  intro v7 M w H hle hR
  obtain rfl := hR
  refine NL (TN ?_)
  refine WC.condB rfl (fun hk3 => ?_) (fun hk3 => ?_)
  ·
   subst hk3
   rw [if_pos rfl] at h
   refine SQ ?_
   obtain ⟨n4, hxn4, h⟩ := bnd h
   obtain ⟨s5, hxs5, h⟩ := bnd h
   refine RG (MV rfl rfl (MV rfl rfl (ST (Ex.lenStr Tryz.underlying9 rfl) rfl (MV rfl rfl (ST (Ex.lenStr Tryz.underlying9 rfl) rfl (ST (Ex.subC rfl rfl hxn4) rfl (ST (Ex.sliceH Tryz.underlying9 rfl rfl hxs5) rfl (AS rfl rfl (NL (TN (RT ?_)))))))))))
   obtain rfl := oI h
   exact WQ.ret1 rfl rfl H.ext rfl
  ·
   subst hk3
   rw [if_neg Bool.false_ne_true] at h
   refine SK (TN (SQ (RG (MV rfl rfl (AS rfl rfl (NL (TN (RT ?_))))))))
   obtain rfl := oI h
   exact WQ.ret1 rfl rfl H.ext rfl
theorem strings_TrimSuffix_ct {p0 : List UInt8} {p1 : List UInt8} {r : List UInt8} (h : strings_TrimSuffix p0 p1 = some r) : Ct Tryz.prog 42 [S p0, S p1] (fun M => True) (fun v M => v = S r) := by
  refine Ct.of Tryz.func42 (enters Tryz.func42 (by kernel_rfl) rfl) rfl rfl rfl ?_
  intro w0 M0 H hp
  unfold strings_TrimSuffix at h
  refine SQ (RG (AS rfl rfl (NL (TN (SQ ?_)))))
  obtain ⟨s1, hx2, h⟩ := bnd h
  refine RG (MV rfl rfl (MV rfl rfl (WR.call H (stringslite_TrimSuffix_ct hx2) rfl trivial (Wn.none rfl) rfl ?_)))
  intro v7 M w H hle hR
  obtain rfl := hR
  refine AS rfl rfl (NL (TN (RT ?_)))
  obtain rfl := oI h
  exact WQ.ret1 rfl rfl H.ext rfl
theorem address_Print_ct {p0 : List (List UInt8 × Bool × List (List UInt8 × List UInt8 × List UInt8))} {vp0 : Value} {r : (List UInt8 × (Int × Int))} (h : address_Print p0 = some r) : Ct Tryz.prog 16 [vp0] (fun M => GlF (fun w => ∃ m, w.cell? ⟨2, 0, none⟩ = some (.int .i64 m)) M ∧ Tabs M ∧ SlR xrl34 M vp0 p0) (fun v M => v = Value.tuple #[S r.1, Value.agg #[I r.2.1, I r.2.2]]) := by
  refine Ct.of Tryz.func16 (enters Tryz.func16 (by kernel_rfl) rfl) rfl rfl rfl ?_
  intro w0 M0 H hp
  obtain ⟨hg_maxl, hg_tabs, hp0⟩ := hp
  unfold address_Print at h
  refine SQ (RG (AS rfl rfl (WR.alloc [_, _] H Tryz.zeroValue27 rfl (Wn.none rfl) rfl ?_)))
  intro bk3 w H
  refine NL (TN (SQ (SQ ?_)))
  obtain ⟨⟨n1, n2⟩, hx3, h⟩ := bnd h
  try dsimp only at h
  refine RG (MV rfl rfl (WR.call H (address_Check_ct hx3) rfl ⟨hg_maxl, hg_tabs, hp0⟩ (Wn.none rfl) rfl ?_))
  intro v14 M w H hle hR
  replace hg_maxl := hg_maxl.mono hle
  replace hg_tabs := hg_tabs.mono hle
  replace hp0 := hp0.mono hle
  try dsimp only at hR
  obtain rfl := hR
  refine WR.alloc [_, _] H Tryz.zeroValue27 rfl (Wn.none rfl) rfl ?_
  intro bk4 w H
  refine WR.store [_, _] H rfl rfl rfl (by repeat first | exact .head | apply Upd.tail) Tryz.sizeOf27 rfl (by rfl) (by rfl) (Wn.none rfl) ?_
  intro w H
  refine NL (TN (SQ ?_))
  obtain ⟨b4, hx5, h⟩ := bnd h
  refine RG (ST (Ex.loadAgg H rfl (by repeat first | exact kMh | apply kMt) Tryz.isAgg27 Tryz.sizeOf27 (by rfl)) rfl ?_)
  refine WR.call H (basic_Failed_ct hx5) rfl trivial (Wn.none rfl) rfl ?_
  intro v16 M w H hle hR
  replace hg_maxl := hg_maxl.mono hle
  replace hg_tabs := hg_tabs.mono hle
  replace hp0 := hp0.mono hle
  obtain rfl := hR
  refine NL (TN ?_)
  refine WC.condB rfl (fun hk6 => ?_) (fun hk6 => ?_)
  ·
   subst hk6
   rw [if_pos rfl] at h
   refine SQ (WC.draw (m := 3) rfl rfl H ?_)
   intro w H
   refine WA.take (i := 1) rfl (by kernel_rfl) (by kernel_rfl) (by kernel_rfl) (fun _ => Ex.assign rfl) (Wn.none rfl) rfl rfl (fun _ _ => rfl) (WA.seq (fuel := 0) [0, 2] rfl (by kernel_rfl) (ST (Ex.loadAgg H rfl (by repeat first | exact kMh | apply kMt) Tryz.isAgg27 Tryz.sizeOf27 (by rfl)) rfl ?_))
   refine WR.store [_, _] H rfl rfl rfl (by repeat first | exact .head | apply Upd.tail) Tryz.sizeOf27 rfl (by rfl) (by rfl) (Wn.none rfl) ?_
   intro w H
   refine NA (WA.done (by kernel_rfl) (TN (RT ?_)))
   obtain rfl := oI h
   exact WQ.ret2 rfl rfl ⟨_, rfl, H.loadAgg (by repeat first | exact kMh | apply kMt) Tryz.isAgg27 Tryz.sizeOf27 (by rfl)⟩ H.ext rfl
  ·
   subst hk6
   rw [if_neg Bool.false_ne_true] at h
   refine SK (TN (SQ (RG (AS rfl rfl (NL (TN (SQ (SQ (RG (MV rfl rfl (ST (Ex.lenSlR Tryz.underlying22 hp0 rfl) rfl (MV rfl rfl (NL (TN ?_))))))))))))))
   obtain ⟨o7, e8, h⟩ := bnd h
   refine WC.cutX (fun e w => ∃ (l10 : List (List UInt8)) (v11 : Value) (M : Mem), e = [(3, ptr bk3 0), (5, v11)] ∧ St w0 M0 M [.blk bk3 (.cells #[I 0, I 0] 27), RowI 9 encS v11 l10] w ∧ GlF (fun w => ∃ m, w.cell? ⟨2, 0, none⟩ = some (.int .i64 m)) M ∧ Tabs M ∧ some l10 = some o7) [] ?_ ?_ (trivial)
   ·
    refine BL ?_
    replace H := H.newRow 9 encS
    refine WC.loopP (fun m e w => ∃ (l13 : List (List UInt8)) (v14 : Value) (n15 : Int) (M : Mem), e = [(3, ptr bk3 0), (5, v14), (18, vp0), (19, I (p0.length : Int)), (20, I n15)] ∧ St w0 M0 M [.blk bk3 (.cells #[I 0, I 0] 27), RowI 9 encS v14 l13] w ∧ GlF (fun w => ∃ m, w.cell? ⟨2, 0, none⟩ = some (.int .i64 m)) M ∧ Tabs M ∧ SlR xrl34 M vp0 p0 ∧ address_Print_L1 p0 m l13 n15 = some o7) FU [(3, _), (5, _), (18, _), (19, _), (20, _)] ⟨rfl, rfl, rfl, rfl, rfl, trivial⟩ ⟨_, _, _, _, rfl, (H.pick (L' := [.blk bk3 (.cells #[I 0, I 0] 27), RowI 9 encS (Value.slice none 0 0) []]) (by repeat first | exact kPn | refine kPc (by repeat first | exact .head | apply Rem.tail) ?_)), hg_maxl, hg_tabs, hp0, e8⟩ ?_
    rintro m16 e w ⟨l13, v14, n15, M, rfl, H, hg_maxl, hg_tabs, hp0, e8⟩
    rcases m16 with _ | m16
    · rw [address_Print_L1] at e8; cases e8
    rw [address_Print_L1] at e8
    refine SQ (RG (ST (Ex.lss rfl rfl) rfl (NL (TN (SQ ?_)))))
    refine WC.condB rfl (fun hk18 => ?_) (fun hk18 => ?_)
    ·
     replace hk18 : n15 < (p0.length : Int) := of_decide_eq_true hk18
     rw [if_pos hk18] at e8
     refine SK (TN (SQ (BL (SQ ?_))))
     obtain ⟨a19, hxa19, e8⟩ := bnd e8
     obtain ⟨bk22, o22, fq22, ha22, hc22, hr22⟩ := hp0.atC hxa19
     obtain ⟨f22_0, f22_1, q22_2⟩ := fq22
     replace hr22 : f22_0 = a19.1 ∧ f22_1 = a19.2.1 ∧ SlS M 3 xenc24 (hv q22_2) a19.2.2 := hr22
     obtain ⟨rfl, rfl, hs22_2⟩ := hr22
     refine RG (ST (Ex.idxAt ha22 Tryz.underlying22 Tryz.sizeOf34 rfl rfl) rfl (ST (Ex.loadAggM H rfl hc22 Tryz.isAgg34 Tryz.sizeOf34 (by rfl)) rfl ?_))
     refine WR.alloc [_, _, _] H Tryz.zeroValue34 rfl (Wn.none rfl) rfl ?_
     intro bk7 w H
     refine WR.store [_, _, _] H rfl rfl rfl (by repeat first | exact .head | apply Upd.tail) Tryz.sizeOf34 rfl (by rfl) (by simp only [List.all_cons, List.all_nil, (hs22_2).one.2]; rfl) (Wn.none rfl) ?_
     intro w H
     refine NL (TN (SQ (RG (AS rfl rfl (NL (TN (SQ (SQ (RG (ST (Ex.fieldAddr Tryz.underlying34 rfl Tryz.sizeOf30 (by decide) rfl) rfl (ST (Ex.load1 H rfl (by repeat first | exact kMh | apply kMt) Tryz.isAgg30 (by rfl)) rfl ?_)))))))))))
     refine ST (Ex.lenSlS Tryz.underlying30 hs22_2 rfl) rfl (MV rfl rfl (NL (TN ?_)))
     obtain ⟨o20, e21, e8⟩ := bnd e8
     refine WC.cutX (fun e w => ∃ (l23 : List (List UInt8)) (v24 : Value) (M : Mem), e = [(3, ptr bk3 0), (5, v14), (7, ptr bk7 0), (8, v24), (18, vp0), (19, I (p0.length : Int)), (20, I n15)] ∧ St w0 M0 M [.blk bk3 (.cells #[I 0, I 0] 27), RowI 9 encS v14 l13, .blk bk7 (.cells #[S a19.1, Value.bool a19.2.1, (hv q22_2)] 34), RowI 9 encS v24 l23] w ∧ GlF (fun w => ∃ m, w.cell? ⟨2, 0, none⟩ = some (.int .i64 m)) M ∧ Tabs M ∧ SlS M 3 xenc24 (hv q22_2) a19.2.2 ∧ SlR xrl34 M vp0 p0 ∧ some l23 = some o20) [] ?_ ?_ (trivial)
     ·
      refine BL ?_
      replace H := H.newRow 9 encS
      refine WC.loopP (fun m e w => ∃ (l26 : List (List UInt8)) (v27 : Value) (n28 : Int) (M : Mem), e = [(3, ptr bk3 0), (5, v14), (7, ptr bk7 0), (8, v27), (18, vp0), (19, I (p0.length : Int)), (20, I n15), (25, (hv q22_2)), (26, I (a19.2.2.length : Int)), (27, I n28)] ∧ St w0 M0 M [.blk bk3 (.cells #[I 0, I 0] 27), RowI 9 encS v14 l13, .blk bk7 (.cells #[S a19.1, Value.bool a19.2.1, (hv q22_2)] 34), RowI 9 encS v27 l26] w ∧ GlF (fun w => ∃ m, w.cell? ⟨2, 0, none⟩ = some (.int .i64 m)) M ∧ Tabs M ∧ SlS M 3 xenc24 (hv q22_2) a19.2.2 ∧ SlR xrl34 M vp0 p0 ∧ address_Print_L2 a19 m l26 n28 = some o20) FU [(3, _), (5, _), (7, _), (8, _), (18, _), (19, _), (20, _), (25, _), (26, _), (27, _)] ⟨rfl, rfl, rfl, rfl, rfl, rfl, rfl, rfl, rfl, rfl, trivial⟩ ⟨_, _, _, _, rfl, (H.pick (L' := [.blk bk3 (.cells #[I 0, I 0] 27), RowI 9 encS v14 l13, .blk bk7 (.cells #[S a19.1, Value.bool a19.2.1, (hv q22_2)] 34), RowI 9 encS (Value.slice none 0 0) []]) (by repeat first | exact kPn | refine kPc (by repeat first | exact .head | apply Rem.tail) ?_)), hg_maxl, hg_tabs, hs22_2, hp0, e21⟩ ?_
      rintro m29 e w ⟨l26, v27, n28, M, rfl, H, hg_maxl, hg_tabs, hs22_2, hp0, e21⟩
      rcases m29 with _ | m29
      · rw [address_Print_L2] at e21; cases e21
      rw [address_Print_L2] at e21
      refine SQ (RG (ST (Ex.lss rfl rfl) rfl (NL (TN (SQ ?_)))))
      refine WC.condB rfl (fun hk31 => ?_) (fun hk31 => ?_)
      ·
       replace hk31 : n28 < (a19.2.2.length : Int) := of_decide_eq_true hk31
       rw [if_pos hk31] at e21
       refine SK (TN (SQ (BL (SQ ?_))))
       obtain ⟨a32, hxa32, e21⟩ := bnd e21
       obtain ⟨bk29, o29, ha29, hc29⟩ := hs22_2.atC hxa32
       refine RG (ST (Ex.idxAt ha29 Tryz.underlying30 Tryz.sizeOf24 rfl rfl) rfl (ST (Ex.loadAggM H rfl hc29 Tryz.isAgg24 Tryz.sizeOf24 (by rfl)) rfl ?_))
       refine WR.alloc [_, _, _] H Tryz.zeroValue24 rfl (Wn.none rfl) rfl ?_
       intro bk10 w H
       refine WR.store [_, _, _] H rfl rfl rfl (by repeat first | exact .head | apply Upd.tail) Tryz.sizeOf24 rfl (by rfl) (by rfl) (Wn.none rfl) ?_
       intro w H
       refine NL (TN ?_)
       obtain ⟨s33, hx34, e21⟩ := bnd e21
       obtain ⟨l35, hxl35, e21⟩ := bnd e21
       refine RG (MV rfl rfl (ST (Ex.loadAgg H rfl (by repeat first | exact kMh | apply kMt) Tryz.isAgg24 Tryz.sizeOf24 (by rfl)) rfl ?_))
       refine WR.call H (address_mailbox_ct hx34) rfl ⟨hg_maxl, hg_tabs⟩ (Wn.none rfl) rfl ?_
       intro v33 M w H hle hR
       replace hg_maxl := hg_maxl.mono hle
       replace hg_tabs := hg_tabs.mono hle
       replace hp0 := hp0.mono hle
       replace hs22_2 := hs22_2.mono hle
       replace hc29 := hc29.mono hle
       obtain rfl := hR
       refine WR.lit (enc := encS) xty55 ([s33] : List (List UInt8)) H rfl (by rfl) (fun _ => rfl) rfl rfl (Wn.none rfl) rfl ?_
       intro v34 M w H hle hs34
       replace hg_maxl := hg_maxl.mono hle
       replace hg_tabs := hg_tabs.mono hle
       replace hp0 := hp0.mono hle
       replace hs22_2 := hs22_2.mono hle
       replace hc29 := hc29.mono hle
       refine WR.appC (l := l26) xty55 rfl (fun _ => rfl) H rfl (fun _ => by repeat first | exact .head | apply Upd.tail) rfl (hs34) hxl35 (Wn.none rfl) rfl ?_
       intro v35 w H
       refine AS rfl rfl (NL (IB (TN ?_)))
       obtain ⟨n36, hxn36, e21⟩ := bnd e21
       refine RG (ST (Ex.addC rfl rfl hxn36) rfl (MV rfl rfl (NL ?_)))
       exact WQ.againP m29 [(3, _), (5, _), (7, _), (8, _), (18, _), (19, _), (20, _), (25, _), (26, _), (27, _)] ⟨rfl, rfl, rfl, rfl, rfl, rfl, rfl, rfl, rfl, rfl, trivial⟩ ⟨_, _, _, _, rfl, (H.pick (L' := [.blk bk3 (.cells #[I 0, I 0] 27), RowI 9 encS v14 l13, .blk bk7 (.cells #[S a19.1, Value.bool a19.2.1, (hv q22_2)] 34), RowI 9 encS v35 l35]) (by repeat first | exact kPn | refine kPc (by repeat first | exact .head | apply Rem.tail) ?_)), hg_maxl, hg_tabs, hs22_2, hp0, e21⟩ (Nat.lt_succ_self _)
      ·
       replace hk31 : ¬ (n28 < (a19.2.2.length : Int)) := of_decide_eq_false hk31
       rw [if_neg hk31] at e21
       refine WC.exit (WQ.thenExit (WQ.thenExit (WQ.exitHere ?_)))
       exact WQ.meetN [(3, _), (5, _), (7, _), (8, _), (18, _), (19, _), (20, _)] ⟨rfl, rfl, rfl, rfl, rfl, rfl, rfl, trivial⟩ ⟨_, _, _, rfl, H, hg_maxl, hg_tabs, hs22_2, hp0, e21⟩
     ·
      rintro e w ⟨l23, v24, M, rfl, H, hg_maxl, hg_tabs, hs22_2, hp0, q37⟩
      obtain rfl := oI q37
      refine TN (SQ ?_)
      obtain ⟨s39, hx40, e8⟩ := bnd e8
      refine RG (MV rfl rfl ?_)
      obtain ⟨M, hle, hs38, H⟩ := H.freezeRow (v := v24) (enc := encS) (t := 9) (by repeat first | exact .head | apply Rem.tail)
      replace hg_maxl := hg_maxl.mono hle
      replace hg_tabs := hg_tabs.mono hle
      replace hp0 := hp0.mono hle
      replace hs22_2 := hs22_2.mono hle
      refine WR.call H (strings_Join_ct hx40) rfl (hs38) (Wn.none rfl) rfl ?_
      intro v38 M w H hle hR
      replace hg_maxl := hg_maxl.mono hle
      replace hg_tabs := hg_tabs.mono hle
      replace hp0 := hp0.mono hle
      replace hs22_2 := hs22_2.mono hle
      replace hs38 := hs38.mono hle
      obtain rfl := hR
      refine AS rfl rfl (NL (TN (SQ (SQ (RG (ST (Ex.fieldAddr Tryz.underlying34 rfl Tryz.sizeOf4 (by decide) rfl) rfl (ST (Ex.load1 H rfl (by repeat first | exact kMh | apply kMt) Tryz.isAgg4 (by rfl)) rfl ?_)))))))
      refine NL (TN ?_)
      obtain ⟨o41, e42, e8⟩ := bnd e8
      refine WC.cutX (fun e w => ∃ (s43 : List UInt8) (M : Mem), e = [(3, ptr bk3 0), (5, v14), (11, S s43), (18, vp0), (19, I (p0.length : Int)), (20, I n15)] ∧ St w0 M0 M [.blk bk3 (.cells #[I 0, I 0] 27), RowI 9 encS v14 l13] w ∧ GlF (fun w => ∃ m, w.cell? ⟨2, 0, none⟩ = some (.int .i64 m)) M ∧ Tabs M ∧ SlR xrl34 M vp0 p0 ∧ some s43 = some o41) [] ?_ ?_ (trivial)
      ·
       refine WC.condB rfl (fun hk44 => ?_) (fun hk44 => ?_)
       ·
        rw [if_pos hk44] at e42
        obtain ⟨s45, hx46, e42⟩ := bnd e42
        obtain ⟨s47, hxs47, e42⟩ := bnd e42
        obtain ⟨s48, hxs48, e42⟩ := bnd e42
        obtain ⟨s49, hx50, e42⟩ := bnd e42
        obtain ⟨s51, hxs51, e42⟩ := bnd e42
        refine RG (ST (Ex.fieldAddr Tryz.underlying34 rfl Tryz.sizeOf9 (by decide) rfl) rfl (ST (Ex.load1 H rfl (by repeat first | exact kMh | apply kMt) Tryz.isAgg9 (by rfl)) rfl ?_))
        refine WR.call H (address_phrase_ct hx46) rfl ⟨hg_maxl, hg_tabs⟩ (Wn.none rfl) rfl ?_
        intro v43 M w H hle hR
        replace hg_maxl := hg_maxl.mono hle
        replace hg_tabs := hg_tabs.mono hle
        replace hs38 := hs38.mono hle
        replace hp0 := hp0.mono hle
        replace hs22_2 := hs22_2.mono hle
        obtain rfl := hR
        refine ST (Ex.strAddC rfl rfl hxs47) rfl (MV rfl rfl (ST (Ex.strAddC rfl rfl hxs48) rfl (WR.call H (strings_TrimSuffix_ct hx50) rfl trivial (Wn.none rfl) rfl ?_)))
        intro v47 M w H hle hR
        replace hg_maxl := hg_maxl.mono hle
        replace hg_tabs := hg_tabs.mono hle
        replace hs38 := hs38.mono hle
        replace hp0 := hp0.mono hle
        replace hs22_2 := hs22_2.mono hle
        obtain rfl := hR
        refine ST (Ex.strAddC rfl rfl hxs51) rfl (AS rfl rfl (NL ?_))
        exact WQ.meetN [(3, _), (5, _), (11, _), (18, _), (19, _), (20, _)] ⟨rfl, rfl, rfl, rfl, rfl, rfl, trivial⟩ ⟨_, _, rfl, (H.pick (L' := [.blk bk3 (.cells #[I 0, I 0] 27), RowI 9 encS v14 l13]) (by repeat first | exact kPn | refine kPc (by repeat first | exact .head | apply Rem.tail) ?_)), hg_maxl, hg_tabs, hp0, e42⟩
       ·
        rw [if_neg (by rw [hk44]; exact Bool.false_ne_true)] at e42
        refine SK ?_
        exact WQ.meetN [(3, _), (5, _), (11, _), (18, _), (19, _), (20, _)] ⟨rfl, rfl, rfl, rfl, rfl, rfl, trivial⟩ ⟨_, _, rfl, (H.pick (L' := [.blk bk3 (.cells #[I 0, I 0] 27), RowI 9 encS v14 l13]) (by repeat first | exact kPn | refine kPc (by repeat first | exact .head | apply Rem.tail) ?_)), hg_maxl, hg_tabs, hp0, e42⟩
      ·
       rintro e w ⟨s43, M, rfl, H, hg_maxl, hg_tabs, hp0, q52⟩
       obtain rfl := oI q52
       refine TN ?_
       obtain ⟨l53, hxl53, e8⟩ := bnd e8
       refine RG (MV rfl rfl (MV rfl rfl (WR.lit (enc := encS) xty55 ([s43] : List (List UInt8)) H rfl (by rfl) (fun _ => rfl) rfl rfl (Wn.none rfl) rfl ?_)))
       intro v51 M w H hle hs51
       replace hg_maxl := hg_maxl.mono hle
       replace hg_tabs := hg_tabs.mono hle
       replace hp0 := hp0.mono hle
       refine WR.appC (l := l13) xty55 rfl (fun _ => rfl) H rfl (fun _ => by repeat first | exact .head | apply Upd.tail) rfl (hs51) hxl53 (Wn.none rfl) rfl ?_
       intro v52 w H
       refine AS rfl rfl (NL (IB (TN ?_)))
       obtain ⟨n54, hxn54, e8⟩ := bnd e8
       refine RG (ST (Ex.addC rfl rfl hxn54) rfl (MV rfl rfl (NL ?_)))
       exact WQ.againP m16 [(3, _), (5, _), (18, _), (19, _), (20, _)] ⟨rfl, rfl, rfl, rfl, rfl, trivial⟩ ⟨_, _, _, _, rfl, H, hg_maxl, hg_tabs, hp0, e8⟩ (Nat.lt_succ_self _)
    ·
     replace hk18 : ¬ (n15 < (p0.length : Int)) := of_decide_eq_false hk18
     rw [if_neg hk18] at e8
     refine WC.exit (WQ.thenExit (WQ.thenExit (WQ.exitHere ?_)))
     exact WQ.meetN [(3, _), (5, _)] ⟨rfl, rfl, trivial⟩ ⟨_, _, _, rfl, H, hg_maxl, hg_tabs, e8⟩
   ·
    rintro e w ⟨l10, v11, M, rfl, H, hg_maxl, hg_tabs, q55⟩
    obtain rfl := oI q55
    refine TN (SQ ?_)
    obtain ⟨s57, hx58, h⟩ := bnd h
    refine RG (MV rfl rfl ?_)
    obtain ⟨M, hle, hs56, H⟩ := H.freezeRow (v := v11) (enc := encS) (t := 9) (by repeat first | exact .head | apply Rem.tail)
    replace hg_maxl := hg_maxl.mono hle
    replace hg_tabs := hg_tabs.mono hle
    refine WR.call H (strings_Join_ct hx58) rfl (hs56) (Wn.none rfl) rfl ?_
    intro v55 M w H hle hR
    replace hg_maxl := hg_maxl.mono hle
    replace hg_tabs := hg_tabs.mono hle
    replace hs56 := hs56.mono hle
    obtain rfl := hR
    refine AS rfl rfl (NL (TN (SQ (SQ (RG (MV rfl rfl (ST (Ex.lenStr Tryz.underlying9 rfl) rfl (ST (Ex.gtr rfl rfl) rfl (NL (TN ?_))))))))))
    refine WC.condB rfl (fun hk59 => ?_) (fun hk59 => ?_)
    ·
     replace hk59 : (4000 : Int) < (s57.length : Int) := of_decide_eq_true hk59
     rw [if_pos hk59] at h
     refine SQ ?_
     obtain ⟨⟨n60, n61⟩, hx62, h⟩ := bnd h
     try dsimp only at h
     refine RG (WR.call H (basic_Fault_ct hx62) rfl trivial (Wn.none rfl) rfl ?_)
     intro v59 M w H hle hR
     replace hg_maxl := hg_maxl.mono hle
     replace hg_tabs := hg_tabs.mono hle
     replace hs56 := hs56.mono hle
     try dsimp only at hR
     obtain rfl := hR
     refine AS rfl rfl (WR.store [_, _] H rfl rfl rfl (by repeat first | exact .head | apply Upd.tail) Tryz.sizeOf27 rfl (by rfl) (by rfl) (Wn.none rfl) ?_)
     intro w H
     refine NL (TN (RT ?_))
     obtain rfl := oI h
     exact WQ.ret2 rfl rfl ⟨_, rfl, H.loadAgg (by repeat first | exact kMh | apply kMt) Tryz.isAgg27 Tryz.sizeOf27 (by rfl)⟩ H.ext rfl
    ·
     replace hk59 : ¬ ((4000 : Int) < (s57.length : Int)) := of_decide_eq_false hk59
     rw [if_neg hk59] at h
     refine SK (TN (SQ ?_))
     obtain ⟨⟨n63, n64⟩, hx65, h⟩ := bnd h
     try dsimp only at h
     refine RG (MV rfl rfl (WR.call H (basic_None_ct hx65) rfl trivial (Wn.none rfl) rfl ?_))
     intro v61 M w H hle hR
     replace hg_maxl := hg_maxl.mono hle
     replace hg_tabs := hg_tabs.mono hle
     replace hs56 := hs56.mono hle
     try dsimp only at hR
     obtain rfl := hR
     refine AS rfl rfl (WR.store [_, _] H rfl rfl rfl (by repeat first | exact .head | apply Upd.tail) Tryz.sizeOf27 rfl (by rfl) (by rfl) (Wn.none rfl) ?_)
     intro w H
     refine NL (TN (RT ?_))
     obtain rfl := oI h
     exact WQ.ret2 rfl rfl ⟨_, rfl, H.loadAgg (by repeat first | exact kMh | apply kMt) Tryz.isAgg27 Tryz.sizeOf27 (by rfl)⟩ H.ext rfl
theorem parse_ret {K : World → Prop} {b1 b2 b3 : Nat} {w : World} (hK : K w) : (∀ ar w, (callFunc 45 ar).run Tryz.prog w = .ok (.enter 45 ar) w) ∧ CallsDIn (Wd none) 0 Tryz.prog 45 ([ptr b1 0, ptr b2 0, ptr b3 0] : List Value).toArray .returning w fun e u' w' => (∃ v, e = .returned v) ∧ settle u' = .returning ∧ K w' := by
  refine ⟨enters Tryz.func45 (by kernel_rfl) rfl, callsD_of Tryz.func45 rfl rfl rfl rfl rfl rfl ?_⟩
  refine BL (SQ (RG (ST (Ex.eqlNil (M := fun _ => none) (b := true) Tryz.underlying20 (.inl ⟨rfl, rfl⟩) rfl) rfl (NL (TN (CT rfl (RG (AS rfl rfl (NL ?_)))))))))
  exact WQ.inBlock (WQ.postD0 rfl hK)
theorem parse_pan {s : List UInt8} {n : Int} {b1 b2 b3 m : Nat} {z1 z2 z3 : Value} {e : Env} {w0 w : World} {M0 M : Mem} {L : List Ph.Item} {R : Value → Mem → Prop} (H : St w0 M0 M L w) (hp : Pick L [.blk b2 (.cells #[z1] 22), .blk b3 (.cells #[z2, z3] 27)]) (hb : PtM M b1 (.cells #[S s] 9))
    (h2 : get e 2 = some (ptr b2 0)) (h3 : get e 3 = some (ptr b3 0)) (hR : ∀ M, R (.tuple #[.slice none 0 0, .agg #[I 11, I (min n (s.length : Int))]]) M) :
    WQ (bodyPostDIn (Wd none) 0 Tryz.prog Tryz.f19 (Ret w0 M0 R)) (.panic (onePanic (.iface 69 (.agg #[I n])))) m [dfrOf 45 [ptr b1 0, ptr b2 0, ptr b3 0]] e w := fun a ha => by
  show LeavesIn _ _ _ _ _ _ _ _ _
  rw [ha.defers]
  refine leaves_one (enters Tryz.func45 (by kernel_rfl) rfl) (by simp) (callsD_of Tryz.func45 rfl rfl rfl rfl rfl rfl ?_)
  replace H := H.pick hp
  refine BL (SQ (RG (ST (Ex.eqlNil (M := M) (b := false) Tryz.underlying20 (.inr ⟨rfl, _, _, rfl⟩) rfl) rfl (NL (TN (CF rfl (SQ (RG (ST (Ex.assertSame Tryz.underlying69 rfl) rfl (ST (Ex.extract rfl rfl) rfl (ST (Ex.extract rfl rfl) rfl (NL (TN (CT rfl (SQ (RG (WR.alloc [_] H Tryz.zeroValue69 rfl (Wn.none rfl) rfl ?_)))))))))))))))))
  intro b4 w H
  refine WR.store [_] H rfl rfl rfl (by repeat first | exact .head | apply Upd.tail) Tryz.sizeOf69 rfl (by rfl) (by rfl) (Wn.none rfl) ?_
  intro w H
  refine NL (TN (RG (ST (Ex.fieldAddr Tryz.underlying69 rfl Tryz.sizeOf3 (by decide) rfl) rfl (ST (Ex.load1 H rfl (by repeat first | exact kMh | apply kMt) Tryz.isAgg3 (by rfl)) rfl ?_))))
  refine ST (Ex.loadM H rfl (hb.cell (j := 0) rfl) Tryz.isAgg9) rfl (ST (Ex.lenStr Tryz.underlying9 rfl) rfl (ST (Ex.min2 rfl rfl) rfl (WR.call H (basic_Fault_ct (p0 := 11) (p1 := min n (s.length : Int)) (r := (11, min n (s.length : Int))) rfl) rfl trivial (Wn.none rfl) rfl ?_)))
  intro v17 M w H hle hR2
  try dsimp only at hR2
  obtain rfl := hR2
  refine WR.putV [_] H rfl rfl (One.slice _ _ _) (by repeat first | exact .head | apply Upd.tail) (by rfl) Tryz.sizeOf22 (by first | decide | (simp; done) | (simp; omega)) (Wn.none rfl) ?_
  intro w H
  refine WR.store [_, _] H rfl rfl rfl (by repeat first | exact .head | apply Upd.tail) Tryz.sizeOf27 rfl (by rfl) (by rfl) (Wn.none rfl) ?_
  intro w H
  refine NL ?_
  refine WQ.inBlock (WQ.postD0 rfl ⟨_, resv_run2 (P := Tryz.prog) (e := e) (x := .cell 2 22) (y := .cell 3 27) (v1 := .slice none 0 0) (v2 := .agg #[I 11, I (min n (s.length : Int))]) rfl ⟨_, h2, H.load1 (by repeat first | exact kMh | apply kMt) Tryz.isAgg22 (by rfl)⟩ ⟨_, h3, H.loadAgg (by repeat first | exact kMh | apply kMt) Tryz.isAgg27 Tryz.sizeOf27 (by rfl)⟩ a ha, _, M, rfl, H.ext, hR M⟩)
theorem basic_Blank_ct {p0 : UInt8} {r : Bool} (h : basic_Blank p0 = some r) : Ct Tryz.prog 62 [encB p0] (fun M => True) (fun v M => v = Value.bool r) := by
  refine Ct.of Tryz.func62 (enters Tryz.func62 (by kernel_rfl) rfl) rfl rfl rfl ?_
  intro w0 M0 H hp
  unfold basic_Blank at h
  refine SQ (RG (AS rfl rfl (NL (TN (SQ ?_)))))
  obtain ⟨o1, e2, h⟩ := bnd h
  refine WC.cutX (fun e w => ∃ (b3 : Bool) (M : Mem), e = [(2, Value.bool b3)] ∧ St w0 M0 M [] w ∧ some b3 = some o1) [] ?_ ?_ (trivial)
  ·
   by_cases hk4 : p0 = 32
   ·
    rw [if_pos hk4] at e2
    refine RG (MV rfl rfl (WR.stepE (v' := .bool true) (Ex.eqlB (c := p0) (d := 32) rfl rfl) (congrArg Value.bool (decide_eq_true hk4)) (Wn.none rfl) rfl rfl (MV rfl rfl (GT rfl rfl rfl (GT rfl rfl rfl (PT rfl rfl rfl (AS rfl rfl (NL ?_))))))))
    exact WQ.meetN [(2, _)] ⟨rfl, trivial⟩ ⟨_, _, rfl, H, e2⟩
   ·
    rw [if_neg hk4] at e2
    refine RG (MV rfl rfl (WR.stepE (v' := .bool false) (Ex.eqlB (c := p0) (d := 32) rfl rfl) (congrArg Value.bool (decide_eq_false hk4)) (Wn.none rfl) rfl rfl (MV rfl rfl (SG (Ex.move rfl) rfl rfl rfl (SG (Ex.eqlB (c := p0) (d := 9) rfl rfl) rfl rfl rfl (PF rfl rfl rfl (AS rfl rfl (NL ?_))))))))
    exact WQ.meetN [(2, _)] ⟨rfl, trivial⟩ ⟨_, _, rfl, H, e2⟩
  ·
   rintro e w ⟨b3, M, rfl, H, q5⟩
   obtain rfl := oI q5
   refine TN (RT ?_)
   obtain rfl := oI h
   exact WQ.ret1 rfl rfl H.ext rfl
theorem address_reader_fail_ct {p0 : (List UInt8 × Int)} {bp0 : Nat} {r : ((List UInt8 × Int) ⊕ Int)} (h : address_reader_fail p0 = some r) : CtS Tryz.prog 49 [ptr bp0 0] [.blk bp0 (.cells #[S p0.1, I p0.2] 72)] (fun M => True) (fun x => fun v M its => v = Value.tuple #[] ∧ its = [.blk bp0 (.cells #[S x.1, I x.2] 72)]) (fun n => Value.iface 69 (Value.agg #[I n])) r := by
  refine CtS.of Tryz.func49 (enters Tryz.func49 (by kernel_rfl) rfl) rfl rfl rfl ?_
  intro w0 M0 H hp
  unfold address_reader_fail at h
  obtain rfl := oI h
  refine RG (MV rfl rfl (ST (Ex.nilCheckP rfl) rfl (ST (Ex.fieldAddr Tryz.underlying72 rfl Tryz.sizeOf3 (by decide) rfl) rfl (ST (Ex.load1 H rfl (by repeat first | exact kMh | apply kMt) Tryz.isAgg3 (by rfl)) rfl ?_))))
  refine ST (Ex.build [I p0.2] Tryz.underlying69 Tryz.zeroValue69 (xplaces69 Tryz.underlying69) rfl rfl) rfl (ST (Ex.ifaceV (by kernel_rfl) rfl) rfl (WR.panicI rfl (Wn.none rfl) ?_))
  (repeat (first | refine WQ.pThen ?_ | refine WQ.pIn ?_ | refine WQ.pCut ?_ | refine WQ.pSc ?_))
  exact WQ.pBody H
theorem address_reader_comment_ct {p0 : (List UInt8 × Int)} {bp0 : Nat} {r : ((List UInt8 × Int) ⊕ Int)} (h : address_reader_comment p0 = some r) : CtS Tryz.prog 155 [ptr bp0 0] [.blk bp0 (.cells #[S p0.1, I p0.2] 72)] (fun M => True) (fun x => fun v M its => v = Value.tuple #[] ∧ its = [.blk bp0 (.cells #[S x.1, I x.2] 72)]) (fun n => Value.iface 69 (Value.agg #[I n])) r := by
  refine CtS.of Tryz.func155 (enters Tryz.func155 (by kernel_rfl) rfl) rfl rfl rfl ?_
  intro w0 M0 H hp
  unfold address_reader_comment at h
  refine SQ (RG (AS rfl rfl (NL (TN ?_))))
  obtain ⟨o1, e2, h⟩ := bnd h
  refine BL (WC.loopP (fun m e w => ∃ (s3 : List UInt8) (n4 : Int) (n5 : Int) (M : Mem), e = [(0, ptr bp0 0), (2, I n5)] ∧ StX (feet [.blk bp0 (.cells #[S p0.1, I p0.2] 72)]) w0 M0 M [.blk bp0 (.cells #[S s3, I n4] 72)] w ∧ address_reader_comment_L1  m s3 n4 n5 = some o1) FU [(0, _), (2, _)] ⟨rfl, rfl, trivial⟩ ⟨_, _, _, _, rfl, H, e2⟩ ?_)
  rintro m6 e w ⟨s3, n4, n5, M, rfl, H, e2⟩
  rcases m6 with _ | m6
  · rw [address_reader_comment_L1] at e2; cases e2
  rw [address_reader_comment_L1] at e2
  refine SQ (BL (SQ (SQ (WC.draw (m := 10) rfl rfl H ?_))))
  intro w H
  refine WA.take (i := 0) rfl (by kernel_rfl) (by kernel_rfl) (by kernel_rfl) (fun _ => Ex.move rfl) (Wn.none rfl) rfl rfl (fun _ _ => rfl) (WA.take (i := 1) rfl (by kernel_rfl) (by kernel_rfl) (by kernel_rfl) (fun _ => Ex.nilCheckP rfl) (Wn.none rfl) rfl rfl (fun _ _ => rfl) (WA.take (i := 2) rfl (by kernel_rfl) (by kernel_rfl) (by kernel_rfl) (fun _ => Ex.fieldAddr Tryz.underlying72 rfl Tryz.sizeOf3 (by decide) rfl) (Wn.none rfl) rfl rfl (fun _ _ => rfl) (WA.take (i := 4) rfl (by kernel_rfl) (by kernel_rfl) (by kernel_rfl) (fun _ => Ex.move rfl) (Wn.none rfl) rfl rfl (fun _ _ => rfl) (WA.take (i := 5) rfl (by kernel_rfl) (by kernel_rfl) (by kernel_rfl) (fun _ => Ex.nilCheckP rfl) (Wn.none rfl) rfl rfl (fun _ _ => rfl) (WA.take (i := 6) rfl (by kernel_rfl) (by kernel_rfl) (by kernel_rfl) (fun _ => Ex.fieldAddr Tryz.underlying72 rfl Tryz.sizeOf9 (by decide) rfl) (Wn.none rfl) rfl rfl (fun _ _ => rfl) ?_)))))
  refine WA.takeM (i := 7) [3] rfl (by kernel_rfl) (by kernel_rfl) (by kernel_rfl) (Ex.load1 H rfl (by repeat first | exact kMh | apply kMt) Tryz.isAgg9 (by rfl)) (Wn.none rfl) rfl rfl (fun _ _ => rfl) ?_
  refine WA.take (i := 8) rfl (by kernel_rfl) (by kernel_rfl) (by kernel_rfl) (fun _ => Ex.lenStr Tryz.underlying9 rfl) (Wn.none rfl) rfl rfl (fun _ _ => rfl) (WA.seq (fuel := 0) [3, 9] rfl (by kernel_rfl) (ST (Ex.load1 H rfl (by repeat first | exact kMh | apply kMt) Tryz.isAgg3 (by rfl)) rfl ?_))
  refine ST (Ex.geq rfl rfl) rfl (NA (WA.done (by kernel_rfl) (TN ?_)))
  obtain ⟨o7, e8, e2⟩ := bnd e2
  refine WC.cutX (fun e w => ∃ (s9 : List UInt8) (n10 : Int) (M : Mem), e = [(0, ptr bp0 0), (2, I n5)] ∧ StX (feet [.blk bp0 (.cells #[S p0.1, I p0.2] 72)]) w0 M0 M [.blk bp0 (.cells #[S s9, I n10] 72)] w ∧ some (.inl (s9, n10)) = some o7) [] ?_ ?_ (trivial)
  ·
   refine WC.condB rfl (fun hk11 => ?_) (fun hk11 => ?_)
   ·
    replace hk11 : (s3.length : Int) ≤ n4 := of_decide_eq_true hk11
    rw [if_pos hk11] at e8
    obtain ⟨o14, hx13, e8⟩ := bnd e8
    rcases o14 with o12 | n15
    ·
     try dsimp only at e8
     refine RG (MV rfl rfl ?_)
     refine WR.callX (A := [.blk bp0 (.cells #[S s3, I n4] 72)]) (B := []) (H.pick (L' := [.blk bp0 (.cells #[S s3, I n4] 72)]) (by repeat first | exact kPn | refine kPc (by repeat first | exact .head | apply Rem.tail) ?_)) (address_reader_fail_ct hx13) (.left (Spl.all _)) rfl trivial (Wn.none rfl) rfl ?_
     intro v21 M w its H hle hR
     try dsimp only at hR
     obtain ⟨rfl, rfl⟩ := hR
     simp only [List.cons_append, List.nil_append] at H
     refine NL ?_
     exact WQ.meetN [(0, _), (2, _)] ⟨rfl, rfl, trivial⟩ ⟨_, _, _, rfl, H, e8⟩
    ·
     try dsimp only at e8
     obtain rfl := oI e8
     try dsimp only at e2
     obtain rfl := oI e2
     try dsimp only at h
     obtain rfl := oI h
     refine RG (MV rfl rfl ?_)
     refine WR.callPan (A := [.blk bp0 (.cells #[S s3, I n4] 72)]) (B := []) (H.pick (L' := [.blk bp0 (.cells #[S s3, I n4] 72)]) (by repeat first | exact kPn | refine kPc (by repeat first | exact .head | apply Rem.tail) ?_)) (address_reader_fail_ct hx13) (.left (Spl.all _)) rfl trivial (Wn.none rfl) ?_
     intro M w H hle
     (repeat (first | refine WQ.pThen ?_ | refine WQ.pIn ?_ | refine WQ.pCut ?_ | refine WQ.pSc ?_))
     exact WQ.pBody H
   ·
    replace hk11 : ¬ ((s3.length : Int) ≤ n4) := of_decide_eq_false hk11
    rw [if_neg hk11] at e8
    refine SK ?_
    exact WQ.meetN [(0, _), (2, _)] ⟨rfl, rfl, trivial⟩ ⟨_, _, _, rfl, H, e8⟩
  ·
   rintro e w ⟨s9, n10, M, rfl, H, q16⟩
   obtain rfl := oI q16
   try dsimp only at e2
   refine TN (SQ ?_)
   obtain ⟨c17, hxc17, e2⟩ := bnd e2
   refine WC.draw (m := 9) rfl rfl H ?_
   intro w H
   refine WA.take (i := 0) rfl (by kernel_rfl) (by kernel_rfl) (by kernel_rfl) (fun _ => Ex.move rfl) (Wn.none rfl) rfl rfl (fun _ _ => rfl) (WA.take (i := 1) rfl (by kernel_rfl) (by kernel_rfl) (by kernel_rfl) (fun _ => Ex.nilCheckP rfl) (Wn.none rfl) rfl rfl (fun _ _ => rfl) (WA.take (i := 2) rfl (by kernel_rfl) (by kernel_rfl) (by kernel_rfl) (fun _ => Ex.fieldAddr Tryz.underlying72 rfl Tryz.sizeOf9 (by decide) rfl) (Wn.none rfl) rfl rfl (fun _ _ => rfl) (WA.take (i := 4) rfl (by kernel_rfl) (by kernel_rfl) (by kernel_rfl) (fun _ => Ex.move rfl) (Wn.none rfl) rfl rfl (fun _ _ => rfl) (WA.take (i := 5) rfl (by kernel_rfl) (by kernel_rfl) (by kernel_rfl) (fun _ => Ex.nilCheckP rfl) (Wn.none rfl) rfl rfl (fun _ _ => rfl) (WA.take (i := 6) rfl (by kernel_rfl) (by kernel_rfl) (by kernel_rfl) (fun _ => Ex.fieldAddr Tryz.underlying72 rfl Tryz.sizeOf3 (by decide) rfl) (Wn.none rfl) rfl rfl (fun _ _ => rfl) ?_)))))
   refine WA.takeM (i := 3) [7] rfl (by kernel_rfl) (by kernel_rfl) (by kernel_rfl) (Ex.load1 H rfl (by repeat first | exact kMh | apply kMt) Tryz.isAgg9 (by rfl)) (Wn.none rfl) rfl rfl (fun _ _ => rfl) ?_
   refine WA.seq (fuel := 0) [7, 8] rfl (by kernel_rfl) (ST (Ex.load1 H rfl (by repeat first | exact kMh | apply kMt) Tryz.isAgg3 (by rfl)) rfl ?_)
   refine ST (Ex.idxStrC Tryz.underlying9 rfl rfl hxc17) rfl (NA (WA.done (by kernel_rfl) (TN (BL (SQ (RG (ST (Ex.eqlB (c := c17) (d := 40) rfl rfl) rfl (AS rfl rfl (NL (TN ?_))))))))))
   obtain ⟨o18, e19, e2⟩ := bnd e2
   refine WC.cutX (fun e w => ∃ (s20 : List UInt8) (n21 : Int) (n22 : Int) (M : Mem), e = [(0, ptr bp0 0), (2, I n22)] ∧ StX (feet [.blk bp0 (.cells #[S p0.1, I p0.2] 72)]) w0 M0 M [.blk bp0 (.cells #[S s20, I n21] 72)] w ∧ some (.inl (s20, n21, n22)) = some o18) [] ?_ ?_ (trivial)
   ·
    refine WC.condB rfl (fun hk23 => ?_) (fun hk23 => ?_)
    ·
     replace hk23 : c17 = 40 := of_decide_eq_true hk23
     rw [if_pos hk23] at e19
     obtain ⟨n24, hxn24, e19⟩ := bnd e19
     refine RG (MV rfl rfl (ST (Ex.addC rfl rfl hxn24) rfl (AS rfl rfl (NL ?_))))
     exact WQ.meetN [(0, _), (2, _)] ⟨rfl, rfl, trivial⟩ ⟨_, _, _, _, rfl, H, e19⟩
    ·
     replace hk23 : ¬ (c17 = 40) := of_decide_eq_false hk23
     rw [if_neg hk23] at e19
     refine SQ (RG (ST (Ex.eqlB (c := c17) (d := 41) rfl rfl) rfl (AS rfl rfl (NL (TN ?_)))))
     refine WC.condB rfl (fun hk25 => ?_) (fun hk25 => ?_)
     ·
      replace hk25 : c17 = 41 := of_decide_eq_true hk25
      rw [if_pos hk25] at e19
      refine SQ ?_
      obtain ⟨n26, hxn26, e19⟩ := bnd e19
      refine RG (MV rfl rfl (ST (Ex.subC rfl rfl hxn26) rfl (AS rfl rfl (NL (TN (SQ (RG (MV rfl rfl (ST (Ex.eql rfl rfl) rfl (NL (TN ?_)))))))))))
      refine WC.condB rfl (fun hk27 => ?_) (fun hk27 => ?_)
      ·
       replace hk27 : n26 = (0 : Int) := of_decide_eq_true hk27
       rw [if_pos hk27] at e19
       refine SQ ?_
       obtain ⟨n28, hxn28, e19⟩ := bnd e19
       refine RG (MV rfl rfl (ST (Ex.nilCheckP rfl) rfl (ST (Ex.fieldAddr Tryz.underlying72 rfl Tryz.sizeOf3 (by decide) rfl) rfl (ST (Ex.load1 H rfl (by repeat first | exact kMh | apply kMt) Tryz.isAgg3 (by rfl)) rfl ?_))))
       refine ST (Ex.addC rfl rfl hxn28) rfl (ST (Ex.nilCheckP rfl) rfl (ST (Ex.fieldAddr Tryz.underlying72 rfl Tryz.sizeOf3 (by decide) rfl) rfl (WR.store1 [_, _] H rfl rfl (by repeat first | exact .head | apply Upd.tail) (by rfl) Tryz.sizeOf3 (by first | decide | (simp; done) | (simp; omega)) (by rfl) (by rfl) (Wn.none rfl) ?_)))
       intro w H
       refine NL (TN (RT ?_))
       obtain rfl := oI e19
       try dsimp only at e2
       obtain rfl := oI e2
       try dsimp only at h
       obtain rfl := oI h
       exact WQ.retX0 (its := [.blk bp0 (.cells #[S s9, I n28] 72)]) rfl H (by repeat first | exact kPn | refine kPc (by repeat first | exact .head | apply Rem.tail) ?_) ⟨rfl, rfl⟩
      ·
       replace hk27 : ¬ (n26 = (0 : Int)) := of_decide_eq_false hk27
       rw [if_neg hk27] at e19
       refine SK ?_
       exact WQ.meetN [(0, _), (2, _)] ⟨rfl, rfl, trivial⟩ ⟨_, _, _, _, rfl, H, e19⟩
     ·
      replace hk25 : ¬ (c17 = 41) := of_decide_eq_false hk25
      rw [if_neg hk25] at e19
      refine SQ (RG (ST (Ex.eqlB (c := c17) (d := 92) rfl rfl) rfl (AS rfl rfl (NL (TN ?_)))))
      refine WC.condB rfl (fun hk29 => ?_) (fun hk29 => ?_)
      ·
       replace hk29 : c17 = 92 := of_decide_eq_true hk29
       rw [if_pos hk29] at e19
       obtain ⟨n30, hxn30, e19⟩ := bnd e19
       refine RG (MV rfl rfl (ST (Ex.nilCheckP rfl) rfl (ST (Ex.fieldAddr Tryz.underlying72 rfl Tryz.sizeOf3 (by decide) rfl) rfl (ST (Ex.load1 H rfl (by repeat first | exact kMh | apply kMt) Tryz.isAgg3 (by rfl)) rfl ?_))))
       refine ST (Ex.addC rfl rfl hxn30) rfl (ST (Ex.nilCheckP rfl) rfl (ST (Ex.fieldAddr Tryz.underlying72 rfl Tryz.sizeOf3 (by decide) rfl) rfl (WR.store1 [_, _] H rfl rfl (by repeat first | exact .head | apply Upd.tail) (by rfl) Tryz.sizeOf3 (by first | decide | (simp; done) | (simp; omega)) (by rfl) (by rfl) (Wn.none rfl) ?_)))
       intro w H
       refine NL ?_
       exact WQ.meetN [(0, _), (2, _)] ⟨rfl, rfl, trivial⟩ ⟨_, _, _, _, rfl, H, e19⟩
      ·
       replace hk29 : ¬ (c17 = 92) := of_decide_eq_false hk29
       rw [if_neg hk29] at e19
       refine SK ?_
       exact WQ.meetN [(0, _), (2, _)] ⟨rfl, rfl, trivial⟩ ⟨_, _, _, _, rfl, H, e19⟩
   ·
    rintro e w ⟨s20, n21, n22, M, rfl, H, q31⟩
    obtain rfl := oI q31
    try dsimp only at e2
    refine IB (IB (TN ?_))
    obtain ⟨n32, hxn32, e2⟩ := bnd e2
    refine RG (MV rfl rfl (ST (Ex.nilCheckP rfl) rfl (ST (Ex.fieldAddr Tryz.underlying72 rfl Tryz.sizeOf3 (by decide) rfl) rfl (ST (Ex.load1 H rfl (by repeat first | exact kMh | apply kMt) Tryz.isAgg3 (by rfl)) rfl ?_))))
    refine ST (Ex.addC rfl rfl hxn32) rfl (ST (Ex.nilCheckP rfl) rfl (ST (Ex.fieldAddr Tryz.underlying72 rfl Tryz.sizeOf3 (by decide) rfl) rfl (WR.store1 [_, _] H rfl rfl (by repeat first | exact .head | apply Upd.tail) (by rfl) Tryz.sizeOf3 (by first | decide | (simp; done) | (simp; omega)) (by rfl) (by rfl) (Wn.none rfl) ?_)))
    intro w H
    refine NL ?_
    exact WQ.againP m6 [(0, _), (2, _)] ⟨rfl, rfl, trivial⟩ ⟨_, _, _, _, rfl, H, e2⟩ (Nat.lt_succ_self _)
theorem address_reader_skip_ct {p0 : (List UInt8 × Int)} {bp0 : Nat} {r : ((List UInt8 × Int) ⊕ Int)} (h : address_reader_skip p0 = some r) : CtS Tryz.prog 121 [ptr bp0 0] [.blk bp0 (.cells #[S p0.1, I p0.2] 72)] (fun M => True) (fun x => fun v M its => v = Value.tuple #[] ∧ its = [.blk bp0 (.cells #[S x.1, I x.2] 72)]) (fun n => Value.iface 69 (Value.agg #[I n])) r := by
  refine CtS.of Tryz.func121 (enters Tryz.func121 (by kernel_rfl) rfl) rfl rfl rfl ?_
  intro w0 M0 H hp
  unfold address_reader_skip at h
  obtain ⟨o1, e2, h⟩ := bnd h
  refine WC.cutX (fun e w => ∃ (s3 : List UInt8) (n4 : Int) (M : Mem), e = [] ∧ StX (feet [.blk bp0 (.cells #[S p0.1, I p0.2] 72)]) w0 M0 M [.blk bp0 (.cells #[S s3, I n4] 72)] w ∧ some (.inl (s3, n4)) = some o1) [] ?_ ?_ (trivial)
  ·
   refine BL (WC.loopP (fun m e w => ∃ (s5 : List UInt8) (n6 : Int) (M : Mem), e = [(0, ptr bp0 0)] ∧ StX (feet [.blk bp0 (.cells #[S p0.1, I p0.2] 72)]) w0 M0 M [.blk bp0 (.cells #[S s5, I n6] 72)] w ∧ address_reader_skip_L1  m s5 n6 = some o1) FU [(0, _)] ⟨rfl, trivial⟩ ⟨_, _, _, rfl, H, e2⟩ ?_)
   rintro m7 e w ⟨s5, n6, M, rfl, H, e2⟩
   rcases m7 with _ | m7
   · rw [address_reader_skip_L1] at e2; cases e2
   rw [address_reader_skip_L1] at e2
   refine SQ (SQ (WC.draw (m := 10) rfl rfl H ?_))
   intro w H
   refine WA.take (i := 0) rfl (by kernel_rfl) (by kernel_rfl) (by kernel_rfl) (fun _ => Ex.move rfl) (Wn.none rfl) rfl rfl (fun _ _ => rfl) (WA.take (i := 1) rfl (by kernel_rfl) (by kernel_rfl) (by kernel_rfl) (fun _ => Ex.nilCheckP rfl) (Wn.none rfl) rfl rfl (fun _ _ => rfl) (WA.take (i := 2) rfl (by kernel_rfl) (by kernel_rfl) (by kernel_rfl) (fun _ => Ex.fieldAddr Tryz.underlying72 rfl Tryz.sizeOf3 (by decide) rfl) (Wn.none rfl) rfl rfl (fun _ _ => rfl) (WA.take (i := 4) rfl (by kernel_rfl) (by kernel_rfl) (by kernel_rfl) (fun _ => Ex.move rfl) (Wn.none rfl) rfl rfl (fun _ _ => rfl) (WA.take (i := 5) rfl (by kernel_rfl) (by kernel_rfl) (by kernel_rfl) (fun _ => Ex.nilCheckP rfl) (Wn.none rfl) rfl rfl (fun _ _ => rfl) (WA.take (i := 6) rfl (by kernel_rfl) (by kernel_rfl) (by kernel_rfl) (fun _ => Ex.fieldAddr Tryz.underlying72 rfl Tryz.sizeOf9 (by decide) rfl) (Wn.none rfl) rfl rfl (fun _ _ => rfl) ?_)))))
   refine WA.takeM (i := 7) [3] rfl (by kernel_rfl) (by kernel_rfl) (by kernel_rfl) (Ex.load1 H rfl (by repeat first | exact kMh | apply kMt) Tryz.isAgg9 (by rfl)) (Wn.none rfl) rfl rfl (fun _ _ => rfl) ?_
   refine WA.take (i := 8) rfl (by kernel_rfl) (by kernel_rfl) (by kernel_rfl) (fun _ => Ex.lenStr Tryz.underlying9 rfl) (Wn.none rfl) rfl rfl (fun _ _ => rfl) (WA.seq (fuel := 0) [3, 9] rfl (by kernel_rfl) (ST (Ex.load1 H rfl (by repeat first | exact kMh | apply kMt) Tryz.isAgg3 (by rfl)) rfl ?_))
   refine ST (Ex.lss rfl rfl) rfl (NA (WA.done (by kernel_rfl) (TN ?_)))
   refine WC.condB rfl (fun hk8 => ?_) (fun hk8 => ?_)
   ·
    replace hk8 : n6 < (s5.length : Int) := of_decide_eq_true hk8
    rw [if_pos hk8] at e2
    refine SK (TN (BL (SQ ?_)))
    obtain ⟨c9, hxc9, e2⟩ := bnd e2
    refine WC.draw (m := 10) rfl rfl H ?_
    intro w H
    refine WA.take (i := 0) rfl (by kernel_rfl) (by kernel_rfl) (by kernel_rfl) (fun _ => Ex.move rfl) (Wn.none rfl) rfl rfl (fun _ _ => rfl) (WA.take (i := 1) rfl (by kernel_rfl) (by kernel_rfl) (by kernel_rfl) (fun _ => Ex.nilCheckP rfl) (Wn.none rfl) rfl rfl (fun _ _ => rfl) (WA.take (i := 2) rfl (by kernel_rfl) (by kernel_rfl) (by kernel_rfl) (fun _ => Ex.fieldAddr Tryz.underlying72 rfl Tryz.sizeOf9 (by decide) rfl) (Wn.none rfl) rfl rfl (fun _ _ => rfl) (WA.take (i := 4) rfl (by kernel_rfl) (by kernel_rfl) (by kernel_rfl) (fun _ => Ex.move rfl) (Wn.none rfl) rfl rfl (fun _ _ => rfl) (WA.take (i := 5) rfl (by kernel_rfl) (by kernel_rfl) (by kernel_rfl) (fun _ => Ex.nilCheckP rfl) (Wn.none rfl) rfl rfl (fun _ _ => rfl) (WA.take (i := 6) rfl (by kernel_rfl) (by kernel_rfl) (by kernel_rfl) (fun _ => Ex.fieldAddr Tryz.underlying72 rfl Tryz.sizeOf3 (by decide) rfl) (Wn.none rfl) rfl rfl (fun _ _ => rfl) ?_)))))
    refine WA.takeM (i := 3) [7] rfl (by kernel_rfl) (by kernel_rfl) (by kernel_rfl) (Ex.load1 H rfl (by repeat first | exact kMh | apply kMt) Tryz.isAgg9 (by rfl)) (Wn.none rfl) rfl rfl (fun _ _ => rfl) ?_
    refine WA.seq (fuel := 0) [7, 8, 9] rfl (by kernel_rfl) (ST (Ex.load1 H rfl (by repeat first | exact kMh | apply kMt) Tryz.isAgg3 (by rfl)) rfl ?_)
    refine ST (Ex.idxStrC Tryz.underlying9 rfl rfl hxc9) rfl (AS rfl rfl (NA (WA.done (by kernel_rfl) (TN (BL (SQ ?_))))))
    obtain ⟨b10, hx11, e2⟩ := bnd e2
    refine RG (MV rfl rfl (WR.call H (basic_Blank_ct hx11) rfl trivial (Wn.none rfl) rfl ?_))
    intro v24 M w H hle hR
    obtain rfl := hR
    refine AS rfl rfl (NL (TN ?_))
    refine WC.condB rfl (fun hk12 => ?_) (fun hk12 => ?_)
    ·
     subst hk12
     rw [if_pos rfl] at e2
     obtain ⟨n13, hxn13, e2⟩ := bnd e2
     refine RG (MV rfl rfl (ST (Ex.nilCheckP rfl) rfl (ST (Ex.fieldAddr Tryz.underlying72 rfl Tryz.sizeOf3 (by decide) rfl) rfl (ST (Ex.load1 H rfl (by repeat first | exact kMh | apply kMt) Tryz.isAgg3 (by rfl)) rfl ?_))))
     refine ST (Ex.addC rfl rfl hxn13) rfl (ST (Ex.nilCheckP rfl) rfl (ST (Ex.fieldAddr Tryz.underlying72 rfl Tryz.sizeOf3 (by decide) rfl) rfl (WR.store1 [_, _] H rfl rfl (by repeat first | exact .head | apply Upd.tail) (by rfl) Tryz.sizeOf3 (by first | decide | (simp; done) | (simp; omega)) (by rfl) (by rfl) (Wn.none rfl) ?_)))
     intro w H
     refine NL (IB (IB ?_))
     exact WQ.againP m7 [(0, _)] ⟨rfl, trivial⟩ ⟨_, _, _, rfl, H, e2⟩ (Nat.lt_succ_self _)
    ·
     subst hk12
     rw [if_neg Bool.false_ne_true] at e2
     refine SQ (RG (MV rfl rfl (ST (Ex.eqlB (c := c9) (d := 40) rfl rfl) rfl (AS rfl rfl (NL (TN ?_))))))
     refine WC.condB rfl (fun hk14 => ?_) (fun hk14 => ?_)
     ·
      replace hk14 : c9 = 40 := of_decide_eq_true hk14
      rw [if_pos hk14] at e2
      obtain ⟨o17, hx16, e2⟩ := bnd e2
      rcases o17 with o15 | n18
      ·
       try dsimp only at e2
       refine RG (MV rfl rfl ?_)
       refine WR.callX (A := [.blk bp0 (.cells #[S s5, I n6] 72)]) (B := []) (H.pick (L' := [.blk bp0 (.cells #[S s5, I n6] 72)]) (by repeat first | exact kPn | refine kPc (by repeat first | exact .head | apply Rem.tail) ?_)) (address_reader_comment_ct hx16) (.left (Spl.all _)) rfl trivial (Wn.none rfl) rfl ?_
       intro v36 M w its H hle hR
       try dsimp only at hR
       obtain ⟨rfl, rfl⟩ := hR
       simp only [List.cons_append, List.nil_append] at H
       refine NL (IB (IB ?_))
       exact WQ.againP m7 [(0, _)] ⟨rfl, trivial⟩ ⟨_, _, _, rfl, H, e2⟩ (Nat.lt_succ_self _)
      ·
       try dsimp only at e2
       obtain rfl := oI e2
       try dsimp only at h
       obtain rfl := oI h
       refine RG (MV rfl rfl ?_)
       refine WR.callPan (A := [.blk bp0 (.cells #[S s5, I n6] 72)]) (B := []) (H.pick (L' := [.blk bp0 (.cells #[S s5, I n6] 72)]) (by repeat first | exact kPn | refine kPc (by repeat first | exact .head | apply Rem.tail) ?_)) (address_reader_comment_ct hx16) (.left (Spl.all _)) rfl trivial (Wn.none rfl) ?_
       intro M w H hle
       (repeat (first | refine WQ.pThen ?_ | refine WQ.pIn ?_ | refine WQ.pCut ?_ | refine WQ.pSc ?_))
       exact WQ.pBody H
     ·
      replace hk14 : ¬ (c9 = 40) := of_decide_eq_false hk14
      rw [if_neg hk14] at e2
      refine RT ?_
      obtain rfl := oI e2
      try dsimp only at h
      obtain rfl := oI h
      exact WQ.retX0 (its := [.blk bp0 (.cells #[S s5, I n6] 72)]) rfl H (by repeat first | exact kPn | refine kPc (by repeat first | exact .head | apply Rem.tail) ?_) ⟨rfl, rfl⟩
   ·
    replace hk8 : ¬ (n6 < (s5.length : Int)) := of_decide_eq_false hk8
    rw [if_neg hk8] at e2
    refine WC.exit (WQ.thenExit (WQ.thenExit (WQ.exitHere ?_)))
    exact WQ.meetN [] trivial ⟨_, _, _, rfl, H, e2⟩
  ·
   rintro e w ⟨s3, n4, M, rfl, H, q19⟩
   obtain rfl := oI q19
   try dsimp only at h
   obtain rfl := oI h
   exact WQ.endX0 (its := [.blk bp0 (.cells #[S s3, I n4] 72)]) rfl H (by repeat first | exact kPn | refine kPc (by repeat first | exact .head | apply Rem.tail) ?_) ⟨rfl, rfl⟩
theorem address_reader_quote_ct {p0 : (List UInt8 × Int)} {bp0 : Nat} {r : ((List UInt8 × (List UInt8 × Int)) ⊕ Int)} (h : address_reader_quote p0 = some r) : CtS Tryz.prog 122 [ptr bp0 0] [.blk bp0 (.cells #[S p0.1, I p0.2] 72)] (fun M => True) (fun x => fun v M its => v = S x.1 ∧ its = [.blk bp0 (.cells #[S x.2.1, I x.2.2] 72)]) (fun n => Value.iface 69 (Value.agg #[I n])) r := by
  refine CtS.of Tryz.func122 (enters Tryz.func122 (by kernel_rfl) rfl) rfl rfl rfl ?_
  intro w0 M0 H hp
  unfold address_reader_quote at h
  refine SQ (RG (AS rfl rfl (NL (TN (SQ (RG (AS rfl rfl (NL (TN (SQ ?_))))))))))
  obtain ⟨n1, hxn1, h⟩ := bnd h
  refine RG (MV rfl rfl (ST (Ex.nilCheckP rfl) rfl (ST (Ex.fieldAddr Tryz.underlying72 rfl Tryz.sizeOf3 (by decide) rfl) rfl (ST (Ex.load1 H rfl (by repeat first | exact kMh | apply kMt) Tryz.isAgg3 (by rfl)) rfl ?_))))
  refine ST (Ex.addC rfl rfl hxn1) rfl (ST (Ex.nilCheckP rfl) rfl (ST (Ex.fieldAddr Tryz.underlying72 rfl Tryz.sizeOf3 (by decide) rfl) rfl (WR.store1 [_, _] H rfl rfl (by repeat first | exact .head | apply Upd.tail) (by rfl) Tryz.sizeOf3 (by first | decide | (simp; done) | (simp; omega)) (by rfl) (by rfl) (Wn.none rfl) ?_)))
  intro w H
  refine NL (TN ?_)
  obtain ⟨o2, e3, h⟩ := bnd h
  refine BL ?_
  replace H := H.newRow 5 encB
  refine WC.loopP (fun m e w => ∃ (s4 : List UInt8) (n5 : Int) (l7 : List UInt8) (v8 : Value) (M : Mem), e = [(0, ptr bp0 0), (3, v8)] ∧ StX (feet [.blk bp0 (.cells #[S p0.1, I p0.2] 72)]) w0 M0 M [.blk bp0 (.cells #[S s4, I n5] 72), RowI 5 encB v8 l7] w ∧ address_reader_quote_L1  m s4 n5 l7 = some o2) FU [(0, _), (3, _)] ⟨rfl, rfl, trivial⟩ ⟨_, _, _, _, _, rfl, (H.pick (L' := [.blk bp0 (.cells #[S p0.1, I n1] 72), RowI 5 encB (Value.slice none 0 0) []]) (by repeat first | exact kPn | refine kPc (by repeat first | exact .head | apply Rem.tail) ?_)), e3⟩ ?_
  rintro m9 e w ⟨s4, n5, l7, v8, M, rfl, H, e3⟩
  rcases m9 with _ | m9
  · rw [address_reader_quote_L1] at e3; cases e3
  rw [address_reader_quote_L1] at e3
  refine SQ (BL (SQ (SQ (WC.draw (m := 10) rfl rfl H ?_))))
  intro w H
  refine WA.take (i := 0) rfl (by kernel_rfl) (by kernel_rfl) (by kernel_rfl) (fun _ => Ex.move rfl) (Wn.none rfl) rfl rfl (fun _ _ => rfl) (WA.take (i := 1) rfl (by kernel_rfl) (by kernel_rfl) (by kernel_rfl) (fun _ => Ex.nilCheckP rfl) (Wn.none rfl) rfl rfl (fun _ _ => rfl) (WA.take (i := 2) rfl (by kernel_rfl) (by kernel_rfl) (by kernel_rfl) (fun _ => Ex.fieldAddr Tryz.underlying72 rfl Tryz.sizeOf3 (by decide) rfl) (Wn.none rfl) rfl rfl (fun _ _ => rfl) (WA.take (i := 4) rfl (by kernel_rfl) (by kernel_rfl) (by kernel_rfl) (fun _ => Ex.move rfl) (Wn.none rfl) rfl rfl (fun _ _ => rfl) (WA.take (i := 5) rfl (by kernel_rfl) (by kernel_rfl) (by kernel_rfl) (fun _ => Ex.nilCheckP rfl) (Wn.none rfl) rfl rfl (fun _ _ => rfl) (WA.take (i := 6) rfl (by kernel_rfl) (by kernel_rfl) (by kernel_rfl) (fun _ => Ex.fieldAddr Tryz.underlying72 rfl Tryz.sizeOf9 (by decide) rfl) (Wn.none rfl) rfl rfl (fun _ _ => rfl) ?_)))))
  refine WA.takeM (i := 7) [3] rfl (by kernel_rfl) (by kernel_rfl) (by kernel_rfl) (Ex.load1 H rfl (by repeat first | exact kMh | apply kMt) Tryz.isAgg9 (by rfl)) (Wn.none rfl) rfl rfl (fun _ _ => rfl) ?_
  refine WA.take (i := 8) rfl (by kernel_rfl) (by kernel_rfl) (by kernel_rfl) (fun _ => Ex.lenStr Tryz.underlying9 rfl) (Wn.none rfl) rfl rfl (fun _ _ => rfl) (WA.seq (fuel := 0) [3, 9] rfl (by kernel_rfl) (ST (Ex.load1 H rfl (by repeat first | exact kMh | apply kMt) Tryz.isAgg3 (by rfl)) rfl ?_))
  refine ST (Ex.geq rfl rfl) rfl (NA (WA.done (by kernel_rfl) (TN ?_)))
  obtain ⟨o11, e12, e3⟩ := bnd e3
  refine WC.cutX (fun e w => ∃ (s13 : List UInt8) (n14 : Int) (M : Mem), e = [(0, ptr bp0 0), (3, v8)] ∧ StX (feet [.blk bp0 (.cells #[S p0.1, I p0.2] 72)]) w0 M0 M [.blk bp0 (.cells #[S s13, I n14] 72), RowI 5 encB v8 l7] w ∧ some (.inl (s13, n14)) = some o11) [] ?_ ?_ (trivial)
  ·
   refine WC.condB rfl (fun hk15 => ?_) (fun hk15 => ?_)
   ·
    replace hk15 : (s4.length : Int) ≤ n5 := of_decide_eq_true hk15
    rw [if_pos hk15] at e12
    obtain ⟨o18, hx17, e12⟩ := bnd e12
    rcases o18 with o16 | n19
    ·
     try dsimp only at e12
     refine RG (MV rfl rfl ?_)
     refine WR.callX (A := [.blk bp0 (.cells #[S s4, I n5] 72)]) (B := [RowI 5 encB v8 l7]) (H.pick (L' := [.blk bp0 (.cells #[S s4, I n5] 72), RowI 5 encB v8 l7]) (by repeat first | exact kPn | refine kPc (by repeat first | exact .head | apply Rem.tail) ?_)) (address_reader_fail_ct hx17) (.left (Spl.all _)) rfl trivial (Wn.none rfl) rfl ?_
     intro v30 M w its H hle hR
     try dsimp only at hR
     obtain ⟨rfl, rfl⟩ := hR
     simp only [List.cons_append, List.nil_append] at H
     refine NL ?_
     exact WQ.meetN [(0, _), (3, _)] ⟨rfl, rfl, trivial⟩ ⟨_, _, _, rfl, H, e12⟩
    ·
     try dsimp only at e12
     obtain rfl := oI e12
     try dsimp only at e3
     obtain rfl := oI e3
     try dsimp only at h
     obtain rfl := oI h
     refine RG (MV rfl rfl ?_)
     refine WR.callPan (A := [.blk bp0 (.cells #[S s4, I n5] 72)]) (B := [RowI 5 encB v8 l7]) (H.pick (L' := [.blk bp0 (.cells #[S s4, I n5] 72), RowI 5 encB v8 l7]) (by repeat first | exact kPn | refine kPc (by repeat first | exact .head | apply Rem.tail) ?_)) (address_reader_fail_ct hx17) (.left (Spl.all _)) rfl trivial (Wn.none rfl) ?_
     intro M w H hle
     (repeat (first | refine WQ.pThen ?_ | refine WQ.pIn ?_ | refine WQ.pCut ?_ | refine WQ.pSc ?_))
     exact WQ.pBody H
   ·
    replace hk15 : ¬ ((s4.length : Int) ≤ n5) := of_decide_eq_false hk15
    rw [if_neg hk15] at e12
    refine SK ?_
    exact WQ.meetN [(0, _), (3, _)] ⟨rfl, rfl, trivial⟩ ⟨_, _, _, rfl, H, e12⟩
  ·
   rintro e w ⟨s13, n14, M, rfl, H, q20⟩
   obtain rfl := oI q20
   try dsimp only at e3
   refine TN (SQ ?_)
   obtain ⟨c21, hxc21, e3⟩ := bnd e3
   refine WC.draw (m := 10) rfl rfl H ?_
   intro w H
   refine WA.take (i := 0) rfl (by kernel_rfl) (by kernel_rfl) (by kernel_rfl) (fun _ => Ex.move rfl) (Wn.none rfl) rfl rfl (fun _ _ => rfl) (WA.take (i := 1) rfl (by kernel_rfl) (by kernel_rfl) (by kernel_rfl) (fun _ => Ex.nilCheckP rfl) (Wn.none rfl) rfl rfl (fun _ _ => rfl) (WA.take (i := 2) rfl (by kernel_rfl) (by kernel_rfl) (by kernel_rfl) (fun _ => Ex.fieldAddr Tryz.underlying72 rfl Tryz.sizeOf9 (by decide) rfl) (Wn.none rfl) rfl rfl (fun _ _ => rfl) (WA.take (i := 4) rfl (by kernel_rfl) (by kernel_rfl) (by kernel_rfl) (fun _ => Ex.move rfl) (Wn.none rfl) rfl rfl (fun _ _ => rfl) (WA.take (i := 5) rfl (by kernel_rfl) (by kernel_rfl) (by kernel_rfl) (fun _ => Ex.nilCheckP rfl) (Wn.none rfl) rfl rfl (fun _ _ => rfl) (WA.take (i := 6) rfl (by kernel_rfl) (by kernel_rfl) (by kernel_rfl) (fun _ => Ex.fieldAddr Tryz.underlying72 rfl Tryz.sizeOf3 (by decide) rfl) (Wn.none rfl) rfl rfl (fun _ _ => rfl) ?_)))))
   refine WA.takeM (i := 3) [7] rfl (by kernel_rfl) (by kernel_rfl) (by kernel_rfl) (Ex.load1 H rfl (by repeat first | exact kMh | apply kMt) Tryz.isAgg9 (by rfl)) (Wn.none rfl) rfl rfl (fun _ _ => rfl) ?_
   refine WA.seq (fuel := 0) [7, 8, 9] rfl (by kernel_rfl) (ST (Ex.load1 H rfl (by repeat first | exact kMh | apply kMt) Tryz.isAgg3 (by rfl)) rfl ?_)
   refine ST (Ex.idxStrC Tryz.underlying9 rfl rfl hxc21) rfl (AS rfl rfl (NA (WA.done (by kernel_rfl) (TN (SQ (RG (MV rfl rfl (NL (TN (BL (SQ (RG (ST (Ex.eqlB (c := c21) (d := 34) rfl rfl) rfl (AS rfl rfl (NL (TN ?_))))))))))))))))
   refine WC.condB rfl (fun hk22 => ?_) (fun hk22 => ?_)
   ·
    replace hk22 : c21 = 34 := of_decide_eq_true hk22
    rw [if_pos hk22] at e3
    refine SQ ?_
    obtain ⟨n23, hxn23, e3⟩ := bnd e3
    refine RG (MV rfl rfl (ST (Ex.nilCheckP rfl) rfl (ST (Ex.fieldAddr Tryz.underlying72 rfl Tryz.sizeOf3 (by decide) rfl) rfl (ST (Ex.load1 H rfl (by repeat first | exact kMh | apply kMt) Tryz.isAgg3 (by rfl)) rfl ?_))))
    refine ST (Ex.addC rfl rfl hxn23) rfl (ST (Ex.nilCheckP rfl) rfl (ST (Ex.fieldAddr Tryz.underlying72 rfl Tryz.sizeOf3 (by decide) rfl) rfl (WR.store1 [_, _] H rfl rfl (by repeat first | exact .head | apply Upd.tail) (by rfl) Tryz.sizeOf3 (by first | decide | (simp; done) | (simp; omega)) (by rfl) (by rfl) (Wn.none rfl) ?_)))
    intro w H
    refine NL (TN (SQ (RG (MV rfl rfl ?_))))
    obtain ⟨M, hle, hs24, H⟩ := H.freezeRowN (v := v8) (enc := encB) (t := 5) (by repeat first | exact .head | apply Rem.tail) ⟨⟨_, (by repeat first | exact kMh | apply kMt)⟩, trivial⟩
    refine ST (Ex.toStr Tryz.underlying88 Tryz.underlying5 Tryz.underlying9 H (hs24) rfl) rfl (AS rfl rfl (NL (TN (RT ?_))))
    obtain rfl := oI e3
    try dsimp only at h
    obtain rfl := oI h
    exact WQ.retX1 (its := [.blk bp0 (.cells #[S s13, I n23] 72)]) rfl rfl H (by repeat first | exact kPn | refine kPc (by repeat first | exact .head | apply Rem.tail) ?_) ⟨rfl, rfl⟩
   ·
    replace hk22 : ¬ (c21 = 34) := of_decide_eq_false hk22
    rw [if_neg hk22] at e3
    refine SQ (RG (ST (Ex.eqlB (c := c21) (d := 92) rfl rfl) rfl (AS rfl rfl (NL (TN ?_)))))
    obtain ⟨o25, e26, e3⟩ := bnd e3
    refine WC.cutX (fun e w => ∃ (s27 : List UInt8) (n28 : Int) (l30 : List UInt8) (v31 : Value) (M : Mem), e = [(0, ptr bp0 0), (3, v31)] ∧ StX (feet [.blk bp0 (.cells #[S p0.1, I p0.2] 72)]) w0 M0 M [.blk bp0 (.cells #[S s27, I n28] 72), RowI 5 encB v31 l30] w ∧ some (.inl (s27, n28, l30)) = some o25) [] ?_ ?_ (trivial)
    ·
     refine WC.condB rfl (fun hk32 => ?_) (fun hk32 => ?_)
     ·
      replace hk32 : c21 = 92 := of_decide_eq_true hk32
      rw [if_pos hk32] at e26
      refine SQ (SQ ?_)
      obtain ⟨n33, hxn33, e26⟩ := bnd e26
      refine RG (MV rfl rfl (ST (Ex.nilCheckP rfl) rfl (ST (Ex.fieldAddr Tryz.underlying72 rfl Tryz.sizeOf3 (by decide) rfl) rfl (ST (Ex.load1 H rfl (by repeat first | exact kMh | apply kMt) Tryz.isAgg3 (by rfl)) rfl ?_))))
      refine ST (Ex.addC rfl rfl hxn33) rfl (ST (Ex.nilCheckP rfl) rfl (ST (Ex.fieldAddr Tryz.underlying72 rfl Tryz.sizeOf3 (by decide) rfl) rfl (WR.store1 [_, _] H rfl rfl (by repeat first | exact .head | apply Upd.tail) (by rfl) Tryz.sizeOf3 (by first | decide | (simp; done) | (simp; omega)) (by rfl) (by rfl) (Wn.none rfl) ?_)))
      intro w H
      refine NL (TN (SQ (WC.draw (m := 10) rfl rfl H ?_)))
      intro w H
      refine WA.take (i := 0) rfl (by kernel_rfl) (by kernel_rfl) (by kernel_rfl) (fun _ => Ex.move rfl) (Wn.none rfl) rfl rfl (fun _ _ => rfl) (WA.take (i := 1) rfl (by kernel_rfl) (by kernel_rfl) (by kernel_rfl) (fun _ => Ex.nilCheckP rfl) (Wn.none rfl) rfl rfl (fun _ _ => rfl) (WA.take (i := 2) rfl (by kernel_rfl) (by kernel_rfl) (by kernel_rfl) (fun _ => Ex.fieldAddr Tryz.underlying72 rfl Tryz.sizeOf3 (by decide) rfl) (Wn.none rfl) rfl rfl (fun _ _ => rfl) (WA.take (i := 4) rfl (by kernel_rfl) (by kernel_rfl) (by kernel_rfl) (fun _ => Ex.move rfl) (Wn.none rfl) rfl rfl (fun _ _ => rfl) (WA.take (i := 5) rfl (by kernel_rfl) (by kernel_rfl) (by kernel_rfl) (fun _ => Ex.nilCheckP rfl) (Wn.none rfl) rfl rfl (fun _ _ => rfl) (WA.take (i := 6) rfl (by kernel_rfl) (by kernel_rfl) (by kernel_rfl) (fun _ => Ex.fieldAddr Tryz.underlying72 rfl Tryz.sizeOf9 (by decide) rfl) (Wn.none rfl) rfl rfl (fun _ _ => rfl) ?_)))))
      refine WA.takeM (i := 7) [3] rfl (by kernel_rfl) (by kernel_rfl) (by kernel_rfl) (Ex.load1 H rfl (by repeat first | exact kMh | apply kMt) Tryz.isAgg9 (by rfl)) (Wn.none rfl) rfl rfl (fun _ _ => rfl) ?_
      refine WA.take (i := 8) rfl (by kernel_rfl) (by kernel_rfl) (by kernel_rfl) (fun _ => Ex.lenStr Tryz.underlying9 rfl) (Wn.none rfl) rfl rfl (fun _ _ => rfl) (WA.seq (fuel := 0) [3, 9] rfl (by kernel_rfl) (ST (Ex.load1 H rfl (by repeat first | exact kMh | apply kMt) Tryz.isAgg3 (by rfl)) rfl ?_))
      refine ST (Ex.geq rfl rfl) rfl (NA (WA.done (by kernel_rfl) (TN ?_)))
      obtain ⟨o34, e35, e26⟩ := bnd e26
      refine WC.cutX (fun e w => ∃ (s36 : List UInt8) (n37 : Int) (M : Mem), e = [(0, ptr bp0 0), (3, v8)] ∧ StX (feet [.blk bp0 (.cells #[S p0.1, I p0.2] 72)]) w0 M0 M [.blk bp0 (.cells #[S s36, I n37] 72), RowI 5 encB v8 l7] w ∧ some (.inl (s36, n37)) = some o34) [] ?_ ?_ (trivial)
      ·
       refine WC.condB rfl (fun hk38 => ?_) (fun hk38 => ?_)
       ·
        replace hk38 : (s13.length : Int) ≤ n33 := of_decide_eq_true hk38
        rw [if_pos hk38] at e35
        obtain ⟨o41, hx40, e35⟩ := bnd e35
        rcases o41 with o39 | n42
        ·
         try dsimp only at e35
         refine RG (MV rfl rfl ?_)
         refine WR.callX (A := [.blk bp0 (.cells #[S s13, I n33] 72)]) (B := [RowI 5 encB v8 l7]) (H.pick (L' := [.blk bp0 (.cells #[S s13, I n33] 72), RowI 5 encB v8 l7]) (by repeat first | exact kPn | refine kPc (by repeat first | exact .head | apply Rem.tail) ?_)) (address_reader_fail_ct hx40) (.left (Spl.all _)) rfl trivial (Wn.none rfl) rfl ?_
         intro v76 M w its H hle hR
         try dsimp only at hR
         obtain ⟨rfl, rfl⟩ := hR
         simp only [List.cons_append, List.nil_append] at H
         refine NL ?_
         exact WQ.meetN [(0, _), (3, _)] ⟨rfl, rfl, trivial⟩ ⟨_, _, _, rfl, H, e35⟩
        ·
         try dsimp only at e35
         obtain rfl := oI e35
         try dsimp only at e26
         obtain rfl := oI e26
         try dsimp only at e3
         obtain rfl := oI e3
         try dsimp only at h
         obtain rfl := oI h
         refine RG (MV rfl rfl ?_)
         refine WR.callPan (A := [.blk bp0 (.cells #[S s13, I n33] 72)]) (B := [RowI 5 encB v8 l7]) (H.pick (L' := [.blk bp0 (.cells #[S s13, I n33] 72), RowI 5 encB v8 l7]) (by repeat first | exact kPn | refine kPc (by repeat first | exact .head | apply Rem.tail) ?_)) (address_reader_fail_ct hx40) (.left (Spl.all _)) rfl trivial (Wn.none rfl) ?_
         intro M w H hle
         (repeat (first | refine WQ.pThen ?_ | refine WQ.pIn ?_ | refine WQ.pCut ?_ | refine WQ.pSc ?_))
         exact WQ.pBody H
       ·
        replace hk38 : ¬ ((s13.length : Int) ≤ n33) := of_decide_eq_false hk38
        rw [if_neg hk38] at e35
        refine SK ?_
        exact WQ.meetN [(0, _), (3, _)] ⟨rfl, rfl, trivial⟩ ⟨_, _, _, rfl, H, e35⟩
      ·
       rintro e w ⟨s36, n37, M, rfl, H, q43⟩
       obtain rfl := oI q43
       try dsimp only at e26
       refine TN ?_
       obtain ⟨c44, hxc44, e26⟩ := bnd e26
       obtain ⟨l45, hxl45, e26⟩ := bnd e26
       refine WC.draw (m := 13) rfl rfl H ?_
       intro w H
       refine WA.take (i := 0) rfl (by kernel_rfl) (by kernel_rfl) (by kernel_rfl) (fun _ => Ex.move rfl) (Wn.none rfl) rfl rfl (fun _ _ => rfl) (WA.take (i := 1) rfl (by kernel_rfl) (by kernel_rfl) (by kernel_rfl) (fun _ => Ex.move rfl) (Wn.none rfl) rfl rfl (fun _ _ => rfl) (WA.take (i := 2) rfl (by kernel_rfl) (by kernel_rfl) (by kernel_rfl) (fun _ => Ex.nilCheckP rfl) (Wn.none rfl) rfl rfl (fun _ _ => rfl) (WA.take (i := 3) rfl (by kernel_rfl) (by kernel_rfl) (by kernel_rfl) (fun _ => Ex.fieldAddr Tryz.underlying72 rfl Tryz.sizeOf9 (by decide) rfl) (Wn.none rfl) rfl rfl (fun _ _ => rfl) (WA.take (i := 5) rfl (by kernel_rfl) (by kernel_rfl) (by kernel_rfl) (fun _ => Ex.move rfl) (Wn.none rfl) rfl rfl (fun _ _ => rfl) (WA.take (i := 6) rfl (by kernel_rfl) (by kernel_rfl) (by kernel_rfl) (fun _ => Ex.nilCheckP rfl) (Wn.none rfl) rfl rfl (fun _ _ => rfl) (WA.take (i := 7) rfl (by kernel_rfl) (by kernel_rfl) (by kernel_rfl) (fun _ => Ex.fieldAddr Tryz.underlying72 rfl Tryz.sizeOf3 (by decide) rfl) (Wn.none rfl) rfl rfl (fun _ _ => rfl) ?_))))))
       refine WA.takeM (i := 4) [8] rfl (by kernel_rfl) (by kernel_rfl) (by kernel_rfl) (Ex.load1 H rfl (by repeat first | exact kMh | apply kMt) Tryz.isAgg9 (by rfl)) (Wn.none rfl) rfl rfl (fun _ _ => rfl) ?_
       refine WA.seq (fuel := 0) [8, 9, 10, 11, 12] rfl (by kernel_rfl) (ST (Ex.load1 H rfl (by repeat first | exact kMh | apply kMt) Tryz.isAgg3 (by rfl)) rfl ?_)
       refine ST (Ex.idxStrC Tryz.underlying9 rfl rfl hxc44) rfl (WR.lit (enc := encB) xty88 ([c44] : List UInt8) H rfl (by rfl) (fun _ => rfl) rfl rfl (Wn.none rfl) rfl ?_)
       intro v87 M w H hle hs87
       refine WR.appC (l := l7) xty88 rfl (fun _ => rfl) H rfl (fun _ => by repeat first | exact .head | apply Upd.tail) rfl (hs87) hxl45 (Wn.none rfl) rfl ?_
       intro v88 w H
       refine AS rfl rfl (NA (WA.done (by kernel_rfl) ?_))
       exact WQ.meetN [(0, _), (3, _)] ⟨rfl, rfl, trivial⟩ ⟨_, _, _, _, _, rfl, H, e26⟩
     ·
      replace hk32 : ¬ (c21 = 92) := of_decide_eq_false hk32
      rw [if_neg hk32] at e26
      obtain ⟨l48, hxl48, e26⟩ := bnd e26
      refine RG (MV rfl rfl (MV rfl rfl (WR.lit (enc := encB) xty88 ([c21] : List UInt8) H rfl (by rfl) (fun _ => rfl) rfl rfl (Wn.none rfl) rfl ?_)))
      intro v43 M w H hle hs43
      refine WR.appC (l := l7) xty88 rfl (fun _ => rfl) H rfl (fun _ => by repeat first | exact .head | apply Upd.tail) rfl (hs43) hxl48 (Wn.none rfl) rfl ?_
      intro v44 w H
      refine AS rfl rfl (NL ?_)
      exact WQ.meetN [(0, _), (3, _)] ⟨rfl, rfl, trivial⟩ ⟨_, _, _, _, _, rfl, H, e26⟩
    ·
     rintro e w ⟨s27, n28, l30, v31, M, rfl, H, q49⟩
     obtain rfl := oI q49
     try dsimp only at e3
     refine IB (IB (TN ?_))
     obtain ⟨n50, hxn50, e3⟩ := bnd e3
     refine RG (MV rfl rfl (ST (Ex.nilCheckP rfl) rfl (ST (Ex.fieldAddr Tryz.underlying72 rfl Tryz.sizeOf3 (by decide) rfl) rfl (ST (Ex.load1 H rfl (by repeat first | exact kMh | apply kMt) Tryz.isAgg3 (by rfl)) rfl ?_))))
     refine ST (Ex.addC rfl rfl hxn50) rfl (ST (Ex.nilCheckP rfl) rfl (ST (Ex.fieldAddr Tryz.underlying72 rfl Tryz.sizeOf3 (by decide) rfl) rfl (WR.store1 [_, _] H rfl rfl (by repeat first | exact .head | apply Upd.tail) (by rfl) Tryz.sizeOf3 (by first | decide | (simp; done) | (simp; omega)) (by rfl) (by rfl) (Wn.none rfl) ?_)))
     intro w H
     refine NL ?_
     exact WQ.againP m9 [(0, _), (3, _)] ⟨rfl, rfl, trivial⟩ ⟨_, _, _, _, _, rfl, H, e3⟩ (Nat.lt_succ_self _)
theorem address_reader_next_ct {p0 : (List UInt8 × Int)} {bp0 : Nat} {r : ((Elt × (List UInt8 × Int)) ⊕ Int)} (h : address_reader_next p0 = some r) : CtS Tryz.prog 84 [ptr bp0 0] [.blk bp0 (.cells #[S p0.1, I p0.2] 72)] (fun M => True) (fun x => fun v M its => v = encA 76 136 x.1 ∧ its = [.blk bp0 (.cells #[S x.2.1, I x.2.2] 72)]) (fun n => Value.iface 69 (Value.agg #[I n])) r := by
  refine CtS.of Tryz.func84 (enters Tryz.func84 (by kernel_rfl) rfl) rfl rfl rfl ?_
  intro w0 M0 H hp
  unfold address_reader_next at h
  refine SQ (RG (AS rfl rfl (NL (TN (SQ ?_)))))
  obtain ⟨o3, hx2, h⟩ := bnd h
  rcases o3 with o1 | n4
  ·
   try dsimp only at h
   refine RG (MV rfl rfl ?_)
   refine WR.callX (A := [.blk bp0 (.cells #[S p0.1, I p0.2] 72)]) (B := []) (H.pick (L' := [.blk bp0 (.cells #[S p0.1, I p0.2] 72)]) (by repeat first | exact kPn | refine kPc (by repeat first | exact .head | apply Rem.tail) ?_)) (address_reader_skip_ct hx2) (.left (Spl.all _)) rfl trivial (Wn.none rfl) rfl ?_
   intro v6 M w its H hle hR
   try dsimp only at hR
   obtain ⟨rfl, rfl⟩ := hR
   simp only [List.cons_append, List.nil_append] at H
   refine NL (TN (SQ (SQ (WC.draw (m := 10) rfl rfl H ?_))))
   intro w H
   refine WA.take (i := 0) rfl (by kernel_rfl) (by kernel_rfl) (by kernel_rfl) (fun _ => Ex.move rfl) (Wn.none rfl) rfl rfl (fun _ _ => rfl) (WA.take (i := 1) rfl (by kernel_rfl) (by kernel_rfl) (by kernel_rfl) (fun _ => Ex.nilCheckP rfl) (Wn.none rfl) rfl rfl (fun _ _ => rfl) (WA.take (i := 2) rfl (by kernel_rfl) (by kernel_rfl) (by kernel_rfl) (fun _ => Ex.fieldAddr Tryz.underlying72 rfl Tryz.sizeOf3 (by decide) rfl) (Wn.none rfl) rfl rfl (fun _ _ => rfl) (WA.take (i := 4) rfl (by kernel_rfl) (by kernel_rfl) (by kernel_rfl) (fun _ => Ex.move rfl) (Wn.none rfl) rfl rfl (fun _ _ => rfl) (WA.take (i := 5) rfl (by kernel_rfl) (by kernel_rfl) (by kernel_rfl) (fun _ => Ex.nilCheckP rfl) (Wn.none rfl) rfl rfl (fun _ _ => rfl) (WA.take (i := 6) rfl (by kernel_rfl) (by kernel_rfl) (by kernel_rfl) (fun _ => Ex.fieldAddr Tryz.underlying72 rfl Tryz.sizeOf9 (by decide) rfl) (Wn.none rfl) rfl rfl (fun _ _ => rfl) ?_)))))
   refine WA.takeM (i := 7) [3] rfl (by kernel_rfl) (by kernel_rfl) (by kernel_rfl) (Ex.load1 H rfl (by repeat first | exact kMh | apply kMt) Tryz.isAgg9 (by rfl)) (Wn.none rfl) rfl rfl (fun _ _ => rfl) ?_
   refine WA.take (i := 8) rfl (by kernel_rfl) (by kernel_rfl) (by kernel_rfl) (fun _ => Ex.lenStr Tryz.underlying9 rfl) (Wn.none rfl) rfl rfl (fun _ _ => rfl) (WA.seq (fuel := 0) [3, 9] rfl (by kernel_rfl) (ST (Ex.load1 H rfl (by repeat first | exact kMh | apply kMt) Tryz.isAgg3 (by rfl)) rfl ?_))
   refine ST (Ex.geq rfl rfl) rfl (NA (WA.done (by kernel_rfl) (TN ?_)))
   refine WC.condB rfl (fun hk5 => ?_) (fun hk5 => ?_)
   ·
    replace hk5 : (o1.1.length : Int) ≤ o1.2 := of_decide_eq_true hk5
    rw [if_pos hk5] at h
    refine SQ (RG (AS rfl rfl (NL (TN (RT ?_)))))
    obtain rfl := oI h
    exact WQ.retX1 (its := [.blk bp0 (.cells #[S o1.1, I o1.2] 72)]) rfl rfl H (by repeat first | exact kPn | refine kPc (by repeat first | exact .head | apply Rem.tail) ?_) ⟨rfl, rfl⟩
   ·
    replace hk5 : ¬ ((o1.1.length : Int) ≤ o1.2) := of_decide_eq_false hk5
    rw [if_neg hk5] at h
    refine SK (TN (SQ ?_))
    obtain ⟨c6, hxc6, h⟩ := bnd h
    refine WC.draw (m := 10) rfl rfl H ?_
    intro w H
    refine WA.take (i := 0) rfl (by kernel_rfl) (by kernel_rfl) (by kernel_rfl) (fun _ => Ex.move rfl) (Wn.none rfl) rfl rfl (fun _ _ => rfl) (WA.take (i := 1) rfl (by kernel_rfl) (by kernel_rfl) (by kernel_rfl) (fun _ => Ex.nilCheckP rfl) (Wn.none rfl) rfl rfl (fun _ _ => rfl) (WA.take (i := 2) rfl (by kernel_rfl) (by kernel_rfl) (by kernel_rfl) (fun _ => Ex.fieldAddr Tryz.underlying72 rfl Tryz.sizeOf9 (by decide) rfl) (Wn.none rfl) rfl rfl (fun _ _ => rfl) (WA.take (i := 4) rfl (by kernel_rfl) (by kernel_rfl) (by kernel_rfl) (fun _ => Ex.move rfl) (Wn.none rfl) rfl rfl (fun _ _ => rfl) (WA.take (i := 5) rfl (by kernel_rfl) (by kernel_rfl) (by kernel_rfl) (fun _ => Ex.nilCheckP rfl) (Wn.none rfl) rfl rfl (fun _ _ => rfl) (WA.take (i := 6) rfl (by kernel_rfl) (by kernel_rfl) (by kernel_rfl) (fun _ => Ex.fieldAddr Tryz.underlying72 rfl Tryz.sizeOf3 (by decide) rfl) (Wn.none rfl) rfl rfl (fun _ _ => rfl) ?_)))))
    refine WA.takeM (i := 3) [7] rfl (by kernel_rfl) (by kernel_rfl) (by kernel_rfl) (Ex.load1 H rfl (by repeat first | exact kMh | apply kMt) Tryz.isAgg9 (by rfl)) (Wn.none rfl) rfl rfl (fun _ _ => rfl) ?_
    refine WA.seq (fuel := 0) [7, 8, 9] rfl (by kernel_rfl) (ST (Ex.load1 H rfl (by repeat first | exact kMh | apply kMt) Tryz.isAgg3 (by rfl)) rfl ?_)
    refine ST (Ex.idxStrC Tryz.underlying9 rfl rfl hxc6) rfl (AS rfl rfl (NA (WA.done (by kernel_rfl) (TN (SQ (SQ (RG (MV rfl rfl (ST (Ex.eqlB (c := c6) (d := 34) rfl rfl) rfl (NL (TN ?_)))))))))))
    refine WC.condB rfl (fun hk7 => ?_) (fun hk7 => ?_)
    ·
     replace hk7 : c6 = 34 := of_decide_eq_true hk7
     rw [if_pos hk7] at h
     refine SQ ?_
     obtain ⟨o11, hx10, h⟩ := bnd h
     rcases o11 with ⟨s8, o9⟩ | n12
     ·
      try dsimp only at h
      refine RG (MV rfl rfl ?_)
      refine WR.callX (A := [.blk bp0 (.cells #[S o1.1, I o1.2] 72)]) (B := []) (H.pick (L' := [.blk bp0 (.cells #[S o1.1, I o1.2] 72)]) (by repeat first | exact kPn | refine kPc (by repeat first | exact .head | apply Rem.tail) ?_)) (address_reader_quote_ct hx10) (.left (Spl.all _)) rfl trivial (Wn.none rfl) rfl ?_
      intro v29 M w its H hle hR
      try dsimp only at hR
      obtain ⟨rfl, rfl⟩ := hR
      simp only [List.cons_append, List.nil_append] at H
      refine ST (Ex.build [S s8, Value.bool true] Tryz.underlying136 Tryz.zeroValue136 (xplaces136 Tryz.underlying136) rfl rfl) rfl (ST (Ex.anyW (ts := 76) (s := s8) (b := true) (by kernel_rfl) rfl) rfl (AS rfl rfl (NL (TN (RT ?_)))))
      obtain rfl := oI h
      exact WQ.retX1 (its := [.blk bp0 (.cells #[S o9.1, I o9.2] 72)]) rfl rfl H (by repeat first | exact kPn | refine kPc (by repeat first | exact .head | apply Rem.tail) ?_) ⟨rfl, rfl⟩
     ·
      try dsimp only at h
      obtain rfl := oI h
      refine RG (MV rfl rfl ?_)
      refine WR.callPan (A := [.blk bp0 (.cells #[S o1.1, I o1.2] 72)]) (B := []) (H.pick (L' := [.blk bp0 (.cells #[S o1.1, I o1.2] 72)]) (by repeat first | exact kPn | refine kPc (by repeat first | exact .head | apply Rem.tail) ?_)) (address_reader_quote_ct hx10) (.left (Spl.all _)) rfl trivial (Wn.none rfl) ?_
      intro M w H hle
      (repeat (first | refine WQ.pThen ?_ | refine WQ.pIn ?_ | refine WQ.pCut ?_ | refine WQ.pSc ?_))
      exact WQ.pBody H
    ·
     replace hk7 : ¬ (c6 = 34) := of_decide_eq_false hk7
     rw [if_neg hk7] at h
     refine SK (TN (SQ (SQ ?_)))
     obtain ⟨n13, hx14, h⟩ := bnd h
     refine RG (MV rfl rfl (WR.call H (strings_IndexByte_ct hx14) rfl trivial (Wn.none rfl) rfl ?_))
     intro v33 M w H hle hR
     obtain rfl := hR
     refine ST (Ex.geq rfl rfl) rfl (NL (TN ?_))
     refine WC.condB rfl (fun hk15 => ?_) (fun hk15 => ?_)
     ·
      replace hk15 : (0 : Int) ≤ n13 := of_decide_eq_true hk15
      rw [if_pos hk15] at h
      refine SQ ?_
      obtain ⟨n16, hxn16, h⟩ := bnd h
      refine RG (MV rfl rfl (ST (Ex.nilCheckP rfl) rfl (ST (Ex.fieldAddr Tryz.underlying72 rfl Tryz.sizeOf3 (by decide) rfl) rfl (ST (Ex.load1 H rfl (by repeat first | exact kMh | apply kMt) Tryz.isAgg3 (by rfl)) rfl ?_))))
      refine ST (Ex.addC rfl rfl hxn16) rfl (ST (Ex.nilCheckP rfl) rfl (ST (Ex.fieldAddr Tryz.underlying72 rfl Tryz.sizeOf3 (by decide) rfl) rfl (WR.store1 [_, _] H rfl rfl (by repeat first | exact .head | apply Upd.tail) (by rfl) Tryz.sizeOf3 (by first | decide | (simp; done) | (simp; omega)) (by rfl) (by rfl) (Wn.none rfl) ?_)))
      intro w H
      refine NL (TN (SQ (RG (MV rfl rfl (ST (Ex.anyS (tw := 136) (c := c6) (by kernel_rfl) rfl) rfl (AS rfl rfl (NL (TN (RT ?_)))))))))
      obtain rfl := oI h
      exact WQ.retX1 (its := [.blk bp0 (.cells #[S o1.1, I n16] 72)]) rfl rfl H (by repeat first | exact kPn | refine kPc (by repeat first | exact .head | apply Rem.tail) ?_) ⟨rfl, rfl⟩
     ·
      replace hk15 : ¬ ((0 : Int) ≤ n13) := of_decide_eq_false hk15
      rw [if_neg hk15] at h
      refine SK (TN (SQ (RG (MV rfl rfl (ST (Ex.nilCheckP rfl) rfl (ST (Ex.fieldAddr Tryz.underlying72 rfl Tryz.sizeOf3 (by decide) rfl) rfl (ST (Ex.load1 H rfl (by repeat first | exact kMh | apply kMt) Tryz.isAgg3 (by rfl)) rfl ?_)))))))
      refine AS rfl rfl (NL (TN (SQ ?_)))
      obtain ⟨o17, e18, h⟩ := bnd h
      refine WC.cutX (fun e w => ∃ (s19 : List UInt8) (n20 : Int) (M : Mem), e = [(0, ptr bp0 0), (4, I o1.2)] ∧ StX (feet [.blk bp0 (.cells #[S p0.1, I p0.2] 72)]) w0 M0 M [.blk bp0 (.cells #[S s19, I n20] 72)] w ∧ some (s19, n20) = some o17) [] ?_ ?_ (trivial)
      ·
       refine BL (WC.loopP (fun m e w => ∃ (s21 : List UInt8) (n22 : Int) (M : Mem), e = [(0, ptr bp0 0), (4, I o1.2)] ∧ StX (feet [.blk bp0 (.cells #[S p0.1, I p0.2] 72)]) w0 M0 M [.blk bp0 (.cells #[S s21, I n22] 72)] w ∧ address_reader_next_L1  m s21 n22 = some o17) FU [(0, _), (4, _)] ⟨rfl, rfl, trivial⟩ ⟨_, _, _, rfl, H, e18⟩ ?_)
       rintro m23 e w ⟨s21, n22, M, rfl, H, e18⟩
       rcases m23 with _ | m23
       · rw [address_reader_next_L1] at e18; cases e18
       rw [address_reader_next_L1] at e18
       refine SQ (SQ ?_)
       obtain ⟨o24, e25, e18⟩ := bnd e18
       refine WC.cutX (fun e w => ∃ (b26 : Bool) (M : Mem), e = [(0, ptr bp0 0), (4, I o1.2), (81, Value.bool b26)] ∧ StX (feet [.blk bp0 (.cells #[S p0.1, I p0.2] 72)]) w0 M0 M [.blk bp0 (.cells #[S s21, I n22] 72)] w ∧ some b26 = some o24) [] ?_ ?_ (trivial)
       ·
        refine WC.draw (m := 34) rfl rfl H ?_
        intro w H
        refine WA.take (i := 0) rfl (by kernel_rfl) (by kernel_rfl) (by kernel_rfl) (fun _ => Ex.move rfl) (Wn.none rfl) rfl rfl (fun _ _ => rfl) (WA.take (i := 1) rfl (by kernel_rfl) (by kernel_rfl) (by kernel_rfl) (fun _ => Ex.nilCheckP rfl) (Wn.none rfl) rfl rfl (fun _ _ => rfl) (WA.take (i := 2) rfl (by kernel_rfl) (by kernel_rfl) (by kernel_rfl) (fun _ => Ex.fieldAddr Tryz.underlying72 rfl Tryz.sizeOf3 (by decide) rfl) (Wn.none rfl) rfl rfl (fun _ _ => rfl) (WA.take (i := 4) rfl (by kernel_rfl) (by kernel_rfl) (by kernel_rfl) (fun _ => Ex.move rfl) (Wn.none rfl) rfl rfl (fun _ _ => rfl) (WA.take (i := 5) rfl (by kernel_rfl) (by kernel_rfl) (by kernel_rfl) (fun _ => Ex.nilCheckP rfl) (Wn.none rfl) rfl rfl (fun _ _ => rfl) (WA.take (i := 6) rfl (by kernel_rfl) (by kernel_rfl) (by kernel_rfl) (fun _ => Ex.fieldAddr Tryz.underlying72 rfl Tryz.sizeOf9 (by decide) rfl) (Wn.none rfl) rfl rfl (fun _ _ => rfl) ?_)))))
        refine WA.takeM (i := 7) [3] rfl (by kernel_rfl) (by kernel_rfl) (by kernel_rfl) (Ex.load1 H rfl (by repeat first | exact kMh | apply kMt) Tryz.isAgg9 (by rfl)) (Wn.none rfl) rfl rfl (fun _ _ => rfl) ?_
        refine WA.take (i := 8) rfl (by kernel_rfl) (by kernel_rfl) (by kernel_rfl) (fun _ => Ex.lenStr Tryz.underlying9 rfl) (Wn.none rfl) rfl rfl (fun _ _ => rfl) (ON 3 (by kernel_rfl) rfl (ST (Ex.load1 H rfl (by repeat first | exact kMh | apply kMt) Tryz.isAgg3 (by rfl)) rfl ?_))
        refine NA ?_
        by_cases hk27 : n22 < (s21.length : Int)
        ·
         rw [if_pos hk27] at e25
         obtain ⟨c28, hxc28, e25⟩ := bnd e25
         obtain ⟨b29, hx30, e25⟩ := bnd e25
         rcases b29 with _ | _
         ·
          rw [if_neg Bool.false_ne_true] at e25
          obtain ⟨c31, hxc31, e25⟩ := bnd e25
          refine WA.seq (fuel := 23) [9, 10] rfl (by kernel_rfl) (WR.stepE (v' := .bool true) (Ex.lss rfl rfl) (congrArg Value.bool (decide_eq_true hk27)) (Wn.none rfl) rfl rfl (MV rfl rfl (NA (WA.take (i := 11) rfl (by kernel_rfl) (by kernel_rfl) (by kernel_rfl) (fun _ => Ex.move rfl) (Wn.some rfl rfl rfl) rfl rfl (fun _ _ => rfl) (WA.take (i := 12) rfl (by kernel_rfl) (by kernel_rfl) (by kernel_rfl) (fun _ => Ex.nilCheckP rfl) (Wn.some rfl rfl rfl) rfl rfl (fun _ _ => rfl) (WA.take (i := 13) rfl (by kernel_rfl) (by kernel_rfl) (by kernel_rfl) (fun _ => Ex.fieldAddr Tryz.underlying72 rfl Tryz.sizeOf9 (by decide) rfl) (Wn.some rfl rfl rfl) rfl rfl (fun _ _ => rfl) (WA.take (i := 15) rfl (by kernel_rfl) (by kernel_rfl) (by kernel_rfl) (fun _ => Ex.move rfl) (Wn.some rfl rfl rfl) rfl rfl (fun _ _ => rfl) (WA.take (i := 16) rfl (by kernel_rfl) (by kernel_rfl) (by kernel_rfl) (fun _ => Ex.nilCheckP rfl) (Wn.some rfl rfl rfl) rfl rfl (fun _ _ => rfl) ?_))))))))
          refine WA.take (i := 17) rfl (by kernel_rfl) (by kernel_rfl) (by kernel_rfl) (fun _ => Ex.fieldAddr Tryz.underlying72 rfl Tryz.sizeOf3 (by decide) rfl) (Wn.some rfl rfl rfl) rfl rfl (fun _ _ => rfl) (WA.takeM (i := 14) [18] rfl (by kernel_rfl) (by kernel_rfl) (by kernel_rfl) (Ex.load1 H rfl (by repeat first | exact kMh | apply kMt) Tryz.isAgg9 (by rfl)) (Wn.some rfl rfl rfl) rfl rfl (fun _ _ => rfl) ?_)
          refine WA.seq (fuel := 12) [18, 19, 20, 21] rfl (by kernel_rfl) (SG (Ex.load1 H rfl (by repeat first | exact kMh | apply kMt) Tryz.isAgg3 (by rfl)) rfl rfl rfl ?_)
          refine SG (Ex.idxStrC Tryz.underlying9 rfl rfl hxc28) rfl rfl rfl (WR.call H (address_atom_ct hx30) rfl trivial (Wn.some rfl rfl rfl) rfl ?_)
          intro v68 M w H hle hR
          obtain rfl := hR
          refine SG (Ex.move rfl) rfl rfl rfl (NA (WA.take (i := 22) rfl (by kernel_rfl) (by kernel_rfl) (by kernel_rfl) (fun _ => Ex.move rfl) (Wn.some rfl rfl rfl) rfl rfl (fun _ _ => rfl) (WA.take (i := 23) rfl (by kernel_rfl) (by kernel_rfl) (by kernel_rfl) (fun _ => Ex.nilCheckP rfl) (Wn.some rfl rfl rfl) rfl rfl (fun _ _ => rfl) (WA.take (i := 24) rfl (by kernel_rfl) (by kernel_rfl) (by kernel_rfl) (fun _ => Ex.fieldAddr Tryz.underlying72 rfl Tryz.sizeOf9 (by decide) rfl) (Wn.some rfl rfl rfl) rfl rfl (fun _ _ => rfl) (WA.take (i := 26) rfl (by kernel_rfl) (by kernel_rfl) (by kernel_rfl) (fun _ => Ex.move rfl) (Wn.some rfl rfl rfl) rfl rfl (fun _ _ => rfl) (WA.take (i := 27) rfl (by kernel_rfl) (by kernel_rfl) (by kernel_rfl) (fun _ => Ex.nilCheckP rfl) (Wn.some rfl rfl rfl) rfl rfl (fun _ _ => rfl) (WA.take (i := 28) rfl (by kernel_rfl) (by kernel_rfl) (by kernel_rfl) (fun _ => Ex.fieldAddr Tryz.underlying72 rfl Tryz.sizeOf3 (by decide) rfl) (Wn.some rfl rfl rfl) rfl rfl (fun _ _ => rfl) ?_)))))))
          refine WA.takeM (i := 25) [29] rfl (by kernel_rfl) (by kernel_rfl) (by kernel_rfl) (Ex.load1 H rfl (by repeat first | exact kMh | apply kMt) Tryz.isAgg9 (by rfl)) (Wn.some rfl rfl rfl) rfl rfl (fun _ _ => rfl) ?_
          refine WA.seq (fuel := 0) [29, 30, 31, 32, 33] rfl (by kernel_rfl) (SG (Ex.load1 H rfl (by repeat first | exact kMh | apply kMt) Tryz.isAgg3 (by rfl)) rfl rfl rfl ?_)
          refine SG (Ex.idxStrC Tryz.underlying9 rfl rfl hxc31) rfl rfl rfl (SG (Ex.eqlB (c := c31) (d := 46) rfl rfl) rfl rfl rfl (SG (Ex.pickF rfl rfl) rfl rfl rfl (PT rfl rfl rfl (NA (WA.done (by kernel_rfl) ?_)))))
          exact WQ.meetN [(0, _), (4, _), (81, _)] ⟨rfl, rfl, rfl, trivial⟩ ⟨_, _, rfl, H, e25⟩
         ·
          rw [if_pos rfl] at e25
          refine WA.seq (fuel := 23) [9, 10] rfl (by kernel_rfl) (WR.stepE (v' := .bool true) (Ex.lss rfl rfl) (congrArg Value.bool (decide_eq_true hk27)) (Wn.none rfl) rfl rfl (MV rfl rfl (NA (WA.take (i := 11) rfl (by kernel_rfl) (by kernel_rfl) (by kernel_rfl) (fun _ => Ex.move rfl) (Wn.some rfl rfl rfl) rfl rfl (fun _ _ => rfl) (WA.take (i := 12) rfl (by kernel_rfl) (by kernel_rfl) (by kernel_rfl) (fun _ => Ex.nilCheckP rfl) (Wn.some rfl rfl rfl) rfl rfl (fun _ _ => rfl) (WA.take (i := 13) rfl (by kernel_rfl) (by kernel_rfl) (by kernel_rfl) (fun _ => Ex.fieldAddr Tryz.underlying72 rfl Tryz.sizeOf9 (by decide) rfl) (Wn.some rfl rfl rfl) rfl rfl (fun _ _ => rfl) (WA.take (i := 15) rfl (by kernel_rfl) (by kernel_rfl) (by kernel_rfl) (fun _ => Ex.move rfl) (Wn.some rfl rfl rfl) rfl rfl (fun _ _ => rfl) (WA.take (i := 16) rfl (by kernel_rfl) (by kernel_rfl) (by kernel_rfl) (fun _ => Ex.nilCheckP rfl) (Wn.some rfl rfl rfl) rfl rfl (fun _ _ => rfl) ?_))))))))
          refine WA.take (i := 17) rfl (by kernel_rfl) (by kernel_rfl) (by kernel_rfl) (fun _ => Ex.fieldAddr Tryz.underlying72 rfl Tryz.sizeOf3 (by decide) rfl) (Wn.some rfl rfl rfl) rfl rfl (fun _ _ => rfl) (WA.takeM (i := 14) [18] rfl (by kernel_rfl) (by kernel_rfl) (by kernel_rfl) (Ex.load1 H rfl (by repeat first | exact kMh | apply kMt) Tryz.isAgg9 (by rfl)) (Wn.some rfl rfl rfl) rfl rfl (fun _ _ => rfl) ?_)
          refine WA.seq (fuel := 12) [18, 19, 20, 21] rfl (by kernel_rfl) (SG (Ex.load1 H rfl (by repeat first | exact kMh | apply kMt) Tryz.isAgg3 (by rfl)) rfl rfl rfl ?_)
          refine SG (Ex.idxStrC Tryz.underlying9 rfl rfl hxc28) rfl rfl rfl (WR.call H (address_atom_ct hx30) rfl trivial (Wn.some rfl rfl rfl) rfl ?_)
          intro v68 M w H hle hR
          obtain rfl := hR
          refine SG (Ex.move rfl) rfl rfl rfl (NA (WA.takes (fuel := 8) [22, 23, 24, 25] rfl (by kernel_rfl) (by kernel_rfl) rfl (WA.seq (fuel := 0) [26, 27, 28, 29, 30, 31, 32, 33] rfl (by kernel_rfl) (WR.skipN 6 rfl rfl (SG (Ex.pickT rfl rfl) rfl rfl rfl (PT rfl rfl rfl (NA (WA.done (by kernel_rfl) ?_))))))))
          exact WQ.meetN [(0, _), (4, _), (81, _)] ⟨rfl, rfl, rfl, trivial⟩ ⟨_, _, rfl, H, e25⟩
        ·
         rw [if_neg hk27] at e25
         refine WA.seq (fuel := 23) [9, 10] rfl (by kernel_rfl) (WR.stepE (v' := .bool false) (Ex.lss rfl rfl) (congrArg Value.bool (decide_eq_false hk27)) (Wn.none rfl) rfl rfl (MV rfl rfl (NA (WA.takes (fuel := 19) [11, 12, 13, 14] rfl (by kernel_rfl) (by kernel_rfl) rfl (WA.seq (fuel := 12) [15, 16, 17, 18, 19, 20, 21] rfl (by kernel_rfl) (WR.skipN 7 rfl rfl (NA (WA.takes (fuel := 8) [22, 23, 24, 25] rfl (by kernel_rfl) (by kernel_rfl) rfl (WA.seq (fuel := 0) [26, 27, 28, 29, 30, 31, 32, 33] rfl (by kernel_rfl) (WR.skipN 7 rfl rfl (PF rfl rfl rfl (NA (WA.done (by kernel_rfl) ?_)))))))))))))
         exact WQ.meetN [(0, _), (4, _), (81, _)] ⟨rfl, rfl, rfl, trivial⟩ ⟨_, _, rfl, H, e25⟩
       ·
        rintro e w ⟨b26, M, rfl, H, q32⟩
        obtain rfl := oI q32
        refine TN ?_
        refine WC.condB rfl (fun hk33 => ?_) (fun hk33 => ?_)
        ·
         subst hk33
         rw [if_pos rfl] at e18
         refine SK (TN (BL ?_))
         obtain ⟨n34, hxn34, e18⟩ := bnd e18
         refine RG (MV rfl rfl (ST (Ex.nilCheckP rfl) rfl (ST (Ex.fieldAddr Tryz.underlying72 rfl Tryz.sizeOf3 (by decide) rfl) rfl (ST (Ex.load1 H rfl (by repeat first | exact kMh | apply kMt) Tryz.isAgg3 (by rfl)) rfl ?_))))
         refine ST (Ex.addC rfl rfl hxn34) rfl (ST (Ex.nilCheckP rfl) rfl (ST (Ex.fieldAddr Tryz.underlying72 rfl Tryz.sizeOf3 (by decide) rfl) rfl (WR.store1 [_, _] H rfl rfl (by repeat first | exact .head | apply Upd.tail) (by rfl) Tryz.sizeOf3 (by first | decide | (simp; done) | (simp; omega)) (by rfl) (by rfl) (Wn.none rfl) ?_)))
         intro w H
         refine NL (IB ?_)
         exact WQ.againP m23 [(0, _), (4, _)] ⟨rfl, rfl, trivial⟩ ⟨_, _, _, rfl, H, e18⟩ (Nat.lt_succ_self _)
        ·
         subst hk33
         rw [if_neg Bool.false_ne_true] at e18
         refine WC.exit (WQ.thenExit (WQ.thenExit (WQ.exitHere ?_)))
         exact WQ.meetN [(0, _), (4, _)] ⟨rfl, rfl, trivial⟩ ⟨_, _, _, rfl, H, e18⟩
      ·
       rintro e w ⟨s19, n20, M, rfl, H, q35⟩
       obtain rfl := oI q35
       try dsimp only at h
       refine TN (SQ (SQ (RG (MV rfl rfl (ST (Ex.nilCheckP rfl) rfl (ST (Ex.fieldAddr Tryz.underlying72 rfl Tryz.sizeOf3 (by decide) rfl) rfl (ST (Ex.load1 H rfl (by repeat first | exact kMh | apply kMt) Tryz.isAgg3 (by rfl)) rfl ?_)))))))
       refine MV rfl rfl (ST (Ex.eql rfl rfl) rfl (NL (TN ?_)))
       obtain ⟨o36, e37, h⟩ := bnd h
       refine WC.cutX (fun e w => ∃ (s38 : List UInt8) (n39 : Int) (M : Mem), e = [(0, ptr bp0 0), (4, I o1.2)] ∧ StX (feet [.blk bp0 (.cells #[S p0.1, I p0.2] 72)]) w0 M0 M [.blk bp0 (.cells #[S s38, I n39] 72)] w ∧ some (.inl (s38, n39)) = some o36) [] ?_ ?_ (trivial)
       ·
        refine WC.condB rfl (fun hk40 => ?_) (fun hk40 => ?_)
        ·
         replace hk40 : n20 = o1.2 := of_decide_eq_true hk40
         rw [if_pos hk40] at e37
         obtain ⟨o43, hx42, e37⟩ := bnd e37
         rcases o43 with o41 | n44
         ·
          try dsimp only at e37
          refine RG (MV rfl rfl ?_)
          refine WR.callX (A := [.blk bp0 (.cells #[S s19, I n20] 72)]) (B := []) (H.pick (L' := [.blk bp0 (.cells #[S s19, I n20] 72)]) (by repeat first | exact kPn | refine kPc (by repeat first | exact .head | apply Rem.tail) ?_)) (address_reader_fail_ct hx42) (.left (Spl.all _)) rfl trivial (Wn.none rfl) rfl ?_
          intro v96 M w its H hle hR
          try dsimp only at hR
          obtain ⟨rfl, rfl⟩ := hR
          simp only [List.cons_append, List.nil_append] at H
          refine NL ?_
          exact WQ.meetN [(0, _), (4, _)] ⟨rfl, rfl, trivial⟩ ⟨_, _, _, rfl, H, e37⟩
         ·
          try dsimp only at e37
          obtain rfl := oI e37
          try dsimp only at h
          obtain rfl := oI h
          refine RG (MV rfl rfl ?_)
          refine WR.callPan (A := [.blk bp0 (.cells #[S s19, I n20] 72)]) (B := []) (H.pick (L' := [.blk bp0 (.cells #[S s19, I n20] 72)]) (by repeat first | exact kPn | refine kPc (by repeat first | exact .head | apply Rem.tail) ?_)) (address_reader_fail_ct hx42) (.left (Spl.all _)) rfl trivial (Wn.none rfl) ?_
          intro M w H hle
          (repeat (first | refine WQ.pThen ?_ | refine WQ.pIn ?_ | refine WQ.pCut ?_ | refine WQ.pSc ?_))
          exact WQ.pBody H
        ·
         replace hk40 : ¬ (n20 = o1.2) := of_decide_eq_false hk40
         rw [if_neg hk40] at e37
         refine SK ?_
         exact WQ.meetN [(0, _), (4, _)] ⟨rfl, rfl, trivial⟩ ⟨_, _, _, rfl, H, e37⟩
       ·
        rintro e w ⟨s38, n39, M, rfl, H, q45⟩
        obtain rfl := oI q45
        try dsimp only at h
        refine TN (SQ ?_)
        obtain ⟨s46, hxs46, h⟩ := bnd h
        refine WC.draw (m := 13) rfl rfl H ?_
        intro w H
        refine WA.take (i := 0) rfl (by kernel_rfl) (by kernel_rfl) (by kernel_rfl) (fun _ => Ex.move rfl) (Wn.none rfl) rfl rfl (fun _ _ => rfl) (WA.take (i := 1) rfl (by kernel_rfl) (by kernel_rfl) (by kernel_rfl) (fun _ => Ex.nilCheckP rfl) (Wn.none rfl) rfl rfl (fun _ _ => rfl) (WA.take (i := 2) rfl (by kernel_rfl) (by kernel_rfl) (by kernel_rfl) (fun _ => Ex.fieldAddr Tryz.underlying72 rfl Tryz.sizeOf9 (by decide) rfl) (Wn.none rfl) rfl rfl (fun _ _ => rfl) (WA.take (i := 4) rfl (by kernel_rfl) (by kernel_rfl) (by kernel_rfl) (fun _ => Ex.move rfl) (Wn.none rfl) rfl rfl (fun _ _ => rfl) (WA.take (i := 5) rfl (by kernel_rfl) (by kernel_rfl) (by kernel_rfl) (fun _ => Ex.move rfl) (Wn.none rfl) rfl rfl (fun _ _ => rfl) (WA.take (i := 6) rfl (by kernel_rfl) (by kernel_rfl) (by kernel_rfl) (fun _ => Ex.nilCheckP rfl) (Wn.none rfl) rfl rfl (fun _ _ => rfl) (WA.take (i := 7) rfl (by kernel_rfl) (by kernel_rfl) (by kernel_rfl) (fun _ => Ex.fieldAddr Tryz.underlying72 rfl Tryz.sizeOf3 (by decide) rfl) (Wn.none rfl) rfl rfl (fun _ _ => rfl) ?_))))))
        refine WA.takeM (i := 3) [8] rfl (by kernel_rfl) (by kernel_rfl) (by kernel_rfl) (Ex.load1 H rfl (by repeat first | exact kMh | apply kMt) Tryz.isAgg9 (by rfl)) (Wn.none rfl) rfl rfl (fun _ _ => rfl) ?_
        refine WA.seq (fuel := 0) [8, 9, 10, 11, 12] rfl (by kernel_rfl) (ST (Ex.load1 H rfl (by repeat first | exact kMh | apply kMt) Tryz.isAgg3 (by rfl)) rfl ?_)
        refine ST (Ex.sliceC Tryz.underlying9 rfl rfl rfl hxs46) rfl (ST (Ex.build [S s46, Value.bool false] Tryz.underlying136 Tryz.zeroValue136 (xplaces136 Tryz.underlying136) rfl rfl) rfl (ST (Ex.anyW (ts := 76) (s := s46) (b := false) (by kernel_rfl) rfl) rfl (AS rfl rfl (NA (WA.done (by kernel_rfl) (TN (RT ?_)))))))
        obtain rfl := oI h
        exact WQ.retX1 (its := [.blk bp0 (.cells #[S s38, I n39] 72)]) rfl rfl H (by repeat first | exact kPn | refine kPc (by repeat first | exact .head | apply Rem.tail) ?_) ⟨rfl, rfl⟩
  ·
   try dsimp only at h
   obtain rfl := oI h
   refine RG (MV rfl rfl ?_)
   refine WR.callPan (A := [.blk bp0 (.cells #[S p0.1, I p0.2] 72)]) (B := []) (H.pick (L' := [.blk bp0 (.cells #[S p0.1, I p0.2] 72)]) (by repeat first | exact kPn | refine kPc (by repeat first | exact .head | apply Rem.tail) ?_)) (address_reader_skip_ct hx2) (.left (Spl.all _)) rfl trivial (Wn.none rfl) ?_
   intro M w H hle
   (repeat (first | refine WQ.pThen ?_ | refine WQ.pIn ?_ | refine WQ.pCut ?_ | refine WQ.pSc ?_))
   exact WQ.pBody H
theorem address_reader_peek_ct {p0 : (List UInt8 × Int)} {bp0 : Nat} {r : ((Elt × (List UInt8 × Int)) ⊕ Int)} (h : address_reader_peek p0 = some r) : CtS Tryz.prog 46 [ptr bp0 0] [.blk bp0 (.cells #[S p0.1, I p0.2] 72)] (fun M => True) (fun x => fun v M its => v = encA 76 136 x.1 ∧ its = [.blk bp0 (.cells #[S x.2.1, I x.2.2] 72)]) (fun n => Value.iface 69 (Value.agg #[I n])) r := by
  refine CtS.of Tryz.func46 (enters Tryz.func46 (by kernel_rfl) rfl) rfl rfl rfl ?_
  intro w0 M0 H hp
  unfold address_reader_peek at h
  refine SQ (RG (AS rfl rfl (NL (TN (SQ (RG (MV rfl rfl (ST (Ex.nilCheckP rfl) rfl (ST (Ex.fieldAddr Tryz.underlying72 rfl Tryz.sizeOf3 (by decide) rfl) rfl (ST (Ex.load1 H rfl (by repeat first | exact kMh | apply kMt) Tryz.isAgg3 (by rfl)) rfl ?_))))))))))
  refine AS rfl rfl (NL (TN (SQ ?_)))
  obtain ⟨o4, hx3, h⟩ := bnd h
  rcases o4 with ⟨n1, o2⟩ | n5
  ·
   try dsimp only at h
   refine RG (MV rfl rfl ?_)
   refine WR.callX (A := [.blk bp0 (.cells #[S p0.1, I p0.2] 72)]) (B := []) (H.pick (L' := [.blk bp0 (.cells #[S p0.1, I p0.2] 72)]) (by repeat first | exact kPn | refine kPc (by repeat first | exact .head | apply Rem.tail) ?_)) (address_reader_next_ct hx3) (.left (Spl.all _)) rfl trivial (Wn.none rfl) rfl ?_
   intro v10 M w its H hle hR
   try dsimp only at hR
   obtain ⟨rfl, rfl⟩ := hR
   simp only [List.cons_append, List.nil_append] at H
   refine AS rfl rfl (NL (TN (SQ (RG (MV rfl rfl (MV rfl rfl (ST (Ex.nilCheckP rfl) rfl (ST (Ex.fieldAddr Tryz.underlying72 rfl Tryz.sizeOf3 (by decide) rfl) rfl (WR.store1 [_, _] H rfl rfl (by repeat first | exact .head | apply Upd.tail) (by rfl) Tryz.sizeOf3 (by first | decide | (simp; done) | (simp; omega)) (by rfl) (by rfl) (Wn.none rfl) ?_)))))))))
   intro w H
   refine NL (TN (SQ (RG (MV rfl rfl (AS rfl rfl (NL (TN (RT ?_))))))))
   obtain rfl := oI h
   exact WQ.retX1 (its := [.blk bp0 (.cells #[S o2.1, I p0.2] 72)]) rfl rfl H (by repeat first | exact kPn | refine kPc (by repeat first | exact .head | apply Rem.tail) ?_) ⟨rfl, rfl⟩
  ·
   try dsimp only at h
   obtain rfl := oI h
   refine RG (MV rfl rfl ?_)
   refine WR.callPan (A := [.blk bp0 (.cells #[S p0.1, I p0.2] 72)]) (B := []) (H.pick (L' := [.blk bp0 (.cells #[S p0.1, I p0.2] 72)]) (by repeat first | exact kPn | refine kPc (by repeat first | exact .head | apply Rem.tail) ?_)) (address_reader_next_ct hx3) (.left (Spl.all _)) rfl trivial (Wn.none rfl) ?_
   intro M w H hle
   (repeat (first | refine WQ.pThen ?_ | refine WQ.pIn ?_ | refine WQ.pCut ?_ | refine WQ.pSc ?_))
   exact WQ.pBody H
theorem address_reader_words_ct {p0 : (List UInt8 × Int)} {bp0 : Nat} {r : ((List (List UInt8 × Bool) × (List UInt8 × Int)) ⊕ Int)} (h : address_reader_words p0 = some r) : CtS Tryz.prog 85 [ptr bp0 0] [.blk bp0 (.cells #[S p0.1, I p0.2] 72)] (fun M => True) (fun x => fun v M its => ∃ x0, v = x0 ∧ SlS M 2 xenc136 x0 x.1 ∧ its = [.blk bp0 (.cells #[S x.2.1, I x.2.2] 72)]) (fun n => Value.iface 69 (Value.agg #[I n])) r := by
  refine CtS.of Tryz.func85 (enters Tryz.func85 (by kernel_rfl) rfl) rfl rfl rfl ?_
  intro w0 M0 H hp
  unfold address_reader_words at h
  refine SQ (RG (AS rfl rfl (NL (TN (SQ (RG (AS rfl rfl (NL (TN ?_)))))))))
  obtain ⟨o1, e2, h⟩ := bnd h
  refine BL ?_
  replace H := H.newRowS 136 2 xenc136
  refine WC.loopP (fun m e w => ∃ (s3 : List UInt8) (n4 : Int) (l6 : List (List UInt8 × Bool)) (v7 : Value) (M : Mem), e = [(0, ptr bp0 0), (3, v7)] ∧ StX (feet [.blk bp0 (.cells #[S p0.1, I p0.2] 72)]) w0 M0 M [.blk bp0 (.cells #[S s3, I n4] 72), RowS 136 2 xenc136 v7 l6] w ∧ address_reader_words_L1  m s3 n4 l6 = some o1) FU [(0, _), (3, _)] ⟨rfl, rfl, trivial⟩ ⟨_, _, _, _, _, rfl, (H.pick (L' := [.blk bp0 (.cells #[S p0.1, I p0.2] 72), RowS 136 2 xenc136 (Value.slice none 0 0) []]) (by repeat first | exact kPn | refine kPc (by repeat first | exact .head | apply Rem.tail) ?_)), e2⟩ ?_
  rintro m8 e w ⟨s3, n4, l6, v7, M, rfl, H, e2⟩
  rcases m8 with _ | m8
  · rw [address_reader_words_L1] at e2; cases e2
  rw [address_reader_words_L1] at e2
  refine BL (SQ ?_)
  obtain ⟨o13, hx12, e2⟩ := bnd e2
  rcases o13 with ⟨n10, o11⟩ | n14
  ·
   try dsimp only at e2
   refine RG (MV rfl rfl ?_)
   refine WR.callX (A := [.blk bp0 (.cells #[S s3, I n4] 72)]) (B := [RowS 136 2 xenc136 v7 l6]) (H.pick (L' := [.blk bp0 (.cells #[S s3, I n4] 72), RowS 136 2 xenc136 v7 l6]) (by repeat first | exact kPn | refine kPc (by repeat first | exact .head | apply Rem.tail) ?_)) (address_reader_peek_ct hx12) (.left (Spl.all _)) rfl trivial (Wn.none rfl) rfl ?_
   intro v7 M w its H hle hR
   try dsimp only at hR
   obtain ⟨rfl, rfl⟩ := hR
   simp only [List.cons_append, List.nil_append] at H
   refine NL (TN (BL (SQ ?_)))
   obtain ⟨⟨w15, b16⟩, hx17, e2⟩ := bnd e2
   try dsimp only at e2
   refine RG (ST (Ex.anyOk Tryz.underlying136 Tryz.zeroValue136 rfl hx17 rfl) rfl (ST (Ex.extract rfl rfl) rfl (ST (Ex.extract rfl rfl) rfl (NL (TN ?_)))))
   refine WC.condB rfl (fun hk18 => ?_) (fun hk18 => ?_)
   ·
    subst hk18
    rw [if_pos rfl] at e2
    refine SQ (RG (WR.alloc [_, _] H Tryz.zeroValue136 rfl (Wn.none rfl) rfl ?_))
    intro bk4 w H
    refine WR.store [_, _] H rfl rfl rfl (by repeat first | exact .head | apply Upd.tail) Tryz.sizeOf136 rfl (by rfl) (by rfl) (Wn.none rfl) ?_
    intro w H
    refine NL (TN (SQ ?_))
    obtain ⟨o22, hx21, e2⟩ := bnd e2
    rcases o22 with ⟨n19, o20⟩ | n23
    ·
     try dsimp only at e2
     refine RG (MV rfl rfl ?_)
     refine WR.callX (A := [.blk bp0 (.cells #[S o11.1, I o11.2] 72)]) (B := [.blk bk4 (.cells #[S w15.1, Value.bool w15.2] 136), RowS 136 2 xenc136 v7 l6]) (H.pick (L' := [.blk bp0 (.cells #[S o11.1, I o11.2] 72), .blk bk4 (.cells #[S w15.1, Value.bool w15.2] 136), RowS 136 2 xenc136 v7 l6]) (by repeat first | exact kPn | refine kPc (by repeat first | exact .head | apply Rem.tail) ?_)) (address_reader_next_ct hx21) (.left (Spl.all _)) rfl trivial (Wn.none rfl) rfl ?_
     intro v13 M w its H hle hR
     try dsimp only at hR
     obtain ⟨rfl, rfl⟩ := hR
     simp only [List.cons_append, List.nil_append] at H
     refine NL (TN ?_)
     obtain ⟨l24, hxl24, e2⟩ := bnd e2
     refine RG (MV rfl rfl (ST (Ex.loadAgg H rfl (by repeat first | exact kMh | apply kMt) Tryz.isAgg136 Tryz.sizeOf136 (by rfl)) rfl ?_))
     refine WR.litS (enc := xenc136) xty107 ([(w15.1, w15.2)] : List (List UInt8 × Bool)) H (fun _ => rfl) rfl (by kernel_rfl) rfl rfl rfl (Wn.none rfl) rfl ?_
     intro v16 M w H hle hs16
     refine WR.appSC (l := l6) xty107 rfl xone136 H rfl (fun _ => by repeat first | exact .head | apply Upd.tail) rfl (hs16) hxl24 (Wn.none rfl) rfl ?_
     intro v17 w H
     refine AS rfl rfl (NL (IB (IB ?_)))
     exact WQ.againP m8 [(0, _), (3, _)] ⟨rfl, rfl, trivial⟩ ⟨_, _, _, _, _, rfl, (H.pick (L' := [.blk bp0 (.cells #[S o20.1, I o20.2] 72), RowS 136 2 xenc136 v17 l24]) (by repeat first | exact kPn | refine kPc (by repeat first | exact .head | apply Rem.tail) ?_)), e2⟩ (Nat.lt_succ_self _)
    ·
     try dsimp only at e2
     obtain rfl := oI e2
     try dsimp only at h
     obtain rfl := oI h
     refine RG (MV rfl rfl ?_)
     refine WR.callPan (A := [.blk bp0 (.cells #[S o11.1, I o11.2] 72)]) (B := [.blk bk4 (.cells #[S w15.1, Value.bool w15.2] 136), RowS 136 2 xenc136 v7 l6]) (H.pick (L' := [.blk bp0 (.cells #[S o11.1, I o11.2] 72), .blk bk4 (.cells #[S w15.1, Value.bool w15.2] 136), RowS 136 2 xenc136 v7 l6]) (by repeat first | exact kPn | refine kPc (by repeat first | exact .head | apply Rem.tail) ?_)) (address_reader_next_ct hx21) (.left (Spl.all _)) rfl trivial (Wn.none rfl) ?_
     intro M w H hle
     (repeat (first | refine WQ.pThen ?_ | refine WQ.pIn ?_ | refine WQ.pCut ?_ | refine WQ.pSc ?_))
     exact WQ.pBody H
   ·
    subst hk18
    rw [if_neg Bool.false_ne_true] at e2
    refine SQ (RG (AS rfl rfl (NL (TN (SQ (RG (MV rfl rfl (AS rfl rfl (NL (TN (RT ?_)))))))))))
    obtain ⟨M, hle, hs25, H⟩ := H.freezeRowSN (v := v7) (enc := xenc136) (t := 136) (by repeat first | exact .head | apply Rem.tail) (fun _ => rfl) ⟨⟨_, (by repeat first | exact kMh | apply kMt)⟩, trivial⟩
    obtain rfl := oI e2
    try dsimp only at h
    obtain rfl := oI h
    exact WQ.retX1 (its := [.blk bp0 (.cells #[S o11.1, I o11.2] 72)]) rfl rfl H (by repeat first | exact kPn | refine kPc (by repeat first | exact .head | apply Rem.tail) ?_) ⟨_, rfl, hs25, rfl⟩
  ·
   try dsimp only at e2
   obtain rfl := oI e2
   try dsimp only at h
   obtain rfl := oI h
   refine RG (MV rfl rfl ?_)
   refine WR.callPan (A := [.blk bp0 (.cells #[S s3, I n4] 72)]) (B := [RowS 136 2 xenc136 v7 l6]) (H.pick (L' := [.blk bp0 (.cells #[S s3, I n4] 72), RowS 136 2 xenc136 v7 l6]) (by repeat first | exact kPn | refine kPc (by repeat first | exact .head | apply Rem.tail) ?_)) (address_reader_peek_ct hx12) (.left (Spl.all _)) rfl trivial (Wn.none rfl) ?_
   intro M w H hle
   (repeat (first | refine WQ.pThen ?_ | refine WQ.pIn ?_ | refine WQ.pCut ?_ | refine WQ.pSc ?_))
   exact WQ.pBody H
theorem address_reader_is_ct {p0 : (List UInt8 × Int)} {p1 : UInt8} {bp0 : Nat} {r : ((Bool × (List UInt8 × Int)) ⊕ Int)} (h : address_reader_is p0 p1 = some r) : CtS Tryz.prog 48 [ptr bp0 0, encB p1] [.blk bp0 (.cells #[S p0.1, I p0.2] 72)] (fun M => True) (fun x => fun v M its => v = Value.bool x.1 ∧ its = [.blk bp0 (.cells #[S x.2.1, I x.2.2] 72)]) (fun n => Value.iface 69 (Value.agg #[I n])) r := by
  refine CtS.of Tryz.func48 (enters Tryz.func48 (by kernel_rfl) rfl) rfl rfl rfl ?_
  intro w0 M0 H hp
  unfold address_reader_is at h
  refine SQ (RG (AS rfl rfl (NL (TN (SQ (SQ ?_))))))
  obtain ⟨o4, hx3, h⟩ := bnd h
  rcases o4 with ⟨n1, o2⟩ | n5
  ·
   try dsimp only at h
   refine RG (MV rfl rfl ?_)
   refine WR.callX (A := [.blk bp0 (.cells #[S p0.1, I p0.2] 72)]) (B := []) (H.pick (L' := [.blk bp0 (.cells #[S p0.1, I p0.2] 72)]) (by repeat first | exact kPn | refine kPc (by repeat first | exact .head | apply Rem.tail) ?_)) (address_reader_peek_ct hx3) (.left (Spl.all _)) rfl trivial (Wn.none rfl) rfl ?_
   intro v6 M w its H hle hR
   try dsimp only at hR
   obtain ⟨rfl, rfl⟩ := hR
   simp only [List.cons_append, List.nil_append] at H
   refine MV rfl rfl (ST (Ex.anyS (tw := 136) (c := p1) (by kernel_rfl) rfl) rfl (ST (Ex.neqAnyS Tryz.underlying20 (by decide) (by kernel_rfl) Tryz.underlying76 rfl rfl) rfl (NL (TN ?_))))
   refine WC.condB rfl (fun hk6 => ?_) (fun hk6 => ?_)
   ·
    replace hk6 : ¬ (n1 = (eltS p1)) := of_not_decide hk6
    rw [if_neg hk6] at h
    refine SQ (RG (AS rfl rfl (NL (TN (RT ?_)))))
    obtain rfl := oI h
    exact WQ.retX1 (its := [.blk bp0 (.cells #[S o2.1, I o2.2] 72)]) rfl rfl H (by repeat first | exact kPn | refine kPc (by repeat first | exact .head | apply Rem.tail) ?_) ⟨rfl, rfl⟩
   ·
    replace hk6 : n1 = (eltS p1) := of_not_decide' hk6
    rw [if_pos hk6] at h
    refine SK (TN (SQ ?_))
    obtain ⟨o10, hx9, h⟩ := bnd h
    rcases o10 with ⟨n7, o8⟩ | n11
    ·
     try dsimp only at h
     refine RG (MV rfl rfl ?_)
     refine WR.callX (A := [.blk bp0 (.cells #[S o2.1, I o2.2] 72)]) (B := []) (H.pick (L' := [.blk bp0 (.cells #[S o2.1, I o2.2] 72)]) (by repeat first | exact kPn | refine kPc (by repeat first | exact .head | apply Rem.tail) ?_)) (address_reader_next_ct hx9) (.left (Spl.all _)) rfl trivial (Wn.none rfl) rfl ?_
     intro v11 M w its H hle hR
     try dsimp only at hR
     obtain ⟨rfl, rfl⟩ := hR
     simp only [List.cons_append, List.nil_append] at H
     refine NL (TN (SQ (RG (AS rfl rfl (NL (TN (RT ?_)))))))
     obtain rfl := oI h
     exact WQ.retX1 (its := [.blk bp0 (.cells #[S o8.1, I o8.2] 72)]) rfl rfl H (by repeat first | exact kPn | refine kPc (by repeat first | exact .head | apply Rem.tail) ?_) ⟨rfl, rfl⟩
    ·
     try dsimp only at h
     obtain rfl := oI h
     refine RG (MV rfl rfl ?_)
     refine WR.callPan (A := [.blk bp0 (.cells #[S o2.1, I o2.2] 72)]) (B := []) (H.pick (L' := [.blk bp0 (.cells #[S o2.1, I o2.2] 72)]) (by repeat first | exact kPn | refine kPc (by repeat first | exact .head | apply Rem.tail) ?_)) (address_reader_next_ct hx9) (.left (Spl.all _)) rfl trivial (Wn.none rfl) ?_
     intro M w H hle
     (repeat (first | refine WQ.pThen ?_ | refine WQ.pIn ?_ | refine WQ.pCut ?_ | refine WQ.pSc ?_))
     exact WQ.pBody H
  ·
   try dsimp only at h
   obtain rfl := oI h
   refine RG (MV rfl rfl ?_)
   refine WR.callPan (A := [.blk bp0 (.cells #[S p0.1, I p0.2] 72)]) (B := []) (H.pick (L' := [.blk bp0 (.cells #[S p0.1, I p0.2] 72)]) (by repeat first | exact kPn | refine kPc (by repeat first | exact .head | apply Rem.tail) ?_)) (address_reader_peek_ct hx3) (.left (Spl.all _)) rfl trivial (Wn.none rfl) ?_
   intro M w H hle
   (repeat (first | refine WQ.pThen ?_ | refine WQ.pIn ?_ | refine WQ.pCut ?_ | refine WQ.pSc ?_))
   exact WQ.pBody H
theorem address_reader_need_ct {p0 : (List UInt8 × Int)} {p1 : UInt8} {bp0 : Nat} {r : ((List UInt8 × Int) ⊕ Int)} (h : address_reader_need p0 p1 = some r) : CtS Tryz.prog 88 [ptr bp0 0, encB p1] [.blk bp0 (.cells #[S p0.1, I p0.2] 72)] (fun M => True) (fun x => fun v M its => v = Value.tuple #[] ∧ its = [.blk bp0 (.cells #[S x.1, I x.2] 72)]) (fun n => Value.iface 69 (Value.agg #[I n])) r := by
  refine CtS.of Tryz.func88 (enters Tryz.func88 (by kernel_rfl) rfl) rfl rfl rfl ?_
  intro w0 M0 H hp
  unfold address_reader_need at h
  refine SQ ?_
  obtain ⟨o4, hx3, h⟩ := bnd h
  rcases o4 with ⟨b1, o2⟩ | n5
  ·
   try dsimp only at h
   refine RG (MV rfl rfl (MV rfl rfl ?_))
   refine WR.callX (A := [.blk bp0 (.cells #[S p0.1, I p0.2] 72)]) (B := []) (H.pick (L' := [.blk bp0 (.cells #[S p0.1, I p0.2] 72)]) (by repeat first | exact kPn | refine kPc (by repeat first | exact .head | apply Rem.tail) ?_)) (address_reader_is_ct hx3) (.left (Spl.all _)) rfl trivial (Wn.none rfl) rfl ?_
   intro v6 M w its H hle hR
   try dsimp only at hR
   obtain ⟨rfl, rfl⟩ := hR
   simp only [List.cons_append, List.nil_append] at H
   refine ST (Ex.not rfl) rfl (NL (TN ?_))
   refine WC.condB rfl (fun hk6 => ?_) (fun hk6 => ?_)
   ·
    replace hk6 : b1 = false := by simpa using hk6
    subst hk6
    rw [if_neg Bool.false_ne_true] at h
    obtain ⟨o9, hx8, h⟩ := bnd h
    rcases o9 with o7 | n10
    ·
     try dsimp only at h
     refine RG (MV rfl rfl ?_)
     refine WR.callX (A := [.blk bp0 (.cells #[S o2.1, I o2.2] 72)]) (B := []) (H.pick (L' := [.blk bp0 (.cells #[S o2.1, I o2.2] 72)]) (by repeat first | exact kPn | refine kPc (by repeat first | exact .head | apply Rem.tail) ?_)) (address_reader_fail_ct hx8) (.left (Spl.all _)) rfl trivial (Wn.none rfl) rfl ?_
     intro v9 M w its H hle hR
     try dsimp only at hR
     obtain ⟨rfl, rfl⟩ := hR
     simp only [List.cons_append, List.nil_append] at H
     refine NL ?_
     obtain rfl := oI h
     exact WQ.endX0 (its := [.blk bp0 (.cells #[S o7.1, I o7.2] 72)]) rfl H (by repeat first | exact kPn | refine kPc (by repeat first | exact .head | apply Rem.tail) ?_) ⟨rfl, rfl⟩
    ·
     try dsimp only at h
     obtain rfl := oI h
     refine RG (MV rfl rfl ?_)
     refine WR.callPan (A := [.blk bp0 (.cells #[S o2.1, I o2.2] 72)]) (B := []) (H.pick (L' := [.blk bp0 (.cells #[S o2.1, I o2.2] 72)]) (by repeat first | exact kPn | refine kPc (by repeat first | exact .head | apply Rem.tail) ?_)) (address_reader_fail_ct hx8) (.left (Spl.all _)) rfl trivial (Wn.none rfl) ?_
     intro M w H hle
     (repeat (first | refine WQ.pThen ?_ | refine WQ.pIn ?_ | refine WQ.pCut ?_ | refine WQ.pSc ?_))
     exact WQ.pBody H
   ·
    replace hk6 : b1 = true := by simpa using hk6
    subst hk6
    rw [if_pos rfl] at h
    refine SK ?_
    obtain rfl := oI h
    exact WQ.endX0 (its := [.blk bp0 (.cells #[S o2.1, I o2.2] 72)]) rfl H (by repeat first | exact kPn | refine kPc (by repeat first | exact .head | apply Rem.tail) ?_) ⟨rfl, rfl⟩
  ·
   try dsimp only at h
   obtain rfl := oI h
   refine RG (MV rfl rfl (MV rfl rfl ?_))
   refine WR.callPan (A := [.blk bp0 (.cells #[S p0.1, I p0.2] 72)]) (B := []) (H.pick (L' := [.blk bp0 (.cells #[S p0.1, I p0.2] 72)]) (by repeat first | exact kPn | refine kPc (by repeat first | exact .head | apply Rem.tail) ?_)) (address_reader_is_ct hx3) (.left (Spl.all _)) rfl trivial (Wn.none rfl) ?_
   intro M w H hle
   (repeat (first | refine WQ.pThen ?_ | refine WQ.pIn ?_ | refine WQ.pCut ?_ | refine WQ.pSc ?_))
   exact WQ.pBody H
end Go.Proofs.YtkmjdamkifbddaaGreatDoor
end
