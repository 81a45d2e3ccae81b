/-
  Mct2: own texts of this repository (wip/tpl, wip/plans), merged and shaken by wip/tools/pack.py.
-/
import Derived.KernelRfl
import Derived.Test.YtegkhjbajijidaaGreatDoorE1c
set_option maxRecDepth 100000
set_option linter.unusedVariables false
set_option linter.unusedSimpArgs false
section
namespace Go.Proofs.YtegkhjbajijidaaGreatDoor
open Go Go.RowKit Go.Ph Go.Ph.Pl Go.Ph.Pf
set_option maxHeartbeats 4000000 in
theorem media_param_ct {p0 : (List UInt8 × List UInt8)} {r : List UInt8} (h : media_param p0 = some r) : Ct Tryz.prog 32 [Value.agg #[S p0.1, S p0.2]] (fun M => GlF (fun w => Lib.TabIs Tryz.prog w "internal/strconv.uint64pow10" .u64 Lib.pow10Tab) M) (fun v M => v = S r) := by
  refine Ct.of Tryz.func32 (enters Tryz.func32 (by kernel_rfl) rfl) rfl rfl rfl ?_
  intro w0 M0 H hp
  have hg_pow10 := hp
  unfold media_param at h
  refine SQ (RG (WR.box [_, _] H rfl rfl (Wn.none rfl) rfl ?_))
  intro bk1 w H
  refine AS rfl rfl (NL (TN (SQ (SQ ?_))))
  obtain ⟨b1, hx2, h⟩ := bnd h
  refine RG (ST (Ex.fieldAddr Tryz.underlying47 rfl Tryz.sizeOf9 (by decide) rfl) rfl (ST (Ex.load1 H rfl (by repeat first | exact kMh | apply kMt) Tryz.isAgg9 (by rfl)) rfl ?_))
  refine WR.call H (media_token_ct hx2) rfl trivial (Wn.none rfl) rfl ?_
  intro v8 M w H hle hR
  replace hg_pow10 := hg_pow10.mono hle
  obtain rfl := hR
  refine NL (TN ?_)
  refine WC.condB rfl (fun hk3 => ?_) (fun hk3 => ?_)
  ·
   subst hk3
   rw [if_pos rfl] at h
   refine SQ ?_
   obtain ⟨s4, hxs4, h⟩ := bnd h
   obtain ⟨s5, hxs5, h⟩ := bnd h
   obtain ⟨s6, hxs6, h⟩ := bnd h
   refine RG (ST (Ex.fieldAddr Tryz.underlying47 rfl Tryz.sizeOf9 (by decide) rfl) rfl (ST (Ex.load1 H rfl (by repeat first | exact kMh | apply kMt) Tryz.isAgg9 (by rfl)) rfl ?_))
   refine ST (Ex.strAddC rfl rfl hxs4) rfl (ST (Ex.strAddC rfl rfl hxs5) rfl (ST (Ex.fieldAddr Tryz.underlying47 rfl Tryz.sizeOf9 (by decide) rfl) rfl (ST (Ex.load1 H rfl (by repeat first | exact kMh | apply kMt) Tryz.isAgg9 (by rfl)) rfl ?_)))
   refine ST (Ex.strAddC rfl rfl hxs6) rfl (AS rfl rfl (NL (TN (RT ?_))))
   obtain rfl := oI h
   exact WQ.ret1 rfl rfl H.ext rfl
  ·
   subst hk3
   rw [if_neg Bool.false_ne_true] at h
   refine SK (TN (SQ (SQ ?_)))
   obtain ⟨o7, e8, h⟩ := bnd h
   refine WC.cutX (fun e w => ∃ (b9 : Bool) (M : Mem), e = [(1, ptr bk1 0), (24, Value.bool b9)] ∧ St w0 M0 M [.blk bk1 (.cells #[S p0.1, S p0.2] 47)] w ∧ GlF (fun w => Lib.TabIs Tryz.prog w "internal/strconv.uint64pow10" .u64 Lib.pow10Tab) M ∧ some b9 = some o7) [] ?_ ?_ (trivial)
   ·
    refine RG (ST (Ex.fieldAddr Tryz.underlying47 rfl Tryz.sizeOf9 (by decide) rfl) rfl (ST (Ex.load1 H rfl (by repeat first | exact kMh | apply kMt) Tryz.isAgg9 (by rfl)) rfl ?_))
    refine ST (Ex.lenStr Tryz.underlying9 rfl) rfl ?_
    by_cases hk10 : (p0.2.length : Int) ≤ (60 : Int)
    ·
     rw [if_pos hk10] at e8
     obtain ⟨b11, hx12, e8⟩ := bnd e8
     refine WR.stepE (v' := .bool true) (Ex.leq rfl rfl) (congrArg Value.bool (decide_eq_true hk10)) (Wn.none rfl) rfl rfl (MV rfl rfl (SG (Ex.fieldAddr Tryz.underlying47 rfl Tryz.sizeOf9 (by decide) rfl) rfl rfl rfl (SG (Ex.load1 H rfl (by repeat first | exact kMh | apply kMt) Tryz.isAgg9 (by rfl)) rfl rfl rfl ?_)))
     refine WR.call H (basic_All_ct hx12) rfl ((fun _ _ h => FnV.of (media_param_1_ct h) (fun _ _ => trivial))) (Wn.some rfl rfl rfl) rfl ?_
     intro v23 M w H hle hR
     replace hg_pow10 := hg_pow10.mono hle
     obtain rfl := hR
     refine PT rfl rfl rfl (NL ?_)
     exact WQ.meetN [(1, _), (24, _)] ⟨rfl, rfl, trivial⟩ ⟨_, _, rfl, H, hg_pow10, e8⟩
    ·
     rw [if_neg hk10] at e8
     refine WR.stepE (v' := .bool false) (Ex.leq rfl rfl) (congrArg Value.bool (decide_eq_false hk10)) (Wn.none rfl) rfl rfl (MV rfl rfl (WR.skipN 3 rfl rfl (PF rfl rfl rfl (NL ?_))))
     exact WQ.meetN [(1, _), (24, _)] ⟨rfl, rfl, trivial⟩ ⟨_, _, rfl, H, hg_pow10, e8⟩
   ·
    rintro e w ⟨b9, M, rfl, H, hg_pow10, q13⟩
    obtain rfl := oI q13
    refine TN ?_
    refine WC.condB rfl (fun hk14 => ?_) (fun hk14 => ?_)
    ·
     subst hk14
     rw [if_pos rfl] at h
     refine SQ ?_
     obtain ⟨s15, hxs15, h⟩ := bnd h
     obtain ⟨s16, hxs16, h⟩ := bnd h
     obtain ⟨_, hx17, h⟩ := bnd h
     obtain ⟨s18, hxs18, h⟩ := bnd h
     obtain ⟨s19, hxs19, h⟩ := bnd h
     obtain ⟨s20, hxs20, h⟩ := bnd h
     refine WC.cutP (fun e w => ∃  (M : Mem), e = [(2, S s20)] ∧ St w0 M0 M [] w ∧ GlF (fun w => Lib.TabIs Tryz.prog w "internal/strconv.uint64pow10" .u64 Lib.pow10Tab) M) ?_ ?_
     ·
      refine WC.draw (m := 12) rfl rfl H ?_
      intro w H
      refine WA.take (i := 0) rfl (by kernel_rfl) (by kernel_rfl) (by kernel_rfl) (fun _ => Ex.fieldAddr Tryz.underlying47 rfl Tryz.sizeOf9 (by decide) rfl) (Wn.none rfl) rfl rfl (fun _ _ => rfl) (WA.take (i := 6) rfl (by kernel_rfl) (by kernel_rfl) (by kernel_rfl) (fun _ => Ex.fieldAddr Tryz.underlying47 rfl Tryz.sizeOf9 (by decide) rfl) (Wn.none rfl) rfl rfl (fun _ _ => rfl) ?_)
      refine WA.three (i := 1) (j := 4) (k := 7) (by kernel_rfl) rfl rfl rfl ?_ ?_ ?_
      ·
       refine ST (Ex.load1 H rfl (by repeat first | exact kMh | apply kMt) Tryz.isAgg9 (by rfl)) rfl ?_
       refine NA (WA.take (i := 2) rfl (by kernel_rfl) (by kernel_rfl) (by kernel_rfl) (fun _ => Ex.strAddC rfl rfl hxs15) (Wn.none rfl) rfl rfl (fun _ _ => rfl) (WA.take (i := 3) rfl (by kernel_rfl) (by kernel_rfl) (by kernel_rfl) (fun _ => Ex.strAddC rfl rfl hxs16) (Wn.none rfl) rfl rfl (fun _ _ => rfl) ?_))
       refine WA.two (i := 4) (j := 7) (by kernel_rfl) rfl rfl ?_ ?_
       ·
        refine WR.lit (enc := encS) xty75 ([[92], [92, 92], [34], [92, 34]] : List (List UInt8)) H rfl (by rfl) (fun _ => rfl) rfl rfl (Wn.none rfl) rfl ?_
        intro v29 M w H hle hs29
        replace hg_pow10 := hg_pow10.mono hle
        refine NA ?_
        refine WA.two (i := 5) (j := 7) (by kernel_rfl) rfl rfl ?_ ?_
        ·
         refine WR.callX (A := []) (B := [.blk bk1 (.cells #[S p0.1, S p0.2] 47)]) H (strings_NewReplacer_ct hx17) (Spl.all _) rfl (hs29) (Wn.none rfl) rfl ?_
         intro v30 M w its H hle hR
         replace hg_pow10 := hg_pow10.mono hle
         replace hs29 := hs29.mono hle
         obtain ⟨bk30, x30, rfl, hr30, rfl⟩ := hR
         simp only [List.cons_append, List.nil_append] at H
         refine NA (WA.seq (fuel := 0) [7, 8, 9, 10, 11] rfl (by kernel_rfl) (ST (Ex.load1 H rfl (by repeat first | exact kMh | apply kMt) Tryz.isAgg9 (by rfl)) rfl ?_))
         refine WR.callX (A := [.blk bk30 (.cells x30 112)]) (B := [.blk bk1 (.cells #[S p0.1, S p0.2] 47)]) (H.pick (L' := [.blk bk30 (.cells x30 112), .blk bk1 (.cells #[S p0.1, S p0.2] 47)]) (by repeat first | exact kPn | refine kPc (by repeat first | exact .head | apply Rem.tail) ?_)) (strings_Replacer_Replace_ct hxs18) (.left (Spl.all _)) rfl hr30 (Wn.none rfl) rfl ?_
         intro v33 M w its H hle hR
         replace hg_pow10 := hg_pow10.mono hle
         replace hs29 := hs29.mono hle
         replace hr30 := hr30.mono hle
         obtain ⟨x33, rfl, hr33, rfl⟩ := hR
         simp only [List.cons_append, List.nil_append] at H
         refine ST (Ex.strAddC rfl rfl hxs19) rfl (ST (Ex.strAddC rfl rfl hxs20) rfl (AS rfl rfl (NA (WA.done (by kernel_rfl) ?_))))
         exact WQ.meetP [(2, _)] ⟨rfl, trivial⟩ ⟨_, rfl, (H.pick (L' := []) (by repeat first | exact kPn | refine kPc (by repeat first | exact .head | apply Rem.tail) ?_)), hg_pow10⟩
        ·
         refine ST (Ex.load1 H rfl (by repeat first | exact kMh | apply kMt) Tryz.isAgg9 (by rfl)) rfl ?_
         refine NA (WA.seq (fuel := 0) [5, 8, 9, 10, 11] rfl (by kernel_rfl) (WR.callX (A := []) (B := [.blk bk1 (.cells #[S p0.1, S p0.2] 47)]) H (strings_NewReplacer_ct hx17) (Spl.all _) rfl (hs29) (Wn.none rfl) rfl ?_))
         intro v30 M w its H hle hR
         replace hg_pow10 := hg_pow10.mono hle
         replace hs29 := hs29.mono hle
         obtain ⟨bk30, x30, rfl, hr30, rfl⟩ := hR
         simp only [List.cons_append, List.nil_append] at H
         refine WR.callX (A := [.blk bk30 (.cells x30 112)]) (B := [.blk bk1 (.cells #[S p0.1, S p0.2] 47)]) (H.pick (L' := [.blk bk30 (.cells x30 112), .blk bk1 (.cells #[S p0.1, S p0.2] 47)]) (by repeat first | exact kPn | refine kPc (by repeat first | exact .head | apply Rem.tail) ?_)) (strings_Replacer_Replace_ct hxs18) (.left (Spl.all _)) rfl hr30 (Wn.none rfl) rfl ?_
         intro v33 M w its H hle hR
         replace hg_pow10 := hg_pow10.mono hle
         replace hs29 := hs29.mono hle
         replace hr30 := hr30.mono hle
         obtain ⟨x33, rfl, hr33, rfl⟩ := hR
         simp only [List.cons_append, List.nil_append] at H
         refine ST (Ex.strAddC rfl rfl hxs19) rfl (ST (Ex.strAddC rfl rfl hxs20) rfl (AS rfl rfl (NA (WA.done (by kernel_rfl) ?_))))
         exact WQ.meetP [(2, _)] ⟨rfl, trivial⟩ ⟨_, rfl, (H.pick (L' := []) (by repeat first | exact kPn | refine kPc (by repeat first | exact .head | apply Rem.tail) ?_)), hg_pow10⟩
       ·
        refine ST (Ex.load1 H rfl (by repeat first | exact kMh | apply kMt) Tryz.isAgg9 (by rfl)) rfl ?_
        refine NA (WA.seq (fuel := 0) [4, 5, 8, 9, 10, 11] rfl (by kernel_rfl) (WR.lit (enc := encS) xty75 ([[92], [92, 92], [34], [92, 34]] : List (List UInt8)) H rfl (by rfl) (fun _ => rfl) rfl rfl (Wn.none rfl) rfl ?_))
        intro v29 M w H hle hs29
        replace hg_pow10 := hg_pow10.mono hle
        refine WR.callX (A := []) (B := [.blk bk1 (.cells #[S p0.1, S p0.2] 47)]) H (strings_NewReplacer_ct hx17) (Spl.all _) rfl (hs29) (Wn.none rfl) rfl ?_
        intro v30 M w its H hle hR
        replace hg_pow10 := hg_pow10.mono hle
        replace hs29 := hs29.mono hle
        obtain ⟨bk30, x30, rfl, hr30, rfl⟩ := hR
        simp only [List.cons_append, List.nil_append] at H
        refine WR.callX (A := [.blk bk30 (.cells x30 112)]) (B := [.blk bk1 (.cells #[S p0.1, S p0.2] 47)]) (H.pick (L' := [.blk bk30 (.cells x30 112), .blk bk1 (.cells #[S p0.1, S p0.2] 47)]) (by repeat first | exact kPn | refine kPc (by repeat first | exact .head | apply Rem.tail) ?_)) (strings_Replacer_Replace_ct hxs18) (.left (Spl.all _)) rfl hr30 (Wn.none rfl) rfl ?_
        intro v33 M w its H hle hR
        replace hg_pow10 := hg_pow10.mono hle
        replace hs29 := hs29.mono hle
        replace hr30 := hr30.mono hle
        obtain ⟨x33, rfl, hr33, rfl⟩ := hR
        simp only [List.cons_append, List.nil_append] at H
        refine ST (Ex.strAddC rfl rfl hxs19) rfl (ST (Ex.strAddC rfl rfl hxs20) rfl (AS rfl rfl (NA (WA.done (by kernel_rfl) ?_))))
        exact WQ.meetP [(2, _)] ⟨rfl, trivial⟩ ⟨_, rfl, (H.pick (L' := []) (by repeat first | exact kPn | refine kPc (by repeat first | exact .head | apply Rem.tail) ?_)), hg_pow10⟩
      ·
       refine WR.lit (enc := encS) xty75 ([[92], [92, 92], [34], [92, 34]] : List (List UInt8)) H rfl (by rfl) (fun _ => rfl) rfl rfl (Wn.none rfl) rfl ?_
       intro v29 M w H hle hs29
       replace hg_pow10 := hg_pow10.mono hle
       refine NA ?_
       refine WA.three (i := 1) (j := 5) (k := 7) (by kernel_rfl) rfl rfl rfl ?_ ?_ ?_
       ·
        refine ST (Ex.load1 H rfl (by repeat first | exact kMh | apply kMt) Tryz.isAgg9 (by rfl)) rfl ?_
        refine NA (WA.take (i := 2) rfl (by kernel_rfl) (by kernel_rfl) (by kernel_rfl) (fun _ => Ex.strAddC rfl rfl hxs15) (Wn.none rfl) rfl rfl (fun _ _ => rfl) (WA.take (i := 3) rfl (by kernel_rfl) (by kernel_rfl) (by kernel_rfl) (fun _ => Ex.strAddC rfl rfl hxs16) (Wn.none rfl) rfl rfl (fun _ _ => rfl) ?_))
        refine WA.two (i := 5) (j := 7) (by kernel_rfl) rfl rfl ?_ ?_
        ·
         refine WR.callX (A := []) (B := [.blk bk1 (.cells #[S p0.1, S p0.2] 47)]) H (strings_NewReplacer_ct hx17) (Spl.all _) rfl (hs29) (Wn.none rfl) rfl ?_
         intro v30 M w its H hle hR
         replace hg_pow10 := hg_pow10.mono hle
         replace hs29 := hs29.mono hle
         obtain ⟨bk30, x30, rfl, hr30, rfl⟩ := hR
         simp only [List.cons_append, List.nil_append] at H
         refine NA (WA.seq (fuel := 0) [7, 8, 9, 10, 11] rfl (by kernel_rfl) (ST (Ex.load1 H rfl (by repeat first | exact kMh | apply kMt) Tryz.isAgg9 (by rfl)) rfl ?_))
         refine WR.callX (A := [.blk bk30 (.cells x30 112)]) (B := [.blk bk1 (.cells #[S p0.1, S p0.2] 47)]) (H.pick (L' := [.blk bk30 (.cells x30 112), .blk bk1 (.cells #[S p0.1, S p0.2] 47)]) (by repeat first | exact kPn | refine kPc (by repeat first | exact .head | apply Rem.tail) ?_)) (strings_Replacer_Replace_ct hxs18) (.left (Spl.all _)) rfl hr30 (Wn.none rfl) rfl ?_
         intro v33 M w its H hle hR
         replace hg_pow10 := hg_pow10.mono hle
         replace hs29 := hs29.mono hle
         replace hr30 := hr30.mono hle
         obtain ⟨x33, rfl, hr33, rfl⟩ := hR
         simp only [List.cons_append, List.nil_append] at H
         refine ST (Ex.strAddC rfl rfl hxs19) rfl (ST (Ex.strAddC rfl rfl hxs20) rfl (AS rfl rfl (NA (WA.done (by kernel_rfl) ?_))))
         exact WQ.meetP [(2, _)] ⟨rfl, trivial⟩ ⟨_, rfl, (H.pick (L' := []) (by repeat first | exact kPn | refine kPc (by repeat first | exact .head | apply Rem.tail) ?_)), hg_pow10⟩
        ·
         refine ST (Ex.load1 H rfl (by repeat first | exact kMh | apply kMt) Tryz.isAgg9 (by rfl)) rfl ?_
         refine NA (WA.seq (fuel := 0) [5, 8, 9, 10, 11] rfl (by kernel_rfl) (WR.callX (A := []) (B := [.blk bk1 (.cells #[S p0.1, S p0.2] 47)]) H (strings_NewReplacer_ct hx17) (Spl.all _) rfl (hs29) (Wn.none rfl) rfl ?_))
         intro v30 M w its H hle hR
         replace hg_pow10 := hg_pow10.mono hle
         replace hs29 := hs29.mono hle
         obtain ⟨bk30, x30, rfl, hr30, rfl⟩ := hR
         simp only [List.cons_append, List.nil_append] at H
         refine WR.callX (A := [.blk bk30 (.cells x30 112)]) (B := [.blk bk1 (.cells #[S p0.1, S p0.2] 47)]) (H.pick (L' := [.blk bk30 (.cells x30 112), .blk bk1 (.cells #[S p0.1, S p0.2] 47)]) (by repeat first | exact kPn | refine kPc (by repeat first | exact .head | apply Rem.tail) ?_)) (strings_Replacer_Replace_ct hxs18) (.left (Spl.all _)) rfl hr30 (Wn.none rfl) rfl ?_
         intro v33 M w its H hle hR
         replace hg_pow10 := hg_pow10.mono hle
         replace hs29 := hs29.mono hle
         replace hr30 := hr30.mono hle
         obtain ⟨x33, rfl, hr33, rfl⟩ := hR
         simp only [List.cons_append, List.nil_append] at H
         refine ST (Ex.strAddC rfl rfl hxs19) rfl (ST (Ex.strAddC rfl rfl hxs20) rfl (AS rfl rfl (NA (WA.done (by kernel_rfl) ?_))))
         exact WQ.meetP [(2, _)] ⟨rfl, trivial⟩ ⟨_, rfl, (H.pick (L' := []) (by repeat first | exact kPn | refine kPc (by repeat first | exact .head | apply Rem.tail) ?_)), hg_pow10⟩
       ·
        refine WR.callX (A := []) (B := [.blk bk1 (.cells #[S p0.1, S p0.2] 47)]) H (strings_NewReplacer_ct hx17) (Spl.all _) rfl (hs29) (Wn.none rfl) rfl ?_
        intro v30 M w its H hle hR
        replace hg_pow10 := hg_pow10.mono hle
        replace hs29 := hs29.mono hle
        obtain ⟨bk30, x30, rfl, hr30, rfl⟩ := hR
        simp only [List.cons_append, List.nil_append] at H
        refine NA ?_
        refine WA.two (i := 1) (j := 7) (by kernel_rfl) rfl rfl ?_ ?_
        ·
         refine ST (Ex.load1 H rfl (by repeat first | exact kMh | apply kMt) Tryz.isAgg9 (by rfl)) rfl ?_
         refine NA (WA.take (i := 2) rfl (by kernel_rfl) (by kernel_rfl) (by kernel_rfl) (fun _ => Ex.strAddC rfl rfl hxs15) (Wn.none rfl) rfl rfl (fun _ _ => rfl) (WA.take (i := 3) rfl (by kernel_rfl) (by kernel_rfl) (by kernel_rfl) (fun _ => Ex.strAddC rfl rfl hxs16) (Wn.none rfl) rfl rfl (fun _ _ => rfl) (WA.seq (fuel := 0) [7, 8, 9, 10, 11] rfl (by kernel_rfl) (ST (Ex.load1 H rfl (by repeat first | exact kMh | apply kMt) Tryz.isAgg9 (by rfl)) rfl ?_))))
         refine WR.callX (A := [.blk bk30 (.cells x30 112)]) (B := [.blk bk1 (.cells #[S p0.1, S p0.2] 47)]) (H.pick (L' := [.blk bk30 (.cells x30 112), .blk bk1 (.cells #[S p0.1, S p0.2] 47)]) (by repeat first | exact kPn | refine kPc (by repeat first | exact .head | apply Rem.tail) ?_)) (strings_Replacer_Replace_ct hxs18) (.left (Spl.all _)) rfl hr30 (Wn.none rfl) rfl ?_
         intro v33 M w its H hle hR
         replace hg_pow10 := hg_pow10.mono hle
         replace hs29 := hs29.mono hle
         replace hr30 := hr30.mono hle
         obtain ⟨x33, rfl, hr33, rfl⟩ := hR
         simp only [List.cons_append, List.nil_append] at H
         refine ST (Ex.strAddC rfl rfl hxs19) rfl (ST (Ex.strAddC rfl rfl hxs20) rfl (AS rfl rfl (NA (WA.done (by kernel_rfl) ?_))))
         exact WQ.meetP [(2, _)] ⟨rfl, trivial⟩ ⟨_, rfl, (H.pick (L' := []) (by repeat first | exact kPn | refine kPc (by repeat first | exact .head | apply Rem.tail) ?_)), hg_pow10⟩
        ·
         refine ST (Ex.load1 H rfl (by repeat first | exact kMh | apply kMt) Tryz.isAgg9 (by rfl)) rfl ?_
         refine NA ?_
         refine WA.two (i := 1) (j := 8) (by kernel_rfl) rfl rfl ?_ ?_
         ·
          refine ST (Ex.load1 H rfl (by repeat first | exact kMh | apply kMt) Tryz.isAgg9 (by rfl)) rfl ?_
          refine NA (WA.take (i := 2) rfl (by kernel_rfl) (by kernel_rfl) (by kernel_rfl) (fun _ => Ex.strAddC rfl rfl hxs15) (Wn.none rfl) rfl rfl (fun _ _ => rfl) (WA.take (i := 3) rfl (by kernel_rfl) (by kernel_rfl) (by kernel_rfl) (fun _ => Ex.strAddC rfl rfl hxs16) (Wn.none rfl) rfl rfl (fun _ _ => rfl) (WA.seq (fuel := 0) [8, 9, 10, 11] rfl (by kernel_rfl) ?_)))
          refine WR.callX (A := [.blk bk30 (.cells x30 112)]) (B := [.blk bk1 (.cells #[S p0.1, S p0.2] 47)]) (H.pick (L' := [.blk bk30 (.cells x30 112), .blk bk1 (.cells #[S p0.1, S p0.2] 47)]) (by repeat first | exact kPn | refine kPc (by repeat first | exact .head | apply Rem.tail) ?_)) (strings_Replacer_Replace_ct hxs18) (.left (Spl.all _)) rfl hr30 (Wn.none rfl) rfl ?_
          intro v33 M w its H hle hR
          replace hg_pow10 := hg_pow10.mono hle
          replace hs29 := hs29.mono hle
          replace hr30 := hr30.mono hle
          obtain ⟨x33, rfl, hr33, rfl⟩ := hR
          simp only [List.cons_append, List.nil_append] at H
          refine ST (Ex.strAddC rfl rfl hxs19) rfl (ST (Ex.strAddC rfl rfl hxs20) rfl (AS rfl rfl (NA (WA.done (by kernel_rfl) ?_))))
          exact WQ.meetP [(2, _)] ⟨rfl, trivial⟩ ⟨_, rfl, (H.pick (L' := []) (by repeat first | exact kPn | refine kPc (by repeat first | exact .head | apply Rem.tail) ?_)), hg_pow10⟩
         ·
          refine WR.callX (A := [.blk bk30 (.cells x30 112)]) (B := [.blk bk1 (.cells #[S p0.1, S p0.2] 47)]) (H.pick (L' := [.blk bk30 (.cells x30 112), .blk bk1 (.cells #[S p0.1, S p0.2] 47)]) (by repeat first | exact kPn | refine kPc (by repeat first | exact .head | apply Rem.tail) ?_)) (strings_Replacer_Replace_ct hxs18) (.left (Spl.all _)) rfl hr30 (Wn.none rfl) rfl ?_
          intro v33 M w its H hle hR
          replace hg_pow10 := hg_pow10.mono hle
          replace hs29 := hs29.mono hle
          replace hr30 := hr30.mono hle
          obtain ⟨x33, rfl, hr33, rfl⟩ := hR
          simp only [List.cons_append, List.nil_append] at H
          refine NA (WA.seq (fuel := 0) [1, 2, 3, 9, 10, 11] rfl (by kernel_rfl) (ST (Ex.load1 H rfl (by repeat first | exact kMh | apply kMt) Tryz.isAgg9 (by rfl)) rfl ?_))
          refine ST (Ex.strAddC rfl rfl hxs15) rfl (ST (Ex.strAddC rfl rfl hxs16) rfl (ST (Ex.strAddC rfl rfl hxs19) rfl (ST (Ex.strAddC rfl rfl hxs20) rfl (AS rfl rfl (NA (WA.done (by kernel_rfl) ?_))))))
          exact WQ.meetP [(2, _)] ⟨rfl, trivial⟩ ⟨_, rfl, (H.pick (L' := []) (by repeat first | exact kPn | refine kPc (by repeat first | exact .head | apply Rem.tail) ?_)), hg_pow10⟩
       ·
        refine ST (Ex.load1 H rfl (by repeat first | exact kMh | apply kMt) Tryz.isAgg9 (by rfl)) rfl ?_
        refine NA ?_
        refine WA.two (i := 1) (j := 5) (by kernel_rfl) rfl rfl ?_ ?_
        ·
         refine ST (Ex.load1 H rfl (by repeat first | exact kMh | apply kMt) Tryz.isAgg9 (by rfl)) rfl ?_
         refine NA (WA.take (i := 2) rfl (by kernel_rfl) (by kernel_rfl) (by kernel_rfl) (fun _ => Ex.strAddC rfl rfl hxs15) (Wn.none rfl) rfl rfl (fun _ _ => rfl) (WA.take (i := 3) rfl (by kernel_rfl) (by kernel_rfl) (by kernel_rfl) (fun _ => Ex.strAddC rfl rfl hxs16) (Wn.none rfl) rfl rfl (fun _ _ => rfl) (WA.seq (fuel := 0) [5, 8, 9, 10, 11] rfl (by kernel_rfl) (WR.callX (A := []) (B := [.blk bk1 (.cells #[S p0.1, S p0.2] 47)]) H (strings_NewReplacer_ct hx17) (Spl.all _) rfl (hs29) (Wn.none rfl) rfl ?_))))
         intro v30 M w its H hle hR
         replace hg_pow10 := hg_pow10.mono hle
         replace hs29 := hs29.mono hle
         obtain ⟨bk30, x30, rfl, hr30, rfl⟩ := hR
         simp only [List.cons_append, List.nil_append] at H
         refine WR.callX (A := [.blk bk30 (.cells x30 112)]) (B := [.blk bk1 (.cells #[S p0.1, S p0.2] 47)]) (H.pick (L' := [.blk bk30 (.cells x30 112), .blk bk1 (.cells #[S p0.1, S p0.2] 47)]) (by repeat first | exact kPn | refine kPc (by repeat first | exact .head | apply Rem.tail) ?_)) (strings_Replacer_Replace_ct hxs18) (.left (Spl.all _)) rfl hr30 (Wn.none rfl) rfl ?_
         intro v33 M w its H hle hR
         replace hg_pow10 := hg_pow10.mono hle
         replace hs29 := hs29.mono hle
         replace hr30 := hr30.mono hle
         obtain ⟨x33, rfl, hr33, rfl⟩ := hR
         simp only [List.cons_append, List.nil_append] at H
         refine ST (Ex.strAddC rfl rfl hxs19) rfl (ST (Ex.strAddC rfl rfl hxs20) rfl (AS rfl rfl (NA (WA.done (by kernel_rfl) ?_))))
         exact WQ.meetP [(2, _)] ⟨rfl, trivial⟩ ⟨_, rfl, (H.pick (L' := []) (by repeat first | exact kPn | refine kPc (by repeat first | exact .head | apply Rem.tail) ?_)), hg_pow10⟩
        ·
         refine WR.callX (A := []) (B := [.blk bk1 (.cells #[S p0.1, S p0.2] 47)]) H (strings_NewReplacer_ct hx17) (Spl.all _) rfl (hs29) (Wn.none rfl) rfl ?_
         intro v30 M w its H hle hR
         replace hg_pow10 := hg_pow10.mono hle
         replace hs29 := hs29.mono hle
         obtain ⟨bk30, x30, rfl, hr30, rfl⟩ := hR
         simp only [List.cons_append, List.nil_append] at H
         refine NA ?_
         refine WA.two (i := 1) (j := 8) (by kernel_rfl) rfl rfl ?_ ?_
         ·
          refine ST (Ex.load1 H rfl (by repeat first | exact kMh | apply kMt) Tryz.isAgg9 (by rfl)) rfl ?_
          refine NA (WA.take (i := 2) rfl (by kernel_rfl) (by kernel_rfl) (by kernel_rfl) (fun _ => Ex.strAddC rfl rfl hxs15) (Wn.none rfl) rfl rfl (fun _ _ => rfl) (WA.take (i := 3) rfl (by kernel_rfl) (by kernel_rfl) (by kernel_rfl) (fun _ => Ex.strAddC rfl rfl hxs16) (Wn.none rfl) rfl rfl (fun _ _ => rfl) (WA.seq (fuel := 0) [8, 9, 10, 11] rfl (by kernel_rfl) ?_)))
          refine WR.callX (A := [.blk bk30 (.cells x30 112)]) (B := [.blk bk1 (.cells #[S p0.1, S p0.2] 47)]) (H.pick (L' := [.blk bk30 (.cells x30 112), .blk bk1 (.cells #[S p0.1, S p0.2] 47)]) (by repeat first | exact kPn | refine kPc (by repeat first | exact .head | apply Rem.tail) ?_)) (strings_Replacer_Replace_ct hxs18) (.left (Spl.all _)) rfl hr30 (Wn.none rfl) rfl ?_
          intro v33 M w its H hle hR
          replace hg_pow10 := hg_pow10.mono hle
          replace hs29 := hs29.mono hle
          replace hr30 := hr30.mono hle
          obtain ⟨x33, rfl, hr33, rfl⟩ := hR
          simp only [List.cons_append, List.nil_append] at H
          refine ST (Ex.strAddC rfl rfl hxs19) rfl (ST (Ex.strAddC rfl rfl hxs20) rfl (AS rfl rfl (NA (WA.done (by kernel_rfl) ?_))))
          exact WQ.meetP [(2, _)] ⟨rfl, trivial⟩ ⟨_, rfl, (H.pick (L' := []) (by repeat first | exact kPn | refine kPc (by repeat first | exact .head | apply Rem.tail) ?_)), hg_pow10⟩
         ·
          refine WR.callX (A := [.blk bk30 (.cells x30 112)]) (B := [.blk bk1 (.cells #[S p0.1, S p0.2] 47)]) (H.pick (L' := [.blk bk30 (.cells x30 112), .blk bk1 (.cells #[S p0.1, S p0.2] 47)]) (by repeat first | exact kPn | refine kPc (by repeat first | exact .head | apply Rem.tail) ?_)) (strings_Replacer_Replace_ct hxs18) (.left (Spl.all _)) rfl hr30 (Wn.none rfl) rfl ?_
          intro v33 M w its H hle hR
          replace hg_pow10 := hg_pow10.mono hle
          replace hs29 := hs29.mono hle
          replace hr30 := hr30.mono hle
          obtain ⟨x33, rfl, hr33, rfl⟩ := hR
          simp only [List.cons_append, List.nil_append] at H
          refine NA (WA.seq (fuel := 0) [1, 2, 3, 9, 10, 11] rfl (by kernel_rfl) (ST (Ex.load1 H rfl (by repeat first | exact kMh | apply kMt) Tryz.isAgg9 (by rfl)) rfl ?_))
          refine ST (Ex.strAddC rfl rfl hxs15) rfl (ST (Ex.strAddC rfl rfl hxs16) rfl (ST (Ex.strAddC rfl rfl hxs19) rfl (ST (Ex.strAddC rfl rfl hxs20) rfl (AS rfl rfl (NA (WA.done (by kernel_rfl) ?_))))))
          exact WQ.meetP [(2, _)] ⟨rfl, trivial⟩ ⟨_, rfl, (H.pick (L' := []) (by repeat first | exact kPn | refine kPc (by repeat first | exact .head | apply Rem.tail) ?_)), hg_pow10⟩
      ·
       refine ST (Ex.load1 H rfl (by repeat first | exact kMh | apply kMt) Tryz.isAgg9 (by rfl)) rfl ?_
       refine NA ?_
       refine WA.two (i := 1) (j := 4) (by kernel_rfl) rfl rfl ?_ ?_
       ·
        refine ST (Ex.load1 H rfl (by repeat first | exact kMh | apply kMt) Tryz.isAgg9 (by rfl)) rfl ?_
        refine NA (WA.take (i := 2) rfl (by kernel_rfl) (by kernel_rfl) (by kernel_rfl) (fun _ => Ex.strAddC rfl rfl hxs15) (Wn.none rfl) rfl rfl (fun _ _ => rfl) (WA.take (i := 3) rfl (by kernel_rfl) (by kernel_rfl) (by kernel_rfl) (fun _ => Ex.strAddC rfl rfl hxs16) (Wn.none rfl) rfl rfl (fun _ _ => rfl) (WA.seq (fuel := 0) [4, 5, 8, 9, 10, 11] rfl (by kernel_rfl) (WR.lit (enc := encS) xty75 ([[92], [92, 92], [34], [92, 34]] : List (List UInt8)) H rfl (by rfl) (fun _ => rfl) rfl rfl (Wn.none rfl) rfl ?_))))
        intro v29 M w H hle hs29
        replace hg_pow10 := hg_pow10.mono hle
        refine WR.callX (A := []) (B := [.blk bk1 (.cells #[S p0.1, S p0.2] 47)]) H (strings_NewReplacer_ct hx17) (Spl.all _) rfl (hs29) (Wn.none rfl) rfl ?_
        intro v30 M w its H hle hR
        replace hg_pow10 := hg_pow10.mono hle
        replace hs29 := hs29.mono hle
        obtain ⟨bk30, x30, rfl, hr30, rfl⟩ := hR
        simp only [List.cons_append, List.nil_append] at H
        refine WR.callX (A := [.blk bk30 (.cells x30 112)]) (B := [.blk bk1 (.cells #[S p0.1, S p0.2] 47)]) (H.pick (L' := [.blk bk30 (.cells x30 112), .blk bk1 (.cells #[S p0.1, S p0.2] 47)]) (by repeat first | exact kPn | refine kPc (by repeat first | exact .head | apply Rem.tail) ?_)) (strings_Replacer_Replace_ct hxs18) (.left (Spl.all _)) rfl hr30 (Wn.none rfl) rfl ?_
        intro v33 M w its H hle hR
        replace hg_pow10 := hg_pow10.mono hle
        replace hs29 := hs29.mono hle
        replace hr30 := hr30.mono hle
        obtain ⟨x33, rfl, hr33, rfl⟩ := hR
        simp only [List.cons_append, List.nil_append] at H
        refine ST (Ex.strAddC rfl rfl hxs19) rfl (ST (Ex.strAddC rfl rfl hxs20) rfl (AS rfl rfl (NA (WA.done (by kernel_rfl) ?_))))
        exact WQ.meetP [(2, _)] ⟨rfl, trivial⟩ ⟨_, rfl, (H.pick (L' := []) (by repeat first | exact kPn | refine kPc (by repeat first | exact .head | apply Rem.tail) ?_)), hg_pow10⟩
       ·
        refine WR.lit (enc := encS) xty75 ([[92], [92, 92], [34], [92, 34]] : List (List UInt8)) H rfl (by rfl) (fun _ => rfl) rfl rfl (Wn.none rfl) rfl ?_
        intro v29 M w H hle hs29
        replace hg_pow10 := hg_pow10.mono hle
        refine NA ?_
        refine WA.two (i := 1) (j := 5) (by kernel_rfl) rfl rfl ?_ ?_
        ·
         refine ST (Ex.load1 H rfl (by repeat first | exact kMh | apply kMt) Tryz.isAgg9 (by rfl)) rfl ?_
         refine NA (WA.take (i := 2) rfl (by kernel_rfl) (by kernel_rfl) (by kernel_rfl) (fun _ => Ex.strAddC rfl rfl hxs15) (Wn.none rfl) rfl rfl (fun _ _ => rfl) (WA.take (i := 3) rfl (by kernel_rfl) (by kernel_rfl) (by kernel_rfl) (fun _ => Ex.strAddC rfl rfl hxs16) (Wn.none rfl) rfl rfl (fun _ _ => rfl) (WA.seq (fuel := 0) [5, 8, 9, 10, 11] rfl (by kernel_rfl) (WR.callX (A := []) (B := [.blk bk1 (.cells #[S p0.1, S p0.2] 47)]) H (strings_NewReplacer_ct hx17) (Spl.all _) rfl (hs29) (Wn.none rfl) rfl ?_))))
         intro v30 M w its H hle hR
         replace hg_pow10 := hg_pow10.mono hle
         replace hs29 := hs29.mono hle
         obtain ⟨bk30, x30, rfl, hr30, rfl⟩ := hR
         simp only [List.cons_append, List.nil_append] at H
         refine WR.callX (A := [.blk bk30 (.cells x30 112)]) (B := [.blk bk1 (.cells #[S p0.1, S p0.2] 47)]) (H.pick (L' := [.blk bk30 (.cells x30 112), .blk bk1 (.cells #[S p0.1, S p0.2] 47)]) (by repeat first | exact kPn | refine kPc (by repeat first | exact .head | apply Rem.tail) ?_)) (strings_Replacer_Replace_ct hxs18) (.left (Spl.all _)) rfl hr30 (Wn.none rfl) rfl ?_
         intro v33 M w its H hle hR
         replace hg_pow10 := hg_pow10.mono hle
         replace hs29 := hs29.mono hle
         replace hr30 := hr30.mono hle
         obtain ⟨x33, rfl, hr33, rfl⟩ := hR
         simp only [List.cons_append, List.nil_append] at H
         refine ST (Ex.strAddC rfl rfl hxs19) rfl (ST (Ex.strAddC rfl rfl hxs20) rfl (AS rfl rfl (NA (WA.done (by kernel_rfl) ?_))))
         exact WQ.meetP [(2, _)] ⟨rfl, trivial⟩ ⟨_, rfl, (H.pick (L' := []) (by repeat first | exact kPn | refine kPc (by repeat first | exact .head | apply Rem.tail) ?_)), hg_pow10⟩
        ·
         refine WR.callX (A := []) (B := [.blk bk1 (.cells #[S p0.1, S p0.2] 47)]) H (strings_NewReplacer_ct hx17) (Spl.all _) rfl (hs29) (Wn.none rfl) rfl ?_
         intro v30 M w its H hle hR
         replace hg_pow10 := hg_pow10.mono hle
         replace hs29 := hs29.mono hle
         obtain ⟨bk30, x30, rfl, hr30, rfl⟩ := hR
         simp only [List.cons_append, List.nil_append] at H
         refine NA ?_
         refine WA.two (i := 1) (j := 8) (by kernel_rfl) rfl rfl ?_ ?_
         ·
          refine ST (Ex.load1 H rfl (by repeat first | exact kMh | apply kMt) Tryz.isAgg9 (by rfl)) rfl ?_
          refine NA (WA.take (i := 2) rfl (by kernel_rfl) (by kernel_rfl) (by kernel_rfl) (fun _ => Ex.strAddC rfl rfl hxs15) (Wn.none rfl) rfl rfl (fun _ _ => rfl) (WA.take (i := 3) rfl (by kernel_rfl) (by kernel_rfl) (by kernel_rfl) (fun _ => Ex.strAddC rfl rfl hxs16) (Wn.none rfl) rfl rfl (fun _ _ => rfl) (WA.seq (fuel := 0) [8, 9, 10, 11] rfl (by kernel_rfl) ?_)))
          refine WR.callX (A := [.blk bk30 (.cells x30 112)]) (B := [.blk bk1 (.cells #[S p0.1, S p0.2] 47)]) (H.pick (L' := [.blk bk30 (.cells x30 112), .blk bk1 (.cells #[S p0.1, S p0.2] 47)]) (by repeat first | exact kPn | refine kPc (by repeat first | exact .head | apply Rem.tail) ?_)) (strings_Replacer_Replace_ct hxs18) (.left (Spl.all _)) rfl hr30 (Wn.none rfl) rfl ?_
          intro v33 M w its H hle hR
          replace hg_pow10 := hg_pow10.mono hle
          replace hs29 := hs29.mono hle
          replace hr30 := hr30.mono hle
          obtain ⟨x33, rfl, hr33, rfl⟩ := hR
          simp only [List.cons_append, List.nil_append] at H
          refine ST (Ex.strAddC rfl rfl hxs19) rfl (ST (Ex.strAddC rfl rfl hxs20) rfl (AS rfl rfl (NA (WA.done (by kernel_rfl) ?_))))
          exact WQ.meetP [(2, _)] ⟨rfl, trivial⟩ ⟨_, rfl, (H.pick (L' := []) (by repeat first | exact kPn | refine kPc (by repeat first | exact .head | apply Rem.tail) ?_)), hg_pow10⟩
         ·
          refine WR.callX (A := [.blk bk30 (.cells x30 112)]) (B := [.blk bk1 (.cells #[S p0.1, S p0.2] 47)]) (H.pick (L' := [.blk bk30 (.cells x30 112), .blk bk1 (.cells #[S p0.1, S p0.2] 47)]) (by repeat first | exact kPn | refine kPc (by repeat first | exact .head | apply Rem.tail) ?_)) (strings_Replacer_Replace_ct hxs18) (.left (Spl.all _)) rfl hr30 (Wn.none rfl) rfl ?_
          intro v33 M w its H hle hR
          replace hg_pow10 := hg_pow10.mono hle
          replace hs29 := hs29.mono hle
          replace hr30 := hr30.mono hle
          obtain ⟨x33, rfl, hr33, rfl⟩ := hR
          simp only [List.cons_append, List.nil_append] at H
          refine NA (WA.seq (fuel := 0) [1, 2, 3, 9, 10, 11] rfl (by kernel_rfl) (ST (Ex.load1 H rfl (by repeat first | exact kMh | apply kMt) Tryz.isAgg9 (by rfl)) rfl ?_))
          refine ST (Ex.strAddC rfl rfl hxs15) rfl (ST (Ex.strAddC rfl rfl hxs16) rfl (ST (Ex.strAddC rfl rfl hxs19) rfl (ST (Ex.strAddC rfl rfl hxs20) rfl (AS rfl rfl (NA (WA.done (by kernel_rfl) ?_))))))
          exact WQ.meetP [(2, _)] ⟨rfl, trivial⟩ ⟨_, rfl, (H.pick (L' := []) (by repeat first | exact kPn | refine kPc (by repeat first | exact .head | apply Rem.tail) ?_)), hg_pow10⟩
     ·
      rintro e w ⟨M, rfl, H, hg_pow10⟩
      refine TN (RT ?_)
      obtain rfl := oI h
      exact WQ.ret1 rfl rfl H.ext rfl
    ·
     subst hk14
     rw [if_neg Bool.false_ne_true] at h
     refine SK (TN (SQ (RG (AS rfl rfl (NL (TN (SQ (SQ ?_))))))))
     obtain ⟨l21, hx22, h⟩ := bnd h
     refine RG (ST (Ex.fieldAddr Tryz.underlying47 rfl Tryz.sizeOf9 (by decide) rfl) rfl (ST (Ex.load1 H rfl (by repeat first | exact kMh | apply kMt) Tryz.isAgg9 (by rfl)) rfl ?_))
     refine WR.call H (media_pieces_ct hx22) rfl trivial (Wn.none rfl) rfl ?_
     intro v38 M w H hle hR
     replace hg_pow10 := hg_pow10.mono hle
     have f38_0 := hR
     refine ST (Ex.lenSl Tryz.underlying75 f38_0 rfl) rfl (MV rfl rfl (NL (TN ?_)))
     obtain ⟨o23, e24, h⟩ := bnd h
     refine WC.cutX (fun e w => ∃ (s25 : List UInt8) (M : Mem), e = [(3, S s25)] ∧ St w0 M0 M [] w ∧ GlF (fun w => Lib.TabIs Tryz.prog w "internal/strconv.uint64pow10" .u64 Lib.pow10Tab) M ∧ some s25 = some o23) [] ?_ ?_ (trivial)
     ·
      refine BL (WC.loopP (fun m e w => ∃ (s26 : List UInt8) (n27 : Int) (M : Mem), e = [(1, ptr bk1 0), (3, S s26), (38, v38), (39, I (l21.length : Int)), (40, I n27)] ∧ St w0 M0 M [.blk bk1 (.cells #[S p0.1, S p0.2] 47)] w ∧ GlF (fun w => Lib.TabIs Tryz.prog w "internal/strconv.uint64pow10" .u64 Lib.pow10Tab) M ∧ Sl M encS v38 l21 ∧ media_param_L1 p0 l21 m s26 n27 = some o23) FU [(1, _), (3, _), (38, _), (39, _), (40, _)] ⟨rfl, rfl, rfl, rfl, rfl, trivial⟩ ⟨_, _, _, rfl, H, hg_pow10, f38_0, e24⟩ ?_)
      rintro m28 e w ⟨s26, n27, M, rfl, H, hg_pow10, f38_0, e24⟩
      rcases m28 with _ | m28
      · rw [media_param_L1] at e24; cases e24
      rw [media_param_L1] at e24
      refine SQ (RG (ST (Ex.lss rfl rfl) rfl (NL (TN (SQ ?_)))))
      refine WC.condB rfl (fun hk29 => ?_) (fun hk29 => ?_)
      ·
       replace hk29 : n27 < (l21.length : Int) := of_decide_eq_true hk29
       rw [if_pos hk29] at e24
       refine SK (TN (SQ (BL (SQ ?_))))
       obtain ⟨a30, hxa30, e24⟩ := bnd e24
       obtain ⟨bk43, o43, ha43, hc43⟩ := f38_0.atC hxa30
       refine RG (MV rfl rfl (ST (Ex.idxAt ha43 Tryz.underlying75 Tryz.sizeOf9 rfl rfl) rfl (ST (Ex.loadM H rfl hc43 Tryz.isAgg9) rfl (AS rfl rfl (AS rfl rfl (NL (TN ?_)))))))
       obtain ⟨s31, hxs31, e24⟩ := bnd e24
       obtain ⟨s32, hxs32, e24⟩ := bnd e24
       obtain ⟨s33, hx34, e24⟩ := bnd e24
       obtain ⟨s35, hxs35, e24⟩ := bnd e24
       obtain ⟨s36, hxs36, e24⟩ := bnd e24
       obtain ⟨s37, hxs37, e24⟩ := bnd e24
       obtain ⟨s38, hxs38, e24⟩ := bnd e24
       refine WC.cutP (fun e w => ∃  (M : Mem), e = [(1, ptr bk1 0), (3, S s38), (38, v38), (39, I (l21.length : Int)), (40, I n27)] ∧ St w0 M0 M [.blk bk1 (.cells #[S p0.1, S p0.2] 47)] w ∧ GlF (fun w => Lib.TabIs Tryz.prog w "internal/strconv.uint64pow10" .u64 Lib.pow10Tab) M ∧ Sl M encS v38 l21) ?_ ?_
       ·
        refine WC.draw (m := 13) rfl rfl H ?_
        intro w H
        refine WA.take (i := 0) rfl (by kernel_rfl) (by kernel_rfl) (by kernel_rfl) (fun _ => Ex.move rfl) (Wn.none rfl) rfl rfl (fun _ _ => rfl) (WA.take (i := 1) rfl (by kernel_rfl) (by kernel_rfl) (by kernel_rfl) (fun _ => Ex.fieldAddr Tryz.underlying47 rfl Tryz.sizeOf9 (by decide) rfl) (Wn.none rfl) rfl rfl (fun _ _ => rfl) (WA.take (i := 5) rfl (by kernel_rfl) (by kernel_rfl) (by kernel_rfl) (fun _ => Ex.move rfl) (Wn.none rfl) rfl rfl (fun _ _ => rfl) (WA.take (i := 9) rfl (by kernel_rfl) (by kernel_rfl) (by kernel_rfl) (fun _ => Ex.move rfl) (Wn.none rfl) rfl rfl (fun _ _ => rfl) ?_)))
        refine WA.two (i := 2) (j := 6) (by kernel_rfl) rfl rfl ?_ ?_
        ·
         refine ST (Ex.load1 H rfl (by repeat first | exact kMh | apply kMt) Tryz.isAgg9 (by rfl)) rfl ?_
         refine NA (WA.take (i := 3) rfl (by kernel_rfl) (by kernel_rfl) (by kernel_rfl) (fun _ => Ex.strAddC rfl rfl hxs31) (Wn.none rfl) rfl rfl (fun _ _ => rfl) (WA.take (i := 4) rfl (by kernel_rfl) (by kernel_rfl) (by kernel_rfl) (fun _ => Ex.strAddC rfl rfl hxs32) (Wn.none rfl) rfl rfl (fun _ _ => rfl) (WA.seq (fuel := 0) [6, 7, 8, 10, 11, 12] rfl (by kernel_rfl) (WR.call H (strconv_Itoa_ct hx34) rfl (hg_pow10) (Wn.none rfl) rfl ?_))))
         intro v51 M w H hle hR
         replace hg_pow10 := hg_pow10.mono hle
         replace f38_0 := f38_0.mono hle
         replace hc43 := hc43.mono hle
         obtain rfl := hR
         refine ST (Ex.strAddC rfl rfl hxs35) rfl (ST (Ex.strAddC rfl rfl hxs36) rfl (ST (Ex.strAddC rfl rfl hxs37) rfl (ST (Ex.strAddC rfl rfl hxs38) rfl (AS rfl rfl (NA (WA.done (by kernel_rfl) ?_))))))
         exact WQ.meetP [(1, _), (3, _), (38, _), (39, _), (40, _)] ⟨rfl, rfl, rfl, rfl, rfl, trivial⟩ ⟨_, rfl, H, hg_pow10, f38_0⟩
        ·
         refine WR.call H (strconv_Itoa_ct hx34) rfl (hg_pow10) (Wn.none rfl) rfl ?_
         intro v51 M w H hle hR
         replace hg_pow10 := hg_pow10.mono hle
         replace f38_0 := f38_0.mono hle
         replace hc43 := hc43.mono hle
         obtain rfl := hR
         refine NA (WA.seq (fuel := 0) [2, 3, 4, 7, 8, 10, 11, 12] rfl (by kernel_rfl) (ST (Ex.load1 H rfl (by repeat first | exact kMh | apply kMt) Tryz.isAgg9 (by rfl)) rfl ?_))
         refine ST (Ex.strAddC rfl rfl hxs31) rfl (ST (Ex.strAddC rfl rfl hxs32) rfl (ST (Ex.strAddC rfl rfl hxs35) rfl (ST (Ex.strAddC rfl rfl hxs36) rfl (ST (Ex.strAddC rfl rfl hxs37) rfl (ST (Ex.strAddC rfl rfl hxs38) rfl (AS rfl rfl (NA (WA.done (by kernel_rfl) ?_))))))))
         exact WQ.meetP [(1, _), (3, _), (38, _), (39, _), (40, _)] ⟨rfl, rfl, rfl, rfl, rfl, trivial⟩ ⟨_, rfl, H, hg_pow10, f38_0⟩
       ·
        rintro e w ⟨M, rfl, H, hg_pow10, f38_0⟩
        refine IB (TN ?_)
        obtain ⟨n39, hxn39, e24⟩ := bnd e24
        refine RG (ST (Ex.addC rfl rfl hxn39) rfl (MV rfl rfl (NL ?_)))
        exact WQ.againP m28 [(1, _), (3, _), (38, _), (39, _), (40, _)] ⟨rfl, rfl, rfl, rfl, rfl, trivial⟩ ⟨_, _, _, rfl, H, hg_pow10, f38_0, e24⟩ (Nat.lt_succ_self _)
      ·
       replace hk29 : ¬ (n27 < (l21.length : Int)) := of_decide_eq_false hk29
       rw [if_neg hk29] at e24
       refine WC.exit (WQ.thenExit (WQ.thenExit (WQ.exitHere ?_)))
       exact WQ.meetN [(3, _)] ⟨rfl, trivial⟩ ⟨_, _, rfl, (H.pick (L' := []) (by repeat first | exact kPn | refine kPc (by repeat first | exact .head | apply Rem.tail) ?_)), hg_pow10, e24⟩
     ·
      rintro e w ⟨s25, M, rfl, H, hg_pow10, q40⟩
      obtain rfl := oI q40
      refine TN (SQ (RG (MV rfl rfl (AS rfl rfl (NL (TN (RT ?_)))))))
      obtain rfl := oI h
      exact WQ.ret1 rfl rfl H.ext rfl
theorem media_Print_ct {p0 : (List UInt8 × List UInt8 × List (List UInt8 × List UInt8))} {vp0_2 : Value} {r : (List UInt8 × (Int × Int))} (h : media_Print p0 = some r) : Ct Tryz.prog 12 [Value.agg #[S p0.1, S p0.2.1, vp0_2]] (fun M => GlF (fun w => Lib.TabIs Tryz.prog w "internal/strconv.uint64pow10" .u64 Lib.pow10Tab) M ∧ Tabs M ∧ SlS M 2 xenc47 vp0_2 p0.2.2) (fun v M => v = Value.tuple #[S r.1, Value.agg #[I r.2.1, I r.2.2]]) := by
  refine Ct.of Tryz.func12 (enters Tryz.func12 (by kernel_rfl) rfl) rfl rfl rfl ?_
  intro w0 M0 H hp
  obtain ⟨hg_pow10, hg_tabs, hp0_2⟩ := hp
  unfold media_Print at h
  refine SQ (RG (WR.box [_, _, _] H rfl rfl (Wn.none rfl) rfl ?_))
  intro bk1 w H
  refine AS rfl rfl (WR.alloc [_, _] H Tryz.zeroValue27 rfl (Wn.none rfl) rfl ?_)
  intro bk3 w H
  refine NL (TN (SQ (SQ ?_)))
  obtain ⟨⟨n1, n2⟩, hx3, h⟩ := bnd h
  try dsimp only at h
  refine RG (ST (Ex.loadAgg H rfl (by repeat first | exact kMh | apply kMt) Tryz.isAgg24 Tryz.sizeOf24 (by rfl)) rfl ?_)
  refine WR.call H (media_Validate_ct hx3) rfl ⟨hg_tabs, hp0_2⟩ (Wn.none rfl) rfl ?_
  intro v9 M w H hle hR
  replace hg_pow10 := hg_pow10.mono hle
  replace hg_tabs := hg_tabs.mono hle
  replace hp0_2 := hp0_2.mono hle
  try dsimp only at hR
  obtain rfl := hR
  refine WR.alloc [_, _] H Tryz.zeroValue27 rfl (Wn.none rfl) rfl ?_
  intro bk4 w H
  refine WR.store [_, _] H rfl rfl rfl (by repeat first | exact .head | apply Upd.tail) Tryz.sizeOf27 rfl (by rfl) (by rfl) (Wn.none rfl) ?_
  intro w H
  refine NL (TN (SQ ?_))
  obtain ⟨b4, hx5, h⟩ := bnd h
  refine RG (ST (Ex.loadAgg H rfl (by repeat first | exact kMh | apply kMt) Tryz.isAgg27 Tryz.sizeOf27 (by rfl)) rfl ?_)
  refine WR.call H (basic_Failed_ct hx5) rfl trivial (Wn.none rfl) rfl ?_
  intro v11 M w H hle hR
  replace hg_pow10 := hg_pow10.mono hle
  replace hg_tabs := hg_tabs.mono hle
  replace hp0_2 := hp0_2.mono hle
  obtain rfl := hR
  refine NL (TN ?_)
  refine WC.condB rfl (fun hk6 => ?_) (fun hk6 => ?_)
  ·
   subst hk6
   rw [if_pos rfl] at h
   refine SQ (WC.draw (m := 3) rfl rfl H ?_)
   intro w H
   refine WA.take (i := 1) rfl (by kernel_rfl) (by kernel_rfl) (by kernel_rfl) (fun _ => Ex.assign rfl) (Wn.none rfl) rfl rfl (fun _ _ => rfl) (WA.seq (fuel := 0) [0, 2] rfl (by kernel_rfl) (ST (Ex.loadAgg H rfl (by repeat first | exact kMh | apply kMt) Tryz.isAgg27 Tryz.sizeOf27 (by rfl)) rfl ?_))
   refine WR.store [_, _] H rfl rfl rfl (by repeat first | exact .head | apply Upd.tail) Tryz.sizeOf27 rfl (by rfl) (by rfl) (Wn.none rfl) ?_
   intro w H
   refine NA (WA.done (by kernel_rfl) (TN (RT ?_)))
   obtain rfl := oI h
   exact WQ.ret2 rfl rfl ⟨_, rfl, H.loadAgg (by repeat first | exact kMh | apply kMt) Tryz.isAgg27 Tryz.sizeOf27 (by rfl)⟩ H.ext rfl
  ·
   subst hk6
   rw [if_neg Bool.false_ne_true] at h
   refine SK (TN (SQ ?_))
   obtain ⟨s7, hxs7, h⟩ := bnd h
   obtain ⟨s8, hxs8, h⟩ := bnd h
   refine RG (ST (Ex.fieldAddr Tryz.underlying24 rfl Tryz.sizeOf9 (by decide) rfl) rfl (ST (Ex.load1 H rfl (by repeat first | exact kMh | apply kMt) Tryz.isAgg9 (by rfl)) rfl ?_))
   refine ST (Ex.strAddC rfl rfl hxs7) rfl (ST (Ex.fieldAddr Tryz.underlying24 rfl Tryz.sizeOf9 (by decide) rfl) rfl (ST (Ex.load1 H rfl (by repeat first | exact kMh | apply kMt) Tryz.isAgg9 (by rfl)) rfl ?_))
   refine ST (Ex.strAddC rfl rfl hxs8) rfl (AS rfl rfl (NL (TN (SQ (SQ (RG (ST (Ex.fieldAddr Tryz.underlying24 rfl Tryz.sizeOf22 (by decide) rfl) rfl (ST (Ex.load1 H rfl (by repeat first | exact kMh | apply kMt) Tryz.isAgg22 (by rfl)) rfl ?_))))))))
   refine ST (Ex.lenSlS Tryz.underlying22 hp0_2 rfl) rfl (MV rfl rfl (NL (TN ?_)))
   obtain ⟨o9, e10, h⟩ := bnd h
   refine WC.cutX (fun e w => ∃ (s11 : List UInt8) (M : Mem), e = [(3, ptr bk3 0), (5, S s11)] ∧ St w0 M0 M [.blk bk3 (.cells #[I 0, I 0] 27)] w ∧ GlF (fun w => Lib.TabIs Tryz.prog w "internal/strconv.uint64pow10" .u64 Lib.pow10Tab) M ∧ Tabs M ∧ some s11 = some o9) [] ?_ ?_ (trivial)
   ·
    refine BL ?_
    refine WC.loopP (fun m e w => ∃ (s12 : List UInt8) (n13 : Int) (M : Mem), e = [(3, ptr bk3 0), (5, S s12), (20, vp0_2), (21, I (p0.2.2.length : Int)), (22, I n13)] ∧ St w0 M0 M [.blk bk3 (.cells #[I 0, I 0] 27)] w ∧ GlF (fun w => Lib.TabIs Tryz.prog w "internal/strconv.uint64pow10" .u64 Lib.pow10Tab) M ∧ Tabs M ∧ SlS M 2 xenc47 vp0_2 p0.2.2 ∧ media_Print_L1 p0 m s12 n13 = some o9) FU [(3, _), (5, _), (20, _), (21, _), (22, _)] ⟨rfl, rfl, rfl, rfl, rfl, trivial⟩ ⟨_, _, _, rfl, (H.pick (L' := [.blk bk3 (.cells #[I 0, I 0] 27)]) (by repeat first | exact kPn | refine kPc (by repeat first | exact .head | apply Rem.tail) ?_)), hg_pow10, hg_tabs, hp0_2, e10⟩ ?_
    rintro m14 e w ⟨s12, n13, M, rfl, H, hg_pow10, hg_tabs, hp0_2, e10⟩
    rcases m14 with _ | m14
    · rw [media_Print_L1] at e10; cases e10
    rw [media_Print_L1] at e10
    refine SQ (RG (ST (Ex.lss rfl rfl) rfl (NL (TN (SQ ?_)))))
    refine WC.condB rfl (fun hk15 => ?_) (fun hk15 => ?_)
    ·
     replace hk15 : n13 < (p0.2.2.length : Int) := of_decide_eq_true hk15
     rw [if_pos hk15] at e10
     refine SK (TN (SQ (BL (SQ ?_))))
     obtain ⟨a16, hxa16, e10⟩ := bnd e10
     obtain ⟨bk24, o24, ha24, hc24⟩ := hp0_2.atC hxa16
     refine RG (ST (Ex.idxAt ha24 Tryz.underlying22 Tryz.sizeOf47 rfl rfl) rfl (ST (Ex.loadAggM H rfl hc24 Tryz.isAgg47 Tryz.sizeOf47 (by rfl)) rfl ?_))
     refine WR.alloc [_, _] H Tryz.zeroValue47 rfl (Wn.none rfl) rfl ?_
     intro bk7 w H
     refine WR.store [_, _] H rfl rfl rfl (by repeat first | exact .head | apply Upd.tail) Tryz.sizeOf47 rfl (by rfl) (by rfl) (Wn.none rfl) ?_
     intro w H
     refine NL (TN ?_)
     obtain ⟨s17, hx18, e10⟩ := bnd e10
     obtain ⟨s19, hxs19, e10⟩ := bnd e10
     refine RG (MV rfl rfl (ST (Ex.loadAgg H rfl (by repeat first | exact kMh | apply kMt) Tryz.isAgg47 Tryz.sizeOf47 (by rfl)) rfl ?_))
     refine WR.call H (media_param_ct hx18) rfl (hg_pow10) (Wn.none rfl) rfl ?_
     intro v28 M w H hle hR
     replace hg_pow10 := hg_pow10.mono hle
     replace hg_tabs := hg_tabs.mono hle
     replace hp0_2 := hp0_2.mono hle
     replace hc24 := hc24.mono hle
     obtain rfl := hR
     refine ST (Ex.strAddC rfl rfl hxs19) rfl (AS rfl rfl (NL (IB (TN ?_))))
     obtain ⟨n20, hxn20, e10⟩ := bnd e10
     refine RG (ST (Ex.addC rfl rfl hxn20) rfl (MV rfl rfl (NL ?_)))
     exact WQ.againP m14 [(3, _), (5, _), (20, _), (21, _), (22, _)] ⟨rfl, rfl, rfl, rfl, rfl, trivial⟩ ⟨_, _, _, rfl, (H.pick (L' := [.blk bk3 (.cells #[I 0, I 0] 27)]) (by repeat first | exact kPn | refine kPc (by repeat first | exact .head | apply Rem.tail) ?_)), hg_pow10, hg_tabs, hp0_2, e10⟩ (Nat.lt_succ_self _)
    ·
     replace hk15 : ¬ (n13 < (p0.2.2.length : Int)) := of_decide_eq_false hk15
     rw [if_neg hk15] at e10
     refine WC.exit (WQ.thenExit (WQ.thenExit (WQ.exitHere ?_)))
     exact WQ.meetN [(3, _), (5, _)] ⟨rfl, rfl, trivial⟩ ⟨_, _, rfl, H, hg_pow10, hg_tabs, e10⟩
   ·
    rintro e w ⟨s11, M, rfl, H, hg_pow10, hg_tabs, q21⟩
    obtain rfl := oI q21
    refine TN (SQ (SQ (RG (MV rfl rfl (ST (Ex.lenStr Tryz.underlying9 rfl) rfl (ST (Ex.gtr rfl rfl) rfl (NL (TN ?_))))))))
    refine WC.condB rfl (fun hk22 => ?_) (fun hk22 => ?_)
    ·
     replace hk22 : (4000 : Int) < (s11.length : Int) := of_decide_eq_true hk22
     rw [if_pos hk22] at h
     refine SQ ?_
     obtain ⟨⟨n23, n24⟩, hx25, h⟩ := bnd h
     try dsimp only at h
     refine RG (WR.call H (basic_Fault_ct hx25) rfl trivial (Wn.none rfl) rfl ?_)
     intro v34 M w H hle hR
     replace hg_pow10 := hg_pow10.mono hle
     replace hg_tabs := hg_tabs.mono hle
     try dsimp only at hR
     obtain rfl := hR
     refine AS rfl rfl (WR.store [_, _] H rfl rfl rfl (by repeat first | exact .head | apply Upd.tail) Tryz.sizeOf27 rfl (by rfl) (by rfl) (Wn.none rfl) ?_)
     intro w H
     refine NL (TN (RT ?_))
     obtain rfl := oI h
     exact WQ.ret2 rfl rfl ⟨_, rfl, H.loadAgg (by repeat first | exact kMh | apply kMt) Tryz.isAgg27 Tryz.sizeOf27 (by rfl)⟩ H.ext rfl
    ·
     replace hk22 : ¬ ((4000 : Int) < (s11.length : Int)) := of_decide_eq_false hk22
     rw [if_neg hk22] at h
     refine SK (TN (SQ ?_))
     obtain ⟨⟨n26, n27⟩, hx28, h⟩ := bnd h
     try dsimp only at h
     refine RG (MV rfl rfl (WR.call H (basic_None_ct hx28) rfl trivial (Wn.none rfl) rfl ?_))
     intro v36 M w H hle hR
     replace hg_pow10 := hg_pow10.mono hle
     replace hg_tabs := hg_tabs.mono hle
     try dsimp only at hR
     obtain rfl := hR
     refine AS rfl rfl (WR.store [_, _] H rfl rfl rfl (by repeat first | exact .head | apply Upd.tail) Tryz.sizeOf27 rfl (by rfl) (by rfl) (Wn.none rfl) ?_)
     intro w H
     refine NL (TN (RT ?_))
     obtain rfl := oI h
     exact WQ.ret2 rfl rfl ⟨_, rfl, H.loadAgg (by repeat first | exact kMh | apply kMt) Tryz.isAgg27 Tryz.sizeOf27 (by rfl)⟩ H.ext rfl
theorem strings_trimLeftByte_ct {p0 : List UInt8} {p1 : UInt8} {r : List UInt8} (h : strings_trimLeftByte p0 p1 = some r) : Ct Tryz.prog 91 [S p0, encB p1] (fun M => True) (fun v M => v = S r) := by
  refine Ct.of Tryz.func91 (enters Tryz.func91 (by kernel_rfl) rfl) rfl rfl rfl ?_
  intro w0 M0 H hp
  unfold strings_trimLeftByte at h
  refine SQ (RG (AS rfl rfl (NL (TN (SQ ?_)))))
  obtain ⟨o1, e2, h⟩ := bnd h
  refine WC.cutX (fun e w => ∃ (s3 : List UInt8) (M : Mem), e = [(0, S s3)] ∧ St w0 M0 M [] w ∧ some s3 = some o1) [] ?_ ?_ (trivial)
  ·
   refine BL (WC.loopP (fun m e w => ∃ (s4 : List UInt8) (M : Mem), e = [(0, S s4), (1, encB p1)] ∧ St w0 M0 M [] w ∧ strings_trimLeftByte_L1 p1 m s4 = some o1) FU [(0, _), (1, _)] ⟨rfl, rfl, trivial⟩ ⟨_, _, rfl, H, e2⟩ ?_)
   rintro m5 e w ⟨s4, M, rfl, H, e2⟩
   rcases m5 with _ | m5
   · rw [strings_trimLeftByte_L1] at e2; cases e2
   rw [strings_trimLeftByte_L1] at e2
   refine SQ (SQ ?_)
   obtain ⟨o6, e7, e2⟩ := bnd e2
   refine WC.cutX (fun e w => ∃ (b8 : Bool) (M : Mem), e = [(0, S s4), (1, encB p1), (13, Value.bool b8)] ∧ St w0 M0 M [] w ∧ some b8 = some o6) [] ?_ ?_ (trivial)
   ·
    refine RG (MV rfl rfl (ST (Ex.lenStr Tryz.underlying9 rfl) rfl ?_))
    by_cases hk9 : (0 : Int) < (s4.length : Int)
    ·
     rw [if_pos hk9] at e7
     obtain ⟨c10, hxc10, e7⟩ := bnd e7
     refine WR.stepE (v' := .bool true) (Ex.gtr rfl rfl) (congrArg Value.bool (decide_eq_true hk9)) (Wn.none rfl) rfl rfl (MV rfl rfl (SG (Ex.move rfl) rfl rfl rfl (SG (Ex.idxStrC Tryz.underlying9 rfl rfl hxc10) rfl rfl rfl (SG (Ex.move rfl) rfl rfl rfl (SG (Ex.eqlB (c := c10) (d := p1) rfl rfl) rfl rfl rfl (PT rfl rfl rfl (NL ?_)))))))
     exact WQ.meetN [(0, _), (1, _), (13, _)] ⟨rfl, rfl, rfl, trivial⟩ ⟨_, _, rfl, H, e7⟩
    ·
     rw [if_neg hk9] at e7
     refine WR.stepE (v' := .bool false) (Ex.gtr rfl rfl) (congrArg Value.bool (decide_eq_false hk9)) (Wn.none rfl) rfl rfl (MV rfl rfl (WR.skipN 4 rfl rfl (PF rfl rfl rfl (NL ?_))))
     exact WQ.meetN [(0, _), (1, _), (13, _)] ⟨rfl, rfl, rfl, trivial⟩ ⟨_, _, rfl, H, e7⟩
   ·
    rintro e w ⟨b8, M, rfl, H, q11⟩
    obtain rfl := oI q11
    refine TN ?_
    refine WC.condB rfl (fun hk12 => ?_) (fun hk12 => ?_)
    ·
     subst hk12
     rw [if_pos rfl] at e2
     refine SK (TN (BL ?_))
     obtain ⟨s13, hxs13, e2⟩ := bnd e2
     refine RG (MV rfl rfl (ST (Ex.sliceL Tryz.underlying9 rfl rfl hxs13) rfl (AS rfl rfl (NL (IB ?_)))))
     exact WQ.againP m5 [(0, _), (1, _)] ⟨rfl, rfl, trivial⟩ ⟨_, _, rfl, H, e2⟩ (Nat.lt_succ_self _)
    ·
     subst hk12
     rw [if_neg Bool.false_ne_true] at e2
     refine WC.exit (WQ.thenExit (WQ.thenExit (WQ.exitHere ?_)))
     exact WQ.meetN [(0, _)] ⟨rfl, trivial⟩ ⟨_, _, rfl, H, e2⟩
  ·
   rintro e w ⟨s3, M, rfl, H, q14⟩
   obtain rfl := oI q14
   refine TN (SQ (RG (MV rfl rfl (AS rfl rfl (NL (TN (RT ?_)))))))
   obtain rfl := oI h
   exact WQ.ret1 rfl rfl H.ext rfl
theorem strings_makeASCIISet_ct {p0 : List UInt8} {r : (List Bool × Bool)} (h : strings_makeASCIISet p0 = some r) : Ct Tryz.prog 92 [S p0] (fun M => True) (fun v M => v = Value.tuple #[Value.agg (List.map encBo r.1).toArray, Value.bool r.2]) := by
  refine Ct.of Tryz.func92 (enters Tryz.func92 (by kernel_rfl) rfl) rfl rfl rfl ?_
  intro w0 M0 H hp
  unfold strings_makeASCIISet at h
  refine SQ (RG (WR.alloc (List.map encBo (List.replicate 256 false : List Bool)) H Tryz.zeroValue136 (by kernel_rfl) (Wn.none rfl) rfl ?_))
  intro bk2 w H
  refine AS rfl rfl (NL (TN (SQ (SQ (RG (AS rfl rfl (NL (TN ?_))))))))
  obtain ⟨o1, e2, h⟩ := bnd h
  refine WC.cutX (fun e w => ∃ (l3 : List Bool) (M : Mem), e = [(2, ptr bk2 0)] ∧ St w0 M0 M [.blk bk2 (.cells (List.map encBo l3).toArray 136)] w ∧ some (.inl l3) = some o1) [] ?_ ?_ (trivial)
  ·
   refine BL (WC.loopP (fun m e w => ∃ (l4 : List Bool) (n5 : Int) (M : Mem), e = [(0, S p0), (2, ptr bk2 0), (4, I n5)] ∧ St w0 M0 M [.blk bk2 (.cells (List.map encBo l4).toArray 136)] w ∧ strings_makeASCIISet_L1 p0 m l4 n5 = some o1) FU [(0, _), (2, _), (4, _)] ⟨rfl, rfl, rfl, trivial⟩ ⟨_, _, _, rfl, H, e2⟩ ?_)
   rintro m6 e w ⟨l4, n5, M, rfl, H, e2⟩
   rcases m6 with _ | m6
   · rw [strings_makeASCIISet_L1] at e2; cases e2
   rw [strings_makeASCIISet_L1] at e2
   refine SQ (SQ (RG (MV rfl rfl (MV rfl rfl (ST (Ex.lenStr Tryz.underlying9 rfl) rfl (ST (Ex.lss rfl rfl) rfl (NL (TN ?_))))))))
   refine WC.condB rfl (fun hk7 => ?_) (fun hk7 => ?_)
   ·
    replace hk7 : n5 < (p0.length : Int) := of_decide_eq_true hk7
    rw [if_pos hk7] at e2
    refine SK (TN (SQ (BL (SQ ?_))))
    obtain ⟨c8, hxc8, e2⟩ := bnd e2
    refine RG (MV rfl rfl (MV rfl rfl (ST (Ex.idxStrC Tryz.underlying9 rfl rfl hxc8) rfl (AS rfl rfl (NL (TN (SQ (SQ (RG (MV rfl rfl (ST (Ex.geqB (i := c8.toNat) (j := 128) rfl rfl) rfl (NL (TN ?_)))))))))))))
    refine WC.condB rfl (fun hk9 => ?_) (fun hk9 => ?_)
    ·
     replace hk9 : 128 ≤ c8.toNat := of_decide_eq_true hk9
     rw [if_pos hk9] at e2
     refine SQ ?_
     obtain ⟨l10, hxl10, e2⟩ := bnd e2
     obtain ⟨l11, hxl11, e2⟩ := bnd e2
     obtain ⟨l12, hxl12, e2⟩ := bnd e2
     refine RG (ST (Ex.loadAggA H rfl (by repeat first | exact kMh | apply kMt) Tryz.isAgg136 Tryz.sizeOf136 hxl10) rfl ?_)
     refine WR.storeA (l2 := l10) H rfl rfl (fun _ => rfl) (fun _ => by repeat first | exact .head | apply Upd.tail) hxl11 hxl12 Tryz.sizeOf136 (Wn.none rfl) ?_
     intro w H
     refine AS rfl rfl (NL (TN (RT ?_)))
     obtain ⟨l13, hxl13, e2⟩ := bnd e2
     obtain rfl := oI e2
     try dsimp only at h
     obtain rfl := oI h
     exact WQ.ret2 rfl ⟨_, rfl, H.loadAggA (by repeat first | exact kMh | apply kMt) Tryz.isAgg136 Tryz.sizeOf136 hxl13⟩ rfl H.ext rfl
    ·
     replace hk9 : ¬ (128 ≤ c8.toNat) := of_decide_eq_false hk9
     rw [if_neg hk9] at e2
     refine SK (TN ?_)
     obtain ⟨a14, hxa14, e2⟩ := bnd e2
     obtain ⟨l15, hxl15, e2⟩ := bnd e2
     refine RG (MV rfl rfl (ST (Ex.idxArrC (l := l4) Tryz.underlying136 Tryz.sizeOf4 rfl rfl hxa14) rfl (WR.storeArr (a := true) H rfl rfl ⟨rfl, rfl⟩ (fun _ => by repeat first | exact .head | apply Upd.tail) hxl15 Tryz.sizeOf4 (Wn.none rfl) ?_)))
     intro w H
     refine NL (IB (TN ?_))
     obtain ⟨n16, hxn16, e2⟩ := bnd e2
     refine RG (MV rfl rfl (ST (Ex.addC rfl rfl hxn16) rfl (AS rfl rfl (NL ?_))))
     exact WQ.againP m6 [(0, _), (2, _), (4, _)] ⟨rfl, rfl, rfl, trivial⟩ ⟨_, _, _, rfl, H, e2⟩ (Nat.lt_succ_self _)
   ·
    replace hk7 : ¬ (n5 < (p0.length : Int)) := of_decide_eq_false hk7
    rw [if_neg hk7] at e2
    refine WC.exit (WQ.thenExit (WQ.thenExit (WQ.exitHere ?_)))
    exact WQ.meetN [(2, _)] ⟨rfl, trivial⟩ ⟨_, _, rfl, H, e2⟩
  ·
   rintro e w ⟨l3, M, rfl, H, q17⟩
   obtain rfl := oI q17
   try dsimp only at h
   refine TN (SQ ?_)
   obtain ⟨l18, hxl18, h⟩ := bnd h
   obtain ⟨l19, hxl19, h⟩ := bnd h
   obtain ⟨l20, hxl20, h⟩ := bnd h
   refine RG (ST (Ex.loadAggA H rfl (by repeat first | exact kMh | apply kMt) Tryz.isAgg136 Tryz.sizeOf136 hxl18) rfl ?_)
   refine WR.storeA (l2 := l18) H rfl rfl (fun _ => rfl) (fun _ => by repeat first | exact .head | apply Upd.tail) hxl19 hxl20 Tryz.sizeOf136 (Wn.none rfl) ?_
   intro w H
   refine AS rfl rfl (NL (TN (RT ?_)))
   obtain ⟨l21, hxl21, h⟩ := bnd h
   obtain rfl := oI h
   exact WQ.ret2 rfl ⟨_, rfl, H.loadAggA (by repeat first | exact kMh | apply kMt) Tryz.isAgg136 Tryz.sizeOf136 hxl21⟩ rfl H.ext rfl
theorem strings_asciiSet_contains_ct {p0 : List Bool} {p1 : UInt8} {bp0 : Nat} {r : Bool} (h : strings_asciiSet_contains p0 p1 = some r) : Ct Tryz.prog 115 [ptr bp0 0, encB p1] (fun M => PtM M bp0 (.cells (List.map encBo p0).toArray 136)) (fun v M => v = Value.bool r) := by
  refine Ct.of Tryz.func115 (enters Tryz.func115 (by kernel_rfl) rfl) rfl rfl rfl ?_
  intro w0 M0 H hp
  have hp0 := hp
  unfold strings_asciiSet_contains at h
  refine SQ (RG (AS rfl rfl (NL (TN (SQ ?_)))))
  obtain ⟨a1, hxa1, h⟩ := bnd h
  refine RG (MV rfl rfl (MV rfl rfl (ST (Ex.nilCheckP rfl) rfl (ST (Ex.idxArrC (l := p0) Tryz.underlying136 Tryz.sizeOf4 rfl rfl hxa1) rfl (ST (Ex.loadArrM H rfl hp0 hxa1 Tryz.isAgg4) rfl (AS rfl rfl (NL (TN (RT ?_)))))))))
  obtain rfl := oI h
  exact WQ.ret1 rfl rfl H.ext rfl
theorem strings_trimLeftASCII_ct {p0 : List UInt8} {p1 : List Bool} {bp1 : Nat} {r : List UInt8} (h : strings_trimLeftASCII p0 p1 = some r) : Ct Tryz.prog 93 [S p0, ptr bp1 0] (fun M => PtM M bp1 (.cells (List.map encBo p1).toArray 136)) (fun v M => v = S r) := by
  refine Ct.of Tryz.func93 (enters Tryz.func93 (by kernel_rfl) rfl) rfl rfl rfl ?_
  intro w0 M0 H hp
  have hp1 := hp
  unfold strings_trimLeftASCII at h
  refine SQ (RG (AS rfl rfl (NL (TN (SQ ?_)))))
  obtain ⟨o1, e2, h⟩ := bnd h
  refine WC.cutX (fun e w => ∃ (s3 : List UInt8) (M : Mem), e = [(0, S s3)] ∧ St w0 M0 M [] w ∧ some s3 = some o1) [] ?_ ?_ (trivial)
  ·
   refine BL (WC.loopP (fun m e w => ∃ (s4 : List UInt8) (M : Mem), e = [(0, S s4), (1, ptr bp1 0)] ∧ St w0 M0 M [] w ∧ PtM M bp1 (.cells (List.map encBo p1).toArray 136) ∧ strings_trimLeftASCII_L1 p1 m s4 = some o1) FU [(0, _), (1, _)] ⟨rfl, rfl, trivial⟩ ⟨_, _, rfl, H, hp1, e2⟩ ?_)
   rintro m5 e w ⟨s4, M, rfl, H, hp1, e2⟩
   rcases m5 with _ | m5
   · rw [strings_trimLeftASCII_L1] at e2; cases e2
   rw [strings_trimLeftASCII_L1] at e2
   refine SQ (SQ (RG (MV rfl rfl (ST (Ex.lenStr Tryz.underlying9 rfl) rfl (ST (Ex.gtr rfl rfl) rfl (NL (TN ?_)))))))
   refine WC.condB rfl (fun hk6 => ?_) (fun hk6 => ?_)
   ·
    replace hk6 : (0 : Int) < (s4.length : Int) := of_decide_eq_true hk6
    rw [if_pos hk6] at e2
    refine SK (TN (BL (SQ (SQ ?_))))
    obtain ⟨c7, hxc7, e2⟩ := bnd e2
    obtain ⟨b8, hx9, e2⟩ := bnd e2
    refine RG (MV rfl rfl (MV rfl rfl (ST (Ex.idxStrC Tryz.underlying9 rfl rfl hxc7) rfl (WR.call H (strings_asciiSet_contains_ct hx9) rfl (hp1) (Wn.none rfl) rfl ?_))))
    intro v11 M w H hle hR
    replace hp1 := hp1.mono hle
    obtain rfl := hR
    refine ST (Ex.not rfl) rfl (NL (TN ?_))
    refine WC.condB rfl (fun hk10 => ?_) (fun hk10 => ?_)
    ·
     replace hk10 : b8 = false := by simpa using hk10
     subst hk10
     rw [if_neg Bool.false_ne_true] at e2
     refine WC.exit (WQ.thenExit (WQ.exitOut rfl (WQ.thenExit (WQ.exitHere ?_))))
     exact WQ.meetN [(0, _)] ⟨rfl, trivial⟩ ⟨_, _, rfl, H, e2⟩
    ·
     replace hk10 : b8 = true := by simpa using hk10
     subst hk10
     rw [if_pos rfl] at e2
     refine SK (TN ?_)
     obtain ⟨s11, hxs11, e2⟩ := bnd e2
     refine RG (MV rfl rfl (ST (Ex.sliceL Tryz.underlying9 rfl rfl hxs11) rfl (AS rfl rfl (NL (IB ?_)))))
     exact WQ.againP m5 [(0, _), (1, _)] ⟨rfl, rfl, trivial⟩ ⟨_, _, rfl, H, hp1, e2⟩ (Nat.lt_succ_self _)
   ·
    replace hk6 : ¬ ((0 : Int) < (s4.length : Int)) := of_decide_eq_false hk6
    rw [if_neg hk6] at e2
    refine WC.exit (WQ.thenExit (WQ.thenExit (WQ.exitHere ?_)))
    exact WQ.meetN [(0, _)] ⟨rfl, trivial⟩ ⟨_, _, rfl, H, e2⟩
  ·
   rintro e w ⟨s3, M, rfl, H, q12⟩
   obtain rfl := oI q12
   refine TN (SQ (RG (MV rfl rfl (AS rfl rfl (NL (TN (RT ?_)))))))
   obtain rfl := oI h
   exact WQ.ret1 rfl rfl H.ext rfl
theorem strings_TrimLeft_ct {p0 : List UInt8} {p1 : List UInt8} {r : List UInt8} (h : strings_TrimLeft p0 p1 = some r) : Ct Tryz.prog 78 [S p0, S p1] (fun M => True) (fun v M => v = S r) := by
  refine Ct.of Tryz.func78 (enters Tryz.func78 (by kernel_rfl) rfl) rfl rfl rfl ?_
  intro w0 M0 H hp
  unfold strings_TrimLeft at h
  refine SQ (RG (AS rfl rfl (NL (TN (SQ (SQ ?_))))))
  obtain ⟨o1, e2, h⟩ := bnd h
  refine WC.cutX (fun e w => ∃ (b3 : Bool) (M : Mem), e = [(0, S p0), (1, S p1), (12, Value.bool b3)] ∧ St w0 M0 M [] w ∧ some b3 = some o1) [] ?_ ?_ (trivial)
  ·
   by_cases hk4 : p0 = []
   ·
    rw [if_pos hk4] at e2
    refine RG (MV rfl rfl (WR.stepE (v' := .bool true) (Ex.strEql rfl rfl) (congrArg Value.bool (decide_eq_true hk4)) (Wn.none rfl) rfl rfl (MV rfl rfl (GT rfl rfl rfl (GT rfl rfl rfl (PT rfl rfl rfl (NL ?_)))))))
    exact WQ.meetN [(0, _), (1, _), (12, _)] ⟨rfl, rfl, rfl, trivial⟩ ⟨_, _, rfl, H, e2⟩
   ·
    rw [if_neg hk4] at e2
    refine RG (MV rfl rfl (WR.stepE (v' := .bool false) (Ex.strEql rfl rfl) (congrArg Value.bool (decide_eq_false hk4)) (Wn.none rfl) rfl rfl (MV rfl rfl (SG (Ex.move rfl) rfl rfl rfl (SG (Ex.strEql rfl rfl) rfl rfl rfl (PF rfl rfl rfl (NL ?_)))))))
    exact WQ.meetN [(0, _), (1, _), (12, _)] ⟨rfl, rfl, rfl, trivial⟩ ⟨_, _, rfl, H, e2⟩
  ·
   rintro e w ⟨b3, M, rfl, H, q5⟩
   obtain rfl := oI q5
   refine TN ?_
   refine WC.condB rfl (fun hk6 => ?_) (fun hk6 => ?_)
   ·
    subst hk6
    rw [if_pos rfl] at h
    refine SQ (RG (MV rfl rfl (AS rfl rfl (NL (TN (RT ?_))))))
    obtain rfl := oI h
    exact WQ.ret1 rfl rfl H.ext rfl
   ·
    subst hk6
    rw [if_neg Bool.false_ne_true] at h
    refine SK (TN (SQ (SQ ?_)))
    obtain ⟨o7, e8, h⟩ := bnd h
    refine WC.cutX (fun e w => ∃ (b9 : Bool) (M : Mem), e = [(0, S p0), (1, S p1), (21, Value.bool b9)] ∧ St w0 M0 M [] w ∧ some b9 = some o7) [] ?_ ?_ (trivial)
    ·
     refine RG (MV rfl rfl (ST (Ex.lenStr Tryz.underlying9 rfl) rfl ?_))
     by_cases hk10 : (p1.length : Int) = (1 : Int)
     ·
      rw [if_pos hk10] at e8
      obtain ⟨c11, hxc11, e8⟩ := bnd e8
      refine WR.stepE (v' := .bool true) (Ex.eql rfl rfl) (congrArg Value.bool (decide_eq_true hk10)) (Wn.none rfl) rfl rfl (MV rfl rfl (SG (Ex.move rfl) rfl rfl rfl (SG (Ex.idxStrC Tryz.underlying9 rfl rfl hxc11) rfl rfl rfl (SG (Ex.lssB (i := c11.toNat) (j := 128) rfl rfl) rfl rfl rfl (PT rfl rfl rfl (NL ?_))))))
      exact WQ.meetN [(0, _), (1, _), (21, _)] ⟨rfl, rfl, rfl, trivial⟩ ⟨_, _, rfl, H, e8⟩
     ·
      rw [if_neg hk10] at e8
      refine WR.stepE (v' := .bool false) (Ex.eql rfl rfl) (congrArg Value.bool (decide_eq_false hk10)) (Wn.none rfl) rfl rfl (MV rfl rfl (WR.skipN 3 rfl rfl (PF rfl rfl rfl (NL ?_))))
      exact WQ.meetN [(0, _), (1, _), (21, _)] ⟨rfl, rfl, rfl, trivial⟩ ⟨_, _, rfl, H, e8⟩
    ·
     rintro e w ⟨b9, M, rfl, H, q12⟩
     obtain rfl := oI q12
     refine TN ?_
     refine WC.condB rfl (fun hk13 => ?_) (fun hk13 => ?_)
     ·
      subst hk13
      rw [if_pos rfl] at h
      refine SQ ?_
      obtain ⟨c14, hxc14, h⟩ := bnd h
      obtain ⟨s15, hx16, h⟩ := bnd h
      refine RG (MV rfl rfl (MV rfl rfl (ST (Ex.idxStrC Tryz.underlying9 rfl rfl hxc14) rfl (WR.call H (strings_trimLeftByte_ct hx16) rfl trivial (Wn.none rfl) rfl ?_))))
      intro v25 M w H hle hR
      obtain rfl := hR
      refine AS rfl rfl (NL (TN (RT ?_)))
      obtain rfl := oI h
      exact WQ.ret1 rfl rfl H.ext rfl
     ·
      subst hk13
      rw [if_neg Bool.false_ne_true] at h
      refine SK (TN (SQ (SQ ?_)))
      obtain ⟨⟨n17, b18⟩, hx19, h⟩ := bnd h
      try dsimp only at h
      obtain ⟨l20, hxl20, h⟩ := bnd h
      obtain ⟨l21, hxl21, h⟩ := bnd h
      refine RG (MV rfl rfl (WR.call H (strings_makeASCIISet_ct hx19) rfl trivial (Wn.none rfl) rfl ?_))
      intro v28 M w H hle hR
      try dsimp only at hR
      obtain rfl := hR
      refine MV rfl rfl (ST (Ex.extract rfl rfl) rfl (ST (Ex.extract rfl rfl) rfl (WR.alloc (List.map encBo (List.replicate 256 false : List Bool)) H Tryz.zeroValue136 (by kernel_rfl) (Wn.none rfl) rfl ?_)))
      intro bk5 w H
      refine WR.storeA (l2 := n17) H rfl rfl (fun _ => rfl) (fun _ => by repeat first | exact .head | apply Upd.tail) hxl20 hxl21 Tryz.sizeOf136 (Wn.none rfl) ?_
      intro w H
      refine AS rfl rfl (NL (TN (SQ (RG (MV rfl rfl (NL (TN ?_)))))))
      refine WC.condB rfl (fun hk22 => ?_) (fun hk22 => ?_)
      ·
       subst hk22
       rw [if_pos rfl] at h
       refine SQ ?_
       obtain ⟨s24, hx25, h⟩ := bnd h
       refine RG (MV rfl rfl ?_)
       obtain ⟨M, hle, hb23, H⟩ := H.freezeVar (b := bk5) (by repeat first | exact .head | apply Rem.tail)
       refine WR.call H (strings_trimLeftASCII_ct hx25) rfl (hb23) (Wn.none rfl) rfl ?_
       intro v33 M w H hle hR
       replace hb23 := hb23.mono hle
       obtain rfl := hR
       refine AS rfl rfl (NL (TN (RT ?_)))
       obtain rfl := oI h
       exact WQ.ret1 rfl rfl H.ext rfl
      ·
       subst hk22
       rw [if_neg Bool.false_ne_true] at h
       cases h
theorem media_reader_blanks_ct {p0 : List UInt8} {bp0 : Nat} {r : List UInt8} (h : media_reader_blanks p0 = some r) : CtX Tryz.prog 59 [ptr bp0 0] [.blk bp0 (.cells #[S p0] 81)] (fun M => True) (fun v M its => v = Value.tuple #[] ∧ its = [.blk bp0 (.cells #[S r] 81)]) := by
  refine CtX.of Tryz.func59 (enters Tryz.func59 (by kernel_rfl) rfl) rfl rfl rfl ?_
  intro w0 M0 H hp
  unfold media_reader_blanks at h
  obtain ⟨s1, hx2, h⟩ := bnd h
  refine RG (MV rfl rfl (MV rfl rfl (ST (Ex.nilCheckP rfl) rfl (ST (Ex.fieldAddr Tryz.underlying81 rfl Tryz.sizeOf9 (by decide) rfl) rfl (ST (Ex.load1 H rfl (by repeat first | exact kMh | apply kMt) Tryz.isAgg9 (by rfl)) rfl ?_)))))
  refine WR.call H (strings_TrimLeft_ct hx2) rfl trivial (Wn.none rfl) rfl ?_
  intro v7 M w H hle hR
  obtain rfl := hR
  refine ST (Ex.nilCheckP rfl) rfl (ST (Ex.fieldAddr Tryz.underlying81 rfl Tryz.sizeOf9 (by decide) rfl) rfl (WR.store [_] H rfl rfl rfl (by repeat first | exact .head | apply Upd.tail) Tryz.sizeOf9 rfl (by rfl) (by rfl) (Wn.none rfl) ?_))
  intro w H
  refine NL ?_
  obtain rfl := oI h
  exact WQ.endX0 (its := [.blk bp0 (.cells #[S s1] 81)]) rfl H (by repeat first | exact kPn | refine kPc (by repeat first | exact .head | apply Rem.tail) ?_) ⟨rfl, rfl⟩
theorem media_reader_take_ct {p0 : List UInt8} {p1 : (UInt8 → Option Bool)} {bp0 : Nat} {vp1 : Value} {r : (List UInt8 × List UInt8)} (h : media_reader_take p0 p1 = some r) : CtX Tryz.prog 56 [ptr bp0 0, vp1] [.blk bp0 (.cells #[S p0] 81)] (fun M => FnT62 M vp1 p1) (fun v M its => v = S r.1 ∧ its = [.blk bp0 (.cells #[S r.2] 81)]) := by
  refine CtX.of Tryz.func56 (enters Tryz.func56 (by kernel_rfl) rfl) rfl rfl rfl ?_
  intro w0 M0 H hp
  have hp1 := hp
  unfold media_reader_take at h
  refine SQ (RG (AS rfl rfl (NL (TN (SQ ?_)))))
  obtain ⟨o1, hx2, h⟩ := bnd h
  refine RG (MV rfl rfl ?_)
  refine WR.callX (A := [.blk bp0 (.cells #[S p0] 81)]) (B := []) (H.pick (L' := [.blk bp0 (.cells #[S p0] 81)]) (by repeat first | exact kPn | refine kPc (by repeat first | exact .head | apply Rem.tail) ?_)) (media_reader_blanks_ct hx2) (.left (Spl.all _)) rfl trivial (Wn.none rfl) rfl ?_
  intro v8 M w its H hle hR
  replace hp1 := hp1.mono hle
  obtain ⟨rfl, rfl⟩ := hR
  simp only [List.cons_append, List.nil_append] at H
  refine NL (TN (SQ (RG (AS rfl rfl (NL (TN (SQ ?_)))))))
  obtain ⟨o3, e4, h⟩ := bnd h
  refine WC.cutX (fun e w => ∃ (n5 : Int) (M : Mem), e = [(0, ptr bp0 0), (5, I n5)] ∧ StX (feet [.blk bp0 (.cells #[S p0] 81)]) w0 M0 M [.blk bp0 (.cells #[S o1] 81)] w ∧ some n5 = some o3) [] ?_ ?_ (trivial)
  ·
   refine BL (WC.loopP (fun m e w => ∃ (n6 : Int) (M : Mem), e = [(0, ptr bp0 0), (1, vp1), (5, I n6)] ∧ StX (feet [.blk bp0 (.cells #[S p0] 81)]) w0 M0 M [.blk bp0 (.cells #[S o1] 81)] w ∧ FnT62 M vp1 p1 ∧ media_reader_take_L1 p1 o1 m n6 = some o3) FU [(0, _), (1, _), (5, _)] ⟨rfl, rfl, rfl, trivial⟩ ⟨_, _, rfl, H, hp1, e4⟩ ?_)
   rintro m7 e w ⟨n6, M, rfl, H, hp1, e4⟩
   rcases m7 with _ | m7
   · rw [media_reader_take_L1] at e4; cases e4
   rw [media_reader_take_L1] at e4
   refine SQ (SQ ?_)
   obtain ⟨o8, e9, e4⟩ := bnd e4
   refine WC.cutX (fun e w => ∃ (b10 : Bool) (M : Mem), e = [(0, ptr bp0 0), (1, vp1), (5, I n6), (25, Value.bool b10)] ∧ StX (feet [.blk bp0 (.cells #[S p0] 81)]) w0 M0 M [.blk bp0 (.cells #[S o1] 81)] w ∧ FnT62 M vp1 p1 ∧ some b10 = some o8) [] ?_ ?_ (trivial)
   ·
    refine RG (MV rfl rfl (MV rfl rfl (ST (Ex.nilCheckP rfl) rfl (ST (Ex.fieldAddr Tryz.underlying81 rfl Tryz.sizeOf9 (by decide) rfl) rfl (ST (Ex.load1 H rfl (by repeat first | exact kMh | apply kMt) Tryz.isAgg9 (by rfl)) rfl ?_)))))
    refine ST (Ex.lenStr Tryz.underlying9 rfl) rfl ?_
    by_cases hk11 : n6 < (o1.length : Int)
    ·
     rw [if_pos hk11] at e9
     obtain ⟨c12, hxc12, e9⟩ := bnd e9
     obtain ⟨b13, hx14, e9⟩ := bnd e9
     refine WR.stepE (v' := .bool true) (Ex.lss rfl rfl) (congrArg Value.bool (decide_eq_true hk11)) (Wn.none rfl) rfl rfl (MV rfl rfl (SG (Ex.move rfl) rfl rfl rfl (SG (Ex.move rfl) rfl rfl rfl (SG (Ex.nilCheckP rfl) rfl rfl rfl (SG (Ex.fieldAddr Tryz.underlying81 rfl Tryz.sizeOf9 (by decide) rfl) rfl rfl rfl (SG (Ex.load1 H rfl (by repeat first | exact kMh | apply kMt) Tryz.isAgg9 (by rfl)) rfl rfl rfl ?_))))))
     refine SG (Ex.move rfl) rfl rfl rfl (SG (Ex.idxStrC Tryz.underlying9 rfl rfl hxc12) rfl rfl rfl (WR.callF H (hp1 _ _ hx14) rfl rfl (Wn.some rfl rfl rfl) rfl ?_))
     intro v24 M w H hle hR
     replace hp1 := hp1.mono hle
     obtain rfl := hR
     refine PT rfl rfl rfl (NL ?_)
     exact WQ.meetN [(0, _), (1, _), (5, _), (25, _)] ⟨rfl, rfl, rfl, rfl, trivial⟩ ⟨_, _, rfl, H, hp1, e9⟩
    ·
     rw [if_neg hk11] at e9
     refine WR.stepE (v' := .bool false) (Ex.lss rfl rfl) (congrArg Value.bool (decide_eq_false hk11)) (Wn.none rfl) rfl rfl (MV rfl rfl (WR.skipN 8 rfl rfl (PF rfl rfl rfl (NL ?_))))
     exact WQ.meetN [(0, _), (1, _), (5, _), (25, _)] ⟨rfl, rfl, rfl, rfl, trivial⟩ ⟨_, _, rfl, H, hp1, e9⟩
   ·
    rintro e w ⟨b10, M, rfl, H, hp1, q15⟩
    obtain rfl := oI q15
    refine TN ?_
    refine WC.condB rfl (fun hk16 => ?_) (fun hk16 => ?_)
    ·
     subst hk16
     rw [if_pos rfl] at e4
     refine SK (TN (BL ?_))
     obtain ⟨n17, hxn17, e4⟩ := bnd e4
     refine RG (MV rfl rfl (ST (Ex.addC rfl rfl hxn17) rfl (AS rfl rfl (NL (IB ?_)))))
     exact WQ.againP m7 [(0, _), (1, _), (5, _)] ⟨rfl, rfl, rfl, trivial⟩ ⟨_, _, rfl, H, hp1, e4⟩ (Nat.lt_succ_self _)
    ·
     subst hk16
     rw [if_neg Bool.false_ne_true] at e4
     refine WC.exit (WQ.thenExit (WQ.thenExit (WQ.exitHere ?_)))
     exact WQ.meetN [(0, _), (5, _)] ⟨rfl, rfl, trivial⟩ ⟨_, _, rfl, H, e4⟩
  ·
   rintro e w ⟨n5, M, rfl, H, q18⟩
   obtain rfl := oI q18
   refine TN (SQ ?_)
   obtain ⟨s19, hxs19, h⟩ := bnd h
   refine RG (MV rfl rfl (ST (Ex.nilCheckP rfl) rfl (ST (Ex.fieldAddr Tryz.underlying81 rfl Tryz.sizeOf9 (by decide) rfl) rfl (ST (Ex.load1 H rfl (by repeat first | exact kMh | apply kMt) Tryz.isAgg9 (by rfl)) rfl ?_))))
   refine MV rfl rfl (ST (Ex.sliceH Tryz.underlying9 rfl rfl hxs19) rfl (AS rfl rfl (NL (TN (SQ ?_)))))
   obtain ⟨s20, hxs20, h⟩ := bnd h
   refine RG (MV rfl rfl (MV rfl rfl (ST (Ex.nilCheckP rfl) rfl (ST (Ex.fieldAddr Tryz.underlying81 rfl Tryz.sizeOf9 (by decide) rfl) rfl (ST (Ex.load1 H rfl (by repeat first | exact kMh | apply kMt) Tryz.isAgg9 (by rfl)) rfl ?_)))))
   refine MV rfl rfl (ST (Ex.sliceL Tryz.underlying9 rfl rfl hxs20) rfl (ST (Ex.nilCheckP rfl) rfl (ST (Ex.fieldAddr Tryz.underlying81 rfl Tryz.sizeOf9 (by decide) rfl) rfl (WR.store [_] H rfl rfl rfl (by repeat first | exact .head | apply Upd.tail) Tryz.sizeOf9 rfl (by rfl) (by rfl) (Wn.none rfl) ?_))))
   intro w H
   refine NL (TN (SQ (RG (MV rfl rfl (AS rfl rfl (NL (TN (RT ?_))))))))
   obtain rfl := oI h
   exact WQ.retX1 (its := [.blk bp0 (.cells #[S s20] 81)]) rfl rfl H (by repeat first | exact kPn | refine kPc (by repeat first | exact .head | apply Rem.tail) ?_) ⟨rfl, rfl⟩
theorem media_reader_sign_ct {p0 : List UInt8} {p1 : UInt8} {bp0 : Nat} {r : (Bool × List UInt8)} (h : media_reader_sign p0 p1 = some r) : CtX Tryz.prog 57 [ptr bp0 0, encB p1] [.blk bp0 (.cells #[S p0] 81)] (fun M => True) (fun v M its => v = Value.bool r.1 ∧ its = [.blk bp0 (.cells #[S r.2] 81)]) := by
  refine CtX.of Tryz.func57 (enters Tryz.func57 (by kernel_rfl) rfl) rfl rfl rfl ?_
  intro w0 M0 H hp
  unfold media_reader_sign at h
  refine SQ (RG (AS rfl rfl (NL (TN (SQ ?_)))))
  obtain ⟨o1, hx2, h⟩ := bnd h
  refine RG (MV rfl rfl ?_)
  refine WR.callX (A := [.blk bp0 (.cells #[S p0] 81)]) (B := []) (H.pick (L' := [.blk bp0 (.cells #[S p0] 81)]) (by repeat first | exact kPn | refine kPc (by repeat first | exact .head | apply Rem.tail) ?_)) (media_reader_blanks_ct hx2) (.left (Spl.all _)) rfl trivial (Wn.none rfl) rfl ?_
  intro v6 M w its H hle hR
  obtain ⟨rfl, rfl⟩ := hR
  simp only [List.cons_append, List.nil_append] at H
  refine NL (TN (SQ (SQ ?_)))
  obtain ⟨o3, e4, h⟩ := bnd h
  refine WC.cutX (fun e w => ∃ (b5 : Bool) (M : Mem), e = [(0, ptr bp0 0), (20, Value.bool b5)] ∧ StX (feet [.blk bp0 (.cells #[S p0] 81)]) w0 M0 M [.blk bp0 (.cells #[S o1] 81)] w ∧ some b5 = some o3) [] ?_ ?_ (trivial)
  ·
   refine RG (MV rfl rfl (ST (Ex.nilCheckP rfl) rfl (ST (Ex.fieldAddr Tryz.underlying81 rfl Tryz.sizeOf9 (by decide) rfl) rfl (ST (Ex.load1 H rfl (by repeat first | exact kMh | apply kMt) Tryz.isAgg9 (by rfl)) rfl ?_))))
   by_cases hk6 : o1 = []
   ·
    rw [if_pos hk6] at e4
    refine WR.stepE (v' := .bool true) (Ex.strEql rfl rfl) (congrArg Value.bool (decide_eq_true hk6)) (Wn.none rfl) rfl rfl (MV rfl rfl (WR.skipN 7 rfl rfl (PT rfl rfl rfl (NL ?_))))
    exact WQ.meetN [(0, _), (20, _)] ⟨rfl, rfl, trivial⟩ ⟨_, _, rfl, H, e4⟩
   ·
    rw [if_neg hk6] at e4
    obtain ⟨c7, hxc7, e4⟩ := bnd e4
    refine WR.stepE (v' := .bool false) (Ex.strEql rfl rfl) (congrArg Value.bool (decide_eq_false hk6)) (Wn.none rfl) rfl rfl (MV rfl rfl (SG (Ex.move rfl) rfl rfl rfl (SG (Ex.nilCheckP rfl) rfl rfl rfl (SG (Ex.fieldAddr Tryz.underlying81 rfl Tryz.sizeOf9 (by decide) rfl) rfl rfl rfl (SG (Ex.load1 H rfl (by repeat first | exact kMh | apply kMt) Tryz.isAgg9 (by rfl)) rfl rfl rfl ?_)))))
    refine SG (Ex.idxStrC Tryz.underlying9 rfl rfl hxc7) rfl rfl rfl (SG (Ex.move rfl) rfl rfl rfl (SG (Ex.neqB (c := c7) (d := p1) rfl rfl) rfl rfl rfl (PF rfl rfl rfl (NL ?_))))
    exact WQ.meetN [(0, _), (20, _)] ⟨rfl, rfl, trivial⟩ ⟨_, _, rfl, H, e4⟩
  ·
   rintro e w ⟨b5, M, rfl, H, q8⟩
   obtain rfl := oI q8
   refine TN ?_
   refine WC.condB rfl (fun hk9 => ?_) (fun hk9 => ?_)
   ·
    subst hk9
    rw [if_pos rfl] at h
    refine SQ (RG (AS rfl rfl (NL (TN (RT ?_)))))
    obtain rfl := oI h
    exact WQ.retX1 (its := [.blk bp0 (.cells #[S o1] 81)]) rfl rfl H (by repeat first | exact kPn | refine kPc (by repeat first | exact .head | apply Rem.tail) ?_) ⟨rfl, rfl⟩
   ·
    subst hk9
    rw [if_neg Bool.false_ne_true] at h
    refine SK (TN (SQ ?_))
    obtain ⟨s10, hxs10, h⟩ := bnd h
    refine RG (MV rfl rfl (MV rfl rfl (ST (Ex.nilCheckP rfl) rfl (ST (Ex.fieldAddr Tryz.underlying81 rfl Tryz.sizeOf9 (by decide) rfl) rfl (ST (Ex.load1 H rfl (by repeat first | exact kMh | apply kMt) Tryz.isAgg9 (by rfl)) rfl ?_)))))
    refine ST (Ex.sliceL Tryz.underlying9 rfl rfl hxs10) rfl (ST (Ex.nilCheckP rfl) rfl (ST (Ex.fieldAddr Tryz.underlying81 rfl Tryz.sizeOf9 (by decide) rfl) rfl (WR.store [_] H rfl rfl rfl (by repeat first | exact .head | apply Upd.tail) Tryz.sizeOf9 rfl (by rfl) (by rfl) (Wn.none rfl) ?_)))
    intro w H
    refine NL (TN (SQ (RG (AS rfl rfl (NL (TN (RT ?_)))))))
    obtain rfl := oI h
    exact WQ.retX1 (its := [.blk bp0 (.cells #[S s10] 81)]) rfl rfl H (by repeat first | exact kPn | refine kPc (by repeat first | exact .head | apply Rem.tail) ?_) ⟨rfl, rfl⟩
theorem media_reader_read_1_ct {p0 : UInt8} {r : Bool} (h : media_reader_read_1 p0 = some r) : Ct Tryz.prog 73 [encB p0] (fun M => True) (fun v M => v = Value.bool r) := by
  refine Ct.of Tryz.func73 (enters Tryz.func73 (by kernel_rfl) rfl) rfl rfl rfl ?_
  intro w0 M0 H hp
  unfold media_reader_read_1 at h
  refine SQ (RG (AS rfl rfl (NL (TN (SQ ?_)))))
  obtain ⟨o1, e2, h⟩ := bnd h
  refine WC.cutX (fun e w => ∃ (b3 : Bool) (M : Mem), e = [(2, Value.bool b3)] ∧ St w0 M0 M [] w ∧ some b3 = some o1) [] ?_ ?_ (trivial)
  ·
   obtain ⟨b4, hx5, e2⟩ := bnd e2
   refine RG (MV rfl rfl (WR.call H (media_tokenByte_ct hx5) rfl trivial (Wn.none rfl) rfl ?_))
   intro v4 M w H hle hR
   obtain rfl := hR
   refine MV rfl rfl ?_
   rcases b4 with _ | _
   ·
    rw [if_neg Bool.false_ne_true] at e2
    refine SG (Ex.move rfl) rfl rfl rfl (SG (Ex.eqlB (c := p0) (d := 42) rfl rfl) rfl rfl rfl (PF rfl rfl rfl (AS rfl rfl (NL ?_))))
    exact WQ.meetN [(2, _)] ⟨rfl, trivial⟩ ⟨_, _, rfl, H, e2⟩
   ·
    rw [if_pos rfl] at e2
    refine GT rfl rfl rfl (GT rfl rfl rfl (PT rfl rfl rfl (AS rfl rfl (NL ?_))))
    exact WQ.meetN [(2, _)] ⟨rfl, trivial⟩ ⟨_, _, rfl, H, e2⟩
  ·
   rintro e w ⟨b3, M, rfl, H, q6⟩
   obtain rfl := oI q6
   refine TN (RT ?_)
   obtain rfl := oI h
   exact WQ.ret1 rfl rfl H.ext rfl
theorem media_reader_value_1_ct {p0 : UInt8} {r : Bool} (h : media_reader_value_1 p0 = some r) : Ct Tryz.prog 87 [encB p0] (fun M => True) (fun v M => v = Value.bool r) := by
  refine Ct.of Tryz.func87 (enters Tryz.func87 (by kernel_rfl) rfl) rfl rfl rfl ?_
  intro w0 M0 H hp
  unfold media_reader_value_1 at h
  refine SQ (RG (AS rfl rfl (NL (TN (SQ ?_)))))
  obtain ⟨o1, e2, h⟩ := bnd h
  refine WC.cutX (fun e w => ∃ (b3 : Bool) (M : Mem), e = [(2, Value.bool b3)] ∧ St w0 M0 M [] w ∧ some b3 = some o1) [] ?_ ?_ (trivial)
  ·
   obtain ⟨b4, hx5, e2⟩ := bnd e2
   refine RG (MV rfl rfl (WR.call H (media_tokenByte_ct hx5) rfl trivial (Wn.none rfl) rfl ?_))
   intro v4 M w H hle hR
   obtain rfl := hR
   refine MV rfl rfl ?_
   rcases b4 with _ | _
   ·
    rw [if_neg Bool.false_ne_true] at e2
    by_cases hk6 : p0 = 37
    ·
     rw [if_pos hk6] at e2
     refine SG (Ex.move rfl) rfl rfl rfl (WR.stepE (v' := .bool true) (Ex.eqlB (c := p0) (d := 37) rfl rfl) (congrArg Value.bool (decide_eq_true hk6)) (Wn.some rfl rfl rfl) rfl rfl (PF rfl rfl rfl (MV rfl rfl (GT rfl rfl rfl (GT rfl rfl rfl (PT rfl rfl rfl (MV rfl rfl (GT rfl rfl rfl (GT rfl rfl rfl (PT rfl rfl rfl (AS rfl rfl (NL ?_))))))))))))
     exact WQ.meetN [(2, _)] ⟨rfl, trivial⟩ ⟨_, _, rfl, H, e2⟩
    ·
     rw [if_neg hk6] at e2
     refine SG (Ex.move rfl) rfl rfl rfl (WR.stepE (v' := .bool false) (Ex.eqlB (c := p0) (d := 37) rfl rfl) (congrArg Value.bool (decide_eq_false hk6)) (Wn.some rfl rfl rfl) rfl rfl ?_)
     by_cases hk7 : p0 = 39
     ·
      rw [if_pos hk7] at e2
      refine PF rfl rfl rfl (MV rfl rfl (SG (Ex.move rfl) rfl rfl rfl (WR.stepE (v' := .bool true) (Ex.eqlB (c := p0) (d := 39) rfl rfl) (congrArg Value.bool (decide_eq_true hk7)) (Wn.some rfl rfl rfl) rfl rfl (PF rfl rfl rfl (MV rfl rfl (GT rfl rfl rfl (GT rfl rfl rfl (PT rfl rfl rfl (AS rfl rfl (NL ?_))))))))))
      exact WQ.meetN [(2, _)] ⟨rfl, trivial⟩ ⟨_, _, rfl, H, e2⟩
     ·
      rw [if_neg hk7] at e2
      refine PF rfl rfl rfl (MV rfl rfl (SG (Ex.move rfl) rfl rfl rfl (WR.stepE (v' := .bool false) (Ex.eqlB (c := p0) (d := 39) rfl rfl) (congrArg Value.bool (decide_eq_false hk7)) (Wn.some rfl rfl rfl) rfl rfl (PF rfl rfl rfl (MV rfl rfl (SG (Ex.move rfl) rfl rfl rfl (SG (Ex.eqlB (c := p0) (d := 42) rfl rfl) rfl rfl rfl (PF rfl rfl rfl (AS rfl rfl (NL ?_))))))))))
      exact WQ.meetN [(2, _)] ⟨rfl, trivial⟩ ⟨_, _, rfl, H, e2⟩
   ·
    rw [if_pos rfl] at e2
    refine GT rfl rfl rfl (GT rfl rfl rfl (PT rfl rfl rfl (MV rfl rfl (GT rfl rfl rfl (GT rfl rfl rfl (PT rfl rfl rfl (MV rfl rfl (GT rfl rfl rfl (GT rfl rfl rfl (PT rfl rfl rfl (AS rfl rfl (NL ?_))))))))))))
    exact WQ.meetN [(2, _)] ⟨rfl, trivial⟩ ⟨_, _, rfl, H, e2⟩
  ·
   rintro e w ⟨b3, M, rfl, H, q8⟩
   obtain rfl := oI q8
   refine TN (RT ?_)
   obtain rfl := oI h
   exact WQ.ret1 rfl rfl H.ext rfl
theorem media_reader_value_ct {p0 : List UInt8} {bp0 : Nat} {r : (List UInt8 × Bool × List UInt8)} (h : media_reader_value p0 = some r) : CtX Tryz.prog 74 [ptr bp0 0] [.blk bp0 (.cells #[S p0] 81)] (fun M => True) (fun v M its => v = Value.tuple #[S r.1, Value.bool r.2.1] ∧ its = [.blk bp0 (.cells #[S r.2.2] 81)]) := by
  refine CtX.of Tryz.func74 (enters Tryz.func74 (by kernel_rfl) rfl) rfl rfl rfl ?_
  intro w0 M0 H hp
  unfold media_reader_value at h
  refine SQ (RG (AS rfl rfl (AS rfl rfl (NL (TN (SQ (SQ ?_)))))))
  obtain ⟨⟨b1, o2⟩, hx3, h⟩ := bnd h
  try dsimp only at h
  refine RG (MV rfl rfl ?_)
  refine WR.callX (A := [.blk bp0 (.cells #[S p0] 81)]) (B := []) (H.pick (L' := [.blk bp0 (.cells #[S p0] 81)]) (by repeat first | exact kPn | refine kPc (by repeat first | exact .head | apply Rem.tail) ?_)) (media_reader_sign_ct hx3) (.left (Spl.all _)) rfl trivial (Wn.none rfl) rfl ?_
  intro v8 M w its H hle hR
  try dsimp only at hR
  obtain ⟨rfl, rfl⟩ := hR
  simp only [List.cons_append, List.nil_append] at H
  refine ST (Ex.not rfl) rfl (NL (TN ?_))
  refine WC.condB rfl (fun hk4 => ?_) (fun hk4 => ?_)
  ·
   replace hk4 : b1 = false := by simpa using hk4
   subst hk4
   rw [if_neg Bool.false_ne_true] at h
   refine SQ ?_
   obtain ⟨⟨s5, o6⟩, hx7, h⟩ := bnd h
   try dsimp only at h
   refine RG (MV rfl rfl ?_)
   refine WR.callX (A := [.blk bp0 (.cells #[S o2] 81)]) (B := []) (H.pick (L' := [.blk bp0 (.cells #[S o2] 81)]) (by repeat first | exact kPn | refine kPc (by repeat first | exact .head | apply Rem.tail) ?_)) (media_reader_take_ct hx7) (.left (Spl.all _)) rfl ((fun _ _ h => FnV.of (media_reader_value_1_ct h) (fun _ _ => trivial))) (Wn.none rfl) rfl ?_
   intro v11 M w its H hle hR
   try dsimp only at hR
   obtain ⟨rfl, rfl⟩ := hR
   simp only [List.cons_append, List.nil_append] at H
   refine AS rfl rfl (AS rfl rfl (NL (TN (RT ?_))))
   obtain rfl := oI h
   exact WQ.retX2 (its := [.blk bp0 (.cells #[S o6] 81)]) rfl rfl rfl H (by repeat first | exact kPn | refine kPc (by repeat first | exact .head | apply Rem.tail) ?_) ⟨rfl, rfl⟩
  ·
   replace hk4 : b1 = true := by simpa using hk4
   subst hk4
   rw [if_pos rfl] at h
   refine SK (TN (SQ (RG (AS rfl rfl (NL (TN (SQ (SQ (RG (AS rfl rfl (NL (TN ?_))))))))))))
   obtain ⟨o8, e9, h⟩ := bnd h
   refine WC.cutX (fun e w => ∃ (s10 : List UInt8) (M : Mem), e = [] ∧ StX (feet [.blk bp0 (.cells #[S p0] 81)]) w0 M0 M [.blk bp0 (.cells #[S s10] 81)] w ∧ some (.inl s10) = some o8) [] ?_ ?_ (trivial)
   ·
    refine BL ?_
    replace H := H.newRow 5 encB
    refine WC.loopP (fun m e w => ∃ (s11 : List UInt8) (l13 : List UInt8) (v14 : Value) (n15 : Int) (M : Mem), e = [(0, ptr bp0 0), (4, v14), (5, I n15)] ∧ StX (feet [.blk bp0 (.cells #[S p0] 81)]) w0 M0 M [.blk bp0 (.cells #[S s11] 81), RowI 5 encB v14 l13] w ∧ media_reader_value_L1  m s11 l13 n15 = some o8) FU [(0, _), (4, _), (5, _)] ⟨rfl, rfl, rfl, trivial⟩ ⟨_, _, _, _, _, rfl, (H.pick (L' := [.blk bp0 (.cells #[S o2] 81), RowI 5 encB (Value.slice none 0 0) []]) (by repeat first | exact kPn | refine kPc (by repeat first | exact .head | apply Rem.tail) ?_)), e9⟩ ?_
    rintro m16 e w ⟨s11, l13, v14, n15, M, rfl, H, e9⟩
    rcases m16 with _ | m16
    · rw [media_reader_value_L1] at e9; cases e9
    rw [media_reader_value_L1] at e9
    refine SQ (SQ (RG (MV rfl rfl (MV rfl rfl (ST (Ex.nilCheckP rfl) rfl (ST (Ex.fieldAddr Tryz.underlying81 rfl Tryz.sizeOf9 (by decide) rfl) rfl (ST (Ex.load1 H rfl (by repeat first | exact kMh | apply kMt) Tryz.isAgg9 (by rfl)) rfl ?_)))))))
    refine ST (Ex.lenStr Tryz.underlying9 rfl) rfl (ST (Ex.lss rfl rfl) rfl (NL (TN ?_)))
    refine WC.condB rfl (fun hk18 => ?_) (fun hk18 => ?_)
    ·
     replace hk18 : n15 < (s11.length : Int) := of_decide_eq_true hk18
     rw [if_pos hk18] at e9
     refine SK (TN (SQ (BL (SQ ?_))))
     obtain ⟨c19, hxc19, e9⟩ := bnd e9
     refine RG (MV rfl rfl (ST (Ex.nilCheckP rfl) rfl (ST (Ex.fieldAddr Tryz.underlying81 rfl Tryz.sizeOf9 (by decide) rfl) rfl (ST (Ex.load1 H rfl (by repeat first | exact kMh | apply kMt) Tryz.isAgg9 (by rfl)) rfl ?_))))
     refine MV rfl rfl (ST (Ex.idxStrC Tryz.underlying9 rfl rfl hxc19) rfl (AS rfl rfl (NL (TN (SQ (RG (MV rfl rfl (NL (TN (BL (SQ (RG (ST (Ex.eqlB (c := c19) (d := 34) rfl rfl) rfl (AS rfl rfl (NL (TN ?_))))))))))))))))
     refine WC.condB rfl (fun hk20 => ?_) (fun hk20 => ?_)
     ·
      replace hk20 : c19 = 34 := of_decide_eq_true hk20
      rw [if_pos hk20] at e9
      refine SQ ?_
      obtain ⟨n21, hxn21, e9⟩ := bnd e9
      obtain ⟨s22, hxs22, e9⟩ := bnd e9
      refine RG (MV rfl rfl (MV rfl rfl (ST (Ex.nilCheckP rfl) rfl (ST (Ex.fieldAddr Tryz.underlying81 rfl Tryz.sizeOf9 (by decide) rfl) rfl (ST (Ex.load1 H rfl (by repeat first | exact kMh | apply kMt) Tryz.isAgg9 (by rfl)) rfl ?_)))))
      refine MV rfl rfl (ST (Ex.addC rfl rfl hxn21) rfl (ST (Ex.sliceL Tryz.underlying9 rfl rfl hxs22) rfl (ST (Ex.nilCheckP rfl) rfl (ST (Ex.fieldAddr Tryz.underlying81 rfl Tryz.sizeOf9 (by decide) rfl) rfl (WR.store [_] H rfl rfl rfl (by repeat first | exact .head | apply Upd.tail) Tryz.sizeOf9 rfl (by rfl) (by rfl) (Wn.none rfl) ?_)))))
      intro w H
      refine NL (TN (SQ (RG (MV rfl rfl ?_))))
      obtain ⟨M, hle, hs23, H⟩ := H.freezeRowN (v := v14) (enc := encB) (t := 5) (by repeat first | exact .head | apply Rem.tail) ⟨⟨_, (by repeat first | exact kMh | apply kMt)⟩, trivial⟩
      refine ST (Ex.toStr Tryz.underlying93 Tryz.underlying5 Tryz.underlying9 H (hs23) rfl) rfl (AS rfl rfl (AS rfl rfl (NL (TN (RT ?_)))))
      obtain rfl := oI e9
      try dsimp only at h
      obtain rfl := oI h
      exact WQ.retX2 (its := [.blk bp0 (.cells #[S s22] 81)]) rfl rfl rfl H (by repeat first | exact kPn | refine kPc (by repeat first | exact .head | apply Rem.tail) ?_) ⟨rfl, rfl⟩
     ·
      replace hk20 : ¬ (c19 = 34) := of_decide_eq_false hk20
      rw [if_neg hk20] at e9
      refine SQ (RG (ST (Ex.eqlB (c := c19) (d := 92) rfl rfl) rfl (AS rfl rfl (NL (TN ?_)))))
      refine WC.condB rfl (fun hk24 => ?_) (fun hk24 => ?_)
      ·
       replace hk24 : c19 = 92 := of_decide_eq_true hk24
       rw [if_pos hk24] at e9
       refine SQ (SQ ?_)
       obtain ⟨n25, hxn25, e9⟩ := bnd e9
       refine RG (MV rfl rfl (ST (Ex.addC rfl rfl hxn25) rfl (AS rfl rfl (NL (TN (SQ (RG (MV rfl rfl (MV rfl rfl (ST (Ex.nilCheckP rfl) rfl (ST (Ex.fieldAddr Tryz.underlying81 rfl Tryz.sizeOf9 (by decide) rfl) rfl (ST (Ex.load1 H rfl (by repeat first | exact kMh | apply kMt) Tryz.isAgg9 (by rfl)) rfl ?_))))))))))))
       refine ST (Ex.lenStr Tryz.underlying9 rfl) rfl (ST (Ex.eql rfl rfl) rfl (NL (TN ?_)))
       refine WC.condB rfl (fun hk26 => ?_) (fun hk26 => ?_)
       ·
        replace hk26 : n25 = (s11.length : Int) := of_decide_eq_true hk26
        rw [if_pos hk26] at e9
        refine SQ (RG (AS rfl rfl (AS rfl rfl (NL (TN (RT ?_))))))
        obtain rfl := oI e9
        try dsimp only at h
        obtain rfl := oI h
        exact WQ.retX2 (its := [.blk bp0 (.cells #[S s11] 81)]) rfl rfl rfl H (by repeat first | exact kPn | refine kPc (by repeat first | exact .head | apply Rem.tail) ?_) ⟨rfl, rfl⟩
       ·
        replace hk26 : ¬ (n25 = (s11.length : Int)) := of_decide_eq_false hk26
        rw [if_neg hk26] at e9
        refine SK (TN ?_)
        obtain ⟨c27, hxc27, e9⟩ := bnd e9
        obtain ⟨l28, hxl28, e9⟩ := bnd e9
        refine RG (MV rfl rfl (MV rfl rfl (ST (Ex.nilCheckP rfl) rfl (ST (Ex.fieldAddr Tryz.underlying81 rfl Tryz.sizeOf9 (by decide) rfl) rfl (ST (Ex.load1 H rfl (by repeat first | exact kMh | apply kMt) Tryz.isAgg9 (by rfl)) rfl ?_)))))
        refine MV rfl rfl (ST (Ex.idxStrC Tryz.underlying9 rfl rfl hxc27) rfl (WR.lit (enc := encB) xty93 ([c27] : List UInt8) H rfl (by rfl) (fun _ => rfl) rfl rfl (Wn.none rfl) rfl ?_))
        intro v64 M w H hle hs64
        refine WR.appC (l := l13) xty93 rfl (fun _ => rfl) H rfl (fun _ => by repeat first | exact .head | apply Upd.tail) rfl (hs64) hxl28 (Wn.none rfl) rfl ?_
        intro v65 w H
        refine AS rfl rfl (NL (IB (IB (TN ?_))))
        obtain ⟨n29, hxn29, e9⟩ := bnd e9
        refine RG (MV rfl rfl (ST (Ex.addC rfl rfl hxn29) rfl (AS rfl rfl (NL ?_))))
        exact WQ.againP m16 [(0, _), (4, _), (5, _)] ⟨rfl, rfl, rfl, trivial⟩ ⟨_, _, _, _, _, rfl, H, e9⟩ (Nat.lt_succ_self _)
      ·
       replace hk24 : ¬ (c19 = 92) := of_decide_eq_false hk24
       rw [if_neg hk24] at e9
       obtain ⟨l30, hxl30, e9⟩ := bnd e9
       refine RG (MV rfl rfl (MV rfl rfl (WR.lit (enc := encB) xty93 ([c19] : List UInt8) H rfl (by rfl) (fun _ => rfl) rfl rfl (Wn.none rfl) rfl ?_)))
       intro v30 M w H hle hs30
       refine WR.appC (l := l13) xty93 rfl (fun _ => rfl) H rfl (fun _ => by repeat first | exact .head | apply Upd.tail) rfl (hs30) hxl30 (Wn.none rfl) rfl ?_
       intro v31 w H
       refine AS rfl rfl (NL (IB (IB (TN ?_))))
       obtain ⟨n31, hxn31, e9⟩ := bnd e9
       refine RG (MV rfl rfl (ST (Ex.addC rfl rfl hxn31) rfl (AS rfl rfl (NL ?_))))
       exact WQ.againP m16 [(0, _), (4, _), (5, _)] ⟨rfl, rfl, rfl, trivial⟩ ⟨_, _, _, _, _, rfl, H, e9⟩ (Nat.lt_succ_self _)
    ·
     replace hk18 : ¬ (n15 < (s11.length : Int)) := of_decide_eq_false hk18
     rw [if_neg hk18] at e9
     refine WC.exit (WQ.thenExit (WQ.thenExit (WQ.exitHere ?_)))
     exact WQ.meetN [] trivial ⟨_, _, rfl, (H.pick (L' := [.blk bp0 (.cells #[S s11] 81)]) (by repeat first | exact kPn | refine kPc (by repeat first | exact .head | apply Rem.tail) ?_)), e9⟩
   ·
    rintro e w ⟨s10, M, rfl, H, q32⟩
    obtain rfl := oI q32
    try dsimp only at h
    refine TN (SQ (RG (AS rfl rfl (AS rfl rfl (NL (TN (RT ?_)))))))
    obtain rfl := oI h
    exact WQ.retX2 (its := [.blk bp0 (.cells #[S s10] 81)]) rfl rfl rfl H (by repeat first | exact kPn | refine kPc (by repeat first | exact .head | apply Rem.tail) ?_) ⟨rfl, rfl⟩
theorem stringslite_Cut_ct {p0 : List UInt8} {p1 : List UInt8} {r : (List UInt8 × List UInt8 × Bool)} (h : stringslite_Cut p0 p1 = some r) : Ct Tryz.prog 88 [S p0, S p1] (fun M => GlF (fun w => ∃ m, w.cell? ⟨2, 0, none⟩ = some (.int .i64 m)) M) (fun v M => v = Value.tuple #[S r.1, S r.2.1, Value.bool r.2.2]) := by
  refine Ct.of Tryz.func88 (enters Tryz.func88 (by kernel_rfl) rfl) rfl rfl rfl ?_
  intro w0 M0 H hp
  have hg_maxl := hp
  unfold stringslite_Cut at h
  refine SQ (RG (AS rfl rfl (AS rfl rfl (AS rfl rfl (NL (TN (SQ (SQ ?_))))))))
  obtain ⟨n1, hx2, h⟩ := bnd h
  refine RG (MV rfl rfl (MV rfl rfl (WR.call H (stringslite_Index_ct hx2) rfl (hg_maxl) (Wn.none rfl) rfl ?_)))
  intro v10 M w H hle hR
  replace hg_maxl := hg_maxl.mono hle
  obtain rfl := hR
  refine AS rfl rfl (NL (TN (SQ (RG (MV rfl rfl (ST (Ex.geq rfl rfl) rfl (NL (TN ?_))))))))
  refine WC.condB rfl (fun hk3 => ?_) (fun hk3 => ?_)
  ·
   replace hk3 : (0 : Int) ≤ n1 := of_decide_eq_true hk3
   rw [if_pos hk3] at h
   refine SQ ?_
   obtain ⟨s4, hxs4, h⟩ := bnd h
   obtain ⟨n5, hxn5, h⟩ := bnd h
   obtain ⟨s6, hxs6, h⟩ := bnd h
   refine WC.draw (m := 12) rfl rfl H ?_
   intro w H
   refine WA.take (i := 0) rfl (by kernel_rfl) (by kernel_rfl) (by kernel_rfl) (fun _ => Ex.move rfl) (Wn.none rfl) rfl rfl (fun _ _ => rfl) (WA.take (i := 1) rfl (by kernel_rfl) (by kernel_rfl) (by kernel_rfl) (fun _ => Ex.move rfl) (Wn.none rfl) rfl rfl (fun _ _ => rfl) (WA.take (i := 2) rfl (by kernel_rfl) (by kernel_rfl) (by kernel_rfl) (fun _ => Ex.sliceH Tryz.underlying9 rfl rfl hxs4) (Wn.none rfl) rfl rfl (fun _ _ => rfl) (WA.take (i := 3) rfl (by kernel_rfl) (by kernel_rfl) (by kernel_rfl) (fun _ => Ex.move rfl) (Wn.none rfl) rfl rfl (fun _ _ => rfl) (WA.take (i := 4) rfl (by kernel_rfl) (by kernel_rfl) (by kernel_rfl) (fun _ => Ex.move rfl) (Wn.none rfl) rfl rfl (fun _ _ => rfl) (WA.take (i := 5) rfl (by kernel_rfl) (by kernel_rfl) (by kernel_rfl) (fun _ => Ex.move rfl) (Wn.none rfl) rfl rfl (fun _ _ => rfl) (WA.take (i := 6) rfl (by kernel_rfl) (by kernel_rfl) (by kernel_rfl) (fun _ => Ex.lenStr Tryz.underlying9 rfl) (Wn.none rfl) rfl rfl (fun _ _ => rfl) ?_))))))
   refine WA.take (i := 7) rfl (by kernel_rfl) (by kernel_rfl) (by kernel_rfl) (fun _ => Ex.addC rfl rfl hxn5) (Wn.none rfl) rfl rfl (fun _ _ => rfl) (WA.take (i := 8) rfl (by kernel_rfl) (by kernel_rfl) (by kernel_rfl) (fun _ => Ex.sliceL Tryz.underlying9 rfl rfl hxs6) (Wn.none rfl) rfl rfl (fun _ _ => rfl) (WA.seq (fuel := 0) [9, 10, 11] rfl (by kernel_rfl) (AS rfl rfl (AS rfl rfl (AS rfl rfl (NA (WA.done (by kernel_rfl) (TN (RT ?_)))))))))
   obtain rfl := oI h
   exact WQ.ret3 rfl rfl rfl rfl H.ext rfl
  ·
   replace hk3 : ¬ ((0 : Int) ≤ n1) := of_decide_eq_false hk3
   rw [if_neg hk3] at h
   refine SK (TN (SQ (RG (MV rfl rfl (AS rfl rfl (AS rfl rfl (AS rfl rfl (NL (TN (RT ?_))))))))))
   obtain rfl := oI h
   exact WQ.ret3 rfl rfl rfl rfl H.ext rfl
theorem strings_Cut_ct {p0 : List UInt8} {p1 : List UInt8} {r : (List UInt8 × List UInt8 × Bool)} (h : strings_Cut p0 p1 = some r) : Ct Tryz.prog 75 [S p0, S p1] (fun M => GlF (fun w => ∃ m, w.cell? ⟨2, 0, none⟩ = some (.int .i64 m)) M) (fun v M => v = Value.tuple #[S r.1, S r.2.1, Value.bool r.2.2]) := by
  refine Ct.of Tryz.func75 (enters Tryz.func75 (by kernel_rfl) rfl) rfl rfl rfl ?_
  intro w0 M0 H hp
  have hg_maxl := hp
  unfold strings_Cut at h
  refine SQ (RG (AS rfl rfl (AS rfl rfl (AS rfl rfl (NL (TN (SQ ?_)))))))
  obtain ⟨⟨s1, s2, b3⟩, hx4, h⟩ := bnd h
  try dsimp only at h
  refine RG (MV rfl rfl (MV rfl rfl (WR.call H (stringslite_Cut_ct hx4) rfl (hg_maxl) (Wn.none rfl) rfl ?_)))
  intro v9 M w H hle hR
  replace hg_maxl := hg_maxl.mono hle
  try dsimp only at hR
  obtain rfl := hR
  refine ST (Ex.extract rfl rfl) rfl (ST (Ex.extract rfl rfl) rfl (ST (Ex.extract rfl rfl) rfl (AS rfl rfl (AS rfl rfl (AS rfl rfl (NL (TN (RT ?_))))))))
  obtain rfl := oI h
  exact WQ.ret3 rfl rfl rfl rfl H.ext rfl
theorem stringslite_HasSuffix_ct {p0 : List UInt8} {p1 : List UInt8} {r : Bool} (h : stringslite_HasSuffix p0 p1 = some r) : Ct Tryz.prog 112 [S p0, S p1] (fun M => True) (fun v M => v = Value.bool r) := by
  refine Ct.of Tryz.func112 (enters Tryz.func112 (by kernel_rfl) rfl) rfl rfl rfl ?_
  intro w0 M0 H hp
  unfold stringslite_HasSuffix at h
  refine SQ (RG (AS rfl rfl (NL (TN (SQ ?_)))))
  obtain ⟨o1, e2, h⟩ := bnd h
  refine WC.cutX (fun e w => ∃ (b3 : Bool) (M : Mem), e = [(4, Value.bool b3)] ∧ St w0 M0 M [] w ∧ some b3 = some o1) [] ?_ ?_ (trivial)
  ·
   refine RG (MV rfl rfl (ST (Ex.lenStr Tryz.underlying9 rfl) rfl (MV rfl rfl (ST (Ex.lenStr Tryz.underlying9 rfl) rfl ?_))))
   by_cases hk4 : (p1.length : Int) ≤ (p0.length : Int)
   ·
    rw [if_pos hk4] at e2
    obtain ⟨n5, hxn5, e2⟩ := bnd e2
    obtain ⟨s6, hxs6, e2⟩ := bnd e2
    refine WR.stepE (v' := .bool true) (Ex.geq rfl rfl) (congrArg Value.bool (decide_eq_true hk4)) (Wn.none rfl) rfl rfl (MV rfl rfl (SG (Ex.move rfl) rfl rfl rfl (SG (Ex.move rfl) rfl rfl rfl (SG (Ex.lenStr Tryz.underlying9 rfl) rfl rfl rfl (SG (Ex.move rfl) rfl rfl rfl (SG (Ex.lenStr Tryz.underlying9 rfl) rfl rfl rfl (SG (Ex.subC rfl rfl hxn5) rfl rfl rfl (SG (Ex.sliceL Tryz.underlying9 rfl rfl hxs6) rfl rfl rfl (SG (Ex.move rfl) rfl rfl rfl (SG (Ex.strEql rfl rfl) rfl rfl rfl (PT rfl rfl rfl (AS rfl rfl (NL ?_)))))))))))))
    exact WQ.meetN [(4, _)] ⟨rfl, trivial⟩ ⟨_, _, rfl, H, e2⟩
   ·
    rw [if_neg hk4] at e2
    refine WR.stepE (v' := .bool false) (Ex.geq rfl rfl) (congrArg Value.bool (decide_eq_false hk4)) (Wn.none rfl) rfl rfl (MV rfl rfl (WR.skipN 9 rfl rfl (PF rfl rfl rfl (AS rfl rfl (NL ?_)))))
    exact WQ.meetN [(4, _)] ⟨rfl, trivial⟩ ⟨_, _, rfl, H, e2⟩
  ·
   rintro e w ⟨b3, M, rfl, H, q7⟩
   obtain rfl := oI q7
   refine TN (RT ?_)
   obtain rfl := oI h
   exact WQ.ret1 rfl rfl H.ext rfl
theorem stringslite_CutSuffix_ct {p0 : List UInt8} {p1 : List UInt8} {r : (List UInt8 × Bool)} (h : stringslite_CutSuffix p0 p1 = some r) : Ct Tryz.prog 89 [S p0, S p1] (fun M => True) (fun v M => v = Value.tuple #[S r.1, Value.bool r.2]) := by
  refine Ct.of Tryz.func89 (enters Tryz.func89 (by kernel_rfl) rfl) rfl rfl rfl ?_
  intro w0 M0 H hp
  unfold stringslite_CutSuffix at h
  refine SQ (RG (AS rfl rfl (AS rfl rfl (NL (TN (SQ (SQ ?_)))))))
  obtain ⟨b1, hx2, h⟩ := bnd h
  refine RG (MV rfl rfl (MV rfl rfl (WR.call H (stringslite_HasSuffix_ct hx2) rfl trivial (Wn.none rfl) rfl ?_)))
  intro v8 M w H hle hR
  obtain rfl := hR
  refine ST (Ex.not rfl) rfl (NL (TN ?_))
  refine WC.condB rfl (fun hk3 => ?_) (fun hk3 => ?_)
  ·
   replace hk3 : b1 = false := by simpa using hk3
   subst hk3
   rw [if_neg Bool.false_ne_true] at h
   refine SQ (RG (MV rfl rfl (AS rfl rfl (AS rfl rfl (NL (TN (RT ?_)))))))
   obtain rfl := oI h
   exact WQ.ret2 rfl rfl rfl H.ext rfl
  ·
   replace hk3 : b1 = true := by simpa using hk3
   subst hk3
   rw [if_pos rfl] at h
   refine SK (TN (SQ ?_))
   obtain ⟨n4, hxn4, h⟩ := bnd h
   obtain ⟨s5, hxs5, h⟩ := bnd h
   refine RG (MV rfl rfl (MV rfl rfl (ST (Ex.lenStr Tryz.underlying9 rfl) rfl (MV rfl rfl (ST (Ex.lenStr Tryz.underlying9 rfl) rfl (ST (Ex.subC rfl rfl hxn4) rfl (ST (Ex.sliceH Tryz.underlying9 rfl rfl hxs5) rfl (AS rfl rfl (AS rfl rfl (NL (TN (RT ?_))))))))))))
   obtain rfl := oI h
   exact WQ.ret2 rfl rfl rfl H.ext rfl
theorem strings_CutSuffix_ct {p0 : List UInt8} {p1 : List UInt8} {r : (List UInt8 × Bool)} (h : strings_CutSuffix p0 p1 = some r) : Ct Tryz.prog 76 [S p0, S p1] (fun M => True) (fun v M => v = Value.tuple #[S r.1, Value.bool r.2]) := by
  refine Ct.of Tryz.func76 (enters Tryz.func76 (by kernel_rfl) rfl) rfl rfl rfl ?_
  intro w0 M0 H hp
  unfold strings_CutSuffix at h
  refine SQ (RG (AS rfl rfl (AS rfl rfl (NL (TN (SQ ?_))))))
  obtain ⟨⟨s1, b2⟩, hx3, h⟩ := bnd h
  try dsimp only at h
  refine RG (MV rfl rfl (MV rfl rfl (WR.call H (stringslite_CutSuffix_ct hx3) rfl trivial (Wn.none rfl) rfl ?_)))
  intro v8 M w H hle hR
  try dsimp only at hR
  obtain rfl := hR
  refine ST (Ex.extract rfl rfl) rfl (ST (Ex.extract rfl rfl) rfl (AS rfl rfl (AS rfl rfl (NL (TN (RT ?_))))))
  obtain rfl := oI h
  exact WQ.ret2 rfl rfl rfl H.ext rfl
theorem basic_Number_ct {p0 : List UInt8} {p1 : Int} {r : (Int × Bool)} (h : basic_Number p0 p1 = some r) : Ct Tryz.prog 77 [S p0, I p1] (fun M => GlF (fun w => ∃ tp p, w.var? Tryz.prog "strconv.ErrRange" = some #[.iface tp p]) M ∧ GlF (fun w => ∃ tp p, w.var? Tryz.prog "strconv.ErrSyntax" = some #[.iface tp p]) M ∧ GlF (fun w => Lib.TabIs Tryz.prog w "internal/strconv.uint64pow10" .u64 Lib.pow10Tab) M) (fun v M => v = Value.tuple #[I r.1, Value.bool r.2]) := by
  refine Ct.of Tryz.func77 (enters Tryz.func77 (by kernel_rfl) rfl) rfl rfl rfl ?_
  intro w0 M0 H hp
  obtain ⟨hg_errR, hg_errS, hg_pow10⟩ := hp
  unfold basic_Number at h
  refine SQ (RG (AS rfl rfl (AS rfl rfl (NL (TN (SQ ?_))))))
  obtain ⟨⟨n1, b2⟩, hx3, h⟩ := bnd h
  try dsimp only at h
  refine RG (MV rfl rfl (WR.call H (strconv_Atoi_ct hx3) rfl ⟨hg_errR, hg_errS⟩ (Wn.none rfl) rfl ?_))
  intro v10 M w H hle hR
  replace hg_errR := hg_errR.mono hle
  replace hg_errS := hg_errS.mono hle
  replace hg_pow10 := hg_pow10.mono hle
  try dsimp only at hR
  obtain ⟨x10_1, rfl, f10_1⟩ := hR
  refine MV rfl rfl (ST (Ex.extract rfl rfl) rfl (ST (Ex.extract rfl rfl) rfl (AS rfl rfl (AS rfl rfl (NL (TN (SQ (SQ ?_))))))))
  obtain ⟨o4, e5, h⟩ := bnd h
  refine WC.cutX (fun e w => ∃ (b6 : Bool) (M : Mem), e = [(6, I n1), (29, Value.bool b6)] ∧ St w0 M0 M [] w ∧ GlF (fun w => ∃ tp p, w.var? Tryz.prog "strconv.ErrRange" = some #[.iface tp p]) M ∧ GlF (fun w => ∃ tp p, w.var? Tryz.prog "strconv.ErrSyntax" = some #[.iface tp p]) M ∧ GlF (fun w => Lib.TabIs Tryz.prog w "internal/strconv.uint64pow10" .u64 Lib.pow10Tab) M ∧ some b6 = some o4) [] ?_ ?_ (trivial)
  ·
   refine RG (MV rfl rfl (ST (Ex.neqNil Tryz.underlying131 f10_1 rfl) rfl (MV rfl rfl ?_)))
   rcases b2 with _ | _
   ·
    rw [if_neg Bool.false_ne_true] at e5
    refine WR.skipN 4 rfl rfl (PT rfl rfl rfl (MV rfl rfl (GT rfl rfl rfl (GT rfl rfl rfl (PT rfl rfl rfl (MV rfl rfl (WR.skipN 3 rfl rfl (PT rfl rfl rfl (NL ?_)))))))))
    exact WQ.meetN [(6, _), (29, _)] ⟨rfl, rfl, trivial⟩ ⟨_, _, rfl, H, hg_errR, hg_errS, hg_pow10, e5⟩
   ·
    rw [if_pos rfl] at e5
    obtain ⟨s7, hx8, e5⟩ := bnd e5
    refine SG (Ex.move rfl) rfl rfl rfl (WR.call H (strconv_Itoa_ct hx8) rfl (hg_pow10) (Wn.some rfl rfl rfl) rfl ?_)
    intro v17 M w H hle hR
    replace hg_errR := hg_errR.mono hle
    replace hg_errS := hg_errS.mono hle
    replace hg_pow10 := hg_pow10.mono hle
    replace f10_1 := f10_1.mono hle
    obtain rfl := hR
    refine SG (Ex.move rfl) rfl rfl rfl ?_
    by_cases hk9 : s7 = p0
    ·
     rw [if_pos hk9] at e5
     by_cases hk10 : n1 < (0 : Int)
     ·
      rw [if_pos hk10] at e5
      refine WR.stepE (v' := .bool false) (Ex.strNeqC rfl rfl) (congrArg Value.bool (by rw [decide_eq_true hk9]; rfl)) (Wn.some rfl rfl rfl) rfl rfl ?_
      refine PF rfl rfl rfl (MV rfl rfl (SG (Ex.move rfl) rfl rfl rfl (WR.stepE (v' := .bool true) (Ex.lss rfl rfl) (congrArg Value.bool (decide_eq_true hk10)) (Wn.some rfl rfl rfl) rfl rfl (PF rfl rfl rfl (MV rfl rfl (WR.skipN 3 rfl rfl (PT rfl rfl rfl (NL ?_))))))))
      exact WQ.meetN [(6, _), (29, _)] ⟨rfl, rfl, trivial⟩ ⟨_, _, rfl, H, hg_errR, hg_errS, hg_pow10, e5⟩
     ·
      rw [if_neg hk10] at e5
      refine WR.stepE (v' := .bool false) (Ex.strNeqC rfl rfl) (congrArg Value.bool (by rw [decide_eq_true hk9]; rfl)) (Wn.some rfl rfl rfl) rfl rfl ?_
      refine PF rfl rfl rfl (MV rfl rfl (SG (Ex.move rfl) rfl rfl rfl (WR.stepE (v' := .bool false) (Ex.lss rfl rfl) (congrArg Value.bool (decide_eq_false hk10)) (Wn.some rfl rfl rfl) rfl rfl (PF rfl rfl rfl (MV rfl rfl (SG (Ex.move rfl) rfl rfl rfl (SG (Ex.move rfl) rfl rfl rfl (SG (Ex.gtr rfl rfl) rfl rfl rfl (PF rfl rfl rfl (NL ?_))))))))))
      exact WQ.meetN [(6, _), (29, _)] ⟨rfl, rfl, trivial⟩ ⟨_, _, rfl, H, hg_errR, hg_errS, hg_pow10, e5⟩
    ·
     rw [if_neg hk9] at e5
     refine WR.stepE (v' := .bool true) (Ex.strNeqC rfl rfl) (congrArg Value.bool (by rw [decide_eq_false hk9]; rfl)) (Wn.some rfl rfl rfl) rfl rfl ?_
     refine PF rfl rfl rfl (MV rfl rfl (GT rfl rfl rfl (GT rfl rfl rfl (PT rfl rfl rfl (MV rfl rfl (WR.skipN 3 rfl rfl (PT rfl rfl rfl (NL ?_))))))))
     exact WQ.meetN [(6, _), (29, _)] ⟨rfl, rfl, trivial⟩ ⟨_, _, rfl, H, hg_errR, hg_errS, hg_pow10, e5⟩
  ·
   rintro e w ⟨b6, M, rfl, H, hg_errR, hg_errS, hg_pow10, q11⟩
   obtain rfl := oI q11
   refine TN ?_
   refine WC.condB rfl (fun hk12 => ?_) (fun hk12 => ?_)
   ·
    subst hk12
    rw [if_pos rfl] at h
    refine SQ (RG (AS rfl rfl (AS rfl rfl (NL (TN (RT ?_))))))
    obtain rfl := oI h
    exact WQ.ret2 rfl rfl rfl H.ext rfl
   ·
    subst hk12
    rw [if_neg Bool.false_ne_true] at h
    refine SK (TN (SQ (RG (MV rfl rfl (AS rfl rfl (AS rfl rfl (NL (TN (RT ?_)))))))))
    obtain rfl := oI h
    exact WQ.ret2 rfl rfl rfl H.ext rfl
theorem media_reader_read_ct {p0 : List UInt8} {bp0 : Nat} {r : ((List UInt8 × Int × Bool × List UInt8) × Bool × List UInt8)} (h : media_reader_read p0 = some r) : CtX Tryz.prog 58 [ptr bp0 0] [.blk bp0 (.cells #[S p0] 81)] (fun M => GlF (fun w => ∃ tp p, w.var? Tryz.prog "strconv.ErrRange" = some #[.iface tp p]) M ∧ GlF (fun w => ∃ tp p, w.var? Tryz.prog "strconv.ErrSyntax" = some #[.iface tp p]) M ∧ GlF (fun w => ∃ m, w.cell? ⟨2, 0, none⟩ = some (.int .i64 m)) M ∧ GlF (fun w => Lib.TabIs Tryz.prog w "internal/strconv.uint64pow10" .u64 Lib.pow10Tab) M) (fun v M its => v = Value.tuple #[Value.agg #[S r.1.1, I r.1.2.1, Value.bool r.1.2.2.1, S r.1.2.2.2], Value.bool r.2.1] ∧ its = [.blk bp0 (.cells #[S r.2.2] 81)]) := by
  refine CtX.of Tryz.func58 (enters Tryz.func58 (by kernel_rfl) rfl) rfl rfl rfl ?_
  intro w0 M0 H hp
  obtain ⟨hg_errR, hg_errS, hg_maxl, hg_pow10⟩ := hp
  unfold media_reader_read at h
  refine SQ (RG (WR.alloc [_, _, _, _] H Tryz.zeroValue85 rfl (Wn.none rfl) rfl ?_))
  intro bk2 w H
  refine AS rfl rfl (NL (TN (SQ ?_)))
  obtain ⟨⟨s1, o2⟩, hx3, h⟩ := bnd h
  try dsimp only at h
  refine RG (MV rfl rfl ?_)
  refine WR.callX (A := [.blk bp0 (.cells #[S p0] 81)]) (B := [.blk bk2 (.cells #[S [], I 0, Value.bool false, S []] 85)]) (H.pick (L' := [.blk bp0 (.cells #[S p0] 81), .blk bk2 (.cells #[S [], I 0, Value.bool false, S []] 85)]) (by repeat first | exact kPn | refine kPc (by repeat first | exact .head | apply Rem.tail) ?_)) (media_reader_take_ct hx3) (.left (Spl.all _)) rfl ((fun _ _ h => FnV.of (media_reader_read_1_ct h) (fun _ _ => trivial))) (Wn.none rfl) rfl ?_
  intro v14 M w its H hle hR
  replace hg_errR := hg_errR.mono hle
  replace hg_errS := hg_errS.mono hle
  replace hg_maxl := hg_maxl.mono hle
  replace hg_pow10 := hg_pow10.mono hle
  try dsimp only at hR
  obtain ⟨rfl, rfl⟩ := hR
  simp only [List.cons_append, List.nil_append] at H
  refine AS rfl rfl (NL (TN (SQ (SQ ?_))))
  obtain ⟨⟨b4, o5⟩, hx6, h⟩ := bnd h
  try dsimp only at h
  refine RG (MV rfl rfl ?_)
  refine WR.callX (A := [.blk bp0 (.cells #[S o2] 81)]) (B := [.blk bk2 (.cells #[S [], I 0, Value.bool false, S []] 85)]) (H.pick (L' := [.blk bp0 (.cells #[S o2] 81), .blk bk2 (.cells #[S [], I 0, Value.bool false, S []] 85)]) (by repeat first | exact kPn | refine kPc (by repeat first | exact .head | apply Rem.tail) ?_)) (media_reader_sign_ct hx6) (.left (Spl.all _)) rfl trivial (Wn.none rfl) rfl ?_
  intro v16 M w its H hle hR
  replace hg_errR := hg_errR.mono hle
  replace hg_errS := hg_errS.mono hle
  replace hg_maxl := hg_maxl.mono hle
  replace hg_pow10 := hg_pow10.mono hle
  try dsimp only at hR
  obtain ⟨rfl, rfl⟩ := hR
  simp only [List.cons_append, List.nil_append] at H
  refine ST (Ex.not rfl) rfl (NL (TN ?_))
  refine WC.condB rfl (fun hk7 => ?_) (fun hk7 => ?_)
  ·
   replace hk7 : b4 = false := by simpa using hk7
   subst hk7
   rw [if_neg Bool.false_ne_true] at h
   refine SQ (RG (ST (Ex.build [S [], I 0, Value.bool false, S []] Tryz.underlying85 Tryz.zeroValue85 (xplaces85 Tryz.underlying85) rfl (by kernel_rfl)) rfl (WR.store [_, _, _, _] H rfl rfl rfl (by repeat first | exact .head | apply Upd.tail) Tryz.sizeOf85 rfl (by rfl) (by rfl) (Wn.none rfl) ?_)))
   intro w H
   refine AS rfl rfl (NL (TN (RT ?_)))
   obtain rfl := oI h
   exact WQ.retX2 (its := [.blk bp0 (.cells #[S o5] 81)]) rfl ⟨_, rfl, H.loadAgg (by repeat first | exact kMh | apply kMt) Tryz.isAgg85 Tryz.sizeOf85 (by rfl)⟩ rfl H (by repeat first | exact kPn | refine kPc (by repeat first | exact .head | apply Rem.tail) ?_) ⟨rfl, rfl⟩
  ·
   replace hk7 : b4 = true := by simpa using hk7
   subst hk7
   rw [if_pos rfl] at h
   refine SK (TN (SQ ?_))
   obtain ⟨⟨s8, b9, o10⟩, hx11, h⟩ := bnd h
   try dsimp only at h
   refine RG (MV rfl rfl ?_)
   refine WR.callX (A := [.blk bp0 (.cells #[S o5] 81)]) (B := [.blk bk2 (.cells #[S [], I 0, Value.bool false, S []] 85)]) (H.pick (L' := [.blk bp0 (.cells #[S o5] 81), .blk bk2 (.cells #[S [], I 0, Value.bool false, S []] 85)]) (by repeat first | exact kPn | refine kPc (by repeat first | exact .head | apply Rem.tail) ?_)) (media_reader_value_ct hx11) (.left (Spl.all _)) rfl trivial (Wn.none rfl) rfl ?_
   intro v21 M w its H hle hR
   replace hg_errR := hg_errR.mono hle
   replace hg_errS := hg_errS.mono hle
   replace hg_maxl := hg_maxl.mono hle
   replace hg_pow10 := hg_pow10.mono hle
   try dsimp only at hR
   obtain ⟨rfl, rfl⟩ := hR
   simp only [List.cons_append, List.nil_append] at H
   refine MV rfl rfl (ST (Ex.extract rfl rfl) rfl (ST (Ex.extract rfl rfl) rfl (AS rfl rfl (AS rfl rfl (NL (TN (SQ (RG (MV rfl rfl (ST (Ex.build [S [], I (-1), Value.bool false, S s8] Tryz.underlying85 Tryz.zeroValue85 (xplaces85 Tryz.underlying85) rfl (by kernel_rfl)) rfl (WR.alloc [_, _, _, _] H Tryz.zeroValue85 rfl (Wn.none rfl) rfl ?_)))))))))))
   intro bk7 w H
   refine WR.store [_, _, _, _] H rfl rfl rfl (by repeat first | exact .head | apply Upd.tail) Tryz.sizeOf85 rfl (by rfl) (by rfl) (Wn.none rfl) ?_
   intro w H
   refine NL (TN (SQ ?_))
   obtain ⟨⟨s12, s13, b14⟩, hx15, h⟩ := bnd h
   try dsimp only at h
   refine RG (MV rfl rfl (WR.call H (strings_Cut_ct hx15) rfl (hg_maxl) (Wn.none rfl) rfl ?_))
   intro v28 M w H hle hR
   replace hg_errR := hg_errR.mono hle
   replace hg_errS := hg_errS.mono hle
   replace hg_maxl := hg_maxl.mono hle
   replace hg_pow10 := hg_pow10.mono hle
   try dsimp only at hR
   obtain rfl := hR
   refine MV rfl rfl (ST (Ex.extract rfl rfl) rfl (ST (Ex.extract rfl rfl) rfl (ST (Ex.extract rfl rfl) rfl (AS rfl rfl (AS rfl rfl (AS rfl rfl (NL (TN (SQ (RG (MV rfl rfl (ST (Ex.fieldAddr Tryz.underlying85 rfl Tryz.sizeOf9 (by decide) rfl) rfl (WR.store1 [_, _, _, _] H rfl rfl (by repeat first | exact .head | apply Upd.tail) (by rfl) Tryz.sizeOf9 (by first | decide | (simp; done) | (simp; omega)) (by rfl) (by rfl) (Wn.none rfl) ?_)))))))))))))
   intro w H
   refine NL (TN (SQ (SQ (RG (MV rfl rfl (NL (TN ?_)))))))
   obtain ⟨o16, e17, h⟩ := bnd h
   refine WC.cutX (fun e w => ∃ (b18 : Bool) (s19 : List UInt8) (n20 : Int) (b21 : Bool) (s22 : List UInt8) (M : Mem), e = [(2, ptr bk2 0), (6, Value.bool b18), (7, ptr bk7 0), (8, S s12)] ∧ StX (feet [.blk bp0 (.cells #[S p0] 81)]) w0 M0 M [.blk bk2 (.cells #[S [], I 0, Value.bool false, S []] 85), .blk bk7 (.cells #[S s19, I n20, Value.bool b21, S s22] 85), .blk bp0 (.cells #[S o10] 81)] w ∧ GlF (fun w => ∃ tp p, w.var? Tryz.prog "strconv.ErrRange" = some #[.iface tp p]) M ∧ GlF (fun w => ∃ tp p, w.var? Tryz.prog "strconv.ErrSyntax" = some #[.iface tp p]) M ∧ GlF (fun w => ∃ m, w.cell? ⟨2, 0, none⟩ = some (.int .i64 m)) M ∧ GlF (fun w => Lib.TabIs Tryz.prog w "internal/strconv.uint64pow10" .u64 Lib.pow10Tab) M ∧ some (b18, s19, n20, b21, s22) = some o16) [] ?_ ?_ (trivial)
   ·
    refine WC.condB rfl (fun hk23 => ?_) (fun hk23 => ?_)
    ·
     subst hk23
     rw [if_pos rfl] at e17
     refine SQ ?_
     obtain ⟨⟨s24, b25⟩, hx26, e17⟩ := bnd e17
     try dsimp only at e17
     refine RG (MV rfl rfl (WR.call H (strings_CutSuffix_ct hx26) rfl trivial (Wn.none rfl) rfl ?_))
     intro v37 M w H hle hR
     replace hg_errR := hg_errR.mono hle
     replace hg_errS := hg_errS.mono hle
     replace hg_maxl := hg_maxl.mono hle
     replace hg_pow10 := hg_pow10.mono hle
     try dsimp only at hR
     obtain rfl := hR
     refine MV rfl rfl (ST (Ex.extract rfl rfl) rfl (ST (Ex.extract rfl rfl) rfl (AS rfl rfl (ST (Ex.fieldAddr Tryz.underlying85 rfl Tryz.sizeOf4 (by decide) rfl) rfl (WR.store1 [_, _, _, _] H rfl rfl (by repeat first | exact .head | apply Upd.tail) (by rfl) Tryz.sizeOf4 (by first | decide | (simp; done) | (simp; omega)) (by rfl) (by rfl) (Wn.none rfl) ?_)))))
     intro w H
     refine NL (TN (SQ ?_))
     obtain ⟨⟨n27, b28⟩, hx29, e17⟩ := bnd e17
     try dsimp only at e17
     refine RG (MV rfl rfl (WR.call H (basic_Number_ct hx29) rfl ⟨hg_errR, hg_errS, hg_pow10⟩ (Wn.none rfl) rfl ?_))
     intro v43 M w H hle hR
     replace hg_errR := hg_errR.mono hle
     replace hg_errS := hg_errS.mono hle
     replace hg_maxl := hg_maxl.mono hle
     replace hg_pow10 := hg_pow10.mono hle
     try dsimp only at hR
     obtain rfl := hR
     refine MV rfl rfl (ST (Ex.extract rfl rfl) rfl (ST (Ex.extract rfl rfl) rfl (AS rfl rfl (AS rfl rfl (NL (TN (SQ (RG (MV rfl rfl (ST (Ex.fieldAddr Tryz.underlying85 rfl Tryz.sizeOf3 (by decide) rfl) rfl (WR.store1 [_, _, _, _] H rfl rfl (by repeat first | exact .head | apply Upd.tail) (by rfl) Tryz.sizeOf3 (by first | decide | (simp; done) | (simp; omega)) (by rfl) (by rfl) (Wn.none rfl) ?_)))))))))))
     intro w H
     refine NL (TN ?_)
     obtain ⟨o30, e31, e17⟩ := bnd e17
     refine WC.cutX (fun e w => ∃ (b32 : Bool) (M : Mem), e = [(2, ptr bk2 0), (6, Value.bool b32), (7, ptr bk7 0), (8, S s12)] ∧ StX (feet [.blk bp0 (.cells #[S p0] 81)]) w0 M0 M [.blk bk2 (.cells #[S [], I 0, Value.bool false, S []] 85), .blk bk7 (.cells #[S s12, I n27, Value.bool b25, S s8] 85), .blk bp0 (.cells #[S o10] 81)] w ∧ GlF (fun w => ∃ tp p, w.var? Tryz.prog "strconv.ErrRange" = some #[.iface tp p]) M ∧ GlF (fun w => ∃ tp p, w.var? Tryz.prog "strconv.ErrSyntax" = some #[.iface tp p]) M ∧ GlF (fun w => ∃ m, w.cell? ⟨2, 0, none⟩ = some (.int .i64 m)) M ∧ GlF (fun w => Lib.TabIs Tryz.prog w "internal/strconv.uint64pow10" .u64 Lib.pow10Tab) M ∧ some b32 = some o30) [] ?_ ?_ (trivial)
     ·
      refine RG (MV rfl rfl (MV rfl rfl ?_))
      rcases b9 with _ | _
      ·
       rw [if_neg Bool.false_ne_true] at e31
       refine GF rfl rfl rfl (PF rfl rfl rfl (AS rfl rfl (NL ?_)))
       exact WQ.meetN [(2, _), (6, _), (7, _), (8, _)] ⟨rfl, rfl, rfl, rfl, trivial⟩ ⟨_, _, rfl, (H.pick (L' := [.blk bk2 (.cells #[S [], I 0, Value.bool false, S []] 85), .blk bk7 (.cells #[S s12, I n27, Value.bool b25, S s8] 85), .blk bp0 (.cells #[S o10] 81)]) (by repeat first | exact kPn | refine kPc (by repeat first | exact .head | apply Rem.tail) ?_)), hg_errR, hg_errS, hg_maxl, hg_pow10, e31⟩
      ·
       rw [if_pos rfl] at e31
       refine SG (Ex.move rfl) rfl rfl rfl (PT rfl rfl rfl (AS rfl rfl (NL ?_)))
       exact WQ.meetN [(2, _), (6, _), (7, _), (8, _)] ⟨rfl, rfl, rfl, rfl, trivial⟩ ⟨_, _, rfl, (H.pick (L' := [.blk bk2 (.cells #[S [], I 0, Value.bool false, S []] 85), .blk bk7 (.cells #[S s12, I n27, Value.bool b25, S s8] 85), .blk bp0 (.cells #[S o10] 81)]) (by repeat first | exact kPn | refine kPc (by repeat first | exact .head | apply Rem.tail) ?_)), hg_errR, hg_errS, hg_maxl, hg_pow10, e31⟩
     ·
      rintro e w ⟨b32, M, rfl, H, hg_errR, hg_errS, hg_maxl, hg_pow10, q33⟩
      obtain rfl := oI q33
      exact WQ.meetN [(2, _), (6, _), (7, _), (8, _)] ⟨rfl, rfl, rfl, rfl, trivial⟩ ⟨_, _, _, _, _, _, rfl, H, hg_errR, hg_errS, hg_maxl, hg_pow10, e17⟩
    ·
     subst hk23
     rw [if_neg Bool.false_ne_true] at e17
     refine SK ?_
     exact WQ.meetN [(2, _), (6, _), (7, _), (8, _)] ⟨rfl, rfl, rfl, rfl, trivial⟩ ⟨_, _, _, _, _, _, rfl, (H.pick (L' := [.blk bk2 (.cells #[S [], I 0, Value.bool false, S []] 85), .blk bk7 (.cells #[S s12, I (-1), Value.bool false, S s8] 85), .blk bp0 (.cells #[S o10] 81)]) (by repeat first | exact kPn | refine kPc (by repeat first | exact .head | apply Rem.tail) ?_)), hg_errR, hg_errS, hg_maxl, hg_pow10, e17⟩
   ·
    rintro e w ⟨b18, s19, n20, b21, s22, M, rfl, H, hg_errR, hg_errS, hg_maxl, hg_pow10, q34⟩
    obtain rfl := oI q34
    try dsimp only at h
    refine TN (SQ ?_)
    obtain ⟨o35, e36, h⟩ := bnd h
    refine WC.cutX (fun e w => ∃ (s37 : List UInt8) (n38 : Int) (b39 : Bool) (s40 : List UInt8) (b41 : Bool) (M : Mem), e = [(2, ptr bk2 0), (3, Value.bool b41)] ∧ StX (feet [.blk bp0 (.cells #[S p0] 81)]) w0 M0 M [.blk bk2 (.cells #[S s37, I n38, Value.bool b39, S s40] 85), .blk bp0 (.cells #[S o10] 81)] w ∧ GlF (fun w => ∃ tp p, w.var? Tryz.prog "strconv.ErrRange" = some #[.iface tp p]) M ∧ GlF (fun w => ∃ tp p, w.var? Tryz.prog "strconv.ErrSyntax" = some #[.iface tp p]) M ∧ GlF (fun w => ∃ m, w.cell? ⟨2, 0, none⟩ = some (.int .i64 m)) M ∧ GlF (fun w => Lib.TabIs Tryz.prog w "internal/strconv.uint64pow10" .u64 Lib.pow10Tab) M ∧ some (s37, n38, b39, s40, b41) = some o35) [] ?_ ?_ (trivial)
    ·
     refine RG (ST (Ex.loadAgg H rfl (by repeat first | exact kMh | apply kMt) Tryz.isAgg85 Tryz.sizeOf85 (by rfl)) rfl ?_)
     refine MV rfl rfl (MV rfl rfl ?_)
     rcases b18 with _ | _
     ·
      rw [if_neg Bool.false_ne_true] at e36
      refine GF rfl rfl rfl (GF rfl rfl rfl (PF rfl rfl rfl (WR.store [_, _, _, _] H rfl rfl rfl (by repeat first | exact .head | apply Upd.tail) Tryz.sizeOf85 rfl (by rfl) (by rfl) (Wn.none rfl) ?_)))
      intro w H
      refine AS rfl rfl (NL ?_)
      exact WQ.meetN [(2, _), (3, _)] ⟨rfl, rfl, trivial⟩ ⟨_, _, _, _, _, _, rfl, (H.pick (L' := [.blk bk2 (.cells #[S s19, I n20, Value.bool b21, S s22] 85), .blk bp0 (.cells #[S o10] 81)]) (by repeat first | exact kPn | refine kPc (by repeat first | exact .head | apply Rem.tail) ?_)), hg_errR, hg_errS, hg_maxl, hg_pow10, e36⟩
     ·
      rw [if_pos rfl] at e36
      refine SG (Ex.move rfl) rfl rfl rfl (SG (Ex.strNeqC rfl rfl) rfl rfl rfl (PT rfl rfl rfl (WR.store [_, _, _, _] H rfl rfl rfl (by repeat first | exact .head | apply Upd.tail) Tryz.sizeOf85 rfl (by rfl) (by rfl) (Wn.none rfl) ?_)))
      intro w H
      refine AS rfl rfl (NL ?_)
      exact WQ.meetN [(2, _), (3, _)] ⟨rfl, rfl, trivial⟩ ⟨_, _, _, _, _, _, rfl, (H.pick (L' := [.blk bk2 (.cells #[S s19, I n20, Value.bool b21, S s22] 85), .blk bp0 (.cells #[S o10] 81)]) (by repeat first | exact kPn | refine kPc (by repeat first | exact .head | apply Rem.tail) ?_)), hg_errR, hg_errS, hg_maxl, hg_pow10, e36⟩
    ·
     rintro e w ⟨s37, n38, b39, s40, b41, M, rfl, H, hg_errR, hg_errS, hg_maxl, hg_pow10, q42⟩
     obtain rfl := oI q42
     try dsimp only at h
     refine TN (RT ?_)
     obtain rfl := oI h
     exact WQ.retX2 (its := [.blk bp0 (.cells #[S o10] 81)]) rfl ⟨_, rfl, H.loadAgg (by repeat first | exact kMh | apply kMt) Tryz.isAgg85 Tryz.sizeOf85 (by rfl)⟩ rfl H (by repeat first | exact kPn | refine kPc (by repeat first | exact .head | apply Rem.tail) ?_) ⟨rfl, rfl⟩
theorem slices_IndexFunc_piece_ct {p0 : List (List UInt8 × Int × Bool × List UInt8)} {p1 : ((List UInt8 × Int × Bool × List UInt8) → Option Bool)} {vp0 : Value} {vp1 : Value} {r : Int} (h : slices_IndexFunc_piece p0 p1 = some r) : Ct Tryz.prog 95 [vp0, vp1] (fun M => SlS M 4 xenc85 vp0 p0 ∧ FnT123 M vp1 p1) (fun v M => v = I r) := by
  refine Ct.of Tryz.func95 (enters Tryz.func95 (by kernel_rfl) rfl) rfl rfl rfl ?_
  intro w0 M0 H hp
  obtain ⟨hp0, hp1⟩ := hp
  unfold slices_IndexFunc_piece at h
  refine SQ (RG (AS rfl rfl (NL (TN (SQ (SQ (RG (MV rfl rfl (ST (Ex.lenSlS Tryz.underlying83 hp0 rfl) rfl (MV rfl rfl (NL (TN ?_))))))))))))
  obtain ⟨o1, e2, h⟩ := bnd h
  refine WC.cutX (fun e w => ∃  (M : Mem), e = [] ∧ St w0 M0 M [] w ∧ some (.inl ()) = some o1) [] ?_ ?_ (trivial)
  ·
   refine BL (WC.loopP (fun m e w => ∃ (n3 : Int) (M : Mem), e = [(0, vp0), (1, vp1), (7, I (p0.length : Int)), (8, I n3)] ∧ St w0 M0 M [] w ∧ SlS M 4 xenc85 vp0 p0 ∧ FnT123 M vp1 p1 ∧ slices_IndexFunc_piece_L1 p0 p1 m n3 = some o1) FU [(0, _), (1, _), (7, _), (8, _)] ⟨rfl, rfl, rfl, rfl, trivial⟩ ⟨_, _, rfl, H, hp0, hp1, e2⟩ ?_)
   rintro m4 e w ⟨n3, M, rfl, H, hp0, hp1, e2⟩
   rcases m4 with _ | m4
   · rw [slices_IndexFunc_piece_L1] at e2; cases e2
   rw [slices_IndexFunc_piece_L1] at e2
   refine SQ (RG (ST (Ex.lss rfl rfl) rfl (NL (TN (SQ ?_)))))
   refine WC.condB rfl (fun hk5 => ?_) (fun hk5 => ?_)
   ·
    replace hk5 : n3 < (p0.length : Int) := of_decide_eq_true hk5
    rw [if_pos hk5] at e2
    refine SK (TN (SQ (BL (SQ (RG (MV rfl rfl (AS rfl rfl (NL (TN (SQ ?_))))))))))
    obtain ⟨a6, hxa6, e2⟩ := bnd e2
    obtain ⟨bk14, o14, ha14, hc14⟩ := hp0.atC hxa6
    obtain ⟨b7, hx8, e2⟩ := bnd e2
    refine RG (MV rfl rfl (MV rfl rfl (MV rfl rfl (ST (Ex.idxAt ha14 Tryz.underlying83 Tryz.sizeOf85 rfl rfl) rfl (ST (Ex.loadAggM H rfl hc14 Tryz.isAgg85 Tryz.sizeOf85 (by rfl)) rfl ?_)))))
    refine WR.callF H (hp1 _ _ hx8) rfl rfl (Wn.none rfl) rfl ?_
    intro v16 M w H hle hR
    replace hp0 := hp0.mono hle
    replace hp1 := hp1.mono hle
    replace hc14 := hc14.mono hle
    obtain rfl := hR
    refine NL (TN ?_)
    refine WC.condB rfl (fun hk9 => ?_) (fun hk9 => ?_)
    ·
     subst hk9
     rw [if_pos rfl] at e2
     refine SQ (RG (MV rfl rfl (AS rfl rfl (NL (TN (RT ?_))))))
     obtain rfl := oI e2
     try dsimp only at h
     obtain rfl := oI h
     exact WQ.ret1 rfl rfl H.ext rfl
    ·
     subst hk9
     rw [if_neg Bool.false_ne_true] at e2
     refine SK (IB (TN ?_))
     obtain ⟨n10, hxn10, e2⟩ := bnd e2
     refine RG (ST (Ex.addC rfl rfl hxn10) rfl (MV rfl rfl (NL ?_)))
     exact WQ.againP m4 [(0, _), (1, _), (7, _), (8, _)] ⟨rfl, rfl, rfl, rfl, trivial⟩ ⟨_, _, rfl, H, hp0, hp1, e2⟩ (Nat.lt_succ_self _)
   ·
    replace hk5 : ¬ (n3 < (p0.length : Int)) := of_decide_eq_false hk5
    rw [if_neg hk5] at e2
    refine WC.exit (WQ.thenExit (WQ.thenExit (WQ.exitHere ?_)))
    exact WQ.meetN [] trivial ⟨_, rfl, H, e2⟩
  ·
   rintro e w ⟨M, rfl, H, q11⟩
   obtain rfl := oI q11
   try dsimp only at h
   refine TN (SQ (RG (AS rfl rfl (NL (TN (RT ?_))))))
   obtain rfl := oI h
   exact WQ.ret1 rfl rfl H.ext rfl
theorem slices_ContainsFunc_piece_ct {p0 : List (List UInt8 × Int × Bool × List UInt8)} {p1 : ((List UInt8 × Int × Bool × List UInt8) → Option Bool)} {vp0 : Value} {vp1 : Value} {r : Bool} (h : slices_ContainsFunc_piece p0 p1 = some r) : Ct Tryz.prog 80 [vp0, vp1] (fun M => SlS M 4 xenc85 vp0 p0 ∧ FnT123 M vp1 p1) (fun v M => v = Value.bool r) := by
  refine Ct.of Tryz.func80 (enters Tryz.func80 (by kernel_rfl) rfl) rfl rfl rfl ?_
  intro w0 M0 H hp
  obtain ⟨hp0, hp1⟩ := hp
  unfold slices_ContainsFunc_piece at h
  refine SQ (RG (AS rfl rfl (NL (TN (SQ ?_)))))
  obtain ⟨n1, hx2, h⟩ := bnd h
  refine RG (MV rfl rfl (MV rfl rfl (WR.call H (slices_IndexFunc_piece_ct hx2) rfl ⟨hp0, hp1⟩ (Wn.none rfl) rfl ?_)))
  intro v7 M w H hle hR
  replace hp0 := hp0.mono hle
  replace hp1 := hp1.mono hle
  obtain rfl := hR
  refine ST (Ex.geq rfl rfl) rfl (AS rfl rfl (NL (TN (RT ?_))))
  obtain rfl := oI h
  exact WQ.ret1 rfl rfl H.ext rfl
theorem media_params_1_ct {p0 : (List UInt8 × Int × Bool × List UInt8)} {p1 : (List UInt8 × Int × Bool × List UInt8)} {bp1 : Nat} {r : Bool} (h : media_params_1 p0 p1 = some r) : Ct Tryz.prog 79 [Value.agg #[S p0.1, I p0.2.1, Value.bool p0.2.2.1, S p0.2.2.2], ptr bp1 0] (fun M => PtM M bp1 (.cells #[S p1.1, I p1.2.1, Value.bool p1.2.2.1, S p1.2.2.2] 85)) (fun v M => v = Value.bool r) := by
  refine Ct.of Tryz.func79 (enters Tryz.func79 (by kernel_rfl) rfl) rfl rfl rfl ?_
  intro w0 M0 H hp
  have hp1 := hp
  unfold media_params_1 at h
  refine SQ (RG (WR.box [_, _, _, _] H rfl rfl (Wn.none rfl) rfl ?_))
  intro bk2 w H
  refine AS rfl rfl (NL (TN (SQ ?_)))
  obtain ⟨b1, hx2, h⟩ := bnd h
  refine RG (ST (Ex.fieldAddr Tryz.underlying85 rfl Tryz.sizeOf9 (by decide) rfl) rfl (ST (Ex.load1 H rfl (by repeat first | exact kMh | apply kMt) Tryz.isAgg9 (by rfl)) rfl ?_))
  refine ST (Ex.fieldAddr Tryz.underlying85 rfl Tryz.sizeOf9 (by decide) rfl) rfl (ST (Ex.loadM H rfl (hp1.cell (j := 0) rfl) Tryz.isAgg9) rfl (WR.call H (basic_Same_ct hx2) rfl trivial (Wn.none rfl) rfl ?_))
  intro v8 M w H hle hR
  replace hp1 := hp1.mono hle
  obtain rfl := hR
  refine AS rfl rfl (NL (TN (RT ?_)))
  obtain rfl := oI h
  exact WQ.ret1 rfl rfl H.ext rfl
theorem basic_Hex_ct {p0 : UInt8} {r : (UInt8 × Bool)} (h : basic_Hex p0 = some r) : Ct Tryz.prog 156 [encB p0] (fun M => True) (fun v M => v = Value.tuple #[encB r.1, Value.bool r.2]) := by
  refine Ct.of Tryz.func156 (enters Tryz.func156 (by kernel_rfl) rfl) rfl rfl rfl ?_
  intro w0 M0 H hp
  unfold basic_Hex at h
  refine SQ (RG (AS rfl rfl (AS rfl rfl (NL (TN (SQ (BL (SQ ?_))))))))
  obtain ⟨o1, e2, h⟩ := bnd h
  refine WC.cutX (fun e w => ∃ (b3 : Bool) (M : Mem), e = [(0, encB p0), (4, Value.bool b3)] ∧ St w0 M0 M [] w ∧ some b3 = some o1) [] ?_ ?_ (trivial)
  ·
   by_cases hk4 : 48 ≤ p0.toNat
   ·
    rw [if_pos hk4] at e2
    refine RG (MV rfl rfl (WR.stepE (v' := .bool true) (Ex.geqB (i := p0.toNat) (j := 48) rfl rfl) (congrArg Value.bool (decide_eq_true hk4)) (Wn.none rfl) rfl rfl (MV rfl rfl (SG (Ex.move rfl) rfl rfl rfl (SG (Ex.leqB (i := p0.toNat) (j := 57) rfl rfl) rfl rfl rfl (PT rfl rfl rfl (AS rfl rfl (NL ?_))))))))
    exact WQ.meetN [(0, _), (4, _)] ⟨rfl, rfl, trivial⟩ ⟨_, _, rfl, H, e2⟩
   ·
    rw [if_neg hk4] at e2
    refine RG (MV rfl rfl (WR.stepE (v' := .bool false) (Ex.geqB (i := p0.toNat) (j := 48) rfl rfl) (congrArg Value.bool (decide_eq_false hk4)) (Wn.none rfl) rfl rfl (MV rfl rfl (GF rfl rfl rfl (GF rfl rfl rfl (PF rfl rfl rfl (AS rfl rfl (NL ?_))))))))
    exact WQ.meetN [(0, _), (4, _)] ⟨rfl, rfl, trivial⟩ ⟨_, _, rfl, H, e2⟩
  ·
   rintro e w ⟨b3, M, rfl, H, q5⟩
   obtain rfl := oI q5
   refine TN ?_
   refine WC.condB rfl (fun hk6 => ?_) (fun hk6 => ?_)
   ·
    subst hk6
    rw [if_pos rfl] at h
    refine SQ (RG (MV rfl rfl (ST (Ex.subB (c := p0) (d := 48) rfl rfl) rfl (AS rfl rfl (AS rfl rfl (NL (TN (RT ?_))))))))
    obtain rfl := oI h
    exact WQ.ret2 rfl rfl rfl H.ext rfl
   ·
    subst hk6
    rw [if_neg Bool.false_ne_true] at h
    refine SQ ?_
    obtain ⟨o7, e8, h⟩ := bnd h
    refine WC.cutX (fun e w => ∃ (b9 : Bool) (M : Mem), e = [(0, encB p0), (13, Value.bool b9)] ∧ St w0 M0 M [] w ∧ some b9 = some o7) [] ?_ ?_ (trivial)
    ·
     by_cases hk10 : 65 ≤ p0.toNat
     ·
      rw [if_pos hk10] at e8
      refine RG (MV rfl rfl (WR.stepE (v' := .bool true) (Ex.geqB (i := p0.toNat) (j := 65) rfl rfl) (congrArg Value.bool (decide_eq_true hk10)) (Wn.none rfl) rfl rfl (MV rfl rfl (SG (Ex.move rfl) rfl rfl rfl (SG (Ex.leqB (i := p0.toNat) (j := 70) rfl rfl) rfl rfl rfl (PT rfl rfl rfl (AS rfl rfl (NL ?_))))))))
      exact WQ.meetN [(0, _), (13, _)] ⟨rfl, rfl, trivial⟩ ⟨_, _, rfl, H, e8⟩
     ·
      rw [if_neg hk10] at e8
      refine RG (MV rfl rfl (WR.stepE (v' := .bool false) (Ex.geqB (i := p0.toNat) (j := 65) rfl rfl) (congrArg Value.bool (decide_eq_false hk10)) (Wn.none rfl) rfl rfl (MV rfl rfl (GF rfl rfl rfl (GF rfl rfl rfl (PF rfl rfl rfl (AS rfl rfl (NL ?_))))))))
      exact WQ.meetN [(0, _), (13, _)] ⟨rfl, rfl, trivial⟩ ⟨_, _, rfl, H, e8⟩
    ·
     rintro e w ⟨b9, M, rfl, H, q11⟩
     obtain rfl := oI q11
     refine TN ?_
     refine WC.condB rfl (fun hk12 => ?_) (fun hk12 => ?_)
     ·
      subst hk12
      rw [if_pos rfl] at h
      refine SQ (RG (MV rfl rfl (ST (Ex.subB (c := p0) (d := 65) rfl rfl) rfl (ST (Ex.addB (c := (p0 - (65 : UInt8))) (d := 10) rfl rfl) rfl (AS rfl rfl (AS rfl rfl (NL (TN (RT ?_)))))))))
      obtain rfl := oI h
      exact WQ.ret2 rfl rfl rfl H.ext rfl
     ·
      subst hk12
      rw [if_neg Bool.false_ne_true] at h
      refine SQ ?_
      obtain ⟨o13, e14, h⟩ := bnd h
      refine WC.cutX (fun e w => ∃ (b15 : Bool) (M : Mem), e = [(0, encB p0), (23, Value.bool b15)] ∧ St w0 M0 M [] w ∧ some b15 = some o13) [] ?_ ?_ (trivial)
      ·
       by_cases hk16 : 97 ≤ p0.toNat
       ·
        rw [if_pos hk16] at e14
        refine RG (MV rfl rfl (WR.stepE (v' := .bool true) (Ex.geqB (i := p0.toNat) (j := 97) rfl rfl) (congrArg Value.bool (decide_eq_true hk16)) (Wn.none rfl) rfl rfl (MV rfl rfl (SG (Ex.move rfl) rfl rfl rfl (SG (Ex.leqB (i := p0.toNat) (j := 102) rfl rfl) rfl rfl rfl (PT rfl rfl rfl (AS rfl rfl (NL ?_))))))))
        exact WQ.meetN [(0, _), (23, _)] ⟨rfl, rfl, trivial⟩ ⟨_, _, rfl, H, e14⟩
       ·
        rw [if_neg hk16] at e14
        refine RG (MV rfl rfl (WR.stepE (v' := .bool false) (Ex.geqB (i := p0.toNat) (j := 97) rfl rfl) (congrArg Value.bool (decide_eq_false hk16)) (Wn.none rfl) rfl rfl (MV rfl rfl (GF rfl rfl rfl (GF rfl rfl rfl (PF rfl rfl rfl (AS rfl rfl (NL ?_))))))))
        exact WQ.meetN [(0, _), (23, _)] ⟨rfl, rfl, trivial⟩ ⟨_, _, rfl, H, e14⟩
      ·
       rintro e w ⟨b15, M, rfl, H, q17⟩
       obtain rfl := oI q17
       refine TN ?_
       refine WC.condB rfl (fun hk18 => ?_) (fun hk18 => ?_)
       ·
        subst hk18
        rw [if_pos rfl] at h
        refine SQ (RG (MV rfl rfl (ST (Ex.subB (c := p0) (d := 97) rfl rfl) rfl (ST (Ex.addB (c := (p0 - (97 : UInt8))) (d := 10) rfl rfl) rfl (AS rfl rfl (AS rfl rfl (NL (TN (RT ?_)))))))))
        obtain rfl := oI h
        exact WQ.ret2 rfl rfl rfl H.ext rfl
       ·
        subst hk18
        rw [if_neg Bool.false_ne_true] at h
        refine SK (IB (TN (SQ (RG (AS rfl rfl (AS rfl rfl (NL (TN (RT ?_)))))))))
        obtain rfl := oI h
        exact WQ.ret2 rfl rfl rfl H.ext rfl
theorem basic_Pair_ct {p0 : List UInt8} {r : (UInt8 × Bool)} (h : basic_Pair p0 = some r) : Ct Tryz.prog 120 [S p0] (fun M => True) (fun v M => v = Value.tuple #[encB r.1, Value.bool r.2]) := by
  refine Ct.of Tryz.func120 (enters Tryz.func120 (by kernel_rfl) rfl) rfl rfl rfl ?_
  intro w0 M0 H hp
  unfold basic_Pair at h
  refine SQ (RG (AS rfl rfl (AS rfl rfl (NL (TN (SQ (SQ (RG (MV rfl rfl (ST (Ex.lenStr Tryz.underlying9 rfl) rfl (ST (Ex.lss rfl rfl) rfl (NL (TN ?_)))))))))))))
  refine WC.condB rfl (fun hk1 => ?_) (fun hk1 => ?_)
  ·
   replace hk1 : (p0.length : Int) < (2 : Int) := of_decide_eq_true hk1
   rw [if_pos hk1] at h
   refine SQ (RG (AS rfl rfl (AS rfl rfl (NL (TN (RT ?_))))))
   obtain rfl := oI h
   exact WQ.ret2 rfl rfl rfl H.ext rfl
  ·
   replace hk1 : ¬ ((p0.length : Int) < (2 : Int)) := of_decide_eq_false hk1
   rw [if_neg hk1] at h
   refine SK (TN (SQ ?_))
   obtain ⟨c2, hxc2, h⟩ := bnd h
   obtain ⟨⟨c3, b4⟩, hx5, h⟩ := bnd h
   try dsimp only at h
   refine RG (MV rfl rfl (ST (Ex.idxStrC Tryz.underlying9 rfl rfl hxc2) rfl (WR.call H (basic_Hex_ct hx5) rfl trivial (Wn.none rfl) rfl ?_)))
   intro v14 M w H hle hR
   try dsimp only at hR
   obtain rfl := hR
   refine MV rfl rfl (ST (Ex.extract rfl rfl) rfl (ST (Ex.extract rfl rfl) rfl (AS rfl rfl (AS rfl rfl (NL (TN (SQ ?_)))))))
   obtain ⟨c6, hxc6, h⟩ := bnd h
   obtain ⟨⟨c7, b8⟩, hx9, h⟩ := bnd h
   try dsimp only at h
   refine RG (MV rfl rfl (ST (Ex.idxStrC Tryz.underlying9 rfl rfl hxc6) rfl (WR.call H (basic_Hex_ct hx9) rfl trivial (Wn.none rfl) rfl ?_)))
   intro v20 M w H hle hR
   try dsimp only at hR
   obtain rfl := hR
   refine MV rfl rfl (ST (Ex.extract rfl rfl) rfl (ST (Ex.extract rfl rfl) rfl (AS rfl rfl (AS rfl rfl (NL (TN (SQ ?_)))))))
   obtain ⟨o10, e11, h⟩ := bnd h
   refine WC.cutX (fun e w => ∃ (c12 : UInt8) (b13 : Bool) (M : Mem), e = [(2, encB c12), (3, Value.bool b13)] ∧ St w0 M0 M [] w ∧ some (c12, b13) = some o10) [] ?_ ?_ (trivial)
   ·
    refine RG (MV rfl rfl (ST (Ex.shlB (c := c3) (m := 4) rfl rfl (by decide)) rfl (MV rfl rfl (ST (Ex.orB (c := (UInt8.ofNat (c3.toNat * 2 ^ 4))) (d := c7) rfl rfl) rfl (MV rfl rfl (MV rfl rfl ?_))))))
    rcases b4 with _ | _
    ·
     rw [if_neg Bool.false_ne_true] at e11
     refine GF rfl rfl rfl (PF rfl rfl rfl (AS rfl rfl (AS rfl rfl (NL ?_))))
     exact WQ.meetN [(2, _), (3, _)] ⟨rfl, rfl, trivial⟩ ⟨_, _, _, rfl, H, e11⟩
    ·
     rw [if_pos rfl] at e11
     refine SG (Ex.move rfl) rfl rfl rfl (PT rfl rfl rfl (AS rfl rfl (AS rfl rfl (NL ?_))))
     exact WQ.meetN [(2, _), (3, _)] ⟨rfl, rfl, trivial⟩ ⟨_, _, _, rfl, H, e11⟩
   ·
    rintro e w ⟨c12, b13, M, rfl, H, q14⟩
    obtain rfl := oI q14
    try dsimp only at h
    refine TN (RT ?_)
    obtain rfl := oI h
    exact WQ.ret2 rfl rfl rfl H.ext rfl
theorem media_piece_text_ct {p0 : (List UInt8 × Int × Bool × List UInt8)} {r : List UInt8} (h : media_piece_text p0 = some r) : Ct Tryz.prog 98 [Value.agg #[S p0.1, I p0.2.1, Value.bool p0.2.2.1, S p0.2.2.2]] (fun M => True) (fun v M => v = S r) := by
  refine Ct.of Tryz.func98 (enters Tryz.func98 (by kernel_rfl) rfl) rfl rfl rfl ?_
  intro w0 M0 H hp
  unfold media_piece_text at h
  refine SQ (RG (WR.box [_, _, _, _] H rfl rfl (Wn.none rfl) rfl ?_))
  intro bk1 w H
  refine AS rfl rfl (NL (TN (SQ (RG (ST (Ex.fieldAddr Tryz.underlying85 rfl Tryz.sizeOf9 (by decide) rfl) rfl (ST (Ex.load1 H rfl (by repeat first | exact kMh | apply kMt) Tryz.isAgg9 (by rfl)) rfl ?_))))))
  refine AS rfl rfl (NL (TN (SQ (SQ (RG (ST (Ex.fieldAddr Tryz.underlying85 rfl Tryz.sizeOf4 (by decide) rfl) rfl (ST (Ex.load1 H rfl (by repeat first | exact kMh | apply kMt) Tryz.isAgg4 (by rfl)) rfl ?_)))))))
  refine ST (Ex.not rfl) rfl (NL (TN ?_))
  refine WC.condB rfl (fun hk1 => ?_) (fun hk1 => ?_)
  ·
   replace hk1 : p0.2.2.1 = false := by simpa using hk1
   rw [if_neg (by rw [hk1]; exact Bool.false_ne_true)] at h
   refine SQ (RG (MV rfl rfl (AS rfl rfl (NL (TN (RT ?_))))))
   obtain rfl := oI h
   exact WQ.ret1 rfl rfl H.ext rfl
  ·
   replace hk1 : p0.2.2.1 = true := by simpa using hk1
   rw [if_pos hk1] at h
   refine SK (TN (SQ (SQ ?_)))
   obtain ⟨o2, e3, h⟩ := bnd h
   refine WC.cutX (fun e w => ∃ (b4 : Bool) (M : Mem), e = [(3, S p0.2.2.2), (26, Value.bool b4)] ∧ St w0 M0 M [] w ∧ some b4 = some o2) [] ?_ ?_ (trivial)
   ·
    refine RG (ST (Ex.fieldAddr Tryz.underlying85 rfl Tryz.sizeOf3 (by decide) rfl) rfl (ST (Ex.load1 H rfl (by repeat first | exact kMh | apply kMt) Tryz.isAgg3 (by rfl)) rfl ?_))
    by_cases hk5 : p0.2.1 = (0 : Int)
    ·
     rw [if_pos hk5] at e3
     by_cases hk6 : (6 : Int) ≤ (p0.2.2.2.length : Int)
     ·
      rw [if_pos hk6] at e3
      obtain ⟨s7, hxs7, e3⟩ := bnd e3
      obtain ⟨b8, hx9, e3⟩ := bnd e3
      refine WR.stepE (v' := .bool true) (Ex.eql rfl rfl) (congrArg Value.bool (decide_eq_true hk5)) (Wn.none rfl) rfl rfl (MV rfl rfl (SG (Ex.move rfl) rfl rfl rfl (SG (Ex.lenStr Tryz.underlying9 rfl) rfl rfl rfl (WR.stepE (v' := .bool true) (Ex.geq rfl rfl) (congrArg Value.bool (decide_eq_true hk6)) (Wn.some rfl rfl rfl) rfl rfl (PT rfl rfl rfl (MV rfl rfl (SG (Ex.move rfl) rfl rfl rfl (SG (Ex.sliceH Tryz.underlying9 rfl rfl hxs7) rfl rfl rfl (WR.call H (basic_Same_ct hx9) rfl trivial (Wn.some rfl rfl rfl) rfl ?_)))))))))
      intro v25 M w H hle hR
      obtain rfl := hR
      refine PT rfl rfl rfl (NL ?_)
      exact WQ.meetN [(3, _), (26, _)] ⟨rfl, rfl, trivial⟩ ⟨_, _, rfl, (H.pick (L' := []) (by repeat first | exact kPn | refine kPc (by repeat first | exact .head | apply Rem.tail) ?_)), e3⟩
     ·
      rw [if_neg hk6] at e3
      refine WR.stepE (v' := .bool true) (Ex.eql rfl rfl) (congrArg Value.bool (decide_eq_true hk5)) (Wn.none rfl) rfl rfl (MV rfl rfl (SG (Ex.move rfl) rfl rfl rfl (SG (Ex.lenStr Tryz.underlying9 rfl) rfl rfl rfl (WR.stepE (v' := .bool false) (Ex.geq rfl rfl) (congrArg Value.bool (decide_eq_false hk6)) (Wn.some rfl rfl rfl) rfl rfl (PT rfl rfl rfl (MV rfl rfl (WR.skipN 3 rfl rfl (PF rfl rfl rfl (NL ?_)))))))))
      exact WQ.meetN [(3, _), (26, _)] ⟨rfl, rfl, trivial⟩ ⟨_, _, rfl, (H.pick (L' := []) (by repeat first | exact kPn | refine kPc (by repeat first | exact .head | apply Rem.tail) ?_)), e3⟩
    ·
     rw [if_neg hk5] at e3
     refine WR.stepE (v' := .bool false) (Ex.eql rfl rfl) (congrArg Value.bool (decide_eq_false hk5)) (Wn.none rfl) rfl rfl (MV rfl rfl (WR.skipN 3 rfl rfl (PF rfl rfl rfl (MV rfl rfl (WR.skipN 3 rfl rfl (PF rfl rfl rfl (NL ?_)))))))
     exact WQ.meetN [(3, _), (26, _)] ⟨rfl, rfl, trivial⟩ ⟨_, _, rfl, (H.pick (L' := []) (by repeat first | exact kPn | refine kPc (by repeat first | exact .head | apply Rem.tail) ?_)), e3⟩
   ·
    rintro e w ⟨b4, M, rfl, H, q10⟩
    obtain rfl := oI q10
    refine TN ?_
    obtain ⟨o11, e12, h⟩ := bnd h
    refine WC.cutX (fun e w => ∃ (s13 : List UInt8) (M : Mem), e = [(3, S s13)] ∧ St w0 M0 M [] w ∧ some s13 = some o11) [] ?_ ?_ (trivial)
    ·
     refine WC.condB rfl (fun hk14 => ?_) (fun hk14 => ?_)
     ·
      subst hk14
      rw [if_pos rfl] at e12
      obtain ⟨s15, hxs15, e12⟩ := bnd e12
      refine RG (MV rfl rfl (ST (Ex.sliceL Tryz.underlying9 rfl rfl hxs15) rfl (AS rfl rfl (NL ?_))))
      exact WQ.meetN [(3, _)] ⟨rfl, trivial⟩ ⟨_, _, rfl, H, e12⟩
     ·
      subst hk14
      rw [if_neg Bool.false_ne_true] at e12
      refine SK ?_
      exact WQ.meetN [(3, _)] ⟨rfl, trivial⟩ ⟨_, _, rfl, H, e12⟩
    ·
     rintro e w ⟨s13, M, rfl, H, q16⟩
     obtain rfl := oI q16
     refine TN (SQ (RG (AS rfl rfl (NL (TN (SQ (SQ (RG (AS rfl rfl (NL (TN ?_)))))))))))
     obtain ⟨o17, e18, h⟩ := bnd h
     refine WC.cutX (fun e w => ∃ (l20 : List UInt8) (v21 : Value) (M : Mem), e = [(4, v21)] ∧ St w0 M0 M [RowI 5 encB v21 l20] w ∧ some l20 = some o17) [] ?_ ?_ (trivial)
     ·
      refine BL ?_
      replace H := H.newRow 5 encB
      refine WC.loopP (fun m e w => ∃ (l23 : List UInt8) (v24 : Value) (n25 : Int) (M : Mem), e = [(3, S s13), (4, v24), (5, I n25)] ∧ St w0 M0 M [RowI 5 encB v24 l23] w ∧ media_piece_text_L1 s13 m l23 n25 = some o17) FU [(3, _), (4, _), (5, _)] ⟨rfl, rfl, rfl, trivial⟩ ⟨_, _, _, _, rfl, H, e18⟩ ?_
      rintro m26 e w ⟨l23, v24, n25, M, rfl, H, e18⟩
      rcases m26 with _ | m26
      · rw [media_piece_text_L1] at e18; cases e18
      rw [media_piece_text_L1] at e18
      refine SQ (SQ (RG (MV rfl rfl (MV rfl rfl (ST (Ex.lenStr Tryz.underlying9 rfl) rfl (ST (Ex.lss rfl rfl) rfl (NL (TN ?_))))))))
      refine WC.condB rfl (fun hk28 => ?_) (fun hk28 => ?_)
      ·
       replace hk28 : n25 < (s13.length : Int) := of_decide_eq_true hk28
       rw [if_pos hk28] at e18
       refine SK (TN (SQ (BL (SQ (SQ ?_)))))
       obtain ⟨c29, hxc29, e18⟩ := bnd e18
       refine RG (MV rfl rfl (MV rfl rfl (ST (Ex.idxStrC Tryz.underlying9 rfl rfl hxc29) rfl (ST (Ex.eqlB (c := c29) (d := 37) rfl rfl) rfl (NL (TN ?_))))))
       obtain ⟨o30, e31, e18⟩ := bnd e18
       refine WC.cutX (fun e w => ∃ (l33 : List UInt8) (v34 : Value) (n35 : Int) (M : Mem), e = [(3, S s13), (4, v34), (5, I n35)] ∧ St w0 M0 M [RowI 5 encB v34 l33] w ∧ some (.inl (l33, n35)) = some o30) [(1, fun e w => ∃ (l37 : List UInt8) (v38 : Value) (n39 : Int) (M : Mem), e = [(3, S s13), (4, v38), (5, I n39)] ∧ St w0 M0 M [RowI 5 encB v38 l37] w ∧ some (.inr (l37, n39)) = some o30)] ?_ ?_ (⟨?_, trivial⟩)
       ·
        refine WC.condB rfl (fun hk40 => ?_) (fun hk40 => ?_)
        ·
         replace hk40 : c29 = 37 := of_decide_eq_true hk40
         rw [if_pos hk40] at e31
         refine SQ ?_
         obtain ⟨n41, hxn41, e31⟩ := bnd e31
         obtain ⟨s42, hxs42, e31⟩ := bnd e31
         obtain ⟨⟨c43, b44⟩, hx45, e31⟩ := bnd e31
         try dsimp only at e31
         refine RG (MV rfl rfl (MV rfl rfl (ST (Ex.addC rfl rfl hxn41) rfl (ST (Ex.sliceL Tryz.underlying9 rfl rfl hxs42) rfl (WR.call H (basic_Pair_ct hx45) rfl trivial (Wn.none rfl) rfl ?_)))))
         intro v44 M w H hle hR
         try dsimp only at hR
         obtain rfl := hR
         refine MV rfl rfl (ST (Ex.extract rfl rfl) rfl (ST (Ex.extract rfl rfl) rfl (AS rfl rfl (AS rfl rfl (NL (TN (SQ (RG (MV rfl rfl (NL (TN ?_)))))))))))
         refine WC.condB rfl (fun hk46 => ?_) (fun hk46 => ?_)
         ·
          subst hk46
          rw [if_pos rfl] at e31
          refine SQ ?_
          obtain ⟨l47, hxl47, e31⟩ := bnd e31
          refine RG (MV rfl rfl (MV rfl rfl (WR.lit (enc := encB) xty93 ([c43] : List UInt8) H rfl (by rfl) (fun _ => rfl) rfl rfl (Wn.none rfl) rfl ?_)))
          intro v50 M w H hle hs50
          refine WR.appC (l := l23) xty93 rfl (fun _ => rfl) H rfl (fun _ => by repeat first | exact .head | apply Upd.tail) rfl (hs50) hxl47 (Wn.none rfl) rfl ?_
          intro v51 w H
          refine AS rfl rfl (NL (TN (SQ ?_)))
          obtain ⟨n48, hxn48, e31⟩ := bnd e31
          refine RG (MV rfl rfl (ST (Ex.addC rfl rfl hxn48) rfl (AS rfl rfl (NL (TN (WC.exit ?_))))))
          exact WQ.meetX rfl [(3, _), (4, _), (5, _)] ⟨rfl, rfl, rfl, trivial⟩ ⟨_, _, _, _, rfl, H, e31⟩
         ·
          subst hk46
          rw [if_neg Bool.false_ne_true] at e31
          refine SK ?_
          exact WQ.meetN [(3, _), (4, _), (5, _)] ⟨rfl, rfl, rfl, trivial⟩ ⟨_, _, _, _, rfl, H, e31⟩
        ·
         replace hk40 : ¬ (c29 = 37) := of_decide_eq_false hk40
         rw [if_neg hk40] at e31
         refine SK ?_
         exact WQ.meetN [(3, _), (4, _), (5, _)] ⟨rfl, rfl, rfl, trivial⟩ ⟨_, _, _, _, rfl, H, e31⟩
       ·
        rintro e w ⟨l33, v34, n35, M, rfl, H, q49⟩
        obtain rfl := oI q49
        try dsimp only at e18
        refine TN ?_
        obtain ⟨c50, hxc50, e18⟩ := bnd e18
        obtain ⟨l51, hxl51, e18⟩ := bnd e18
        refine RG (MV rfl rfl (MV rfl rfl (MV rfl rfl (ST (Ex.idxStrC Tryz.underlying9 rfl rfl hxc50) rfl (WR.lit (enc := encB) xty93 ([c50] : List UInt8) H rfl (by rfl) (fun _ => rfl) rfl rfl (Wn.none rfl) rfl ?_)))))
        intro v58 M w H hle hs58
        refine WR.appC (l := l33) xty93 rfl (fun _ => rfl) H rfl (fun _ => by repeat first | exact .head | apply Upd.tail) rfl (hs58) hxl51 (Wn.none rfl) rfl ?_
        intro v59 w H
        refine AS rfl rfl (NL (IB (TN ?_)))
        obtain ⟨n52, hxn52, e18⟩ := bnd e18
        refine RG (MV rfl rfl (ST (Ex.addC rfl rfl hxn52) rfl (AS rfl rfl (NL ?_))))
        exact WQ.againP m26 [(3, _), (4, _), (5, _)] ⟨rfl, rfl, rfl, trivial⟩ ⟨_, _, _, _, rfl, H, e18⟩ (Nat.lt_succ_self _)
       ·
        rintro e w ⟨l37, v38, n39, M, rfl, H, q53⟩
        obtain rfl := oI q53
        try dsimp only at e18
        refine WQ.thenExit (WQ.exitHere (TN ?_))
        obtain ⟨n54, hxn54, e18⟩ := bnd e18
        refine RG (MV rfl rfl (ST (Ex.addC rfl rfl hxn54) rfl (AS rfl rfl (NL ?_))))
        exact WQ.againP m26 [(3, _), (4, _), (5, _)] ⟨rfl, rfl, rfl, trivial⟩ ⟨_, _, _, _, rfl, H, e18⟩ (Nat.lt_succ_self _)
      ·
       replace hk28 : ¬ (n25 < (s13.length : Int)) := of_decide_eq_false hk28
       rw [if_neg hk28] at e18
       refine WC.exit (WQ.thenExit (WQ.thenExit (WQ.exitHere ?_)))
       exact WQ.meetN [(4, _)] ⟨rfl, trivial⟩ ⟨_, _, _, rfl, H, e18⟩
     ·
      rintro e w ⟨l20, v21, M, rfl, H, q56⟩
      obtain rfl := oI q56
      refine TN (SQ (RG (MV rfl rfl ?_)))
      obtain ⟨M, hle, hs57, H⟩ := H.freezeRow (v := v21) (enc := encB) (t := 5) (by repeat first | exact .head | apply Rem.tail)
      refine ST (Ex.toStr Tryz.underlying93 Tryz.underlying5 Tryz.underlying9 H (hs57) rfl) rfl (AS rfl rfl (NL (TN (RT ?_))))
      obtain rfl := oI h
      exact WQ.ret1 rfl rfl H.ext rfl
end Go.Proofs.YtegkhjbajijidaaGreatDoor
end
