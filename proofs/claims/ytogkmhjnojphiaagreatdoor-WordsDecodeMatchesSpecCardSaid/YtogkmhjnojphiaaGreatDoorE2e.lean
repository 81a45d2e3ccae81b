/-
  Wct2, Wct3, Lp, B64Law, Wa, Wb, Wc, Wd, We, Wf: own texts of this repository (wip/tpl, wip/plans), merged and shaken by wip/tools/pack.py.
-/
import Derived.KernelRfl
import Derived.Lib.CountLaws
import Derived.Test.YtogkmhjnojphiaaGreatDoorE2d
set_option maxRecDepth 100000
section
set_option maxRecDepth 100000
set_option linter.unusedVariables false
set_option linter.unusedSimpArgs false
namespace Go.Proofs.YtogkmhjnojphiaaGreatDoor
open Go Go.RowKit Go.Ph Go.Ph.Pl Go.Ph.Pf
set_option maxHeartbeats 4000000 in
theorem words_read_ct {p0 : List UInt8} {r : (List UInt8 × Int × Bool)} (h : words_read p0 = some r) : Ct Tryz.prog 50 [S p0] (fun M => GlF (fun w => ∃ m, w.cell? ⟨2, 0, none⟩ = some (.int .i64 m)) M) (fun v M => v = Value.tuple #[S r.1, I r.2.1, Value.bool r.2.2]) := by
  refine Ct.of Tryz.func50 (enters Tryz.func50 (by kernel_rfl) rfl) rfl rfl rfl ?_
  intro w0 M0 H hp
  have hg_maxl := hp
  unfold words_read at h
  refine SQ (RG (AS rfl rfl (AS rfl rfl (AS rfl rfl (NL (TN (SQ (SQ ?_))))))))
  obtain ⟨b1, hx2, h⟩ := bnd h
  refine RG (MV rfl rfl (WR.call H (strings_HasPrefix_ct hx2) rfl trivial (Wn.none rfl) rfl ?_))
  intro v11 M w H hle hR
  replace hg_maxl := hg_maxl.mono hle
  obtain rfl := hR
  refine ST (Ex.not rfl) rfl (NL (TN ?_))
  refine WC.condB rfl (fun hk3 => ?_) (fun hk3 => ?_)
  ·
   replace hk3 : b1 = false := by simpa using hk3
   subst hk3
   rw [if_neg Bool.false_ne_true] at h
   refine SQ (RG (AS rfl rfl (AS rfl rfl (AS rfl rfl (NL (TN (RT ?_)))))))
   obtain rfl := Option.some.inj h
   exact WQ.ret3 rfl rfl rfl rfl H.ext rfl
  ·
   replace hk3 : b1 = true := by simpa using hk3
   subst hk3
   rw [if_pos rfl] at h
   refine SK (TN (SQ ?_))
   obtain ⟨s4, hxs4, h⟩ := bnd h
   obtain ⟨l5, hx6, h⟩ := bnd h
   refine RG (MV rfl rfl (MV rfl rfl (ST (Ex.lenStr Tryz.underlying9 rfl) rfl (ST (Ex.min2 rfl rfl) rfl (ST (Ex.sliceC Tryz.underlying9 rfl rfl rfl hxs4) rfl (WR.call H (strings_SplitN_ct hx6) rfl (hg_maxl) (Wn.none rfl) rfl ?_))))))
   intro v18 M w H hle hR
   replace hg_maxl := hg_maxl.mono hle
   have f18_0 := hR
   refine AS rfl rfl (NL (TN (SQ (SQ ?_))))
   obtain ⟨o7, e8, h⟩ := bnd h
   refine WC.cutX (fun e w => ∃ (b9 : Bool) (M : Mem), e = [(5, v18), (28, Value.bool b9)] ∧ St w0 M0 M [] w ∧ GlF (fun w => ∃ m, w.cell? ⟨2, 0, none⟩ = some (.int .i64 m)) M ∧ Sl M encS v18 l5 ∧ some b9 = some o7) [] ?_ ?_ (trivial)
   ·
    refine RG (MV rfl rfl (ST (Ex.lenSl Tryz.underlying43 f18_0 rfl) rfl ?_))
    by_cases hk10 : (l5.length : Int) < (4 : Int)
    ·
     rw [if_pos hk10] at e8
     refine WR.stepE (v' := .bool true) (Ex.lss rfl rfl) (congrArg Value.bool (decide_eq_true hk10)) (Wn.none rfl) rfl rfl (MV rfl rfl (WR.skipN 5 rfl rfl (PT rfl rfl rfl (NL ?_))))
     exact WQ.meetN [(5, _), (28, _)] ⟨rfl, rfl, trivial⟩ ⟨_, _, rfl, H, hg_maxl, f18_0, e8⟩
    ·
     rw [if_neg hk10] at e8
     obtain ⟨a11, hxa11, e8⟩ := bnd e8
     obtain ⟨b24, o24, ha24, hc24⟩ := f18_0.atC hxa11
     obtain ⟨b12, hx13, e8⟩ := bnd e8
     refine WR.stepE (v' := .bool false) (Ex.lss rfl rfl) (congrArg Value.bool (decide_eq_false hk10)) (Wn.none rfl) rfl rfl (MV rfl rfl (SG (Ex.move rfl) rfl rfl rfl (SG (Ex.idxAt ha24 Tryz.underlying43 Tryz.sizeOf9 rfl rfl) rfl rfl rfl (SG (Ex.loadM H rfl hc24 Tryz.isAgg9) rfl rfl rfl (WR.call H (strings_HasPrefix_ct hx13) rfl trivial (Wn.some rfl rfl rfl) rfl ?_)))))
     intro v26 M w H hle hR
     replace hg_maxl := hg_maxl.mono hle
     replace f18_0 := f18_0.mono hle
     replace hc24 := hc24.mono hle
     obtain rfl := hR
     refine SG (Ex.not rfl) rfl rfl rfl (PF rfl rfl rfl (NL ?_))
     exact WQ.meetN [(5, _), (28, _)] ⟨rfl, rfl, trivial⟩ ⟨_, _, rfl, H, hg_maxl, f18_0, e8⟩
   ·
    rintro e w ⟨b9, M, rfl, H, hg_maxl, f18_0, q14⟩
    obtain rfl := Option.some.inj q14
    refine TN ?_
    refine WC.condB rfl (fun hk15 => ?_) (fun hk15 => ?_)
    ·
     subst hk15
     rw [if_pos rfl] at h
     refine SQ (RG (AS rfl rfl (AS rfl rfl (AS rfl rfl (NL (TN (RT ?_)))))))
     obtain rfl := Option.some.inj h
     exact WQ.ret3 rfl rfl rfl rfl H.ext rfl
    ·
     subst hk15
     rw [if_neg Bool.false_ne_true] at h
     refine SK (TN (SQ ?_))
     obtain ⟨a16, hxa16, h⟩ := bnd h
     obtain ⟨b31, o31, ha31, hc31⟩ := f18_0.atC hxa16
     obtain ⟨a17, hxa17, h⟩ := bnd h
     obtain ⟨b34, o34, ha34, hc34⟩ := f18_0.atC hxa17
     obtain ⟨⟨l18, b19⟩, hx20, h⟩ := bnd h
     try dsimp only at h
     refine WC.draw (m := 12) rfl rfl H ?_
     intro w H
     refine WA.take (i := 0) rfl (by kernel_rfl) (by kernel_rfl) (by kernel_rfl) (fun _ => Ex.move rfl) (Wn.none rfl) rfl rfl (fun _ _ => rfl) (WA.take (i := 1) rfl (by kernel_rfl) (by kernel_rfl) (by kernel_rfl) (fun _ => Ex.idxAt ha31 Tryz.underlying43 Tryz.sizeOf9 rfl rfl) (Wn.none rfl) rfl rfl (fun _ _ => rfl) (WA.take (i := 3) rfl (by kernel_rfl) (by kernel_rfl) (by kernel_rfl) (fun _ => Ex.move rfl) (Wn.none rfl) rfl rfl (fun _ _ => rfl) (WA.take (i := 4) rfl (by kernel_rfl) (by kernel_rfl) (by kernel_rfl) (fun _ => Ex.idxAt ha34 Tryz.underlying43 Tryz.sizeOf9 rfl rfl) (Wn.none rfl) rfl rfl (fun _ _ => rfl) (WA.takeM (i := 2) [5] rfl (by kernel_rfl) (by kernel_rfl) (by kernel_rfl) (Ex.loadM H rfl hc31 Tryz.isAgg9) (Wn.none rfl) rfl rfl (fun _ _ => rfl) (WA.seq (fuel := 4) [5, 6, 7] rfl (by kernel_rfl) (ST (Ex.loadM H rfl hc34 Tryz.isAgg9) rfl (WR.call H (words_bytesOf_ct hx20) rfl (hg_maxl) (Wn.none rfl) rfl ?_)))))))
     intro v36 M w H hle hR
     replace hg_maxl := hg_maxl.mono hle
     replace f18_0 := f18_0.mono hle
     replace hc31 := hc31.mono hle
     replace hc34 := hc34.mono hle
     try dsimp only at hR
     obtain ⟨x36_0, rfl, f36_0⟩ := hR
     refine MV rfl rfl (NA (WA.take (i := 8) rfl (by kernel_rfl) (by kernel_rfl) (by kernel_rfl) (fun _ => Ex.extract rfl rfl) (Wn.none rfl) rfl rfl (fun _ _ => rfl) (WA.take (i := 9) rfl (by kernel_rfl) (by kernel_rfl) (by kernel_rfl) (fun _ => Ex.extract rfl rfl) (Wn.none rfl) rfl rfl (fun _ _ => rfl) (WA.seq (fuel := 0) [10, 11] rfl (by kernel_rfl) (AS rfl rfl (AS rfl rfl (NA (WA.done (by kernel_rfl) (TN (SQ ?_))))))))))
     obtain ⟨a21, hxa21, h⟩ := bnd h
     obtain ⟨b41, o41, ha41, hc41⟩ := f18_0.atC hxa21
     obtain ⟨⟨s22, ⟨n23, n24⟩⟩, hx25, h⟩ := bnd h
     try dsimp only at h
     refine RG (MV rfl rfl (ST (Ex.idxAt ha41 Tryz.underlying43 Tryz.sizeOf9 rfl rfl) rfl (ST (Ex.loadM H rfl hc41 Tryz.isAgg9) rfl (MV rfl rfl (WR.call H (charset_Decode_ct hx25) rfl (f36_0) (Wn.none rfl) rfl ?_)))))
     intro v44 M w H hle hR
     replace hg_maxl := hg_maxl.mono hle
     replace f18_0 := f18_0.mono hle
     replace hc31 := hc31.mono hle
     replace hc34 := hc34.mono hle
     replace f36_0 := f36_0.mono hle
     replace hc41 := hc41.mono hle
     try dsimp only at hR
     obtain rfl := hR
     refine MV rfl rfl (ST (Ex.extract rfl rfl) rfl (ST (Ex.extract rfl rfl) rfl (WR.alloc [_, _] H Tryz.zeroValue24 rfl (Wn.none rfl) rfl ?_)))
     intro b9 w H
     refine AS rfl rfl (WR.store [_, _] H rfl rfl rfl (by repeat first | exact .head | apply Upd.tail) Tryz.sizeOf24 rfl (by rfl) (by rfl) (Wn.none rfl) ?_)
     intro w H
     refine NL (TN (SQ ?_))
     obtain ⟨o26, e27, h⟩ := bnd h
     refine WC.cutX (fun e w => ∃ (s28 : List UInt8) (n29 : Int) (b30 : Bool) (M : Mem), e = [(2, S s28), (3, I n29), (4, Value.bool b30)] ∧ St w0 M0 M [] w ∧ GlF (fun w => ∃ m, w.cell? ⟨2, 0, none⟩ = some (.int .i64 m)) M ∧ some (s28, n29, b30) = some o26) [] ?_ ?_ (trivial)
     ·
      obtain ⟨a31, hxa31, e27⟩ := bnd e27
      obtain ⟨b49, o49, ha49, hc49⟩ := f18_0.atC hxa31
      obtain ⟨n32, hxn32, e27⟩ := bnd e27
      obtain ⟨a33, hxa33, e27⟩ := bnd e27
      obtain ⟨b54, o54, ha54, hc54⟩ := f18_0.atC hxa33
      obtain ⟨n34, hxn34, e27⟩ := bnd e27
      obtain ⟨a35, hxa35, e27⟩ := bnd e27
      obtain ⟨b59, o59, ha59, hc59⟩ := f18_0.atC hxa35
      obtain ⟨n36, hxn36, e27⟩ := bnd e27
      obtain ⟨n37, hxn37, e27⟩ := bnd e27
      rcases b19 with _ | _
      ·
       rw [if_neg Bool.false_ne_true] at e27
       refine WC.sub (e' := [(5, _), (7, _), (8, _), (9, _)]) ⟨rfl, rfl, rfl, rfl, trivial⟩ (WC.draw (m := 26) rfl rfl H ?_)
       intro w H
       refine WA.conf (c := 26) [(47, S s22, []), (48, v18, []), (49, ptr b49 o49, [1]), (50, S a31, [2]), (51, I (a31.length : Int), [3]), (52, I n32, [4]), (53, v18, []), (54, ptr b54 o54, [6]), (55, S a33, [7]), (56, I (a33.length : Int), [8]), (57, I n34, [5, 9]), (58, v18, []), (59, ptr b59 o59, [11]), (60, S a35, [12]), (61, I (a35.length : Int), [13]), (62, I n36, [10, 14]), (63, I n37, [15]), (64, Value.bool false, []), (65, Value.bool false, [17]), (66, undef, [18]), (67, undef, [18]), (68, undef, [18]), (69, Value.bool false, [18, 21]), (2, S s22, [0]), (3, I n37, [16]), (4, Value.bool false, [22])] rfl rfl (by kernel_rfl) rfl rfl H ⟨⟨_, rfl, fun E w M H hle Qk kk => ?_⟩, ⟨_, rfl, fun E w M H hle Qk kk => ?_⟩, ⟨_, rfl, fun E w M H hle Qk kk => ?_⟩, ⟨_, rfl, fun E w M H hle Qk kk => ?_⟩, ⟨_, rfl, fun E w M H hle Qk kk => ?_⟩, ⟨_, rfl, fun E w M H hle Qk kk => ?_⟩, ⟨_, rfl, fun E w M H hle Qk kk => ?_⟩, ⟨_, rfl, fun E w M H hle Qk kk => ?_⟩, ⟨_, rfl, fun E w M H hle Qk kk => ?_⟩, ⟨_, rfl, fun E w M H hle Qk kk => ?_⟩, ⟨_, rfl, fun E w M H hle Qk kk => ?_⟩, ⟨_, rfl, fun E w M H hle Qk kk => ?_⟩, ⟨_, rfl, fun E w M H hle Qk kk => ?_⟩, ⟨_, rfl, fun E w M H hle Qk kk => ?_⟩, ⟨_, rfl, fun E w M H hle Qk kk => ?_⟩, ⟨_, rfl, fun E w M H hle Qk kk => ?_⟩, ⟨_, rfl, fun E w M H hle Qk kk => ?_⟩, ⟨_, rfl, fun E w M H hle Qk kk => ?_⟩, ⟨_, rfl, fun E w M H hle Qk kk => ?_⟩, ⟨_, rfl, fun E w M H hle Qk kk => ?_⟩, ⟨_, rfl, fun E w M H hle Qk kk => ?_⟩, ⟨_, rfl, fun E w M H hle Qk kk => ?_⟩, ⟨_, rfl, fun E w M H hle Qk kk => ?_⟩, ⟨_, rfl, fun E w M H hle Qk kk => ?_⟩, ⟨_, rfl, fun E w M H hle Qk kk => ?_⟩, ⟨_, rfl, fun E w M H hle Qk kk => ?_⟩, trivial⟩ ?_
       ·
        have hg_maxl := hg_maxl.mono hle
        have f18_0 := f18_0.mono hle
        have hc31 := hc31.mono hle
        have hc34 := hc34.mono hle
        have f36_0 := f36_0.mono hle
        have hc41 := hc41.mono hle
        have hc49 := hc49.mono hle
        have hc54 := hc54.mono hle
        have hc59 := hc59.mono hle
        refine MV rfl rfl ?_
        exact WR.nil (kk _ _ H (Mem.le.refl _))
       ·
        have hg_maxl := hg_maxl.mono hle
        have f18_0 := f18_0.mono hle
        have hc31 := hc31.mono hle
        have hc34 := hc34.mono hle
        have f36_0 := f36_0.mono hle
        have hc41 := hc41.mono hle
        have hc49 := hc49.mono hle
        have hc54 := hc54.mono hle
        have hc59 := hc59.mono hle
        refine MV rfl rfl ?_
        exact WR.nil (kk _ _ H (Mem.le.refl _))
       ·
        have hg_maxl := hg_maxl.mono hle
        have f18_0 := f18_0.mono hle
        have hc31 := hc31.mono hle
        have hc34 := hc34.mono hle
        have f36_0 := f36_0.mono hle
        have hc41 := hc41.mono hle
        have hc49 := hc49.mono hle
        have hc54 := hc54.mono hle
        have hc59 := hc59.mono hle
        refine ST (Ex.idxAt ha49 Tryz.underlying43 Tryz.sizeOf9 rfl rfl) rfl ?_
        exact WR.nil (kk _ _ H (Mem.le.refl _))
       ·
        have hg_maxl := hg_maxl.mono hle
        have f18_0 := f18_0.mono hle
        have hc31 := hc31.mono hle
        have hc34 := hc34.mono hle
        have f36_0 := f36_0.mono hle
        have hc41 := hc41.mono hle
        have hc49 := hc49.mono hle
        have hc54 := hc54.mono hle
        have hc59 := hc59.mono hle
        refine ST (Ex.loadM H rfl hc49 Tryz.isAgg9) rfl ?_
        exact WR.nil (kk _ _ H (Mem.le.refl _))
       ·
        have hg_maxl := hg_maxl.mono hle
        have f18_0 := f18_0.mono hle
        have hc31 := hc31.mono hle
        have hc34 := hc34.mono hle
        have f36_0 := f36_0.mono hle
        have hc41 := hc41.mono hle
        have hc49 := hc49.mono hle
        have hc54 := hc54.mono hle
        have hc59 := hc59.mono hle
        refine ST (Ex.lenStr Tryz.underlying9 rfl) rfl ?_
        exact WR.nil (kk _ _ H (Mem.le.refl _))
       ·
        have hg_maxl := hg_maxl.mono hle
        have f18_0 := f18_0.mono hle
        have hc31 := hc31.mono hle
        have hc34 := hc34.mono hle
        have f36_0 := f36_0.mono hle
        have hc41 := hc41.mono hle
        have hc49 := hc49.mono hle
        have hc54 := hc54.mono hle
        have hc59 := hc59.mono hle
        refine ST (Ex.addC rfl rfl hxn32) rfl ?_
        exact WR.nil (kk _ _ H (Mem.le.refl _))
       ·
        have hg_maxl := hg_maxl.mono hle
        have f18_0 := f18_0.mono hle
        have hc31 := hc31.mono hle
        have hc34 := hc34.mono hle
        have f36_0 := f36_0.mono hle
        have hc41 := hc41.mono hle
        have hc49 := hc49.mono hle
        have hc54 := hc54.mono hle
        have hc59 := hc59.mono hle
        refine MV rfl rfl ?_
        exact WR.nil (kk _ _ H (Mem.le.refl _))
       ·
        have hg_maxl := hg_maxl.mono hle
        have f18_0 := f18_0.mono hle
        have hc31 := hc31.mono hle
        have hc34 := hc34.mono hle
        have f36_0 := f36_0.mono hle
        have hc41 := hc41.mono hle
        have hc49 := hc49.mono hle
        have hc54 := hc54.mono hle
        have hc59 := hc59.mono hle
        refine ST (Ex.idxAt ha54 Tryz.underlying43 Tryz.sizeOf9 rfl rfl) rfl ?_
        exact WR.nil (kk _ _ H (Mem.le.refl _))
       ·
        have hg_maxl := hg_maxl.mono hle
        have f18_0 := f18_0.mono hle
        have hc31 := hc31.mono hle
        have hc34 := hc34.mono hle
        have f36_0 := f36_0.mono hle
        have hc41 := hc41.mono hle
        have hc49 := hc49.mono hle
        have hc54 := hc54.mono hle
        have hc59 := hc59.mono hle
        refine ST (Ex.loadM H rfl hc54 Tryz.isAgg9) rfl ?_
        exact WR.nil (kk _ _ H (Mem.le.refl _))
       ·
        have hg_maxl := hg_maxl.mono hle
        have f18_0 := f18_0.mono hle
        have hc31 := hc31.mono hle
        have hc34 := hc34.mono hle
        have f36_0 := f36_0.mono hle
        have hc41 := hc41.mono hle
        have hc49 := hc49.mono hle
        have hc54 := hc54.mono hle
        have hc59 := hc59.mono hle
        refine ST (Ex.lenStr Tryz.underlying9 rfl) rfl ?_
        exact WR.nil (kk _ _ H (Mem.le.refl _))
       ·
        have hg_maxl := hg_maxl.mono hle
        have f18_0 := f18_0.mono hle
        have hc31 := hc31.mono hle
        have hc34 := hc34.mono hle
        have f36_0 := f36_0.mono hle
        have hc41 := hc41.mono hle
        have hc49 := hc49.mono hle
        have hc54 := hc54.mono hle
        have hc59 := hc59.mono hle
        refine ST (Ex.addC rfl rfl hxn34) rfl ?_
        exact WR.nil (kk _ _ H (Mem.le.refl _))
       ·
        have hg_maxl := hg_maxl.mono hle
        have f18_0 := f18_0.mono hle
        have hc31 := hc31.mono hle
        have hc34 := hc34.mono hle
        have f36_0 := f36_0.mono hle
        have hc41 := hc41.mono hle
        have hc49 := hc49.mono hle
        have hc54 := hc54.mono hle
        have hc59 := hc59.mono hle
        refine MV rfl rfl ?_
        exact WR.nil (kk _ _ H (Mem.le.refl _))
       ·
        have hg_maxl := hg_maxl.mono hle
        have f18_0 := f18_0.mono hle
        have hc31 := hc31.mono hle
        have hc34 := hc34.mono hle
        have f36_0 := f36_0.mono hle
        have hc41 := hc41.mono hle
        have hc49 := hc49.mono hle
        have hc54 := hc54.mono hle
        have hc59 := hc59.mono hle
        refine ST (Ex.idxAt ha59 Tryz.underlying43 Tryz.sizeOf9 rfl rfl) rfl ?_
        exact WR.nil (kk _ _ H (Mem.le.refl _))
       ·
        have hg_maxl := hg_maxl.mono hle
        have f18_0 := f18_0.mono hle
        have hc31 := hc31.mono hle
        have hc34 := hc34.mono hle
        have f36_0 := f36_0.mono hle
        have hc41 := hc41.mono hle
        have hc49 := hc49.mono hle
        have hc54 := hc54.mono hle
        have hc59 := hc59.mono hle
        refine ST (Ex.loadM H rfl hc59 Tryz.isAgg9) rfl ?_
        exact WR.nil (kk _ _ H (Mem.le.refl _))
       ·
        have hg_maxl := hg_maxl.mono hle
        have f18_0 := f18_0.mono hle
        have hc31 := hc31.mono hle
        have hc34 := hc34.mono hle
        have f36_0 := f36_0.mono hle
        have hc41 := hc41.mono hle
        have hc49 := hc49.mono hle
        have hc54 := hc54.mono hle
        have hc59 := hc59.mono hle
        refine ST (Ex.lenStr Tryz.underlying9 rfl) rfl ?_
        exact WR.nil (kk _ _ H (Mem.le.refl _))
       ·
        have hg_maxl := hg_maxl.mono hle
        have f18_0 := f18_0.mono hle
        have hc31 := hc31.mono hle
        have hc34 := hc34.mono hle
        have f36_0 := f36_0.mono hle
        have hc41 := hc41.mono hle
        have hc49 := hc49.mono hle
        have hc54 := hc54.mono hle
        have hc59 := hc59.mono hle
        refine ST (Ex.addC rfl rfl hxn36) rfl ?_
        exact WR.nil (kk _ _ H (Mem.le.refl _))
       ·
        have hg_maxl := hg_maxl.mono hle
        have f18_0 := f18_0.mono hle
        have hc31 := hc31.mono hle
        have hc34 := hc34.mono hle
        have f36_0 := f36_0.mono hle
        have hc41 := hc41.mono hle
        have hc49 := hc49.mono hle
        have hc54 := hc54.mono hle
        have hc59 := hc59.mono hle
        refine ST (Ex.addC rfl rfl hxn37) rfl ?_
        exact WR.nil (kk _ _ H (Mem.le.refl _))
       ·
        have hg_maxl := hg_maxl.mono hle
        have f18_0 := f18_0.mono hle
        have hc31 := hc31.mono hle
        have hc34 := hc34.mono hle
        have f36_0 := f36_0.mono hle
        have hc41 := hc41.mono hle
        have hc49 := hc49.mono hle
        have hc54 := hc54.mono hle
        have hc59 := hc59.mono hle
        refine MV rfl rfl ?_
        exact WR.nil (kk _ _ H (Mem.le.refl _))
       ·
        have hg_maxl := hg_maxl.mono hle
        have f18_0 := f18_0.mono hle
        have hc31 := hc31.mono hle
        have hc34 := hc34.mono hle
        have f36_0 := f36_0.mono hle
        have hc41 := hc41.mono hle
        have hc49 := hc49.mono hle
        have hc54 := hc54.mono hle
        have hc59 := hc59.mono hle
        refine MV rfl rfl ?_
        exact WR.nil (kk _ _ H (Mem.le.refl _))
       ·
        have hg_maxl := hg_maxl.mono hle
        have f18_0 := f18_0.mono hle
        have hc31 := hc31.mono hle
        have hc34 := hc34.mono hle
        have f36_0 := f36_0.mono hle
        have hc41 := hc41.mono hle
        have hc49 := hc49.mono hle
        have hc54 := hc54.mono hle
        have hc59 := hc59.mono hle
        refine GF rfl rfl rfl ?_
        exact WR.nil (kk _ _ H (Mem.le.refl _))
       ·
        have hg_maxl := hg_maxl.mono hle
        have f18_0 := f18_0.mono hle
        have hc31 := hc31.mono hle
        have hc34 := hc34.mono hle
        have f36_0 := f36_0.mono hle
        have hc41 := hc41.mono hle
        have hc49 := hc49.mono hle
        have hc54 := hc54.mono hle
        have hc59 := hc59.mono hle
        refine GF rfl rfl rfl ?_
        exact WR.nil (kk _ _ H (Mem.le.refl _))
       ·
        have hg_maxl := hg_maxl.mono hle
        have f18_0 := f18_0.mono hle
        have hc31 := hc31.mono hle
        have hc34 := hc34.mono hle
        have f36_0 := f36_0.mono hle
        have hc41 := hc41.mono hle
        have hc49 := hc49.mono hle
        have hc54 := hc54.mono hle
        have hc59 := hc59.mono hle
        refine GF rfl rfl rfl ?_
        exact WR.nil (kk _ _ H (Mem.le.refl _))
       ·
        have hg_maxl := hg_maxl.mono hle
        have f18_0 := f18_0.mono hle
        have hc31 := hc31.mono hle
        have hc34 := hc34.mono hle
        have f36_0 := f36_0.mono hle
        have hc41 := hc41.mono hle
        have hc49 := hc49.mono hle
        have hc54 := hc54.mono hle
        have hc59 := hc59.mono hle
        refine PF rfl rfl rfl ?_
        exact WR.nil (kk _ _ H (Mem.le.refl _))
       ·
        have hg_maxl := hg_maxl.mono hle
        have f18_0 := f18_0.mono hle
        have hc31 := hc31.mono hle
        have hc34 := hc34.mono hle
        have f36_0 := f36_0.mono hle
        have hc41 := hc41.mono hle
        have hc49 := hc49.mono hle
        have hc54 := hc54.mono hle
        have hc59 := hc59.mono hle
        refine AS rfl rfl ?_
        exact WR.nil (kk _ _ H (Mem.le.refl _))
       ·
        have hg_maxl := hg_maxl.mono hle
        have f18_0 := f18_0.mono hle
        have hc31 := hc31.mono hle
        have hc34 := hc34.mono hle
        have f36_0 := f36_0.mono hle
        have hc41 := hc41.mono hle
        have hc49 := hc49.mono hle
        have hc54 := hc54.mono hle
        have hc59 := hc59.mono hle
        refine AS rfl rfl ?_
        exact WR.nil (kk _ _ H (Mem.le.refl _))
       ·
        have hg_maxl := hg_maxl.mono hle
        have f18_0 := f18_0.mono hle
        have hc31 := hc31.mono hle
        have hc34 := hc34.mono hle
        have f36_0 := f36_0.mono hle
        have hc41 := hc41.mono hle
        have hc49 := hc49.mono hle
        have hc54 := hc54.mono hle
        have hc59 := hc59.mono hle
        refine AS rfl rfl ?_
        exact WR.nil (kk _ _ H (Mem.le.refl _))
       ·
        intro w M H hle
        replace hg_maxl := hg_maxl.mono hle
        replace f18_0 := f18_0.mono hle
        replace hc31 := hc31.mono hle
        replace hc34 := hc34.mono hle
        replace f36_0 := f36_0.mono hle
        replace hc41 := hc41.mono hle
        replace hc49 := hc49.mono hle
        replace hc54 := hc54.mono hle
        replace hc59 := hc59.mono hle
        refine WA.done (by kernel_rfl) ?_
        exact WQ.meetN [(2, _), (3, _), (4, _)] ⟨rfl, rfl, rfl, trivial⟩ ⟨_, _, _, _, rfl, (H.pick (L' := []) (by repeat (first | exact Pick.nil | refine Pick.cons (by repeat first | exact .head | apply Rem.tail) ?_))), hg_maxl, e27⟩
      ·
       rw [if_pos rfl] at e27
       obtain ⟨b38, hx39, e27⟩ := bnd e27
       refine WC.sub (e' := [(5, _), (7, _), (8, _), (9, _)]) ⟨rfl, rfl, rfl, rfl, trivial⟩ (WC.draw (m := 26) rfl rfl H ?_)
       intro w H
       refine WA.conf (c := 26) [(47, S s22, []), (48, v18, []), (49, ptr b49 o49, [1]), (50, S a31, [2]), (51, I (a31.length : Int), [3]), (52, I n32, [4]), (53, v18, []), (54, ptr b54 o54, [6]), (55, S a33, [7]), (56, I (a33.length : Int), [8]), (57, I n34, [5, 9]), (58, v18, []), (59, ptr b59 o59, [11]), (60, S a35, [12]), (61, I (a35.length : Int), [13]), (62, I n36, [10, 14]), (63, I n37, [15]), (64, Value.bool true, []), (65, Value.bool true, [17]), (66, Value.agg #[I n23, I n24], [18]), (67, Value.bool b38, [18, 19]), (68, Value.bool (!b38), [18, 20]), (69, Value.bool (!b38), [18, 21]), (2, S s22, [0]), (3, I n37, [16]), (4, Value.bool (!b38), [22])] rfl rfl (by kernel_rfl) rfl rfl H ⟨⟨_, rfl, fun E w M H hle Qk kk => ?_⟩, ⟨_, rfl, fun E w M H hle Qk kk => ?_⟩, ⟨_, rfl, fun E w M H hle Qk kk => ?_⟩, ⟨_, rfl, fun E w M H hle Qk kk => ?_⟩, ⟨_, rfl, fun E w M H hle Qk kk => ?_⟩, ⟨_, rfl, fun E w M H hle Qk kk => ?_⟩, ⟨_, rfl, fun E w M H hle Qk kk => ?_⟩, ⟨_, rfl, fun E w M H hle Qk kk => ?_⟩, ⟨_, rfl, fun E w M H hle Qk kk => ?_⟩, ⟨_, rfl, fun E w M H hle Qk kk => ?_⟩, ⟨_, rfl, fun E w M H hle Qk kk => ?_⟩, ⟨_, rfl, fun E w M H hle Qk kk => ?_⟩, ⟨_, rfl, fun E w M H hle Qk kk => ?_⟩, ⟨_, rfl, fun E w M H hle Qk kk => ?_⟩, ⟨_, rfl, fun E w M H hle Qk kk => ?_⟩, ⟨_, rfl, fun E w M H hle Qk kk => ?_⟩, ⟨_, rfl, fun E w M H hle Qk kk => ?_⟩, ⟨_, rfl, fun E w M H hle Qk kk => ?_⟩, ⟨_, rfl, fun E w M H hle Qk kk => ?_⟩, ⟨_, rfl, fun E w M H hle Qk kk => ?_⟩, ⟨_, rfl, fun E w M H hle Qk kk => ?_⟩, ⟨_, rfl, fun E w M H hle Qk kk => ?_⟩, ⟨_, rfl, fun E w M H hle Qk kk => ?_⟩, ⟨_, rfl, fun E w M H hle Qk kk => ?_⟩, ⟨_, rfl, fun E w M H hle Qk kk => ?_⟩, ⟨_, rfl, fun E w M H hle Qk kk => ?_⟩, trivial⟩ ?_
       ·
        have hg_maxl := hg_maxl.mono hle
        have f18_0 := f18_0.mono hle
        have hc31 := hc31.mono hle
        have hc34 := hc34.mono hle
        have f36_0 := f36_0.mono hle
        have hc41 := hc41.mono hle
        have hc49 := hc49.mono hle
        have hc54 := hc54.mono hle
        have hc59 := hc59.mono hle
        refine MV rfl rfl ?_
        exact WR.nil (kk _ _ H (Mem.le.refl _))
       ·
        have hg_maxl := hg_maxl.mono hle
        have f18_0 := f18_0.mono hle
        have hc31 := hc31.mono hle
        have hc34 := hc34.mono hle
        have f36_0 := f36_0.mono hle
        have hc41 := hc41.mono hle
        have hc49 := hc49.mono hle
        have hc54 := hc54.mono hle
        have hc59 := hc59.mono hle
        refine MV rfl rfl ?_
        exact WR.nil (kk _ _ H (Mem.le.refl _))
       ·
        have hg_maxl := hg_maxl.mono hle
        have f18_0 := f18_0.mono hle
        have hc31 := hc31.mono hle
        have hc34 := hc34.mono hle
        have f36_0 := f36_0.mono hle
        have hc41 := hc41.mono hle
        have hc49 := hc49.mono hle
        have hc54 := hc54.mono hle
        have hc59 := hc59.mono hle
        refine ST (Ex.idxAt ha49 Tryz.underlying43 Tryz.sizeOf9 rfl rfl) rfl ?_
        exact WR.nil (kk _ _ H (Mem.le.refl _))
       ·
        have hg_maxl := hg_maxl.mono hle
        have f18_0 := f18_0.mono hle
        have hc31 := hc31.mono hle
        have hc34 := hc34.mono hle
        have f36_0 := f36_0.mono hle
        have hc41 := hc41.mono hle
        have hc49 := hc49.mono hle
        have hc54 := hc54.mono hle
        have hc59 := hc59.mono hle
        refine ST (Ex.loadM H rfl hc49 Tryz.isAgg9) rfl ?_
        exact WR.nil (kk _ _ H (Mem.le.refl _))
       ·
        have hg_maxl := hg_maxl.mono hle
        have f18_0 := f18_0.mono hle
        have hc31 := hc31.mono hle
        have hc34 := hc34.mono hle
        have f36_0 := f36_0.mono hle
        have hc41 := hc41.mono hle
        have hc49 := hc49.mono hle
        have hc54 := hc54.mono hle
        have hc59 := hc59.mono hle
        refine ST (Ex.lenStr Tryz.underlying9 rfl) rfl ?_
        exact WR.nil (kk _ _ H (Mem.le.refl _))
       ·
        have hg_maxl := hg_maxl.mono hle
        have f18_0 := f18_0.mono hle
        have hc31 := hc31.mono hle
        have hc34 := hc34.mono hle
        have f36_0 := f36_0.mono hle
        have hc41 := hc41.mono hle
        have hc49 := hc49.mono hle
        have hc54 := hc54.mono hle
        have hc59 := hc59.mono hle
        refine ST (Ex.addC rfl rfl hxn32) rfl ?_
        exact WR.nil (kk _ _ H (Mem.le.refl _))
       ·
        have hg_maxl := hg_maxl.mono hle
        have f18_0 := f18_0.mono hle
        have hc31 := hc31.mono hle
        have hc34 := hc34.mono hle
        have f36_0 := f36_0.mono hle
        have hc41 := hc41.mono hle
        have hc49 := hc49.mono hle
        have hc54 := hc54.mono hle
        have hc59 := hc59.mono hle
        refine MV rfl rfl ?_
        exact WR.nil (kk _ _ H (Mem.le.refl _))
       ·
        have hg_maxl := hg_maxl.mono hle
        have f18_0 := f18_0.mono hle
        have hc31 := hc31.mono hle
        have hc34 := hc34.mono hle
        have f36_0 := f36_0.mono hle
        have hc41 := hc41.mono hle
        have hc49 := hc49.mono hle
        have hc54 := hc54.mono hle
        have hc59 := hc59.mono hle
        refine ST (Ex.idxAt ha54 Tryz.underlying43 Tryz.sizeOf9 rfl rfl) rfl ?_
        exact WR.nil (kk _ _ H (Mem.le.refl _))
       ·
        have hg_maxl := hg_maxl.mono hle
        have f18_0 := f18_0.mono hle
        have hc31 := hc31.mono hle
        have hc34 := hc34.mono hle
        have f36_0 := f36_0.mono hle
        have hc41 := hc41.mono hle
        have hc49 := hc49.mono hle
        have hc54 := hc54.mono hle
        have hc59 := hc59.mono hle
        refine ST (Ex.loadM H rfl hc54 Tryz.isAgg9) rfl ?_
        exact WR.nil (kk _ _ H (Mem.le.refl _))
       ·
        have hg_maxl := hg_maxl.mono hle
        have f18_0 := f18_0.mono hle
        have hc31 := hc31.mono hle
        have hc34 := hc34.mono hle
        have f36_0 := f36_0.mono hle
        have hc41 := hc41.mono hle
        have hc49 := hc49.mono hle
        have hc54 := hc54.mono hle
        have hc59 := hc59.mono hle
        refine ST (Ex.lenStr Tryz.underlying9 rfl) rfl ?_
        exact WR.nil (kk _ _ H (Mem.le.refl _))
       ·
        have hg_maxl := hg_maxl.mono hle
        have f18_0 := f18_0.mono hle
        have hc31 := hc31.mono hle
        have hc34 := hc34.mono hle
        have f36_0 := f36_0.mono hle
        have hc41 := hc41.mono hle
        have hc49 := hc49.mono hle
        have hc54 := hc54.mono hle
        have hc59 := hc59.mono hle
        refine ST (Ex.addC rfl rfl hxn34) rfl ?_
        exact WR.nil (kk _ _ H (Mem.le.refl _))
       ·
        have hg_maxl := hg_maxl.mono hle
        have f18_0 := f18_0.mono hle
        have hc31 := hc31.mono hle
        have hc34 := hc34.mono hle
        have f36_0 := f36_0.mono hle
        have hc41 := hc41.mono hle
        have hc49 := hc49.mono hle
        have hc54 := hc54.mono hle
        have hc59 := hc59.mono hle
        refine MV rfl rfl ?_
        exact WR.nil (kk _ _ H (Mem.le.refl _))
       ·
        have hg_maxl := hg_maxl.mono hle
        have f18_0 := f18_0.mono hle
        have hc31 := hc31.mono hle
        have hc34 := hc34.mono hle
        have f36_0 := f36_0.mono hle
        have hc41 := hc41.mono hle
        have hc49 := hc49.mono hle
        have hc54 := hc54.mono hle
        have hc59 := hc59.mono hle
        refine ST (Ex.idxAt ha59 Tryz.underlying43 Tryz.sizeOf9 rfl rfl) rfl ?_
        exact WR.nil (kk _ _ H (Mem.le.refl _))
       ·
        have hg_maxl := hg_maxl.mono hle
        have f18_0 := f18_0.mono hle
        have hc31 := hc31.mono hle
        have hc34 := hc34.mono hle
        have f36_0 := f36_0.mono hle
        have hc41 := hc41.mono hle
        have hc49 := hc49.mono hle
        have hc54 := hc54.mono hle
        have hc59 := hc59.mono hle
        refine ST (Ex.loadM H rfl hc59 Tryz.isAgg9) rfl ?_
        exact WR.nil (kk _ _ H (Mem.le.refl _))
       ·
        have hg_maxl := hg_maxl.mono hle
        have f18_0 := f18_0.mono hle
        have hc31 := hc31.mono hle
        have hc34 := hc34.mono hle
        have f36_0 := f36_0.mono hle
        have hc41 := hc41.mono hle
        have hc49 := hc49.mono hle
        have hc54 := hc54.mono hle
        have hc59 := hc59.mono hle
        refine ST (Ex.lenStr Tryz.underlying9 rfl) rfl ?_
        exact WR.nil (kk _ _ H (Mem.le.refl _))
       ·
        have hg_maxl := hg_maxl.mono hle
        have f18_0 := f18_0.mono hle
        have hc31 := hc31.mono hle
        have hc34 := hc34.mono hle
        have f36_0 := f36_0.mono hle
        have hc41 := hc41.mono hle
        have hc49 := hc49.mono hle
        have hc54 := hc54.mono hle
        have hc59 := hc59.mono hle
        refine ST (Ex.addC rfl rfl hxn36) rfl ?_
        exact WR.nil (kk _ _ H (Mem.le.refl _))
       ·
        have hg_maxl := hg_maxl.mono hle
        have f18_0 := f18_0.mono hle
        have hc31 := hc31.mono hle
        have hc34 := hc34.mono hle
        have f36_0 := f36_0.mono hle
        have hc41 := hc41.mono hle
        have hc49 := hc49.mono hle
        have hc54 := hc54.mono hle
        have hc59 := hc59.mono hle
        refine ST (Ex.addC rfl rfl hxn37) rfl ?_
        exact WR.nil (kk _ _ H (Mem.le.refl _))
       ·
        have hg_maxl := hg_maxl.mono hle
        have f18_0 := f18_0.mono hle
        have hc31 := hc31.mono hle
        have hc34 := hc34.mono hle
        have f36_0 := f36_0.mono hle
        have hc41 := hc41.mono hle
        have hc49 := hc49.mono hle
        have hc54 := hc54.mono hle
        have hc59 := hc59.mono hle
        refine MV rfl rfl ?_
        exact WR.nil (kk _ _ H (Mem.le.refl _))
       ·
        have hg_maxl := hg_maxl.mono hle
        have f18_0 := f18_0.mono hle
        have hc31 := hc31.mono hle
        have hc34 := hc34.mono hle
        have f36_0 := f36_0.mono hle
        have hc41 := hc41.mono hle
        have hc49 := hc49.mono hle
        have hc54 := hc54.mono hle
        have hc59 := hc59.mono hle
        refine MV rfl rfl ?_
        exact WR.nil (kk _ _ H (Mem.le.refl _))
       ·
        have hg_maxl := hg_maxl.mono hle
        have f18_0 := f18_0.mono hle
        have hc31 := hc31.mono hle
        have hc34 := hc34.mono hle
        have f36_0 := f36_0.mono hle
        have hc41 := hc41.mono hle
        have hc49 := hc49.mono hle
        have hc54 := hc54.mono hle
        have hc59 := hc59.mono hle
        refine SG (Ex.loadAgg H rfl (by repeat (first | exact List.Mem.head _ | apply List.Mem.tail)) Tryz.isAgg24 Tryz.sizeOf24 (by rfl)) rfl rfl rfl ?_
        exact WR.nil (kk _ _ H (Mem.le.refl _))
       ·
        have hg_maxl := hg_maxl.mono hle
        have f18_0 := f18_0.mono hle
        have hc31 := hc31.mono hle
        have hc34 := hc34.mono hle
        have f36_0 := f36_0.mono hle
        have hc41 := hc41.mono hle
        have hc49 := hc49.mono hle
        have hc54 := hc54.mono hle
        have hc59 := hc59.mono hle
        refine WR.call H (basic_Failed_ct hx39) rfl trivial (Wn.some rfl rfl rfl) rfl ?_
        intro v67 M w H hle hR
        replace hg_maxl := hg_maxl.mono hle
        replace f18_0 := f18_0.mono hle
        replace hc31 := hc31.mono hle
        replace hc34 := hc34.mono hle
        replace f36_0 := f36_0.mono hle
        replace hc41 := hc41.mono hle
        replace hc49 := hc49.mono hle
        replace hc54 := hc54.mono hle
        replace hc59 := hc59.mono hle
        obtain rfl := hR
        exact WR.nil (kk _ _ H hle)
       ·
        have hg_maxl := hg_maxl.mono hle
        have f18_0 := f18_0.mono hle
        have hc31 := hc31.mono hle
        have hc34 := hc34.mono hle
        have f36_0 := f36_0.mono hle
        have hc41 := hc41.mono hle
        have hc49 := hc49.mono hle
        have hc54 := hc54.mono hle
        have hc59 := hc59.mono hle
        refine SG (Ex.not rfl) rfl rfl rfl ?_
        exact WR.nil (kk _ _ H (Mem.le.refl _))
       ·
        have hg_maxl := hg_maxl.mono hle
        have f18_0 := f18_0.mono hle
        have hc31 := hc31.mono hle
        have hc34 := hc34.mono hle
        have f36_0 := f36_0.mono hle
        have hc41 := hc41.mono hle
        have hc49 := hc49.mono hle
        have hc54 := hc54.mono hle
        have hc59 := hc59.mono hle
        refine PT rfl rfl rfl ?_
        exact WR.nil (kk _ _ H (Mem.le.refl _))
       ·
        have hg_maxl := hg_maxl.mono hle
        have f18_0 := f18_0.mono hle
        have hc31 := hc31.mono hle
        have hc34 := hc34.mono hle
        have f36_0 := f36_0.mono hle
        have hc41 := hc41.mono hle
        have hc49 := hc49.mono hle
        have hc54 := hc54.mono hle
        have hc59 := hc59.mono hle
        refine AS rfl rfl ?_
        exact WR.nil (kk _ _ H (Mem.le.refl _))
       ·
        have hg_maxl := hg_maxl.mono hle
        have f18_0 := f18_0.mono hle
        have hc31 := hc31.mono hle
        have hc34 := hc34.mono hle
        have f36_0 := f36_0.mono hle
        have hc41 := hc41.mono hle
        have hc49 := hc49.mono hle
        have hc54 := hc54.mono hle
        have hc59 := hc59.mono hle
        refine AS rfl rfl ?_
        exact WR.nil (kk _ _ H (Mem.le.refl _))
       ·
        have hg_maxl := hg_maxl.mono hle
        have f18_0 := f18_0.mono hle
        have hc31 := hc31.mono hle
        have hc34 := hc34.mono hle
        have f36_0 := f36_0.mono hle
        have hc41 := hc41.mono hle
        have hc49 := hc49.mono hle
        have hc54 := hc54.mono hle
        have hc59 := hc59.mono hle
        refine AS rfl rfl ?_
        exact WR.nil (kk _ _ H (Mem.le.refl _))
       ·
        intro w M H hle
        replace hg_maxl := hg_maxl.mono hle
        replace f18_0 := f18_0.mono hle
        replace hc31 := hc31.mono hle
        replace hc34 := hc34.mono hle
        replace f36_0 := f36_0.mono hle
        replace hc41 := hc41.mono hle
        replace hc49 := hc49.mono hle
        replace hc54 := hc54.mono hle
        replace hc59 := hc59.mono hle
        refine WA.done (by kernel_rfl) ?_
        exact WQ.meetN [(2, _), (3, _), (4, _)] ⟨rfl, rfl, rfl, trivial⟩ ⟨_, _, _, _, rfl, (H.pick (L' := []) (by repeat (first | exact Pick.nil | refine Pick.cons (by repeat first | exact .head | apply Rem.tail) ?_))), hg_maxl, e27⟩
     ·
      rintro e w ⟨s28, n29, b30, M, rfl, H, hg_maxl, q40⟩
      obtain rfl := Option.some.inj q40
      try dsimp only at h
      refine TN (RT ?_)
      obtain rfl := Option.some.inj h
      exact WQ.ret3 rfl rfl rfl rfl H.ext rfl
theorem basic_Blank_ct {p0 : UInt8} {r : Bool} (h : basic_Blank p0 = some r) : Ct Tryz.prog 52 [encB p0] (fun M => True) (fun v M => v = Value.bool r) := by
  refine Ct.of Tryz.func52 (enters Tryz.func52 (by kernel_rfl) rfl) rfl rfl rfl ?_
  intro w0 M0 H hp
  unfold basic_Blank at h
  refine SQ (RG (AS rfl rfl (NL (TN (SQ ?_)))))
  obtain ⟨o1, e2, h⟩ := bnd h
  refine WC.cutX (fun e w => ∃ (b3 : Bool) (M : Mem), e = [(2, Value.bool b3)] ∧ St w0 M0 M [] w ∧ some b3 = some o1) [] ?_ ?_ (trivial)
  ·
   by_cases hk4 : p0 = 32
   ·
    rw [if_pos hk4] at e2
    refine RG (MV rfl rfl (WR.stepE (v' := .bool true) (Ex.eqlB (c := p0) (d := 32) rfl rfl) (congrArg Value.bool (decide_eq_true hk4)) (Wn.none rfl) rfl rfl (MV rfl rfl (GT rfl rfl rfl (GT rfl rfl rfl (PT rfl rfl rfl (AS rfl rfl (NL ?_))))))))
    exact WQ.meetN [(2, _)] ⟨rfl, trivial⟩ ⟨_, _, rfl, H, e2⟩
   ·
    rw [if_neg hk4] at e2
    refine RG (MV rfl rfl (WR.stepE (v' := .bool false) (Ex.eqlB (c := p0) (d := 32) rfl rfl) (congrArg Value.bool (decide_eq_false hk4)) (Wn.none rfl) rfl rfl (MV rfl rfl (SG (Ex.move rfl) rfl rfl rfl (SG (Ex.eqlB (c := p0) (d := 9) rfl rfl) rfl rfl rfl (PF rfl rfl rfl (AS rfl rfl (NL ?_))))))))
    exact WQ.meetN [(2, _)] ⟨rfl, trivial⟩ ⟨_, _, rfl, H, e2⟩
  ·
   rintro e w ⟨b3, M, rfl, H, q5⟩
   obtain rfl := Option.some.inj q5
   refine TN (RT ?_)
   obtain rfl := Option.some.inj h
   exact WQ.ret1 rfl rfl H.ext rfl
theorem strings_Builder_WriteString_ct {p0 : List UInt8} {p1 : List UInt8} {bp0 : Nat} {pp0 : Value} {vp0 : Value} {r : (Int × Bool × List UInt8)} (h : strings_Builder_WriteString p0 p1 = some r) : CtX Tryz.prog 53 [ptr bp0 0, S p1] [.blk bp0 (.cells #[pp0, vp0] 70), RowI 5 encB vp0 p0] (fun M => BPM M bp0 pp0) (fun v M its => ∃ x1 qp0 up0, v = Value.tuple #[I r.1, x1] ∧ NilB M x1 r.2.1 ∧ BPM M bp0 qp0 ∧ its = [.blk bp0 (.cells #[qp0, up0] 70), RowI 5 encB up0 r.2.2]) := by
  refine CtX.of Tryz.func53 (enters Tryz.func53 (by kernel_rfl) rfl) rfl rfl rfl ?_
  intro w0 M0 H hp
  have hp0 := hp
  unfold strings_Builder_WriteString at h
  refine SQ (RG (AS rfl rfl (AS rfl rfl (NL (TN (SQ (RG (MV rfl rfl ?_))))))))
  refine WR.callX (A := [.blk bp0 (.cells #[pp0, vp0] 70)]) (B := [RowI 5 encB vp0 p0]) (H.pick (L' := [.blk bp0 (.cells #[pp0, vp0] 70), RowI 5 encB vp0 p0]) (by repeat (first | exact Pick.nil | refine Pick.cons (by repeat first | exact .head | apply Rem.tail) ?_))) (copyCheck_ct hp0) (.left (Spl.all _)) rfl trivial (Wn.none rfl) rfl ?_
  intro v7 M w its H hle hR
  replace hp0 := hp0.mono hle
  obtain ⟨rfl, rfl⟩ := hR
  simp only [List.cons_append, List.nil_append] at H
  refine NL (TN (SQ ?_))
  obtain ⟨l2, hxl2, h⟩ := bnd h
  refine RG (MV rfl rfl (MV rfl rfl (ST (Ex.nilCheckP rfl) rfl (ST (Ex.fieldAddr Tryz.underlying70 rfl Tryz.sizeOf30 (by decide) rfl) rfl (ST (Ex.load1 H rfl (by repeat (first | exact List.Mem.head _ | apply List.Mem.tail)) Tryz.isAgg30 (by rfl)) rfl ?_)))))
  refine MV rfl rfl (WR.appStrC (l := p0) xty30 Tryz.underlying9 H rfl (fun _ => by repeat first | exact .head | apply Upd.tail) rfl hxl2 (Wn.none rfl) rfl ?_)
  intro v14 w H
  refine ST (Ex.nilCheckP rfl) rfl (ST (Ex.fieldAddr Tryz.underlying70 rfl Tryz.sizeOf30 (by decide) rfl) rfl (WR.putV [_, _] H rfl rfl (H.rowOne (by repeat (first | exact List.Mem.head _ | apply List.Mem.tail))) (by repeat first | exact .head | apply Upd.tail) (by rfl) Tryz.sizeOf30 (by first | decide | (simp; done) | (simp; omega)) (Wn.none rfl) ?_))
  intro w H
  refine NL (TN (SQ (RG (MV rfl rfl (ST (Ex.lenStr Tryz.underlying9 rfl) rfl (AS rfl rfl (AS rfl rfl (NL (TN (RT ?_))))))))))
  obtain rfl := Option.some.inj h
  exact WQ.retX2 (its := [.blk bp0 (.cells #[(ptr bp0 0), v14] 70), RowI 5 encB v14 l2]) rfl rfl rfl H (by repeat (first | exact Pick.nil | refine Pick.cons (by repeat first | exact .head | apply Rem.tail) ?_)) ⟨_, _, _, rfl, (.inl ⟨rfl, rfl⟩), BPM.self, rfl⟩
theorem words_Decode_ct {p0 : List UInt8} {r : (List UInt8 × (Int × Int))} (h : words_Decode p0 = some r) : Ct Tryz.prog 17 [S p0] (fun M => GlF (fun w => ∃ m, w.cell? ⟨2, 0, none⟩ = some (.int .i64 m)) M) (fun v M => v = Value.tuple #[S r.1, Value.agg #[I r.2.1, I r.2.2]]) := by
  refine Ct.of Tryz.func17 (enters Tryz.func17 (by kernel_rfl) rfl) rfl rfl rfl ?_
  intro w0 M0 H hp
  have hg_maxl := hp
  unfold words_Decode at h
  refine SQ (RG (AS rfl rfl (WR.alloc [_, _] H Tryz.zeroValue24 rfl (Wn.none rfl) rfl ?_)))
  intro b3 w H
  refine NL (TN (SQ (SQ (RG (MV rfl rfl (ST (Ex.lenStr Tryz.underlying9 rfl) rfl (ST (Ex.gtr rfl rfl) rfl (NL (TN ?_)))))))))
  refine WC.condB rfl (fun hk1 => ?_) (fun hk1 => ?_)
  ·
   replace hk1 : (4000 : Int) < (p0.length : Int) := of_decide_eq_true hk1
   rw [if_pos hk1] at h
   refine SQ ?_
   obtain ⟨⟨n2, n3⟩, hx4, h⟩ := bnd h
   try dsimp only at h
   refine RG (WR.call H (basic_Fault_ct hx4) rfl trivial (Wn.none rfl) rfl ?_)
   intro v13 M w H hle hR
   replace hg_maxl := hg_maxl.mono hle
   try dsimp only at hR
   obtain rfl := hR
   refine AS rfl rfl (WR.store [_, _] H rfl rfl rfl (by repeat first | exact .head | apply Upd.tail) Tryz.sizeOf24 rfl (by rfl) (by rfl) (Wn.none rfl) ?_)
   intro w H
   refine NL (TN (RT ?_))
   obtain rfl := Option.some.inj h
   exact WQ.ret2 rfl rfl ⟨_, rfl, H.loadAgg (by repeat (first | exact List.Mem.head _ | apply List.Mem.tail)) Tryz.isAgg24 Tryz.sizeOf24 (by rfl)⟩ H.ext rfl
  ·
   replace hk1 : ¬ ((4000 : Int) < (p0.length : Int)) := of_decide_eq_false hk1
   rw [if_neg hk1] at h
   refine SK (TN (SQ (RG (WR.alloc [_, _] H Tryz.zeroValue70 rfl (Wn.none rfl) rfl ?_))))
   intro b4 w H
   refine NL (TN (SQ (RG (AS rfl rfl (NL (TN (SQ (SQ (RG (AS rfl rfl (NL (TN ?_))))))))))))
   obtain ⟨o5, e6, h⟩ := bnd h
   refine WC.cutX (fun e w => ∃ (v7 : Value) (l10 : List UInt8) (v11 : Value) (n12 : Int) (M : Mem), e = [(0, S p0), (3, ptr b3 0), (4, ptr b4 0), (5, I n12)] ∧ St w0 M0 M [.blk b3 (.cells #[I 0, I 0] 24), .blk b4 (.cells #[v7, v11] 70), RowI 5 encB v11 l10] w ∧ GlF (fun w => ∃ m, w.cell? ⟨2, 0, none⟩ = some (.int .i64 m)) M ∧ BPM M b4 v7 ∧ some (l10, n12) = some o5) [] ?_ ?_ (trivial)
   ·
    refine BL ?_
    replace H := H.newRow 5 encB
    refine WC.loopP (fun m e w => ∃ (v13 : Value) (l16 : List UInt8) (v17 : Value) (n18 : Int) (n19 : Int) (M : Mem), e = [(0, S p0), (3, ptr b3 0), (4, ptr b4 0), (5, I n18), (6, I n19)] ∧ St w0 M0 M [.blk b3 (.cells #[I 0, I 0] 24), .blk b4 (.cells #[v13, v17] 70), RowI 5 encB v17 l16] w ∧ GlF (fun w => ∃ m, w.cell? ⟨2, 0, none⟩ = some (.int .i64 m)) M ∧ BPM M b4 v13 ∧ words_Decode_L1 p0 m l16 n18 n19 = some o5) FU [(0, _), (3, _), (4, _), (5, _), (6, _)] ⟨rfl, rfl, rfl, rfl, rfl, trivial⟩ ⟨_, _, _, _, _, _, rfl, (H.pick (L' := [.blk b3 (.cells #[I 0, I 0] 24), .blk b4 (.cells #[(Value.pointer none), (Value.slice none 0 0)] 70), RowI 5 encB (Value.slice none 0 0) []]) (by repeat (first | exact Pick.nil | refine Pick.cons (by repeat first | exact .head | apply Rem.tail) ?_))), hg_maxl, BPM.nil, e6⟩ ?_
    rintro m20 e w ⟨v13, l16, v17, n18, n19, M, rfl, H, hg_maxl, hs14, e6⟩
    rcases m20 with _ | m20
    · rw [words_Decode_L1] at e6; cases e6
    rw [words_Decode_L1] at e6
    refine SQ (SQ (RG (MV rfl rfl (MV rfl rfl (ST (Ex.lenStr Tryz.underlying9 rfl) rfl (ST (Ex.lss rfl rfl) rfl (NL (TN ?_))))))))
    refine WC.condB rfl (fun hk22 => ?_) (fun hk22 => ?_)
    ·
     replace hk22 : n19 < (p0.length : Int) := of_decide_eq_true hk22
     rw [if_pos hk22] at e6
     refine SK (TN (BL (SQ ?_)))
     obtain ⟨s23, hxs23, e6⟩ := bnd e6
     obtain ⟨⟨s24, n25, b26⟩, hx27, e6⟩ := bnd e6
     try dsimp only at e6
     refine RG (MV rfl rfl (MV rfl rfl (ST (Ex.sliceL Tryz.underlying9 rfl rfl hxs23) rfl (WR.call H (words_read_ct hx27) rfl (hg_maxl) (Wn.none rfl) rfl ?_))))
     intro v22 M w H hle hR
     replace hg_maxl := hg_maxl.mono hle
     replace hs14 := hs14.mono hle
     try dsimp only at hR
     obtain rfl := hR
     refine MV rfl rfl (ST (Ex.extract rfl rfl) rfl (ST (Ex.extract rfl rfl) rfl (ST (Ex.extract rfl rfl) rfl (AS rfl rfl (AS rfl rfl (AS rfl rfl (NL (TN (SQ (SQ (RG (MV rfl rfl (ST (Ex.not rfl) rfl (NL (TN ?_)))))))))))))))
     refine WC.condB rfl (fun hk28 => ?_) (fun hk28 => ?_)
     ·
      replace hk28 : b26 = false := by simpa using hk28
      subst hk28
      rw [if_neg Bool.false_ne_true] at e6
      refine SQ (SQ (RG (MV rfl rfl (ST (Ex.lss rfl rfl) rfl (NL (TN ?_))))))
      obtain ⟨o29, e30, e6⟩ := bnd e6
      refine WC.cutX (fun e w => ∃ (v31 : Value) (l34 : List UInt8) (v35 : Value) (M : Mem), e = [(0, S p0), (3, ptr b3 0), (4, ptr b4 0), (5, I n18), (6, I n19)] ∧ St w0 M0 M [.blk b3 (.cells #[I 0, I 0] 24), .blk b4 (.cells #[v31, v35] 70), RowI 5 encB v35 l34] w ∧ GlF (fun w => ∃ m, w.cell? ⟨2, 0, none⟩ = some (.int .i64 m)) M ∧ BPM M b4 v31 ∧ some l34 = some o29) [] ?_ ?_ (trivial)
      ·
       refine WC.condB rfl (fun hk36 => ?_) (fun hk36 => ?_)
       ·
        replace hk36 : n18 < (0 : Int) := of_decide_eq_true hk36
        rw [if_pos hk36] at e30
        obtain ⟨c37, hxc37, e30⟩ := bnd e30
        obtain ⟨⟨b38, l39⟩, hx40, e30⟩ := bnd e30
        try dsimp only at e30
        refine RG (MV rfl rfl (MV rfl rfl (ST (Ex.idxStrC Tryz.underlying9 rfl rfl hxc37) rfl ?_)))
        refine WR.callX (A := [.blk b4 (.cells #[v13, v17] 70), RowI 5 encB v17 l16]) (B := [.blk b3 (.cells #[I 0, I 0] 24)]) (H.pick (L' := [.blk b4 (.cells #[v13, v17] 70), RowI 5 encB v17 l16, .blk b3 (.cells #[I 0, I 0] 24)]) (by repeat (first | exact Pick.nil | refine Pick.cons (by repeat first | exact .head | apply Rem.tail) ?_))) (strings_Builder_WriteByte_ct hx40) (.left (.left (Spl.all _))) rfl (hs14) (Wn.none rfl) rfl ?_
        intro v33 M w its H hle hR
        replace hg_maxl := hg_maxl.mono hle
        replace hs14 := hs14.mono hle
        try dsimp only at hR
        obtain ⟨x33_0, q33_0, u33_0, rfl, f33_0, hq33_0, rfl⟩ := hR
        simp only [List.cons_append, List.nil_append] at H
        refine NL ?_
        exact WQ.meetN [(0, _), (3, _), (4, _), (5, _), (6, _)] ⟨rfl, rfl, rfl, rfl, rfl, trivial⟩ ⟨_, _, _, _, rfl, (H.pick (L' := [.blk b3 (.cells #[I 0, I 0] 24), .blk b4 (.cells #[q33_0, u33_0] 70), RowI 5 encB u33_0 l39]) (by repeat (first | exact Pick.nil | refine Pick.cons (by repeat first | exact .head | apply Rem.tail) ?_))), hg_maxl, hq33_0, e30⟩
       ·
        replace hk36 : ¬ (n18 < (0 : Int)) := of_decide_eq_false hk36
        rw [if_neg hk36] at e30
        refine SK ?_
        exact WQ.meetN [(0, _), (3, _), (4, _), (5, _), (6, _)] ⟨rfl, rfl, rfl, rfl, rfl, trivial⟩ ⟨_, _, _, _, rfl, H, hg_maxl, hs14, e30⟩
      ·
       rintro e w ⟨v31, l34, v35, M, rfl, H, hg_maxl, hs32, q41⟩
       obtain rfl := Option.some.inj q41
       refine TN (SQ (SQ ?_))
       obtain ⟨o42, e43, e6⟩ := bnd e6
       refine WC.cutX (fun e w => ∃ (b44 : Bool) (M : Mem), e = [(0, S p0), (3, ptr b3 0), (4, ptr b4 0), (5, I n18), (6, I n19), (42, Value.bool b44)] ∧ St w0 M0 M [.blk b3 (.cells #[I 0, I 0] 24), .blk b4 (.cells #[v31, v35] 70), RowI 5 encB v35 l34] w ∧ GlF (fun w => ∃ m, w.cell? ⟨2, 0, none⟩ = some (.int .i64 m)) M ∧ BPM M b4 v31 ∧ some b44 = some o42) [] ?_ ?_ (trivial)
       ·
        by_cases hk45 : (0 : Int) ≤ n18
        ·
         rw [if_pos hk45] at e43
         obtain ⟨c46, hxc46, e43⟩ := bnd e43
         obtain ⟨b47, hx48, e43⟩ := bnd e43
         refine RG (MV rfl rfl (WR.stepE (v' := .bool true) (Ex.geq rfl rfl) (congrArg Value.bool (decide_eq_true hk45)) (Wn.none rfl) rfl rfl (MV rfl rfl (SG (Ex.move rfl) rfl rfl rfl (SG (Ex.move rfl) rfl rfl rfl (SG (Ex.idxStrC Tryz.underlying9 rfl rfl hxc46) rfl rfl rfl (WR.call H (basic_Blank_ct hx48) rfl trivial (Wn.some rfl rfl rfl) rfl ?_)))))))
         intro v40 M w H hle hR
         replace hg_maxl := hg_maxl.mono hle
         replace hs32 := hs32.mono hle
         obtain rfl := hR
         refine SG (Ex.not rfl) rfl rfl rfl (PT rfl rfl rfl (NL ?_))
         exact WQ.meetN [(0, _), (3, _), (4, _), (5, _), (6, _), (42, _)] ⟨rfl, rfl, rfl, rfl, rfl, rfl, trivial⟩ ⟨_, _, rfl, H, hg_maxl, hs32, e43⟩
        ·
         rw [if_neg hk45] at e43
         refine RG (MV rfl rfl (WR.stepE (v' := .bool false) (Ex.geq rfl rfl) (congrArg Value.bool (decide_eq_false hk45)) (Wn.none rfl) rfl rfl (MV rfl rfl (WR.skipN 5 rfl rfl (PF rfl rfl rfl (NL ?_))))))
         exact WQ.meetN [(0, _), (3, _), (4, _), (5, _), (6, _), (42, _)] ⟨rfl, rfl, rfl, rfl, rfl, rfl, trivial⟩ ⟨_, _, rfl, H, hg_maxl, hs32, e43⟩
       ·
        rintro e w ⟨b44, M, rfl, H, hg_maxl, hs32, q49⟩
        obtain rfl := Option.some.inj q49
        refine TN ?_
        obtain ⟨o50, e51, e6⟩ := bnd e6
        refine WC.cutX (fun e w => ∃ (v52 : Value) (l55 : List UInt8) (v56 : Value) (n57 : Int) (M : Mem), e = [(0, S p0), (3, ptr b3 0), (4, ptr b4 0), (5, I n57), (6, I n19)] ∧ St w0 M0 M [.blk b3 (.cells #[I 0, I 0] 24), .blk b4 (.cells #[v52, v56] 70), RowI 5 encB v56 l55] w ∧ GlF (fun w => ∃ m, w.cell? ⟨2, 0, none⟩ = some (.int .i64 m)) M ∧ BPM M b4 v52 ∧ some (l55, n57) = some o50) [] ?_ ?_ (trivial)
        ·
         refine WC.condB rfl (fun hk58 => ?_) (fun hk58 => ?_)
         ·
          subst hk58
          rw [if_pos rfl] at e51
          refine SQ ?_
          obtain ⟨n59, hxn59, e51⟩ := bnd e51
          obtain ⟨s60, hxs60, e51⟩ := bnd e51
          obtain ⟨⟨n61, b62, l63⟩, hx64, e51⟩ := bnd e51
          try dsimp only at e51
          refine RG (MV rfl rfl (MV rfl rfl (MV rfl rfl (ST (Ex.addC rfl rfl hxn59) rfl (ST (Ex.sliceC Tryz.underlying9 rfl rfl rfl hxs60) rfl ?_)))))
          refine WR.callX (A := [.blk b4 (.cells #[v31, v35] 70), RowI 5 encB v35 l34]) (B := [.blk b3 (.cells #[I 0, I 0] 24)]) (H.pick (L' := [.blk b4 (.cells #[v31, v35] 70), RowI 5 encB v35 l34, .blk b3 (.cells #[I 0, I 0] 24)]) (by repeat (first | exact Pick.nil | refine Pick.cons (by repeat first | exact .head | apply Rem.tail) ?_))) (strings_Builder_WriteString_ct hx64) (.left (.left (Spl.all _))) rfl (hs32) (Wn.none rfl) rfl ?_
          intro v48 M w its H hle hR
          replace hg_maxl := hg_maxl.mono hle
          replace hs32 := hs32.mono hle
          try dsimp only at hR
          obtain ⟨x48_1, q48_0, u48_0, rfl, f48_1, hq48_0, rfl⟩ := hR
          simp only [List.cons_append, List.nil_append] at H
          refine NL (TN (RG (AS rfl rfl (NL ?_))))
          exact WQ.meetN [(0, _), (3, _), (4, _), (5, _), (6, _)] ⟨rfl, rfl, rfl, rfl, rfl, trivial⟩ ⟨_, _, _, _, _, rfl, (H.pick (L' := [.blk b3 (.cells #[I 0, I 0] 24), .blk b4 (.cells #[q48_0, u48_0] 70), RowI 5 encB u48_0 l63]) (by repeat (first | exact Pick.nil | refine Pick.cons (by repeat first | exact .head | apply Rem.tail) ?_))), hg_maxl, hq48_0, e51⟩
         ·
          subst hk58
          rw [if_neg Bool.false_ne_true] at e51
          refine SK ?_
          exact WQ.meetN [(0, _), (3, _), (4, _), (5, _), (6, _)] ⟨rfl, rfl, rfl, rfl, rfl, trivial⟩ ⟨_, _, _, _, _, rfl, H, hg_maxl, hs32, e51⟩
        ·
         rintro e w ⟨v52, l55, v56, n57, M, rfl, H, hg_maxl, hs53, q65⟩
         obtain rfl := Option.some.inj q65
         try dsimp only at e6
         refine TN (SQ ?_)
         obtain ⟨n66, hxn66, e6⟩ := bnd e6
         refine RG (MV rfl rfl (ST (Ex.addC rfl rfl hxn66) rfl (AS rfl rfl (NL (TN (WC.exit (WQ.thenExit (WQ.exitHere ?_))))))))
         exact WQ.againP m20 [(0, _), (3, _), (4, _), (5, _), (6, _)] ⟨rfl, rfl, rfl, rfl, rfl, trivial⟩ ⟨_, _, _, _, _, _, rfl, H, hg_maxl, hs53, e6⟩ (Nat.lt_succ_self _)
     ·
      replace hk28 : b26 = true := by simpa using hk28
      subst hk28
      rw [if_pos rfl] at e6
      refine SK (TN (SQ ?_))
      obtain ⟨⟨n67, b68, l69⟩, hx70, e6⟩ := bnd e6
      try dsimp only at e6
      refine RG (MV rfl rfl ?_)
      refine WR.callX (A := [.blk b4 (.cells #[v13, v17] 70), RowI 5 encB v17 l16]) (B := [.blk b3 (.cells #[I 0, I 0] 24)]) (H.pick (L' := [.blk b4 (.cells #[v13, v17] 70), RowI 5 encB v17 l16, .blk b3 (.cells #[I 0, I 0] 24)]) (by repeat (first | exact Pick.nil | refine Pick.cons (by repeat first | exact .head | apply Rem.tail) ?_))) (strings_Builder_WriteString_ct hx70) (.left (.left (Spl.all _))) rfl (hs14) (Wn.none rfl) rfl ?_
      intro v52 M w its H hle hR
      replace hg_maxl := hg_maxl.mono hle
      replace hs14 := hs14.mono hle
      try dsimp only at hR
      obtain ⟨x52_1, q52_0, u52_0, rfl, f52_1, hq52_0, rfl⟩ := hR
      simp only [List.cons_append, List.nil_append] at H
      refine NL (TN (SQ ?_))
      obtain ⟨n71, hxn71, e6⟩ := bnd e6
      refine RG (MV rfl rfl (MV rfl rfl (ST (Ex.addC rfl rfl hxn71) rfl (AS rfl rfl (NL (TN (RG (MV rfl rfl (AS rfl rfl (NL (IB ?_)))))))))))
      exact WQ.againP m20 [(0, _), (3, _), (4, _), (5, _), (6, _)] ⟨rfl, rfl, rfl, rfl, rfl, trivial⟩ ⟨_, _, _, _, _, _, rfl, (H.pick (L' := [.blk b3 (.cells #[I 0, I 0] 24), .blk b4 (.cells #[q52_0, u52_0] 70), RowI 5 encB u52_0 l69]) (by repeat (first | exact Pick.nil | refine Pick.cons (by repeat first | exact .head | apply Rem.tail) ?_))), hg_maxl, hq52_0, e6⟩ (Nat.lt_succ_self _)
    ·
     replace hk22 : ¬ (n19 < (p0.length : Int)) := of_decide_eq_false hk22
     rw [if_neg hk22] at e6
     refine WC.exit (WQ.thenExit (WQ.thenExit (WQ.exitHere ?_)))
     exact WQ.meetN [(0, _), (3, _), (4, _), (5, _)] ⟨rfl, rfl, rfl, rfl, trivial⟩ ⟨_, _, _, _, _, rfl, H, hg_maxl, hs14, e6⟩
   ·
    rintro e w ⟨v7, l10, v11, n12, M, rfl, H, hg_maxl, hs8, q72⟩
    obtain rfl := Option.some.inj q72
    try dsimp only at h
    refine TN (SQ (SQ (RG (MV rfl rfl (ST (Ex.geq rfl rfl) rfl (NL (TN ?_)))))))
    obtain ⟨o73, e74, h⟩ := bnd h
    refine WC.cutX (fun e w => ∃ (v75 : Value) (l78 : List UInt8) (v79 : Value) (M : Mem), e = [(3, ptr b3 0), (4, ptr b4 0)] ∧ St w0 M0 M [.blk b3 (.cells #[I 0, I 0] 24), .blk b4 (.cells #[v75, v79] 70), RowI 5 encB v79 l78] w ∧ GlF (fun w => ∃ m, w.cell? ⟨2, 0, none⟩ = some (.int .i64 m)) M ∧ BPM M b4 v75 ∧ some l78 = some o73) [] ?_ ?_ (trivial)
    ·
     refine WC.condB rfl (fun hk80 => ?_) (fun hk80 => ?_)
     ·
      replace hk80 : (0 : Int) ≤ n12 := of_decide_eq_true hk80
      rw [if_pos hk80] at e74
      obtain ⟨s81, hxs81, e74⟩ := bnd e74
      obtain ⟨⟨n82, b83, l84⟩, hx85, e74⟩ := bnd e74
      try dsimp only at e74
      refine RG (MV rfl rfl (MV rfl rfl (ST (Ex.sliceL Tryz.underlying9 rfl rfl hxs81) rfl ?_)))
      refine WR.callX (A := [.blk b4 (.cells #[v7, v11] 70), RowI 5 encB v11 l10]) (B := [.blk b3 (.cells #[I 0, I 0] 24)]) (H.pick (L' := [.blk b4 (.cells #[v7, v11] 70), RowI 5 encB v11 l10, .blk b3 (.cells #[I 0, I 0] 24)]) (by repeat (first | exact Pick.nil | refine Pick.cons (by repeat first | exact .head | apply Rem.tail) ?_))) (strings_Builder_WriteString_ct hx85) (.left (.left (Spl.all _))) rfl (hs8) (Wn.none rfl) rfl ?_
      intro v62 M w its H hle hR
      replace hg_maxl := hg_maxl.mono hle
      replace hs8 := hs8.mono hle
      try dsimp only at hR
      obtain ⟨x62_1, q62_0, u62_0, rfl, f62_1, hq62_0, rfl⟩ := hR
      simp only [List.cons_append, List.nil_append] at H
      refine NL ?_
      exact WQ.meetN [(3, _), (4, _)] ⟨rfl, rfl, trivial⟩ ⟨_, _, _, _, rfl, (H.pick (L' := [.blk b3 (.cells #[I 0, I 0] 24), .blk b4 (.cells #[q62_0, u62_0] 70), RowI 5 encB u62_0 l84]) (by repeat (first | exact Pick.nil | refine Pick.cons (by repeat first | exact .head | apply Rem.tail) ?_))), hg_maxl, hq62_0, e74⟩
     ·
      replace hk80 : ¬ ((0 : Int) ≤ n12) := of_decide_eq_false hk80
      rw [if_neg hk80] at e74
      refine SK ?_
      exact WQ.meetN [(3, _), (4, _)] ⟨rfl, rfl, trivial⟩ ⟨_, _, _, _, rfl, H, hg_maxl, hs8, e74⟩
    ·
     rintro e w ⟨v75, l78, v79, M, rfl, H, hg_maxl, hs76, q86⟩
     obtain rfl := Option.some.inj q86
     refine TN (SQ ?_)
     obtain ⟨s87, hx88, h⟩ := bnd h
     obtain ⟨⟨n89, n90⟩, hx91, h⟩ := bnd h
     try dsimp only at h
     refine RG ?_
     refine WR.callX (A := [.blk b4 (.cells #[v75, v79] 70), RowI 5 encB v79 l78]) (B := [.blk b3 (.cells #[I 0, I 0] 24)]) (H.pick (L' := [.blk b4 (.cells #[v75, v79] 70), RowI 5 encB v79 l78, .blk b3 (.cells #[I 0, I 0] 24)]) (by repeat (first | exact Pick.nil | refine Pick.cons (by repeat first | exact .head | apply Rem.tail) ?_))) (strings_Builder_String_ct hx88) (.left (.left (Spl.all _))) rfl (hs76) (Wn.none rfl) rfl ?_
     intro v63 M w its H hle hR
     replace hg_maxl := hg_maxl.mono hle
     replace hs76 := hs76.mono hle
     obtain ⟨rfl, rfl⟩ := hR
     simp only [List.cons_append, List.nil_append] at H
     refine WR.call H (basic_None_ct hx91) rfl trivial (Wn.none rfl) rfl ?_
     intro v64 M w H hle hR
     replace hg_maxl := hg_maxl.mono hle
     replace hs76 := hs76.mono hle
     try dsimp only at hR
     obtain rfl := hR
     refine AS rfl rfl (WR.store [_, _] H rfl rfl rfl (by repeat first | exact .head | apply Upd.tail) Tryz.sizeOf24 rfl (by rfl) (by rfl) (Wn.none rfl) ?_)
     intro w H
     refine NL (TN (RT ?_))
     obtain rfl := Option.some.inj h
     exact WQ.ret2 rfl rfl ⟨_, rfl, H.loadAgg (by repeat (first | exact List.Mem.head _ | apply List.Mem.tail)) Tryz.isAgg24 Tryz.sizeOf24 (by rfl)⟩ H.ext rfl
theorem L_wordsExample_ct  {r : Bool} (h : L_wordsExample = some r) : Ct Tryz.prog 12 [] (fun M => GlF (fun w => ∃ m, w.cell? ⟨2, 0, none⟩ = some (.int .i64 m)) M ∧ Tabs M) (fun v M => v = Value.bool r) := by
  refine Ct.of Tryz.func12 (enters Tryz.func12 (by kernel_rfl) rfl) rfl rfl rfl ?_
  intro w0 M0 H hp
  obtain ⟨hg_maxl, hg_tabs⟩ := hp
  unfold L_wordsExample at h
  refine SQ (RG (AS rfl rfl (NL (TN (SQ ?_)))))
  obtain ⟨⟨s1, ⟨n2, n3⟩⟩, hx4, h⟩ := bnd h
  try dsimp only at h
  refine RG (WR.call H (words_Encode_ct hx4) rfl ⟨hg_maxl, hg_tabs⟩ (Wn.none rfl) rfl ?_)
  intro v6 M w H hle hR
  replace hg_maxl := hg_maxl.mono hle
  replace hg_tabs := hg_tabs.mono hle
  try dsimp only at hR
  obtain rfl := hR
  refine MV rfl rfl (ST (Ex.extract rfl rfl) rfl (ST (Ex.extract rfl rfl) rfl (WR.alloc [_, _] H Tryz.zeroValue24 rfl (Wn.none rfl) rfl ?_)))
  intro b2 w H
  refine AS rfl rfl (WR.store [_, _] H rfl rfl rfl (by repeat first | exact .head | apply Upd.tail) Tryz.sizeOf24 rfl (by rfl) (by rfl) (Wn.none rfl) ?_)
  intro w H
  refine NL (TN (SQ ?_))
  obtain ⟨⟨s5, ⟨n6, n7⟩⟩, hx8, h⟩ := bnd h
  try dsimp only at h
  refine RG (WR.call H (words_Decode_ct hx8) rfl (hg_maxl) (Wn.none rfl) rfl ?_)
  intro v10 M w H hle hR
  replace hg_maxl := hg_maxl.mono hle
  replace hg_tabs := hg_tabs.mono hle
  try dsimp only at hR
  obtain rfl := hR
  refine MV rfl rfl (ST (Ex.extract rfl rfl) rfl (ST (Ex.extract rfl rfl) rfl (WR.alloc [_, _] H Tryz.zeroValue24 rfl (Wn.none rfl) rfl ?_)))
  intro b4 w H
  refine AS rfl rfl (WR.store [_, _] H rfl rfl rfl (by repeat first | exact .head | apply Upd.tail) Tryz.sizeOf24 rfl (by rfl) (by rfl) (Wn.none rfl) ?_)
  intro w H
  refine NL (TN (SQ ?_))
  obtain ⟨o9, e10, h⟩ := bnd h
  refine WC.cutX (fun e w => ∃ (b11 : Bool) (M : Mem), e = [(0, Value.bool b11)] ∧ St w0 M0 M [] w ∧ GlF (fun w => ∃ m, w.cell? ⟨2, 0, none⟩ = some (.int .i64 m)) M ∧ Tabs M ∧ some b11 = some o9) [] ?_ ?_ (trivial)
  ·
   refine RG (ST (Ex.fieldAddr Tryz.underlying24 rfl Tryz.sizeOf3 (by decide) rfl) rfl (ST (Ex.load1 H rfl (by repeat (first | exact List.Mem.head _ | apply List.Mem.tail)) Tryz.isAgg3 (by rfl)) rfl ?_))
   by_cases hk12 : n2 = (0 : Int)
   ·
    rw [if_pos hk12] at e10
    by_cases hk13 : n6 = (0 : Int)
    ·
     rw [if_pos hk13] at e10
     by_cases hk14 : s1 = [61, 63, 108, 97, 116, 105, 110, 49, 63, 81, 63, 61, 69, 52, 95, 98, 63, 61]
     ·
      rw [if_pos hk14] at e10
      refine WR.stepE (v' := .bool true) (Ex.eql rfl rfl) (congrArg Value.bool (decide_eq_true hk12)) (Wn.none rfl) rfl rfl (MV rfl rfl (SG (Ex.fieldAddr Tryz.underlying24 rfl Tryz.sizeOf3 (by decide) rfl) rfl rfl rfl (SG (Ex.load1 H rfl (by repeat (first | exact List.Mem.head _ | apply List.Mem.tail)) Tryz.isAgg3 (by rfl)) rfl rfl rfl ?_)))
      refine WR.stepE (v' := .bool true) (Ex.eql rfl rfl) (congrArg Value.bool (decide_eq_true hk13)) (Wn.some rfl rfl rfl) rfl rfl (PT rfl rfl rfl (MV rfl rfl (SG (Ex.move rfl) rfl rfl rfl (WR.stepE (v' := .bool true) (Ex.strEql rfl rfl) (congrArg Value.bool (decide_eq_true hk14)) (Wn.some rfl rfl rfl) rfl rfl (PT rfl rfl rfl (MV rfl rfl (SG (Ex.move rfl) rfl rfl rfl (SG (Ex.strEql rfl rfl) rfl rfl rfl (PT rfl rfl rfl (AS rfl rfl (NL ?_)))))))))))
      exact WQ.meetN [(0, _)] ⟨rfl, trivial⟩ ⟨_, _, rfl, (H.pick (L' := []) (by repeat (first | exact Pick.nil | refine Pick.cons (by repeat first | exact .head | apply Rem.tail) ?_))), hg_maxl, hg_tabs, e10⟩
     ·
      rw [if_neg hk14] at e10
      refine WR.stepE (v' := .bool true) (Ex.eql rfl rfl) (congrArg Value.bool (decide_eq_true hk12)) (Wn.none rfl) rfl rfl (MV rfl rfl (SG (Ex.fieldAddr Tryz.underlying24 rfl Tryz.sizeOf3 (by decide) rfl) rfl rfl rfl (SG (Ex.load1 H rfl (by repeat (first | exact List.Mem.head _ | apply List.Mem.tail)) Tryz.isAgg3 (by rfl)) rfl rfl rfl ?_)))
      refine WR.stepE (v' := .bool true) (Ex.eql rfl rfl) (congrArg Value.bool (decide_eq_true hk13)) (Wn.some rfl rfl rfl) rfl rfl (PT rfl rfl rfl (MV rfl rfl (SG (Ex.move rfl) rfl rfl rfl (WR.stepE (v' := .bool false) (Ex.strEql rfl rfl) (congrArg Value.bool (decide_eq_false hk14)) (Wn.some rfl rfl rfl) rfl rfl (PT rfl rfl rfl (MV rfl rfl (GF rfl rfl rfl (GF rfl rfl rfl (PF rfl rfl rfl (AS rfl rfl (NL ?_)))))))))))
      exact WQ.meetN [(0, _)] ⟨rfl, trivial⟩ ⟨_, _, rfl, (H.pick (L' := []) (by repeat (first | exact Pick.nil | refine Pick.cons (by repeat first | exact .head | apply Rem.tail) ?_))), hg_maxl, hg_tabs, e10⟩
    ·
     rw [if_neg hk13] at e10
     refine WR.stepE (v' := .bool true) (Ex.eql rfl rfl) (congrArg Value.bool (decide_eq_true hk12)) (Wn.none rfl) rfl rfl (MV rfl rfl (SG (Ex.fieldAddr Tryz.underlying24 rfl Tryz.sizeOf3 (by decide) rfl) rfl rfl rfl (SG (Ex.load1 H rfl (by repeat (first | exact List.Mem.head _ | apply List.Mem.tail)) Tryz.isAgg3 (by rfl)) rfl rfl rfl ?_)))
     refine WR.stepE (v' := .bool false) (Ex.eql rfl rfl) (congrArg Value.bool (decide_eq_false hk13)) (Wn.some rfl rfl rfl) rfl rfl (PT rfl rfl rfl (MV rfl rfl (GF rfl rfl rfl (GF rfl rfl rfl (PF rfl rfl rfl (MV rfl rfl (GF rfl rfl rfl (GF rfl rfl rfl (PF rfl rfl rfl (AS rfl rfl (NL ?_)))))))))))
     exact WQ.meetN [(0, _)] ⟨rfl, trivial⟩ ⟨_, _, rfl, (H.pick (L' := []) (by repeat (first | exact Pick.nil | refine Pick.cons (by repeat first | exact .head | apply Rem.tail) ?_))), hg_maxl, hg_tabs, e10⟩
   ·
    rw [if_neg hk12] at e10
    refine WR.stepE (v' := .bool false) (Ex.eql rfl rfl) (congrArg Value.bool (decide_eq_false hk12)) (Wn.none rfl) rfl rfl (MV rfl rfl (WR.skipN 3 rfl rfl (PF rfl rfl rfl (MV rfl rfl (GF rfl rfl rfl (GF rfl rfl rfl (PF rfl rfl rfl (MV rfl rfl (GF rfl rfl rfl (GF rfl rfl rfl (PF rfl rfl rfl (AS rfl rfl (NL ?_)))))))))))))
    exact WQ.meetN [(0, _)] ⟨rfl, trivial⟩ ⟨_, _, rfl, (H.pick (L' := []) (by repeat (first | exact Pick.nil | refine Pick.cons (by repeat first | exact .head | apply Rem.tail) ?_))), hg_maxl, hg_tabs, e10⟩
  ·
   rintro e w ⟨b11, M, rfl, H, hg_maxl, hg_tabs, q15⟩
   obtain rfl := Option.some.inj q15
   refine TN (RT ?_)
   obtain rfl := Option.some.inj h
   exact WQ.ret1 rfl rfl H.ext rfl
theorem R_At_ct {p0 : Int} {p1 : Int} {r : (Int × Int)} (h : R_At p0 p1 = some r) : Ct Tryz.prog 14 [I p0, I p1] (fun M => True) (fun v M => v = Value.agg #[I r.1, I r.2]) := by
  refine Ct.of Tryz.func14 (enters Tryz.func14 (by kernel_rfl) rfl) rfl rfl rfl ?_
  intro w0 M0 H hp
  unfold R_At at h
  refine SQ (RG (WR.alloc [_, _] H Tryz.zeroValue24 rfl (Wn.none rfl) rfl ?_))
  intro b4 w H
  refine NL (TN (SQ (RG (MV rfl rfl (MV rfl rfl (ST (Ex.build [I p0, I p1] Tryz.underlying24 Tryz.zeroValue24 (xplaces24 Tryz.underlying24) rfl rfl) rfl (WR.store [_, _] H rfl rfl rfl (by repeat first | exact .head | apply Upd.tail) Tryz.sizeOf24 rfl (by rfl) (by rfl) (Wn.none rfl) ?_)))))))
  intro w H
  refine NL (TN (RT ?_))
  obtain rfl := Option.some.inj h
  exact WQ.ret1 rfl ⟨_, rfl, H.loadAgg (by repeat (first | exact List.Mem.head _ | apply List.Mem.tail)) Tryz.isAgg24 Tryz.sizeOf24 (by rfl)⟩ H.ext rfl
theorem R_In_ct {p0 : Int} {p1 : Int} {p2 : Int} {r : Bool} (h : R_In p0 p1 p2 = some r) : Ct Tryz.prog 34 [I p0, I p1, I p2] (fun M => True) (fun v M => v = Value.bool r) := by
  refine Ct.of Tryz.func34 (enters Tryz.func34 (by kernel_rfl) rfl) rfl rfl rfl ?_
  intro w0 M0 H hp
  unfold R_In at h
  refine SQ (RG (AS rfl rfl (NL (TN (SQ ?_)))))
  obtain ⟨o1, e2, h⟩ := bnd h
  refine WC.cutX (fun e w => ∃ (b3 : Bool) (M : Mem), e = [(6, Value.bool b3)] ∧ St w0 M0 M [] w ∧ some b3 = some o1) [] ?_ ?_ (trivial)
  ·
   refine RG (MV rfl rfl (MV rfl rfl ?_))
   by_cases hk4 : p1 ≤ p0
   ·
    rw [if_pos hk4] at e2
    refine WR.stepE (v' := .bool true) (Ex.geq rfl rfl) (congrArg Value.bool (decide_eq_true hk4)) (Wn.none rfl) rfl rfl (MV rfl rfl (SG (Ex.move rfl) rfl rfl rfl (SG (Ex.move rfl) rfl rfl rfl (SG (Ex.leq rfl rfl) rfl rfl rfl (PT rfl rfl rfl (AS rfl rfl (NL ?_)))))))
    exact WQ.meetN [(6, _)] ⟨rfl, trivial⟩ ⟨_, _, rfl, H, e2⟩
   ·
    rw [if_neg hk4] at e2
    refine WR.stepE (v' := .bool false) (Ex.geq rfl rfl) (congrArg Value.bool (decide_eq_false hk4)) (Wn.none rfl) rfl rfl (MV rfl rfl (WR.skipN 3 rfl rfl (PF rfl rfl rfl (AS rfl rfl (NL ?_)))))
    exact WQ.meetN [(6, _)] ⟨rfl, trivial⟩ ⟨_, _, rfl, H, e2⟩
  ·
   rintro e w ⟨b3, M, rfl, H, q5⟩
   obtain rfl := Option.some.inj q5
   refine TN (RT ?_)
   obtain rfl := Option.some.inj h
   exact WQ.ret1 rfl rfl H.ext rfl
theorem R_Find_ct {p0 : List UInt8} {p1 : List UInt8} {p2 : Int} {r : Int} (h : R_Find p0 p1 p2 = some r) : Ct Tryz.prog 62 [S p0, S p1, I p2] (fun M => True) (fun v M => v = I r) := by
  refine Ct.of Tryz.func62 (enters Tryz.func62 (by kernel_rfl) rfl) rfl rfl rfl ?_
  intro w0 M0 H hp
  unfold R_Find at h
  refine SQ (RG (AS rfl rfl (NL (TN (SQ (SQ (RG (MV rfl rfl (AS rfl rfl (NL (TN ?_)))))))))))
  obtain ⟨o1, e2, h⟩ := bnd h
  refine WC.cutX (fun e w => ∃  (M : Mem), e = [] ∧ St w0 M0 M [] w ∧ some (.inl ()) = some o1) [] ?_ ?_ (trivial)
  ·
   refine BL (WC.loopP (fun m e w => ∃ (n3 : Int) (M : Mem), e = [(0, S p0), (1, S p1), (7, I n3)] ∧ St w0 M0 M [] w ∧ R_Find_L1 p0 p1 m n3 = some o1) FU [(0, _), (1, _), (7, _)] ⟨rfl, rfl, rfl, trivial⟩ ⟨_, _, rfl, H, e2⟩ ?_)
   rintro m4 e w ⟨n3, M, rfl, H, e2⟩
   rcases m4 with _ | m4
   · rw [R_Find_L1] at e2; cases e2
   rw [R_Find_L1] at e2
   refine SQ (SQ ?_)
   obtain ⟨n5, hxn5, e2⟩ := bnd e2
   refine RG (MV rfl rfl (MV rfl rfl (ST (Ex.lenStr Tryz.underlying9 rfl) rfl (ST (Ex.addC rfl rfl hxn5) rfl (MV rfl rfl (ST (Ex.lenStr Tryz.underlying9 rfl) rfl (ST (Ex.leq rfl rfl) rfl (NL (TN ?_)))))))))
   refine WC.condB rfl (fun hk6 => ?_) (fun hk6 => ?_)
   ·
    replace hk6 : n5 ≤ (p0.length : Int) := of_decide_eq_true hk6
    rw [if_pos hk6] at e2
    refine SK (TN (SQ (BL (SQ ?_))))
    obtain ⟨n7, hxn7, e2⟩ := bnd e2
    obtain ⟨s8, hxs8, e2⟩ := bnd e2
    refine RG (MV rfl rfl (MV rfl rfl (MV rfl rfl (MV rfl rfl (ST (Ex.lenStr Tryz.underlying9 rfl) rfl (ST (Ex.addC rfl rfl hxn7) rfl (ST (Ex.sliceC Tryz.underlying9 rfl rfl rfl hxs8) rfl (MV rfl rfl (ST (Ex.strEql rfl rfl) rfl (NL (TN ?_)))))))))))
    refine WC.condB rfl (fun hk9 => ?_) (fun hk9 => ?_)
    ·
     replace hk9 : s8 = p1 := of_decide_eq_true hk9
     rw [if_pos hk9] at e2
     refine SQ (RG (MV rfl rfl (AS rfl rfl (NL (TN (RT ?_))))))
     obtain rfl := Option.some.inj e2
     try dsimp only at h
     obtain rfl := Option.some.inj h
     exact WQ.ret1 rfl rfl H.ext rfl
    ·
     replace hk9 : ¬ (s8 = p1) := of_decide_eq_false hk9
     rw [if_neg hk9] at e2
     refine SK (IB (TN ?_))
     obtain ⟨n10, hxn10, e2⟩ := bnd e2
     refine RG (MV rfl rfl (ST (Ex.addC rfl rfl hxn10) rfl (AS rfl rfl (NL ?_))))
     exact WQ.againP m4 [(0, _), (1, _), (7, _)] ⟨rfl, rfl, rfl, trivial⟩ ⟨_, _, rfl, H, e2⟩ (Nat.lt_succ_self _)
   ·
    replace hk6 : ¬ (n5 ≤ (p0.length : Int)) := of_decide_eq_false hk6
    rw [if_neg hk6] at e2
    refine WC.exit (WQ.thenExit (WQ.thenExit (WQ.exitHere ?_)))
    exact WQ.meetN [] trivial ⟨_, rfl, H, e2⟩
  ·
   rintro e w ⟨M, rfl, H, q11⟩
   obtain rfl := Option.some.inj q11
   try dsimp only at h
   refine TN (SQ (RG (AS rfl rfl (NL (TN (RT ?_))))))
   obtain rfl := Option.some.inj h
   exact WQ.ret1 rfl rfl H.ext rfl
theorem R_Hex_ct {p0 : UInt8} {r : Int} (h : R_Hex p0 = some r) : Ct Tryz.prog 100 [encB p0] (fun M => True) (fun v M => v = I r) := by
  refine Ct.of Tryz.func100 (enters Tryz.func100 (by kernel_rfl) rfl) rfl rfl rfl ?_
  intro w0 M0 H hp
  unfold R_Hex at h
  refine SQ (RG (AS rfl rfl (NL (TN (SQ (SQ (RG (AS rfl rfl (NL (TN ?_))))))))))
  obtain ⟨o1, e2, h⟩ := bnd h
  refine WC.cutX (fun e w => ∃  (M : Mem), e = [] ∧ St w0 M0 M [] w ∧ some (.inl ()) = some o1) [] ?_ ?_ (trivial)
  ·
   refine BL (WC.loopP (fun m e w => ∃ (n3 : Int) (M : Mem), e = [(0, encB p0), (3, I n3)] ∧ St w0 M0 M [] w ∧ R_Hex_L1 p0 m n3 = some o1) FU [(0, _), (3, _)] ⟨rfl, rfl, trivial⟩ ⟨_, _, rfl, H, e2⟩ ?_)
   rintro m4 e w ⟨n3, M, rfl, H, e2⟩
   rcases m4 with _ | m4
   · rw [R_Hex_L1] at e2; cases e2
   rw [R_Hex_L1] at e2
   refine SQ (SQ (RG (MV rfl rfl (ST (Ex.lss rfl rfl) rfl (NL (TN ?_))))))
   refine WC.condB rfl (fun hk5 => ?_) (fun hk5 => ?_)
   ·
    replace hk5 : n3 < (16 : Int) := of_decide_eq_true hk5
    rw [if_pos hk5] at e2
    refine SK (TN (SQ (BL (SQ ?_))))
    obtain ⟨o6, e7, e2⟩ := bnd e2
    refine WC.cutX (fun e w => ∃ (b8 : Bool) (M : Mem), e = [(0, encB p0), (3, I n3), (18, Value.bool b8)] ∧ St w0 M0 M [] w ∧ some b8 = some o6) [] ?_ ?_ (trivial)
    ·
     obtain ⟨c9, hxc9, e7⟩ := bnd e7
     refine RG (MV rfl rfl (ST (Ex.idxStrC Tryz.underlying9 rfl rfl hxc9) rfl (MV rfl rfl ?_)))
     by_cases hk10 : c9 = p0
     ·
      rw [if_pos hk10] at e7
      refine WR.stepE (v' := .bool true) (Ex.eqlB (c := c9) (d := p0) rfl rfl) (congrArg Value.bool (decide_eq_true hk10)) (Wn.none rfl) rfl rfl (MV rfl rfl (WR.skipN 5 rfl rfl (PT rfl rfl rfl (NL ?_))))
      exact WQ.meetN [(0, _), (3, _), (18, _)] ⟨rfl, rfl, rfl, trivial⟩ ⟨_, _, rfl, H, e7⟩
     ·
      rw [if_neg hk10] at e7
      obtain ⟨s11, hx12, e7⟩ := bnd e7
      obtain ⟨c13, hxc13, e7⟩ := bnd e7
      refine WR.stepE (v' := .bool false) (Ex.eqlB (c := c9) (d := p0) rfl rfl) (congrArg Value.bool (decide_eq_false hk10)) (Wn.none rfl) rfl rfl (MV rfl rfl (WR.call H (R_Lower_ct hx12) rfl trivial (Wn.some rfl rfl rfl) rfl ?_))
      intro v13 M w H hle hR
      obtain rfl := hR
      refine SG (Ex.move rfl) rfl rfl rfl (SG (Ex.idxStrC Tryz.underlying9 rfl rfl hxc13) rfl rfl rfl (SG (Ex.move rfl) rfl rfl rfl (SG (Ex.eqlB (c := c13) (d := p0) rfl rfl) rfl rfl rfl (PF rfl rfl rfl (NL ?_)))))
      exact WQ.meetN [(0, _), (3, _), (18, _)] ⟨rfl, rfl, rfl, trivial⟩ ⟨_, _, rfl, H, e7⟩
    ·
     rintro e w ⟨b8, M, rfl, H, q14⟩
     obtain rfl := Option.some.inj q14
     refine TN ?_
     refine WC.condB rfl (fun hk15 => ?_) (fun hk15 => ?_)
     ·
      subst hk15
      rw [if_pos rfl] at e2
      refine SQ (RG (MV rfl rfl (AS rfl rfl (NL (TN (RT ?_))))))
      obtain rfl := Option.some.inj e2
      try dsimp only at h
      obtain rfl := Option.some.inj h
      exact WQ.ret1 rfl rfl H.ext rfl
     ·
      subst hk15
      rw [if_neg Bool.false_ne_true] at e2
      refine SK (IB (TN ?_))
      obtain ⟨n16, hxn16, e2⟩ := bnd e2
      refine RG (MV rfl rfl (ST (Ex.addC rfl rfl hxn16) rfl (AS rfl rfl (NL ?_))))
      exact WQ.againP m4 [(0, _), (3, _)] ⟨rfl, rfl, trivial⟩ ⟨_, _, rfl, H, e2⟩ (Nat.lt_succ_self _)
   ·
    replace hk5 : ¬ (n3 < (16 : Int)) := of_decide_eq_false hk5
    rw [if_neg hk5] at e2
    refine WC.exit (WQ.thenExit (WQ.thenExit (WQ.exitHere ?_)))
    exact WQ.meetN [] trivial ⟨_, rfl, H, e2⟩
  ·
   rintro e w ⟨M, rfl, H, q17⟩
   obtain rfl := Option.some.inj q17
   try dsimp only at h
   refine TN (SQ (RG (AS rfl rfl (NL (TN (RT ?_))))))
   obtain rfl := Option.some.inj h
   exact WQ.ret1 rfl rfl H.ext rfl
end Go.Proofs.YtogkmhjnojphiaaGreatDoor
end
section
set_option maxRecDepth 100000
set_option linter.unusedVariables false
set_option linter.unusedSimpArgs false
namespace Go.Proofs.YtogkmhjnojphiaaGreatDoor
open Go Go.RowKit Go.Ph Go.Ph.Pl Go.Ph.Pf
set_option maxHeartbeats 4000000 in
theorem R_WordAt_ct {p0 : List UInt8} {p1 : Int} {r : (List UInt8 × Int)} (h : R_WordAt p0 p1 = some r) : Ct Tryz.prog 55 [S p0, I p1] (fun M => True) (fun v M => v = Value.tuple #[S r.1, I r.2]) := by
  refine Ct.of Tryz.func55 (enters Tryz.func55 (by kernel_rfl) rfl) rfl rfl rfl ?_
  intro w0 M0 H hp
  unfold R_WordAt at h
  refine SQ (RG (AS rfl rfl (AS rfl rfl (NL (TN (SQ (SQ ?_)))))))
  obtain ⟨n1, hx2, h⟩ := bnd h
  refine RG (MV rfl rfl (MV rfl rfl (WR.call H (R_Find_ct hx2) rfl trivial (Wn.none rfl) rfl ?_)))
  intro v17 M w H hle hR
  obtain rfl := hR
  refine MV rfl rfl (ST (Ex.neqC rfl rfl) rfl (NL (TN ?_)))
  refine WC.condB rfl (fun hk3 => ?_) (fun hk3 => ?_)
  ·
   replace hk3 : ¬ (n1 = p1) := of_not_decide hk3
   rw [if_neg hk3] at h
   refine SQ (RG (AS rfl rfl (AS rfl rfl (NL (TN (RT ?_))))))
   obtain rfl := Option.some.inj h
   exact WQ.ret2 rfl rfl rfl H.ext rfl
  ·
   replace hk3 : n1 = p1 := of_not_decide' hk3
   rw [if_pos hk3] at h
   refine SK (TN (SQ ?_))
   obtain ⟨n4, hxn4, h⟩ := bnd h
   obtain ⟨n5, hx6, h⟩ := bnd h
   refine RG (MV rfl rfl (MV rfl rfl (ST (Ex.addC rfl rfl hxn4) rfl (WR.call H (R_Find_ct hx6) rfl trivial (Wn.none rfl) rfl ?_))))
   intro v23 M w H hle hR
   obtain rfl := hR
   refine AS rfl rfl (NL (TN (SQ (SQ (RG (MV rfl rfl (ST (Ex.lss rfl rfl) rfl (NL (TN ?_)))))))))
   refine WC.condB rfl (fun hk7 => ?_) (fun hk7 => ?_)
   ·
    replace hk7 : n5 < (0 : Int) := of_decide_eq_true hk7
    rw [if_pos hk7] at h
    refine SQ (RG (AS rfl rfl (AS rfl rfl (NL (TN (RT ?_))))))
    obtain rfl := Option.some.inj h
    exact WQ.ret2 rfl rfl rfl H.ext rfl
   ·
    replace hk7 : ¬ (n5 < (0 : Int)) := of_decide_eq_false hk7
    rw [if_neg hk7] at h
    refine SK (TN (SQ ?_))
    obtain ⟨n8, hxn8, h⟩ := bnd h
    obtain ⟨n9, hx10, h⟩ := bnd h
    refine RG (MV rfl rfl (MV rfl rfl (ST (Ex.addC rfl rfl hxn8) rfl (WR.call H (R_Find_ct hx10) rfl trivial (Wn.none rfl) rfl ?_))))
    intro v29 M w H hle hR
    obtain rfl := hR
    refine AS rfl rfl (NL (TN (SQ (SQ (RG (MV rfl rfl (ST (Ex.lss rfl rfl) rfl (NL (TN ?_)))))))))
    refine WC.condB rfl (fun hk11 => ?_) (fun hk11 => ?_)
    ·
     replace hk11 : n9 < (0 : Int) := of_decide_eq_true hk11
     rw [if_pos hk11] at h
     refine SQ (RG (AS rfl rfl (AS rfl rfl (NL (TN (RT ?_))))))
     obtain rfl := Option.some.inj h
     exact WQ.ret2 rfl rfl rfl H.ext rfl
    ·
     replace hk11 : ¬ (n9 < (0 : Int)) := of_decide_eq_false hk11
     rw [if_neg hk11] at h
     refine SK (TN (SQ ?_))
     obtain ⟨n12, hxn12, h⟩ := bnd h
     obtain ⟨n13, hx14, h⟩ := bnd h
     refine RG (MV rfl rfl (MV rfl rfl (ST (Ex.addC rfl rfl hxn12) rfl (WR.call H (R_Find_ct hx14) rfl trivial (Wn.none rfl) rfl ?_))))
     intro v35 M w H hle hR
     obtain rfl := hR
     refine AS rfl rfl (NL (TN (SQ (SQ ?_))))
     obtain ⟨o15, e16, h⟩ := bnd h
     refine WC.cutX (fun e w => ∃ (b17 : Bool) (M : Mem), e = [(0, S p0), (1, I p1), (6, I n5), (7, I n9), (8, I n13), (58, Value.bool b17)] ∧ St w0 M0 M [] w ∧ some b17 = some o15) [] ?_ ?_ (trivial)
     ·
      by_cases hk18 : n13 < (0 : Int)
      ·
       rw [if_pos hk18] at e16
       refine RG (MV rfl rfl (WR.stepE (v' := .bool true) (Ex.lss rfl rfl) (congrArg Value.bool (decide_eq_true hk18)) (Wn.none rfl) rfl rfl (MV rfl rfl (WR.skipN 5 rfl rfl (PT rfl rfl rfl (MV rfl rfl (WR.skipN 5 rfl rfl (PT rfl rfl rfl (MV rfl rfl (WR.skipN 5 rfl rfl (PT rfl rfl rfl (NL ?_))))))))))))
       exact WQ.meetN [(0, _), (1, _), (6, _), (7, _), (8, _), (58, _)] ⟨rfl, rfl, rfl, rfl, rfl, rfl, trivial⟩ ⟨_, _, rfl, H, e16⟩
      ·
       rw [if_neg hk18] at e16
       obtain ⟨n19, hxn19, e16⟩ := bnd e16
       refine RG (MV rfl rfl (WR.stepE (v' := .bool false) (Ex.lss rfl rfl) (congrArg Value.bool (decide_eq_false hk18)) (Wn.none rfl) rfl rfl ?_))
       by_cases hk20 : (p0.length : Int) ≤ n19
       ·
        rw [if_pos hk20] at e16
        refine MV rfl rfl (SG (Ex.move rfl) rfl rfl rfl (SG (Ex.addC rfl rfl hxn19) rfl rfl rfl (SG (Ex.move rfl) rfl rfl rfl (SG (Ex.lenStr Tryz.underlying9 rfl) rfl rfl rfl (WR.stepE (v' := .bool true) (Ex.geq rfl rfl) (congrArg Value.bool (decide_eq_true hk20)) (Wn.some rfl rfl rfl) rfl rfl (PF rfl rfl rfl (MV rfl rfl (WR.skipN 5 rfl rfl (PT rfl rfl rfl (MV rfl rfl (WR.skipN 5 rfl rfl (PT rfl rfl rfl (NL ?_)))))))))))))
        exact WQ.meetN [(0, _), (1, _), (6, _), (7, _), (8, _), (58, _)] ⟨rfl, rfl, rfl, rfl, rfl, rfl, trivial⟩ ⟨_, _, rfl, H, e16⟩
       ·
        rw [if_neg hk20] at e16
        obtain ⟨n21, hxn21, e16⟩ := bnd e16
        obtain ⟨c22, hxc22, e16⟩ := bnd e16
        by_cases hk23 : c22 = 61
        ·
         rw [if_pos hk23] at e16
         obtain ⟨n24, hxn24, e16⟩ := bnd e16
         obtain ⟨n25, hxn25, e16⟩ := bnd e16
         refine MV rfl rfl (SG (Ex.move rfl) rfl rfl rfl (SG (Ex.addC rfl rfl hxn19) rfl rfl rfl (SG (Ex.move rfl) rfl rfl rfl (SG (Ex.lenStr Tryz.underlying9 rfl) rfl rfl rfl (WR.stepE (v' := .bool false) (Ex.geq rfl rfl) (congrArg Value.bool (decide_eq_false hk20)) (Wn.some rfl rfl rfl) rfl rfl (PF rfl rfl rfl (MV rfl rfl (SG (Ex.move rfl) rfl rfl rfl (SG (Ex.move rfl) rfl rfl rfl (SG (Ex.addC rfl rfl hxn21) rfl rfl rfl (SG (Ex.idxStrC Tryz.underlying9 rfl rfl hxc22) rfl rfl rfl (WR.stepE (v' := .bool false) (Ex.neqB (c := c22) (d := 61) rfl rfl) (congrArg Value.bool (by rw [decide_eq_true hk23]; rfl)) (Wn.some rfl rfl rfl) rfl rfl ?_))))))))))))
         refine PF rfl rfl rfl (MV rfl rfl (SG (Ex.move rfl) rfl rfl rfl (SG (Ex.addC rfl rfl hxn24) rfl rfl rfl (SG (Ex.move rfl) rfl rfl rfl (SG (Ex.subC rfl rfl hxn25) rfl rfl rfl (SG (Ex.gtr rfl rfl) rfl rfl rfl (PF rfl rfl rfl (NL ?_))))))))
         exact WQ.meetN [(0, _), (1, _), (6, _), (7, _), (8, _), (58, _)] ⟨rfl, rfl, rfl, rfl, rfl, rfl, trivial⟩ ⟨_, _, rfl, H, e16⟩
        ·
         rw [if_neg hk23] at e16
         refine MV rfl rfl (SG (Ex.move rfl) rfl rfl rfl (SG (Ex.addC rfl rfl hxn19) rfl rfl rfl (SG (Ex.move rfl) rfl rfl rfl (SG (Ex.lenStr Tryz.underlying9 rfl) rfl rfl rfl (WR.stepE (v' := .bool false) (Ex.geq rfl rfl) (congrArg Value.bool (decide_eq_false hk20)) (Wn.some rfl rfl rfl) rfl rfl (PF rfl rfl rfl (MV rfl rfl (SG (Ex.move rfl) rfl rfl rfl (SG (Ex.move rfl) rfl rfl rfl (SG (Ex.addC rfl rfl hxn21) rfl rfl rfl (SG (Ex.idxStrC Tryz.underlying9 rfl rfl hxc22) rfl rfl rfl (WR.stepE (v' := .bool true) (Ex.neqB (c := c22) (d := 61) rfl rfl) (congrArg Value.bool (by rw [decide_eq_false hk23]; rfl)) (Wn.some rfl rfl rfl) rfl rfl ?_))))))))))))
         refine PF rfl rfl rfl (MV rfl rfl (WR.skipN 5 rfl rfl (PT rfl rfl rfl (NL ?_))))
         exact WQ.meetN [(0, _), (1, _), (6, _), (7, _), (8, _), (58, _)] ⟨rfl, rfl, rfl, rfl, rfl, rfl, trivial⟩ ⟨_, _, rfl, H, e16⟩
     ·
      rintro e w ⟨b17, M, rfl, H, q26⟩
      obtain rfl := Option.some.inj q26
      refine TN ?_
      refine WC.condB rfl (fun hk27 => ?_) (fun hk27 => ?_)
      ·
       subst hk27
       rw [if_pos rfl] at h
       refine SQ (RG (AS rfl rfl (AS rfl rfl (NL (TN (RT ?_))))))
       obtain rfl := Option.some.inj h
       exact WQ.ret2 rfl rfl rfl H.ext rfl
      ·
       subst hk27
       rw [if_neg Bool.false_ne_true] at h
       refine SK (TN (SQ ?_))
       obtain ⟨n28, hxn28, h⟩ := bnd h
       obtain ⟨s29, hxs29, h⟩ := bnd h
       obtain ⟨n30, hx31, h⟩ := bnd h
       refine RG (MV rfl rfl (MV rfl rfl (ST (Ex.addC rfl rfl hxn28) rfl (MV rfl rfl (ST (Ex.sliceC Tryz.underlying9 rfl rfl rfl hxs29) rfl (WR.call H (R_SetOf_ct hx31) rfl trivial (Wn.none rfl) rfl ?_))))))
       intro v64 M w H hle hR
       obtain rfl := hR
       refine AS rfl rfl (NL (TN (SQ ?_)))
       obtain ⟨n32, hxn32, h⟩ := bnd h
       obtain ⟨s33, hxs33, h⟩ := bnd h
       obtain ⟨s34, hx35, h⟩ := bnd h
       refine RG (MV rfl rfl (MV rfl rfl (ST (Ex.addC rfl rfl hxn32) rfl (MV rfl rfl (ST (Ex.sliceC Tryz.underlying9 rfl rfl rfl hxs33) rfl (WR.call H (R_Lower_ct hx35) rfl trivial (Wn.none rfl) rfl ?_))))))
       intro v70 M w H hle hR
       obtain rfl := hR
       refine AS rfl rfl (NL (TN (SQ ?_)))
       obtain ⟨n36, hxn36, h⟩ := bnd h
       obtain ⟨s37, hxs37, h⟩ := bnd h
       refine RG (MV rfl rfl (MV rfl rfl (ST (Ex.addC rfl rfl hxn36) rfl (MV rfl rfl (ST (Ex.sliceC Tryz.underlying9 rfl rfl rfl hxs37) rfl (AS rfl rfl (NL (TN (SQ (SQ (RG (MV rfl rfl (ST (Ex.lss rfl rfl) rfl (NL (TN ?_)))))))))))))))
       refine WC.condB rfl (fun hk38 => ?_) (fun hk38 => ?_)
       ·
        replace hk38 : n30 < (0 : Int) := of_decide_eq_true hk38
        rw [if_pos hk38] at h
        refine SQ (RG (AS rfl rfl (AS rfl rfl (NL (TN (RT ?_))))))
        obtain rfl := Option.some.inj h
        exact WQ.ret2 rfl rfl rfl H.ext rfl
       ·
        replace hk38 : ¬ (n30 < (0 : Int)) := of_decide_eq_false hk38
        rw [if_neg hk38] at h
        refine SK (TN (SQ (RG (AS rfl rfl (NL (TN (SQ (SQ (RG (MV rfl rfl (NL (TN (BL (SQ (RG (ST (Ex.strEql rfl rfl) rfl (AS rfl rfl (NL (TN ?_)))))))))))))))))))
        obtain ⟨o39, e40, h⟩ := bnd h
        refine WC.cutX (fun e w => ∃ (l41 : List UInt8) (v42 : Value) (M : Mem), e = [(1, I p1), (8, I n13), (9, I n30), (12, v42)] ∧ St w0 M0 M [] w ∧ Sl M encB v42 l41 ∧ some (.inl l41) = some o39) [] ?_ ?_ (trivial)
        ·
         refine WC.condB rfl (fun hk44 => ?_) (fun hk44 => ?_)
         ·
          replace hk44 : s34 = [98] := of_decide_eq_true hk44
          rw [if_pos hk44] at e40
          refine SQ ?_
          obtain ⟨l45, hxl45, e40⟩ := bnd e40
          obtain ⟨l46, hx47, e40⟩ := bnd e40
          refine RG (MV rfl rfl (WR.bytesC H Tryz.underlying9 Tryz.underlying30 Tryz.underlying5 rfl hxl45 (Wn.none rfl) rfl ?_))
          intro v82 M w H hle hs82
          refine WR.call H (R_Loose64_ct hx47) rfl (hs82) (Wn.none rfl) rfl ?_
          intro v83 M w H hle hR
          replace hs82 := hs82.mono hle
          have f83_0 := hR
          refine AS rfl rfl (NL (TN (SQ ?_)))
          obtain ⟨s48, hx49, e40⟩ := bnd e40
          refine RG (MV rfl rfl (WR.call H (R_Chars64_ct hx49) rfl (f83_0) (Wn.none rfl) rfl ?_))
          intro v85 M w H hle hR
          replace f83_0 := f83_0.mono hle
          replace hs82 := hs82.mono hle
          obtain rfl := hR
          refine MV rfl rfl (ST (Ex.strNeqC rfl rfl) rfl (NL (TN ?_)))
          refine WC.condB rfl (fun hk50 => ?_) (fun hk50 => ?_)
          ·
           replace hk50 : ¬ (s48 = s37) := of_not_decide hk50
           rw [if_neg hk50] at e40
           refine SQ (RG (AS rfl rfl (AS rfl rfl (NL (TN (RT ?_))))))
           obtain rfl := Option.some.inj e40
           try dsimp only at h
           obtain rfl := Option.some.inj h
           exact WQ.ret2 rfl rfl rfl H.ext rfl
          ·
           replace hk50 : s48 = s37 := of_not_decide' hk50
           rw [if_pos hk50] at e40
           refine SK ?_
           exact WQ.meetN [(1, _), (8, _), (9, _), (12, _)] ⟨rfl, rfl, rfl, rfl, trivial⟩ ⟨_, _, _, rfl, H, f83_0, e40⟩
         ·
          replace hk44 : ¬ (s34 = [98]) := of_decide_eq_false hk44
          rw [if_neg hk44] at e40
          refine SQ (RG (ST (Ex.strEql rfl rfl) rfl (AS rfl rfl (NL (TN ?_)))))
          refine WC.condB rfl (fun hk51 => ?_) (fun hk51 => ?_)
          ·
           replace hk51 : s34 = [113] := of_decide_eq_true hk51
           rw [if_pos hk51] at e40
           refine SQ (RG (AS rfl rfl (NL (TN ?_))))
           obtain ⟨o52, e53, e40⟩ := bnd e40
           refine WC.cutX (fun e w => ∃ (l55 : List UInt8) (v56 : Value) (M : Mem), e = [(1, I p1), (8, I n13), (9, I n30), (12, v56)] ∧ St w0 M0 M [RowI 5 encB v56 l55] w ∧ some (.inl l55) = some o52) [] ?_ ?_ (trivial)
           ·
            refine BL ?_
            replace H := H.newRow 5 encB
            refine WC.loopP (fun m e w => ∃ (l58 : List UInt8) (v59 : Value) (n60 : Int) (M : Mem), e = [(1, I p1), (8, I n13), (9, I n30), (11, S s37), (12, v59), (13, I n60)] ∧ St w0 M0 M [RowI 5 encB v59 l58] w ∧ R_WordAt_L1 s37 m l58 n60 = some o52) FU [(1, _), (8, _), (9, _), (11, _), (12, _), (13, _)] ⟨rfl, rfl, rfl, rfl, rfl, rfl, trivial⟩ ⟨_, _, _, _, rfl, H, e53⟩ ?_
            rintro m61 e w ⟨l58, v59, n60, M, rfl, H, e53⟩
            rcases m61 with _ | m61
            · rw [R_WordAt_L1] at e53; cases e53
            rw [R_WordAt_L1] at e53
            refine SQ (SQ (RG (MV rfl rfl (MV rfl rfl (ST (Ex.lenStr Tryz.underlying9 rfl) rfl (ST (Ex.lss rfl rfl) rfl (NL (TN ?_))))))))
            refine WC.condB rfl (fun hk63 => ?_) (fun hk63 => ?_)
            ·
             replace hk63 : n60 < (s37.length : Int) := of_decide_eq_true hk63
             rw [if_pos hk63] at e53
             refine SK (TN (SQ (BL (SQ ?_))))
             obtain ⟨c64, hxc64, e53⟩ := bnd e53
             refine RG (MV rfl rfl (MV rfl rfl (ST (Ex.idxStrC Tryz.underlying9 rfl rfl hxc64) rfl (AS rfl rfl (NL (TN (BL (SQ (RG (MV rfl rfl (ST (Ex.eqlB (c := c64) (d := 95) rfl rfl) rfl (AS rfl rfl (NL (TN ?_))))))))))))))
             refine WC.condB rfl (fun hk65 => ?_) (fun hk65 => ?_)
             ·
              replace hk65 : c64 = 95 := of_decide_eq_true hk65
              rw [if_pos hk65] at e53
              obtain ⟨l66, hxl66, e53⟩ := bnd e53
              refine RG (MV rfl rfl (WR.lit (enc := encB) xty30 ([32] : List UInt8) H rfl (by rfl) (fun _ => rfl) rfl rfl (Wn.none rfl) rfl ?_))
              intro v107 M w H hle hs107
              refine WR.appC (l := l58) xty30 rfl (fun _ => rfl) H rfl (fun _ => by repeat first | exact .head | apply Upd.tail) rfl (hs107) hxl66 (Wn.none rfl) rfl ?_
              intro v108 w H
              refine AS rfl rfl (NL (IB (IB (TN ?_))))
              obtain ⟨n67, hxn67, e53⟩ := bnd e53
              refine RG (MV rfl rfl (ST (Ex.addC rfl rfl hxn67) rfl (AS rfl rfl (NL ?_))))
              exact WQ.againP m61 [(1, _), (8, _), (9, _), (11, _), (12, _), (13, _)] ⟨rfl, rfl, rfl, rfl, rfl, rfl, trivial⟩ ⟨_, _, _, _, rfl, H, e53⟩ (Nat.lt_succ_self _)
             ·
              replace hk65 : ¬ (c64 = 95) := of_decide_eq_false hk65
              rw [if_neg hk65] at e53
              refine SQ ?_
              obtain ⟨o68, e69, e53⟩ := bnd e53
              refine WC.cutX (fun e w => ∃ (b70 : Bool) (M : Mem), e = [(1, I p1), (8, I n13), (9, I n30), (11, S s37), (12, v59), (13, I n60), (14, encB c64), (109, Value.bool b70)] ∧ St w0 M0 M [RowI 5 encB v59 l58] w ∧ some b70 = some o68) [] ?_ ?_ (trivial)
              ·
               by_cases hk71 : c64 = 61
               ·
                rw [if_pos hk71] at e69
                obtain ⟨n72, hxn72, e69⟩ := bnd e69
                refine RG (MV rfl rfl (WR.stepE (v' := .bool true) (Ex.eqlB (c := c64) (d := 61) rfl rfl) (congrArg Value.bool (decide_eq_true hk71)) (Wn.none rfl) rfl rfl ?_))
                by_cases hk73 : n72 < (s37.length : Int)
                ·
                 rw [if_pos hk73] at e69
                 obtain ⟨n74, hxn74, e69⟩ := bnd e69
                 obtain ⟨c75, hxc75, e69⟩ := bnd e69
                 obtain ⟨n76, hx77, e69⟩ := bnd e69
                 by_cases hk78 : (0 : Int) ≤ n76
                 ·
                  rw [if_pos hk78] at e69
                  obtain ⟨n79, hxn79, e69⟩ := bnd e69
                  obtain ⟨c80, hxc80, e69⟩ := bnd e69
                  obtain ⟨n81, hx82, e69⟩ := bnd e69
                  refine MV rfl rfl (SG (Ex.move rfl) rfl rfl rfl (SG (Ex.addC rfl rfl hxn72) rfl rfl rfl (SG (Ex.move rfl) rfl rfl rfl (SG (Ex.lenStr Tryz.underlying9 rfl) rfl rfl rfl (WR.stepE (v' := .bool true) (Ex.lss rfl rfl) (congrArg Value.bool (decide_eq_true hk73)) (Wn.some rfl rfl rfl) rfl rfl (PT rfl rfl rfl (MV rfl rfl (SG (Ex.move rfl) rfl rfl rfl (SG (Ex.move rfl) rfl rfl rfl (SG (Ex.addC rfl rfl hxn74) rfl rfl rfl (SG (Ex.idxStrC Tryz.underlying9 rfl rfl hxc75) rfl rfl rfl (WR.call H (R_Hex_ct hx77) rfl trivial (Wn.some rfl rfl rfl) rfl ?_))))))))))))
                  intro v124 M w H hle hR
                  obtain rfl := hR
                  refine WR.stepE (v' := .bool true) (Ex.geq rfl rfl) (congrArg Value.bool (decide_eq_true hk78)) (Wn.some rfl rfl rfl) rfl rfl (PT rfl rfl rfl (MV rfl rfl (SG (Ex.move rfl) rfl rfl rfl (SG (Ex.move rfl) rfl rfl rfl (SG (Ex.addC rfl rfl hxn79) rfl rfl rfl (SG (Ex.idxStrC Tryz.underlying9 rfl rfl hxc80) rfl rfl rfl (WR.call H (R_Hex_ct hx82) rfl trivial (Wn.some rfl rfl rfl) rfl ?_)))))))
                  intro v132 M w H hle hR
                  obtain rfl := hR
                  refine SG (Ex.geq rfl rfl) rfl rfl rfl (PT rfl rfl rfl (AS rfl rfl (NL ?_)))
                  exact WQ.meetN [(1, _), (8, _), (9, _), (11, _), (12, _), (13, _), (14, _), (109, _)] ⟨rfl, rfl, rfl, rfl, rfl, rfl, rfl, rfl, trivial⟩ ⟨_, _, rfl, H, e69⟩
                 ·
                  rw [if_neg hk78] at e69
                  refine MV rfl rfl (SG (Ex.move rfl) rfl rfl rfl (SG (Ex.addC rfl rfl hxn72) rfl rfl rfl (SG (Ex.move rfl) rfl rfl rfl (SG (Ex.lenStr Tryz.underlying9 rfl) rfl rfl rfl (WR.stepE (v' := .bool true) (Ex.lss rfl rfl) (congrArg Value.bool (decide_eq_true hk73)) (Wn.some rfl rfl rfl) rfl rfl (PT rfl rfl rfl (MV rfl rfl (SG (Ex.move rfl) rfl rfl rfl (SG (Ex.move rfl) rfl rfl rfl (SG (Ex.addC rfl rfl hxn74) rfl rfl rfl (SG (Ex.idxStrC Tryz.underlying9 rfl rfl hxc75) rfl rfl rfl (WR.call H (R_Hex_ct hx77) rfl trivial (Wn.some rfl rfl rfl) rfl ?_))))))))))))
                  intro v124 M w H hle hR
                  obtain rfl := hR
                  refine WR.stepE (v' := .bool false) (Ex.geq rfl rfl) (congrArg Value.bool (decide_eq_false hk78)) (Wn.some rfl rfl rfl) rfl rfl (PT rfl rfl rfl (MV rfl rfl (WR.skipN 6 rfl rfl (PF rfl rfl rfl (AS rfl rfl (NL ?_))))))
                  exact WQ.meetN [(1, _), (8, _), (9, _), (11, _), (12, _), (13, _), (14, _), (109, _)] ⟨rfl, rfl, rfl, rfl, rfl, rfl, rfl, rfl, trivial⟩ ⟨_, _, rfl, H, e69⟩
                ·
                 rw [if_neg hk73] at e69
                 refine MV rfl rfl (SG (Ex.move rfl) rfl rfl rfl (SG (Ex.addC rfl rfl hxn72) rfl rfl rfl (SG (Ex.move rfl) rfl rfl rfl (SG (Ex.lenStr Tryz.underlying9 rfl) rfl rfl rfl (WR.stepE (v' := .bool false) (Ex.lss rfl rfl) (congrArg Value.bool (decide_eq_false hk73)) (Wn.some rfl rfl rfl) rfl rfl (PT rfl rfl rfl (MV rfl rfl (WR.skipN 6 rfl rfl (PF rfl rfl rfl (MV rfl rfl (WR.skipN 6 rfl rfl (PF rfl rfl rfl (AS rfl rfl (NL ?_))))))))))))))
                 exact WQ.meetN [(1, _), (8, _), (9, _), (11, _), (12, _), (13, _), (14, _), (109, _)] ⟨rfl, rfl, rfl, rfl, rfl, rfl, rfl, rfl, trivial⟩ ⟨_, _, rfl, H, e69⟩
               ·
                rw [if_neg hk71] at e69
                refine RG (MV rfl rfl (WR.stepE (v' := .bool false) (Ex.eqlB (c := c64) (d := 61) rfl rfl) (congrArg Value.bool (decide_eq_false hk71)) (Wn.none rfl) rfl rfl (MV rfl rfl (WR.skipN 5 rfl rfl (PF rfl rfl rfl (MV rfl rfl (WR.skipN 6 rfl rfl (PF rfl rfl rfl (MV rfl rfl (WR.skipN 6 rfl rfl (PF rfl rfl rfl (AS rfl rfl (NL ?_)))))))))))))
                exact WQ.meetN [(1, _), (8, _), (9, _), (11, _), (12, _), (13, _), (14, _), (109, _)] ⟨rfl, rfl, rfl, rfl, rfl, rfl, rfl, rfl, trivial⟩ ⟨_, _, rfl, H, e69⟩
              ·
               rintro e w ⟨b70, M, rfl, H, q83⟩
               obtain rfl := Option.some.inj q83
               refine TN ?_
               refine WC.condB rfl (fun hk84 => ?_) (fun hk84 => ?_)
               ·
                subst hk84
                rw [if_pos rfl] at e53
                refine SQ ?_
                obtain ⟨n85, hxn85, e53⟩ := bnd e53
                obtain ⟨c86, hxc86, e53⟩ := bnd e53
                obtain ⟨n87, hx88, e53⟩ := bnd e53
                obtain ⟨n89, hxn89, e53⟩ := bnd e53
                obtain ⟨n90, hxn90, e53⟩ := bnd e53
                obtain ⟨c91, hxc91, e53⟩ := bnd e53
                obtain ⟨n92, hx93, e53⟩ := bnd e53
                obtain ⟨n94, hxn94, e53⟩ := bnd e53
                obtain ⟨l95, hxl95, e53⟩ := bnd e53
                refine WC.draw (m := 17) rfl rfl H ?_
                intro w H
                refine WA.take (i := 0) rfl (by kernel_rfl) (by kernel_rfl) (by kernel_rfl) (fun _ => Ex.move rfl) (Wn.none rfl) rfl rfl (fun _ _ => rfl) (WA.take (i := 1) rfl (by kernel_rfl) (by kernel_rfl) (by kernel_rfl) (fun _ => Ex.move rfl) (Wn.none rfl) rfl rfl (fun _ _ => rfl) (WA.take (i := 2) rfl (by kernel_rfl) (by kernel_rfl) (by kernel_rfl) (fun _ => Ex.move rfl) (Wn.none rfl) rfl rfl (fun _ _ => rfl) (WA.take (i := 3) rfl (by kernel_rfl) (by kernel_rfl) (by kernel_rfl) (fun _ => Ex.addC rfl rfl hxn85) (Wn.none rfl) rfl rfl (fun _ _ => rfl) (WA.take (i := 4) rfl (by kernel_rfl) (by kernel_rfl) (by kernel_rfl) (fun _ => Ex.idxStrC Tryz.underlying9 rfl rfl hxc86) (Wn.none rfl) rfl rfl (fun _ _ => rfl) (WA.take (i := 7) rfl (by kernel_rfl) (by kernel_rfl) (by kernel_rfl) (fun _ => Ex.move rfl) (Wn.none rfl) rfl rfl (fun _ _ => rfl) (WA.take (i := 8) rfl (by kernel_rfl) (by kernel_rfl) (by kernel_rfl) (fun _ => Ex.move rfl) (Wn.none rfl) rfl rfl (fun _ _ => rfl) ?_))))))
                refine WA.take (i := 9) rfl (by kernel_rfl) (by kernel_rfl) (by kernel_rfl) (fun _ => Ex.addC rfl rfl hxn90) (Wn.none rfl) rfl rfl (fun _ _ => rfl) (WA.take (i := 10) rfl (by kernel_rfl) (by kernel_rfl) (by kernel_rfl) (fun _ => Ex.idxStrC Tryz.underlying9 rfl rfl hxc91) (Wn.none rfl) rfl rfl (fun _ _ => rfl) (ON 5 (by kernel_rfl) rfl (WR.call H (R_Hex_ct hx88) rfl trivial (Wn.none rfl) rfl ?_)))
                intro v140 M w H hle hR
                obtain rfl := hR
                refine NA (WA.take (i := 6) rfl (by kernel_rfl) (by kernel_rfl) (by kernel_rfl) (fun _ => Ex.mulC rfl rfl hxn89) (Wn.none rfl) rfl rfl (fun _ _ => rfl) (WA.seq (fuel := 0) [11, 12, 13, 14, 15, 16] rfl (by kernel_rfl) (WR.call H (R_Hex_ct hx93) rfl trivial (Wn.none rfl) rfl ?_)))
                intro v146 M w H hle hR
                obtain rfl := hR
                refine ST (Ex.addC rfl rfl hxn94) rfl (ST (Ex.convU8C Tryz.underlying3 Tryz.underlying5 rfl) rfl (WR.lit (enc := encB) xty30 ([(ub8 n94)] : List UInt8) H rfl (by rfl) (fun _ => rfl) rfl rfl (Wn.none rfl) rfl ?_))
                intro v149 M w H hle hs149
                refine WR.appC (l := l58) xty30 rfl (fun _ => rfl) H rfl (fun _ => by repeat first | exact .head | apply Upd.tail) rfl (hs149) hxl95 (Wn.none rfl) rfl ?_
                intro v150 w H
                refine AS rfl rfl (NA (WA.done (by kernel_rfl) (TN ?_)))
                obtain ⟨n96, hxn96, e53⟩ := bnd e53
                refine RG (MV rfl rfl (ST (Ex.addC rfl rfl hxn96) rfl (AS rfl rfl (NL (IB (IB (TN ?_)))))))
                obtain ⟨n97, hxn97, e53⟩ := bnd e53
                refine RG (MV rfl rfl (ST (Ex.addC rfl rfl hxn97) rfl (AS rfl rfl (NL ?_))))
                exact WQ.againP m61 [(1, _), (8, _), (9, _), (11, _), (12, _), (13, _)] ⟨rfl, rfl, rfl, rfl, rfl, rfl, trivial⟩ ⟨_, _, _, _, rfl, H, e53⟩ (Nat.lt_succ_self _)
               ·
                subst hk84
                rw [if_neg Bool.false_ne_true] at e53
                refine SQ ?_
                obtain ⟨o98, e99, e53⟩ := bnd e53
                refine WC.cutX (fun e w => ∃ (b100 : Bool) (M : Mem), e = [(1, I p1), (8, I n13), (9, I n30), (11, S s37), (12, v59), (13, I n60), (14, encB c64), (153, Value.bool b100)] ∧ St w0 M0 M [RowI 5 encB v59 l58] w ∧ some b100 = some o98) [] ?_ ?_ (trivial)
                ·
                 by_cases hk101 : c64 = 61
                 ·
                  rw [if_pos hk101] at e99
                  refine RG (MV rfl rfl (WR.stepE (v' := .bool true) (Ex.eqlB (c := c64) (d := 61) rfl rfl) (congrArg Value.bool (decide_eq_true hk101)) (Wn.none rfl) rfl rfl (MV rfl rfl (WR.skipN 4 rfl rfl (PT rfl rfl rfl (AS rfl rfl (NL ?_)))))))
                  exact WQ.meetN [(1, _), (8, _), (9, _), (11, _), (12, _), (13, _), (14, _), (153, _)] ⟨rfl, rfl, rfl, rfl, rfl, rfl, rfl, rfl, trivial⟩ ⟨_, _, rfl, H, e99⟩
                 ·
                  rw [if_neg hk101] at e99
                  obtain ⟨b102, hx103, e99⟩ := bnd e99
                  refine RG (MV rfl rfl (WR.stepE (v' := .bool false) (Ex.eqlB (c := c64) (d := 61) rfl rfl) (congrArg Value.bool (decide_eq_false hk101)) (Wn.none rfl) rfl rfl (MV rfl rfl (SG (Ex.move rfl) rfl rfl rfl (SG (Ex.convB Tryz.underlying5 Tryz.underlying3 rfl) rfl rfl rfl (WR.call H (R_In_ct hx103) rfl trivial (Wn.some rfl rfl rfl) rfl ?_))))))
                  intro v159 M w H hle hR
                  obtain rfl := hR
                  refine SG (Ex.not rfl) rfl rfl rfl (PF rfl rfl rfl (AS rfl rfl (NL ?_)))
                  exact WQ.meetN [(1, _), (8, _), (9, _), (11, _), (12, _), (13, _), (14, _), (153, _)] ⟨rfl, rfl, rfl, rfl, rfl, rfl, rfl, rfl, trivial⟩ ⟨_, _, rfl, H, e99⟩
                ·
                 rintro e w ⟨b100, M, rfl, H, q104⟩
                 obtain rfl := Option.some.inj q104
                 refine TN ?_
                 refine WC.condB rfl (fun hk105 => ?_) (fun hk105 => ?_)
                 ·
                  subst hk105
                  rw [if_pos rfl] at e53
                  refine SQ (RG (AS rfl rfl (AS rfl rfl (NL (TN (RT ?_))))))
                  obtain rfl := Option.some.inj e53
                  try dsimp only at e40
                  obtain rfl := Option.some.inj e40
                  try dsimp only at h
                  obtain rfl := Option.some.inj h
                  exact WQ.ret2 rfl rfl rfl H.ext rfl
                 ·
                  subst hk105
                  rw [if_neg Bool.false_ne_true] at e53
                  obtain ⟨l106, hxl106, e53⟩ := bnd e53
                  refine RG (MV rfl rfl (MV rfl rfl (WR.lit (enc := encB) xty30 ([c64] : List UInt8) H rfl (by rfl) (fun _ => rfl) rfl rfl (Wn.none rfl) rfl ?_)))
                  intro v101 M w H hle hs101
                  refine WR.appC (l := l58) xty30 rfl (fun _ => rfl) H rfl (fun _ => by repeat first | exact .head | apply Upd.tail) rfl (hs101) hxl106 (Wn.none rfl) rfl ?_
                  intro v102 w H
                  refine AS rfl rfl (NL (IB (IB (TN ?_))))
                  obtain ⟨n107, hxn107, e53⟩ := bnd e53
                  refine RG (MV rfl rfl (ST (Ex.addC rfl rfl hxn107) rfl (AS rfl rfl (NL ?_))))
                  exact WQ.againP m61 [(1, _), (8, _), (9, _), (11, _), (12, _), (13, _)] ⟨rfl, rfl, rfl, rfl, rfl, rfl, trivial⟩ ⟨_, _, _, _, rfl, H, e53⟩ (Nat.lt_succ_self _)
            ·
             replace hk63 : ¬ (n60 < (s37.length : Int)) := of_decide_eq_false hk63
             rw [if_neg hk63] at e53
             refine WC.exit (WQ.thenExit (WQ.thenExit (WQ.exitHere ?_)))
             exact WQ.meetN [(1, _), (8, _), (9, _), (12, _)] ⟨rfl, rfl, rfl, rfl, trivial⟩ ⟨_, _, _, rfl, H, e53⟩
           ·
            rintro e w ⟨l55, v56, M, rfl, H, q108⟩
            obtain rfl := Option.some.inj q108
            try dsimp only at e40
            obtain ⟨M, hle, hs109, H⟩ := H.freezeRow (v := v56) (enc := encB) (t := 5) (by repeat first | exact .head | apply Rem.tail)
            exact WQ.meetN [(1, _), (8, _), (9, _), (12, _)] ⟨rfl, rfl, rfl, rfl, trivial⟩ ⟨_, _, _, rfl, H, hs109, e40⟩
          ·
           replace hk51 : ¬ (s34 = [113]) := of_decide_eq_false hk51
           rw [if_neg hk51] at e40
           refine SQ (RG (AS rfl rfl (AS rfl rfl (NL (TN (RT ?_))))))
           obtain rfl := Option.some.inj e40
           try dsimp only at h
           obtain rfl := Option.some.inj h
           exact WQ.ret2 rfl rfl rfl H.ext rfl
        ·
         rintro e w ⟨l41, v42, M, rfl, H, hs43, q112⟩
         obtain rfl := Option.some.inj q112
         try dsimp only at h
         refine IB (TN (SQ ?_))
         obtain ⟨s113, hx114, h⟩ := bnd h
         obtain ⟨n115, hxn115, h⟩ := bnd h
         obtain ⟨n116, hxn116, h⟩ := bnd h
         refine RG (MV rfl rfl (MV rfl rfl (WR.call H (R_Decoded_ct hx114) rfl (hs43) (Wn.none rfl) rfl ?_)))
         intro v164 M w H hle hR
         replace hs43 := hs43.mono hle
         obtain rfl := hR
         refine MV rfl rfl (ST (Ex.addC rfl rfl hxn115) rfl (MV rfl rfl (ST (Ex.subC rfl rfl hxn116) rfl (AS rfl rfl (AS rfl rfl (NL (TN (RT ?_))))))))
         obtain rfl := Option.some.inj h
         exact WQ.ret2 rfl rfl rfl H.ext rfl
theorem R_Blank_ct {p0 : UInt8} {r : Bool} (h : R_Blank p0 = some r) : Ct Tryz.prog 56 [encB p0] (fun M => True) (fun v M => v = Value.bool r) := by
  refine Ct.of Tryz.func56 (enters Tryz.func56 (by kernel_rfl) rfl) rfl rfl rfl ?_
  intro w0 M0 H hp
  unfold R_Blank at h
  refine SQ (RG (AS rfl rfl (NL (TN (SQ ?_)))))
  obtain ⟨o1, e2, h⟩ := bnd h
  refine WC.cutX (fun e w => ∃ (b3 : Bool) (M : Mem), e = [(2, Value.bool b3)] ∧ St w0 M0 M [] w ∧ some b3 = some o1) [] ?_ ?_ (trivial)
  ·
   by_cases hk4 : p0 = 32
   ·
    rw [if_pos hk4] at e2
    refine RG (MV rfl rfl (WR.stepE (v' := .bool true) (Ex.eqlB (c := p0) (d := 32) rfl rfl) (congrArg Value.bool (decide_eq_true hk4)) (Wn.none rfl) rfl rfl (MV rfl rfl (GT rfl rfl rfl (GT rfl rfl rfl (PT rfl rfl rfl (AS rfl rfl (NL ?_))))))))
    exact WQ.meetN [(2, _)] ⟨rfl, trivial⟩ ⟨_, _, rfl, H, e2⟩
   ·
    rw [if_neg hk4] at e2
    refine RG (MV rfl rfl (WR.stepE (v' := .bool false) (Ex.eqlB (c := p0) (d := 32) rfl rfl) (congrArg Value.bool (decide_eq_false hk4)) (Wn.none rfl) rfl rfl (MV rfl rfl (SG (Ex.move rfl) rfl rfl rfl (SG (Ex.eqlB (c := p0) (d := 9) rfl rfl) rfl rfl rfl (PF rfl rfl rfl (AS rfl rfl (NL ?_))))))))
    exact WQ.meetN [(2, _)] ⟨rfl, trivial⟩ ⟨_, _, rfl, H, e2⟩
  ·
   rintro e w ⟨b3, M, rfl, H, q5⟩
   obtain rfl := Option.some.inj q5
   refine TN (RT ?_)
   obtain rfl := Option.some.inj h
   exact WQ.ret1 rfl rfl H.ext rfl
theorem R_Unworded_ct {p0 : List UInt8} {r : List UInt8} (h : R_Unworded p0 = some r) : Ct Tryz.prog 18 [S p0] (fun M => True) (fun v M => v = S r) := by
  refine Ct.of Tryz.func18 (enters Tryz.func18 (by kernel_rfl) rfl) rfl rfl rfl ?_
  intro w0 M0 H hp
  unfold R_Unworded at h
  refine SQ (RG (AS rfl rfl (NL (TN (SQ (RG (AS rfl rfl (NL (TN (SQ (SQ (RG (AS rfl rfl (NL (TN ?_)))))))))))))))
  obtain ⟨o1, e2, h⟩ := bnd h
  refine WC.cutX (fun e w => ∃ (s3 : List UInt8) (M : Mem), e = [(3, S s3)] ∧ St w0 M0 M [] w ∧ some s3 = some o1) [] ?_ ?_ (trivial)
  ·
   refine BL (WC.loopP (fun m e w => ∃ (s4 : List UInt8) (n5 : Int) (M : Mem), e = [(0, S p0), (3, S s4), (4, I n5)] ∧ St w0 M0 M [] w ∧ R_Unworded_L1 p0 m s4 n5 = some o1) FU [(0, _), (3, _), (4, _)] ⟨rfl, rfl, rfl, trivial⟩ ⟨_, _, _, rfl, H, e2⟩ ?_)
   rintro m6 e w ⟨s4, n5, M, rfl, H, e2⟩
   rcases m6 with _ | m6
   · rw [R_Unworded_L1] at e2; cases e2
   rw [R_Unworded_L1] at e2
   refine SQ (SQ (RG (MV rfl rfl (MV rfl rfl (ST (Ex.lenStr Tryz.underlying9 rfl) rfl (ST (Ex.lss rfl rfl) rfl (NL (TN ?_))))))))
   refine WC.condB rfl (fun hk7 => ?_) (fun hk7 => ?_)
   ·
    replace hk7 : n5 < (p0.length : Int) := of_decide_eq_true hk7
    rw [if_pos hk7] at e2
    refine SK (TN (BL (SQ ?_)))
    obtain ⟨⟨s8, n9⟩, hx10, e2⟩ := bnd e2
    try dsimp only at e2
    refine RG (MV rfl rfl (MV rfl rfl (WR.call H (R_WordAt_ct hx10) rfl trivial (Wn.none rfl) rfl ?_)))
    intro v17 M w H hle hR
    try dsimp only at hR
    obtain rfl := hR
    refine MV rfl rfl (ST (Ex.extract rfl rfl) rfl (ST (Ex.extract rfl rfl) rfl (AS rfl rfl (AS rfl rfl (NL (TN (SQ (SQ (RG (MV rfl rfl (ST (Ex.eql rfl rfl) rfl (NL (TN ?_)))))))))))))
    refine WC.condB rfl (fun hk11 => ?_) (fun hk11 => ?_)
    ·
     replace hk11 : n9 = (0 : Int) := of_decide_eq_true hk11
     rw [if_pos hk11] at e2
     refine SQ ?_
     obtain ⟨n12, hxn12, e2⟩ := bnd e2
     obtain ⟨s13, hxs13, e2⟩ := bnd e2
     obtain ⟨s14, hxs14, e2⟩ := bnd e2
     refine RG (MV rfl rfl (MV rfl rfl (MV rfl rfl (MV rfl rfl (ST (Ex.addC rfl rfl hxn12) rfl (ST (Ex.sliceC Tryz.underlying9 rfl rfl rfl hxs13) rfl (ST (Ex.strAddC rfl rfl hxs14) rfl (AS rfl rfl (NL (TN (SQ ?_)))))))))))
     obtain ⟨n15, hxn15, e2⟩ := bnd e2
     refine RG (MV rfl rfl (ST (Ex.addC rfl rfl hxn15) rfl (AS rfl rfl (NL (TN (WC.exit (WQ.thenExit (WQ.exitHere ?_))))))))
     exact WQ.againP m6 [(0, _), (3, _), (4, _)] ⟨rfl, rfl, rfl, trivial⟩ ⟨_, _, _, rfl, H, e2⟩ (Nat.lt_succ_self _)
    ·
     replace hk11 : ¬ (n9 = (0 : Int)) := of_decide_eq_false hk11
     rw [if_neg hk11] at e2
     refine SK (TN (SQ ?_))
     obtain ⟨s16, hxs16, e2⟩ := bnd e2
     refine RG (MV rfl rfl (MV rfl rfl (ST (Ex.strAddC rfl rfl hxs16) rfl (AS rfl rfl (NL (TN (SQ ?_)))))))
     obtain ⟨n17, hxn17, e2⟩ := bnd e2
     refine RG (MV rfl rfl (MV rfl rfl (ST (Ex.addC rfl rfl hxn17) rfl (AS rfl rfl (NL (TN (SQ (RG (MV rfl rfl (AS rfl rfl (NL (TN (SQ ?_)))))))))))))
     obtain ⟨o18, e19, e2⟩ := bnd e2
     refine WC.cutX (fun e w => ∃ (n20 : Int) (M : Mem), e = [(0, S p0), (3, S s16), (4, I n17), (7, I n20)] ∧ St w0 M0 M [] w ∧ some n20 = some o18) [] ?_ ?_ (trivial)
     ·
      refine BL (WC.loopP (fun m e w => ∃ (n21 : Int) (M : Mem), e = [(0, S p0), (3, S s16), (4, I n17), (7, I n21)] ∧ St w0 M0 M [] w ∧ R_Unworded_L2 p0 m n21 = some o18) FU [(0, _), (3, _), (4, _), (7, _)] ⟨rfl, rfl, rfl, rfl, trivial⟩ ⟨_, _, rfl, H, e19⟩ ?_)
      rintro m22 e w ⟨n21, M, rfl, H, e19⟩
      rcases m22 with _ | m22
      · rw [R_Unworded_L2] at e19; cases e19
      rw [R_Unworded_L2] at e19
      refine SQ (SQ ?_)
      obtain ⟨o23, e24, e19⟩ := bnd e19
      refine WC.cutX (fun e w => ∃ (b25 : Bool) (M : Mem), e = [(0, S p0), (3, S s16), (4, I n17), (7, I n21), (47, Value.bool b25)] ∧ St w0 M0 M [] w ∧ some b25 = some o23) [] ?_ ?_ (trivial)
      ·
       refine RG (MV rfl rfl (MV rfl rfl (ST (Ex.lenStr Tryz.underlying9 rfl) rfl ?_)))
       by_cases hk26 : n21 < (p0.length : Int)
       ·
        rw [if_pos hk26] at e24
        obtain ⟨c27, hxc27, e24⟩ := bnd e24
        obtain ⟨b28, hx29, e24⟩ := bnd e24
        refine WR.stepE (v' := .bool true) (Ex.lss rfl rfl) (congrArg Value.bool (decide_eq_true hk26)) (Wn.none rfl) rfl rfl (MV rfl rfl (SG (Ex.move rfl) rfl rfl rfl (SG (Ex.move rfl) rfl rfl rfl (SG (Ex.idxStrC Tryz.underlying9 rfl rfl hxc27) rfl rfl rfl (WR.call H (R_Blank_ct hx29) rfl trivial (Wn.some rfl rfl rfl) rfl ?_)))))
        intro v46 M w H hle hR
        obtain rfl := hR
        refine PT rfl rfl rfl (NL ?_)
        exact WQ.meetN [(0, _), (3, _), (4, _), (7, _), (47, _)] ⟨rfl, rfl, rfl, rfl, rfl, trivial⟩ ⟨_, _, rfl, H, e24⟩
       ·
        rw [if_neg hk26] at e24
        refine WR.stepE (v' := .bool false) (Ex.lss rfl rfl) (congrArg Value.bool (decide_eq_false hk26)) (Wn.none rfl) rfl rfl (MV rfl rfl (WR.skipN 4 rfl rfl (PF rfl rfl rfl (NL ?_))))
        exact WQ.meetN [(0, _), (3, _), (4, _), (7, _), (47, _)] ⟨rfl, rfl, rfl, rfl, rfl, trivial⟩ ⟨_, _, rfl, H, e24⟩
      ·
       rintro e w ⟨b25, M, rfl, H, q30⟩
       obtain rfl := Option.some.inj q30
       refine TN ?_
       refine WC.condB rfl (fun hk31 => ?_) (fun hk31 => ?_)
       ·
        subst hk31
        rw [if_pos rfl] at e19
        refine SK (TN (BL ?_))
        obtain ⟨n32, hxn32, e19⟩ := bnd e19
        refine RG (MV rfl rfl (ST (Ex.addC rfl rfl hxn32) rfl (AS rfl rfl (NL (IB ?_)))))
        exact WQ.againP m22 [(0, _), (3, _), (4, _), (7, _)] ⟨rfl, rfl, rfl, rfl, trivial⟩ ⟨_, _, rfl, H, e19⟩ (Nat.lt_succ_self _)
       ·
        subst hk31
        rw [if_neg Bool.false_ne_true] at e19
        refine WC.exit (WQ.thenExit (WQ.thenExit (WQ.exitHere ?_)))
        exact WQ.meetN [(0, _), (3, _), (4, _), (7, _)] ⟨rfl, rfl, rfl, rfl, trivial⟩ ⟨_, _, rfl, H, e19⟩
     ·
      rintro e w ⟨n20, M, rfl, H, q33⟩
      obtain rfl := Option.some.inj q33
      refine TN (SQ ?_)
      obtain ⟨o34, e35, e2⟩ := bnd e2
      refine WC.cutX (fun e w => ∃ (b36 : Bool) (M : Mem), e = [(0, S p0), (3, S s16), (4, I n17), (7, I n20), (58, Value.bool b36)] ∧ St w0 M0 M [] w ∧ some b36 = some o34) [] ?_ ?_ (trivial)
      ·
       refine RG (MV rfl rfl (MV rfl rfl ?_))
       by_cases hk37 : n17 < n20
       ·
        rw [if_pos hk37] at e35
        refine WR.stepE (v' := .bool true) (Ex.gtr rfl rfl) (congrArg Value.bool (decide_eq_true hk37)) (Wn.none rfl) rfl rfl (MV rfl rfl (SG (Ex.move rfl) rfl rfl rfl (SG (Ex.move rfl) rfl rfl rfl (SG (Ex.lenStr Tryz.underlying9 rfl) rfl rfl rfl (SG (Ex.lss rfl rfl) rfl rfl rfl (PT rfl rfl rfl (NL ?_)))))))
        exact WQ.meetN [(0, _), (3, _), (4, _), (7, _), (58, _)] ⟨rfl, rfl, rfl, rfl, rfl, trivial⟩ ⟨_, _, rfl, H, e35⟩
       ·
        rw [if_neg hk37] at e35
        refine WR.stepE (v' := .bool false) (Ex.gtr rfl rfl) (congrArg Value.bool (decide_eq_false hk37)) (Wn.none rfl) rfl rfl (MV rfl rfl (WR.skipN 4 rfl rfl (PF rfl rfl rfl (NL ?_))))
        exact WQ.meetN [(0, _), (3, _), (4, _), (7, _), (58, _)] ⟨rfl, rfl, rfl, rfl, rfl, trivial⟩ ⟨_, _, rfl, H, e35⟩
      ·
       rintro e w ⟨b36, M, rfl, H, q38⟩
       obtain rfl := Option.some.inj q38
       refine TN ?_
       refine WC.condB rfl (fun hk39 => ?_) (fun hk39 => ?_)
       ·
        subst hk39
        rw [if_pos rfl] at e2
        refine SQ ?_
        obtain ⟨⟨s40, n41⟩, hx42, e2⟩ := bnd e2
        try dsimp only at e2
        refine RG (MV rfl rfl (MV rfl rfl (WR.call H (R_WordAt_ct hx42) rfl trivial (Wn.none rfl) rfl ?_)))
        intro v62 M w H hle hR
        try dsimp only at hR
        obtain rfl := hR
        refine MV rfl rfl (ST (Ex.extract rfl rfl) rfl (ST (Ex.extract rfl rfl) rfl (AS rfl rfl (AS rfl rfl (NL (TN (SQ (RG (MV rfl rfl (ST (Ex.gtr rfl rfl) rfl (NL (TN ?_))))))))))))
        refine WC.condB rfl (fun hk43 => ?_) (fun hk43 => ?_)
        ·
         replace hk43 : (0 : Int) < n41 := of_decide_eq_true hk43
         rw [if_pos hk43] at e2
         refine RG (MV rfl rfl (AS rfl rfl (NL (IB ?_))))
         exact WQ.againP m6 [(0, _), (3, _), (4, _)] ⟨rfl, rfl, rfl, trivial⟩ ⟨_, _, _, rfl, H, e2⟩ (Nat.lt_succ_self _)
        ·
         replace hk43 : ¬ ((0 : Int) < n41) := of_decide_eq_false hk43
         rw [if_neg hk43] at e2
         refine SK (IB ?_)
         exact WQ.againP m6 [(0, _), (3, _), (4, _)] ⟨rfl, rfl, rfl, trivial⟩ ⟨_, _, _, rfl, H, e2⟩ (Nat.lt_succ_self _)
       ·
        subst hk39
        rw [if_neg Bool.false_ne_true] at e2
        refine SK (IB ?_)
        exact WQ.againP m6 [(0, _), (3, _), (4, _)] ⟨rfl, rfl, rfl, trivial⟩ ⟨_, _, _, rfl, H, e2⟩ (Nat.lt_succ_self _)
   ·
    replace hk7 : ¬ (n5 < (p0.length : Int)) := of_decide_eq_false hk7
    rw [if_neg hk7] at e2
    refine WC.exit (WQ.thenExit (WQ.thenExit (WQ.exitHere ?_)))
    exact WQ.meetN [(3, _)] ⟨rfl, trivial⟩ ⟨_, _, rfl, H, e2⟩
  ·
   rintro e w ⟨s3, M, rfl, H, q44⟩
   obtain rfl := Option.some.inj q44
   refine TN (SQ (RG (MV rfl rfl (AS rfl rfl (NL (TN (RT ?_)))))))
   obtain rfl := Option.some.inj h
   exact WQ.ret1 rfl rfl H.ext rfl
theorem L_WordsDecodeMatchesSpec_ct {p0 : List UInt8} {r : Bool} (h : L_WordsDecodeMatchesSpec p0 = some r) : Ct Tryz.prog 4 [S p0] (fun M => GlF (fun w => ∃ m, w.cell? ⟨2, 0, none⟩ = some (.int .i64 m)) M ∧ Tabs M) (fun v M => v = Value.bool r) := by
  refine Ct.of Tryz.func4 (enters Tryz.func4 (by kernel_rfl) rfl) rfl rfl rfl ?_
  intro w0 M0 H hp
  obtain ⟨hg_maxl, hg_tabs⟩ := hp
  unfold L_WordsDecodeMatchesSpec at h
  refine SQ (RG (AS rfl rfl (NL (TN (SQ (SQ ?_))))))
  obtain ⟨b1, hx2, h⟩ := bnd h
  refine RG (WR.call H (L_wordsExample_ct hx2) rfl ⟨hg_maxl, hg_tabs⟩ (Wn.none rfl) rfl ?_)
  intro v5 M w H hle hR
  replace hg_maxl := hg_maxl.mono hle
  replace hg_tabs := hg_tabs.mono hle
  obtain rfl := hR
  refine ST (Ex.not rfl) rfl (NL (TN ?_))
  refine WC.condB rfl (fun hk3 => ?_) (fun hk3 => ?_)
  ·
   replace hk3 : b1 = false := by simpa using hk3
   subst hk3
   rw [if_neg Bool.false_ne_true] at h
   refine SQ (RG (AS rfl rfl (NL (TN (RT ?_)))))
   obtain rfl := Option.some.inj h
   exact WQ.ret1 rfl rfl H.ext rfl
  ·
   replace hk3 : b1 = true := by simpa using hk3
   subst hk3
   rw [if_pos rfl] at h
   refine SK (TN (SQ ?_))
   obtain ⟨⟨s4, ⟨n5, n6⟩⟩, hx7, h⟩ := bnd h
   try dsimp only at h
   refine RG (MV rfl rfl (WR.call H (words_Decode_ct hx7) rfl (hg_maxl) (Wn.none rfl) rfl ?_))
   intro v9 M w H hle hR
   replace hg_maxl := hg_maxl.mono hle
   replace hg_tabs := hg_tabs.mono hle
   try dsimp only at hR
   obtain rfl := hR
   refine MV rfl rfl (ST (Ex.extract rfl rfl) rfl (ST (Ex.extract rfl rfl) rfl (WR.alloc [_, _] H Tryz.zeroValue24 rfl (Wn.none rfl) rfl ?_)))
   intro b4 w H
   refine AS rfl rfl (WR.store [_, _] H rfl rfl rfl (by repeat first | exact .head | apply Upd.tail) Tryz.sizeOf24 rfl (by rfl) (by rfl) (Wn.none rfl) ?_)
   intro w H
   refine NL (TN (SQ (SQ (RG (MV rfl rfl (ST (Ex.lenStr Tryz.underlying9 rfl) rfl (ST (Ex.gtr rfl rfl) rfl (NL (TN ?_)))))))))
   refine WC.condB rfl (fun hk8 => ?_) (fun hk8 => ?_)
   ·
    replace hk8 : (4000 : Int) < (p0.length : Int) := of_decide_eq_true hk8
    rw [if_pos hk8] at h
    refine SQ ?_
    obtain ⟨o9, e10, h⟩ := bnd h
    refine WC.cutX (fun e w => ∃ (b11 : Bool) (M : Mem), e = [(2, Value.bool b11)] ∧ St w0 M0 M [] w ∧ GlF (fun w => ∃ m, w.cell? ⟨2, 0, none⟩ = some (.int .i64 m)) M ∧ Tabs M ∧ some b11 = some o9) [] ?_ ?_ (trivial)
    ·
     obtain ⟨⟨n12, n13⟩, hx14, e10⟩ := bnd e10
     try dsimp only at e10
     refine WC.draw (m := 8) rfl rfl H ?_
     intro w H
     by_cases hk15 : n5 = n12 ∧ n6 = n13
     ·
      rw [if_pos hk15] at e10
      refine WA.two (i := 0) (j := 1) (by kernel_rfl) rfl rfl ?_ ?_
      ·
       refine ST (Ex.loadAgg H rfl (by repeat (first | exact List.Mem.head _ | apply List.Mem.tail)) Tryz.isAgg24 Tryz.sizeOf24 (by rfl)) rfl ?_
       refine NA (WA.seq (fuel := 0) [1, 2, 3, 4, 5, 6, 7] rfl (by kernel_rfl) (WR.call H (R_At_ct hx14) rfl trivial (Wn.none rfl) rfl ?_))
       intro v16 M w H hle hR
       replace hg_maxl := hg_maxl.mono hle
       replace hg_tabs := hg_tabs.mono hle
       try dsimp only at hR
       obtain rfl := hR
       refine WR.stepE (v' := .bool true) (Ex.eqlAgg rfl rfl (by kernel_rfl) (xeq24 n5 n12 n6 n13)) (congrArg Value.bool (decide_eq_true hk15)) (Wn.none rfl) rfl rfl (MV rfl rfl (SG (Ex.move rfl) rfl rfl rfl (SG (Ex.strEql rfl rfl) rfl rfl rfl (PT rfl rfl rfl (AS rfl rfl (NA (WA.done (by kernel_rfl) ?_)))))))
       exact WQ.meetN [(2, _)] ⟨rfl, trivial⟩ ⟨_, _, rfl, (H.pick (L' := []) (by repeat (first | exact Pick.nil | refine Pick.cons (by repeat first | exact .head | apply Rem.tail) ?_))), hg_maxl, hg_tabs, e10⟩
      ·
       refine WR.call H (R_At_ct hx14) rfl trivial (Wn.none rfl) rfl ?_
       intro v16 M w H hle hR
       replace hg_maxl := hg_maxl.mono hle
       replace hg_tabs := hg_tabs.mono hle
       try dsimp only at hR
       obtain rfl := hR
       refine NA (WA.seq (fuel := 0) [0, 2, 3, 4, 5, 6, 7] rfl (by kernel_rfl) (ST (Ex.loadAgg H rfl (by repeat (first | exact List.Mem.head _ | apply List.Mem.tail)) Tryz.isAgg24 Tryz.sizeOf24 (by rfl)) rfl ?_))
       refine WR.stepE (v' := .bool true) (Ex.eqlAgg rfl rfl (by kernel_rfl) (xeq24 n5 n12 n6 n13)) (congrArg Value.bool (decide_eq_true hk15)) (Wn.none rfl) rfl rfl (MV rfl rfl (SG (Ex.move rfl) rfl rfl rfl (SG (Ex.strEql rfl rfl) rfl rfl rfl (PT rfl rfl rfl (AS rfl rfl (NA (WA.done (by kernel_rfl) ?_)))))))
       exact WQ.meetN [(2, _)] ⟨rfl, trivial⟩ ⟨_, _, rfl, (H.pick (L' := []) (by repeat (first | exact Pick.nil | refine Pick.cons (by repeat first | exact .head | apply Rem.tail) ?_))), hg_maxl, hg_tabs, e10⟩
     ·
      rw [if_neg hk15] at e10
      refine WA.two (i := 0) (j := 1) (by kernel_rfl) rfl rfl ?_ ?_
      ·
       refine ST (Ex.loadAgg H rfl (by repeat (first | exact List.Mem.head _ | apply List.Mem.tail)) Tryz.isAgg24 Tryz.sizeOf24 (by rfl)) rfl ?_
       refine NA (WA.seq (fuel := 0) [1, 2, 3, 4, 5, 6, 7] rfl (by kernel_rfl) (WR.call H (R_At_ct hx14) rfl trivial (Wn.none rfl) rfl ?_))
       intro v16 M w H hle hR
       replace hg_maxl := hg_maxl.mono hle
       replace hg_tabs := hg_tabs.mono hle
       try dsimp only at hR
       obtain rfl := hR
       refine WR.stepE (v' := .bool false) (Ex.eqlAgg rfl rfl (by kernel_rfl) (xeq24 n5 n12 n6 n13)) (congrArg Value.bool (decide_eq_false hk15)) (Wn.none rfl) rfl rfl (MV rfl rfl (GF rfl rfl rfl (GF rfl rfl rfl (PF rfl rfl rfl (AS rfl rfl (NA (WA.done (by kernel_rfl) ?_)))))))
       exact WQ.meetN [(2, _)] ⟨rfl, trivial⟩ ⟨_, _, rfl, (H.pick (L' := []) (by repeat (first | exact Pick.nil | refine Pick.cons (by repeat first | exact .head | apply Rem.tail) ?_))), hg_maxl, hg_tabs, e10⟩
      ·
       refine WR.call H (R_At_ct hx14) rfl trivial (Wn.none rfl) rfl ?_
       intro v16 M w H hle hR
       replace hg_maxl := hg_maxl.mono hle
       replace hg_tabs := hg_tabs.mono hle
       try dsimp only at hR
       obtain rfl := hR
       refine NA (WA.seq (fuel := 0) [0, 2, 3, 4, 5, 6, 7] rfl (by kernel_rfl) (ST (Ex.loadAgg H rfl (by repeat (first | exact List.Mem.head _ | apply List.Mem.tail)) Tryz.isAgg24 Tryz.sizeOf24 (by rfl)) rfl ?_))
       refine WR.stepE (v' := .bool false) (Ex.eqlAgg rfl rfl (by kernel_rfl) (xeq24 n5 n12 n6 n13)) (congrArg Value.bool (decide_eq_false hk15)) (Wn.none rfl) rfl rfl (MV rfl rfl (GF rfl rfl rfl (GF rfl rfl rfl (PF rfl rfl rfl (AS rfl rfl (NA (WA.done (by kernel_rfl) ?_)))))))
       exact WQ.meetN [(2, _)] ⟨rfl, trivial⟩ ⟨_, _, rfl, (H.pick (L' := []) (by repeat (first | exact Pick.nil | refine Pick.cons (by repeat first | exact .head | apply Rem.tail) ?_))), hg_maxl, hg_tabs, e10⟩
    ·
     rintro e w ⟨b11, M, rfl, H, hg_maxl, hg_tabs, q16⟩
     obtain rfl := Option.some.inj q16
     refine TN (RT ?_)
     obtain rfl := Option.some.inj h
     exact WQ.ret1 rfl rfl H.ext rfl
   ·
    replace hk8 : ¬ ((4000 : Int) < (p0.length : Int)) := of_decide_eq_false hk8
    rw [if_neg hk8] at h
    refine SK (TN (SQ ?_))
    obtain ⟨o17, e18, h⟩ := bnd h
    refine WC.cutX (fun e w => ∃ (b19 : Bool) (M : Mem), e = [(2, Value.bool b19)] ∧ St w0 M0 M [] w ∧ GlF (fun w => ∃ m, w.cell? ⟨2, 0, none⟩ = some (.int .i64 m)) M ∧ Tabs M ∧ some b19 = some o17) [] ?_ ?_ (trivial)
    ·
     refine RG (ST (Ex.fieldAddr Tryz.underlying24 rfl Tryz.sizeOf3 (by decide) rfl) rfl (ST (Ex.load1 H rfl (by repeat (first | exact List.Mem.head _ | apply List.Mem.tail)) Tryz.isAgg3 (by rfl)) rfl ?_))
     by_cases hk20 : n5 = (0 : Int)
     ·
      rw [if_pos hk20] at e18
      obtain ⟨s21, hx22, e18⟩ := bnd e18
      refine WR.stepE (v' := .bool true) (Ex.eql rfl rfl) (congrArg Value.bool (decide_eq_true hk20)) (Wn.none rfl) rfl rfl (MV rfl rfl (SG (Ex.move rfl) rfl rfl rfl (SG (Ex.move rfl) rfl rfl rfl (WR.call H (R_Unworded_ct hx22) rfl trivial (Wn.some rfl rfl rfl) rfl ?_))))
      intro v28 M w H hle hR
      replace hg_maxl := hg_maxl.mono hle
      replace hg_tabs := hg_tabs.mono hle
      obtain rfl := hR
      refine SG (Ex.strEql rfl rfl) rfl rfl rfl (PT rfl rfl rfl (AS rfl rfl (NL ?_)))
      exact WQ.meetN [(2, _)] ⟨rfl, trivial⟩ ⟨_, _, rfl, (H.pick (L' := []) (by repeat (first | exact Pick.nil | refine Pick.cons (by repeat first | exact .head | apply Rem.tail) ?_))), hg_maxl, hg_tabs, e18⟩
     ·
      rw [if_neg hk20] at e18
      refine WR.stepE (v' := .bool false) (Ex.eql rfl rfl) (congrArg Value.bool (decide_eq_false hk20)) (Wn.none rfl) rfl rfl (MV rfl rfl (WR.skipN 4 rfl rfl (PF rfl rfl rfl (AS rfl rfl (NL ?_)))))
      exact WQ.meetN [(2, _)] ⟨rfl, trivial⟩ ⟨_, _, rfl, (H.pick (L' := []) (by repeat (first | exact Pick.nil | refine Pick.cons (by repeat first | exact .head | apply Rem.tail) ?_))), hg_maxl, hg_tabs, e18⟩
    ·
     rintro e w ⟨b19, M, rfl, H, hg_maxl, hg_tabs, q23⟩
     obtain rfl := Option.some.inj q23
     refine TN (RT ?_)
     obtain rfl := Option.some.inj h
     exact WQ.ret1 rfl rfl H.ext rfl
end Go.Proofs.YtogkmhjnojphiaaGreatDoor
end
section
set_option linter.unusedVariables false
set_option linter.unusedSimpArgs false
namespace Go.Ph.Pl
end Go.Ph.Pl
end
section
set_option linter.unusedVariables false
set_option linter.unusedSimpArgs false
namespace Go.Ph.B64
theorem byThree {P : List UInt8 → Prop} (h0 : P []) (h1 : ∀ a, P [a]) (h2 : ∀ a b, P [a, b]) (h3 : ∀ a b c l, P l → P (a :: b :: c :: l)) : ∀ l, P l
  | [] => h0
  | [a] => h1 a
  | [a, b] => h2 a b
  | a :: b :: c :: l => h3 a b c l (byThree h0 h1 h2 h3 l)
abbrev A (k : Nat) : UInt8 := alpha.getD k 0
theorem outp_eq (l : List UInt8) : outp l 4 = [ch l 0, ch l 1, ch l 2, ch l 3] := rfl
theorem ch_of (l : List UInt8) (i : Nat) (h : i ≤ min 3 l.length) : ch l i = A (accN l 3 / 2 ^ (18 - 6 * i) % 64) := by
  unfold ch; rw [if_neg (by omega)]
theorem acc3 (l : List UInt8) : accN l 3 = (l.getD 0 0).toNat * 65536 + (l.getD 1 0).toNat * 256 + (l.getD 2 0).toNat := by
  simp only [accN]; omega
theorem grp3 (a b c : UInt8) (l : List UInt8) : outp (a :: b :: c :: l) 4 = [A (a.toNat / 4), A (a.toNat % 4 * 16 + b.toNat / 16), A (b.toNat % 16 * 4 + c.toNat / 64), A (c.toNat % 64)] := by
  have ha := a.toNat_lt
  have hb := b.toNat_lt
  have hc := c.toNat_lt
  have h := acc3 (a :: b :: c :: l)
  simp only [List.getD_cons_zero, List.getD_cons_succ] at h
  rw [outp_eq, ch_of _ _ (by simp), ch_of _ _ (by simp), ch_of _ _ (by simp), ch_of _ _ (by simp), h]
  congr 2
  · simp only [Nat.mul_zero, Nat.sub_zero]; omega
  congr 2
  · simp only [Nat.mul_one]; omega
  congr 2
  · omega
  rw [show (a.toNat * 65536 + b.toNat * 256 + c.toNat) / 2 ^ (18 - 6 * 3) % 64 = c.toNat % 64 by rw [show 2 ^ (18 - 6 * 3) = 1 from rfl, Nat.div_one]; omega]
theorem grp1 (a : UInt8) : outp [a] 4 = [A (a.toNat / 4), A (a.toNat % 4 * 16), 61, 61] := by
  have ha := a.toNat_lt
  have h := acc3 [a]
  simp only [List.getD_cons_zero, List.getD_cons_succ, List.getD_nil] at h
  rw [outp_eq, ch_of _ _ (by simp), ch_of _ _ (by simp), h]
  congr 2
  · simp; omega
  congr 2
  simp; omega
theorem grp2 (a b : UInt8) : outp [a, b] 4 = [A (a.toNat / 4), A (a.toNat % 4 * 16 + b.toNat / 16), A (b.toNat % 16 * 4), 61] := by
  have ha := a.toNat_lt
  have hb := b.toNat_lt
  have h := acc3 [a, b]
  simp only [List.getD_cons_zero, List.getD_cons_succ, List.getD_nil] at h
  rw [outp_eq, ch_of _ _ (by simp), ch_of _ _ (by simp), ch_of _ _ (by simp), h]
  congr 2
  · simp; omega
  congr 2
  · simp; omega
  congr 2
  simp; omega
theorem grps_three (a b c : UInt8) (l : List UInt8) : grps (a :: b :: c :: l) = outp (a :: b :: c :: l) 4 :: grps l := by
  unfold grps
  have h1 : ((a :: b :: c :: l).length + 2) / 3 = (l.length + 2) / 3 + 1 := by simp only [List.length_cons]; omega
  rw [h1]
  unfold grpsTo
  rw [List.range_succ_eq_map, List.map_cons, List.map_map]
  congr 1
theorem grps_one (a : UInt8) : grps [a] = [outp [a] 4] := by
  unfold grps
  rw [show ([a].length + 2) / 3 = 1 by simp]
  simp [grpsTo, grpAt, List.range_succ]
theorem grps_two (a b : UInt8) : grps [a, b] = [outp [a, b] 4] := by
  unfold grps
  rw [show ([a, b].length + 2) / 3 = 1 by simp]
  simp [grpsTo, grpAt, List.range_succ]
theorem sumN6 (x y z u v w : Nat) : sumN [x, y, z, u, v, w] = 32 * x + 16 * y + 8 * z + 4 * u + 2 * v + w := by simp [sumN]; omega
theorem sumN8 (u : Nat) (h : u < 256) : sumN (bits8 u) = u := by simp [sumN, bits8]; omega
theorem six_add (x bits : List Nat) (m q : Nat) (hx : x.length = 6 * m) : six (x ++ bits) (m + q) = six bits q := by
  unfold six
  congr 1
  rw [List.drop_take, List.drop_take]
  rw [show 6 * (m + q) = x.length + 6 * q by omega, List.drop_length_add_append]
  congr 1
  omega
theorem sext_add (x bits : List Nat) (m : Nat) (hx : x.length = 6 * m) (q : Nat) : sext (x ++ bits) (m + q) = sext (x ++ bits) m ++ sext bits q := by
  induction q with
  | zero => simp [sext]
  | succ q ih => rw [← Nat.add_assoc, sext, sext, ih, six_add x bits m q hx, List.append_assoc]
theorem padBits_three (a b c : UInt8) (l : List UInt8) : padBits (a :: b :: c :: l) = (bits8 a.toNat ++ bits8 b.toNat ++ bits8 c.toNat) ++ padBits l := by
  unfold padBits bitsOf
  simp only [List.flatMap_cons, List.append_assoc, List.length_cons]
  rw [show (6 - 8 * (l.length + 1 + 1 + 1) % 6) % 6 = (6 - 8 * l.length % 6) % 6 by omega]
theorem sext_lit (x : List Nat) (bits : List Nat) (n1 n2 n3 n4 : Nat) (h1 : six (x ++ bits) 0 = n1) (h2 : six (x ++ bits) 1 = n2) (h3 : six (x ++ bits) 2 = n3) (h4 : six (x ++ bits) 3 = n4) (l1 : n1 < 64) (l2 : n2 < 64) (l3 : n3 < 64) (l4 : n4 < 64) :
    sext (x ++ bits) 4 = [A n1, A n2, A n3, A n4] := by
  simp only [sext, h1, h2, h3, h4, alpha_one _ l1, alpha_one _ l2, alpha_one _ l3, alpha_one _ l4]
  rfl
theorem chars_three (a b c : UInt8) (l : List UInt8) : chars64 (a :: b :: c :: l) = outp (a :: b :: c :: l) 4 ++ chars64 l := by
  have ha := a.toNat_lt
  have hb := b.toNat_lt
  have hc := c.toNat_lt
  have hlen : (padBits (a :: b :: c :: l)).length / 6 = 4 + (padBits l).length / 6 := by
    rw [padBits_three, List.length_append]
    simp only [List.length_append, bits8_len]
    omega
  have h4 : sext (padBits (a :: b :: c :: l)) 4 = outp (a :: b :: c :: l) 4 := by
    rw [grp3, padBits_three]
    refine sext_lit _ _ _ _ _ _ ?_ ?_ ?_ ?_ (by omega) (by omega) (by omega) (by omega)
    · simp only [six, bits8, List.cons_append, List.nil_append, List.take_succ_cons, List.take_zero, List.drop_zero, Nat.mul_zero, Nat.zero_add, sumN6]; omega
    · simp only [six, bits8, List.cons_append, List.nil_append, List.take_succ_cons, List.take_zero, List.drop_succ_cons, List.drop_zero, Nat.mul_one, sumN6]; omega
    · simp only [six, bits8, List.cons_append, List.nil_append, List.take_succ_cons, List.take_zero, List.drop_succ_cons, List.drop_zero, sumN6]; omega
    · simp only [six, bits8, List.cons_append, List.nil_append, List.take_succ_cons, List.take_zero, List.drop_succ_cons, List.drop_zero, sumN6]; omega
  have hs : sext (padBits (a :: b :: c :: l)) ((padBits (a :: b :: c :: l)).length / 6) = outp (a :: b :: c :: l) 4 ++ sext (padBits l) ((padBits l).length / 6) := by
    rw [hlen, ← h4, padBits_three]
    exact sext_add _ _ 4 (by simp [bits8_len]) _
  unfold chars64
  simp only [hs, List.append_assoc, List.length_append]
  congr 3
  rw [show (outp (a :: b :: c :: l) 4).length = 4 from rfl]
  omega
theorem padBits_one (a : UInt8) : padBits [a] = bits8 a.toNat ++ [0, 0, 0, 0] := by simp [padBits, bitsOf, List.replicate]
theorem padBits_two (a b : UInt8) : padBits [a, b] = bits8 a.toNat ++ bits8 b.toNat ++ [0, 0] := by simp [padBits, bitsOf, List.replicate]
theorem chars_of {l : List UInt8} {q : Nat} {s : List UInt8} (hq : (padBits l).length / 6 = q) (h : sext (padBits l) q = s) : chars64 l = s ++ List.replicate ((4 - s.length % 4) % 4) 61 := by
  unfold chars64; rw [hq, h]
theorem chars_one (a : UInt8) : chars64 [a] = outp [a] 4 := by
  have ha := a.toNat_lt
  rw [grp1]
  have h : sext (padBits [a]) 2 = [A (a.toNat / 4), A (a.toNat % 4 * 16)] := by
    rw [padBits_one]
    have h1 : six (bits8 a.toNat ++ [0, 0, 0, 0]) 0 = a.toNat / 4 := by
      simp only [six, bits8, List.cons_append, List.nil_append, List.take_succ_cons, List.take_zero, List.drop_zero, Nat.mul_zero, Nat.zero_add, sumN6]; omega
    have h2 : six (bits8 a.toNat ++ [0, 0, 0, 0]) 1 = a.toNat % 4 * 16 := by
      simp only [six, bits8, List.cons_append, List.nil_append, List.take_succ_cons, List.take_zero, List.drop_succ_cons, List.drop_zero, Nat.mul_one, sumN6]; omega
    simp only [sext, h1, h2, alpha_one _ (show a.toNat / 4 < 64 by omega), alpha_one _ (show a.toNat % 4 * 16 < 64 by omega)]
    rfl
  rw [chars_of (by rw [padBits_one]; simp [bits8_len]) h]; rfl
theorem chars_two (a b : UInt8) : chars64 [a, b] = outp [a, b] 4 := by
  have ha := a.toNat_lt
  have hb := b.toNat_lt
  rw [grp2]
  have h : sext (padBits [a, b]) 3 = [A (a.toNat / 4), A (a.toNat % 4 * 16 + b.toNat / 16), A (b.toNat % 16 * 4)] := by
    rw [padBits_two]
    have h1 : six (bits8 a.toNat ++ bits8 b.toNat ++ [0, 0]) 0 = a.toNat / 4 := by
      simp only [six, bits8, List.cons_append, List.nil_append, List.take_succ_cons, List.take_zero, List.drop_zero, Nat.mul_zero, Nat.zero_add, sumN6]; omega
    have h2 : six (bits8 a.toNat ++ bits8 b.toNat ++ [0, 0]) 1 = a.toNat % 4 * 16 + b.toNat / 16 := by
      simp only [six, bits8, List.cons_append, List.nil_append, List.take_succ_cons, List.take_zero, List.drop_succ_cons, List.drop_zero, Nat.mul_one, sumN6]; omega
    have h3 : six (bits8 a.toNat ++ bits8 b.toNat ++ [0, 0]) 2 = b.toNat % 16 * 4 := by
      simp only [six, bits8, List.cons_append, List.nil_append, List.take_succ_cons, List.take_zero, List.drop_succ_cons, List.drop_zero, sumN6]; omega
    simp only [sext, h1, h2, h3, alpha_one _ (show a.toNat / 4 < 64 by omega), alpha_one _ (show a.toNat % 4 * 16 + b.toNat / 16 < 64 by omega), alpha_one _ (show b.toNat % 16 * 4 < 64 by omega)]
    rfl
  rw [chars_of (by rw [padBits_two]; simp [bits8_len]) h]; rfl
theorem chars_grps (l : List UInt8) : chars64 l = (grps l).flatten := by
  induction l using byThree with
  | h0 => rfl
  | h1 a => rw [chars_one, grps_one]; simp
  | h2 a b => rw [chars_two, grps_two]; simp
  | h3 a b c l ih => rw [chars_three, grps_three, List.flatten_cons, ih]
theorem flat_len (gs : List (List UInt8)) (h : ∀ g ∈ gs, g.length = 4) : gs.flatten.length = 4 * gs.length := by
  induction gs with
  | nil => rfl
  | cons g gs ih =>
    rw [List.flatten_cons, List.length_append, h g List.mem_cons_self, ih (fun x hx => h x (List.mem_cons_of_mem _ hx)), List.length_cons]
    omega
theorem wrapTo_app (cs t : List UInt8) (m : Nat) (h : 76 * m ≤ cs.length) : wrapTo (cs ++ t) m = wrapTo cs m := by
  induction m with
  | zero => rfl
  | succ m ih =>
    rw [wrapTo, wrapTo, ih (by omega)]
    congr 2
    rw [List.drop_append_of_le_length (by omega), List.take_append_of_le_length (by rw [List.length_drop]; omega)]
theorem encRun_wrap (gs : List (List UInt8)) (h : ∀ g ∈ gs, g.length = 4) : ∃ k, k = (gs.flatten.length - 1) / 76 ∧ (encRun gs).1 = wrapTo gs.flatten k ++ gs.flatten.drop (76 * k) ∧ (encRun gs).2 = gs.flatten.length - 76 * k := by
  have key : ∀ (n : Nat) (gs : List (List UInt8)), gs.length = n → (∀ g ∈ gs, g.length = 4) → ∃ k, k = (gs.flatten.length - 1) / 76 ∧ (encRun gs).1 = wrapTo gs.flatten k ++ gs.flatten.drop (76 * k) ∧ (encRun gs).2 = gs.flatten.length - 76 * k := by
    intro n
    induction n with
    | zero =>
      intro gs hn _
      obtain rfl := List.eq_nil_of_length_eq_zero hn
      exact ⟨0, rfl, rfl, rfl⟩
    | succ n ih =>
      intro gs hn hg
      obtain ⟨g0, g, rfl⟩ : ∃ g0 g, gs = g0 ++ [g] := ⟨gs.dropLast, gs.getLast (by rintro rfl; cases hn), (List.dropLast_concat_getLast _).symm⟩
      have hl0 : g0.length = n := by simpa using hn
      have hg0 : ∀ x ∈ g0, x.length = 4 := fun x hx => hg x (List.mem_append_left _ hx)
      have hg4 : g.length = 4 := hg g (List.mem_append_right _ (List.mem_singleton.2 rfl))
      obtain ⟨k, hk, h1, h2⟩ := ih g0 hl0 hg0
      have hfl := flat_len g0 hg0
      have hflat : (g0 ++ [g]).flatten = g0.flatten ++ g := by simp
      rw [hflat, encRun_next, encStep, h1, h2, List.length_append, hg4]
      generalize g0.flatten = cs at *
      by_cases hf : cs.length - 76 * k = 76
      · rw [if_pos hf]
        refine ⟨k + 1, by omega, ?_, by simp only []; omega⟩
        have e0 : cs.length = 76 * (k + 1) := by omega
        have e1 : (cs ++ g).drop (76 * (k + 1)) = g := by rw [← e0]; exact List.drop_left
        have e2 : ((cs ++ g).drop (76 * k)).take 76 = cs.drop (76 * k) := by
          have e3 : (cs.drop (76 * k)).length = 76 := by rw [List.length_drop]; omega
          rw [List.drop_append_of_le_length (by omega)]
          exact List.take_left' e3
        rw [wrapTo, wrapTo_app _ _ _ (by omega), e1, e2]
      · rw [if_neg hf]
        refine ⟨k, by omega, ?_, by simp only []; omega⟩
        simp only []
        rw [wrapTo_app _ _ _ (by omega), List.drop_append_of_le_length (by omega), List.append_assoc]
  exact key _ gs rfl h
theorem encode_lines (l : List UInt8) : encode l = lines64 (chars64 l) := by
  obtain ⟨k, hk, h1, h2⟩ := encRun_wrap (grps l) (grps_all l)
  rw [chars_grps]
  unfold encode lines64
  rw [h1, h2, ← hk]
  generalize (grps l).flatten = cs at *
  by_cases hc : cs.drop (76 * k) = []
  · have : cs.length ≤ 76 * k := List.drop_eq_nil_iff.1 hc
    rw [if_neg (by omega), if_pos hc, hc]
  · have : 76 * k < cs.length := by
      rcases Nat.lt_or_ge (76 * k) cs.length with h | h
      · exact h
      · exact absurd (List.drop_eq_nil_of_le h) hc
    rw [if_pos (by omega), if_neg hc, List.append_assoc]
theorem encode_len (l : List UInt8) : (encode l).length ≤ 4 * ((l.length + 2) / 3) + 2 * (4 * ((l.length + 2) / 3) / 76) + 2 := by
  obtain ⟨k, hk, h1, h2⟩ := encRun_wrap (grps l) (grps_all l)
  have hfl := flat_len (grps l) (grps_all l)
  rw [grps_len] at hfl
  have hw : ∀ (cs : List UInt8) (m : Nat), 76 * m ≤ cs.length → (wrapTo cs m).length = 78 * m := by
    intro cs m
    induction m with
    | zero => intro _; rfl
    | succ m ih => intro h; simp only [wrapTo, List.length_append, List.length_take, List.length_drop, List.length_cons, List.length_nil, ih (by omega)]; omega
  have h3 : (encRun (grps l)).1.length = 78 * k + ((grps l).flatten.length - 76 * k) := by
    rw [h1, List.length_append, hw _ _ (by omega), List.length_drop]
  unfold encode
  split
  · rw [List.length_append, h3]; simp only [List.length_cons, List.length_nil]; omega
  · rw [h3]; omega
theorem chars_len (l : List UInt8) : (chars64 l).length = 4 * ((l.length + 2) / 3) := by
  rw [chars_grps, flat_len _ (grps_all l), grps_len]
def low (n y : Nat) : List Nat := (List.range n).map fun i => y / 2 ^ (n - 1 - i) % 2
theorem low_len (n y : Nat) : (low n y).length = n := by simp [low]
theorem lrun_bits (m : List UInt8) : vbits m = bitsOf (lrun m).1 ++ low (lrun m).2.2 (lrun m).2.1 := by
  have key : ∀ (m : List UInt8) (s : List UInt8 × Nat × Nat) (pre : List Nat), ((s.2.2 ≤ 6 ∧ s.2.2 % 2 = 0) ∧ s.2.1 < 2 ^ s.2.2) → pre = bitsOf s.1 ++ low s.2.2 s.2.1 → pre ++ vbits m = bitsOf (m.foldl lstep s).1 ++ low (m.foldl lstep s).2.2 (m.foldl lstep s).2.1 := by
    intro m
    induction m with
    | nil => intro s pre _ h; simpa [vbits] using h
    | cons c m ih =>
      intro s pre hi h
      have hn := lstep_inv s c hi.1 hi.2
      have : pre ++ vb c = bitsOf (lstep s c).1 ++ low (lstep s c).2.2 (lstep s c).2.1 := by
        unfold vb lstep
        by_cases hv : val64 c < 0
        · rw [if_pos hv, if_pos hv]; simpa using h
        · rw [if_neg hv, if_neg hv]
          obtain ⟨e1, e2⟩ := val64_idx (c := c) (by omega)
          rw [e1, Int.toNat_natCast, h]
          obtain ⟨o, x, b⟩ := s
          simp only [] at hi ⊢
          obtain hb | hb | hb | hb : b = 0 ∨ b = 2 ∨ b = 4 ∨ b = 6 := by omega
          · subst hb
            simp only [Nat.pow_zero] at hi
            have hx : x = 0 := by omega
            subst hx
            simp [low, List.range_succ, bits6]
          all_goals
            subst hb
            simp only [show ¬ (2 + 6 < 8) by omega, show ¬ (4 + 6 < 8) by omega, show ¬ (6 + 6 < 8) by omega, if_false]
            have hx := hi.2
            simp only [Nat.reducePow] at hx
            unfold bitsOf
            rw [List.flatMap_append, List.append_assoc, List.append_assoc]
            congr 1
            simp only [List.flatMap_cons, List.flatMap_nil, List.append_nil, bits8, low, bits6, List.range_succ, List.range_zero, List.nil_append, List.cons_append, List.map_cons, List.map_nil, UInt8.toNat_ofNat', Nat.reduceAdd, Nat.reduceSub, Nat.reducePow]
            simp only [List.cons.injEq, and_true]
            omega
      have h2 := ih (lstep s c) (pre ++ vb c) hn this
      rw [List.foldl_cons, ← h2]
      simp [vbits]
  have := key m ([], 0, 0) [] (by simp) rfl
  simpa [lrun] using this
theorem eight_add (x bits : List Nat) (q : Nat) (hx : x.length = 8) : eight (x ++ bits) (q + 1) = eight bits q := by
  unfold eight
  congr 1
  rw [List.drop_take, List.drop_take, show 8 * (q + 1) = x.length + 8 * q by omega, List.drop_length_add_append]
  congr 1
  omega
theorem octs_cons (u : UInt8) (bits : List Nat) (q : Nat) : octs (bits8 u.toNat ++ bits) (q + 1) = u :: octs bits q := by
  induction q with
  | zero =>
    have : eight (bits8 u.toNat ++ bits) 0 = u.toNat := by
      unfold eight
      rw [show (List.take (8 * 0 + 8) (bits8 u.toNat ++ bits)).drop (8 * 0) = bits8 u.toNat by simp [bits8]]
      exact sumN8 _ u.toNat_lt
    simp [octs, this]
  | succ q ih => rw [octs, ih, eight_add _ _ _ (bits8_len _), octs, List.cons_append]
theorem octs_bits (o : List UInt8) (t : List Nat) : octs (bitsOf o ++ t) o.length = o := by
  induction o with
  | nil => rfl
  | cons u o ih =>
    have : bitsOf (u :: o) ++ t = bits8 u.toNat ++ (bitsOf o ++ t) := by simp [bitsOf]
    rw [this, List.length_cons, octs_cons, ih]
theorem lenient_loose (l : List UInt8) : lenient l = loose64 l := by
  unfold lenient loose64
  have h := lrun_bits (upto61 l)
  have hi := lrun_inv (upto61 l)
  have hl : (vbits (upto61 l)).length / 8 = (lrun (upto61 l)).1.length := by
    rw [h, List.length_append, bitsOf_len, low_len]; omega
  rw [hl, h, octs_bits]
end Go.Ph.B64
end
section
set_option linter.unusedVariables false
set_option linter.unusedSimpArgs false
namespace Go.Ph.Wd
open Go.Ph.Pl Go.Ph.Pf
open Go.Ph.Gr (chars Ch pieces byts)
open Go.Ph.Chs (vld setN setOf encK encGo decoded utf8 bestK)
def hexd : List UInt8 := [48, 49, 50, 51, 52, 53, 54, 55, 56, 57, 65, 66, 67, 68, 69, 70]
def alnum (c : UInt8) : Bool := decide (97 ≤ c.toNat ∧ c.toNat ≤ 122) || (decide (65 ≤ c.toNat ∧ c.toNat ≤ 90) || decide (48 ≤ c.toNat ∧ c.toNat ≤ 57))
def hx (n : Nat) : UInt8 := hexd.getD n 0
theorem allB {p : UInt8 → Prop} (h : ∀ n, n < 256 → p (UInt8.ofNat n)) (c : UInt8) : p c := by
  have := h c.toNat c.toNat_lt
  rwa [UInt8.ofNat_toNat] at this
def dq1 (c : UInt8) : List UInt8 := if c = 32 then [95] else if alnum c = true then [c] else [61, hx (c.toNat / 16), hx (c.toNat % 16)]
def dq (b : List UInt8) : List UInt8 := b.flatMap dq1
inductive Good : List UInt8 → Prop
  | nil : Good []
  | one {c : UInt8} {t : List UInt8} (h1 : c ≠ 13) (h2 : c ≠ 10) (h : Good t) : Good (c :: t)
  | crlf {t : List UInt8} (h : Good t) : Good (13 :: 10 :: t)
theorem Good.app {a b : List UInt8} (h : Good a) (k : Good b) : Good (a ++ b) := by
  induction h with
  | nil => exact k
  | one h1 h2 _ ih => exact .one h1 h2 ih
  | crlf _ ih => exact .crlf ih
def fre (l : List UInt8) : Prop := ∀ c ∈ l, c ≠ 13 ∧ c ≠ 10
theorem Good.of {a : List UInt8} (h : fre a) : Good a := by
  induction a with
  | nil => exact .nil
  | cons c a ih => exact .one (h c (by simp)).1 (h c (by simp)).2 (ih fun x hx => h x (by simp [hx]))
def keep (c : UInt8) : Bool := decide (c ≠ 13 ∧ c ≠ 10)
theorem keep_fre {a : List UInt8} (h : fre a) : a.filter keep = a := by
  rw [List.filter_eq_self]; intro c hc; exact decide_eq_true (h c hc)
theorem Good.index {s : List UInt8} (h : Good s) : (Lib.index s [13, 10] = -1 ∧ fre s) ∨ ∃ i : Nat, Lib.index s [13, 10] = (i : Int) ∧ fre (s.take i) ∧ Good (s.drop (i + 2)) ∧ i + 2 ≤ s.length ∧ s.filter keep = s.take i ++ (s.drop (i + 2)).filter keep := by
  induction h with
  | nil => exact .inl ⟨rfl, fun c hc => by cases hc⟩
  | @one c t h1 h2 h ih =>
    have hp : ([13, 10] : List UInt8).isPrefixOf (c :: t) = false := by simp [List.isPrefixOf, Ne.symm h1]
    have hk : keep c = true := decide_eq_true ⟨h1, h2⟩
    rcases ih with ⟨e1, e2⟩ | ⟨i, e1, e2, e3, e4, e5⟩
    · refine .inl ⟨by rw [Lib.index, hp, e1]; rfl, fun x hx => ?_⟩
      rcases List.mem_cons.1 hx with rfl | hx
      · exact ⟨h1, h2⟩
      · exact e2 x hx
    · refine .inr ⟨i + 1, ?_, fun x hx => ?_, ?_, by rw [List.length_cons]; omega, ?_⟩
      · rw [Lib.index, hp, e1]
        have : ((i : Int) == -1) = false := by simp
        rw [this]; simp
      · rw [List.take_succ_cons] at hx
        rcases List.mem_cons.1 hx with rfl | hx
        · exact ⟨h1, h2⟩
        · exact e2 x hx
      · rw [show i + 1 + 2 = (i + 2) + 1 by omega, List.drop_succ_cons]; exact e3
      · rw [List.filter_cons_of_pos hk, e5, List.take_succ_cons, show i + 1 + 2 = (i + 2) + 1 by omega, List.drop_succ_cons]; rfl
  | @crlf t h ih =>
    refine .inr ⟨0, by rw [Lib.index]; simp [List.isPrefixOf], fun x hx => (by cases hx), h, by simp, ?_⟩
    rw [List.take_zero, List.drop_succ_cons, List.drop_succ_cons, List.drop_zero, List.filter_cons_of_neg (by decide), List.filter_cons_of_neg (by decide)]; rfl
theorem replK : ∀ (n : Nat) (s : List UInt8), s.length ≤ n → Good s → Lib.replaceK [13, 10] [] (Lib.count s [13, 10]) s = s.filter keep
  | n, s, hn, h => by
    rcases h.index with ⟨e1, e2⟩ | ⟨i, e1, e2, e3, e4, e5⟩
    · rw [Lib.count_miss e1, keep_fre e2]; rfl
    · obtain ⟨n, rfl⟩ : ∃ k, n = k + 1 := ⟨n - 1, by omega⟩
      rw [Lib.count_hit (by simp) e1, Nat.add_comm, Lib.replaceK_hit _ _ _ _ _ e1, e5, List.append_nil]
      show _ ++ Lib.replaceK [13, 10] [] (Lib.count (s.drop (i + 2)) [13, 10]) (s.drop (i + 2)) = _
      rw [replK n (s.drop (i + 2)) (by rw [List.length_drop]; omega) e3]
theorem repl_good {s : List UInt8} (h : Good s) : Lib.replaceAll s [13, 10] [] = s.filter keep := by
  unfold Lib.replaceAll Lib.replace Lib.replaceNum
  rw [if_neg (by decide), if_pos (.inl (by decide))]
  exact replK _ _ (Nat.le_refl _) h
theorem alpha_fre : ∀ c ∈ (61 :: B64.alpha), c ≠ 13 ∧ c ≠ 10 := by decide
theorem alpha_at (k : Nat) : B64.alpha.getD k 0 ∈ (61 :: B64.alpha) ∨ B64.alpha.getD k 0 = 0 := by
  by_cases h : k < B64.alpha.length
  · rw [B64.getD_in _ _ _ h]; exact .inl (List.mem_cons_of_mem _ (List.getElem_mem h))
  · rw [B64.getD_out _ _ _ (by omega)]; exact .inr rfl
theorem outp_fre (l : List UInt8) : fre (B64.outp l 4) := fun c hc => by
  rw [B64.outp_eq] at hc
  have hch : ∀ i, B64.ch l i ≠ 13 ∧ B64.ch l i ≠ 10 := fun i => by
    unfold B64.ch
    split
    · decide
    · rcases alpha_at (B64.accN l 3 / 2 ^ (18 - 6 * i) % 64) with h | h
      · exact alpha_fre _ h
      · rw [h]; decide
  simp only [List.mem_cons, List.not_mem_nil, or_false] at hc
  rcases hc with rfl | rfl | rfl | rfl <;> exact hch _
theorem chars64_fre (l : List UInt8) : fre (B64.chars64 l) := fun c hc => by
  rw [B64.chars_grps] at hc
  obtain ⟨g, hg, hc⟩ := List.mem_flatten.1 hc
  unfold B64.grps B64.grpsTo at hg
  obtain ⟨k, _, rfl⟩ := List.mem_map.1 hg
  exact outp_fre _ c hc
theorem fre_sub {a b : List UInt8} (h : fre b) (hs : ∀ c ∈ a, c ∈ b) : fre a := fun c hc => h c (hs c hc)
theorem wrapTo_good {cs : List UInt8} (h : fre cs) : ∀ m, Good (B64.wrapTo cs m) ∧ (B64.wrapTo cs m).filter keep = cs.take (76 * m)
  | 0 => ⟨.nil, rfl⟩
  | m + 1 => by
    obtain ⟨h1, h2⟩ := wrapTo_good h m
    have hf : fre ((cs.drop (76 * m)).take 76) := fre_sub h fun c hc => List.mem_of_mem_drop (List.mem_of_mem_take hc)
    rw [B64.wrapTo]
    refine ⟨(h1.app (.of hf)).app (.crlf .nil), ?_⟩
    rw [List.filter_append, List.filter_append, h2, keep_fre hf, show ([13, 10] : List UInt8).filter keep = [] by decide, List.append_nil]
    rw [show 76 * (m + 1) = 76 * m + 76 by omega, List.take_add]
theorem lines_good {cs : List UInt8} (h : fre cs) : Good (B64.lines64 cs) ∧ (B64.lines64 cs).filter keep = cs := by
  obtain ⟨h1, h2⟩ := wrapTo_good h ((cs.length - 1) / 76)
  have hf : fre (cs.drop (76 * ((cs.length - 1) / 76))) := fre_sub h fun c hc => List.mem_of_mem_drop hc
  unfold B64.lines64
  split
  · rename_i hd
    refine ⟨h1.app .nil, ?_⟩
    rw [List.append_nil, h2]
    have := List.take_append_drop (76 * ((cs.length - 1) / 76)) cs
    rw [hd, List.append_nil] at this; exact this
  · refine ⟨h1.app ((Good.of hf).app (.crlf .nil)), ?_⟩
    rw [List.filter_append, List.filter_append, h2, keep_fre hf, show ([13, 10] : List UInt8).filter keep = [] by decide, List.append_nil, List.take_append_drop]
theorem flat_eq (b : List UInt8) (hb : b.length ≤ 12000) : words_flat b = some (B64.chars64 b) := by
  unfold words_flat base64_Encode strings_ReplaceAll
  have hl := B64.encode_len b
  rw [if_pos hb, bsome]
  dsimp only
  rw [if_pos ⟨by omega, by decide, by simp; omega⟩, bsome, B64.encode_lines]
  obtain ⟨h1, h2⟩ := lines_good (chars64_fre b)
  rw [repl_good h1, h2]
abbrev nam (k : Nat) : List UInt8 := setN.getD k []
def enc (k : Nat) (l : List UInt8) : List UInt8 := (chars l).flatMap fun c => (encK k c.1).getD []
theorem chars_len (l : List UInt8) : (chars l).length ≤ l.length := by
  have h := Gr.flat_le ((chars l).map (·.2)) (fun p hp => by
    obtain ⟨c, hc, rfl⟩ := List.mem_map.1 hp
    exact Gr.chars_ne l c hc)
  rw [Gr.chars_flat, List.length_map] at h
  exact h
theorem flatMap_len {α β : Type} (f : α → List β) (n : Nat) : ∀ (l : List α), (∀ a ∈ l, (f a).length ≤ n) → (l.flatMap f).length ≤ n * l.length
  | [], _ => by simp
  | a :: l, h => by
    have h1 := h a (by simp)
    have h2 := flatMap_len f n l (fun x hx => h x (by simp [hx]))
    simp only [List.flatMap_cons, List.length_append, List.length_cons, Nat.mul_succ]
    omega
def wrap (k : Nat) (b : List UInt8) : List UInt8 := [61, 63] ++ nam k ++ (if k = 2 then [63, 66, 63] ++ B64.chars64 b else [63, 81, 63] ++ dq b) ++ [63, 61]
def W (k : Nat) (l : List UInt8) : List UInt8 := wrap k (enc k l)
theorem rin_eq (a b c : Int) : R_In a b c = some (decide (b ≤ a ∧ a ≤ c)) := by
  unfold R_In
  by_cases h : b ≤ a
  · rw [if_pos h, bsome]; simp [h]
  · rw [if_neg h, bsome]; simp [h]
end Go.Ph.Wd
end
section
set_option linter.unusedVariables false
set_option linter.unusedSimpArgs false
namespace Go.Ph.Wd
open Go.Ph.Pl Go.Ph.Pf
open Go.Ph.Gr (chars Ch pieces byts segs)
open Go.Ph.Chs (vld setN setOf encK encGo decoded utf8 bestK)
open Go.Ph.Utf (rune dr)
end Go.Ph.Wd
end
section
set_option linter.unusedVariables false
set_option linter.unusedSimpArgs false
namespace Go.Ph.Wd
open Go.Ph.Pl Go.Ph.Pf
open Go.Ph.Gr (chars Ch pieces byts segs)
open Go.Ph.Chs (vld setN setOf encK encGo decoded utf8 bestK)
open Go.Ph.Utf (rune dr)
def p2 (k : Nat) (now : List Ch) : List (List Ch) → List (List Ch)
  | [] => [now]
  | u :: us => if (W k (byts (now ++ u))).length ≤ 75 then p2 k (now ++ u) us else now :: p2 k u us
def ext (k : Nat) (now : List Ch) : List (List Ch) → Nat × List Ch
  | [] => (0, now)
  | u :: us => if (W k (byts (now ++ u))).length ≤ 75 then ((ext k (now ++ u) us).1 + 1, (ext k (now ++ u) us).2) else (0, now)
def more (ws : List (List UInt8)) : List UInt8 := ws.flatMap fun w => 32 :: w
end Go.Ph.Wd
end
section
set_option linter.unusedVariables false
set_option linter.unusedSimpArgs false
namespace Go.Ph.Wd
open Go.Ph.Pl Go.Ph.Pf
open Go.Ph.Gr (chars Ch pieces byts segs)
open Go.Ph.Chs (vld setN setOf encK encGo decoded utf8 bestK)
open Go.Ph.Utf (rune dr)
theorem prefix_eq (s p : List UInt8) (hs : s.length ≤ 9223372036854775807) : strings_HasPrefix s p = some (decide (p <+: s)) := by
  unfold strings_HasPrefix stringslite_HasPrefix
  by_cases h : p.length ≤ s.length
  · rw [if_pos (by omega), cut_to rfl h, bsome, bsome, bsome]
    congr 1
    rw [decide_eq_decide, List.prefix_iff_eq_take]
    exact ⟨fun e => e.symm, fun e => e.symm⟩
  · rw [if_neg (by omega), bsome, bsome, decide_eq_false (fun e => h e.length_le)]
theorem index_short {l sub : List UInt8} (h : l.length < sub.length) : Lib.index l sub = -1 := by
  have h1 := Lib.index_ge l sub
  have h2 := Lib.index_room l sub
  by_cases h3 : 0 ≤ Lib.index l sub
  · have := h2 h3; omega
  · omega
def fnd (s sub : List UInt8) (i : Nat) : Int := if Lib.index (s.drop i) sub = -1 then -1 else (i : Int) + Lib.index (s.drop i) sub
theorem fnd_here {s sub : List UInt8} {i : Nat} (hi : i < s.length) (h : sub <+: s.drop i) : fnd s sub i = (i : Int) := by
  unfold fnd
  rw [List.drop_eq_getElem_cons hi] at h ⊢
  have : Lib.index (s[i] :: s.drop (i + 1)) sub = 0 := by rw [Lib.index, if_pos (List.isPrefixOf_iff_prefix.2 h)]
  rw [this]; simp
theorem fnd_next {s sub : List UInt8} {i : Nat} (hi : i < s.length) (h : ¬ sub <+: s.drop i) : fnd s sub i = fnd s sub (i + 1) := by
  unfold fnd
  have hd := List.drop_eq_getElem_cons hi
  rw [hd] at h ⊢
  have hn : ¬ sub.isPrefixOf (s[i] :: s.drop (i + 1)) = true := fun e => h (List.isPrefixOf_iff_prefix.1 e)
  have h1 := Lib.index_ge (s.drop (i + 1)) sub
  rw [Lib.index, if_neg hn]
  by_cases h2 : Lib.index (s.drop (i + 1)) sub = -1
  · rw [h2]; simp
  · have h3 : ¬ (Lib.index (s.drop (i + 1)) sub == -1) = true := by simpa using h2
    rw [if_neg h3, if_neg h2, if_neg (by omega)]; omega
theorem fnd_none {s sub : List UInt8} {i : Nat} (hi : i ≤ s.length) (h : s.length < i + sub.length) : fnd s sub i = -1 := by
  unfold fnd
  rw [if_pos (index_short (by rw [List.length_drop]; omega))]
theorem find_L1 (s sub : List UInt8) (hs : s.length ≤ 1000000000) (hb : sub.length ≤ 1000) (h0 : sub ≠ []) : ∀ (d i m : Nat), s.length - i ≤ d → d < m → i ≤ s.length → R_Find_L1 s sub m (i : Int) = some (if fnd s sub i = -1 then .inl () else .inr (fnd s sub i)) := by
  have h0' := List.length_pos_iff.2 h0
  intro d
  induction d with
  | zero =>
    intro i m h1 h2 h3
    obtain ⟨m, rfl⟩ : ∃ k, m = k + 1 := ⟨m - 1, by omega⟩
    rw [R_Find_L1, chk_ok (by omega) (by omega), bsome, if_neg (by omega), fnd_none (by omega) (by omega), if_pos rfl]
  | succ d ih =>
    intro i m h1 h2 h3
    obtain ⟨m, rfl⟩ : ∃ k, m = k + 1 := ⟨m - 1, by omega⟩
    rw [R_Find_L1, chk_ok (by omega) (by omega), bsome]
    by_cases hr : i + sub.length ≤ s.length
    · rw [if_pos (by omega), bsome, show ((i : Int) + (sub.length : Int)) = ((i + sub.length : Nat) : Int) by omega, cut_of rfl rfl (by omega) hr, bsome]
      have hpe : (s.take (i + sub.length)).drop i = (s.drop i).take sub.length := by rw [List.drop_take]; congr 1; omega
      by_cases hp : sub <+: s.drop i
      · rw [if_pos (by rw [hpe]; exact (List.prefix_iff_eq_take.1 hp).symm), fnd_here (by omega) hp, if_neg (by omega)]
      · rw [if_neg (fun e => hp (by rw [hpe] at e; exact List.prefix_iff_eq_take.2 e.symm)), chk_succ (by omega), bsome, ih (i + 1) m (by omega) (by omega) (by omega), fnd_next (by omega) hp]
    · rw [if_neg (by omega), fnd_none (by omega) (by omega), if_pos rfl]
theorem find_eq (s sub : List UInt8) (i : Nat) (hs : s.length ≤ 1000000000) (hb : sub.length ≤ 1000) (h0 : sub ≠ []) (hi : i ≤ s.length) : R_Find s sub (i : Int) = some (fnd s sub i) := by
  unfold R_Find
  rw [find_L1 s sub hs hb h0 s.length i FU (by omega) (by rw [FU_eq]; omega) hi, bsome]
  by_cases h : fnd s sub i = -1
  · rw [if_pos h, h]
  · rw [if_neg h]
theorem pre1 (s : List UInt8) (c : UInt8) : [c] <+: s ↔ s.head? = some c := by
  cases s with
  | nil => simp
  | cons a s => simp [List.cons_prefix_cons, eq_comm]
theorem example_eq : L_wordsExample = some true := by decide +kernel
theorem encode_mal {s : List UInt8} (h : s.length ≤ 1000) (hv : vld s = false) : words_Encode s = some ([], (5, -2)) := by
  unfold words_Encode basic_Fault utf8_ValidString
  rw [if_neg (by omega), if_pos (by omega), bsome, hv, if_neg Bool.false_ne_true, bsome]
end Go.Ph.Wd
end
section
set_option linter.unusedVariables false
set_option linter.unusedSimpArgs false
namespace Go.Ph.Wd
open Go.Ph.Pl Go.Ph.Pf
open Go.Ph.Gr (chars Ch pieces byts segs)
open Go.Ph.Chs (vld setN setOf encK encGo decoded utf8 bestK lower lowB)
open Go.Ph.Utf (rune dr)
def q1 : List UInt8 → Option (List UInt8 × List UInt8)
  | [] => none
  | c :: t => if c = 63 then some ([], t) else (q1 t).map fun p => (c :: p.1, p.2)
theorem q1_some : ∀ {x A r : List UInt8}, q1 x = some (A, r) → x = A ++ 63 :: r ∧ 63 ∉ A
  | [], A, r, h => by cases h
  | c :: t, A, r, h => by
    rw [q1] at h
    split at h
    · rename_i hc; cases h; exact ⟨by rw [hc]; rfl, by simp⟩
    · rename_i hc
      obtain ⟨⟨A', r'⟩, h1, h2⟩ := Option.map_eq_some_iff.1 h
      cases h2
      obtain ⟨h3, h4⟩ := q1_some h1
      exact ⟨by rw [h3]; rfl, by simp [Ne.symm hc, h4]⟩
theorem q1_of : ∀ {A r : List UInt8}, 63 ∉ A → q1 (A ++ 63 :: r) = some (A, r)
  | [], r, _ => by simp [q1]
  | c :: A, r, h => by
    simp only [List.mem_cons, not_or] at h
    rw [List.cons_append, q1, if_neg (fun e => h.1 e.symm), q1_of h.2]; rfl
theorem q1_none : ∀ {x : List UInt8}, q1 x = none ↔ 63 ∉ x
  | [] => by simp [q1]
  | c :: t => by
    rw [q1]
    split
    · rename_i hc; simp [hc]
    · rename_i hc; rw [Option.map_eq_none_iff, q1_none]; simp [Ne.symm hc]
theorem q1_take (x : List UInt8) (n : Nat) : q1 (x.take n) = match q1 x with | some (A, r) => if A.length < n then some (A, r.take (n - A.length - 1)) else none | none => none := by
  cases hq : q1 x with
  | none =>
    have := q1_none.1 hq
    exact q1_none.2 (fun hm => this (List.mem_of_mem_take hm))
  | some p =>
    obtain ⟨A, r⟩ := p
    obtain ⟨h1, h2⟩ := q1_some hq
    dsimp only
    split
    · rename_i hn
      rw [h1, List.take_append, List.take_of_length_le (by omega), show n - A.length = (n - A.length - 1) + 1 by omega, List.take_succ_cons]
      exact q1_of h2
    · rename_i hn
      refine q1_none.2 (fun hm => h2 ?_)
      rw [h1, List.take_append, show n - A.length = 0 by omega, List.take_zero, List.append_nil] at hm
      exact List.mem_of_mem_take hm
theorem index_q1 : ∀ x : List UInt8, Lib.index x [63] = match q1 x with | some p => (p.1.length : Int) | none => -1
  | [] => rfl
  | c :: t => by
    rw [Lib.index, q1]
    by_cases hc : c = 63
    · rw [if_pos (by simp [List.isPrefixOf, hc]), if_pos hc]; rfl
    · rw [if_neg (by simp [List.isPrefixOf, Ne.symm hc]), if_neg hc, index_q1 t]
      cases q1 t with
      | none => rfl
      | some p =>
        have : ¬ (((p.1.length : Int) == -1) = true) := by simp
        rw [Option.map_some]
        dsimp only
        rw [if_neg this, List.length_cons]
        exact (Int.natCast_succ _).symm
theorem splitK_q1 (k : Nat) (x : List UInt8) : Lib.splitK [63] 0 (k + 1) x = match q1 x with | some p => p.1 :: Lib.splitK [63] 0 k p.2 | none => [x] := by
  rw [Lib.splitK, index_q1]
  cases hq : q1 x with
  | none => rfl
  | some p =>
    obtain ⟨A, r⟩ := p
    obtain ⟨h1, h2⟩ := q1_some hq
    have : ¬ (((A.length : Int) == -1) = true) := by simp
    simp only [if_neg this, Int.toNat_natCast, Nat.add_zero, List.length_cons, List.length_nil, Nat.zero_add]
    rw [h1, List.take_left' rfl, List.drop_append, List.drop_eq_nil_of_le (by omega), show A.length + 1 - A.length = 1 by omega]
    rfl
def sp3 (x : List UInt8) : Option (List UInt8 × List UInt8 × List UInt8 × List UInt8) :=
  (q1 x).bind fun a => (q1 a.2).bind fun b => (q1 b.2).bind fun c => some (a.1, b.1, c.1, c.2)
theorem splitK_len : ∀ (k : Nat) (x : List UInt8), (Lib.splitK [63] 0 k x).length ≤ k + 1
  | 0, x => by simp [Lib.splitK]
  | k + 1, x => by
    rw [splitK_q1]
    cases q1 x with
    | none => simp
    | some p => have := splitK_len k p.2; simp; omega
theorem sp3_some {x A K D r : List UInt8} (h : sp3 x = some (A, K, D, r)) : x = A ++ 63 :: (K ++ 63 :: (D ++ 63 :: r)) ∧ 63 ∉ A ∧ 63 ∉ K ∧ 63 ∉ D := by
  unfold sp3 at h
  obtain ⟨⟨A', r1⟩, h1, h⟩ := bnd h
  obtain ⟨⟨K', r2⟩, h2, h⟩ := bnd h
  obtain ⟨⟨D', r3⟩, h3, h⟩ := bnd h
  cases h
  obtain ⟨e1, n1⟩ := q1_some h1
  obtain ⟨e2, n2⟩ := q1_some h2
  obtain ⟨e3, n3⟩ := q1_some h3
  dsimp only at e2 e3
  exact ⟨by rw [e1, e2, e3], n1, n2, n3⟩
theorem split4_some {x A K D r : List UInt8} (h : sp3 x = some (A, K, D, r)) : Lib.splitN x [63] 4 = [A, K, D, r] := by
  have hx := (sp3_some h).1
  have hl : 3 ≤ x.length := by rw [hx]; simp; omega
  unfold sp3 at h
  obtain ⟨a, h1, h⟩ := bnd h
  obtain ⟨b, h2, h⟩ := bnd h
  obtain ⟨c, h3, h⟩ := bnd h
  cases h
  unfold Lib.splitN
  rw [show min 4 (x.length + 1) - 1 = 3 by omega, splitK_q1, h1]
  dsimp only
  rw [splitK_q1, h2]
  dsimp only
  rw [splitK_q1, h3]
  rfl
theorem split4_none {x : List UInt8} (h : sp3 x = none) : (Lib.splitN x [63] 4).length < 4 := by
  unfold Lib.splitN
  by_cases hl : 3 ≤ x.length
  · rw [show min 4 (x.length + 1) - 1 = 3 by omega, splitK_q1]
    unfold sp3 at h
    cases h1 : q1 x with
    | none => simp
    | some a =>
      rw [h1, bsome] at h
      dsimp only
      rw [splitK_q1]
      cases h2 : q1 a.2 with
      | none => simp
      | some b =>
        rw [h2, bsome] at h
        dsimp only
        rw [splitK_q1]
        cases h3 : q1 b.2 with
        | none => simp
        | some c => rw [h3, bsome] at h; cases h
  · have := splitK_len (min 4 (x.length + 1) - 1) x
    omega
theorem sp3_take (x : List UInt8) (n : Nat) : sp3 (x.take n) = match sp3 x with | some (A, K, D, r) => if A.length + K.length + D.length + 2 < n then some (A, K, D, r.take (n - (A.length + K.length + D.length + 3))) else none | none => none := by
  cases h : sp3 x with
  | none =>
    unfold sp3 at h ⊢
    rw [q1_take]
    cases h1 : q1 x with
    | none => rfl
    | some a =>
      rw [h1, bsome] at h
      dsimp only
      split
      · rw [bsome, q1_take]
        dsimp only
        cases h2 : q1 a.2 with
        | none => rfl
        | some b =>
          rw [h2, bsome] at h
          dsimp only
          split
          · rw [bsome, q1_take]
            dsimp only
            cases h3 : q1 b.2 with
            | none => rfl
            | some c => rw [h3, bsome] at h; cases h
          · rfl
      · rfl
  | some p =>
    obtain ⟨A, K, D, r⟩ := p
    unfold sp3 at h ⊢
    obtain ⟨⟨A', r1⟩, h1, h⟩ := bnd h
    obtain ⟨⟨K', r2⟩, h2, h⟩ := bnd h
    obtain ⟨⟨D', r3⟩, h3, h⟩ := bnd h
    cases h
    dsimp only at h2 h3 ⊢
    rw [q1_take, h1]
    dsimp only
    by_cases n1 : A'.length < n
    · rw [if_pos n1, bsome, q1_take, h2]
      dsimp only
      by_cases n2 : K'.length < n - A'.length - 1
      · rw [if_pos n2, bsome, q1_take, h3]
        dsimp only
        by_cases n3 : D'.length < n - A'.length - 1 - K'.length - 1
        · rw [if_pos n3, bsome, if_pos (by show A'.length + K'.length + D'.length + 2 < n; omega)]
          rw [show n - A'.length - 1 - K'.length - 1 - D'.length - 1 = n - (A'.length + K'.length + D'.length + 3) by omega]
        · rw [if_neg n3, if_neg (by show ¬ A'.length + K'.length + D'.length + 2 < n; omega)]; rfl
      · rw [if_neg n2, if_neg (by show ¬ A'.length + K'.length + D'.length + 2 < n; omega)]; rfl
    · rw [if_neg n1, if_neg (by show ¬ A'.length + K'.length + D'.length + 2 < n; omega)]; rfl
def hexv (c : UInt8) : Option Nat := if 48 ≤ c.toNat ∧ c.toNat ≤ 57 then some (c.toNat - 48) else if 65 ≤ c.toNat ∧ c.toNat ≤ 70 then some (c.toNat - 55) else if 97 ≤ c.toNat ∧ c.toNat ≤ 102 then some (c.toNat - 87) else none
def hexi (c : UInt8) : Int := match hexv c with | some x => (x : Int) | none => -1
theorem hexv_lt {c : UInt8} {x : Nat} (h : hexv c = some x) : x < 16 := by
  have : ∀ c : UInt8, ∀ x, hexv c = some x → x < 16 := fun c => by
    refine allB (p := fun c => ∀ x, hexv c = some x → x < 16) ?_ c
    intro n hn x hx
    have h2 : ∀ n, n < 256 → (hexv (UInt8.ofNat n)).all (fun x => decide (x < 16)) = true := by decide +kernel
    have := h2 n hn
    rw [hx] at this
    exact of_decide_eq_true this
  exact this c x h
theorem hex_eq (c : UInt8) : basic_Hex c = some ((match hexv c with | some x => UInt8.ofNat x | none => 0), (hexv c).isSome) := by
  refine allB (p := fun c => basic_Hex c = some ((match hexv c with | some x => UInt8.ofNat x | none => 0), (hexv c).isSome)) ?_ c
  decide +kernel
theorem rhex_eq (c : UInt8) : R_Hex c = some (hexi c) := by
  refine allB (p := fun c => R_Hex c = some (hexi c)) ?_ c
  decide +kernel
theorem hexi_nonneg (c : UInt8) : 0 ≤ hexi c ↔ (hexv c).isSome = true := by
  unfold hexi
  cases hexv c with
  | none => simp
  | some x => simp
theorem two16 : ∀ x, x < 16 → ∀ y, y < 16 → (UInt8.ofNat ((UInt8.ofNat x).toNat * 2 ^ 4)) ||| UInt8.ofNat y = UInt8.ofNat (16 * x + y) := by decide +kernel
def hex2 (a b : UInt8) : Option UInt8 := match hexv a, hexv b with | some x, some y => some (UInt8.ofNat (16 * x + y)) | _, _ => none
theorem pair_short {s : List UInt8} (h : s.length < 2) : basic_Pair s = some (0, false) := by
  unfold basic_Pair; rw [if_pos (by omega)]
theorem pair_eq (a b : UInt8) (t : List UInt8) : ∃ c, basic_Pair (a :: b :: t) = some (c, (hex2 a b).isSome) ∧ ∀ z, hex2 a b = some z → c = z := by
  unfold basic_Pair
  rw [if_neg (by simp; omega), show (0 : Int) = ((0 : Nat) : Int) from rfl, idx_nat, show (1 : Int) = ((1 : Nat) : Int) from rfl, idx_nat]
  simp only [List.getElem?_cons_zero, List.getElem?_cons_succ, bsome, hex_eq]
  unfold hex2
  cases ha : hexv a with
  | none => exact ⟨_, by rfl, fun z hz => by cases hz⟩
  | some x =>
    cases hb : hexv b with
    | none => exact ⟨_, by rfl, fun z hz => by cases hz⟩
    | some y => exact ⟨_, by rfl, fun z hz => by cases hz; exact two16 x (hexv_lt ha) y (hexv_lt hb)⟩
def hexd2 : List UInt8 → Option (UInt8 × List UInt8)
  | a :: b :: t => (hex2 a b).map fun z => (z, t)
  | _ => none
theorem hexd2_len {t : List UInt8} {p : UInt8 × List UInt8} (h : hexd2 t = some p) : p.2 = t.drop 2 ∧ 2 ≤ t.length := by
  rcases t with _ | ⟨a, _ | ⟨b, t⟩⟩
  · cases h
  · cases h
  · obtain ⟨z, _, rfl⟩ := Option.map_eq_some_iff.1 h
    exact ⟨rfl, by simp⟩
def uqF : Nat → List UInt8 → Option (List UInt8)
  | 0, _ => none
  | n + 1, [] => some []
  | n + 1, c :: t => if c = 95 then (uqF n t).map (32 :: ·) else if c = 61 then (hexd2 t).bind fun p => (uqF n p.2).map (p.1 :: ·) else if 33 ≤ c.toNat ∧ c.toNat ≤ 126 then (uqF n t).map (c :: ·) else none
theorem uqF_more : ∀ (n m : Nat) (l : List UInt8), l.length < n → l.length < m → uqF n l = uqF m l
  | n + 1, m + 1, [], _, _ => rfl
  | n + 1, m + 1, c :: t, h1, h2 => by
    simp only [List.length_cons] at h1 h2
    rw [uqF, uqF]
    have h0 := uqF_more n m t (by omega) (by omega)
    rw [h0]
    cases hp : hexd2 t with
    | none => rfl
    | some p =>
      obtain ⟨h3, h4⟩ := hexd2_len hp
      rw [bsome, bsome, uqF_more n m p.2 (by rw [h3, List.length_drop]; omega) (by rw [h3, List.length_drop]; omega)]
def uq (l : List UInt8) : Option (List UInt8) := uqF (l.length + 1) l
theorem uq_nil : uq [] = some [] := rfl
theorem uq_cons (c : UInt8) (t : List UInt8) : uq (c :: t) = if c = 95 then (uq t).map (32 :: ·) else if c = 61 then (hexd2 t).bind fun p => (uq p.2).map (p.1 :: ·) else if 33 ≤ c.toNat ∧ c.toNat ≤ 126 then (uq t).map (c :: ·) else none := by
  unfold uq
  rw [List.length_cons, uqF]
  cases hp : hexd2 t with
  | none => rfl
  | some p =>
    obtain ⟨h3, h4⟩ := hexd2_len hp
    rw [bsome, bsome, uqF_more (t.length + 1) (p.2.length + 1) p.2 (by rw [h3, List.length_drop]; omega) (by omega)]
theorem uq_L1 (D : List UInt8) (hD : D.length ≤ 1000000) : ∀ (d i m : Nat) (acc : List UInt8), D.length - i ≤ d → d < m → i ≤ D.length → acc.length ≤ i →
    words_bytesOf_L1 D m acc (i : Int) = some (match uq (D.drop i) with | some r => .inl (acc ++ r) | none => .inr ([], false)) := by
  intro d
  induction d using Nat.strongRecOn with
  | ind d ih =>
    intro i m acc h1 h2 h3 h4
    obtain ⟨m, rfl⟩ : ∃ k, m = k + 1 := ⟨m - 1, by omega⟩
    rw [words_bytesOf_L1]
    by_cases hi : i < D.length
    · have hd := List.drop_eq_getElem_cons hi
      rw [if_pos (by omega), idx_nat, List.getElem?_eq_getElem hi, bsome, hd, uq_cons]
      by_cases c1 : D[i] = 95
      · rw [if_pos c1, if_pos c1, app_ok (by simp; omega), bsome, chk_succ (by omega), bsome, ih (d - 1) (by omega) (i + 1) m _ (by omega) (by omega) (by omega) (by simp; omega)]
        cases uq (D.drop (i + 1)) <;> simp
      · rw [if_neg c1, if_neg c1, bsome]
        by_cases c2 : D[i] = 61
        · rw [if_pos c2, if_pos c2, chk_succ (by omega), bsome, cut_from rfl (by omega), bsome]
          by_cases hs : (D.drop (i + 1)).length < 2
          · rw [pair_short hs, bsome]
            dsimp only
            rw [if_neg Bool.false_ne_true]
            have : hexd2 (D.drop (i + 1)) = none := by
              cases hx : hexd2 (D.drop (i + 1)) with
              | none => rfl
              | some p => have := hexd2_len hx; omega
            rw [this]; rfl
          · rw [List.length_drop] at hs
            have e1 := List.drop_eq_getElem_cons (show i + 1 < D.length by omega)
            have e2 := List.drop_eq_getElem_cons (show i + 1 + 1 < D.length by omega)
            rw [e1, e2]
            obtain ⟨c, hc1, hc2⟩ := pair_eq D[i + 1] D[i + 1 + 1] (D.drop (i + 1 + 1 + 1))
            rw [hc1, bsome]
            dsimp only [hexd2]
            cases hx : hex2 D[i + 1] D[i + 1 + 1] with
            | none => rw [if_neg (by simp)]; rfl
            | some z =>
              obtain rfl := hc2 z hx
              rw [if_pos (by simp), app_ok (by simp; omega), bsome, show (i : Int) + 2 = ((i + 1 + 1 : Nat) : Int) by omega, chk_ok (by omega) (by omega), bsome, chk_succ (by omega), bsome, ih (d - 3) (by omega) (i + 1 + 1 + 1) m _ (by omega) (by omega) (by omega) (by simp; omega)]
              rw [Option.map_some, bsome]
              dsimp only
              cases uq (D.drop (i + 1 + 1 + 1)) <;> simp
        · rw [if_neg c2, if_neg c2, bsome]
          by_cases c3 : 33 ≤ D[i].toNat
          · rw [if_pos c3, bsome, bsome]
            by_cases c4 : D[i].toNat ≤ 126
            · rw [if_pos (decide_eq_true c4), if_pos ⟨c3, c4⟩, bsome, app_ok (by simp; omega), bsome, chk_succ (by omega), bsome, ih (d - 1) (by omega) (i + 1) m _ (by omega) (by omega) (by omega) (by simp; omega)]
              cases uq (D.drop (i + 1)) <;> simp
            · rw [if_neg (by rw [decide_eq_true_eq]; exact c4), if_neg (fun e => c4 e.2)]
          · rw [if_neg c3, bsome, if_neg Bool.false_ne_true, if_neg (fun e => c3 e.1)]
    · rw [if_neg (by omega), List.drop_eq_nil_of_le (by omega), uq_nil]; simp
def bytesP (K D : List UInt8) : Option (List UInt8) := if lower K = [98] then (if B64.chars64 (B64.lenient D) = D then some (B64.lenient D) else none) else if lower K = [113] then uq D else none
theorem lower_one (K : List UInt8) (a b : UInt8) (h : ∀ c, lowB c = b ↔ c = a ∨ c = b) : lower K = [b] ↔ K = [a] ∨ K = [b] := by
  rcases K with _ | ⟨c, _ | ⟨d, K⟩⟩
  · simp [lower]
  · simp [lower, h c]
  · simp [lower]
theorem lowB_b (c : UInt8) : lowB c = 98 ↔ c = 66 ∨ c = 98 := by
  refine allB (p := fun c => lowB c = 98 ↔ c = 66 ∨ c = 98) ?_ c
  decide +kernel
theorem lowB_q (c : UInt8) : lowB c = 113 ↔ c = 81 ∨ c = 113 := by
  refine allB (p := fun c => lowB c = 113 ↔ c = 81 ∨ c = 113) ?_ c
  decide +kernel
theorem kind_b (K : List UInt8) : (if K = [66] then some (decide (K = [66])) else some (decide (K = [98]))) = some (decide (lower K = [98])) := by
  have h := lower_one K 66 98 lowB_b
  by_cases h1 : K = [66]
  · rw [if_pos h1, decide_eq_true h1, decide_eq_true (h.2 (.inl h1))]
  · rw [if_neg h1]; congr 1; rw [decide_eq_decide, h]; simp [h1]
theorem kind_q (K : List UInt8) : (if K = [81] then some (decide (K = [81])) else some (decide (K = [113]))) = some (decide (lower K = [113])) := by
  have h := lower_one K 81 113 lowB_q
  by_cases h1 : K = [81]
  · rw [if_pos h1, decide_eq_true h1, decide_eq_true (h.2 (.inl h1))]
  · rw [if_neg h1]; congr 1; rw [decide_eq_decide, h]; simp [h1]
theorem lenient_len (D : List UInt8) : (B64.lenient D).length ≤ D.length := by
  unfold B64.lenient
  refine Nat.le_trans (B64.lrun_len _) ?_
  unfold B64.upto61
  exact (List.takeWhile_sublist _).length_le
theorem uqF_len : ∀ (n : Nat) (l r : List UInt8), uqF n l = some r → r.length ≤ l.length := by
  intro n
  induction n with
  | zero => intro l r h; cases h
  | succ n ih =>
    intro l r h
    cases l with
    | nil => rw [uqF] at h; cases h; simp
    | cons c t =>
      rw [uqF] at h
      split at h
      · obtain ⟨y, hy, rfl⟩ := Option.map_eq_some_iff.1 h
        have := ih t y hy; simp; omega
      · split at h
        · obtain ⟨p, hp, h⟩ := bnd h
          obtain ⟨y, hy, rfl⟩ := Option.map_eq_some_iff.1 h
          have := ih p.2 y hy
          obtain ⟨h3, h4⟩ := hexd2_len hp
          rw [h3, List.length_drop] at this
          simp; omega
        · split at h
          · obtain ⟨y, hy, rfl⟩ := Option.map_eq_some_iff.1 h
            have := ih t y hy; simp; omega
          · cases h
theorem bytes_eq (K D : List UInt8) (hD : D.length ≤ 10000) : ∃ b, words_bytesOf K D = some (b, (bytesP K D).isSome) ∧ b.length ≤ D.length ∧ ∀ x, bytesP K D = some x → b = x := by
  have hl := lenient_len D
  unfold words_bytesOf bytesP
  rw [kind_b, bsome]
  by_cases h1 : lower K = [98]
  · rw [if_pos (decide_eq_true h1), if_pos h1, toB_ok (by omega), bsome]
    unfold base64_Lenient
    rw [if_pos (by omega), bsome]
    dsimp only
    rw [flat_eq _ (by omega), bsome]
    refine ⟨B64.lenient D, ?_, hl, fun x hx => ?_⟩
    · by_cases h2 : B64.chars64 (B64.lenient D) = D
      · rw [decide_eq_true h2, if_pos h2]; rfl
      · rw [decide_eq_false h2, if_neg h2]; rfl
    · split at hx
      · cases hx; rfl
      · cases hx
  · rw [if_neg (by rw [decide_eq_true_eq]; exact h1), if_neg h1, kind_q, bsome]
    by_cases h2 : lower K = [113]
    · rw [if_pos (decide_eq_true h2), if_pos h2]
      have := uq_L1 D (by omega) D.length 0 FU [] (by omega) (by rw [FU_eq]; omega) (by omega) (by simp)
      rw [show ((0 : Nat) : Int) = 0 from rfl, List.drop_zero] at this
      rw [this, bsome]
      cases hq : uq D with
      | none => exact ⟨[], rfl, by simp, fun x hx => by cases hx⟩
      | some r => exact ⟨r, rfl, uqF_len _ _ _ hq, fun x hx => by cases hx; rfl⟩
    · rw [if_neg (by rw [decide_eq_true_eq]; exact h2), if_neg h2]
      exact ⟨[], rfl, by simp, fun x hx => by cases hx⟩
def body (A K D : List UInt8) : Option (List UInt8) := (setOf A).bind fun k => (bytesP K D).map (decoded k)
def pw (t : List UInt8) : Option (List UInt8 × Nat) :=
  if [61, 63] <+: t then (sp3 (t.drop 2)).bind fun p => if [61] <+: p.2.2.2 ∧ p.1.length + p.2.1.length + p.2.2.1.length + 6 ≤ 75 then (body p.1 p.2.1 p.2.2.1).map fun x => (x, p.1.length + p.2.1.length + p.2.2.1.length + 6) else none else none
theorem pre_take {c : UInt8} {r : List UInt8} {n : Nat} (hn : 1 ≤ n) : [c] <+: r.take n ↔ [c] <+: r := by
  rw [pre1, pre1]
  cases r with
  | nil => simp
  | cons a r => obtain ⟨n, rfl⟩ : ∃ k, n = k + 1 := ⟨n - 1, by omega⟩; simp
theorem decode_prog (A b : List UInt8) (hA : A.length ≤ 10000) (hb : b.length ≤ 10000) : ∃ x n m, charset_Decode A b = some (x, (n, m)) ∧ (decide (n = (0 : Int)) = (setOf A).isSome) ∧ ∀ k, setOf A = some k → x = decoded k b := by
  unfold charset_Decode
  rw [if_pos ⟨by omega, by omega⟩]
  cases h : setOf A with
  | none => exact ⟨[], 18, -2, rfl, rfl, fun k hk => by cases hk⟩
  | some k => exact ⟨decoded k b, 0, 0, rfl, rfl, fun k' hk => by cases hk; rfl⟩
theorem read_eq (t : List UInt8) (ht : t.length ≤ 10000) : ∃ x n, words_read t = some (x, n, (pw t).isSome) ∧ ∀ p, pw t = some p → x = p.1 ∧ n = (p.2 : Int) := by
  unfold words_read pw
  rw [prefix_eq t [61, 63] (by omega), bsome]
  by_cases hp : [61, 63] <+: t
  · have hl2 : 2 ≤ t.length := hp.length_le
    rw [if_pos (decide_eq_true hp), if_pos hp, cut_of (i := 2) (a := 2) (b := min t.length 75) rfl (by omega) (by omega) (by omega), bsome]
    have hw : (t.take (min t.length 75)).drop 2 = (t.drop 2).take 73 := by
      rw [List.drop_take]
      by_cases h75 : t.length ≤ 75
      · rw [Nat.min_eq_left h75, List.take_of_length_le (by rw [List.length_drop]; omega), List.take_of_length_le (by rw [List.length_drop]; omega)]
      · rw [Nat.min_eq_right (by omega)]
    rw [hw]
    unfold strings_SplitN
    have hxl : ((t.drop 2).take 73).length ≤ 73 := List.length_take_le _ _
    rw [if_pos ⟨by omega, by decide, by decide, by decide⟩, bsome, show (4 : Int).toNat = 4 from rfl]
    have hst := sp3_take (t.drop 2) 73
    cases hs : sp3 (t.drop 2) with
    | none =>
      rw [hs] at hst
      have h4 := split4_none hst
      rw [if_pos (by omega), bsome, if_pos rfl]
      exact ⟨_, _, rfl, fun p hp => by cases hp⟩
    | some p =>
      obtain ⟨A, K, D, r⟩ := p
      rw [hs] at hst
      dsimp only at hst
      have hxe := (sp3_some hs).1
      have hlen := congrArg List.length hxe
      simp only [List.length_append, List.length_cons, List.length_drop] at hlen
      rw [bsome]
      dsimp only
      by_cases hn : A.length + K.length + D.length + 2 < 73
      · rw [if_pos hn] at hst
        have h4 := split4_some hst
        rw [h4]
        simp only [List.length_cons, List.length_nil]
        rw [if_neg (by omega)]
        have i0 : idx [A, K, D, r.take (73 - (A.length + K.length + D.length + 3))] 0 = some A := rfl
        have i1 : idx [A, K, D, r.take (73 - (A.length + K.length + D.length + 3))] 1 = some K := rfl
        have i2 : idx [A, K, D, r.take (73 - (A.length + K.length + D.length + 3))] 2 = some D := rfl
        have i3 : idx [A, K, D, r.take (73 - (A.length + K.length + D.length + 3))] 3 = some (r.take (73 - (A.length + K.length + D.length + 3))) := rfl
        rw [i0, i1, i2, i3, bsome, prefix_eq _ _ (by rw [List.length_take]; omega), bsome, bsome]
        have hpt : ([61] <+: r.take (73 - (A.length + K.length + D.length + 3))) ↔ ([61] <+: r ∧ A.length + K.length + D.length + 6 ≤ 75) := by
          by_cases h1 : 1 ≤ 73 - (A.length + K.length + D.length + 3)
          · rw [pre_take h1]
            exact ⟨fun h => ⟨h, by omega⟩, fun h => h.1⟩
          · rw [show 73 - (A.length + K.length + D.length + 3) = 0 by omega, List.take_zero]
            exact ⟨fun h => by have := h.length_le; simp at this, fun h => by omega⟩
        by_cases hq : [61] <+: r ∧ A.length + K.length + D.length + 6 ≤ 75
        · rw [decide_eq_true (hpt.2 hq), if_neg (by decide), if_pos hq, bsome, bsome]
          obtain ⟨b, hb1, hbl, hb2⟩ := bytes_eq K D (by omega)
          rw [hb1, bsome]
          dsimp only
          rw [bsome]
          obtain ⟨x, n, m, hx1, hx2, hx3⟩ := decode_prog A b (by omega) (by omega)
          rw [hx1, bsome]
          dsimp only
          rw [bsome, chk_ok (by omega) (by omega), bsome, bsome, chk_ok (by omega) (by omega), bsome, bsome, chk_ok (by omega) (by omega), bsome, chk_ok (by omega) (by omega), bsome]
          unfold basic_Failed body
          cases hbp : bytesP K D with
          | none =>
            simp only [Option.isSome_none, Bool.false_eq_true, if_false, bsome]
            cases hA : setOf A with
            | none => exact ⟨_, _, rfl, fun p hp => by cases hp⟩
            | some k => exact ⟨_, _, rfl, fun p hp => by cases hp⟩
          | some y =>
            obtain rfl := hb2 y hbp
            simp only [Option.isSome_some, if_true, bsome]
            cases hA : setOf A with
            | none =>
              rw [hA] at hx2
              simp only [Option.isSome_none] at hx2
              rw [hx2]
              exact ⟨_, _, rfl, fun p hp => by cases hp⟩
            | some k =>
              rw [hA] at hx2
              simp only [Option.isSome_some] at hx2
              rw [hx2, hx3 k hA]
              refine ⟨_, _, rfl, fun p hp => ?_⟩
              cases hp
              exact ⟨rfl, by dsimp only; omega⟩
        · rw [decide_eq_false (fun e => hq (hpt.1 e)), if_pos (by decide), if_neg hq]
          exact ⟨_, _, rfl, fun p hp => by cases hp⟩
      · rw [if_neg hn] at hst
        have h4 := split4_none hst
        rw [if_pos (by omega), bsome, if_pos rfl, if_neg (fun e => by have := e.2; omega)]
        exact ⟨_, _, rfl, fun p hp => by cases hp⟩
  · rw [if_neg (by rw [decide_eq_true_eq]; exact hp), if_neg hp]
    exact ⟨_, _, rfl, fun p hp => by cases hp⟩
theorem ruq_L1 (D : List UInt8) (hD : D.length ≤ 1000000) : ∀ (d i m : Nat) (acc : List UInt8), D.length - i ≤ d → d < m → i ≤ D.length → acc.length ≤ i →
    R_WordAt_L1 D m acc (i : Int) = some (match uq (D.drop i) with | some r => .inl (acc ++ r) | none => .inr ([], 0)) := by
  intro d
  induction d using Nat.strongRecOn with
  | ind d ih =>
    intro i m acc h1 h2 h3 h4
    obtain ⟨m, rfl⟩ : ∃ k, m = k + 1 := ⟨m - 1, by omega⟩
    rw [R_WordAt_L1]
    by_cases hi : i < D.length
    · have hd := List.drop_eq_getElem_cons hi
      rw [if_pos (by omega), idx_nat, List.getElem?_eq_getElem hi, bsome, hd, uq_cons]
      by_cases c1 : D[i] = 95
      · rw [if_pos c1, if_pos c1, app_ok (by simp; omega), bsome, chk_succ (by omega), bsome, ih (d - 1) (by omega) (i + 1) m _ (by omega) (by omega) (by omega) (by simp; omega)]
        cases uq (D.drop (i + 1)) <;> simp
      · rw [if_neg c1, if_neg c1]
        have tail : ∀ h : ¬ D[i] = 61, ((R_In (D[i].toNat : Int) 33 126).bind fun b102 => some (!b102)).bind (fun b100 => (if b100 = true then some (Sum.inr (([] : List UInt8), (0 : Int))) else (app 1 acc ([D[i]] : List UInt8)).bind fun l106 => (chk ((i : Int) + 1)).bind fun n107 => R_WordAt_L1 D m l106 n107)) = some (match (if 33 ≤ D[i].toNat ∧ D[i].toNat ≤ 126 then (uq (D.drop (i + 1))).map (D[i] :: ·) else none) with | some r => .inl (acc ++ r) | none => .inr ([], 0)) := fun h => by
          rw [rin_eq, bsome, bsome]
          by_cases c3 : 33 ≤ D[i].toNat ∧ D[i].toNat ≤ 126
          · rw [decide_eq_true (by omega), if_neg (by decide), if_pos c3, app_ok (by simp; omega), bsome, chk_succ (by omega), bsome, ih (d - 1) (by omega) (i + 1) m _ (by omega) (by omega) (by omega) (by simp; omega)]
            cases uq (D.drop (i + 1)) <;> simp
          · rw [decide_eq_false (by omega), if_pos (by decide), if_neg c3]
        by_cases c2 : D[i] = 61
        · rw [if_pos c2, if_pos c2, if_pos c2, show (i : Int) + 2 = ((i + 1 + 1 : Nat) : Int) by omega, chk_ok (by omega) (by omega), bsome]
          by_cases hs : i + 1 + 1 < D.length
          · have e1 := List.drop_eq_getElem_cons (show i + 1 < D.length by omega)
            have e2 := List.drop_eq_getElem_cons hs
            have a1 : idx D ((i : Int) + 1) = some D[i + 1] := by rw [show (i : Int) + 1 = ((i + 1 : Nat) : Int) by omega, idx_nat, List.getElem?_eq_getElem (by omega)]
            have a2 : idx D (((i + 1 + 1 : Nat) : Int)) = some D[i + 1 + 1] := by rw [idx_nat, List.getElem?_eq_getElem (by omega)]
            rw [if_pos (by omega), chk_ok (by omega) (by omega), bsome, a1, bsome, rhex_eq, bsome, bsome, a2, bsome, rhex_eq, bsome, e1, e2]
            dsimp only [hexd2]
            unfold hex2
            have n1 := hexi_nonneg D[i + 1]
            have n2 := hexi_nonneg D[i + 1 + 1]
            cases h1x : hexv D[i + 1] with
            | none =>
              rw [h1x] at n1
              rw [if_neg (fun e => by have := n1.1 e; cases this), bsome, if_neg Bool.false_ne_true, bsome, if_pos rfl]
              rfl
            | some x =>
              rw [h1x] at n1
              rw [if_pos (n1.2 rfl), bsome]
              cases h2x : hexv D[i + 1 + 1] with
              | none =>
                rw [h2x] at n2
                rw [decide_eq_false (fun e => by have := n2.1 e; cases this), if_neg Bool.false_ne_true, bsome, if_pos rfl]
                rfl
              | some y =>
                rw [h2x] at n2
                have q1x : hexi D[i + 1] = (x : Int) := by unfold hexi; rw [h1x]
                have q2x : hexi D[i + 1 + 1] = (y : Int) := by unfold hexi; rw [h2x]
                have l1x := hexv_lt h1x
                have l2x := hexv_lt h2x
                have hub : ub8 (16 * (x : Int) + (y : Int)) = UInt8.ofNat (16 * x + y) := by unfold ub8; congr 1; omega
                rw [decide_eq_true (n2.2 rfl), if_pos rfl, bsome, a1, bsome, rhex_eq, bsome, q1x, chk_ok (by omega) (by omega), bsome, bsome, a2, bsome, rhex_eq, bsome, q2x, chk_ok (by omega) (by omega), bsome, hub, app_ok (by simp; omega), bsome, bsome, show ((i + 1 + 1 : Nat) : Int) + 1 = ((i + 1 + 1 + 1 : Nat) : Int) by omega, chk_ok (by omega) (by omega), bsome, ih (d - 3) (by omega) (i + 1 + 1 + 1) m _ (by omega) (by omega) (by omega) (by simp; omega)]
                simp only [Option.map_some, bsome]
                cases uq (D.drop (i + 1 + 1 + 1)) <;> simp
          · have : hexd2 (D.drop (i + 1)) = none := by
              cases hx : hexd2 (D.drop (i + 1)) with
              | none => rfl
              | some p => have := hexd2_len hx; rw [List.length_drop] at this; omega
            rw [if_neg (by omega), bsome, if_neg Bool.false_ne_true, this, bsome, if_pos rfl]
            rfl
        · rw [if_neg c2, bsome, if_neg Bool.false_ne_true, if_neg c2, if_neg c2]
          exact tail c2
    · rw [if_neg (by omega), List.drop_eq_nil_of_le (by omega), uq_nil]; simp
end Go.Ph.Wd
end
section
set_option linter.unusedVariables false
set_option linter.unusedSimpArgs false
namespace Go.Ph.Wd
open Go.Ph.Pl Go.Ph.Pf
open Go.Ph.Gr (chars Ch pieces byts segs)
open Go.Ph.Chs (vld setN setOf encK encGo decoded utf8 bestK lower lowB)
open Go.Ph.Utf (rune dr)
theorem fnd_q {s : List UInt8} {j : Nat} {A r : List UInt8} (h : q1 (s.drop j) = some (A, r)) : fnd s [63] j = ((j + A.length : Nat) : Int) := by
  have e : Lib.index (s.drop j) [63] = ((A.length : Nat) : Int) := (index_q1 _).trans (by rw [h])
  unfold fnd
  rw [e, if_neg (by omega)]; omega
theorem fnd_q0 {s : List UInt8} {j : Nat} (h : q1 (s.drop j) = none) : fnd s [63] j = -1 := by
  have e : Lib.index (s.drop j) [63] = -1 := (index_q1 _).trans (by rw [h])
  unfold fnd
  rw [e, if_pos rfl]
theorem fnd_at (s sub : List UInt8) (i : Nat) (h0 : sub ≠ []) (hi : i ≤ s.length) : fnd s sub i = (i : Int) ↔ sub <+: s.drop i := by
  constructor
  · intro h
    by_cases hl : i < s.length
    · refine Classical.byContradiction fun hp => ?_
      rw [fnd_next hl hp] at h
      unfold fnd at h
      have := Lib.index_ge (s.drop (i + 1)) sub
      split at h <;> omega
    · have : 0 < sub.length := List.length_pos_iff.2 h0
      rw [fnd_none hi (by omega)] at h
      omega
  · intro h
    have : 0 < sub.length := List.length_pos_iff.2 h0
    have h2 := h.length_le
    rw [List.length_drop] at h2
    exact fnd_here (by omega) h
def ans (o : Option (List UInt8 × Nat)) : List UInt8 × Int := match o with | some p => (p.1, (p.2 : Int)) | none => ([], 0)
theorem rset_eq (A : List UInt8) (hA : A.length ≤ 100000) : R_SetOf A = some (match setOf A with | some k => (k : Int) | none => -1) := by
  unfold R_SetOf
  rw [if_pos (by omega)]
  cases setOf A <;> rfl
theorem ruq_eq (D : List UInt8) (hD : D.length ≤ 20000) : R_WordAt_L1 D FU [] 0 = some (match uq D with | some r => .inl r | none => .inr ([], 0)) := by
  have := ruq_L1 D (by omega) D.length 0 FU [] (by omega) (by unfold FU; omega) (by omega) (by simp)
  rw [Int.natCast_zero] at this
  rw [this, List.drop_zero]
  cases uq D <;> rfl
theorem bytesP_len {K D b : List UInt8} (hD : D.length ≤ 10000) (h : bytesP K D = some b) : b.length ≤ D.length := by
  obtain ⟨x, _, h2, h3⟩ := bytes_eq K D hD
  rw [h3 b h] at h2; exact h2
theorem rlow_eq (K : List UInt8) (h : K.length ≤ 100000) : R_Lower K = some (lower K) := by
  unfold R_Lower
  rw [if_pos (by omega)]
theorem drop_q1 {s : List UInt8} {j : Nat} {A r : List UInt8} (h : q1 (s.drop j) = some (A, r)) : j + A.length + 1 ≤ s.length ∧ s.drop (j + A.length + 1) = r ∧ (s.take (j + A.length)).drop j = A := by
  obtain ⟨h1, _⟩ := q1_some h
  have hl := congrArg List.length h1
  simp only [List.length_drop, List.length_append, List.length_cons] at hl
  refine ⟨by omega, ?_, ?_⟩
  · rw [show j + A.length + 1 = j + (A.length + 1) by omega, ← List.drop_drop, h1, ← List.drop_drop, List.drop_left]; rfl
  · rw [List.drop_take, h1, show j + A.length - j = A.length by omega, List.take_left]
theorem wordAt_eq (s : List UInt8) (i : Nat) (hs : s.length ≤ 10000) (hi : i ≤ s.length) : R_WordAt s (i : Int) = some (ans (pw (s.drop i))) := by
  unfold R_WordAt pw
  rw [find_eq s [61, 63] i (by omega) (by simp) (by simp) hi, bsome]
  by_cases hp : [61, 63] <+: s.drop i
  · have hl2 := hp.length_le
    simp only [List.length_drop, List.length_cons, List.length_nil] at hl2
    rw [if_pos ((fnd_at s _ i (by simp) hi).2 hp), if_pos hp, show (i : Int) + 2 = ((i + 2 : Nat) : Int) by omega, chk_ok (by omega) (by omega), bsome, find_eq s [63] (i + 2) (by omega) (by simp) (by simp) (by omega), bsome, List.drop_drop]
    unfold sp3
    cases h1 : q1 (s.drop (i + 2)) with
    | none => rw [fnd_q0 h1]; rfl
    | some p1 =>
      obtain ⟨A, r1⟩ := p1
      obtain ⟨a1, a2, a3⟩ := drop_q1 h1
      rw [fnd_q h1, if_neg (by omega), show ((i + 2 + A.length : Nat) : Int) + 1 = ((i + 2 + A.length + 1 : Nat) : Int) by omega, chk_ok (by omega) (by omega), bsome, find_eq s [63] (i + 2 + A.length + 1) (by omega) (by simp) (by simp) (by omega), bsome, bsome]
      dsimp only
      cases h2 : q1 r1 with
      | none => rw [fnd_q0 (by rw [a2]; exact h2)]; rfl
      | some p2 =>
        obtain ⟨K, r2⟩ := p2
        rw [← a2] at h2
        obtain ⟨b1, b2, b3⟩ := drop_q1 h2
        rw [fnd_q h2, if_neg (by omega), show ((i + 2 + A.length + 1 + K.length : Nat) : Int) + 1 = ((i + 2 + A.length + 1 + K.length + 1 : Nat) : Int) by omega, chk_ok (by omega) (by omega), bsome, find_eq s [63] (i + 2 + A.length + 1 + K.length + 1) (by omega) (by simp) (by simp) (by omega), bsome, bsome]
        cases h3 : q1 r2 with
        | none => rw [fnd_q0 (by rw [b2]; exact h3), if_pos (by decide), bsome, if_pos rfl, bsome]; dsimp only; rw [h3]; rfl
        | some p3 =>
          obtain ⟨D, r3⟩ := p3
          have h3' := h3
          rw [← b2] at h3
          obtain ⟨c1, c2, c3⟩ := drop_q1 h3
          rw [fnd_q h3]
          have hz : ((i + 2 + A.length + 1 + K.length + 1 + D.length : Nat) : Int) + 1 = ((i + 2 + A.length + 1 + K.length + 1 + D.length + 1 : Nat) : Int) := by omega
          rw [if_neg (by omega), hz, chk_ok (by omega) (by omega), bsome, bsome, bsome]
          dsimp only
          have hcond : (if (s.length : Int) ≤ ((i + 2 + A.length + 1 + K.length + 1 + D.length + 1 : Nat) : Int) then some true else (idx s ((i + 2 + A.length + 1 + K.length + 1 + D.length + 1 : Nat) : Int)).bind fun c22 => (if c22 = 61 then (chk (((i + 2 + A.length + 1 + K.length + 1 + D.length : Nat) : Int) + 2)).bind fun n24 => (chk (n24 - (i : Int))).bind fun n25 => some (decide ((75 : Int) < n25)) else some true)) = some (!decide ([61] <+: r3 ∧ A.length + K.length + D.length + 6 ≤ 75)) := by
            have hh : [61] <+: r3 ↔ (s.drop (i + 2 + A.length + 1 + K.length + 1 + D.length + 1)).head? = some 61 := by rw [c2]; exact pre1 _ _
            by_cases hq : i + 2 + A.length + 1 + K.length + 1 + D.length + 1 < s.length
            · rw [if_neg (by omega), idx_nat, List.getElem?_eq_getElem hq, bsome]
              rw [List.drop_eq_getElem_cons hq, List.head?_cons] at hh
              by_cases h61 : s[i + 2 + A.length + 1 + K.length + 1 + D.length + 1] = 61
              · rw [if_pos h61, chk_ok (by omega) (by omega), bsome, chk_ok (by omega) (by omega), bsome]
                rw [h61] at hh
                by_cases h75 : A.length + K.length + D.length + 6 ≤ 75
                · rw [decide_eq_false (by omega), decide_eq_true ⟨hh.2 rfl, h75⟩]; rfl
                · rw [decide_eq_true (by omega), decide_eq_false (fun e => h75 e.2)]; rfl
              · rw [if_neg h61, decide_eq_false (fun e => h61 (Option.some.inj (hh.1 e.1)))]; rfl
            · rw [List.drop_eq_nil_of_le (by omega)] at hh
              rw [if_pos (by omega), decide_eq_false (fun e => by have := hh.1 e.1; cases this)]; rfl
          rw [hcond, bsome]
          conv => rhs; rw [h3', bsome, bsome]; dsimp only
          by_cases hq : [61] <+: r3 ∧ A.length + K.length + D.length + 6 ≤ 75
          · rw [decide_eq_true hq, if_neg (by decide), if_pos hq, cut_of (a := i + 2) (b := i + 2 + A.length) rfl rfl (by omega) (by omega), bsome, a3, rset_eq A (by omega), bsome]
            have e1 : ((i + 2 + A.length : Nat) : Int) + 1 = ((i + 2 + A.length + 1 : Nat) : Int) := by omega
            have e2 : ((i + 2 + A.length + 1 + K.length : Nat) : Int) + 1 = ((i + 2 + A.length + 1 + K.length + 1 : Nat) : Int) := by omega
            rw [bsome, cut_of (a := i + 2 + A.length + 1) (b := i + 2 + A.length + 1 + K.length) rfl rfl (by omega) (by omega), bsome, b3, rlow_eq K (by omega), bsome, bsome, cut_of (a := i + 2 + A.length + 1 + K.length + 1) (b := i + 2 + A.length + 1 + K.length + 1 + D.length) rfl rfl (by omega) (by omega), bsome, c3]
            unfold body
            cases hA : setOf A with
            | none => rfl
            | some k =>
              have hk := Chs.setOf_lt hA
              dsimp only
              have fin : ∀ b : List UInt8, b.length ≤ D.length → ((R_Decoded (k : Int) b).bind fun s113 => (chk (((i + 2 + A.length + 1 + K.length + 1 + D.length : Nat) : Int) + 2)).bind fun n115 => (chk (n115 - (i : Int))).bind fun n116 => some (s113, n116)) = some (ans (some (decoded k b, A.length + K.length + D.length + 6))) := by
                intro b hb
                unfold R_Decoded
                rw [if_pos ⟨by omega, by omega, by omega⟩, bsome, chk_ok (by omega) (by omega), bsome, chk_ok (by omega) (by omega), bsome, Int.toNat_natCast]
                unfold ans
                dsimp only
                congr 2
                omega
              unfold bytesP
              rw [if_neg (by omega), bsome]
              by_cases k1 : lower K = [98]
              · have hl := lenient_len D
                rw [if_pos k1, if_pos k1, toB_ok (by omega), bsome]
                unfold R_Loose64 R_Chars64
                rw [if_pos (by omega), bsome, ← B64.lenient_loose, if_pos (by omega), bsome]
                by_cases k2 : B64.chars64 (B64.lenient D) = D
                · rw [if_pos k2, if_pos k2, bsome]; exact fin _ hl
                · rw [if_neg k2, if_neg k2, bsome]; rfl
              · rw [if_neg k1, if_neg k1]
                by_cases k2 : lower K = [113]
                · rw [if_pos k2, if_pos k2, ruq_eq D (by omega), bsome]
                  cases hu : uq D with
                  | none => rfl
                  | some r => exact fin r (uqF_len _ _ _ hu)
                · rw [if_neg k2, if_neg k2]; rfl
          · rw [decide_eq_false hq, if_pos (by decide), if_neg hq]; rfl
  · rw [if_neg (fun e => hp ((fnd_at s _ i (by simp) hi).1 e)), if_neg hp]; rfl
theorem decW_len : ∀ (n : Nat) (l : List UInt8), l.length ≤ n → (Chs.decW l).length ≤ l.length := by
  intro n
  induction n with
  | zero => intro l h; obtain rfl := List.eq_nil_of_length_eq_zero (Nat.le_zero.1 h); simp [Chs.decW]
  | succ n ih =>
    intro l h
    match l, h with
    | [], _ => simp [Chs.decW]
    | [_], _ => simp [Chs.decW]
    | [a, b], _ => simp [Chs.decW]
    | [a, b, c], _ => simp [Chs.decW]
    | a :: b :: c :: d :: r, h =>
      simp only [List.length_cons] at h
      rw [Chs.decW]
      split
      · have := ih r (by omega); simp only [List.length_cons]; omega
      · have := ih (c :: d :: r) (by simp only [List.length_cons]; omega); simp only [List.length_cons] at this ⊢; omega
theorem decK_len (k : Nat) (l : List UInt8) : (Chs.decK k l).length ≤ l.length := by
  unfold Chs.decK
  split
  · simp [Chs.decS]
  · split
    · simp [Chs.decS]
    · split
      · unfold Chs.decU; rw [List.length_map]; exact chars_len l
      · exact decW_len _ l (Nat.le_refl _)
theorem decoded_len (k : Nat) (l : List UInt8) : (decoded k l).length ≤ 4 * l.length := by
  unfold decoded
  have h1 := flatMap_len utf8 4 (Chs.decK k l) (fun a _ => (Chs.utf8_len a).2)
  have h2 := decK_len k l
  omega
theorem pw_size {t : List UInt8} (ht : t.length ≤ 10000) {p : List UInt8 × Nat} (h : pw t = some p) : 6 ≤ p.2 ∧ p.2 ≤ t.length ∧ p.1.length ≤ 4 * p.2 := by
  unfold pw at h
  split at h
  case isFalse => cases h
  obtain ⟨⟨A, K, D, r⟩, h1, h⟩ := bnd h
  dsimp only at h
  split at h
  case isFalse => cases h
  rename_i hq
  obtain ⟨x, hx, hp⟩ := Option.map_eq_some_iff.1 h
  subst hp
  have hl := congrArg List.length (sp3_some h1).1
  have hr := hq.1.length_le
  simp only [List.length_drop, List.length_append, List.length_cons, List.length_nil] at hl hr
  unfold body at hx
  obtain ⟨k, _, hx⟩ := bnd hx
  obtain ⟨b, hb, hx⟩ := Option.map_eq_some_iff.1 hx
  have h2 := bytesP_len (by omega) hb
  have h3 := decoded_len k b
  subst hx
  dsimp only
  exact ⟨by omega, by omega, by omega⟩
def blk (c : UInt8) : Bool := decide (c = 32 ∨ c = 9)
def after (u : List UInt8) : List UInt8 := if (pw (u.dropWhile blk)).isSome then u.dropWhile blk else u
theorem after_len (u : List UInt8) : (after u).length ≤ u.length := by
  unfold after
  split
  · exact (List.dropWhile_suffix _).length_le
  · exact Nat.le_refl _
def unF : Nat → List UInt8 → List UInt8
  | 0, _ => []
  | n + 1, t => match t with
    | [] => []
    | c :: r => match pw (c :: r) with
      | none => c :: unF n r
      | some p => p.1 ++ unF n (after ((c :: r).drop p.2))
theorem unF_more : ∀ (n m : Nat) (t : List UInt8), t.length ≤ 10000 → t.length < n → t.length < m → unF n t = unF m t := by
  intro n
  induction n with
  | zero => intro m t _ h; omega
  | succ n ih =>
    intro m t ht h1 h2
    obtain ⟨m, rfl⟩ : ∃ k, m = k + 1 := ⟨m - 1, by omega⟩
    cases t with
    | nil => rfl
    | cons c r =>
      rw [unF, unF]
      simp only [List.length_cons] at ht h1 h2
      cases hp : pw (c :: r) with
      | none => dsimp only; rw [ih m r (by omega) (by omega) (by omega)]
      | some p =>
        dsimp only
        have hz := pw_size (by simp only [List.length_cons]; omega) hp
        have ha := after_len ((c :: r).drop p.2)
        simp only [List.length_drop, List.length_cons] at ha hz
        rw [ih m _ (by omega) (by omega) (by omega)]
def un (t : List UInt8) : List UInt8 := unF (t.length + 1) t
theorem un_nil : un [] = [] := rfl
theorem un_none {c : UInt8} {r : List UInt8} (h : pw (c :: r) = none) : un (c :: r) = c :: un r := by
  unfold un
  rw [unF, h]
  rfl
theorem un_some {t : List UInt8} {p : List UInt8 × Nat} (ht : t.length ≤ 10000) (h : pw t = some p) : un t = p.1 ++ un (after (t.drop p.2)) := by
  have hz := pw_size ht h
  cases t with
  | nil => simp at hz; omega
  | cons c r =>
    have ha := after_len ((c :: r).drop p.2)
    simp only [List.length_drop, List.length_cons] at ha hz ht
    unfold un
    rw [unF, h]
    dsimp only
    rw [unF_more _ ((after ((c :: r).drop p.2)).length + 1) _ (by omega) (by simp only [List.length_cons]; omega) (by omega)]
theorem pw_front {c : UInt8} {r : List UInt8} (h : c ≠ 61) : pw (c :: r) = none := by
  unfold pw
  rw [if_neg]
  intro e
  obtain ⟨t, ht⟩ := e
  cases ht
  exact h rfl
theorem blk_ne {c : UInt8} (h : blk c = true) : c ≠ 61 := by
  intro e; subst e; exact absurd h (by decide)
theorem un_blanks {v : List UInt8} : ∀ {b : List UInt8}, (∀ x ∈ b, blk x = true) → un (b ++ v) = b ++ un v
  | [], _ => rfl
  | c :: b, h => by
    rw [List.cons_append, un_none (pw_front (blk_ne (h c (by simp)))), un_blanks (fun x hx => h x (by simp [hx])), List.cons_append]
theorem dropWhile_blanks {v : List UInt8} : ∀ {b : List UInt8}, (∀ x ∈ b, blk x = true) → (b ++ v).dropWhile blk = v.dropWhile blk
  | [], _ => rfl
  | c :: b, h => by
    rw [List.cons_append, List.dropWhile_cons_of_pos (h c (by simp)), dropWhile_blanks (fun x hx => h x (by simp [hx]))]
theorem blank_eq (c : UInt8) : basic_Blank c = some (blk c) := by
  unfold basic_Blank blk
  by_cases h : c = 32
  · rw [if_pos h, bsome, decide_eq_true (.inl h)]
  · rw [if_neg h, bsome]; simp [h]
theorem rblank_eq (c : UInt8) : R_Blank c = some (blk c) := by
  unfold R_Blank blk
  by_cases h : c = 32
  · rw [if_pos h, bsome, decide_eq_true (.inl h)]
  · rw [if_neg h, bsome]; simp [h]
def fin (s : List UInt8) (p : List UInt8 × Int) : Option (List UInt8) := if (0 : Int) ≤ p.2 then (cut s p.2 (s.length : Int)).bind fun s81 => (strings_Builder_WriteString p.1 s81).bind fun (n82, b83, l84) => some l84 else some p.1
theorem dec_end {s : List UInt8} {m i : Nat} {out : List UInt8} {g : Int} (hi : ¬ i < s.length) : words_Decode_L1 s (m + 1) out g (i : Int) = some (out, g) := by
  rw [words_Decode_L1, if_neg (by omega)]
theorem dec_word {s : List UInt8} {m i : Nat} {out : List UInt8} {g : Int} {x : List UInt8} {k : Nat} (hi : i < s.length) (hs : s.length ≤ 4000) (hk : k ≤ 10000) (ho : out.length + x.length ≤ 1000000)
    (hr : words_read (s.drop i) = some (x, (k : Int), true)) : words_Decode_L1 s (m + 1) out g (i : Int) = words_Decode_L1 s m (out ++ x) ((i + k : Nat) : Int) ((i + k : Nat) : Int) := by
  rw [words_Decode_L1, if_pos (by omega), cut_from rfl (by omega), bsome, hr, bsome]
  dsimp only
  rw [if_pos rfl]
  unfold strings_Builder_WriteString
  rw [app_ok (by omega), bsome, bsome]
  dsimp only
  rw [show (i : Int) + (k : Int) = ((i + k : Nat) : Int) by omega, chk_ok (by omega) (by omega), bsome]
theorem dec_free {s : List UInt8} {m i : Nat} {out x : List UInt8} {n : Int} (hi : i < s.length) (hs : s.length ≤ 4000) (ho : out.length ≤ 1000000)
    (hr : words_read (s.drop i) = some (x, n, false)) : words_Decode_L1 s (m + 1) out (-1) (i : Int) = words_Decode_L1 s m (out ++ [s[i]]) (-1) ((i + 1 : Nat) : Int) := by
  rw [words_Decode_L1, if_pos (by omega), cut_from rfl (by omega), bsome, hr, bsome]
  dsimp only
  rw [if_neg Bool.false_ne_true, if_pos (by decide), idx_nat, List.getElem?_eq_getElem hi, bsome]
  unfold strings_Builder_WriteByte
  rw [app_ok (by simp; omega), bsome, bsome]
  dsimp only
  rw [bsome, if_neg (by decide), bsome, if_neg Bool.false_ne_true, bsome]
  dsimp only
  rw [chk_succ (by omega), bsome]
theorem dec_blank {s : List UInt8} {m i g : Nat} {out x : List UInt8} {n : Int} (hi : i < s.length) (hs : s.length ≤ 4000) (hb : blk s[i] = true)
    (hr : words_read (s.drop i) = some (x, n, false)) : words_Decode_L1 s (m + 1) out (g : Int) (i : Int) = words_Decode_L1 s m out (g : Int) ((i + 1 : Nat) : Int) := by
  rw [words_Decode_L1, if_pos (by omega), cut_from rfl (by omega), bsome, hr, bsome]
  dsimp only
  rw [if_neg Bool.false_ne_true, if_neg (by omega), bsome, if_pos (by omega), idx_nat, List.getElem?_eq_getElem hi, bsome, blank_eq, hb, bsome, bsome, if_neg (by decide), bsome]
  dsimp only
  rw [chk_succ (by omega), bsome]
theorem dec_flush {s : List UInt8} {m i g : Nat} {out x : List UInt8} {n : Int} (hi : i < s.length) (hs : s.length ≤ 4000) (hg : g ≤ i) (ho : out.length ≤ 1000000) (hb : blk s[i] = false)
    (hr : words_read (s.drop i) = some (x, n, false)) : words_Decode_L1 s (m + 1) out (g : Int) (i : Int) = words_Decode_L1 s m (out ++ (s.take (i + 1)).drop g) (-1) ((i + 1 : Nat) : Int) := by
  have hl : ((s.take (i + 1)).drop g).length ≤ 4000 := by rw [List.length_drop, List.length_take]; omega
  rw [words_Decode_L1, if_pos (by omega), cut_from rfl (by omega), bsome, hr, bsome]
  dsimp only
  rw [if_neg Bool.false_ne_true, if_neg (by omega), bsome, if_pos (by omega), idx_nat, List.getElem?_eq_getElem hi, bsome, blank_eq, hb, bsome, bsome, if_pos (by decide), chk_succ (by omega), bsome, cut_of (a := g) (b := i + 1) rfl rfl (by omega) (by omega), bsome]
  unfold strings_Builder_WriteString
  rw [app_ok (by omega), bsome, bsome]
  dsimp only
  rw [bsome]
  dsimp only
  rw [bsome]
theorem dec_L1 (s : List UInt8) (hs : s.length ≤ 4000) : ∀ (d i m : Nat), s.length - i ≤ d → d < m → i ≤ s.length →
    (∀ out : List UInt8, out.length ≤ 4 * i → (words_Decode_L1 s m out (-1) (i : Int)).bind (fin s) = some (out ++ un (s.drop i))) ∧
    (∀ (out : List UInt8) (g : Nat), out.length ≤ 4 * g → g ≤ i → (∀ x ∈ (s.take i).drop g, blk x = true) → (words_Decode_L1 s m out (g : Int) (i : Int)).bind (fin s) = some (out ++ un (after (s.drop g)))) := by
  intro d
  induction d using Nat.strongRecOn with
  | ind d ih =>
    intro i m h1 h2 h3
    obtain ⟨m, rfl⟩ : ∃ k, m = k + 1 := ⟨m - 1, by omega⟩
    have hgap : ∀ g, g ≤ i → s.drop g = (s.take i).drop g ++ s.drop i := by
      intro g hg
      conv => lhs; rw [← List.take_append_drop i s]
      rw [List.drop_append_of_le_length (by rw [List.length_take]; omega)]
    by_cases hi : i < s.length
    · have hd := List.drop_eq_getElem_cons hi
      obtain ⟨x, n, hr, hx⟩ := read_eq (s.drop i) (by rw [List.length_drop]; omega)
      cases hp : pw (s.drop i) with
      | some p =>
        obtain ⟨rfl, rfl⟩ := hx p hp
        rw [hp, Option.isSome_some] at hr
        have hz := pw_size (by rw [List.length_drop]; omega) hp
        rw [List.length_drop] at hz
        have hun := un_some (by rw [List.length_drop]; omega) hp
        rw [List.drop_drop] at hun
        have key : ∀ (out : List UInt8) (g : Int), out.length ≤ 4 * i → (words_Decode_L1 s (m + 1) out g (i : Int)).bind (fin s) = some (out ++ un (s.drop i)) := by
          intro out g ho
          rw [dec_word hi hs (by omega) (by omega) hr, (ih (d - p.2) (by omega) (i + p.2) m (by omega) (by omega) (by omega)).2 (out ++ p.1) (i + p.2) (by rw [List.length_append]; omega) (Nat.le_refl _) (by rw [List.drop_eq_nil_of_le (by rw [List.length_take]; omega)]; simp), hun, List.append_assoc]
        refine ⟨fun out ho => key out _ ho, fun out g ho hg hb => ?_⟩
        rw [key out _ (by omega)]
        have hnb : (s.drop i).dropWhile blk = s.drop i := by
          rw [hd] at hp ⊢
          refine List.dropWhile_cons_of_neg (fun e => ?_)
          rw [pw_front (blk_ne e)] at hp; cases hp
        have : after (s.drop g) = s.drop i := by
          unfold after
          rw [hgap g hg, dropWhile_blanks hb, hnb, hp, Option.isSome_some, if_pos rfl]
        rw [this]
      | none =>
        rw [hp, Option.isSome_none] at hr
        have hun : un (s.drop i) = s[i] :: un (s.drop (i + 1)) := by rw [hd] at hp ⊢; exact un_none hp
        refine ⟨fun out ho => ?_, fun out g ho hg hb => ?_⟩
        · rw [dec_free hi hs (by omega) hr, (ih (d - 1) (by omega) (i + 1) m (by omega) (by omega) (by omega)).1 _ (by rw [List.length_append, List.length_singleton]; omega), hun]
          simp
        · have ht : (s.take (i + 1)).drop g = (s.take i).drop g ++ [s[i]] := by
            rw [List.take_succ_eq_append_getElem hi, List.drop_append_of_le_length (by rw [List.length_take]; omega)]
          by_cases hbk : blk s[i] = true
          · rw [dec_blank hi hs hbk hr]
            refine (ih (d - 1) (by omega) (i + 1) m (by omega) (by omega) (by omega)).2 out g ho (by omega) ?_
            rw [ht]
            intro x hx
            rcases List.mem_append.1 hx with h | h
            · exact hb x h
            · rw [List.mem_singleton.1 h]; exact hbk
          · rw [dec_flush hi hs hg (by omega) (by simpa using hbk) hr, (ih (d - 1) (by omega) (i + 1) m (by omega) (by omega) (by omega)).1 _ (by rw [List.length_append, List.length_drop, List.length_take]; omega)]
            have hnb : (s.drop i).dropWhile blk = s.drop i := by rw [hd]; exact List.dropWhile_cons_of_neg hbk
            have : after (s.drop g) = s.drop g := by
              unfold after
              rw [if_neg]
              rw [hgap g hg, dropWhile_blanks hb, hnb, hp]
              decide
            rw [this, hgap g hg, un_blanks hb, hun, ht]
            simp
    · have he : s.drop i = [] := List.drop_eq_nil_of_le (by omega)
      refine ⟨fun out ho => ?_, fun out g ho hg hb => ?_⟩
      · rw [dec_end hi, bsome, he]
        unfold fin
        dsimp only
        rw [if_neg (by decide), un_nil, List.append_nil]
      · rw [dec_end hi, bsome]
        unfold fin
        dsimp only
        rw [if_pos (by omega), cut_from rfl (by omega), bsome]
        unfold strings_Builder_WriteString
        rw [app_ok (by rw [List.length_drop]; omega), bsome, bsome]
        have : after (s.drop g) = s.drop g := by
          unfold after
          rw [if_neg]
          rw [hgap g hg, dropWhile_blanks hb, he]
          decide
        rw [this]
        dsimp only
        rw [hgap g hg, un_blanks hb, he, un_nil]
theorem decode_eq {s : List UInt8} (hs : s.length ≤ 4000) : words_Decode s = some (un s, (0, 0)) := by
  have h := (dec_L1 s hs s.length 0 FU (by omega) (by unfold FU; omega) (by omega)).1 [] (by simp)
  rw [Int.natCast_zero, List.drop_zero, List.nil_append] at h
  unfold words_Decode
  rw [if_neg (by omega)]
  obtain ⟨⟨o, g⟩, h1, h2⟩ := bnd h
  rw [h1, bsome]
  unfold fin at h2
  dsimp only at h2 ⊢
  rw [h2, bsome]
  rfl
theorem decode_big {s : List UInt8} (hs : 4000 < s.length) : words_Decode s = some ([], (1, -1)) := by
  unfold words_Decode
  rw [if_pos (by omega)]
  rfl
theorem skip_L2 (s : List UInt8) (hs : s.length ≤ 4000) : ∀ (d i m : Nat), s.length - i ≤ d → d < m → i ≤ s.length → ∃ j : Nat, R_Unworded_L2 s m (i : Int) = some (j : Int) ∧ i ≤ j ∧ j ≤ s.length ∧ s.drop j = (s.drop i).dropWhile blk := by
  intro d
  induction d with
  | zero =>
    intro i m h1 h2 h3
    obtain ⟨m, rfl⟩ : ∃ k, m = k + 1 := ⟨m - 1, by omega⟩
    refine ⟨i, ?_, Nat.le_refl _, h3, ?_⟩
    · rw [R_Unworded_L2, if_neg (by omega), bsome, if_neg Bool.false_ne_true]
    · rw [List.drop_eq_nil_of_le (by omega)]; rfl
  | succ d ih =>
    intro i m h1 h2 h3
    obtain ⟨m, rfl⟩ : ∃ k, m = k + 1 := ⟨m - 1, by omega⟩
    by_cases hi : i < s.length
    · have hd := List.drop_eq_getElem_cons hi
      rw [R_Unworded_L2, if_pos (by omega), idx_nat, List.getElem?_eq_getElem hi, bsome, rblank_eq, bsome, bsome]
      by_cases hb : blk s[i] = true
      · obtain ⟨j, j1, j2, j3, j4⟩ := ih (i + 1) m (by omega) (by omega) (by omega)
        rw [if_pos hb, chk_succ (by omega), bsome]
        refine ⟨j, j1, by omega, j3, ?_⟩
        rw [j4, hd, List.dropWhile_cons_of_pos hb]
      · rw [if_neg hb]
        exact ⟨i, rfl, Nat.le_refl _, h3, by rw [hd, List.dropWhile_cons_of_neg hb]⟩
    · refine ⟨i, ?_, Nat.le_refl _, h3, ?_⟩
      · rw [R_Unworded_L2, if_neg (by omega), bsome, if_neg Bool.false_ne_true]
      · rw [List.drop_eq_nil_of_le (by omega)]; rfl
theorem unw_L1 (s : List UInt8) (hs : s.length ≤ 4000) : ∀ (d i m : Nat) (out : List UInt8), s.length - i ≤ d → d < m → i ≤ s.length → out.length ≤ 4 * i → R_Unworded_L1 s m out (i : Int) = some (out ++ un (s.drop i)) := by
  intro d
  induction d using Nat.strongRecOn with
  | ind d ih =>
    intro i m out h1 h2 h3 h4
    obtain ⟨m, rfl⟩ : ∃ k, m = k + 1 := ⟨m - 1, by omega⟩
    rw [R_Unworded_L1]
    by_cases hi : i < s.length
    · have hd := List.drop_eq_getElem_cons hi
      rw [if_pos (by omega), wordAt_eq s i (by omega) (by omega), bsome]
      cases hp : pw (s.drop i) with
      | none =>
        have hun : un (s.drop i) = s[i] :: un (s.drop (i + 1)) := by rw [hd] at hp ⊢; exact un_none hp
        have hsl : (s.take (i + 1)).drop i = [s[i]] := by
          rw [List.take_succ_eq_append_getElem hi, List.drop_append_of_le_length (by rw [List.length_take]; omega), List.drop_eq_nil_of_le (by rw [List.length_take]; omega)]; rfl
        unfold ans
        dsimp only
        rw [if_pos rfl, chk_succ (by omega), bsome, cut_of (a := i) (b := i + 1) rfl rfl (by omega) (by omega), bsome, hsl, cat_ok (by simp; omega), bsome, bsome, ih (d - 1) (by omega) (i + 1) m _ (by omega) (by omega) (by omega) (by rw [List.length_append, List.length_singleton]; omega), hun]
        simp
      | some p =>
        have hz := pw_size (by rw [List.length_drop]; omega) hp
        rw [List.length_drop] at hz
        have hun := un_some (by rw [List.length_drop]; omega) hp
        rw [List.drop_drop] at hun
        unfold ans
        dsimp only
        rw [if_neg (by omega), cat_ok (by omega), bsome, show (i : Int) + (p.2 : Int) = ((i + p.2 : Nat) : Int) by omega, chk_ok (by omega) (by omega), bsome]
        obtain ⟨j, j1, j2, j3, j4⟩ := skip_L2 s hs s.length (i + p.2) FU (by omega) (by unfold FU; omega) (by omega)
        rw [j1, bsome]
        have here : pw ((s.drop (i + p.2)).dropWhile blk) = none ∨ j = i + p.2 → R_Unworded_L1 s m (out ++ p.1) ((i + p.2 : Nat) : Int) = some (out ++ un (s.drop i)) := by
          intro hor
          rw [ih (d - p.2) (by omega) (i + p.2) m _ (by omega) (by omega) (by omega) (by rw [List.length_append]; omega), hun]
          have : after (s.drop (i + p.2)) = s.drop (i + p.2) := by
            unfold after
            split
            · rename_i hs1
              rcases hor with h | h
              · rw [h] at hs1; cases hs1
              · rw [← j4, h]
            · rfl
          rw [this, List.append_assoc]
        by_cases hj : i + p.2 < j
        · rw [if_pos (by omega), bsome]
          by_cases hj2 : j < s.length
          · rw [if_pos (decide_eq_true (by omega)), wordAt_eq s j (by omega) (by omega), bsome]
            cases hq : pw (s.drop j) with
            | none =>
              unfold ans
              dsimp only
              rw [if_neg (by decide)]
              exact here (.inl (by rw [← j4]; exact hq))
            | some q =>
              have hy := pw_size (by rw [List.length_drop]; omega) hq
              unfold ans
              dsimp only
              rw [if_pos (by omega), ih (d - p.2) (by omega) j m _ (by omega) (by omega) (by omega) (by rw [List.length_append]; omega), hun]
              have : after (s.drop (i + p.2)) = s.drop j := by
                unfold after
                rw [if_pos, j4]
                rw [← j4, hq]; rfl
              rw [this, List.append_assoc]
          · rw [if_neg (by rw [decide_eq_true_eq]; omega)]
            exact here (.inl (by rw [← j4, List.drop_eq_nil_of_le (by omega)]; rfl))
        · rw [if_neg (by omega), bsome, if_neg Bool.false_ne_true]
          exact here (.inr (by omega))
    · rw [if_neg (by omega), List.drop_eq_nil_of_le (by omega), un_nil, List.append_nil]
theorem unworded_eq {s : List UInt8} (hs : s.length ≤ 4000) : R_Unworded s = some (un s) := by
  have h := unw_L1 s hs s.length 0 FU [] (by omega) (by unfold FU; omega) (by omega) (by simp)
  rw [Int.natCast_zero, List.drop_zero, List.nil_append] at h
  unfold R_Unworded
  rw [h, bsome]
theorem law_Decode (s : List UInt8) (hs : s.length ≤ 140737488351232) : L_WordsDecodeMatchesSpec s = some true := by
  unfold L_WordsDecodeMatchesSpec
  rw [example_eq, bsome, if_pos rfl]
  by_cases h : 4000 < s.length
  · rw [decode_big h, bsome]
    dsimp only
    rw [if_pos (by omega)]
    unfold R_At
    rw [bsome]
    rfl
  · rw [decode_eq (by omega), bsome]
    dsimp only
    rw [if_neg (by omega), if_pos rfl, unworded_eq (by omega), bsome, bsome, decide_eq_true rfl]
end Go.Ph.Wd
end
