/-
  Sct2, Sct3, Lp, B64Law, Wa, Wb, Wc, Wd, We: own texts of this repository (wip/tpl, wip/plans), merged and shaken by wip/tools/pack.py.
-/
import Derived.KernelRfl
import Derived.Lib.CountLaws
import Derived.Test.YtogkmhjnojphiaaGreatDoorE3d
set_option maxRecDepth 100000
section
set_option maxRecDepth 100000
set_option linter.unusedVariables false
set_option linter.unusedSimpArgs false
namespace Go.Proofs.YtogkmhjnojphiaaGreatDoor
open Go Go.RowKit Go.Ph Go.Ph.Pl Go.Ph.Pf
set_option maxHeartbeats 4000000 in
theorem words_read_ct {p0 : List UInt8} {r : (List UInt8 × Int × Bool)} (h : words_read p0 = some r) : Ct Tryz.prog 50 [S p0] (fun M => GlF (fun w => ∃ m, w.cell? ⟨2, 0, none⟩ = some (.int .i64 m)) M) (fun v M => v = Value.tuple #[S r.1, I r.2.1, Value.bool r.2.2]) := by
  refine Ct.of Tryz.func50 (enters Tryz.func50 (by kernel_rfl) rfl) rfl rfl rfl ?_
  intro w0 M0 H hp
  have hg_maxl := hp
  unfold words_read at h
  refine SQ (RG (AS rfl rfl (AS rfl rfl (AS rfl rfl (NL (TN (SQ (SQ ?_))))))))
  obtain ⟨b1, hx2, h⟩ := bnd h
  refine RG (MV rfl rfl (WR.call H (strings_HasPrefix_ct hx2) rfl trivial (Wn.none rfl) rfl ?_))
  intro v11 M w H hle hR
  replace hg_maxl := hg_maxl.mono hle
  obtain rfl := hR
  refine ST (Ex.not rfl) rfl (NL (TN ?_))
  refine WC.condB rfl (fun hk3 => ?_) (fun hk3 => ?_)
  ·
   replace hk3 : b1 = false := by simpa using hk3
   subst hk3
   rw [if_neg Bool.false_ne_true] at h
   refine SQ (RG (AS rfl rfl (AS rfl rfl (AS rfl rfl (NL (TN (RT ?_)))))))
   obtain rfl := Option.some.inj h
   exact WQ.ret3 rfl rfl rfl rfl H.ext rfl
  ·
   replace hk3 : b1 = true := by simpa using hk3
   subst hk3
   rw [if_pos rfl] at h
   refine SK (TN (SQ ?_))
   obtain ⟨s4, hxs4, h⟩ := bnd h
   obtain ⟨l5, hx6, h⟩ := bnd h
   refine RG (MV rfl rfl (MV rfl rfl (ST (Ex.lenStr Tryz.underlying9 rfl) rfl (ST (Ex.min2 rfl rfl) rfl (ST (Ex.sliceC Tryz.underlying9 rfl rfl rfl hxs4) rfl (WR.call H (strings_SplitN_ct hx6) rfl (hg_maxl) (Wn.none rfl) rfl ?_))))))
   intro v18 M w H hle hR
   replace hg_maxl := hg_maxl.mono hle
   have f18_0 := hR
   refine AS rfl rfl (NL (TN (SQ (SQ ?_))))
   obtain ⟨o7, e8, h⟩ := bnd h
   refine WC.cutX (fun e w => ∃ (b9 : Bool) (M : Mem), e = [(5, v18), (28, Value.bool b9)] ∧ St w0 M0 M [] w ∧ GlF (fun w => ∃ m, w.cell? ⟨2, 0, none⟩ = some (.int .i64 m)) M ∧ Sl M encS v18 l5 ∧ some b9 = some o7) [] ?_ ?_ (trivial)
   ·
    refine RG (MV rfl rfl (ST (Ex.lenSl Tryz.underlying43 f18_0 rfl) rfl ?_))
    by_cases hk10 : (l5.length : Int) < (4 : Int)
    ·
     rw [if_pos hk10] at e8
     refine WR.stepE (v' := .bool true) (Ex.lss rfl rfl) (congrArg Value.bool (decide_eq_true hk10)) (Wn.none rfl) rfl rfl (MV rfl rfl (WR.skipN 5 rfl rfl (PT rfl rfl rfl (NL ?_))))
     exact WQ.meetN [(5, _), (28, _)] ⟨rfl, rfl, trivial⟩ ⟨_, _, rfl, H, hg_maxl, f18_0, e8⟩
    ·
     rw [if_neg hk10] at e8
     obtain ⟨a11, hxa11, e8⟩ := bnd e8
     obtain ⟨b24, o24, ha24, hc24⟩ := f18_0.atC hxa11
     obtain ⟨b12, hx13, e8⟩ := bnd e8
     refine WR.stepE (v' := .bool false) (Ex.lss rfl rfl) (congrArg Value.bool (decide_eq_false hk10)) (Wn.none rfl) rfl rfl (MV rfl rfl (SG (Ex.move rfl) rfl rfl rfl (SG (Ex.idxAt ha24 Tryz.underlying43 Tryz.sizeOf9 rfl rfl) rfl rfl rfl (SG (Ex.loadM H rfl hc24 Tryz.isAgg9) rfl rfl rfl (WR.call H (strings_HasPrefix_ct hx13) rfl trivial (Wn.some rfl rfl rfl) rfl ?_)))))
     intro v26 M w H hle hR
     replace hg_maxl := hg_maxl.mono hle
     replace f18_0 := f18_0.mono hle
     replace hc24 := hc24.mono hle
     obtain rfl := hR
     refine SG (Ex.not rfl) rfl rfl rfl (PF rfl rfl rfl (NL ?_))
     exact WQ.meetN [(5, _), (28, _)] ⟨rfl, rfl, trivial⟩ ⟨_, _, rfl, H, hg_maxl, f18_0, e8⟩
   ·
    rintro e w ⟨b9, M, rfl, H, hg_maxl, f18_0, q14⟩
    obtain rfl := Option.some.inj q14
    refine TN ?_
    refine WC.condB rfl (fun hk15 => ?_) (fun hk15 => ?_)
    ·
     subst hk15
     rw [if_pos rfl] at h
     refine SQ (RG (AS rfl rfl (AS rfl rfl (AS rfl rfl (NL (TN (RT ?_)))))))
     obtain rfl := Option.some.inj h
     exact WQ.ret3 rfl rfl rfl rfl H.ext rfl
    ·
     subst hk15
     rw [if_neg Bool.false_ne_true] at h
     refine SK (TN (SQ ?_))
     obtain ⟨a16, hxa16, h⟩ := bnd h
     obtain ⟨b31, o31, ha31, hc31⟩ := f18_0.atC hxa16
     obtain ⟨a17, hxa17, h⟩ := bnd h
     obtain ⟨b34, o34, ha34, hc34⟩ := f18_0.atC hxa17
     obtain ⟨⟨l18, b19⟩, hx20, h⟩ := bnd h
     try dsimp only at h
     refine WC.draw (m := 12) rfl rfl H ?_
     intro w H
     refine WA.take (i := 0) rfl (by kernel_rfl) (by kernel_rfl) (by kernel_rfl) (fun _ => Ex.move rfl) (Wn.none rfl) rfl rfl (fun _ _ => rfl) (WA.take (i := 1) rfl (by kernel_rfl) (by kernel_rfl) (by kernel_rfl) (fun _ => Ex.idxAt ha31 Tryz.underlying43 Tryz.sizeOf9 rfl rfl) (Wn.none rfl) rfl rfl (fun _ _ => rfl) (WA.take (i := 3) rfl (by kernel_rfl) (by kernel_rfl) (by kernel_rfl) (fun _ => Ex.move rfl) (Wn.none rfl) rfl rfl (fun _ _ => rfl) (WA.take (i := 4) rfl (by kernel_rfl) (by kernel_rfl) (by kernel_rfl) (fun _ => Ex.idxAt ha34 Tryz.underlying43 Tryz.sizeOf9 rfl rfl) (Wn.none rfl) rfl rfl (fun _ _ => rfl) (WA.takeM (i := 2) [5] rfl (by kernel_rfl) (by kernel_rfl) (by kernel_rfl) (Ex.loadM H rfl hc31 Tryz.isAgg9) (Wn.none rfl) rfl rfl (fun _ _ => rfl) (WA.seq (fuel := 4) [5, 6, 7] rfl (by kernel_rfl) (ST (Ex.loadM H rfl hc34 Tryz.isAgg9) rfl (WR.call H (words_bytesOf_ct hx20) rfl (hg_maxl) (Wn.none rfl) rfl ?_)))))))
     intro v36 M w H hle hR
     replace hg_maxl := hg_maxl.mono hle
     replace f18_0 := f18_0.mono hle
     replace hc31 := hc31.mono hle
     replace hc34 := hc34.mono hle
     try dsimp only at hR
     obtain ⟨x36_0, rfl, f36_0⟩ := hR
     refine MV rfl rfl (NA (WA.take (i := 8) rfl (by kernel_rfl) (by kernel_rfl) (by kernel_rfl) (fun _ => Ex.extract rfl rfl) (Wn.none rfl) rfl rfl (fun _ _ => rfl) (WA.take (i := 9) rfl (by kernel_rfl) (by kernel_rfl) (by kernel_rfl) (fun _ => Ex.extract rfl rfl) (Wn.none rfl) rfl rfl (fun _ _ => rfl) (WA.seq (fuel := 0) [10, 11] rfl (by kernel_rfl) (AS rfl rfl (AS rfl rfl (NA (WA.done (by kernel_rfl) (TN (SQ ?_))))))))))
     obtain ⟨a21, hxa21, h⟩ := bnd h
     obtain ⟨b41, o41, ha41, hc41⟩ := f18_0.atC hxa21
     obtain ⟨⟨s22, ⟨n23, n24⟩⟩, hx25, h⟩ := bnd h
     try dsimp only at h
     refine RG (MV rfl rfl (ST (Ex.idxAt ha41 Tryz.underlying43 Tryz.sizeOf9 rfl rfl) rfl (ST (Ex.loadM H rfl hc41 Tryz.isAgg9) rfl (MV rfl rfl (WR.call H (charset_Decode_ct hx25) rfl (f36_0) (Wn.none rfl) rfl ?_)))))
     intro v44 M w H hle hR
     replace hg_maxl := hg_maxl.mono hle
     replace f18_0 := f18_0.mono hle
     replace hc31 := hc31.mono hle
     replace hc34 := hc34.mono hle
     replace f36_0 := f36_0.mono hle
     replace hc41 := hc41.mono hle
     try dsimp only at hR
     obtain rfl := hR
     refine MV rfl rfl (ST (Ex.extract rfl rfl) rfl (ST (Ex.extract rfl rfl) rfl (WR.alloc [_, _] H Tryz.zeroValue24 rfl (Wn.none rfl) rfl ?_)))
     intro b9 w H
     refine AS rfl rfl (WR.store [_, _] H rfl rfl rfl (by repeat first | exact .head | apply Upd.tail) Tryz.sizeOf24 rfl (by rfl) (by rfl) (Wn.none rfl) ?_)
     intro w H
     refine NL (TN (SQ ?_))
     obtain ⟨o26, e27, h⟩ := bnd h
     refine WC.cutX (fun e w => ∃ (s28 : List UInt8) (n29 : Int) (b30 : Bool) (M : Mem), e = [(2, S s28), (3, I n29), (4, Value.bool b30)] ∧ St w0 M0 M [] w ∧ GlF (fun w => ∃ m, w.cell? ⟨2, 0, none⟩ = some (.int .i64 m)) M ∧ some (s28, n29, b30) = some o26) [] ?_ ?_ (trivial)
     ·
      obtain ⟨a31, hxa31, e27⟩ := bnd e27
      obtain ⟨b49, o49, ha49, hc49⟩ := f18_0.atC hxa31
      obtain ⟨n32, hxn32, e27⟩ := bnd e27
      obtain ⟨a33, hxa33, e27⟩ := bnd e27
      obtain ⟨b54, o54, ha54, hc54⟩ := f18_0.atC hxa33
      obtain ⟨n34, hxn34, e27⟩ := bnd e27
      obtain ⟨a35, hxa35, e27⟩ := bnd e27
      obtain ⟨b59, o59, ha59, hc59⟩ := f18_0.atC hxa35
      obtain ⟨n36, hxn36, e27⟩ := bnd e27
      obtain ⟨n37, hxn37, e27⟩ := bnd e27
      rcases b19 with _ | _
      ·
       rw [if_neg Bool.false_ne_true] at e27
       refine WC.sub (e' := [(5, _), (7, _), (8, _), (9, _)]) ⟨rfl, rfl, rfl, rfl, trivial⟩ (WC.draw (m := 26) rfl rfl H ?_)
       intro w H
       refine WA.conf (c := 26) [(47, S s22, []), (48, v18, []), (49, ptr b49 o49, [1]), (50, S a31, [2]), (51, I (a31.length : Int), [3]), (52, I n32, [4]), (53, v18, []), (54, ptr b54 o54, [6]), (55, S a33, [7]), (56, I (a33.length : Int), [8]), (57, I n34, [5, 9]), (58, v18, []), (59, ptr b59 o59, [11]), (60, S a35, [12]), (61, I (a35.length : Int), [13]), (62, I n36, [10, 14]), (63, I n37, [15]), (64, Value.bool false, []), (65, Value.bool false, [17]), (66, undef, [18]), (67, undef, [18]), (68, undef, [18]), (69, Value.bool false, [18, 21]), (2, S s22, [0]), (3, I n37, [16]), (4, Value.bool false, [22])] rfl rfl (by kernel_rfl) rfl rfl H ⟨⟨_, rfl, fun E w M H hle Qk kk => ?_⟩, ⟨_, rfl, fun E w M H hle Qk kk => ?_⟩, ⟨_, rfl, fun E w M H hle Qk kk => ?_⟩, ⟨_, rfl, fun E w M H hle Qk kk => ?_⟩, ⟨_, rfl, fun E w M H hle Qk kk => ?_⟩, ⟨_, rfl, fun E w M H hle Qk kk => ?_⟩, ⟨_, rfl, fun E w M H hle Qk kk => ?_⟩, ⟨_, rfl, fun E w M H hle Qk kk => ?_⟩, ⟨_, rfl, fun E w M H hle Qk kk => ?_⟩, ⟨_, rfl, fun E w M H hle Qk kk => ?_⟩, ⟨_, rfl, fun E w M H hle Qk kk => ?_⟩, ⟨_, rfl, fun E w M H hle Qk kk => ?_⟩, ⟨_, rfl, fun E w M H hle Qk kk => ?_⟩, ⟨_, rfl, fun E w M H hle Qk kk => ?_⟩, ⟨_, rfl, fun E w M H hle Qk kk => ?_⟩, ⟨_, rfl, fun E w M H hle Qk kk => ?_⟩, ⟨_, rfl, fun E w M H hle Qk kk => ?_⟩, ⟨_, rfl, fun E w M H hle Qk kk => ?_⟩, ⟨_, rfl, fun E w M H hle Qk kk => ?_⟩, ⟨_, rfl, fun E w M H hle Qk kk => ?_⟩, ⟨_, rfl, fun E w M H hle Qk kk => ?_⟩, ⟨_, rfl, fun E w M H hle Qk kk => ?_⟩, ⟨_, rfl, fun E w M H hle Qk kk => ?_⟩, ⟨_, rfl, fun E w M H hle Qk kk => ?_⟩, ⟨_, rfl, fun E w M H hle Qk kk => ?_⟩, ⟨_, rfl, fun E w M H hle Qk kk => ?_⟩, trivial⟩ ?_
       ·
        have hg_maxl := hg_maxl.mono hle
        have f18_0 := f18_0.mono hle
        have hc31 := hc31.mono hle
        have hc34 := hc34.mono hle
        have f36_0 := f36_0.mono hle
        have hc41 := hc41.mono hle
        have hc49 := hc49.mono hle
        have hc54 := hc54.mono hle
        have hc59 := hc59.mono hle
        refine MV rfl rfl ?_
        exact WR.nil (kk _ _ H (Mem.le.refl _))
       ·
        have hg_maxl := hg_maxl.mono hle
        have f18_0 := f18_0.mono hle
        have hc31 := hc31.mono hle
        have hc34 := hc34.mono hle
        have f36_0 := f36_0.mono hle
        have hc41 := hc41.mono hle
        have hc49 := hc49.mono hle
        have hc54 := hc54.mono hle
        have hc59 := hc59.mono hle
        refine MV rfl rfl ?_
        exact WR.nil (kk _ _ H (Mem.le.refl _))
       ·
        have hg_maxl := hg_maxl.mono hle
        have f18_0 := f18_0.mono hle
        have hc31 := hc31.mono hle
        have hc34 := hc34.mono hle
        have f36_0 := f36_0.mono hle
        have hc41 := hc41.mono hle
        have hc49 := hc49.mono hle
        have hc54 := hc54.mono hle
        have hc59 := hc59.mono hle
        refine ST (Ex.idxAt ha49 Tryz.underlying43 Tryz.sizeOf9 rfl rfl) rfl ?_
        exact WR.nil (kk _ _ H (Mem.le.refl _))
       ·
        have hg_maxl := hg_maxl.mono hle
        have f18_0 := f18_0.mono hle
        have hc31 := hc31.mono hle
        have hc34 := hc34.mono hle
        have f36_0 := f36_0.mono hle
        have hc41 := hc41.mono hle
        have hc49 := hc49.mono hle
        have hc54 := hc54.mono hle
        have hc59 := hc59.mono hle
        refine ST (Ex.loadM H rfl hc49 Tryz.isAgg9) rfl ?_
        exact WR.nil (kk _ _ H (Mem.le.refl _))
       ·
        have hg_maxl := hg_maxl.mono hle
        have f18_0 := f18_0.mono hle
        have hc31 := hc31.mono hle
        have hc34 := hc34.mono hle
        have f36_0 := f36_0.mono hle
        have hc41 := hc41.mono hle
        have hc49 := hc49.mono hle
        have hc54 := hc54.mono hle
        have hc59 := hc59.mono hle
        refine ST (Ex.lenStr Tryz.underlying9 rfl) rfl ?_
        exact WR.nil (kk _ _ H (Mem.le.refl _))
       ·
        have hg_maxl := hg_maxl.mono hle
        have f18_0 := f18_0.mono hle
        have hc31 := hc31.mono hle
        have hc34 := hc34.mono hle
        have f36_0 := f36_0.mono hle
        have hc41 := hc41.mono hle
        have hc49 := hc49.mono hle
        have hc54 := hc54.mono hle
        have hc59 := hc59.mono hle
        refine ST (Ex.addC rfl rfl hxn32) rfl ?_
        exact WR.nil (kk _ _ H (Mem.le.refl _))
       ·
        have hg_maxl := hg_maxl.mono hle
        have f18_0 := f18_0.mono hle
        have hc31 := hc31.mono hle
        have hc34 := hc34.mono hle
        have f36_0 := f36_0.mono hle
        have hc41 := hc41.mono hle
        have hc49 := hc49.mono hle
        have hc54 := hc54.mono hle
        have hc59 := hc59.mono hle
        refine MV rfl rfl ?_
        exact WR.nil (kk _ _ H (Mem.le.refl _))
       ·
        have hg_maxl := hg_maxl.mono hle
        have f18_0 := f18_0.mono hle
        have hc31 := hc31.mono hle
        have hc34 := hc34.mono hle
        have f36_0 := f36_0.mono hle
        have hc41 := hc41.mono hle
        have hc49 := hc49.mono hle
        have hc54 := hc54.mono hle
        have hc59 := hc59.mono hle
        refine ST (Ex.idxAt ha54 Tryz.underlying43 Tryz.sizeOf9 rfl rfl) rfl ?_
        exact WR.nil (kk _ _ H (Mem.le.refl _))
       ·
        have hg_maxl := hg_maxl.mono hle
        have f18_0 := f18_0.mono hle
        have hc31 := hc31.mono hle
        have hc34 := hc34.mono hle
        have f36_0 := f36_0.mono hle
        have hc41 := hc41.mono hle
        have hc49 := hc49.mono hle
        have hc54 := hc54.mono hle
        have hc59 := hc59.mono hle
        refine ST (Ex.loadM H rfl hc54 Tryz.isAgg9) rfl ?_
        exact WR.nil (kk _ _ H (Mem.le.refl _))
       ·
        have hg_maxl := hg_maxl.mono hle
        have f18_0 := f18_0.mono hle
        have hc31 := hc31.mono hle
        have hc34 := hc34.mono hle
        have f36_0 := f36_0.mono hle
        have hc41 := hc41.mono hle
        have hc49 := hc49.mono hle
        have hc54 := hc54.mono hle
        have hc59 := hc59.mono hle
        refine ST (Ex.lenStr Tryz.underlying9 rfl) rfl ?_
        exact WR.nil (kk _ _ H (Mem.le.refl _))
       ·
        have hg_maxl := hg_maxl.mono hle
        have f18_0 := f18_0.mono hle
        have hc31 := hc31.mono hle
        have hc34 := hc34.mono hle
        have f36_0 := f36_0.mono hle
        have hc41 := hc41.mono hle
        have hc49 := hc49.mono hle
        have hc54 := hc54.mono hle
        have hc59 := hc59.mono hle
        refine ST (Ex.addC rfl rfl hxn34) rfl ?_
        exact WR.nil (kk _ _ H (Mem.le.refl _))
       ·
        have hg_maxl := hg_maxl.mono hle
        have f18_0 := f18_0.mono hle
        have hc31 := hc31.mono hle
        have hc34 := hc34.mono hle
        have f36_0 := f36_0.mono hle
        have hc41 := hc41.mono hle
        have hc49 := hc49.mono hle
        have hc54 := hc54.mono hle
        have hc59 := hc59.mono hle
        refine MV rfl rfl ?_
        exact WR.nil (kk _ _ H (Mem.le.refl _))
       ·
        have hg_maxl := hg_maxl.mono hle
        have f18_0 := f18_0.mono hle
        have hc31 := hc31.mono hle
        have hc34 := hc34.mono hle
        have f36_0 := f36_0.mono hle
        have hc41 := hc41.mono hle
        have hc49 := hc49.mono hle
        have hc54 := hc54.mono hle
        have hc59 := hc59.mono hle
        refine ST (Ex.idxAt ha59 Tryz.underlying43 Tryz.sizeOf9 rfl rfl) rfl ?_
        exact WR.nil (kk _ _ H (Mem.le.refl _))
       ·
        have hg_maxl := hg_maxl.mono hle
        have f18_0 := f18_0.mono hle
        have hc31 := hc31.mono hle
        have hc34 := hc34.mono hle
        have f36_0 := f36_0.mono hle
        have hc41 := hc41.mono hle
        have hc49 := hc49.mono hle
        have hc54 := hc54.mono hle
        have hc59 := hc59.mono hle
        refine ST (Ex.loadM H rfl hc59 Tryz.isAgg9) rfl ?_
        exact WR.nil (kk _ _ H (Mem.le.refl _))
       ·
        have hg_maxl := hg_maxl.mono hle
        have f18_0 := f18_0.mono hle
        have hc31 := hc31.mono hle
        have hc34 := hc34.mono hle
        have f36_0 := f36_0.mono hle
        have hc41 := hc41.mono hle
        have hc49 := hc49.mono hle
        have hc54 := hc54.mono hle
        have hc59 := hc59.mono hle
        refine ST (Ex.lenStr Tryz.underlying9 rfl) rfl ?_
        exact WR.nil (kk _ _ H (Mem.le.refl _))
       ·
        have hg_maxl := hg_maxl.mono hle
        have f18_0 := f18_0.mono hle
        have hc31 := hc31.mono hle
        have hc34 := hc34.mono hle
        have f36_0 := f36_0.mono hle
        have hc41 := hc41.mono hle
        have hc49 := hc49.mono hle
        have hc54 := hc54.mono hle
        have hc59 := hc59.mono hle
        refine ST (Ex.addC rfl rfl hxn36) rfl ?_
        exact WR.nil (kk _ _ H (Mem.le.refl _))
       ·
        have hg_maxl := hg_maxl.mono hle
        have f18_0 := f18_0.mono hle
        have hc31 := hc31.mono hle
        have hc34 := hc34.mono hle
        have f36_0 := f36_0.mono hle
        have hc41 := hc41.mono hle
        have hc49 := hc49.mono hle
        have hc54 := hc54.mono hle
        have hc59 := hc59.mono hle
        refine ST (Ex.addC rfl rfl hxn37) rfl ?_
        exact WR.nil (kk _ _ H (Mem.le.refl _))
       ·
        have hg_maxl := hg_maxl.mono hle
        have f18_0 := f18_0.mono hle
        have hc31 := hc31.mono hle
        have hc34 := hc34.mono hle
        have f36_0 := f36_0.mono hle
        have hc41 := hc41.mono hle
        have hc49 := hc49.mono hle
        have hc54 := hc54.mono hle
        have hc59 := hc59.mono hle
        refine MV rfl rfl ?_
        exact WR.nil (kk _ _ H (Mem.le.refl _))
       ·
        have hg_maxl := hg_maxl.mono hle
        have f18_0 := f18_0.mono hle
        have hc31 := hc31.mono hle
        have hc34 := hc34.mono hle
        have f36_0 := f36_0.mono hle
        have hc41 := hc41.mono hle
        have hc49 := hc49.mono hle
        have hc54 := hc54.mono hle
        have hc59 := hc59.mono hle
        refine MV rfl rfl ?_
        exact WR.nil (kk _ _ H (Mem.le.refl _))
       ·
        have hg_maxl := hg_maxl.mono hle
        have f18_0 := f18_0.mono hle
        have hc31 := hc31.mono hle
        have hc34 := hc34.mono hle
        have f36_0 := f36_0.mono hle
        have hc41 := hc41.mono hle
        have hc49 := hc49.mono hle
        have hc54 := hc54.mono hle
        have hc59 := hc59.mono hle
        refine GF rfl rfl rfl ?_
        exact WR.nil (kk _ _ H (Mem.le.refl _))
       ·
        have hg_maxl := hg_maxl.mono hle
        have f18_0 := f18_0.mono hle
        have hc31 := hc31.mono hle
        have hc34 := hc34.mono hle
        have f36_0 := f36_0.mono hle
        have hc41 := hc41.mono hle
        have hc49 := hc49.mono hle
        have hc54 := hc54.mono hle
        have hc59 := hc59.mono hle
        refine GF rfl rfl rfl ?_
        exact WR.nil (kk _ _ H (Mem.le.refl _))
       ·
        have hg_maxl := hg_maxl.mono hle
        have f18_0 := f18_0.mono hle
        have hc31 := hc31.mono hle
        have hc34 := hc34.mono hle
        have f36_0 := f36_0.mono hle
        have hc41 := hc41.mono hle
        have hc49 := hc49.mono hle
        have hc54 := hc54.mono hle
        have hc59 := hc59.mono hle
        refine GF rfl rfl rfl ?_
        exact WR.nil (kk _ _ H (Mem.le.refl _))
       ·
        have hg_maxl := hg_maxl.mono hle
        have f18_0 := f18_0.mono hle
        have hc31 := hc31.mono hle
        have hc34 := hc34.mono hle
        have f36_0 := f36_0.mono hle
        have hc41 := hc41.mono hle
        have hc49 := hc49.mono hle
        have hc54 := hc54.mono hle
        have hc59 := hc59.mono hle
        refine PF rfl rfl rfl ?_
        exact WR.nil (kk _ _ H (Mem.le.refl _))
       ·
        have hg_maxl := hg_maxl.mono hle
        have f18_0 := f18_0.mono hle
        have hc31 := hc31.mono hle
        have hc34 := hc34.mono hle
        have f36_0 := f36_0.mono hle
        have hc41 := hc41.mono hle
        have hc49 := hc49.mono hle
        have hc54 := hc54.mono hle
        have hc59 := hc59.mono hle
        refine AS rfl rfl ?_
        exact WR.nil (kk _ _ H (Mem.le.refl _))
       ·
        have hg_maxl := hg_maxl.mono hle
        have f18_0 := f18_0.mono hle
        have hc31 := hc31.mono hle
        have hc34 := hc34.mono hle
        have f36_0 := f36_0.mono hle
        have hc41 := hc41.mono hle
        have hc49 := hc49.mono hle
        have hc54 := hc54.mono hle
        have hc59 := hc59.mono hle
        refine AS rfl rfl ?_
        exact WR.nil (kk _ _ H (Mem.le.refl _))
       ·
        have hg_maxl := hg_maxl.mono hle
        have f18_0 := f18_0.mono hle
        have hc31 := hc31.mono hle
        have hc34 := hc34.mono hle
        have f36_0 := f36_0.mono hle
        have hc41 := hc41.mono hle
        have hc49 := hc49.mono hle
        have hc54 := hc54.mono hle
        have hc59 := hc59.mono hle
        refine AS rfl rfl ?_
        exact WR.nil (kk _ _ H (Mem.le.refl _))
       ·
        intro w M H hle
        replace hg_maxl := hg_maxl.mono hle
        replace f18_0 := f18_0.mono hle
        replace hc31 := hc31.mono hle
        replace hc34 := hc34.mono hle
        replace f36_0 := f36_0.mono hle
        replace hc41 := hc41.mono hle
        replace hc49 := hc49.mono hle
        replace hc54 := hc54.mono hle
        replace hc59 := hc59.mono hle
        refine WA.done (by kernel_rfl) ?_
        exact WQ.meetN [(2, _), (3, _), (4, _)] ⟨rfl, rfl, rfl, trivial⟩ ⟨_, _, _, _, rfl, (H.pick (L' := []) (by repeat (first | exact Pick.nil | refine Pick.cons (by repeat first | exact .head | apply Rem.tail) ?_))), hg_maxl, e27⟩
      ·
       rw [if_pos rfl] at e27
       obtain ⟨b38, hx39, e27⟩ := bnd e27
       refine WC.sub (e' := [(5, _), (7, _), (8, _), (9, _)]) ⟨rfl, rfl, rfl, rfl, trivial⟩ (WC.draw (m := 26) rfl rfl H ?_)
       intro w H
       refine WA.conf (c := 26) [(47, S s22, []), (48, v18, []), (49, ptr b49 o49, [1]), (50, S a31, [2]), (51, I (a31.length : Int), [3]), (52, I n32, [4]), (53, v18, []), (54, ptr b54 o54, [6]), (55, S a33, [7]), (56, I (a33.length : Int), [8]), (57, I n34, [5, 9]), (58, v18, []), (59, ptr b59 o59, [11]), (60, S a35, [12]), (61, I (a35.length : Int), [13]), (62, I n36, [10, 14]), (63, I n37, [15]), (64, Value.bool true, []), (65, Value.bool true, [17]), (66, Value.agg #[I n23, I n24], [18]), (67, Value.bool b38, [18, 19]), (68, Value.bool (!b38), [18, 20]), (69, Value.bool (!b38), [18, 21]), (2, S s22, [0]), (3, I n37, [16]), (4, Value.bool (!b38), [22])] rfl rfl (by kernel_rfl) rfl rfl H ⟨⟨_, rfl, fun E w M H hle Qk kk => ?_⟩, ⟨_, rfl, fun E w M H hle Qk kk => ?_⟩, ⟨_, rfl, fun E w M H hle Qk kk => ?_⟩, ⟨_, rfl, fun E w M H hle Qk kk => ?_⟩, ⟨_, rfl, fun E w M H hle Qk kk => ?_⟩, ⟨_, rfl, fun E w M H hle Qk kk => ?_⟩, ⟨_, rfl, fun E w M H hle Qk kk => ?_⟩, ⟨_, rfl, fun E w M H hle Qk kk => ?_⟩, ⟨_, rfl, fun E w M H hle Qk kk => ?_⟩, ⟨_, rfl, fun E w M H hle Qk kk => ?_⟩, ⟨_, rfl, fun E w M H hle Qk kk => ?_⟩, ⟨_, rfl, fun E w M H hle Qk kk => ?_⟩, ⟨_, rfl, fun E w M H hle Qk kk => ?_⟩, ⟨_, rfl, fun E w M H hle Qk kk => ?_⟩, ⟨_, rfl, fun E w M H hle Qk kk => ?_⟩, ⟨_, rfl, fun E w M H hle Qk kk => ?_⟩, ⟨_, rfl, fun E w M H hle Qk kk => ?_⟩, ⟨_, rfl, fun E w M H hle Qk kk => ?_⟩, ⟨_, rfl, fun E w M H hle Qk kk => ?_⟩, ⟨_, rfl, fun E w M H hle Qk kk => ?_⟩, ⟨_, rfl, fun E w M H hle Qk kk => ?_⟩, ⟨_, rfl, fun E w M H hle Qk kk => ?_⟩, ⟨_, rfl, fun E w M H hle Qk kk => ?_⟩, ⟨_, rfl, fun E w M H hle Qk kk => ?_⟩, ⟨_, rfl, fun E w M H hle Qk kk => ?_⟩, ⟨_, rfl, fun E w M H hle Qk kk => ?_⟩, trivial⟩ ?_
       ·
        have hg_maxl := hg_maxl.mono hle
        have f18_0 := f18_0.mono hle
        have hc31 := hc31.mono hle
        have hc34 := hc34.mono hle
        have f36_0 := f36_0.mono hle
        have hc41 := hc41.mono hle
        have hc49 := hc49.mono hle
        have hc54 := hc54.mono hle
        have hc59 := hc59.mono hle
        refine MV rfl rfl ?_
        exact WR.nil (kk _ _ H (Mem.le.refl _))
       ·
        have hg_maxl := hg_maxl.mono hle
        have f18_0 := f18_0.mono hle
        have hc31 := hc31.mono hle
        have hc34 := hc34.mono hle
        have f36_0 := f36_0.mono hle
        have hc41 := hc41.mono hle
        have hc49 := hc49.mono hle
        have hc54 := hc54.mono hle
        have hc59 := hc59.mono hle
        refine MV rfl rfl ?_
        exact WR.nil (kk _ _ H (Mem.le.refl _))
       ·
        have hg_maxl := hg_maxl.mono hle
        have f18_0 := f18_0.mono hle
        have hc31 := hc31.mono hle
        have hc34 := hc34.mono hle
        have f36_0 := f36_0.mono hle
        have hc41 := hc41.mono hle
        have hc49 := hc49.mono hle
        have hc54 := hc54.mono hle
        have hc59 := hc59.mono hle
        refine ST (Ex.idxAt ha49 Tryz.underlying43 Tryz.sizeOf9 rfl rfl) rfl ?_
        exact WR.nil (kk _ _ H (Mem.le.refl _))
       ·
        have hg_maxl := hg_maxl.mono hle
        have f18_0 := f18_0.mono hle
        have hc31 := hc31.mono hle
        have hc34 := hc34.mono hle
        have f36_0 := f36_0.mono hle
        have hc41 := hc41.mono hle
        have hc49 := hc49.mono hle
        have hc54 := hc54.mono hle
        have hc59 := hc59.mono hle
        refine ST (Ex.loadM H rfl hc49 Tryz.isAgg9) rfl ?_
        exact WR.nil (kk _ _ H (Mem.le.refl _))
       ·
        have hg_maxl := hg_maxl.mono hle
        have f18_0 := f18_0.mono hle
        have hc31 := hc31.mono hle
        have hc34 := hc34.mono hle
        have f36_0 := f36_0.mono hle
        have hc41 := hc41.mono hle
        have hc49 := hc49.mono hle
        have hc54 := hc54.mono hle
        have hc59 := hc59.mono hle
        refine ST (Ex.lenStr Tryz.underlying9 rfl) rfl ?_
        exact WR.nil (kk _ _ H (Mem.le.refl _))
       ·
        have hg_maxl := hg_maxl.mono hle
        have f18_0 := f18_0.mono hle
        have hc31 := hc31.mono hle
        have hc34 := hc34.mono hle
        have f36_0 := f36_0.mono hle
        have hc41 := hc41.mono hle
        have hc49 := hc49.mono hle
        have hc54 := hc54.mono hle
        have hc59 := hc59.mono hle
        refine ST (Ex.addC rfl rfl hxn32) rfl ?_
        exact WR.nil (kk _ _ H (Mem.le.refl _))
       ·
        have hg_maxl := hg_maxl.mono hle
        have f18_0 := f18_0.mono hle
        have hc31 := hc31.mono hle
        have hc34 := hc34.mono hle
        have f36_0 := f36_0.mono hle
        have hc41 := hc41.mono hle
        have hc49 := hc49.mono hle
        have hc54 := hc54.mono hle
        have hc59 := hc59.mono hle
        refine MV rfl rfl ?_
        exact WR.nil (kk _ _ H (Mem.le.refl _))
       ·
        have hg_maxl := hg_maxl.mono hle
        have f18_0 := f18_0.mono hle
        have hc31 := hc31.mono hle
        have hc34 := hc34.mono hle
        have f36_0 := f36_0.mono hle
        have hc41 := hc41.mono hle
        have hc49 := hc49.mono hle
        have hc54 := hc54.mono hle
        have hc59 := hc59.mono hle
        refine ST (Ex.idxAt ha54 Tryz.underlying43 Tryz.sizeOf9 rfl rfl) rfl ?_
        exact WR.nil (kk _ _ H (Mem.le.refl _))
       ·
        have hg_maxl := hg_maxl.mono hle
        have f18_0 := f18_0.mono hle
        have hc31 := hc31.mono hle
        have hc34 := hc34.mono hle
        have f36_0 := f36_0.mono hle
        have hc41 := hc41.mono hle
        have hc49 := hc49.mono hle
        have hc54 := hc54.mono hle
        have hc59 := hc59.mono hle
        refine ST (Ex.loadM H rfl hc54 Tryz.isAgg9) rfl ?_
        exact WR.nil (kk _ _ H (Mem.le.refl _))
       ·
        have hg_maxl := hg_maxl.mono hle
        have f18_0 := f18_0.mono hle
        have hc31 := hc31.mono hle
        have hc34 := hc34.mono hle
        have f36_0 := f36_0.mono hle
        have hc41 := hc41.mono hle
        have hc49 := hc49.mono hle
        have hc54 := hc54.mono hle
        have hc59 := hc59.mono hle
        refine ST (Ex.lenStr Tryz.underlying9 rfl) rfl ?_
        exact WR.nil (kk _ _ H (Mem.le.refl _))
       ·
        have hg_maxl := hg_maxl.mono hle
        have f18_0 := f18_0.mono hle
        have hc31 := hc31.mono hle
        have hc34 := hc34.mono hle
        have f36_0 := f36_0.mono hle
        have hc41 := hc41.mono hle
        have hc49 := hc49.mono hle
        have hc54 := hc54.mono hle
        have hc59 := hc59.mono hle
        refine ST (Ex.addC rfl rfl hxn34) rfl ?_
        exact WR.nil (kk _ _ H (Mem.le.refl _))
       ·
        have hg_maxl := hg_maxl.mono hle
        have f18_0 := f18_0.mono hle
        have hc31 := hc31.mono hle
        have hc34 := hc34.mono hle
        have f36_0 := f36_0.mono hle
        have hc41 := hc41.mono hle
        have hc49 := hc49.mono hle
        have hc54 := hc54.mono hle
        have hc59 := hc59.mono hle
        refine MV rfl rfl ?_
        exact WR.nil (kk _ _ H (Mem.le.refl _))
       ·
        have hg_maxl := hg_maxl.mono hle
        have f18_0 := f18_0.mono hle
        have hc31 := hc31.mono hle
        have hc34 := hc34.mono hle
        have f36_0 := f36_0.mono hle
        have hc41 := hc41.mono hle
        have hc49 := hc49.mono hle
        have hc54 := hc54.mono hle
        have hc59 := hc59.mono hle
        refine ST (Ex.idxAt ha59 Tryz.underlying43 Tryz.sizeOf9 rfl rfl) rfl ?_
        exact WR.nil (kk _ _ H (Mem.le.refl _))
       ·
        have hg_maxl := hg_maxl.mono hle
        have f18_0 := f18_0.mono hle
        have hc31 := hc31.mono hle
        have hc34 := hc34.mono hle
        have f36_0 := f36_0.mono hle
        have hc41 := hc41.mono hle
        have hc49 := hc49.mono hle
        have hc54 := hc54.mono hle
        have hc59 := hc59.mono hle
        refine ST (Ex.loadM H rfl hc59 Tryz.isAgg9) rfl ?_
        exact WR.nil (kk _ _ H (Mem.le.refl _))
       ·
        have hg_maxl := hg_maxl.mono hle
        have f18_0 := f18_0.mono hle
        have hc31 := hc31.mono hle
        have hc34 := hc34.mono hle
        have f36_0 := f36_0.mono hle
        have hc41 := hc41.mono hle
        have hc49 := hc49.mono hle
        have hc54 := hc54.mono hle
        have hc59 := hc59.mono hle
        refine ST (Ex.lenStr Tryz.underlying9 rfl) rfl ?_
        exact WR.nil (kk _ _ H (Mem.le.refl _))
       ·
        have hg_maxl := hg_maxl.mono hle
        have f18_0 := f18_0.mono hle
        have hc31 := hc31.mono hle
        have hc34 := hc34.mono hle
        have f36_0 := f36_0.mono hle
        have hc41 := hc41.mono hle
        have hc49 := hc49.mono hle
        have hc54 := hc54.mono hle
        have hc59 := hc59.mono hle
        refine ST (Ex.addC rfl rfl hxn36) rfl ?_
        exact WR.nil (kk _ _ H (Mem.le.refl _))
       ·
        have hg_maxl := hg_maxl.mono hle
        have f18_0 := f18_0.mono hle
        have hc31 := hc31.mono hle
        have hc34 := hc34.mono hle
        have f36_0 := f36_0.mono hle
        have hc41 := hc41.mono hle
        have hc49 := hc49.mono hle
        have hc54 := hc54.mono hle
        have hc59 := hc59.mono hle
        refine ST (Ex.addC rfl rfl hxn37) rfl ?_
        exact WR.nil (kk _ _ H (Mem.le.refl _))
       ·
        have hg_maxl := hg_maxl.mono hle
        have f18_0 := f18_0.mono hle
        have hc31 := hc31.mono hle
        have hc34 := hc34.mono hle
        have f36_0 := f36_0.mono hle
        have hc41 := hc41.mono hle
        have hc49 := hc49.mono hle
        have hc54 := hc54.mono hle
        have hc59 := hc59.mono hle
        refine MV rfl rfl ?_
        exact WR.nil (kk _ _ H (Mem.le.refl _))
       ·
        have hg_maxl := hg_maxl.mono hle
        have f18_0 := f18_0.mono hle
        have hc31 := hc31.mono hle
        have hc34 := hc34.mono hle
        have f36_0 := f36_0.mono hle
        have hc41 := hc41.mono hle
        have hc49 := hc49.mono hle
        have hc54 := hc54.mono hle
        have hc59 := hc59.mono hle
        refine MV rfl rfl ?_
        exact WR.nil (kk _ _ H (Mem.le.refl _))
       ·
        have hg_maxl := hg_maxl.mono hle
        have f18_0 := f18_0.mono hle
        have hc31 := hc31.mono hle
        have hc34 := hc34.mono hle
        have f36_0 := f36_0.mono hle
        have hc41 := hc41.mono hle
        have hc49 := hc49.mono hle
        have hc54 := hc54.mono hle
        have hc59 := hc59.mono hle
        refine SG (Ex.loadAgg H rfl (by repeat (first | exact List.Mem.head _ | apply List.Mem.tail)) Tryz.isAgg24 Tryz.sizeOf24 (by rfl)) rfl rfl rfl ?_
        exact WR.nil (kk _ _ H (Mem.le.refl _))
       ·
        have hg_maxl := hg_maxl.mono hle
        have f18_0 := f18_0.mono hle
        have hc31 := hc31.mono hle
        have hc34 := hc34.mono hle
        have f36_0 := f36_0.mono hle
        have hc41 := hc41.mono hle
        have hc49 := hc49.mono hle
        have hc54 := hc54.mono hle
        have hc59 := hc59.mono hle
        refine WR.call H (basic_Failed_ct hx39) rfl trivial (Wn.some rfl rfl rfl) rfl ?_
        intro v67 M w H hle hR
        replace hg_maxl := hg_maxl.mono hle
        replace f18_0 := f18_0.mono hle
        replace hc31 := hc31.mono hle
        replace hc34 := hc34.mono hle
        replace f36_0 := f36_0.mono hle
        replace hc41 := hc41.mono hle
        replace hc49 := hc49.mono hle
        replace hc54 := hc54.mono hle
        replace hc59 := hc59.mono hle
        obtain rfl := hR
        exact WR.nil (kk _ _ H hle)
       ·
        have hg_maxl := hg_maxl.mono hle
        have f18_0 := f18_0.mono hle
        have hc31 := hc31.mono hle
        have hc34 := hc34.mono hle
        have f36_0 := f36_0.mono hle
        have hc41 := hc41.mono hle
        have hc49 := hc49.mono hle
        have hc54 := hc54.mono hle
        have hc59 := hc59.mono hle
        refine SG (Ex.not rfl) rfl rfl rfl ?_
        exact WR.nil (kk _ _ H (Mem.le.refl _))
       ·
        have hg_maxl := hg_maxl.mono hle
        have f18_0 := f18_0.mono hle
        have hc31 := hc31.mono hle
        have hc34 := hc34.mono hle
        have f36_0 := f36_0.mono hle
        have hc41 := hc41.mono hle
        have hc49 := hc49.mono hle
        have hc54 := hc54.mono hle
        have hc59 := hc59.mono hle
        refine PT rfl rfl rfl ?_
        exact WR.nil (kk _ _ H (Mem.le.refl _))
       ·
        have hg_maxl := hg_maxl.mono hle
        have f18_0 := f18_0.mono hle
        have hc31 := hc31.mono hle
        have hc34 := hc34.mono hle
        have f36_0 := f36_0.mono hle
        have hc41 := hc41.mono hle
        have hc49 := hc49.mono hle
        have hc54 := hc54.mono hle
        have hc59 := hc59.mono hle
        refine AS rfl rfl ?_
        exact WR.nil (kk _ _ H (Mem.le.refl _))
       ·
        have hg_maxl := hg_maxl.mono hle
        have f18_0 := f18_0.mono hle
        have hc31 := hc31.mono hle
        have hc34 := hc34.mono hle
        have f36_0 := f36_0.mono hle
        have hc41 := hc41.mono hle
        have hc49 := hc49.mono hle
        have hc54 := hc54.mono hle
        have hc59 := hc59.mono hle
        refine AS rfl rfl ?_
        exact WR.nil (kk _ _ H (Mem.le.refl _))
       ·
        have hg_maxl := hg_maxl.mono hle
        have f18_0 := f18_0.mono hle
        have hc31 := hc31.mono hle
        have hc34 := hc34.mono hle
        have f36_0 := f36_0.mono hle
        have hc41 := hc41.mono hle
        have hc49 := hc49.mono hle
        have hc54 := hc54.mono hle
        have hc59 := hc59.mono hle
        refine AS rfl rfl ?_
        exact WR.nil (kk _ _ H (Mem.le.refl _))
       ·
        intro w M H hle
        replace hg_maxl := hg_maxl.mono hle
        replace f18_0 := f18_0.mono hle
        replace hc31 := hc31.mono hle
        replace hc34 := hc34.mono hle
        replace f36_0 := f36_0.mono hle
        replace hc41 := hc41.mono hle
        replace hc49 := hc49.mono hle
        replace hc54 := hc54.mono hle
        replace hc59 := hc59.mono hle
        refine WA.done (by kernel_rfl) ?_
        exact WQ.meetN [(2, _), (3, _), (4, _)] ⟨rfl, rfl, rfl, trivial⟩ ⟨_, _, _, _, rfl, (H.pick (L' := []) (by repeat (first | exact Pick.nil | refine Pick.cons (by repeat first | exact .head | apply Rem.tail) ?_))), hg_maxl, e27⟩
     ·
      rintro e w ⟨s28, n29, b30, M, rfl, H, hg_maxl, q40⟩
      obtain rfl := Option.some.inj q40
      try dsimp only at h
      refine TN (RT ?_)
      obtain rfl := Option.some.inj h
      exact WQ.ret3 rfl rfl rfl rfl H.ext rfl
theorem basic_Blank_ct {p0 : UInt8} {r : Bool} (h : basic_Blank p0 = some r) : Ct Tryz.prog 52 [encB p0] (fun M => True) (fun v M => v = Value.bool r) := by
  refine Ct.of Tryz.func52 (enters Tryz.func52 (by kernel_rfl) rfl) rfl rfl rfl ?_
  intro w0 M0 H hp
  unfold basic_Blank at h
  refine SQ (RG (AS rfl rfl (NL (TN (SQ ?_)))))
  obtain ⟨o1, e2, h⟩ := bnd h
  refine WC.cutX (fun e w => ∃ (b3 : Bool) (M : Mem), e = [(2, Value.bool b3)] ∧ St w0 M0 M [] w ∧ some b3 = some o1) [] ?_ ?_ (trivial)
  ·
   by_cases hk4 : p0 = 32
   ·
    rw [if_pos hk4] at e2
    refine RG (MV rfl rfl (WR.stepE (v' := .bool true) (Ex.eqlB (c := p0) (d := 32) rfl rfl) (congrArg Value.bool (decide_eq_true hk4)) (Wn.none rfl) rfl rfl (MV rfl rfl (GT rfl rfl rfl (GT rfl rfl rfl (PT rfl rfl rfl (AS rfl rfl (NL ?_))))))))
    exact WQ.meetN [(2, _)] ⟨rfl, trivial⟩ ⟨_, _, rfl, H, e2⟩
   ·
    rw [if_neg hk4] at e2
    refine RG (MV rfl rfl (WR.stepE (v' := .bool false) (Ex.eqlB (c := p0) (d := 32) rfl rfl) (congrArg Value.bool (decide_eq_false hk4)) (Wn.none rfl) rfl rfl (MV rfl rfl (SG (Ex.move rfl) rfl rfl rfl (SG (Ex.eqlB (c := p0) (d := 9) rfl rfl) rfl rfl rfl (PF rfl rfl rfl (AS rfl rfl (NL ?_))))))))
    exact WQ.meetN [(2, _)] ⟨rfl, trivial⟩ ⟨_, _, rfl, H, e2⟩
  ·
   rintro e w ⟨b3, M, rfl, H, q5⟩
   obtain rfl := Option.some.inj q5
   refine TN (RT ?_)
   obtain rfl := Option.some.inj h
   exact WQ.ret1 rfl rfl H.ext rfl
theorem strings_Builder_WriteString_ct {p0 : List UInt8} {p1 : List UInt8} {bp0 : Nat} {pp0 : Value} {vp0 : Value} {r : (Int × Bool × List UInt8)} (h : strings_Builder_WriteString p0 p1 = some r) : CtX Tryz.prog 53 [ptr bp0 0, S p1] [.blk bp0 (.cells #[pp0, vp0] 70), RowI 5 encB vp0 p0] (fun M => BPM M bp0 pp0) (fun v M its => ∃ x1 qp0 up0, v = Value.tuple #[I r.1, x1] ∧ NilB M x1 r.2.1 ∧ BPM M bp0 qp0 ∧ its = [.blk bp0 (.cells #[qp0, up0] 70), RowI 5 encB up0 r.2.2]) := by
  refine CtX.of Tryz.func53 (enters Tryz.func53 (by kernel_rfl) rfl) rfl rfl rfl ?_
  intro w0 M0 H hp
  have hp0 := hp
  unfold strings_Builder_WriteString at h
  refine SQ (RG (AS rfl rfl (AS rfl rfl (NL (TN (SQ (RG (MV rfl rfl ?_))))))))
  refine WR.callX (A := [.blk bp0 (.cells #[pp0, vp0] 70)]) (B := [RowI 5 encB vp0 p0]) (H.pick (L' := [.blk bp0 (.cells #[pp0, vp0] 70), RowI 5 encB vp0 p0]) (by repeat (first | exact Pick.nil | refine Pick.cons (by repeat first | exact .head | apply Rem.tail) ?_))) (copyCheck_ct hp0) (.left (Spl.all _)) rfl trivial (Wn.none rfl) rfl ?_
  intro v7 M w its H hle hR
  replace hp0 := hp0.mono hle
  obtain ⟨rfl, rfl⟩ := hR
  simp only [List.cons_append, List.nil_append] at H
  refine NL (TN (SQ ?_))
  obtain ⟨l2, hxl2, h⟩ := bnd h
  refine RG (MV rfl rfl (MV rfl rfl (ST (Ex.nilCheckP rfl) rfl (ST (Ex.fieldAddr Tryz.underlying70 rfl Tryz.sizeOf30 (by decide) rfl) rfl (ST (Ex.load1 H rfl (by repeat (first | exact List.Mem.head _ | apply List.Mem.tail)) Tryz.isAgg30 (by rfl)) rfl ?_)))))
  refine MV rfl rfl (WR.appStrC (l := p0) xty30 Tryz.underlying9 H rfl (fun _ => by repeat first | exact .head | apply Upd.tail) rfl hxl2 (Wn.none rfl) rfl ?_)
  intro v14 w H
  refine ST (Ex.nilCheckP rfl) rfl (ST (Ex.fieldAddr Tryz.underlying70 rfl Tryz.sizeOf30 (by decide) rfl) rfl (WR.putV [_, _] H rfl rfl (H.rowOne (by repeat (first | exact List.Mem.head _ | apply List.Mem.tail))) (by repeat first | exact .head | apply Upd.tail) (by rfl) Tryz.sizeOf30 (by first | decide | (simp; done) | (simp; omega)) (Wn.none rfl) ?_))
  intro w H
  refine NL (TN (SQ (RG (MV rfl rfl (ST (Ex.lenStr Tryz.underlying9 rfl) rfl (AS rfl rfl (AS rfl rfl (NL (TN (RT ?_))))))))))
  obtain rfl := Option.some.inj h
  exact WQ.retX2 (its := [.blk bp0 (.cells #[(ptr bp0 0), v14] 70), RowI 5 encB v14 l2]) rfl rfl rfl H (by repeat (first | exact Pick.nil | refine Pick.cons (by repeat first | exact .head | apply Rem.tail) ?_)) ⟨_, _, _, rfl, (.inl ⟨rfl, rfl⟩), BPM.self, rfl⟩
theorem words_Decode_ct {p0 : List UInt8} {r : (List UInt8 × (Int × Int))} (h : words_Decode p0 = some r) : Ct Tryz.prog 17 [S p0] (fun M => GlF (fun w => ∃ m, w.cell? ⟨2, 0, none⟩ = some (.int .i64 m)) M) (fun v M => v = Value.tuple #[S r.1, Value.agg #[I r.2.1, I r.2.2]]) := by
  refine Ct.of Tryz.func17 (enters Tryz.func17 (by kernel_rfl) rfl) rfl rfl rfl ?_
  intro w0 M0 H hp
  have hg_maxl := hp
  unfold words_Decode at h
  refine SQ (RG (AS rfl rfl (WR.alloc [_, _] H Tryz.zeroValue24 rfl (Wn.none rfl) rfl ?_)))
  intro b3 w H
  refine NL (TN (SQ (SQ (RG (MV rfl rfl (ST (Ex.lenStr Tryz.underlying9 rfl) rfl (ST (Ex.gtr rfl rfl) rfl (NL (TN ?_)))))))))
  refine WC.condB rfl (fun hk1 => ?_) (fun hk1 => ?_)
  ·
   replace hk1 : (4000 : Int) < (p0.length : Int) := of_decide_eq_true hk1
   rw [if_pos hk1] at h
   refine SQ ?_
   obtain ⟨⟨n2, n3⟩, hx4, h⟩ := bnd h
   try dsimp only at h
   refine RG (WR.call H (basic_Fault_ct hx4) rfl trivial (Wn.none rfl) rfl ?_)
   intro v13 M w H hle hR
   replace hg_maxl := hg_maxl.mono hle
   try dsimp only at hR
   obtain rfl := hR
   refine AS rfl rfl (WR.store [_, _] H rfl rfl rfl (by repeat first | exact .head | apply Upd.tail) Tryz.sizeOf24 rfl (by rfl) (by rfl) (Wn.none rfl) ?_)
   intro w H
   refine NL (TN (RT ?_))
   obtain rfl := Option.some.inj h
   exact WQ.ret2 rfl rfl ⟨_, rfl, H.loadAgg (by repeat (first | exact List.Mem.head _ | apply List.Mem.tail)) Tryz.isAgg24 Tryz.sizeOf24 (by rfl)⟩ H.ext rfl
  ·
   replace hk1 : ¬ ((4000 : Int) < (p0.length : Int)) := of_decide_eq_false hk1
   rw [if_neg hk1] at h
   refine SK (TN (SQ (RG (WR.alloc [_, _] H Tryz.zeroValue70 rfl (Wn.none rfl) rfl ?_))))
   intro b4 w H
   refine NL (TN (SQ (RG (AS rfl rfl (NL (TN (SQ (SQ (RG (AS rfl rfl (NL (TN ?_))))))))))))
   obtain ⟨o5, e6, h⟩ := bnd h
   refine WC.cutX (fun e w => ∃ (v7 : Value) (l10 : List UInt8) (v11 : Value) (n12 : Int) (M : Mem), e = [(0, S p0), (3, ptr b3 0), (4, ptr b4 0), (5, I n12)] ∧ St w0 M0 M [.blk b3 (.cells #[I 0, I 0] 24), .blk b4 (.cells #[v7, v11] 70), RowI 5 encB v11 l10] w ∧ GlF (fun w => ∃ m, w.cell? ⟨2, 0, none⟩ = some (.int .i64 m)) M ∧ BPM M b4 v7 ∧ some (l10, n12) = some o5) [] ?_ ?_ (trivial)
   ·
    refine BL ?_
    replace H := H.newRow 5 encB
    refine WC.loopP (fun m e w => ∃ (v13 : Value) (l16 : List UInt8) (v17 : Value) (n18 : Int) (n19 : Int) (M : Mem), e = [(0, S p0), (3, ptr b3 0), (4, ptr b4 0), (5, I n18), (6, I n19)] ∧ St w0 M0 M [.blk b3 (.cells #[I 0, I 0] 24), .blk b4 (.cells #[v13, v17] 70), RowI 5 encB v17 l16] w ∧ GlF (fun w => ∃ m, w.cell? ⟨2, 0, none⟩ = some (.int .i64 m)) M ∧ BPM M b4 v13 ∧ words_Decode_L1 p0 m l16 n18 n19 = some o5) FU [(0, _), (3, _), (4, _), (5, _), (6, _)] ⟨rfl, rfl, rfl, rfl, rfl, trivial⟩ ⟨_, _, _, _, _, _, rfl, (H.pick (L' := [.blk b3 (.cells #[I 0, I 0] 24), .blk b4 (.cells #[(Value.pointer none), (Value.slice none 0 0)] 70), RowI 5 encB (Value.slice none 0 0) []]) (by repeat (first | exact Pick.nil | refine Pick.cons (by repeat first | exact .head | apply Rem.tail) ?_))), hg_maxl, BPM.nil, e6⟩ ?_
    rintro m20 e w ⟨v13, l16, v17, n18, n19, M, rfl, H, hg_maxl, hs14, e6⟩
    rcases m20 with _ | m20
    · rw [words_Decode_L1] at e6; cases e6
    rw [words_Decode_L1] at e6
    refine SQ (SQ (RG (MV rfl rfl (MV rfl rfl (ST (Ex.lenStr Tryz.underlying9 rfl) rfl (ST (Ex.lss rfl rfl) rfl (NL (TN ?_))))))))
    refine WC.condB rfl (fun hk22 => ?_) (fun hk22 => ?_)
    ·
     replace hk22 : n19 < (p0.length : Int) := of_decide_eq_true hk22
     rw [if_pos hk22] at e6
     refine SK (TN (BL (SQ ?_)))
     obtain ⟨s23, hxs23, e6⟩ := bnd e6
     obtain ⟨⟨s24, n25, b26⟩, hx27, e6⟩ := bnd e6
     try dsimp only at e6
     refine RG (MV rfl rfl (MV rfl rfl (ST (Ex.sliceL Tryz.underlying9 rfl rfl hxs23) rfl (WR.call H (words_read_ct hx27) rfl (hg_maxl) (Wn.none rfl) rfl ?_))))
     intro v22 M w H hle hR
     replace hg_maxl := hg_maxl.mono hle
     replace hs14 := hs14.mono hle
     try dsimp only at hR
     obtain rfl := hR
     refine MV rfl rfl (ST (Ex.extract rfl rfl) rfl (ST (Ex.extract rfl rfl) rfl (ST (Ex.extract rfl rfl) rfl (AS rfl rfl (AS rfl rfl (AS rfl rfl (NL (TN (SQ (SQ (RG (MV rfl rfl (ST (Ex.not rfl) rfl (NL (TN ?_)))))))))))))))
     refine WC.condB rfl (fun hk28 => ?_) (fun hk28 => ?_)
     ·
      replace hk28 : b26 = false := by simpa using hk28
      subst hk28
      rw [if_neg Bool.false_ne_true] at e6
      refine SQ (SQ (RG (MV rfl rfl (ST (Ex.lss rfl rfl) rfl (NL (TN ?_))))))
      obtain ⟨o29, e30, e6⟩ := bnd e6
      refine WC.cutX (fun e w => ∃ (v31 : Value) (l34 : List UInt8) (v35 : Value) (M : Mem), e = [(0, S p0), (3, ptr b3 0), (4, ptr b4 0), (5, I n18), (6, I n19)] ∧ St w0 M0 M [.blk b3 (.cells #[I 0, I 0] 24), .blk b4 (.cells #[v31, v35] 70), RowI 5 encB v35 l34] w ∧ GlF (fun w => ∃ m, w.cell? ⟨2, 0, none⟩ = some (.int .i64 m)) M ∧ BPM M b4 v31 ∧ some l34 = some o29) [] ?_ ?_ (trivial)
      ·
       refine WC.condB rfl (fun hk36 => ?_) (fun hk36 => ?_)
       ·
        replace hk36 : n18 < (0 : Int) := of_decide_eq_true hk36
        rw [if_pos hk36] at e30
        obtain ⟨c37, hxc37, e30⟩ := bnd e30
        obtain ⟨⟨b38, l39⟩, hx40, e30⟩ := bnd e30
        try dsimp only at e30
        refine RG (MV rfl rfl (MV rfl rfl (ST (Ex.idxStrC Tryz.underlying9 rfl rfl hxc37) rfl ?_)))
        refine WR.callX (A := [.blk b4 (.cells #[v13, v17] 70), RowI 5 encB v17 l16]) (B := [.blk b3 (.cells #[I 0, I 0] 24)]) (H.pick (L' := [.blk b4 (.cells #[v13, v17] 70), RowI 5 encB v17 l16, .blk b3 (.cells #[I 0, I 0] 24)]) (by repeat (first | exact Pick.nil | refine Pick.cons (by repeat first | exact .head | apply Rem.tail) ?_))) (strings_Builder_WriteByte_ct hx40) (.left (.left (Spl.all _))) rfl (hs14) (Wn.none rfl) rfl ?_
        intro v33 M w its H hle hR
        replace hg_maxl := hg_maxl.mono hle
        replace hs14 := hs14.mono hle
        try dsimp only at hR
        obtain ⟨x33_0, q33_0, u33_0, rfl, f33_0, hq33_0, rfl⟩ := hR
        simp only [List.cons_append, List.nil_append] at H
        refine NL ?_
        exact WQ.meetN [(0, _), (3, _), (4, _), (5, _), (6, _)] ⟨rfl, rfl, rfl, rfl, rfl, trivial⟩ ⟨_, _, _, _, rfl, (H.pick (L' := [.blk b3 (.cells #[I 0, I 0] 24), .blk b4 (.cells #[q33_0, u33_0] 70), RowI 5 encB u33_0 l39]) (by repeat (first | exact Pick.nil | refine Pick.cons (by repeat first | exact .head | apply Rem.tail) ?_))), hg_maxl, hq33_0, e30⟩
       ·
        replace hk36 : ¬ (n18 < (0 : Int)) := of_decide_eq_false hk36
        rw [if_neg hk36] at e30
        refine SK ?_
        exact WQ.meetN [(0, _), (3, _), (4, _), (5, _), (6, _)] ⟨rfl, rfl, rfl, rfl, rfl, trivial⟩ ⟨_, _, _, _, rfl, H, hg_maxl, hs14, e30⟩
      ·
       rintro e w ⟨v31, l34, v35, M, rfl, H, hg_maxl, hs32, q41⟩
       obtain rfl := Option.some.inj q41
       refine TN (SQ (SQ ?_))
       obtain ⟨o42, e43, e6⟩ := bnd e6
       refine WC.cutX (fun e w => ∃ (b44 : Bool) (M : Mem), e = [(0, S p0), (3, ptr b3 0), (4, ptr b4 0), (5, I n18), (6, I n19), (42, Value.bool b44)] ∧ St w0 M0 M [.blk b3 (.cells #[I 0, I 0] 24), .blk b4 (.cells #[v31, v35] 70), RowI 5 encB v35 l34] w ∧ GlF (fun w => ∃ m, w.cell? ⟨2, 0, none⟩ = some (.int .i64 m)) M ∧ BPM M b4 v31 ∧ some b44 = some o42) [] ?_ ?_ (trivial)
       ·
        by_cases hk45 : (0 : Int) ≤ n18
        ·
         rw [if_pos hk45] at e43
         obtain ⟨c46, hxc46, e43⟩ := bnd e43
         obtain ⟨b47, hx48, e43⟩ := bnd e43
         refine RG (MV rfl rfl (WR.stepE (v' := .bool true) (Ex.geq rfl rfl) (congrArg Value.bool (decide_eq_true hk45)) (Wn.none rfl) rfl rfl (MV rfl rfl (SG (Ex.move rfl) rfl rfl rfl (SG (Ex.move rfl) rfl rfl rfl (SG (Ex.idxStrC Tryz.underlying9 rfl rfl hxc46) rfl rfl rfl (WR.call H (basic_Blank_ct hx48) rfl trivial (Wn.some rfl rfl rfl) rfl ?_)))))))
         intro v40 M w H hle hR
         replace hg_maxl := hg_maxl.mono hle
         replace hs32 := hs32.mono hle
         obtain rfl := hR
         refine SG (Ex.not rfl) rfl rfl rfl (PT rfl rfl rfl (NL ?_))
         exact WQ.meetN [(0, _), (3, _), (4, _), (5, _), (6, _), (42, _)] ⟨rfl, rfl, rfl, rfl, rfl, rfl, trivial⟩ ⟨_, _, rfl, H, hg_maxl, hs32, e43⟩
        ·
         rw [if_neg hk45] at e43
         refine RG (MV rfl rfl (WR.stepE (v' := .bool false) (Ex.geq rfl rfl) (congrArg Value.bool (decide_eq_false hk45)) (Wn.none rfl) rfl rfl (MV rfl rfl (WR.skipN 5 rfl rfl (PF rfl rfl rfl (NL ?_))))))
         exact WQ.meetN [(0, _), (3, _), (4, _), (5, _), (6, _), (42, _)] ⟨rfl, rfl, rfl, rfl, rfl, rfl, trivial⟩ ⟨_, _, rfl, H, hg_maxl, hs32, e43⟩
       ·
        rintro e w ⟨b44, M, rfl, H, hg_maxl, hs32, q49⟩
        obtain rfl := Option.some.inj q49
        refine TN ?_
        obtain ⟨o50, e51, e6⟩ := bnd e6
        refine WC.cutX (fun e w => ∃ (v52 : Value) (l55 : List UInt8) (v56 : Value) (n57 : Int) (M : Mem), e = [(0, S p0), (3, ptr b3 0), (4, ptr b4 0), (5, I n57), (6, I n19)] ∧ St w0 M0 M [.blk b3 (.cells #[I 0, I 0] 24), .blk b4 (.cells #[v52, v56] 70), RowI 5 encB v56 l55] w ∧ GlF (fun w => ∃ m, w.cell? ⟨2, 0, none⟩ = some (.int .i64 m)) M ∧ BPM M b4 v52 ∧ some (l55, n57) = some o50) [] ?_ ?_ (trivial)
        ·
         refine WC.condB rfl (fun hk58 => ?_) (fun hk58 => ?_)
         ·
          subst hk58
          rw [if_pos rfl] at e51
          refine SQ ?_
          obtain ⟨n59, hxn59, e51⟩ := bnd e51
          obtain ⟨s60, hxs60, e51⟩ := bnd e51
          obtain ⟨⟨n61, b62, l63⟩, hx64, e51⟩ := bnd e51
          try dsimp only at e51
          refine RG (MV rfl rfl (MV rfl rfl (MV rfl rfl (ST (Ex.addC rfl rfl hxn59) rfl (ST (Ex.sliceC Tryz.underlying9 rfl rfl rfl hxs60) rfl ?_)))))
          refine WR.callX (A := [.blk b4 (.cells #[v31, v35] 70), RowI 5 encB v35 l34]) (B := [.blk b3 (.cells #[I 0, I 0] 24)]) (H.pick (L' := [.blk b4 (.cells #[v31, v35] 70), RowI 5 encB v35 l34, .blk b3 (.cells #[I 0, I 0] 24)]) (by repeat (first | exact Pick.nil | refine Pick.cons (by repeat first | exact .head | apply Rem.tail) ?_))) (strings_Builder_WriteString_ct hx64) (.left (.left (Spl.all _))) rfl (hs32) (Wn.none rfl) rfl ?_
          intro v48 M w its H hle hR
          replace hg_maxl := hg_maxl.mono hle
          replace hs32 := hs32.mono hle
          try dsimp only at hR
          obtain ⟨x48_1, q48_0, u48_0, rfl, f48_1, hq48_0, rfl⟩ := hR
          simp only [List.cons_append, List.nil_append] at H
          refine NL (TN (RG (AS rfl rfl (NL ?_))))
          exact WQ.meetN [(0, _), (3, _), (4, _), (5, _), (6, _)] ⟨rfl, rfl, rfl, rfl, rfl, trivial⟩ ⟨_, _, _, _, _, rfl, (H.pick (L' := [.blk b3 (.cells #[I 0, I 0] 24), .blk b4 (.cells #[q48_0, u48_0] 70), RowI 5 encB u48_0 l63]) (by repeat (first | exact Pick.nil | refine Pick.cons (by repeat first | exact .head | apply Rem.tail) ?_))), hg_maxl, hq48_0, e51⟩
         ·
          subst hk58
          rw [if_neg Bool.false_ne_true] at e51
          refine SK ?_
          exact WQ.meetN [(0, _), (3, _), (4, _), (5, _), (6, _)] ⟨rfl, rfl, rfl, rfl, rfl, trivial⟩ ⟨_, _, _, _, _, rfl, H, hg_maxl, hs32, e51⟩
        ·
         rintro e w ⟨v52, l55, v56, n57, M, rfl, H, hg_maxl, hs53, q65⟩
         obtain rfl := Option.some.inj q65
         try dsimp only at e6
         refine TN (SQ ?_)
         obtain ⟨n66, hxn66, e6⟩ := bnd e6
         refine RG (MV rfl rfl (ST (Ex.addC rfl rfl hxn66) rfl (AS rfl rfl (NL (TN (WC.exit (WQ.thenExit (WQ.exitHere ?_))))))))
         exact WQ.againP m20 [(0, _), (3, _), (4, _), (5, _), (6, _)] ⟨rfl, rfl, rfl, rfl, rfl, trivial⟩ ⟨_, _, _, _, _, _, rfl, H, hg_maxl, hs53, e6⟩ (Nat.lt_succ_self _)
     ·
      replace hk28 : b26 = true := by simpa using hk28
      subst hk28
      rw [if_pos rfl] at e6
      refine SK (TN (SQ ?_))
      obtain ⟨⟨n67, b68, l69⟩, hx70, e6⟩ := bnd e6
      try dsimp only at e6
      refine RG (MV rfl rfl ?_)
      refine WR.callX (A := [.blk b4 (.cells #[v13, v17] 70), RowI 5 encB v17 l16]) (B := [.blk b3 (.cells #[I 0, I 0] 24)]) (H.pick (L' := [.blk b4 (.cells #[v13, v17] 70), RowI 5 encB v17 l16, .blk b3 (.cells #[I 0, I 0] 24)]) (by repeat (first | exact Pick.nil | refine Pick.cons (by repeat first | exact .head | apply Rem.tail) ?_))) (strings_Builder_WriteString_ct hx70) (.left (.left (Spl.all _))) rfl (hs14) (Wn.none rfl) rfl ?_
      intro v52 M w its H hle hR
      replace hg_maxl := hg_maxl.mono hle
      replace hs14 := hs14.mono hle
      try dsimp only at hR
      obtain ⟨x52_1, q52_0, u52_0, rfl, f52_1, hq52_0, rfl⟩ := hR
      simp only [List.cons_append, List.nil_append] at H
      refine NL (TN (SQ ?_))
      obtain ⟨n71, hxn71, e6⟩ := bnd e6
      refine RG (MV rfl rfl (MV rfl rfl (ST (Ex.addC rfl rfl hxn71) rfl (AS rfl rfl (NL (TN (RG (MV rfl rfl (AS rfl rfl (NL (IB ?_)))))))))))
      exact WQ.againP m20 [(0, _), (3, _), (4, _), (5, _), (6, _)] ⟨rfl, rfl, rfl, rfl, rfl, trivial⟩ ⟨_, _, _, _, _, _, rfl, (H.pick (L' := [.blk b3 (.cells #[I 0, I 0] 24), .blk b4 (.cells #[q52_0, u52_0] 70), RowI 5 encB u52_0 l69]) (by repeat (first | exact Pick.nil | refine Pick.cons (by repeat first | exact .head | apply Rem.tail) ?_))), hg_maxl, hq52_0, e6⟩ (Nat.lt_succ_self _)
    ·
     replace hk22 : ¬ (n19 < (p0.length : Int)) := of_decide_eq_false hk22
     rw [if_neg hk22] at e6
     refine WC.exit (WQ.thenExit (WQ.thenExit (WQ.exitHere ?_)))
     exact WQ.meetN [(0, _), (3, _), (4, _), (5, _)] ⟨rfl, rfl, rfl, rfl, trivial⟩ ⟨_, _, _, _, _, rfl, H, hg_maxl, hs14, e6⟩
   ·
    rintro e w ⟨v7, l10, v11, n12, M, rfl, H, hg_maxl, hs8, q72⟩
    obtain rfl := Option.some.inj q72
    try dsimp only at h
    refine TN (SQ (SQ (RG (MV rfl rfl (ST (Ex.geq rfl rfl) rfl (NL (TN ?_)))))))
    obtain ⟨o73, e74, h⟩ := bnd h
    refine WC.cutX (fun e w => ∃ (v75 : Value) (l78 : List UInt8) (v79 : Value) (M : Mem), e = [(3, ptr b3 0), (4, ptr b4 0)] ∧ St w0 M0 M [.blk b3 (.cells #[I 0, I 0] 24), .blk b4 (.cells #[v75, v79] 70), RowI 5 encB v79 l78] w ∧ GlF (fun w => ∃ m, w.cell? ⟨2, 0, none⟩ = some (.int .i64 m)) M ∧ BPM M b4 v75 ∧ some l78 = some o73) [] ?_ ?_ (trivial)
    ·
     refine WC.condB rfl (fun hk80 => ?_) (fun hk80 => ?_)
     ·
      replace hk80 : (0 : Int) ≤ n12 := of_decide_eq_true hk80
      rw [if_pos hk80] at e74
      obtain ⟨s81, hxs81, e74⟩ := bnd e74
      obtain ⟨⟨n82, b83, l84⟩, hx85, e74⟩ := bnd e74
      try dsimp only at e74
      refine RG (MV rfl rfl (MV rfl rfl (ST (Ex.sliceL Tryz.underlying9 rfl rfl hxs81) rfl ?_)))
      refine WR.callX (A := [.blk b4 (.cells #[v7, v11] 70), RowI 5 encB v11 l10]) (B := [.blk b3 (.cells #[I 0, I 0] 24)]) (H.pick (L' := [.blk b4 (.cells #[v7, v11] 70), RowI 5 encB v11 l10, .blk b3 (.cells #[I 0, I 0] 24)]) (by repeat (first | exact Pick.nil | refine Pick.cons (by repeat first | exact .head | apply Rem.tail) ?_))) (strings_Builder_WriteString_ct hx85) (.left (.left (Spl.all _))) rfl (hs8) (Wn.none rfl) rfl ?_
      intro v62 M w its H hle hR
      replace hg_maxl := hg_maxl.mono hle
      replace hs8 := hs8.mono hle
      try dsimp only at hR
      obtain ⟨x62_1, q62_0, u62_0, rfl, f62_1, hq62_0, rfl⟩ := hR
      simp only [List.cons_append, List.nil_append] at H
      refine NL ?_
      exact WQ.meetN [(3, _), (4, _)] ⟨rfl, rfl, trivial⟩ ⟨_, _, _, _, rfl, (H.pick (L' := [.blk b3 (.cells #[I 0, I 0] 24), .blk b4 (.cells #[q62_0, u62_0] 70), RowI 5 encB u62_0 l84]) (by repeat (first | exact Pick.nil | refine Pick.cons (by repeat first | exact .head | apply Rem.tail) ?_))), hg_maxl, hq62_0, e74⟩
     ·
      replace hk80 : ¬ ((0 : Int) ≤ n12) := of_decide_eq_false hk80
      rw [if_neg hk80] at e74
      refine SK ?_
      exact WQ.meetN [(3, _), (4, _)] ⟨rfl, rfl, trivial⟩ ⟨_, _, _, _, rfl, H, hg_maxl, hs8, e74⟩
    ·
     rintro e w ⟨v75, l78, v79, M, rfl, H, hg_maxl, hs76, q86⟩
     obtain rfl := Option.some.inj q86
     refine TN (SQ ?_)
     obtain ⟨s87, hx88, h⟩ := bnd h
     obtain ⟨⟨n89, n90⟩, hx91, h⟩ := bnd h
     try dsimp only at h
     refine RG ?_
     refine WR.callX (A := [.blk b4 (.cells #[v75, v79] 70), RowI 5 encB v79 l78]) (B := [.blk b3 (.cells #[I 0, I 0] 24)]) (H.pick (L' := [.blk b4 (.cells #[v75, v79] 70), RowI 5 encB v79 l78, .blk b3 (.cells #[I 0, I 0] 24)]) (by repeat (first | exact Pick.nil | refine Pick.cons (by repeat first | exact .head | apply Rem.tail) ?_))) (strings_Builder_String_ct hx88) (.left (.left (Spl.all _))) rfl (hs76) (Wn.none rfl) rfl ?_
     intro v63 M w its H hle hR
     replace hg_maxl := hg_maxl.mono hle
     replace hs76 := hs76.mono hle
     obtain ⟨rfl, rfl⟩ := hR
     simp only [List.cons_append, List.nil_append] at H
     refine WR.call H (basic_None_ct hx91) rfl trivial (Wn.none rfl) rfl ?_
     intro v64 M w H hle hR
     replace hg_maxl := hg_maxl.mono hle
     replace hs76 := hs76.mono hle
     try dsimp only at hR
     obtain rfl := hR
     refine AS rfl rfl (WR.store [_, _] H rfl rfl rfl (by repeat first | exact .head | apply Upd.tail) Tryz.sizeOf24 rfl (by rfl) (by rfl) (Wn.none rfl) ?_)
     intro w H
     refine NL (TN (RT ?_))
     obtain rfl := Option.some.inj h
     exact WQ.ret2 rfl rfl ⟨_, rfl, H.loadAgg (by repeat (first | exact List.Mem.head _ | apply List.Mem.tail)) Tryz.isAgg24 Tryz.sizeOf24 (by rfl)⟩ H.ext rfl
theorem L_wordsExample_ct  {r : Bool} (h : L_wordsExample = some r) : Ct Tryz.prog 12 [] (fun M => GlF (fun w => ∃ m, w.cell? ⟨2, 0, none⟩ = some (.int .i64 m)) M ∧ Tabs M) (fun v M => v = Value.bool r) := by
  refine Ct.of Tryz.func12 (enters Tryz.func12 (by kernel_rfl) rfl) rfl rfl rfl ?_
  intro w0 M0 H hp
  obtain ⟨hg_maxl, hg_tabs⟩ := hp
  unfold L_wordsExample at h
  refine SQ (RG (AS rfl rfl (NL (TN (SQ ?_)))))
  obtain ⟨⟨s1, ⟨n2, n3⟩⟩, hx4, h⟩ := bnd h
  try dsimp only at h
  refine RG (WR.call H (words_Encode_ct hx4) rfl ⟨hg_maxl, hg_tabs⟩ (Wn.none rfl) rfl ?_)
  intro v6 M w H hle hR
  replace hg_maxl := hg_maxl.mono hle
  replace hg_tabs := hg_tabs.mono hle
  try dsimp only at hR
  obtain rfl := hR
  refine MV rfl rfl (ST (Ex.extract rfl rfl) rfl (ST (Ex.extract rfl rfl) rfl (WR.alloc [_, _] H Tryz.zeroValue24 rfl (Wn.none rfl) rfl ?_)))
  intro b2 w H
  refine AS rfl rfl (WR.store [_, _] H rfl rfl rfl (by repeat first | exact .head | apply Upd.tail) Tryz.sizeOf24 rfl (by rfl) (by rfl) (Wn.none rfl) ?_)
  intro w H
  refine NL (TN (SQ ?_))
  obtain ⟨⟨s5, ⟨n6, n7⟩⟩, hx8, h⟩ := bnd h
  try dsimp only at h
  refine RG (WR.call H (words_Decode_ct hx8) rfl (hg_maxl) (Wn.none rfl) rfl ?_)
  intro v10 M w H hle hR
  replace hg_maxl := hg_maxl.mono hle
  replace hg_tabs := hg_tabs.mono hle
  try dsimp only at hR
  obtain rfl := hR
  refine MV rfl rfl (ST (Ex.extract rfl rfl) rfl (ST (Ex.extract rfl rfl) rfl (WR.alloc [_, _] H Tryz.zeroValue24 rfl (Wn.none rfl) rfl ?_)))
  intro b4 w H
  refine AS rfl rfl (WR.store [_, _] H rfl rfl rfl (by repeat first | exact .head | apply Upd.tail) Tryz.sizeOf24 rfl (by rfl) (by rfl) (Wn.none rfl) ?_)
  intro w H
  refine NL (TN (SQ ?_))
  obtain ⟨o9, e10, h⟩ := bnd h
  refine WC.cutX (fun e w => ∃ (b11 : Bool) (M : Mem), e = [(0, Value.bool b11)] ∧ St w0 M0 M [] w ∧ GlF (fun w => ∃ m, w.cell? ⟨2, 0, none⟩ = some (.int .i64 m)) M ∧ Tabs M ∧ some b11 = some o9) [] ?_ ?_ (trivial)
  ·
   refine RG (ST (Ex.fieldAddr Tryz.underlying24 rfl Tryz.sizeOf3 (by decide) rfl) rfl (ST (Ex.load1 H rfl (by repeat (first | exact List.Mem.head _ | apply List.Mem.tail)) Tryz.isAgg3 (by rfl)) rfl ?_))
   by_cases hk12 : n2 = (0 : Int)
   ·
    rw [if_pos hk12] at e10
    by_cases hk13 : n6 = (0 : Int)
    ·
     rw [if_pos hk13] at e10
     by_cases hk14 : s1 = [61, 63, 108, 97, 116, 105, 110, 49, 63, 81, 63, 61, 69, 52, 95, 98, 63, 61]
     ·
      rw [if_pos hk14] at e10
      refine WR.stepE (v' := .bool true) (Ex.eql rfl rfl) (congrArg Value.bool (decide_eq_true hk12)) (Wn.none rfl) rfl rfl (MV rfl rfl (SG (Ex.fieldAddr Tryz.underlying24 rfl Tryz.sizeOf3 (by decide) rfl) rfl rfl rfl (SG (Ex.load1 H rfl (by repeat (first | exact List.Mem.head _ | apply List.Mem.tail)) Tryz.isAgg3 (by rfl)) rfl rfl rfl ?_)))
      refine WR.stepE (v' := .bool true) (Ex.eql rfl rfl) (congrArg Value.bool (decide_eq_true hk13)) (Wn.some rfl rfl rfl) rfl rfl (PT rfl rfl rfl (MV rfl rfl (SG (Ex.move rfl) rfl rfl rfl (WR.stepE (v' := .bool true) (Ex.strEql rfl rfl) (congrArg Value.bool (decide_eq_true hk14)) (Wn.some rfl rfl rfl) rfl rfl (PT rfl rfl rfl (MV rfl rfl (SG (Ex.move rfl) rfl rfl rfl (SG (Ex.strEql rfl rfl) rfl rfl rfl (PT rfl rfl rfl (AS rfl rfl (NL ?_)))))))))))
      exact WQ.meetN [(0, _)] ⟨rfl, trivial⟩ ⟨_, _, rfl, (H.pick (L' := []) (by repeat (first | exact Pick.nil | refine Pick.cons (by repeat first | exact .head | apply Rem.tail) ?_))), hg_maxl, hg_tabs, e10⟩
     ·
      rw [if_neg hk14] at e10
      refine WR.stepE (v' := .bool true) (Ex.eql rfl rfl) (congrArg Value.bool (decide_eq_true hk12)) (Wn.none rfl) rfl rfl (MV rfl rfl (SG (Ex.fieldAddr Tryz.underlying24 rfl Tryz.sizeOf3 (by decide) rfl) rfl rfl rfl (SG (Ex.load1 H rfl (by repeat (first | exact List.Mem.head _ | apply List.Mem.tail)) Tryz.isAgg3 (by rfl)) rfl rfl rfl ?_)))
      refine WR.stepE (v' := .bool true) (Ex.eql rfl rfl) (congrArg Value.bool (decide_eq_true hk13)) (Wn.some rfl rfl rfl) rfl rfl (PT rfl rfl rfl (MV rfl rfl (SG (Ex.move rfl) rfl rfl rfl (WR.stepE (v' := .bool false) (Ex.strEql rfl rfl) (congrArg Value.bool (decide_eq_false hk14)) (Wn.some rfl rfl rfl) rfl rfl (PT rfl rfl rfl (MV rfl rfl (GF rfl rfl rfl (GF rfl rfl rfl (PF rfl rfl rfl (AS rfl rfl (NL ?_)))))))))))
      exact WQ.meetN [(0, _)] ⟨rfl, trivial⟩ ⟨_, _, rfl, (H.pick (L' := []) (by repeat (first | exact Pick.nil | refine Pick.cons (by repeat first | exact .head | apply Rem.tail) ?_))), hg_maxl, hg_tabs, e10⟩
    ·
     rw [if_neg hk13] at e10
     refine WR.stepE (v' := .bool true) (Ex.eql rfl rfl) (congrArg Value.bool (decide_eq_true hk12)) (Wn.none rfl) rfl rfl (MV rfl rfl (SG (Ex.fieldAddr Tryz.underlying24 rfl Tryz.sizeOf3 (by decide) rfl) rfl rfl rfl (SG (Ex.load1 H rfl (by repeat (first | exact List.Mem.head _ | apply List.Mem.tail)) Tryz.isAgg3 (by rfl)) rfl rfl rfl ?_)))
     refine WR.stepE (v' := .bool false) (Ex.eql rfl rfl) (congrArg Value.bool (decide_eq_false hk13)) (Wn.some rfl rfl rfl) rfl rfl (PT rfl rfl rfl (MV rfl rfl (GF rfl rfl rfl (GF rfl rfl rfl (PF rfl rfl rfl (MV rfl rfl (GF rfl rfl rfl (GF rfl rfl rfl (PF rfl rfl rfl (AS rfl rfl (NL ?_)))))))))))
     exact WQ.meetN [(0, _)] ⟨rfl, trivial⟩ ⟨_, _, rfl, (H.pick (L' := []) (by repeat (first | exact Pick.nil | refine Pick.cons (by repeat first | exact .head | apply Rem.tail) ?_))), hg_maxl, hg_tabs, e10⟩
   ·
    rw [if_neg hk12] at e10
    refine WR.stepE (v' := .bool false) (Ex.eql rfl rfl) (congrArg Value.bool (decide_eq_false hk12)) (Wn.none rfl) rfl rfl (MV rfl rfl (WR.skipN 3 rfl rfl (PF rfl rfl rfl (MV rfl rfl (GF rfl rfl rfl (GF rfl rfl rfl (PF rfl rfl rfl (MV rfl rfl (GF rfl rfl rfl (GF rfl rfl rfl (PF rfl rfl rfl (AS rfl rfl (NL ?_)))))))))))))
    exact WQ.meetN [(0, _)] ⟨rfl, trivial⟩ ⟨_, _, rfl, (H.pick (L' := []) (by repeat (first | exact Pick.nil | refine Pick.cons (by repeat first | exact .head | apply Rem.tail) ?_))), hg_maxl, hg_tabs, e10⟩
  ·
   rintro e w ⟨b11, M, rfl, H, hg_maxl, hg_tabs, q15⟩
   obtain rfl := Option.some.inj q15
   refine TN (RT ?_)
   obtain rfl := Option.some.inj h
   exact WQ.ret1 rfl rfl H.ext rfl
theorem basic_All_ct {p0 : List UInt8} {p1 : (UInt8 → Option Bool)} {vp1 : Value} {r : Bool} (h : basic_All p0 p1 = some r) : Ct Tryz.prog 118 [S p0, vp1] (fun M => FnT76 M vp1 p1) (fun v M => v = Value.bool r) := by
  refine Ct.of Tryz.func118 (enters Tryz.func118 (by kernel_rfl) rfl) rfl rfl rfl ?_
  intro w0 M0 H hp
  have hp1 := hp
  unfold basic_All at h
  refine SQ (RG (AS rfl rfl (NL (TN (SQ (SQ (RG (MV rfl rfl (ST (Ex.lenStr Tryz.underlying9 rfl) rfl (MV rfl rfl (NL (TN ?_))))))))))))
  obtain ⟨o1, e2, h⟩ := bnd h
  refine WC.cutX (fun e w => ∃  (M : Mem), e = [] ∧ St w0 M0 M [] w ∧ some (.inl ()) = some o1) [] ?_ ?_ (trivial)
  ·
   refine BL (WC.loopP (fun m e w => ∃ (n3 : Int) (M : Mem), e = [(0, S p0), (1, vp1), (7, I (p0.length : Int)), (8, I n3)] ∧ St w0 M0 M [] w ∧ FnT76 M vp1 p1 ∧ basic_All_L1 p0 p1 m n3 = some o1) FU [(0, _), (1, _), (7, _), (8, _)] ⟨rfl, rfl, rfl, rfl, trivial⟩ ⟨_, _, rfl, H, hp1, e2⟩ ?_)
   rintro m4 e w ⟨n3, M, rfl, H, hp1, e2⟩
   rcases m4 with _ | m4
   · rw [basic_All_L1] at e2; cases e2
   rw [basic_All_L1] at e2
   refine SQ (RG (ST (Ex.lss rfl rfl) rfl (NL (TN (SQ ?_)))))
   refine WC.condB rfl (fun hk5 => ?_) (fun hk5 => ?_)
   ·
    replace hk5 : n3 < (p0.length : Int) := of_decide_eq_true hk5
    rw [if_pos hk5] at e2
    refine SK (TN (SQ (BL (SQ (RG (MV rfl rfl (AS rfl rfl (NL (TN (SQ ?_))))))))))
    obtain ⟨c6, hxc6, e2⟩ := bnd e2
    obtain ⟨b7, hx8, e2⟩ := bnd e2
    refine RG (MV rfl rfl (MV rfl rfl (MV rfl rfl (ST (Ex.idxStrC Tryz.underlying9 rfl rfl hxc6) rfl (WR.callF H (hp1 _ _ hx8) rfl rfl (Wn.none rfl) rfl ?_)))))
    intro v15 M w H hle hR
    replace hp1 := hp1.mono hle
    obtain rfl := hR
    refine ST (Ex.not rfl) rfl (NL (TN ?_))
    refine WC.condB rfl (fun hk9 => ?_) (fun hk9 => ?_)
    ·
     replace hk9 : b7 = false := by simpa using hk9
     subst hk9
     rw [if_neg Bool.false_ne_true] at e2
     refine SQ (RG (AS rfl rfl (NL (TN (RT ?_)))))
     obtain rfl := Option.some.inj e2
     try dsimp only at h
     obtain rfl := Option.some.inj h
     exact WQ.ret1 rfl rfl H.ext rfl
    ·
     replace hk9 : b7 = true := by simpa using hk9
     subst hk9
     rw [if_pos rfl] at e2
     refine SK (IB (TN ?_))
     obtain ⟨n10, hxn10, e2⟩ := bnd e2
     refine RG (ST (Ex.addC rfl rfl hxn10) rfl (MV rfl rfl (NL ?_)))
     exact WQ.againP m4 [(0, _), (1, _), (7, _), (8, _)] ⟨rfl, rfl, rfl, rfl, trivial⟩ ⟨_, _, rfl, H, hp1, e2⟩ (Nat.lt_succ_self _)
   ·
    replace hk5 : ¬ (n3 < (p0.length : Int)) := of_decide_eq_false hk5
    rw [if_neg hk5] at e2
    refine WC.exit (WQ.thenExit (WQ.thenExit (WQ.exitHere ?_)))
    exact WQ.meetN [] trivial ⟨_, rfl, H, e2⟩
  ·
   rintro e w ⟨M, rfl, H, q11⟩
   obtain rfl := Option.some.inj q11
   try dsimp only at h
   refine TN (SQ (RG (AS rfl rfl (NL (TN (RT ?_))))))
   obtain rfl := Option.some.inj h
   exact WQ.ret1 rfl rfl H.ext rfl
theorem fold_name_1_ct {p0 : UInt8} {r : Bool} (h : fold_name_1 p0 = some r) : Ct Tryz.prog 119 [encB p0] (fun M => True) (fun v M => v = Value.bool r) := by
  refine Ct.of Tryz.func119 (enters Tryz.func119 (by kernel_rfl) rfl) rfl rfl rfl ?_
  intro w0 M0 H hp
  unfold fold_name_1 at h
  refine SQ (RG (AS rfl rfl (NL (TN (SQ ?_)))))
  obtain ⟨o1, e2, h⟩ := bnd h
  refine WC.cutX (fun e w => ∃ (b3 : Bool) (M : Mem), e = [(2, Value.bool b3)] ∧ St w0 M0 M [] w ∧ some b3 = some o1) [] ?_ ?_ (trivial)
  ·
   by_cases hk4 : 33 ≤ p0.toNat
   ·
    rw [if_pos hk4] at e2
    refine RG (MV rfl rfl (WR.stepE (v' := .bool true) (Ex.geqB (i := p0.toNat) (j := 33) rfl rfl) (congrArg Value.bool (decide_eq_true hk4)) (Wn.none rfl) rfl rfl ?_))
    by_cases hk5 : p0.toNat ≤ 126
    ·
     rw [if_pos hk5] at e2
     refine MV rfl rfl (SG (Ex.move rfl) rfl rfl rfl (WR.stepE (v' := .bool true) (Ex.leqB (i := p0.toNat) (j := 126) rfl rfl) (congrArg Value.bool (decide_eq_true hk5)) (Wn.some rfl rfl rfl) rfl rfl (PT rfl rfl rfl (MV rfl rfl (SG (Ex.move rfl) rfl rfl rfl (SG (Ex.neqB (c := p0) (d := 58) rfl rfl) rfl rfl rfl (PT rfl rfl rfl (AS rfl rfl (NL ?_)))))))))
     exact WQ.meetN [(2, _)] ⟨rfl, trivial⟩ ⟨_, _, rfl, H, e2⟩
    ·
     rw [if_neg hk5] at e2
     refine MV rfl rfl (SG (Ex.move rfl) rfl rfl rfl (WR.stepE (v' := .bool false) (Ex.leqB (i := p0.toNat) (j := 126) rfl rfl) (congrArg Value.bool (decide_eq_false hk5)) (Wn.some rfl rfl rfl) rfl rfl (PT rfl rfl rfl (MV rfl rfl (GF rfl rfl rfl (GF rfl rfl rfl (PF rfl rfl rfl (AS rfl rfl (NL ?_)))))))))
     exact WQ.meetN [(2, _)] ⟨rfl, trivial⟩ ⟨_, _, rfl, H, e2⟩
   ·
    rw [if_neg hk4] at e2
    refine RG (MV rfl rfl (WR.stepE (v' := .bool false) (Ex.geqB (i := p0.toNat) (j := 33) rfl rfl) (congrArg Value.bool (decide_eq_false hk4)) (Wn.none rfl) rfl rfl (MV rfl rfl (GF rfl rfl rfl (GF rfl rfl rfl (PF rfl rfl rfl (MV rfl rfl (GF rfl rfl rfl (GF rfl rfl rfl (PF rfl rfl rfl (AS rfl rfl (NL ?_))))))))))))
    exact WQ.meetN [(2, _)] ⟨rfl, trivial⟩ ⟨_, _, rfl, H, e2⟩
  ·
   rintro e w ⟨b3, M, rfl, H, q6⟩
   obtain rfl := Option.some.inj q6
   refine TN (RT ?_)
   obtain rfl := Option.some.inj h
   exact WQ.ret1 rfl rfl H.ext rfl
theorem fold_name_ct {p0 : List UInt8} {r : Bool} (h : fold_name p0 = some r) : Ct Tryz.prog 73 [S p0] (fun M => True) (fun v M => v = Value.bool r) := by
  refine Ct.of Tryz.func73 (enters Tryz.func73 (by kernel_rfl) rfl) rfl rfl rfl ?_
  intro w0 M0 H hp
  unfold fold_name at h
  refine SQ (RG (AS rfl rfl (NL (TN (SQ ?_)))))
  obtain ⟨o1, e2, h⟩ := bnd h
  refine WC.cutX (fun e w => ∃ (b3 : Bool) (M : Mem), e = [(2, Value.bool b3)] ∧ St w0 M0 M [] w ∧ some b3 = some o1) [] ?_ ?_ (trivial)
  ·
   by_cases hk4 : p0 = []
   ·
    rw [if_pos hk4] at e2
    refine RG (MV rfl rfl (WR.stepE (v' := .bool false) (Ex.strNeqC rfl rfl) (congrArg Value.bool (by rw [decide_eq_true hk4]; rfl)) (Wn.none rfl) rfl rfl ?_))
    refine MV rfl rfl (WR.skipN 3 rfl rfl (PF rfl rfl rfl (MV rfl rfl (GF rfl rfl rfl (GF rfl rfl rfl (PF rfl rfl rfl (AS rfl rfl (NL ?_))))))))
    exact WQ.meetN [(2, _)] ⟨rfl, trivial⟩ ⟨_, _, rfl, H, e2⟩
   ·
    rw [if_neg hk4] at e2
    refine RG (MV rfl rfl (WR.stepE (v' := .bool true) (Ex.strNeqC rfl rfl) (congrArg Value.bool (by rw [decide_eq_false hk4]; rfl)) (Wn.none rfl) rfl rfl ?_))
    by_cases hk5 : (p0.length : Int) ≤ (60 : Int)
    ·
     rw [if_pos hk5] at e2
     obtain ⟨b6, hx7, e2⟩ := bnd e2
     refine MV rfl rfl (SG (Ex.move rfl) rfl rfl rfl (SG (Ex.lenStr Tryz.underlying9 rfl) rfl rfl rfl (WR.stepE (v' := .bool true) (Ex.leq rfl rfl) (congrArg Value.bool (decide_eq_true hk5)) (Wn.some rfl rfl rfl) rfl rfl (PT rfl rfl rfl (MV rfl rfl (SG (Ex.move rfl) rfl rfl rfl (WR.call H (basic_All_ct hx7) rfl ((fun _ _ h => FnV.of (fold_name_1_ct h) (fun _ _ => trivial))) (Wn.some rfl rfl rfl) rfl ?_)))))))
     intro v12 M w H hle hR
     obtain rfl := hR
     refine PT rfl rfl rfl (AS rfl rfl (NL ?_))
     exact WQ.meetN [(2, _)] ⟨rfl, trivial⟩ ⟨_, _, rfl, H, e2⟩
    ·
     rw [if_neg hk5] at e2
     refine MV rfl rfl (SG (Ex.move rfl) rfl rfl rfl (SG (Ex.lenStr Tryz.underlying9 rfl) rfl rfl rfl (WR.stepE (v' := .bool false) (Ex.leq rfl rfl) (congrArg Value.bool (decide_eq_false hk5)) (Wn.some rfl rfl rfl) rfl rfl (PT rfl rfl rfl (MV rfl rfl (GF rfl rfl rfl (GF rfl rfl rfl (PF rfl rfl rfl (AS rfl rfl (NL ?_))))))))))
     exact WQ.meetN [(2, _)] ⟨rfl, trivial⟩ ⟨_, _, rfl, H, e2⟩
  ·
   rintro e w ⟨b3, M, rfl, H, q8⟩
   obtain rfl := Option.some.inj q8
   refine TN (RT ?_)
   obtain rfl := Option.some.inj h
   exact WQ.ret1 rfl rfl H.ext rfl
theorem utf8_ValidRune_ct {p0 : Int} {r : Bool} (h : utf8_ValidRune p0 = some r) : Ct Tryz.prog 194 [Value.int .i32 p0] (fun M => True) (fun v M => v = Value.bool r) := by
  refine Ct.of Tryz.func194 (enters Tryz.func194 (by kernel_rfl) rfl) rfl rfl rfl ?_
  intro w0 M0 H hp
  unfold utf8_ValidRune at h
  refine SQ (RG (AS rfl rfl (NL (TN (SQ (BL (SQ ?_)))))))
  obtain ⟨o1, e2, h⟩ := bnd h
  refine WC.cutX (fun e w => ∃ (b3 : Bool) (M : Mem), e = [(0, Value.int .i32 p0), (3, Value.bool b3)] ∧ St w0 M0 M [] w ∧ some b3 = some o1) [] ?_ ?_ (trivial)
  ·
   by_cases hk4 : (0 : Int) ≤ p0
   ·
    rw [if_pos hk4] at e2
    refine RG (MV rfl rfl (WR.stepE (v' := .bool true) (Ex.leq rfl rfl) (congrArg Value.bool (decide_eq_true hk4)) (Wn.none rfl) rfl rfl (MV rfl rfl (SG (Ex.move rfl) rfl rfl rfl (SG (Ex.lss rfl rfl) rfl rfl rfl (PT rfl rfl rfl (AS rfl rfl (NL ?_))))))))
    exact WQ.meetN [(0, _), (3, _)] ⟨rfl, rfl, trivial⟩ ⟨_, _, rfl, H, e2⟩
   ·
    rw [if_neg hk4] at e2
    refine RG (MV rfl rfl (WR.stepE (v' := .bool false) (Ex.leq rfl rfl) (congrArg Value.bool (decide_eq_false hk4)) (Wn.none rfl) rfl rfl (MV rfl rfl (GF rfl rfl rfl (GF rfl rfl rfl (PF rfl rfl rfl (AS rfl rfl (NL ?_))))))))
    exact WQ.meetN [(0, _), (3, _)] ⟨rfl, rfl, trivial⟩ ⟨_, _, rfl, H, e2⟩
  ·
   rintro e w ⟨b3, M, rfl, H, q5⟩
   obtain rfl := Option.some.inj q5
   refine TN ?_
   refine WC.condB rfl (fun hk6 => ?_) (fun hk6 => ?_)
   ·
    subst hk6
    rw [if_pos rfl] at h
    refine SQ (RG (AS rfl rfl (NL (TN (RT ?_)))))
    obtain rfl := Option.some.inj h
    exact WQ.ret1 rfl rfl H.ext rfl
   ·
    subst hk6
    rw [if_neg Bool.false_ne_true] at h
    refine SQ ?_
    obtain ⟨o7, e8, h⟩ := bnd h
    refine WC.cutX (fun e w => ∃ (b9 : Bool) (M : Mem), e = [(10, Value.bool b9)] ∧ St w0 M0 M [] w ∧ some b9 = some o7) [] ?_ ?_ (trivial)
    ·
     by_cases hk10 : (57343 : Int) < p0
     ·
      rw [if_pos hk10] at e8
      refine RG (MV rfl rfl (WR.stepE (v' := .bool true) (Ex.lss rfl rfl) (congrArg Value.bool (decide_eq_true hk10)) (Wn.none rfl) rfl rfl (MV rfl rfl (SG (Ex.move rfl) rfl rfl rfl (SG (Ex.leq rfl rfl) rfl rfl rfl (PT rfl rfl rfl (AS rfl rfl (NL ?_))))))))
      exact WQ.meetN [(10, _)] ⟨rfl, trivial⟩ ⟨_, _, rfl, H, e8⟩
     ·
      rw [if_neg hk10] at e8
      refine RG (MV rfl rfl (WR.stepE (v' := .bool false) (Ex.lss rfl rfl) (congrArg Value.bool (decide_eq_false hk10)) (Wn.none rfl) rfl rfl (MV rfl rfl (GF rfl rfl rfl (GF rfl rfl rfl (PF rfl rfl rfl (AS rfl rfl (NL ?_))))))))
      exact WQ.meetN [(10, _)] ⟨rfl, trivial⟩ ⟨_, _, rfl, H, e8⟩
    ·
     rintro e w ⟨b9, M, rfl, H, q11⟩
     obtain rfl := Option.some.inj q11
     refine TN ?_
     refine WC.condB rfl (fun hk12 => ?_) (fun hk12 => ?_)
     ·
      subst hk12
      rw [if_pos rfl] at h
      refine SQ (RG (AS rfl rfl (NL (TN (RT ?_)))))
      obtain rfl := Option.some.inj h
      exact WQ.ret1 rfl rfl H.ext rfl
     ·
      subst hk12
      rw [if_neg Bool.false_ne_true] at h
      refine SK (IB (TN (SQ (RG (AS rfl rfl (NL (TN (RT ?_))))))))
      obtain rfl := Option.some.inj h
      exact WQ.ret1 rfl rfl H.ext rfl
theorem strings_IndexRune_ct {p0 : List UInt8} {p1 : Int} {r : Int} (h : strings_IndexRune p0 p1 = some r) : Ct Tryz.prog 171 [S p0, Value.int .i32 p1] (fun M => True) (fun v M => v = I r) := by
  refine Ct.of Tryz.func171 (enters Tryz.func171 (by kernel_rfl) rfl) rfl rfl rfl ?_
  intro w0 M0 H hp
  unfold strings_IndexRune at h
  refine SQ (RG (AS rfl rfl (NL (TN (BL (SQ ?_))))))
  obtain ⟨o1, e2, h⟩ := bnd h
  refine WC.cutX (fun e w => ∃ (b3 : Bool) (M : Mem), e = [(0, S p0), (1, Value.int .i32 p1), (160, Value.bool b3)] ∧ St w0 M0 M [] w ∧ some b3 = some o1) [] ?_ ?_ (trivial)
  ·
   by_cases hk4 : (0 : Int) ≤ p1
   ·
    rw [if_pos hk4] at e2
    refine RG (MV rfl rfl (WR.stepE (v' := .bool true) (Ex.leq rfl rfl) (congrArg Value.bool (decide_eq_true hk4)) (Wn.none rfl) rfl rfl (MV rfl rfl (SG (Ex.move rfl) rfl rfl rfl (SG (Ex.lss rfl rfl) rfl rfl rfl (PT rfl rfl rfl (AS rfl rfl (NL ?_))))))))
    exact WQ.meetN [(0, _), (1, _), (160, _)] ⟨rfl, rfl, rfl, trivial⟩ ⟨_, _, rfl, H, e2⟩
   ·
    rw [if_neg hk4] at e2
    refine RG (MV rfl rfl (WR.stepE (v' := .bool false) (Ex.leq rfl rfl) (congrArg Value.bool (decide_eq_false hk4)) (Wn.none rfl) rfl rfl (MV rfl rfl (GF rfl rfl rfl (GF rfl rfl rfl (PF rfl rfl rfl (AS rfl rfl (NL ?_))))))))
    exact WQ.meetN [(0, _), (1, _), (160, _)] ⟨rfl, rfl, rfl, trivial⟩ ⟨_, _, rfl, H, e2⟩
  ·
   rintro e w ⟨b3, M, rfl, H, q5⟩
   obtain rfl := Option.some.inj q5
   refine TN ?_
   refine WC.condB rfl (fun hk6 => ?_) (fun hk6 => ?_)
   ·
    subst hk6
    rw [if_pos rfl] at h
    refine SQ ?_
    obtain ⟨n7, hx8, h⟩ := bnd h
    refine RG (MV rfl rfl (MV rfl rfl (ST (Ex.convU8C Tryz.underlying21 Tryz.underlying5 rfl) rfl (WR.call H (strings_IndexByte_ct hx8) rfl trivial (Wn.none rfl) rfl ?_))))
    intro v170 M w H hle hR
    obtain rfl := hR
    refine AS rfl rfl (NL (TN (RT ?_)))
    obtain rfl := Option.some.inj h
    exact WQ.ret1 rfl rfl H.ext rfl
   ·
    subst hk6
    rw [if_neg Bool.false_ne_true] at h
    refine SQ (RG (MV rfl rfl (ST (Ex.eql rfl rfl) rfl (AS rfl rfl (NL (TN ?_))))))
    refine WC.condB rfl (fun hk9 => ?_) (fun hk9 => ?_)
    ·
     replace hk9 : p1 = (65533 : Int) := of_decide_eq_true hk9
     rw [if_pos hk9] at h
     refine SQ (SQ (RG (MV rfl rfl (WR.rangeStr H Tryz.underlying9 rfl (Wn.none rfl) rfl ?_))))
     intro b175 w H
     refine NL (TN ?_)
     obtain ⟨o10, e11, h⟩ := bnd h
     refine WC.cutX (fun e w => ∃  (M : Mem), e = [] ∧ St w0 M0 M [] w ∧ some (.inl ()) = some o10) [] ?_ ?_ (trivial)
     ·
      refine BL (WC.loopP (fun m e w => ∃ (ps12 : Nat) (M : Mem), e = [(175, ptr b175 0)] ∧ St w0 M0 M [.blk b175 (.stringIter ⟨((p0) : List UInt8).toArray⟩ ps12)] w ∧ strings_IndexRune_L1 p0 m ps12 = some o10) FU [(175, _)] ⟨rfl, trivial⟩ ⟨_, _, rfl, H, e11⟩ ?_)
      rintro m13 e w ⟨ps12, M, rfl, H, e11⟩
      rcases m13 with _ | m13
      · rw [strings_IndexRune_L1] at e11; cases e11
      rw [strings_IndexRune_L1] at e11
      refine SQ ?_
      by_cases hk14 : ps12 < p0.length
      ·
       rw [if_pos hk14] at e11
       refine RG (WR.nextT H hk14 rfl (by repeat first | exact .head | apply Upd.tail) (Wn.none rfl) rfl ?_)
       intro w H
       refine ST (Ex.extract rfl rfl) rfl (NL (TN (SQ (CT rfl (SK (TN (BL (SQ (RG (ST (Ex.extract rfl rfl) rfl (ST (Ex.extract rfl rfl) rfl (AS rfl rfl (AS rfl rfl (NL (TN (SQ (RG (MV rfl rfl (ST (Ex.eql rfl rfl) rfl (NL (TN ?_)))))))))))))))))))))
       refine WC.condB rfl (fun hk15 => ?_) (fun hk15 => ?_)
       ·
        replace hk15 : ((Utf.dr (p0.drop ps12)).1 : Int) = (65533 : Int) := of_decide_eq_true hk15
        rw [if_pos hk15] at e11
        refine SQ (RG (MV rfl rfl (AS rfl rfl (NL (TN (RT ?_))))))
        obtain rfl := Option.some.inj e11
        try dsimp only at h
        obtain rfl := Option.some.inj h
        exact WQ.ret1 rfl rfl H.ext rfl
       ·
        replace hk15 : ¬ (((Utf.dr (p0.drop ps12)).1 : Int) = (65533 : Int)) := of_decide_eq_false hk15
        rw [if_neg hk15] at e11
        refine SK (IB ?_)
        exact WQ.againP m13 [(175, _)] ⟨rfl, trivial⟩ ⟨_, _, rfl, H, e11⟩ (Nat.lt_succ_self _)
      ·
       rw [if_neg hk14] at e11
       refine RG (WR.nextF H (Nat.le_of_not_lt hk14) rfl (by repeat (first | exact List.Mem.head _ | apply List.Mem.tail)) (Wn.none rfl) rfl ?_)
       refine ST (Ex.extract rfl rfl) rfl (NL (TN (SQ (CF rfl (WC.exit (WQ.thenExit (WQ.thenExit (WQ.exitHere ?_))))))))
       exact WQ.meetN [] trivial ⟨_, rfl, (H.pick (L' := []) (by repeat (first | exact Pick.nil | refine Pick.cons (by repeat first | exact .head | apply Rem.tail) ?_))), e11⟩
     ·
      rintro e w ⟨M, rfl, H, q16⟩
      obtain rfl := Option.some.inj q16
      try dsimp only at h
      refine TN (SQ (RG (AS rfl rfl (NL (TN (RT ?_))))))
      obtain rfl := Option.some.inj h
      exact WQ.ret1 rfl rfl H.ext rfl
    ·
     replace hk9 : ¬ (p1 = (65533 : Int)) := of_decide_eq_false hk9
     rw [if_neg hk9] at h
     refine SQ ?_
     obtain ⟨b19, hx20, h⟩ := bnd h
     refine RG (MV rfl rfl (WR.call H (utf8_ValidRune_ct hx20) rfl trivial (Wn.none rfl) rfl ?_))
     intro v185 M w H hle hR
     obtain rfl := hR
     refine ST (Ex.not rfl) rfl (AS rfl rfl (NL (TN ?_)))
     refine WC.condB rfl (fun hk21 => ?_) (fun hk21 => ?_)
     ·
      replace hk21 : b19 = false := by simpa using hk21
      subst hk21
      rw [if_neg Bool.false_ne_true] at h
      refine SQ (RG (AS rfl rfl (NL (TN (RT ?_)))))
      obtain rfl := Option.some.inj h
      exact WQ.ret1 rfl rfl H.ext rfl
     ·
      replace hk21 : b19 = true := by simpa using hk21
      subst hk21
      rw [if_pos rfl] at h
      refine WC.scope (SQ (RG (MV rfl rfl (ST (Ex.runeStr Tryz.underlying21 Tryz.underlying9 rfl) rfl (AS rfl rfl (NL (TN (SQ ?_))))))))
      obtain ⟨n22, hxn22, h⟩ := bnd h
      refine RG (MV rfl rfl (ST (Ex.lenStr Tryz.underlying9 rfl) rfl (ST (Ex.subC rfl rfl hxn22) rfl (AS rfl rfl (NL (TN (SQ (RG (MV rfl rfl (AS rfl rfl (NL (TN (SQ (RG (AS rfl rfl (NL (TN (SQ ?_))))))))))))))))))
      obtain ⟨o23, e24, h⟩ := bnd h
      refine WC.cutX (fun e w => ∃  (M : Mem), e = [] ∧ St w0 M0 M [] w ∧ some (.inl ()) = some o23) [] ?_ ?_ (trivial)
      ·
       refine BL (WC.loopP (fun m e w => ∃ (n25 : Int) (M : Mem), e = [(0, S p0), (7, S (Chs.utf8 p1)), (8, I n22), (9, I n25)] ∧ St w0 M0 M [] w ∧ strings_IndexRune_L2 p0 p1 n22 m n25 = some o23) FU [(0, _), (7, _), (8, _), (9, _)] ⟨rfl, rfl, rfl, rfl, trivial⟩ ⟨_, _, rfl, H, e24⟩ ?_)
       rintro m26 e w ⟨n25, M, rfl, H, e24⟩
       rcases m26 with _ | m26
       · rw [strings_IndexRune_L2] at e24; cases e24
       rw [strings_IndexRune_L2] at e24
       refine SQ (SQ (RG (MV rfl rfl (MV rfl rfl (ST (Ex.lenStr Tryz.underlying9 rfl) rfl (ST (Ex.lss rfl rfl) rfl (NL (TN ?_))))))))
       refine WC.condB rfl (fun hk27 => ?_) (fun hk27 => ?_)
       ·
        replace hk27 : n25 < (p0.length : Int) := of_decide_eq_true hk27
        rw [if_pos hk27] at e24
        refine SK (TN (BL (WC.scope (SQ (SQ ?_)))))
        obtain ⟨c28, hxc28, e24⟩ := bnd e24
        obtain ⟨c29, hxc29, e24⟩ := bnd e24
        refine WC.draw (m := 7) rfl rfl H ?_
        intro w H
        refine WA.take (i := 0) rfl (by kernel_rfl) (by kernel_rfl) (by kernel_rfl) (fun _ => Ex.move rfl) (Wn.none rfl) rfl rfl (fun _ _ => rfl) (WA.take (i := 1) rfl (by kernel_rfl) (by kernel_rfl) (by kernel_rfl) (fun _ => Ex.move rfl) (Wn.none rfl) rfl rfl (fun _ _ => rfl) (WA.take (i := 2) rfl (by kernel_rfl) (by kernel_rfl) (by kernel_rfl) (fun _ => Ex.idxStrC Tryz.underlying9 rfl rfl hxc28) (Wn.none rfl) rfl rfl (fun _ _ => rfl) (WA.take (i := 3) rfl (by kernel_rfl) (by kernel_rfl) (by kernel_rfl) (fun _ => Ex.move rfl) (Wn.none rfl) rfl rfl (fun _ _ => rfl) (WA.seq (fuel := 0) [4, 5, 6] rfl (by kernel_rfl) (MV rfl rfl (ST (Ex.idxStrC Tryz.underlying9 rfl rfl hxc29) rfl (ST (Ex.neqB (c := c28) (d := c29) rfl rfl) rfl (NA (WA.done (by kernel_rfl) (TN ?_))))))))))
        obtain ⟨o30, e31, e24⟩ := bnd e24
        refine WC.cutX (fun e w => ∃ (n32 : Int) (M : Mem), e = [(0, S p0), (7, S (Chs.utf8 p1)), (8, I n22), (9, I n32)] ∧ St w0 M0 M [] w ∧ some (.inl n32) = some o30) [] ?_ ?_ (trivial)
        ·
         refine WC.condB rfl (fun hk33 => ?_) (fun hk33 => ?_)
         ·
          replace hk33 : ¬ (c28 = c29) := of_not_decide hk33
          rw [if_neg hk33] at e31
          refine SQ ?_
          obtain ⟨n34, hxn34, e31⟩ := bnd e31
          obtain ⟨s35, hxs35, e31⟩ := bnd e31
          obtain ⟨c36, hxc36, e31⟩ := bnd e31
          obtain ⟨n37, hx38, e31⟩ := bnd e31
          refine WC.draw (m := 9) rfl rfl H ?_
          intro w H
          refine WA.take (i := 0) rfl (by kernel_rfl) (by kernel_rfl) (by kernel_rfl) (fun _ => Ex.move rfl) (Wn.none rfl) rfl rfl (fun _ _ => rfl) (WA.take (i := 1) rfl (by kernel_rfl) (by kernel_rfl) (by kernel_rfl) (fun _ => Ex.move rfl) (Wn.none rfl) rfl rfl (fun _ _ => rfl) (WA.take (i := 2) rfl (by kernel_rfl) (by kernel_rfl) (by kernel_rfl) (fun _ => Ex.addC rfl rfl hxn34) (Wn.none rfl) rfl rfl (fun _ _ => rfl) (WA.take (i := 3) rfl (by kernel_rfl) (by kernel_rfl) (by kernel_rfl) (fun _ => Ex.sliceL Tryz.underlying9 rfl rfl hxs35) (Wn.none rfl) rfl rfl (fun _ _ => rfl) (WA.take (i := 4) rfl (by kernel_rfl) (by kernel_rfl) (by kernel_rfl) (fun _ => Ex.move rfl) (Wn.none rfl) rfl rfl (fun _ _ => rfl) (WA.seq (fuel := 0) [5, 6, 7, 8] rfl (by kernel_rfl) (MV rfl rfl (ST (Ex.idxStrC Tryz.underlying9 rfl rfl hxc36) rfl (WR.call H (strings_IndexByte_ct hx38) rfl trivial (Wn.none rfl) rfl ?_))))))))
          intro v41 M w H hle hR
          obtain rfl := hR
          refine AS rfl rfl (NA (WA.done (by kernel_rfl) (TN (SQ (SQ (RG (MV rfl rfl (ST (Ex.lss rfl rfl) rfl (NL (TN ?_))))))))))
          refine WC.condB rfl (fun hk39 => ?_) (fun hk39 => ?_)
          ·
           replace hk39 : n37 < (0 : Int) := of_decide_eq_true hk39
           rw [if_pos hk39] at e31
           refine SQ (RG (AS rfl rfl (NL (TN (RT ?_)))))
           obtain rfl := Option.some.inj e31
           try dsimp only at e24
           obtain rfl := Option.some.inj e24
           try dsimp only at h
           obtain rfl := Option.some.inj h
           exact WQ.ret1 rfl rfl H.ext rfl
          ·
           replace hk39 : ¬ (n37 < (0 : Int)) := of_decide_eq_false hk39
           rw [if_neg hk39] at e31
           refine SK (TN ?_)
           obtain ⟨n40, hxn40, e31⟩ := bnd e31
           obtain ⟨n41, hxn41, e31⟩ := bnd e31
           refine RG (MV rfl rfl (MV rfl rfl (ST (Ex.addC rfl rfl hxn40) rfl (ST (Ex.addC rfl rfl hxn41) rfl (AS rfl rfl (NL ?_))))))
           exact WQ.meetN [(0, _), (7, _), (8, _), (9, _)] ⟨rfl, rfl, rfl, rfl, trivial⟩ ⟨_, _, rfl, H, e31⟩
         ·
          replace hk33 : c28 = c29 := of_not_decide' hk33
          rw [if_pos hk33] at e31
          refine SK ?_
          exact WQ.meetN [(0, _), (7, _), (8, _), (9, _)] ⟨rfl, rfl, rfl, rfl, trivial⟩ ⟨_, _, rfl, H, e31⟩
        ·
         rintro e w ⟨n32, M, rfl, H, q42⟩
         obtain rfl := Option.some.inj q42
         try dsimp only at e24
         refine TN (SQ (SQ (RG (AS rfl rfl (NL (TN ?_))))))
         obtain ⟨o43, e44, e24⟩ := bnd e24
         refine WC.cutX (fun e w => ∃  (M : Mem), e = [(8, I n22), (9, I n32)] ∧ St w0 M0 M [] w ∧ some () = some o43) [] ?_ ?_ (trivial)
         ·
          refine BL (WC.loopP (fun m e w => ∃ (n45 : Int) (M : Mem), e = [(0, S p0), (7, S (Chs.utf8 p1)), (8, I n22), (9, I n32), (12, I n45)] ∧ St w0 M0 M [] w ∧ strings_IndexRune_L3 p0 p1 n22 n32 m n45 = some o43) FU [(0, _), (7, _), (8, _), (9, _), (12, _)] ⟨rfl, rfl, rfl, rfl, rfl, trivial⟩ ⟨_, _, rfl, H, e44⟩ ?_)
          rintro m46 e w ⟨n45, M, rfl, H, e44⟩
          rcases m46 with _ | m46
          · rw [strings_IndexRune_L3] at e44; cases e44
          rw [strings_IndexRune_L3] at e44
          refine SQ (SQ (RG (MV rfl rfl (MV rfl rfl (ST (Ex.lenStr Tryz.underlying9 rfl) rfl (ST (Ex.lss rfl rfl) rfl (NL (TN ?_))))))))
          refine WC.condB rfl (fun hk47 => ?_) (fun hk47 => ?_)
          ·
           replace hk47 : n45 < ((Chs.utf8 p1).length : Int) := of_decide_eq_true hk47
           rw [if_pos hk47] at e44
           refine SK (TN (SQ (BL (SQ ?_))))
           obtain ⟨n48, hxn48, e44⟩ := bnd e44
           obtain ⟨c49, hxc49, e44⟩ := bnd e44
           obtain ⟨n50, hxn50, e44⟩ := bnd e44
           obtain ⟨c51, hxc51, e44⟩ := bnd e44
           refine WC.draw (m := 11) rfl rfl H ?_
           intro w H
           refine WA.take (i := 0) rfl (by kernel_rfl) (by kernel_rfl) (by kernel_rfl) (fun _ => Ex.move rfl) (Wn.none rfl) rfl rfl (fun _ _ => rfl) (WA.take (i := 1) rfl (by kernel_rfl) (by kernel_rfl) (by kernel_rfl) (fun _ => Ex.move rfl) (Wn.none rfl) rfl rfl (fun _ _ => rfl) (WA.take (i := 2) rfl (by kernel_rfl) (by kernel_rfl) (by kernel_rfl) (fun _ => Ex.move rfl) (Wn.none rfl) rfl rfl (fun _ _ => rfl) (WA.take (i := 3) rfl (by kernel_rfl) (by kernel_rfl) (by kernel_rfl) (fun _ => Ex.subC rfl rfl hxn48) (Wn.none rfl) rfl rfl (fun _ _ => rfl) (WA.take (i := 4) rfl (by kernel_rfl) (by kernel_rfl) (by kernel_rfl) (fun _ => Ex.idxStrC Tryz.underlying9 rfl rfl hxc49) (Wn.none rfl) rfl rfl (fun _ _ => rfl) (WA.take (i := 5) rfl (by kernel_rfl) (by kernel_rfl) (by kernel_rfl) (fun _ => Ex.move rfl) (Wn.none rfl) rfl rfl (fun _ _ => rfl) (WA.take (i := 6) rfl (by kernel_rfl) (by kernel_rfl) (by kernel_rfl) (fun _ => Ex.move rfl) (Wn.none rfl) rfl rfl (fun _ _ => rfl) ?_))))))
           refine WA.seq (fuel := 0) [7, 8, 9, 10] rfl (by kernel_rfl) (MV rfl rfl (ST (Ex.subC rfl rfl hxn50) rfl (ST (Ex.idxStrC Tryz.underlying9 rfl rfl hxc51) rfl (ST (Ex.neqB (c := c49) (d := c51) rfl rfl) rfl (NA (WA.done (by kernel_rfl) (TN ?_)))))))
           refine WC.condB rfl (fun hk52 => ?_) (fun hk52 => ?_)
           ·
            replace hk52 : ¬ (c49 = c51) := of_not_decide hk52
            rw [if_neg hk52] at e44
            cases e44
           ·
            replace hk52 : c49 = c51 := of_not_decide' hk52
            rw [if_pos hk52] at e44
            refine SK (IB (TN ?_))
            obtain ⟨n53, hxn53, e44⟩ := bnd e44
            refine RG (MV rfl rfl (ST (Ex.addC rfl rfl hxn53) rfl (AS rfl rfl (NL ?_))))
            exact WQ.againP m46 [(0, _), (7, _), (8, _), (9, _), (12, _)] ⟨rfl, rfl, rfl, rfl, rfl, trivial⟩ ⟨_, _, rfl, H, e44⟩ (Nat.lt_succ_self _)
          ·
           replace hk47 : ¬ (n45 < ((Chs.utf8 p1).length : Int)) := of_decide_eq_false hk47
           rw [if_neg hk47] at e44
           refine WC.exit (WQ.thenExit (WQ.thenExit (WQ.exitHere ?_)))
           exact WQ.meetN [(8, _), (9, _)] ⟨rfl, rfl, trivial⟩ ⟨_, rfl, H, e44⟩
         ·
          rintro e w ⟨M, rfl, H, q54⟩
          obtain rfl := Option.some.inj q54
          try dsimp only at e24
          refine TN (SQ (SQ ?_))
          obtain ⟨n55, hxn55, e24⟩ := bnd e24
          refine RG (MV rfl rfl (MV rfl rfl (ST (Ex.subC rfl rfl hxn55) rfl (AS rfl rfl (NL (TN (RT ?_)))))))
          obtain rfl := Option.some.inj e24
          try dsimp only at h
          obtain rfl := Option.some.inj h
          exact WQ.ret1 rfl rfl H.ext rfl
       ·
        replace hk27 : ¬ (n25 < (p0.length : Int)) := of_decide_eq_false hk27
        rw [if_neg hk27] at e24
        refine WC.exit (WQ.thenExit (WQ.thenExit (WQ.exitHere ?_)))
        exact WQ.meetN [] trivial ⟨_, rfl, H, e24⟩
      ·
       rintro e w ⟨M, rfl, H, q58⟩
       obtain rfl := Option.some.inj q58
       try dsimp only at h
       refine TN (SQ (SQ (RG (AS rfl rfl (NL (TN (RT ?_)))))))
       obtain rfl := Option.some.inj h
       exact WQ.ret1 rfl rfl H.ext rfl
theorem strings_shouldUseASCIISet_ct {p0 : Int} {r : Bool} (h : strings_shouldUseASCIISet p0 = some r) : Ct Tryz.prog 179 [I p0] (fun M => True) (fun v M => v = Value.bool r) := by
  refine Ct.of Tryz.func179 (enters Tryz.func179 (by kernel_rfl) rfl) rfl rfl rfl ?_
  intro w0 M0 H hp
  unfold strings_shouldUseASCIISet at h
  refine SQ (RG (AS rfl rfl (NL (TN (SQ (RG (MV rfl rfl (ST (Ex.gtr rfl rfl) rfl (AS rfl rfl (NL (TN (RT ?_))))))))))))
  obtain rfl := Option.some.inj h
  exact WQ.ret1 rfl rfl H.ext rfl
theorem strings_makeASCIISet_ct {p0 : List UInt8} {r : (List Bool × Bool)} (h : strings_makeASCIISet p0 = some r) : Ct Tryz.prog 108 [S p0] (fun M => True) (fun v M => v = Value.tuple #[Value.agg (List.map encBo r.1).toArray, Value.bool r.2]) := by
  refine Ct.of Tryz.func108 (enters Tryz.func108 (by kernel_rfl) rfl) rfl rfl rfl ?_
  intro w0 M0 H hp
  unfold strings_makeASCIISet at h
  refine SQ (RG (WR.alloc (List.map encBo (List.replicate 256 false : List Bool)) H Tryz.zeroValue142 (by kernel_rfl) (Wn.none rfl) rfl ?_))
  intro b2 w H
  refine AS rfl rfl (NL (TN (SQ (SQ (RG (AS rfl rfl (NL (TN ?_))))))))
  obtain ⟨o1, e2, h⟩ := bnd h
  refine WC.cutX (fun e w => ∃ (l3 : List Bool) (M : Mem), e = [(2, ptr b2 0)] ∧ St w0 M0 M [.blk b2 (.cells (List.map encBo l3).toArray 142)] w ∧ some (.inl l3) = some o1) [] ?_ ?_ (trivial)
  ·
   refine BL (WC.loopP (fun m e w => ∃ (l4 : List Bool) (n5 : Int) (M : Mem), e = [(0, S p0), (2, ptr b2 0), (4, I n5)] ∧ St w0 M0 M [.blk b2 (.cells (List.map encBo l4).toArray 142)] w ∧ strings_makeASCIISet_L1 p0 m l4 n5 = some o1) FU [(0, _), (2, _), (4, _)] ⟨rfl, rfl, rfl, trivial⟩ ⟨_, _, _, rfl, H, e2⟩ ?_)
   rintro m6 e w ⟨l4, n5, M, rfl, H, e2⟩
   rcases m6 with _ | m6
   · rw [strings_makeASCIISet_L1] at e2; cases e2
   rw [strings_makeASCIISet_L1] at e2
   refine SQ (SQ (RG (MV rfl rfl (MV rfl rfl (ST (Ex.lenStr Tryz.underlying9 rfl) rfl (ST (Ex.lss rfl rfl) rfl (NL (TN ?_))))))))
   refine WC.condB rfl (fun hk7 => ?_) (fun hk7 => ?_)
   ·
    replace hk7 : n5 < (p0.length : Int) := of_decide_eq_true hk7
    rw [if_pos hk7] at e2
    refine SK (TN (SQ (BL (SQ ?_))))
    obtain ⟨c8, hxc8, e2⟩ := bnd e2
    refine RG (MV rfl rfl (MV rfl rfl (ST (Ex.idxStrC Tryz.underlying9 rfl rfl hxc8) rfl (AS rfl rfl (NL (TN (SQ (SQ (RG (MV rfl rfl (ST (Ex.geqB (i := c8.toNat) (j := 128) rfl rfl) rfl (NL (TN ?_)))))))))))))
    refine WC.condB rfl (fun hk9 => ?_) (fun hk9 => ?_)
    ·
     replace hk9 : 128 ≤ c8.toNat := of_decide_eq_true hk9
     rw [if_pos hk9] at e2
     refine SQ ?_
     obtain ⟨l10, hxl10, e2⟩ := bnd e2
     obtain ⟨l11, hxl11, e2⟩ := bnd e2
     obtain ⟨l12, hxl12, e2⟩ := bnd e2
     refine RG (ST (Ex.loadAggA H rfl (by repeat (first | exact List.Mem.head _ | apply List.Mem.tail)) Tryz.isAgg142 Tryz.sizeOf142 hxl10) rfl ?_)
     refine WR.storeA (l2 := l10) H rfl rfl (fun _ => rfl) (fun _ => by repeat first | exact .head | apply Upd.tail) hxl11 hxl12 Tryz.sizeOf142 (Wn.none rfl) ?_
     intro w H
     refine AS rfl rfl (NL (TN (RT ?_)))
     obtain ⟨l13, hxl13, e2⟩ := bnd e2
     obtain rfl := Option.some.inj e2
     try dsimp only at h
     obtain rfl := Option.some.inj h
     exact WQ.ret2 rfl ⟨_, rfl, H.loadAggA (by repeat (first | exact List.Mem.head _ | apply List.Mem.tail)) Tryz.isAgg142 Tryz.sizeOf142 hxl13⟩ rfl H.ext rfl
    ·
     replace hk9 : ¬ (128 ≤ c8.toNat) := of_decide_eq_false hk9
     rw [if_neg hk9] at e2
     refine SK (TN ?_)
     obtain ⟨a14, hxa14, e2⟩ := bnd e2
     obtain ⟨l15, hxl15, e2⟩ := bnd e2
     refine RG (MV rfl rfl (ST (Ex.idxArrC (l := l4) Tryz.underlying142 Tryz.sizeOf4 rfl rfl hxa14) rfl (WR.storeArr (a := true) H rfl rfl ⟨rfl, rfl⟩ (fun _ => by repeat first | exact .head | apply Upd.tail) hxl15 Tryz.sizeOf4 (Wn.none rfl) ?_)))
     intro w H
     refine NL (IB (TN ?_))
     obtain ⟨n16, hxn16, e2⟩ := bnd e2
     refine RG (MV rfl rfl (ST (Ex.addC rfl rfl hxn16) rfl (AS rfl rfl (NL ?_))))
     exact WQ.againP m6 [(0, _), (2, _), (4, _)] ⟨rfl, rfl, rfl, trivial⟩ ⟨_, _, _, rfl, H, e2⟩ (Nat.lt_succ_self _)
   ·
    replace hk7 : ¬ (n5 < (p0.length : Int)) := of_decide_eq_false hk7
    rw [if_neg hk7] at e2
    refine WC.exit (WQ.thenExit (WQ.thenExit (WQ.exitHere ?_)))
    exact WQ.meetN [(2, _)] ⟨rfl, trivial⟩ ⟨_, _, rfl, H, e2⟩
  ·
   rintro e w ⟨l3, M, rfl, H, q17⟩
   obtain rfl := Option.some.inj q17
   try dsimp only at h
   refine TN (SQ ?_)
   obtain ⟨l18, hxl18, h⟩ := bnd h
   obtain ⟨l19, hxl19, h⟩ := bnd h
   obtain ⟨l20, hxl20, h⟩ := bnd h
   refine RG (ST (Ex.loadAggA H rfl (by repeat (first | exact List.Mem.head _ | apply List.Mem.tail)) Tryz.isAgg142 Tryz.sizeOf142 hxl18) rfl ?_)
   refine WR.storeA (l2 := l18) H rfl rfl (fun _ => rfl) (fun _ => by repeat first | exact .head | apply Upd.tail) hxl19 hxl20 Tryz.sizeOf142 (Wn.none rfl) ?_
   intro w H
   refine AS rfl rfl (NL (TN (RT ?_)))
   obtain ⟨l21, hxl21, h⟩ := bnd h
   obtain rfl := Option.some.inj h
   exact WQ.ret2 rfl ⟨_, rfl, H.loadAggA (by repeat (first | exact List.Mem.head _ | apply List.Mem.tail)) Tryz.isAgg142 Tryz.sizeOf142 hxl21⟩ rfl H.ext rfl
theorem strings_asciiSet_contains_ct {p0 : List Bool} {p1 : UInt8} {bp0 : Nat} {r : Bool} (h : strings_asciiSet_contains p0 p1 = some r) : Ct Tryz.prog 144 [ptr bp0 0, encB p1] (fun M => PtM M bp0 (.cells (List.map encBo p0).toArray 142)) (fun v M => v = Value.bool r) := by
  refine Ct.of Tryz.func144 (enters Tryz.func144 (by kernel_rfl) rfl) rfl rfl rfl ?_
  intro w0 M0 H hp
  have hp0 := hp
  unfold strings_asciiSet_contains at h
  refine SQ (RG (AS rfl rfl (NL (TN (SQ ?_)))))
  obtain ⟨a1, hxa1, h⟩ := bnd h
  refine RG (MV rfl rfl (MV rfl rfl (ST (Ex.nilCheckP rfl) rfl (ST (Ex.idxArrC (l := p0) Tryz.underlying142 Tryz.sizeOf4 rfl rfl hxa1) rfl (ST (Ex.loadArrM H rfl hp0 hxa1 Tryz.isAgg4) rfl (AS rfl rfl (NL (TN (RT ?_)))))))))
  obtain rfl := Option.some.inj h
  exact WQ.ret1 rfl rfl H.ext rfl
theorem strings_IndexAny_ct {p0 : List UInt8} {p1 : List UInt8} {r : Int} (h : strings_IndexAny p0 p1 = some r) : Ct Tryz.prog 152 [S p0, S p1] (fun M => True) (fun v M => v = I r) := by
  refine Ct.of Tryz.func152 (enters Tryz.func152 (by kernel_rfl) rfl) rfl rfl rfl ?_
  intro w0 M0 H hp
  unfold strings_IndexAny at h
  refine SQ (RG (AS rfl rfl (NL (TN (SQ (SQ (RG (MV rfl rfl (ST (Ex.strEql rfl rfl) rfl (NL (TN ?_)))))))))))
  refine WC.condB rfl (fun hk1 => ?_) (fun hk1 => ?_)
  ·
   replace hk1 : p1 = [] := of_decide_eq_true hk1
   rw [if_pos hk1] at h
   refine SQ (RG (AS rfl rfl (NL (TN (RT ?_)))))
   obtain rfl := Option.some.inj h
   exact WQ.ret1 rfl rfl H.ext rfl
  ·
   replace hk1 : ¬ (p1 = []) := of_decide_eq_false hk1
   rw [if_neg hk1] at h
   refine SK (TN (SQ (SQ (RG (MV rfl rfl (ST (Ex.lenStr Tryz.underlying9 rfl) rfl (ST (Ex.eql rfl rfl) rfl (NL (TN ?_)))))))))
   refine WC.condB rfl (fun hk2 => ?_) (fun hk2 => ?_)
   ·
    replace hk2 : (p1.length : Int) = (1 : Int) := of_decide_eq_true hk2
    rw [if_pos hk2] at h
    refine SQ ?_
    obtain ⟨c3, hxc3, h⟩ := bnd h
    refine RG (MV rfl rfl (ST (Ex.idxStrC Tryz.underlying9 rfl rfl hxc3) rfl (ST (Ex.conv Tryz.underlying5 Tryz.underlying21 rfl) rfl (AS rfl rfl (NL (TN (SQ (SQ (RG (MV rfl rfl (ST (Ex.geq rfl rfl) rfl (NL (TN ?_)))))))))))))
    obtain ⟨o4, e5, h⟩ := bnd h
    refine WC.cutX (fun e w => ∃ (n6 : Int) (M : Mem), e = [(0, S p0), (5, Value.int .i32 n6)] ∧ St w0 M0 M [] w ∧ some n6 = some o4) [] ?_ ?_ (trivial)
    ·
     refine WC.condB rfl (fun hk7 => ?_) (fun hk7 => ?_)
     ·
      replace hk7 : (128 : Int) ≤ (IntKind.i32.wrap (c3.toNat : Int)) := of_decide_eq_true hk7
      rw [if_pos hk7] at e5
      refine RG (AS rfl rfl (NL ?_))
      exact WQ.meetN [(0, _), (5, _)] ⟨rfl, rfl, trivial⟩ ⟨_, _, rfl, H, e5⟩
     ·
      replace hk7 : ¬ ((128 : Int) ≤ (IntKind.i32.wrap (c3.toNat : Int))) := of_decide_eq_false hk7
      rw [if_neg hk7] at e5
      refine SK ?_
      exact WQ.meetN [(0, _), (5, _)] ⟨rfl, rfl, trivial⟩ ⟨_, _, rfl, H, e5⟩
    ·
     rintro e w ⟨n6, M, rfl, H, q8⟩
     obtain rfl := Option.some.inj q8
     refine TN (SQ ?_)
     obtain ⟨n9, hx10, h⟩ := bnd h
     refine RG (MV rfl rfl (MV rfl rfl (WR.call H (strings_IndexRune_ct hx10) rfl trivial (Wn.none rfl) rfl ?_)))
     intro v23 M w H hle hR
     obtain rfl := hR
     refine AS rfl rfl (NL (TN (RT ?_)))
     obtain rfl := Option.some.inj h
     exact WQ.ret1 rfl rfl H.ext rfl
   ·
    replace hk2 : ¬ ((p1.length : Int) = (1 : Int)) := of_decide_eq_false hk2
    rw [if_neg hk2] at h
    refine SK (TN (SQ (SQ ?_)))
    obtain ⟨b11, hx12, h⟩ := bnd h
    refine RG (MV rfl rfl (ST (Ex.lenStr Tryz.underlying9 rfl) rfl (WR.call H (strings_shouldUseASCIISet_ct hx12) rfl trivial (Wn.none rfl) rfl ?_)))
    intro v26 M w H hle hR
    obtain rfl := hR
    refine NL (TN ?_)
    obtain ⟨o13, e14, h⟩ := bnd h
    refine WC.cutX (fun e w => ∃  (M : Mem), e = [(0, S p0), (1, S p1)] ∧ St w0 M0 M [] w ∧ some (.inl ()) = some o13) [] ?_ ?_ (trivial)
    ·
     refine WC.condB rfl (fun hk15 => ?_) (fun hk15 => ?_)
     ·
      subst hk15
      rw [if_pos rfl] at e14
      refine SQ ?_
      obtain ⟨⟨n16, b17⟩, hx18, e14⟩ := bnd e14
      try dsimp only at e14
      obtain ⟨l19, hxl19, e14⟩ := bnd e14
      obtain ⟨l20, hxl20, e14⟩ := bnd e14
      refine RG (MV rfl rfl (WR.call H (strings_makeASCIISet_ct hx18) rfl trivial (Wn.none rfl) rfl ?_))
      intro v29 M w H hle hR
      try dsimp only at hR
      obtain rfl := hR
      refine MV rfl rfl (ST (Ex.extract rfl rfl) rfl (ST (Ex.extract rfl rfl) rfl (WR.alloc (List.map encBo (List.replicate 256 false : List Bool)) H Tryz.zeroValue142 (by kernel_rfl) (Wn.none rfl) rfl ?_)))
      intro b6 w H
      refine WR.storeA (l2 := n16) H rfl rfl (fun _ => rfl) (fun _ => by repeat first | exact .head | apply Upd.tail) hxl19 hxl20 Tryz.sizeOf142 (Wn.none rfl) ?_
      intro w H
      refine AS rfl rfl (NL (TN (SQ (RG (MV rfl rfl (NL (TN ?_)))))))
      refine WC.condB rfl (fun hk21 => ?_) (fun hk21 => ?_)
      ·
       subst hk21
       rw [if_pos rfl] at e14
       refine SQ (SQ (RG (AS rfl rfl (NL (TN ?_)))))
       obtain ⟨o22, e23, e14⟩ := bnd e14
       refine WC.cutX (fun e w => ∃  (M : Mem), e = [] ∧ St w0 M0 M [] w ∧ some (.inl ()) = some o22) [] ?_ ?_ (trivial)
       ·
        refine BL ?_
        obtain ⟨M, hle, hb24, H⟩ := H.freezeVar (b := b6) (by repeat first | exact .head | apply Rem.tail)
        refine WC.loopP (fun m e w => ∃ (n25 : Int) (M : Mem), e = [(0, S p0), (6, ptr b6 0), (8, I n25)] ∧ St w0 M0 M [] w ∧ PtM M b6 (.cells (List.map encBo n16).toArray 142) ∧ strings_IndexAny_L1 p0 n16 m n25 = some o22) FU [(0, _), (6, _), (8, _)] ⟨rfl, rfl, rfl, trivial⟩ ⟨_, _, rfl, H, hb24, e23⟩ ?_
        rintro m26 e w ⟨n25, M, rfl, H, hb24, e23⟩
        rcases m26 with _ | m26
        · rw [strings_IndexAny_L1] at e23; cases e23
        rw [strings_IndexAny_L1] at e23
        refine SQ (SQ (RG (MV rfl rfl (MV rfl rfl (ST (Ex.lenStr Tryz.underlying9 rfl) rfl (ST (Ex.lss rfl rfl) rfl (NL (TN ?_))))))))
        refine WC.condB rfl (fun hk27 => ?_) (fun hk27 => ?_)
        ·
         replace hk27 : n25 < (p0.length : Int) := of_decide_eq_true hk27
         rw [if_pos hk27] at e23
         refine SK (TN (SQ (BL (SQ ?_))))
         obtain ⟨c28, hxc28, e23⟩ := bnd e23
         obtain ⟨b29, hx30, e23⟩ := bnd e23
         refine RG (MV rfl rfl (MV rfl rfl (ST (Ex.idxStrC Tryz.underlying9 rfl rfl hxc28) rfl (WR.call H (strings_asciiSet_contains_ct hx30) rfl (hb24) (Wn.none rfl) rfl ?_))))
         intro v42 M w H hle hR
         replace hb24 := hb24.mono hle
         obtain rfl := hR
         refine NL (TN ?_)
         refine WC.condB rfl (fun hk31 => ?_) (fun hk31 => ?_)
         ·
          subst hk31
          rw [if_pos rfl] at e23
          refine SQ (RG (MV rfl rfl (AS rfl rfl (NL (TN (RT ?_))))))
          obtain rfl := Option.some.inj e23
          try dsimp only at e14
          obtain rfl := Option.some.inj e14
          try dsimp only at h
          obtain rfl := Option.some.inj h
          exact WQ.ret1 rfl rfl H.ext rfl
         ·
          subst hk31
          rw [if_neg Bool.false_ne_true] at e23
          refine SK (IB (TN ?_))
          obtain ⟨n32, hxn32, e23⟩ := bnd e23
          refine RG (MV rfl rfl (ST (Ex.addC rfl rfl hxn32) rfl (AS rfl rfl (NL ?_))))
          exact WQ.againP m26 [(0, _), (6, _), (8, _)] ⟨rfl, rfl, rfl, trivial⟩ ⟨_, _, rfl, H, hb24, e23⟩ (Nat.lt_succ_self _)
        ·
         replace hk27 : ¬ (n25 < (p0.length : Int)) := of_decide_eq_false hk27
         rw [if_neg hk27] at e23
         refine WC.exit (WQ.thenExit (WQ.thenExit (WQ.exitHere ?_)))
         exact WQ.meetN [] trivial ⟨_, rfl, H, e23⟩
       ·
        rintro e w ⟨M, rfl, H, q33⟩
        obtain rfl := Option.some.inj q33
        try dsimp only at e14
        refine TN (SQ (RG (AS rfl rfl (NL (TN (RT ?_))))))
        obtain rfl := Option.some.inj e14
        try dsimp only at h
        obtain rfl := Option.some.inj h
        exact WQ.ret1 rfl rfl H.ext rfl
      ·
       subst hk21
       rw [if_neg Bool.false_ne_true] at e14
       refine SK ?_
       exact WQ.meetN [(0, _), (1, _)] ⟨rfl, rfl, trivial⟩ ⟨_, rfl, (H.pick (L' := []) (by repeat (first | exact Pick.nil | refine Pick.cons (by repeat first | exact .head | apply Rem.tail) ?_))), e14⟩
     ·
      subst hk15
      rw [if_neg Bool.false_ne_true] at e14
      refine SK ?_
      exact WQ.meetN [(0, _), (1, _)] ⟨rfl, rfl, trivial⟩ ⟨_, rfl, H, e14⟩
    ·
     rintro e w ⟨M, rfl, H, q36⟩
     obtain rfl := Option.some.inj q36
     try dsimp only at h
     refine TN (SQ (SQ (RG (MV rfl rfl (WR.rangeStr H Tryz.underlying9 rfl (Wn.none rfl) rfl ?_)))))
     intro b45 w H
     refine NL (TN ?_)
     obtain ⟨o37, e38, h⟩ := bnd h
     refine WC.cutX (fun e w => ∃  (M : Mem), e = [] ∧ St w0 M0 M [] w ∧ some (.inl ()) = some o37) [] ?_ ?_ (trivial)
     ·
      refine BL (WC.loopP (fun m e w => ∃ (ps39 : Nat) (M : Mem), e = [(1, S p1), (45, ptr b45 0)] ∧ St w0 M0 M [.blk b45 (.stringIter ⟨((p0) : List UInt8).toArray⟩ ps39)] w ∧ strings_IndexAny_L2 p0 p1 m ps39 = some o37) FU [(1, _), (45, _)] ⟨rfl, rfl, trivial⟩ ⟨_, _, rfl, H, e38⟩ ?_)
      rintro m40 e w ⟨ps39, M, rfl, H, e38⟩
      rcases m40 with _ | m40
      · rw [strings_IndexAny_L2] at e38; cases e38
      rw [strings_IndexAny_L2] at e38
      refine SQ ?_
      by_cases hk41 : ps39 < p0.length
      ·
       rw [if_pos hk41] at e38
       refine RG (WR.nextT H hk41 rfl (by repeat first | exact .head | apply Upd.tail) (Wn.none rfl) rfl ?_)
       intro w H
       refine ST (Ex.extract rfl rfl) rfl (NL (TN (SQ (CT rfl (SK (TN (BL (SQ (RG (ST (Ex.extract rfl rfl) rfl (ST (Ex.extract rfl rfl) rfl (AS rfl rfl (AS rfl rfl (NL (TN (SQ ?_))))))))))))))))
       obtain ⟨n42, hx43, e38⟩ := bnd e38
       refine RG (MV rfl rfl (MV rfl rfl (WR.call H (strings_IndexRune_ct hx43) rfl trivial (Wn.none rfl) rfl ?_)))
       intro v52 M w H hle hR
       obtain rfl := hR
       refine ST (Ex.geq rfl rfl) rfl (NL (TN ?_))
       refine WC.condB rfl (fun hk44 => ?_) (fun hk44 => ?_)
       ·
        replace hk44 : (0 : Int) ≤ n42 := of_decide_eq_true hk44
        rw [if_pos hk44] at e38
        refine SQ (RG (MV rfl rfl (AS rfl rfl (NL (TN (RT ?_))))))
        obtain rfl := Option.some.inj e38
        try dsimp only at h
        obtain rfl := Option.some.inj h
        exact WQ.ret1 rfl rfl H.ext rfl
       ·
        replace hk44 : ¬ ((0 : Int) ≤ n42) := of_decide_eq_false hk44
        rw [if_neg hk44] at e38
        refine SK (IB ?_)
        exact WQ.againP m40 [(1, _), (45, _)] ⟨rfl, rfl, trivial⟩ ⟨_, _, rfl, H, e38⟩ (Nat.lt_succ_self _)
      ·
       rw [if_neg hk41] at e38
       refine RG (WR.nextF H (Nat.le_of_not_lt hk41) rfl (by repeat (first | exact List.Mem.head _ | apply List.Mem.tail)) (Wn.none rfl) rfl ?_)
       refine ST (Ex.extract rfl rfl) rfl (NL (TN (SQ (CF rfl (WC.exit (WQ.thenExit (WQ.thenExit (WQ.exitHere ?_))))))))
       exact WQ.meetN [] trivial ⟨_, rfl, (H.pick (L' := []) (by repeat (first | exact Pick.nil | refine Pick.cons (by repeat first | exact .head | apply Rem.tail) ?_))), e38⟩
     ·
      rintro e w ⟨M, rfl, H, q45⟩
      obtain rfl := Option.some.inj q45
      try dsimp only at h
      refine TN (SQ (RG (AS rfl rfl (NL (TN (RT ?_))))))
      obtain rfl := Option.some.inj h
      exact WQ.ret1 rfl rfl H.ext rfl
theorem strings_ContainsAny_ct {p0 : List UInt8} {p1 : List UInt8} {r : Bool} (h : strings_ContainsAny p0 p1 = some r) : Ct Tryz.prog 120 [S p0, S p1] (fun M => True) (fun v M => v = Value.bool r) := by
  refine Ct.of Tryz.func120 (enters Tryz.func120 (by kernel_rfl) rfl) rfl rfl rfl ?_
  intro w0 M0 H hp
  unfold strings_ContainsAny at h
  refine SQ (RG (AS rfl rfl (NL (TN (SQ ?_)))))
  obtain ⟨n1, hx2, h⟩ := bnd h
  refine RG (MV rfl rfl (MV rfl rfl (WR.call H (strings_IndexAny_ct hx2) rfl trivial (Wn.none rfl) rfl ?_)))
  intro v7 M w H hle hR
  obtain rfl := hR
  refine ST (Ex.geq rfl rfl) rfl (AS rfl rfl (NL (TN (RT ?_))))
  obtain rfl := Option.some.inj h
  exact WQ.ret1 rfl rfl H.ext rfl
theorem fold_ends_ct {p0 : List UInt8} {r : Bool} (h : fold_ends p0 = some r) : Ct Tryz.prog 76 [S p0] (fun M => True) (fun v M => v = Value.bool r) := by
  refine Ct.of Tryz.func76 (enters Tryz.func76 (by kernel_rfl) rfl) rfl rfl rfl ?_
  intro w0 M0 H hp
  unfold fold_ends at h
  refine SQ (RG (AS rfl rfl (NL (TN (SQ ?_)))))
  obtain ⟨b1, hx2, h⟩ := bnd h
  refine RG (MV rfl rfl (WR.call H (strings_ContainsAny_ct hx2) rfl trivial (Wn.none rfl) rfl ?_))
  intro v4 M w H hle hR
  obtain rfl := hR
  refine AS rfl rfl (NL (TN (RT ?_)))
  obtain rfl := Option.some.inj h
  exact WQ.ret1 rfl rfl H.ext rfl
theorem fold_value_ct {p0 : List UInt8} {r : Bool} (h : fold_value p0 = some r) : Ct Tryz.prog 74 [S p0] (fun M => True) (fun v M => v = Value.bool r) := by
  refine Ct.of Tryz.func74 (enters Tryz.func74 (by kernel_rfl) rfl) rfl rfl rfl ?_
  intro w0 M0 H hp
  unfold fold_value at h
  refine SQ (RG (AS rfl rfl (NL (TN (SQ ?_)))))
  obtain ⟨o1, e2, h⟩ := bnd h
  refine WC.cutX (fun e w => ∃ (b3 : Bool) (M : Mem), e = [(2, Value.bool b3)] ∧ St w0 M0 M [] w ∧ some b3 = some o1) [] ?_ ?_ (trivial)
  ·
   obtain ⟨b4, hx5, e2⟩ := bnd e2
   refine RG (MV rfl rfl (WR.call H (fold_ends_ct hx5) rfl trivial (Wn.none rfl) rfl ?_))
   intro v4 M w H hle hR
   obtain rfl := hR
   refine ST (Ex.not rfl) rfl (MV rfl rfl ?_)
   rcases b4 with _ | _
   ·
    rw [if_neg Bool.false_ne_true] at e2
    by_cases hk6 : p0 = []
    ·
     rw [if_pos hk6] at e2
     refine SG (Ex.move rfl) rfl rfl rfl (WR.stepE (v' := .bool true) (Ex.strEql rfl rfl) (congrArg Value.bool (decide_eq_true hk6)) (Wn.some rfl rfl rfl) rfl rfl (SG (Ex.move rfl) rfl rfl rfl (WR.skipN 13 rfl rfl (SG (Ex.pickT rfl rfl) rfl rfl rfl (PT rfl rfl rfl (AS rfl rfl (NL ?_)))))))
     exact WQ.meetN [(2, _)] ⟨rfl, trivial⟩ ⟨_, _, rfl, H, e2⟩
    ·
     rw [if_neg hk6] at e2
     obtain ⟨c7, hxc7, e2⟩ := bnd e2
     obtain ⟨b8, hx9, e2⟩ := bnd e2
     refine SG (Ex.move rfl) rfl rfl rfl (WR.stepE (v' := .bool false) (Ex.strEql rfl rfl) (congrArg Value.bool (decide_eq_false hk6)) (Wn.some rfl rfl rfl) rfl rfl ?_)
     rcases b8 with _ | _
     ·
      rw [if_neg Bool.false_ne_true] at e2
      obtain ⟨n10, hxn10, e2⟩ := bnd e2
      obtain ⟨c11, hxc11, e2⟩ := bnd e2
      obtain ⟨b12, hx13, e2⟩ := bnd e2
      refine SG (Ex.move rfl) rfl rfl rfl (SG (Ex.move rfl) rfl rfl rfl (SG (Ex.idxStrC Tryz.underlying9 rfl rfl hxc7) rfl rfl rfl (WR.call H (basic_Blank_ct hx9) rfl trivial (Wn.some rfl rfl rfl) rfl ?_)))
      intro v12 M w H hle hR
      obtain rfl := hR
      refine SG (Ex.not rfl) rfl rfl rfl (SG (Ex.move rfl) rfl rfl rfl (SG (Ex.move rfl) rfl rfl rfl (SG (Ex.move rfl) rfl rfl rfl (SG (Ex.lenStr Tryz.underlying9 rfl) rfl rfl rfl (SG (Ex.subC rfl rfl hxn10) rfl rfl rfl (SG (Ex.idxStrC Tryz.underlying9 rfl rfl hxc11) rfl rfl rfl (WR.call H (basic_Blank_ct hx13) rfl trivial (Wn.some rfl rfl rfl) rfl ?_)))))))
      intro v20 M w H hle hR
      obtain rfl := hR
      refine SG (Ex.not rfl) rfl rfl rfl (SG (Ex.pickT rfl rfl) rfl rfl rfl (SG (Ex.pickF rfl rfl) rfl rfl rfl (PT rfl rfl rfl (AS rfl rfl (NL ?_)))))
      exact WQ.meetN [(2, _)] ⟨rfl, trivial⟩ ⟨_, _, rfl, H, e2⟩
     ·
      rw [if_pos rfl] at e2
      refine SG (Ex.move rfl) rfl rfl rfl (SG (Ex.move rfl) rfl rfl rfl (SG (Ex.idxStrC Tryz.underlying9 rfl rfl hxc7) rfl rfl rfl (WR.call H (basic_Blank_ct hx9) rfl trivial (Wn.some rfl rfl rfl) rfl ?_)))
      intro v12 M w H hle hR
      obtain rfl := hR
      refine SG (Ex.not rfl) rfl rfl rfl (SG (Ex.move rfl) rfl rfl rfl (WR.skipN 7 rfl rfl (SG (Ex.pickF rfl rfl) rfl rfl rfl (SG (Ex.pickF rfl rfl) rfl rfl rfl (PT rfl rfl rfl (AS rfl rfl (NL ?_)))))))
      exact WQ.meetN [(2, _)] ⟨rfl, trivial⟩ ⟨_, _, rfl, H, e2⟩
   ·
    rw [if_pos rfl] at e2
    refine WR.skipN 17 rfl rfl (PF rfl rfl rfl (AS rfl rfl (NL ?_)))
    exact WQ.meetN [(2, _)] ⟨rfl, trivial⟩ ⟨_, _, rfl, H, e2⟩
  ·
   rintro e w ⟨b3, M, rfl, H, q14⟩
   obtain rfl := Option.some.inj q14
   refine TN (RT ?_)
   obtain rfl := Option.some.inj h
   exact WQ.ret1 rfl rfl H.ext rfl
theorem fold_point_ct {p0 : List UInt8} {p1 : Int} {r : Int} (h : fold_point p0 p1 = some r) : Ct Tryz.prog 75 [S p0, I p1] (fun M => True) (fun v M => v = I r) := by
  refine Ct.of Tryz.func75 (enters Tryz.func75 (by kernel_rfl) rfl) rfl rfl rfl ?_
  intro w0 M0 H hp
  unfold fold_point at h
  refine SQ (RG (AS rfl rfl (NL (TN (SQ (RG (AS rfl rfl (NL (TN (SQ (SQ (RG (MV rfl rfl (ST (Ex.max2 rfl rfl) rfl (AS rfl rfl (NL (TN ?_)))))))))))))))))
  obtain ⟨o1, e2, h⟩ := bnd h
  refine WC.cutX (fun e w => ∃ (n3 : Int) (M : Mem), e = [(5, I n3)] ∧ St w0 M0 M [] w ∧ some n3 = some o1) [] ?_ ?_ (trivial)
  ·
   refine BL (WC.loopP (fun m e w => ∃ (n4 : Int) (n5 : Int) (M : Mem), e = [(0, S p0), (5, I n4), (6, I n5)] ∧ St w0 M0 M [] w ∧ fold_point_L1 p0 m n4 n5 = some o1) FU [(0, _), (5, _), (6, _)] ⟨rfl, rfl, rfl, trivial⟩ ⟨_, _, _, rfl, H, e2⟩ ?_)
   rintro m6 e w ⟨n4, n5, M, rfl, H, e2⟩
   rcases m6 with _ | m6
   · rw [fold_point_L1] at e2; cases e2
   rw [fold_point_L1] at e2
   refine SQ (SQ (RG (MV rfl rfl (MV rfl rfl (ST (Ex.lenStr Tryz.underlying9 rfl) rfl (ST (Ex.lss rfl rfl) rfl (NL (TN ?_))))))))
   refine WC.condB rfl (fun hk7 => ?_) (fun hk7 => ?_)
   ·
    replace hk7 : n5 < (p0.length : Int) := of_decide_eq_true hk7
    rw [if_pos hk7] at e2
    refine SK (TN (SQ (BL (SQ (SQ ?_)))))
    obtain ⟨o8, e9, e2⟩ := bnd e2
    refine WC.cutX (fun e w => ∃ (b10 : Bool) (M : Mem), e = [(0, S p0), (5, I n4), (6, I n5), (26, Value.bool b10)] ∧ St w0 M0 M [] w ∧ some b10 = some o8) [] ?_ ?_ (trivial)
    ·
     obtain ⟨c11, hxc11, e9⟩ := bnd e9
     obtain ⟨b12, hx13, e9⟩ := bnd e9
     refine RG (MV rfl rfl (MV rfl rfl (ST (Ex.idxStrC Tryz.underlying9 rfl rfl hxc11) rfl (WR.call H (basic_Blank_ct hx13) rfl trivial (Wn.none rfl) rfl ?_))))
     intro v18 M w H hle hR
     obtain rfl := hR
     refine ST (Ex.not rfl) rfl (MV rfl rfl ?_)
     rcases b12 with _ | _
     ·
      rw [if_neg Bool.false_ne_true] at e9
      refine WR.skipN 5 rfl rfl (PT rfl rfl rfl (NL ?_))
      exact WQ.meetN [(0, _), (5, _), (6, _), (26, _)] ⟨rfl, rfl, rfl, rfl, trivial⟩ ⟨_, _, rfl, H, e9⟩
     ·
      rw [if_pos rfl] at e9
      obtain ⟨n14, hxn14, e9⟩ := bnd e9
      obtain ⟨c15, hxc15, e9⟩ := bnd e9
      obtain ⟨b16, hx17, e9⟩ := bnd e9
      refine SG (Ex.move rfl) rfl rfl rfl (SG (Ex.move rfl) rfl rfl rfl (SG (Ex.subC rfl rfl hxn14) rfl rfl rfl (SG (Ex.idxStrC Tryz.underlying9 rfl rfl hxc15) rfl rfl rfl (WR.call H (basic_Blank_ct hx17) rfl trivial (Wn.some rfl rfl rfl) rfl ?_))))
      intro v25 M w H hle hR
      obtain rfl := hR
      refine PF rfl rfl rfl (NL ?_)
      exact WQ.meetN [(0, _), (5, _), (6, _), (26, _)] ⟨rfl, rfl, rfl, rfl, trivial⟩ ⟨_, _, rfl, H, e9⟩
    ·
     rintro e w ⟨b10, M, rfl, H, q18⟩
     obtain rfl := Option.some.inj q18
     refine TN ?_
     refine WC.condB rfl (fun hk19 => ?_) (fun hk19 => ?_)
     ·
      subst hk19
      rw [if_pos rfl] at e2
      refine WC.exit (WQ.thenExit (WQ.exitHere (TN ?_)))
      obtain ⟨n20, hxn20, e2⟩ := bnd e2
      refine RG (MV rfl rfl (ST (Ex.addC rfl rfl hxn20) rfl (AS rfl rfl (NL ?_))))
      exact WQ.againP m6 [(0, _), (5, _), (6, _)] ⟨rfl, rfl, rfl, trivial⟩ ⟨_, _, _, rfl, H, e2⟩ (Nat.lt_succ_self _)
     ·
      subst hk19
      rw [if_neg Bool.false_ne_true] at e2
      refine SK (TN (SQ (SQ ?_)))
      obtain ⟨o21, e22, e2⟩ := bnd e2
      refine WC.cutX (fun e w => ∃ (b23 : Bool) (M : Mem), e = [(0, S p0), (5, I n4), (6, I n5), (32, Value.bool b23)] ∧ St w0 M0 M [] w ∧ some b23 = some o21) [] ?_ ?_ (trivial)
      ·
       by_cases hk24 : (0 : Int) < n4
       ·
        rw [if_pos hk24] at e22
        refine RG (MV rfl rfl (WR.stepE (v' := .bool true) (Ex.gtr rfl rfl) (congrArg Value.bool (decide_eq_true hk24)) (Wn.none rfl) rfl rfl (MV rfl rfl (SG (Ex.move rfl) rfl rfl rfl (SG (Ex.gtr rfl rfl) rfl rfl rfl (PT rfl rfl rfl (NL ?_)))))))
        exact WQ.meetN [(0, _), (5, _), (6, _), (32, _)] ⟨rfl, rfl, rfl, rfl, trivial⟩ ⟨_, _, rfl, H, e22⟩
       ·
        rw [if_neg hk24] at e22
        refine RG (MV rfl rfl (WR.stepE (v' := .bool false) (Ex.gtr rfl rfl) (congrArg Value.bool (decide_eq_false hk24)) (Wn.none rfl) rfl rfl (MV rfl rfl (GF rfl rfl rfl (GF rfl rfl rfl (PF rfl rfl rfl (NL ?_)))))))
        exact WQ.meetN [(0, _), (5, _), (6, _), (32, _)] ⟨rfl, rfl, rfl, rfl, trivial⟩ ⟨_, _, rfl, H, e22⟩
      ·
       rintro e w ⟨b23, M, rfl, H, q25⟩
       obtain rfl := Option.some.inj q25
       refine TN ?_
       refine WC.condB rfl (fun hk26 => ?_) (fun hk26 => ?_)
       ·
        subst hk26
        rw [if_pos rfl] at e2
        refine WC.exit (WQ.thenExit (WQ.exitOut rfl (WQ.thenExit (WQ.thenExit (WQ.exitHere ?_)))))
        exact WQ.meetN [(5, _)] ⟨rfl, trivial⟩ ⟨_, _, rfl, H, e2⟩
       ·
        subst hk26
        rw [if_neg Bool.false_ne_true] at e2
        refine SK (TN (RG (MV rfl rfl (AS rfl rfl (NL (IB (TN ?_)))))))
        obtain ⟨n27, hxn27, e2⟩ := bnd e2
        refine RG (MV rfl rfl (ST (Ex.addC rfl rfl hxn27) rfl (AS rfl rfl (NL ?_))))
        exact WQ.againP m6 [(0, _), (5, _), (6, _)] ⟨rfl, rfl, rfl, trivial⟩ ⟨_, _, _, rfl, H, e2⟩ (Nat.lt_succ_self _)
   ·
    replace hk7 : ¬ (n5 < (p0.length : Int)) := of_decide_eq_false hk7
    rw [if_neg hk7] at e2
    refine WC.exit (WQ.thenExit (WQ.thenExit (WQ.exitHere ?_)))
    exact WQ.meetN [(5, _)] ⟨rfl, trivial⟩ ⟨_, _, rfl, H, e2⟩
  ·
   rintro e w ⟨n3, M, rfl, H, q28⟩
   obtain rfl := Option.some.inj q28
   refine TN (SQ (RG (MV rfl rfl (AS rfl rfl (NL (TN (RT ?_)))))))
   obtain rfl := Option.some.inj h
   exact WQ.ret1 rfl rfl H.ext rfl
theorem fold_Fold_ct {p0 : List UInt8} {p1 : List UInt8} {r : (List (List UInt8) × (Int × Int))} (h : fold_Fold p0 p1 = some r) : Ct Tryz.prog 35 [S p0, S p1] (fun M => True) (fun v M => ∃ x0, v = Value.tuple #[x0, Value.agg #[I r.2.1, I r.2.2]] ∧ Sl M encS x0 r.1) := by
  refine Ct.of Tryz.func35 (enters Tryz.func35 (by kernel_rfl) rfl) rfl rfl rfl ?_
  intro w0 M0 H hp
  unfold fold_Fold at h
  refine SQ (RG (AS rfl rfl (WR.alloc [_, _] H Tryz.zeroValue24 rfl (Wn.none rfl) rfl ?_)))
  intro b5 w H
  refine NL (TN (SQ (BL (SQ ?_))))
  obtain ⟨b1, hx2, h⟩ := bnd h
  refine RG (MV rfl rfl (WR.call H (fold_name_ct hx2) rfl trivial (Wn.none rfl) rfl ?_))
  intro v14 M w H hle hR
  obtain rfl := hR
  refine ST (Ex.not rfl) rfl (AS rfl rfl (NL (TN ?_)))
  refine WC.condB rfl (fun hk3 => ?_) (fun hk3 => ?_)
  ·
   replace hk3 : b1 = false := by simpa using hk3
   subst hk3
   rw [if_neg Bool.false_ne_true] at h
   refine SQ ?_
   obtain ⟨⟨n4, n5⟩, hx6, h⟩ := bnd h
   try dsimp only at h
   refine RG (WR.call H (basic_Fault_ct hx6) rfl trivial (Wn.none rfl) rfl ?_)
   intro v16 M w H hle hR
   try dsimp only at hR
   obtain rfl := hR
   refine AS rfl rfl (WR.store [_, _] H rfl rfl rfl (by repeat first | exact .head | apply Upd.tail) Tryz.sizeOf24 rfl (by rfl) (by rfl) (Wn.none rfl) ?_)
   intro w H
   refine NL (TN (RT ?_))
   obtain rfl := Option.some.inj h
   exact WQ.ret2 rfl rfl ⟨_, rfl, H.loadAgg (by repeat (first | exact List.Mem.head _ | apply List.Mem.tail)) Tryz.isAgg24 Tryz.sizeOf24 (by rfl)⟩ H.ext (⟨_, rfl, Sl.nil _ _⟩)
  ·
   replace hk3 : b1 = true := by simpa using hk3
   subst hk3
   rw [if_pos rfl] at h
   refine SQ (RG (MV rfl rfl (ST (Ex.lenStr Tryz.underlying9 rfl) rfl (ST (Ex.gtr rfl rfl) rfl (AS rfl rfl (NL (TN ?_)))))))
   refine WC.condB rfl (fun hk7 => ?_) (fun hk7 => ?_)
   ·
    replace hk7 : (4000 : Int) < (p1.length : Int) := of_decide_eq_true hk7
    rw [if_pos hk7] at h
    refine SQ ?_
    obtain ⟨⟨n8, n9⟩, hx10, h⟩ := bnd h
    try dsimp only at h
    refine RG (WR.call H (basic_Fault_ct hx10) rfl trivial (Wn.none rfl) rfl ?_)
    intro v21 M w H hle hR
    try dsimp only at hR
    obtain rfl := hR
    refine AS rfl rfl (WR.store [_, _] H rfl rfl rfl (by repeat first | exact .head | apply Upd.tail) Tryz.sizeOf24 rfl (by rfl) (by rfl) (Wn.none rfl) ?_)
    intro w H
    refine NL (TN (RT ?_))
    obtain rfl := Option.some.inj h
    exact WQ.ret2 rfl rfl ⟨_, rfl, H.loadAgg (by repeat (first | exact List.Mem.head _ | apply List.Mem.tail)) Tryz.isAgg24 Tryz.sizeOf24 (by rfl)⟩ H.ext (⟨_, rfl, Sl.nil _ _⟩)
   ·
    replace hk7 : ¬ ((4000 : Int) < (p1.length : Int)) := of_decide_eq_false hk7
    rw [if_neg hk7] at h
    refine SQ ?_
    obtain ⟨b11, hx12, h⟩ := bnd h
    refine RG (MV rfl rfl (WR.call H (fold_value_ct hx12) rfl trivial (Wn.none rfl) rfl ?_))
    intro v24 M w H hle hR
    obtain rfl := hR
    refine ST (Ex.not rfl) rfl (AS rfl rfl (NL (TN ?_)))
    refine WC.condB rfl (fun hk13 => ?_) (fun hk13 => ?_)
    ·
     replace hk13 : b11 = false := by simpa using hk13
     subst hk13
     rw [if_neg Bool.false_ne_true] at h
     refine SQ ?_
     obtain ⟨⟨n14, n15⟩, hx16, h⟩ := bnd h
     try dsimp only at h
     refine RG (WR.call H (basic_Fault_ct hx16) rfl trivial (Wn.none rfl) rfl ?_)
     intro v26 M w H hle hR
     try dsimp only at hR
     obtain rfl := hR
     refine AS rfl rfl (WR.store [_, _] H rfl rfl rfl (by repeat first | exact .head | apply Upd.tail) Tryz.sizeOf24 rfl (by rfl) (by rfl) (Wn.none rfl) ?_)
     intro w H
     refine NL (TN (RT ?_))
     obtain rfl := Option.some.inj h
     exact WQ.ret2 rfl rfl ⟨_, rfl, H.loadAgg (by repeat (first | exact List.Mem.head _ | apply List.Mem.tail)) Tryz.isAgg24 Tryz.sizeOf24 (by rfl)⟩ H.ext (⟨_, rfl, Sl.nil _ _⟩)
    ·
     replace hk13 : b11 = true := by simpa using hk13
     subst hk13
     rw [if_pos rfl] at h
     refine SK (IB (TN (SQ ?_)))
     obtain ⟨s17, hxs17, h⟩ := bnd h
     obtain ⟨s18, hxs18, h⟩ := bnd h
     obtain ⟨n19, hxn19, h⟩ := bnd h
     refine RG (MV rfl rfl (ST (Ex.strAddC rfl rfl hxs17) rfl (MV rfl rfl (ST (Ex.strAddC rfl rfl hxs18) rfl (MV rfl rfl (ST (Ex.lenStr Tryz.underlying9 rfl) rfl (ST (Ex.addC rfl rfl hxn19) rfl (AS rfl rfl (AS rfl rfl (NL (TN (SQ (RG (AS rfl rfl (NL (TN (SQ ?_)))))))))))))))))
     obtain ⟨o20, e21, h⟩ := bnd h
     refine WC.cutX (fun e w => ∃ (s22 : List UInt8) (l24 : List (List UInt8)) (v25 : Value) (M : Mem), e = [(5, ptr b5 0), (6, S s22), (8, v25)] ∧ St w0 M0 M [.blk b5 (.cells #[I 0, I 0] 24), RowI 9 encS v25 l24] w ∧ some (s22, l24) = some o20) [] ?_ ?_ (trivial)
     ·
      refine BL ?_
      replace H := H.newRow 9 encS
      refine WC.loopP (fun m e w => ∃ (s26 : List UInt8) (n27 : Int) (l29 : List (List UInt8)) (v30 : Value) (M : Mem), e = [(5, ptr b5 0), (6, S s26), (7, I n27), (8, v30)] ∧ St w0 M0 M [.blk b5 (.cells #[I 0, I 0] 24), RowI 9 encS v30 l29] w ∧ fold_Fold_L1  m s26 n27 l29 = some o20) FU [(5, _), (6, _), (7, _), (8, _)] ⟨rfl, rfl, rfl, rfl, trivial⟩ ⟨_, _, _, _, _, rfl, (H.pick (L' := [.blk b5 (.cells #[I 0, I 0] 24), RowI 9 encS (Value.slice none 0 0) []]) (by repeat (first | exact Pick.nil | refine Pick.cons (by repeat first | exact .head | apply Rem.tail) ?_))), e21⟩ ?_
      rintro m31 e w ⟨s26, n27, l29, v30, M, rfl, H, e21⟩
      rcases m31 with _ | m31
      · rw [fold_Fold_L1] at e21; cases e21
      rw [fold_Fold_L1] at e21
      refine SQ (SQ (RG (MV rfl rfl (ST (Ex.lenStr Tryz.underlying9 rfl) rfl (ST (Ex.gtr rfl rfl) rfl (NL (TN ?_)))))))
      refine WC.condB rfl (fun hk33 => ?_) (fun hk33 => ?_)
      ·
       replace hk33 : (78 : Int) < (s26.length : Int) := of_decide_eq_true hk33
       rw [if_pos hk33] at e21
       refine SK (TN (BL (SQ ?_)))
       obtain ⟨n34, hx35, e21⟩ := bnd e21
       refine RG (MV rfl rfl (MV rfl rfl (WR.call H (fold_point_ct hx35) rfl trivial (Wn.none rfl) rfl ?_)))
       intro v39 M w H hle hR
       obtain rfl := hR
       refine AS rfl rfl (NL (TN (SQ (SQ (RG (MV rfl rfl (ST (Ex.eql rfl rfl) rfl (NL (TN ?_)))))))))
       refine WC.condB rfl (fun hk36 => ?_) (fun hk36 => ?_)
       ·
        replace hk36 : n34 = (0 : Int) := of_decide_eq_true hk36
        rw [if_pos hk36] at e21
        refine WC.exit (WQ.thenExit (WQ.exitOut rfl (WQ.thenExit (WQ.exitHere ?_))))
        exact WQ.meetN [(5, _), (6, _), (8, _)] ⟨rfl, rfl, rfl, trivial⟩ ⟨_, _, _, _, rfl, H, e21⟩
       ·
        replace hk36 : ¬ (n34 = (0 : Int)) := of_decide_eq_false hk36
        rw [if_neg hk36] at e21
        refine SK (TN (SQ ?_))
        obtain ⟨s37, hxs37, e21⟩ := bnd e21
        obtain ⟨l38, hxl38, e21⟩ := bnd e21
        refine RG (MV rfl rfl (MV rfl rfl (MV rfl rfl (ST (Ex.sliceH Tryz.underlying9 rfl rfl hxs37) rfl (WR.lit (enc := encS) xty43 ([s37] : List (List UInt8)) H rfl (by rfl) (fun _ => rfl) rfl rfl (Wn.none rfl) rfl ?_)))))
        intro v46 M w H hle hs46
        refine WR.appC (l := l29) xty43 rfl (fun _ => rfl) H rfl (fun _ => by repeat first | exact .head | apply Upd.tail) rfl (hs46) hxl38 (Wn.none rfl) rfl ?_
        intro v47 w H
        refine AS rfl rfl (NL (TN ?_))
        obtain ⟨s39, hxs39, e21⟩ := bnd e21
        refine RG (MV rfl rfl (MV rfl rfl (ST (Ex.sliceL Tryz.underlying9 rfl rfl hxs39) rfl (AS rfl rfl (AS rfl rfl (NL (IB ?_)))))))
        exact WQ.againP m31 [(5, _), (6, _), (7, _), (8, _)] ⟨rfl, rfl, rfl, rfl, trivial⟩ ⟨_, _, _, _, _, rfl, H, e21⟩ (Nat.lt_succ_self _)
      ·
       replace hk33 : ¬ ((78 : Int) < (s26.length : Int)) := of_decide_eq_false hk33
       rw [if_neg hk33] at e21
       refine WC.exit (WQ.thenExit (WQ.thenExit (WQ.exitHere ?_)))
       exact WQ.meetN [(5, _), (6, _), (8, _)] ⟨rfl, rfl, rfl, trivial⟩ ⟨_, _, _, _, rfl, H, e21⟩
     ·
      rintro e w ⟨s22, l24, v25, M, rfl, H, q40⟩
      obtain rfl := Option.some.inj q40
      try dsimp only at h
      refine TN (SQ ?_)
      obtain ⟨l41, hxl41, h⟩ := bnd h
      refine RG (MV rfl rfl (MV rfl rfl (WR.lit (enc := encS) xty43 ([s22] : List (List UInt8)) H rfl (by rfl) (fun _ => rfl) rfl rfl (Wn.none rfl) rfl ?_)))
      intro v53 M w H hle hs53
      refine WR.appC (l := l24) xty43 rfl (fun _ => rfl) H rfl (fun _ => by repeat first | exact .head | apply Upd.tail) rfl (hs53) hxl41 (Wn.none rfl) rfl ?_
      intro v54 w H
      refine AS rfl rfl (NL (TN (SQ (SQ (RG (MV rfl rfl (ST (Ex.lenRow (l := l41) Tryz.underlying43 H (by repeat (first | exact List.Mem.head _ | apply List.Mem.tail)) rfl) rfl ?_)))))))
      refine MV rfl rfl (NL (TN ?_))
      obtain ⟨o42, e43, h⟩ := bnd h
      refine WC.cutX (fun e w => ∃ (n44 : Int) (n45 : Int) (M : Mem), e = [(5, ptr b5 0), (8, v54)] ∧ St w0 M0 M [.blk b5 (.cells #[I n44, I n45] 24), RowI 9 encS v54 l41] w ∧ some (.inl (n44, n45)) = some o42) [] ?_ ?_ (trivial)
      ·
       refine BL (WC.loopP (fun m e w => ∃ (n46 : Int) (n47 : Int) (n48 : Int) (M : Mem), e = [(5, ptr b5 0), (8, v54), (55, v54), (56, I (l41.length : Int)), (57, I n48)] ∧ St w0 M0 M [.blk b5 (.cells #[I n46, I n47] 24), RowI 9 encS v54 l41] w ∧ fold_Fold_L2 l41 m n46 n47 n48 = some o42) FU [(5, _), (8, _), (55, _), (56, _), (57, _)] ⟨rfl, rfl, rfl, rfl, rfl, trivial⟩ ⟨_, _, _, _, rfl, H, e43⟩ ?_)
       rintro m49 e w ⟨n46, n47, n48, M, rfl, H, e43⟩
       rcases m49 with _ | m49
       · rw [fold_Fold_L2] at e43; cases e43
       rw [fold_Fold_L2] at e43
       refine SQ (RG (ST (Ex.lss rfl rfl) rfl (NL (TN (SQ ?_)))))
       refine WC.condB rfl (fun hk50 => ?_) (fun hk50 => ?_)
       ·
        replace hk50 : n48 < (l41.length : Int) := of_decide_eq_true hk50
        rw [if_pos hk50] at e43
        refine SK (TN (SQ (BL (SQ ?_))))
        obtain ⟨a51, hxa51, e43⟩ := bnd e43
        refine RG (MV rfl rfl (WR.idxRowC (l := l41) H Tryz.underlying43 Tryz.sizeOf9 (by repeat (first | exact List.Mem.head _ | apply List.Mem.tail)) rfl rfl hxa51 (Wn.none rfl) rfl ?_))
        intro g60 hg60
        refine ST (Ex.loadRowC H rfl hg60 (by repeat (first | exact List.Mem.head _ | apply List.Mem.tail)) hxa51 Tryz.isAgg9) rfl ?_
        refine AS rfl rfl (AS rfl rfl (NL (TN (SQ (RG (MV rfl rfl (ST (Ex.lenStr Tryz.underlying9 rfl) rfl (ST (Ex.gtr rfl rfl) rfl (NL (TN ?_))))))))))
        refine WC.condB rfl (fun hk52 => ?_) (fun hk52 => ?_)
        ·
         replace hk52 : (998 : Int) < (a51.length : Int) := of_decide_eq_true hk52
         rw [if_pos hk52] at e43
         refine SQ ?_
         obtain ⟨⟨n53, n54⟩, hx55, e43⟩ := bnd e43
         try dsimp only at e43
         refine RG (MV rfl rfl (WR.call H (basic_Fault_ct hx55) rfl trivial (Wn.none rfl) rfl ?_))
         intro v66 M w H hle hR
         try dsimp only at hR
         obtain rfl := hR
         refine AS rfl rfl (WR.store [_, _] H rfl rfl rfl (by repeat first | exact .head | apply Upd.tail) Tryz.sizeOf24 rfl (by rfl) (by rfl) (Wn.none rfl) ?_)
         intro w H
         refine NL (TN (RT ?_))
         obtain rfl := Option.some.inj e43
         try dsimp only at h
         obtain rfl := Option.some.inj h
         exact WQ.ret2 rfl rfl ⟨_, rfl, H.loadAgg (by repeat (first | exact List.Mem.head _ | apply List.Mem.tail)) Tryz.isAgg24 Tryz.sizeOf24 (by rfl)⟩ H.ext (⟨_, rfl, Sl.nil _ _⟩)
        ·
         replace hk52 : ¬ ((998 : Int) < (a51.length : Int)) := of_decide_eq_false hk52
         rw [if_neg hk52] at e43
         refine SK (IB (TN ?_))
         obtain ⟨n56, hxn56, e43⟩ := bnd e43
         refine RG (ST (Ex.addC rfl rfl hxn56) rfl (MV rfl rfl (NL ?_)))
         exact WQ.againP m49 [(5, _), (8, _), (55, _), (56, _), (57, _)] ⟨rfl, rfl, rfl, rfl, rfl, trivial⟩ ⟨_, _, _, _, rfl, H, e43⟩ (Nat.lt_succ_self _)
       ·
        replace hk50 : ¬ (n48 < (l41.length : Int)) := of_decide_eq_false hk50
        rw [if_neg hk50] at e43
        refine WC.exit (WQ.thenExit (WQ.thenExit (WQ.exitHere ?_)))
        exact WQ.meetN [(5, _), (8, _)] ⟨rfl, rfl, trivial⟩ ⟨_, _, _, rfl, H, e43⟩
      ·
       rintro e w ⟨n44, n45, M, rfl, H, q57⟩
       obtain rfl := Option.some.inj q57
       try dsimp only at h
       refine TN (SQ ?_)
       obtain ⟨⟨n58, n59⟩, hx60, h⟩ := bnd h
       try dsimp only at h
       refine RG (MV rfl rfl (WR.call H (basic_None_ct hx60) rfl trivial (Wn.none rfl) rfl ?_))
       intro v69 M w H hle hR
       try dsimp only at hR
       obtain rfl := hR
       refine AS rfl rfl (WR.store [_, _] H rfl rfl rfl (by repeat first | exact .head | apply Upd.tail) Tryz.sizeOf24 rfl (by rfl) (by rfl) (Wn.none rfl) ?_)
       intro w H
       refine NL (TN (RT ?_))
       obtain ⟨M, hle, hs61, H⟩ := H.freezeRow (v := v54) (enc := encS) (t := 9) (by repeat first | exact .head | apply Rem.tail)
       obtain rfl := Option.some.inj h
       exact WQ.ret2 rfl rfl ⟨_, rfl, H.loadAgg (by repeat (first | exact List.Mem.head _ | apply List.Mem.tail)) Tryz.isAgg24 Tryz.sizeOf24 (by rfl)⟩ H.ext (⟨_, rfl, hs61⟩)
theorem stringslite_Cut_ct {p0 : List UInt8} {p1 : List UInt8} {r : (List UInt8 × List UInt8 × Bool)} (h : stringslite_Cut p0 p1 = some r) : Ct Tryz.prog 121 [S p0, S p1] (fun M => GlF (fun w => ∃ m, w.cell? ⟨2, 0, none⟩ = some (.int .i64 m)) M) (fun v M => v = Value.tuple #[S r.1, S r.2.1, Value.bool r.2.2]) := by
  refine Ct.of Tryz.func121 (enters Tryz.func121 (by kernel_rfl) rfl) rfl rfl rfl ?_
  intro w0 M0 H hp
  have hg_maxl := hp
  unfold stringslite_Cut at h
  refine SQ (RG (AS rfl rfl (AS rfl rfl (AS rfl rfl (NL (TN (SQ (SQ ?_))))))))
  obtain ⟨n1, hx2, h⟩ := bnd h
  refine RG (MV rfl rfl (MV rfl rfl (WR.call H (stringslite_Index_ct hx2) rfl (hg_maxl) (Wn.none rfl) rfl ?_)))
  intro v10 M w H hle hR
  replace hg_maxl := hg_maxl.mono hle
  obtain rfl := hR
  refine AS rfl rfl (NL (TN (SQ (RG (MV rfl rfl (ST (Ex.geq rfl rfl) rfl (NL (TN ?_))))))))
  refine WC.condB rfl (fun hk3 => ?_) (fun hk3 => ?_)
  ·
   replace hk3 : (0 : Int) ≤ n1 := of_decide_eq_true hk3
   rw [if_pos hk3] at h
   refine SQ ?_
   obtain ⟨s4, hxs4, h⟩ := bnd h
   obtain ⟨n5, hxn5, h⟩ := bnd h
   obtain ⟨s6, hxs6, h⟩ := bnd h
   refine WC.draw (m := 12) rfl rfl H ?_
   intro w H
   refine WA.take (i := 0) rfl (by kernel_rfl) (by kernel_rfl) (by kernel_rfl) (fun _ => Ex.move rfl) (Wn.none rfl) rfl rfl (fun _ _ => rfl) (WA.take (i := 1) rfl (by kernel_rfl) (by kernel_rfl) (by kernel_rfl) (fun _ => Ex.move rfl) (Wn.none rfl) rfl rfl (fun _ _ => rfl) (WA.take (i := 2) rfl (by kernel_rfl) (by kernel_rfl) (by kernel_rfl) (fun _ => Ex.sliceH Tryz.underlying9 rfl rfl hxs4) (Wn.none rfl) rfl rfl (fun _ _ => rfl) (WA.take (i := 3) rfl (by kernel_rfl) (by kernel_rfl) (by kernel_rfl) (fun _ => Ex.move rfl) (Wn.none rfl) rfl rfl (fun _ _ => rfl) (WA.take (i := 4) rfl (by kernel_rfl) (by kernel_rfl) (by kernel_rfl) (fun _ => Ex.move rfl) (Wn.none rfl) rfl rfl (fun _ _ => rfl) (WA.take (i := 5) rfl (by kernel_rfl) (by kernel_rfl) (by kernel_rfl) (fun _ => Ex.move rfl) (Wn.none rfl) rfl rfl (fun _ _ => rfl) (WA.take (i := 6) rfl (by kernel_rfl) (by kernel_rfl) (by kernel_rfl) (fun _ => Ex.lenStr Tryz.underlying9 rfl) (Wn.none rfl) rfl rfl (fun _ _ => rfl) ?_))))))
   refine WA.take (i := 7) rfl (by kernel_rfl) (by kernel_rfl) (by kernel_rfl) (fun _ => Ex.addC rfl rfl hxn5) (Wn.none rfl) rfl rfl (fun _ _ => rfl) (WA.take (i := 8) rfl (by kernel_rfl) (by kernel_rfl) (by kernel_rfl) (fun _ => Ex.sliceL Tryz.underlying9 rfl rfl hxs6) (Wn.none rfl) rfl rfl (fun _ _ => rfl) (WA.seq (fuel := 0) [9, 10, 11] rfl (by kernel_rfl) (AS rfl rfl (AS rfl rfl (AS rfl rfl (NA (WA.done (by kernel_rfl) (TN (RT ?_)))))))))
   obtain rfl := Option.some.inj h
   exact WQ.ret3 rfl rfl rfl rfl H.ext rfl
  ·
   replace hk3 : ¬ ((0 : Int) ≤ n1) := of_decide_eq_false hk3
   rw [if_neg hk3] at h
   refine SK (TN (SQ (RG (MV rfl rfl (AS rfl rfl (AS rfl rfl (AS rfl rfl (NL (TN (RT ?_))))))))))
   obtain rfl := Option.some.inj h
   exact WQ.ret3 rfl rfl rfl rfl H.ext rfl
theorem strings_Cut_ct {p0 : List UInt8} {p1 : List UInt8} {r : (List UInt8 × List UInt8 × Bool)} (h : strings_Cut p0 p1 = some r) : Ct Tryz.prog 77 [S p0, S p1] (fun M => GlF (fun w => ∃ m, w.cell? ⟨2, 0, none⟩ = some (.int .i64 m)) M) (fun v M => v = Value.tuple #[S r.1, S r.2.1, Value.bool r.2.2]) := by
  refine Ct.of Tryz.func77 (enters Tryz.func77 (by kernel_rfl) rfl) rfl rfl rfl ?_
  intro w0 M0 H hp
  have hg_maxl := hp
  unfold strings_Cut at h
  refine SQ (RG (AS rfl rfl (AS rfl rfl (AS rfl rfl (NL (TN (SQ ?_)))))))
  obtain ⟨⟨s1, s2, b3⟩, hx4, h⟩ := bnd h
  try dsimp only at h
  refine RG (MV rfl rfl (MV rfl rfl (WR.call H (stringslite_Cut_ct hx4) rfl (hg_maxl) (Wn.none rfl) rfl ?_)))
  intro v9 M w H hle hR
  replace hg_maxl := hg_maxl.mono hle
  try dsimp only at hR
  obtain rfl := hR
  refine ST (Ex.extract rfl rfl) rfl (ST (Ex.extract rfl rfl) rfl (ST (Ex.extract rfl rfl) rfl (AS rfl rfl (AS rfl rfl (AS rfl rfl (NL (TN (RT ?_))))))))
  obtain rfl := Option.some.inj h
  exact WQ.ret3 rfl rfl rfl rfl H.ext rfl
theorem strings_trimRightByte_ct {p0 : List UInt8} {p1 : UInt8} {r : List UInt8} (h : strings_trimRightByte p0 p1 = some r) : Ct Tryz.prog 107 [S p0, encB p1] (fun M => True) (fun v M => v = S r) := by
  refine Ct.of Tryz.func107 (enters Tryz.func107 (by kernel_rfl) rfl) rfl rfl rfl ?_
  intro w0 M0 H hp
  unfold strings_trimRightByte at h
  refine SQ (RG (AS rfl rfl (NL (TN (SQ ?_)))))
  obtain ⟨o1, e2, h⟩ := bnd h
  refine WC.cutX (fun e w => ∃ (s3 : List UInt8) (M : Mem), e = [(0, S s3)] ∧ St w0 M0 M [] w ∧ some s3 = some o1) [] ?_ ?_ (trivial)
  ·
   refine BL (WC.loopP (fun m e w => ∃ (s4 : List UInt8) (M : Mem), e = [(0, S s4), (1, encB p1)] ∧ St w0 M0 M [] w ∧ strings_trimRightByte_L1 p1 m s4 = some o1) FU [(0, _), (1, _)] ⟨rfl, rfl, trivial⟩ ⟨_, _, rfl, H, e2⟩ ?_)
   rintro m5 e w ⟨s4, M, rfl, H, e2⟩
   rcases m5 with _ | m5
   · rw [strings_trimRightByte_L1] at e2; cases e2
   rw [strings_trimRightByte_L1] at e2
   refine SQ (SQ ?_)
   obtain ⟨o6, e7, e2⟩ := bnd e2
   refine WC.cutX (fun e w => ∃ (b8 : Bool) (M : Mem), e = [(0, S s4), (1, encB p1), (16, Value.bool b8)] ∧ St w0 M0 M [] w ∧ some b8 = some o6) [] ?_ ?_ (trivial)
   ·
    refine RG (MV rfl rfl (ST (Ex.lenStr Tryz.underlying9 rfl) rfl ?_))
    by_cases hk9 : (0 : Int) < (s4.length : Int)
    ·
     rw [if_pos hk9] at e7
     obtain ⟨n10, hxn10, e7⟩ := bnd e7
     obtain ⟨c11, hxc11, e7⟩ := bnd e7
     refine WR.stepE (v' := .bool true) (Ex.gtr rfl rfl) (congrArg Value.bool (decide_eq_true hk9)) (Wn.none rfl) rfl rfl (MV rfl rfl (SG (Ex.move rfl) rfl rfl rfl (SG (Ex.move rfl) rfl rfl rfl (SG (Ex.lenStr Tryz.underlying9 rfl) rfl rfl rfl (SG (Ex.subC rfl rfl hxn10) rfl rfl rfl (SG (Ex.idxStrC Tryz.underlying9 rfl rfl hxc11) rfl rfl rfl (SG (Ex.move rfl) rfl rfl rfl (SG (Ex.eqlB (c := c11) (d := p1) rfl rfl) rfl rfl rfl (PT rfl rfl rfl (NL ?_))))))))))
     exact WQ.meetN [(0, _), (1, _), (16, _)] ⟨rfl, rfl, rfl, trivial⟩ ⟨_, _, rfl, H, e7⟩
    ·
     rw [if_neg hk9] at e7
     refine WR.stepE (v' := .bool false) (Ex.gtr rfl rfl) (congrArg Value.bool (decide_eq_false hk9)) (Wn.none rfl) rfl rfl (MV rfl rfl (WR.skipN 7 rfl rfl (PF rfl rfl rfl (NL ?_))))
     exact WQ.meetN [(0, _), (1, _), (16, _)] ⟨rfl, rfl, rfl, trivial⟩ ⟨_, _, rfl, H, e7⟩
   ·
    rintro e w ⟨b8, M, rfl, H, q12⟩
    obtain rfl := Option.some.inj q12
    refine TN ?_
    refine WC.condB rfl (fun hk13 => ?_) (fun hk13 => ?_)
    ·
     subst hk13
     rw [if_pos rfl] at e2
     refine SK (TN (BL ?_))
     obtain ⟨n14, hxn14, e2⟩ := bnd e2
     obtain ⟨s15, hxs15, e2⟩ := bnd e2
     refine RG (MV rfl rfl (MV rfl rfl (ST (Ex.lenStr Tryz.underlying9 rfl) rfl (ST (Ex.subC rfl rfl hxn14) rfl (ST (Ex.sliceH Tryz.underlying9 rfl rfl hxs15) rfl (AS rfl rfl (NL (IB ?_))))))))
     exact WQ.againP m5 [(0, _), (1, _)] ⟨rfl, rfl, trivial⟩ ⟨_, _, rfl, H, e2⟩ (Nat.lt_succ_self _)
    ·
     subst hk13
     rw [if_neg Bool.false_ne_true] at e2
     refine WC.exit (WQ.thenExit (WQ.thenExit (WQ.exitHere ?_)))
     exact WQ.meetN [(0, _)] ⟨rfl, trivial⟩ ⟨_, _, rfl, H, e2⟩
  ·
   rintro e w ⟨s3, M, rfl, H, q16⟩
   obtain rfl := Option.some.inj q16
   refine TN (SQ (RG (MV rfl rfl (AS rfl rfl (NL (TN (RT ?_)))))))
   obtain rfl := Option.some.inj h
   exact WQ.ret1 rfl rfl H.ext rfl
theorem strings_trimLeftByte_ct {p0 : List UInt8} {p1 : UInt8} {r : List UInt8} (h : strings_trimLeftByte p0 p1 = some r) : Ct Tryz.prog 106 [S p0, encB p1] (fun M => True) (fun v M => v = S r) := by
  refine Ct.of Tryz.func106 (enters Tryz.func106 (by kernel_rfl) rfl) rfl rfl rfl ?_
  intro w0 M0 H hp
  unfold strings_trimLeftByte at h
  refine SQ (RG (AS rfl rfl (NL (TN (SQ ?_)))))
  obtain ⟨o1, e2, h⟩ := bnd h
  refine WC.cutX (fun e w => ∃ (s3 : List UInt8) (M : Mem), e = [(0, S s3)] ∧ St w0 M0 M [] w ∧ some s3 = some o1) [] ?_ ?_ (trivial)
  ·
   refine BL (WC.loopP (fun m e w => ∃ (s4 : List UInt8) (M : Mem), e = [(0, S s4), (1, encB p1)] ∧ St w0 M0 M [] w ∧ strings_trimLeftByte_L1 p1 m s4 = some o1) FU [(0, _), (1, _)] ⟨rfl, rfl, trivial⟩ ⟨_, _, rfl, H, e2⟩ ?_)
   rintro m5 e w ⟨s4, M, rfl, H, e2⟩
   rcases m5 with _ | m5
   · rw [strings_trimLeftByte_L1] at e2; cases e2
   rw [strings_trimLeftByte_L1] at e2
   refine SQ (SQ ?_)
   obtain ⟨o6, e7, e2⟩ := bnd e2
   refine WC.cutX (fun e w => ∃ (b8 : Bool) (M : Mem), e = [(0, S s4), (1, encB p1), (13, Value.bool b8)] ∧ St w0 M0 M [] w ∧ some b8 = some o6) [] ?_ ?_ (trivial)
   ·
    refine RG (MV rfl rfl (ST (Ex.lenStr Tryz.underlying9 rfl) rfl ?_))
    by_cases hk9 : (0 : Int) < (s4.length : Int)
    ·
     rw [if_pos hk9] at e7
     obtain ⟨c10, hxc10, e7⟩ := bnd e7
     refine WR.stepE (v' := .bool true) (Ex.gtr rfl rfl) (congrArg Value.bool (decide_eq_true hk9)) (Wn.none rfl) rfl rfl (MV rfl rfl (SG (Ex.move rfl) rfl rfl rfl (SG (Ex.idxStrC Tryz.underlying9 rfl rfl hxc10) rfl rfl rfl (SG (Ex.move rfl) rfl rfl rfl (SG (Ex.eqlB (c := c10) (d := p1) rfl rfl) rfl rfl rfl (PT rfl rfl rfl (NL ?_)))))))
     exact WQ.meetN [(0, _), (1, _), (13, _)] ⟨rfl, rfl, rfl, trivial⟩ ⟨_, _, rfl, H, e7⟩
    ·
     rw [if_neg hk9] at e7
     refine WR.stepE (v' := .bool false) (Ex.gtr rfl rfl) (congrArg Value.bool (decide_eq_false hk9)) (Wn.none rfl) rfl rfl (MV rfl rfl (WR.skipN 4 rfl rfl (PF rfl rfl rfl (NL ?_))))
     exact WQ.meetN [(0, _), (1, _), (13, _)] ⟨rfl, rfl, rfl, trivial⟩ ⟨_, _, rfl, H, e7⟩
   ·
    rintro e w ⟨b8, M, rfl, H, q11⟩
    obtain rfl := Option.some.inj q11
    refine TN ?_
    refine WC.condB rfl (fun hk12 => ?_) (fun hk12 => ?_)
    ·
     subst hk12
     rw [if_pos rfl] at e2
     refine SK (TN (BL ?_))
     obtain ⟨s13, hxs13, e2⟩ := bnd e2
     refine RG (MV rfl rfl (ST (Ex.sliceL Tryz.underlying9 rfl rfl hxs13) rfl (AS rfl rfl (NL (IB ?_)))))
     exact WQ.againP m5 [(0, _), (1, _)] ⟨rfl, rfl, trivial⟩ ⟨_, _, rfl, H, e2⟩ (Nat.lt_succ_self _)
    ·
     subst hk12
     rw [if_neg Bool.false_ne_true] at e2
     refine WC.exit (WQ.thenExit (WQ.thenExit (WQ.exitHere ?_)))
     exact WQ.meetN [(0, _)] ⟨rfl, trivial⟩ ⟨_, _, rfl, H, e2⟩
  ·
   rintro e w ⟨s3, M, rfl, H, q14⟩
   obtain rfl := Option.some.inj q14
   refine TN (SQ (RG (MV rfl rfl (AS rfl rfl (NL (TN (RT ?_)))))))
   obtain rfl := Option.some.inj h
   exact WQ.ret1 rfl rfl H.ext rfl
theorem strings_trimRightASCII_ct {p0 : List UInt8} {p1 : List Bool} {bp1 : Nat} {r : List UInt8} (h : strings_trimRightASCII p0 p1 = some r) : Ct Tryz.prog 110 [S p0, ptr bp1 0] (fun M => PtM M bp1 (.cells (List.map encBo p1).toArray 142)) (fun v M => v = S r) := by
  refine Ct.of Tryz.func110 (enters Tryz.func110 (by kernel_rfl) rfl) rfl rfl rfl ?_
  intro w0 M0 H hp
  have hp1 := hp
  unfold strings_trimRightASCII at h
  refine SQ (RG (AS rfl rfl (NL (TN (SQ ?_)))))
  obtain ⟨o1, e2, h⟩ := bnd h
  refine WC.cutX (fun e w => ∃ (s3 : List UInt8) (M : Mem), e = [(0, S s3)] ∧ St w0 M0 M [] w ∧ some s3 = some o1) [] ?_ ?_ (trivial)
  ·
   refine BL (WC.loopP (fun m e w => ∃ (s4 : List UInt8) (M : Mem), e = [(0, S s4), (1, ptr bp1 0)] ∧ St w0 M0 M [] w ∧ PtM M bp1 (.cells (List.map encBo p1).toArray 142) ∧ strings_trimRightASCII_L1 p1 m s4 = some o1) FU [(0, _), (1, _)] ⟨rfl, rfl, trivial⟩ ⟨_, _, rfl, H, hp1, e2⟩ ?_)
   rintro m5 e w ⟨s4, M, rfl, H, hp1, e2⟩
   rcases m5 with _ | m5
   · rw [strings_trimRightASCII_L1] at e2; cases e2
   rw [strings_trimRightASCII_L1] at e2
   refine SQ (SQ (RG (MV rfl rfl (ST (Ex.lenStr Tryz.underlying9 rfl) rfl (ST (Ex.gtr rfl rfl) rfl (NL (TN ?_)))))))
   refine WC.condB rfl (fun hk6 => ?_) (fun hk6 => ?_)
   ·
    replace hk6 : (0 : Int) < (s4.length : Int) := of_decide_eq_true hk6
    rw [if_pos hk6] at e2
    refine SK (TN (BL (SQ (SQ ?_))))
    obtain ⟨n7, hxn7, e2⟩ := bnd e2
    obtain ⟨c8, hxc8, e2⟩ := bnd e2
    obtain ⟨b9, hx10, e2⟩ := bnd e2
    refine RG (MV rfl rfl (MV rfl rfl (MV rfl rfl (ST (Ex.lenStr Tryz.underlying9 rfl) rfl (ST (Ex.subC rfl rfl hxn7) rfl (ST (Ex.idxStrC Tryz.underlying9 rfl rfl hxc8) rfl (WR.call H (strings_asciiSet_contains_ct hx10) rfl (hp1) (Wn.none rfl) rfl ?_)))))))
    intro v14 M w H hle hR
    replace hp1 := hp1.mono hle
    obtain rfl := hR
    refine ST (Ex.not rfl) rfl (NL (TN ?_))
    refine WC.condB rfl (fun hk11 => ?_) (fun hk11 => ?_)
    ·
     replace hk11 : b9 = false := by simpa using hk11
     subst hk11
     rw [if_neg Bool.false_ne_true] at e2
     refine WC.exit (WQ.thenExit (WQ.exitOut rfl (WQ.thenExit (WQ.exitHere ?_))))
     exact WQ.meetN [(0, _)] ⟨rfl, trivial⟩ ⟨_, _, rfl, H, e2⟩
    ·
     replace hk11 : b9 = true := by simpa using hk11
     subst hk11
     rw [if_pos rfl] at e2
     refine SK (TN ?_)
     obtain ⟨n12, hxn12, e2⟩ := bnd e2
     obtain ⟨s13, hxs13, e2⟩ := bnd e2
     refine RG (MV rfl rfl (MV rfl rfl (ST (Ex.lenStr Tryz.underlying9 rfl) rfl (ST (Ex.subC rfl rfl hxn12) rfl (ST (Ex.sliceH Tryz.underlying9 rfl rfl hxs13) rfl (AS rfl rfl (NL (IB ?_))))))))
     exact WQ.againP m5 [(0, _), (1, _)] ⟨rfl, rfl, trivial⟩ ⟨_, _, rfl, H, hp1, e2⟩ (Nat.lt_succ_self _)
   ·
    replace hk6 : ¬ ((0 : Int) < (s4.length : Int)) := of_decide_eq_false hk6
    rw [if_neg hk6] at e2
    refine WC.exit (WQ.thenExit (WQ.thenExit (WQ.exitHere ?_)))
    exact WQ.meetN [(0, _)] ⟨rfl, trivial⟩ ⟨_, _, rfl, H, e2⟩
  ·
   rintro e w ⟨s3, M, rfl, H, q14⟩
   obtain rfl := Option.some.inj q14
   refine TN (SQ (RG (MV rfl rfl (AS rfl rfl (NL (TN (RT ?_)))))))
   obtain rfl := Option.some.inj h
   exact WQ.ret1 rfl rfl H.ext rfl
end Go.Proofs.YtogkmhjnojphiaaGreatDoor
end
section
set_option maxRecDepth 100000
set_option linter.unusedVariables false
set_option linter.unusedSimpArgs false
namespace Go.Proofs.YtogkmhjnojphiaaGreatDoor
open Go Go.RowKit Go.Ph Go.Ph.Pl Go.Ph.Pf
theorem strings_trimLeftASCII_ct {p0 : List UInt8} {p1 : List Bool} {bp1 : Nat} {r : List UInt8} (h : strings_trimLeftASCII p0 p1 = some r) : Ct Tryz.prog 109 [S p0, ptr bp1 0] (fun M => PtM M bp1 (.cells (List.map encBo p1).toArray 142)) (fun v M => v = S r) := by
  refine Ct.of Tryz.func109 (enters Tryz.func109 (by kernel_rfl) rfl) rfl rfl rfl ?_
  intro w0 M0 H hp
  have hp1 := hp
  unfold strings_trimLeftASCII at h
  refine SQ (RG (AS rfl rfl (NL (TN (SQ ?_)))))
  obtain ⟨o1, e2, h⟩ := bnd h
  refine WC.cutX (fun e w => ∃ (s3 : List UInt8) (M : Mem), e = [(0, S s3)] ∧ St w0 M0 M [] w ∧ some s3 = some o1) [] ?_ ?_ (trivial)
  ·
   refine BL (WC.loopP (fun m e w => ∃ (s4 : List UInt8) (M : Mem), e = [(0, S s4), (1, ptr bp1 0)] ∧ St w0 M0 M [] w ∧ PtM M bp1 (.cells (List.map encBo p1).toArray 142) ∧ strings_trimLeftASCII_L1 p1 m s4 = some o1) FU [(0, _), (1, _)] ⟨rfl, rfl, trivial⟩ ⟨_, _, rfl, H, hp1, e2⟩ ?_)
   rintro m5 e w ⟨s4, M, rfl, H, hp1, e2⟩
   rcases m5 with _ | m5
   · rw [strings_trimLeftASCII_L1] at e2; cases e2
   rw [strings_trimLeftASCII_L1] at e2
   refine SQ (SQ (RG (MV rfl rfl (ST (Ex.lenStr Tryz.underlying9 rfl) rfl (ST (Ex.gtr rfl rfl) rfl (NL (TN ?_)))))))
   refine WC.condB rfl (fun hk6 => ?_) (fun hk6 => ?_)
   ·
    replace hk6 : (0 : Int) < (s4.length : Int) := of_decide_eq_true hk6
    rw [if_pos hk6] at e2
    refine SK (TN (BL (SQ (SQ ?_))))
    obtain ⟨c7, hxc7, e2⟩ := bnd e2
    obtain ⟨b8, hx9, e2⟩ := bnd e2
    refine RG (MV rfl rfl (MV rfl rfl (ST (Ex.idxStrC Tryz.underlying9 rfl rfl hxc7) rfl (WR.call H (strings_asciiSet_contains_ct hx9) rfl (hp1) (Wn.none rfl) rfl ?_))))
    intro v11 M w H hle hR
    replace hp1 := hp1.mono hle
    obtain rfl := hR
    refine ST (Ex.not rfl) rfl (NL (TN ?_))
    refine WC.condB rfl (fun hk10 => ?_) (fun hk10 => ?_)
    ·
     replace hk10 : b8 = false := by simpa using hk10
     subst hk10
     rw [if_neg Bool.false_ne_true] at e2
     refine WC.exit (WQ.thenExit (WQ.exitOut rfl (WQ.thenExit (WQ.exitHere ?_))))
     exact WQ.meetN [(0, _)] ⟨rfl, trivial⟩ ⟨_, _, rfl, H, e2⟩
    ·
     replace hk10 : b8 = true := by simpa using hk10
     subst hk10
     rw [if_pos rfl] at e2
     refine SK (TN ?_)
     obtain ⟨s11, hxs11, e2⟩ := bnd e2
     refine RG (MV rfl rfl (ST (Ex.sliceL Tryz.underlying9 rfl rfl hxs11) rfl (AS rfl rfl (NL (IB ?_)))))
     exact WQ.againP m5 [(0, _), (1, _)] ⟨rfl, rfl, trivial⟩ ⟨_, _, rfl, H, hp1, e2⟩ (Nat.lt_succ_self _)
   ·
    replace hk6 : ¬ ((0 : Int) < (s4.length : Int)) := of_decide_eq_false hk6
    rw [if_neg hk6] at e2
    refine WC.exit (WQ.thenExit (WQ.thenExit (WQ.exitHere ?_)))
    exact WQ.meetN [(0, _)] ⟨rfl, trivial⟩ ⟨_, _, rfl, H, e2⟩
  ·
   rintro e w ⟨s3, M, rfl, H, q12⟩
   obtain rfl := Option.some.inj q12
   refine TN (SQ (RG (MV rfl rfl (AS rfl rfl (NL (TN (RT ?_)))))))
   obtain rfl := Option.some.inj h
   exact WQ.ret1 rfl rfl H.ext rfl
theorem strings_Trim_ct {p0 : List UInt8} {p1 : List UInt8} {r : List UInt8} (h : strings_Trim p0 p1 = some r) : Ct Tryz.prog 60 [S p0, S p1] (fun M => True) (fun v M => v = S r) := by
  refine Ct.of Tryz.func60 (enters Tryz.func60 (by kernel_rfl) rfl) rfl rfl rfl ?_
  intro w0 M0 H hp
  unfold strings_Trim at h
  refine SQ (RG (AS rfl rfl (NL (TN (SQ (SQ ?_))))))
  obtain ⟨o1, e2, h⟩ := bnd h
  refine WC.cutX (fun e w => ∃ (b3 : Bool) (M : Mem), e = [(0, S p0), (1, S p1), (12, Value.bool b3)] ∧ St w0 M0 M [] w ∧ some b3 = some o1) [] ?_ ?_ (trivial)
  ·
   by_cases hk4 : p0 = []
   ·
    rw [if_pos hk4] at e2
    refine RG (MV rfl rfl (WR.stepE (v' := .bool true) (Ex.strEql rfl rfl) (congrArg Value.bool (decide_eq_true hk4)) (Wn.none rfl) rfl rfl (MV rfl rfl (GT rfl rfl rfl (GT rfl rfl rfl (PT rfl rfl rfl (NL ?_)))))))
    exact WQ.meetN [(0, _), (1, _), (12, _)] ⟨rfl, rfl, rfl, trivial⟩ ⟨_, _, rfl, H, e2⟩
   ·
    rw [if_neg hk4] at e2
    refine RG (MV rfl rfl (WR.stepE (v' := .bool false) (Ex.strEql rfl rfl) (congrArg Value.bool (decide_eq_false hk4)) (Wn.none rfl) rfl rfl (MV rfl rfl (SG (Ex.move rfl) rfl rfl rfl (SG (Ex.strEql rfl rfl) rfl rfl rfl (PF rfl rfl rfl (NL ?_)))))))
    exact WQ.meetN [(0, _), (1, _), (12, _)] ⟨rfl, rfl, rfl, trivial⟩ ⟨_, _, rfl, H, e2⟩
  ·
   rintro e w ⟨b3, M, rfl, H, q5⟩
   obtain rfl := Option.some.inj q5
   refine TN ?_
   refine WC.condB rfl (fun hk6 => ?_) (fun hk6 => ?_)
   ·
    subst hk6
    rw [if_pos rfl] at h
    refine SQ (RG (MV rfl rfl (AS rfl rfl (NL (TN (RT ?_))))))
    obtain rfl := Option.some.inj h
    exact WQ.ret1 rfl rfl H.ext rfl
   ·
    subst hk6
    rw [if_neg Bool.false_ne_true] at h
    refine SK (TN (SQ (SQ ?_)))
    obtain ⟨o7, e8, h⟩ := bnd h
    refine WC.cutX (fun e w => ∃ (b9 : Bool) (M : Mem), e = [(0, S p0), (1, S p1), (21, Value.bool b9)] ∧ St w0 M0 M [] w ∧ some b9 = some o7) [] ?_ ?_ (trivial)
    ·
     refine RG (MV rfl rfl (ST (Ex.lenStr Tryz.underlying9 rfl) rfl ?_))
     by_cases hk10 : (p1.length : Int) = (1 : Int)
     ·
      rw [if_pos hk10] at e8
      obtain ⟨c11, hxc11, e8⟩ := bnd e8
      refine WR.stepE (v' := .bool true) (Ex.eql rfl rfl) (congrArg Value.bool (decide_eq_true hk10)) (Wn.none rfl) rfl rfl (MV rfl rfl (SG (Ex.move rfl) rfl rfl rfl (SG (Ex.idxStrC Tryz.underlying9 rfl rfl hxc11) rfl rfl rfl (SG (Ex.lssB (i := c11.toNat) (j := 128) rfl rfl) rfl rfl rfl (PT rfl rfl rfl (NL ?_))))))
      exact WQ.meetN [(0, _), (1, _), (21, _)] ⟨rfl, rfl, rfl, trivial⟩ ⟨_, _, rfl, H, e8⟩
     ·
      rw [if_neg hk10] at e8
      refine WR.stepE (v' := .bool false) (Ex.eql rfl rfl) (congrArg Value.bool (decide_eq_false hk10)) (Wn.none rfl) rfl rfl (MV rfl rfl (WR.skipN 3 rfl rfl (PF rfl rfl rfl (NL ?_))))
      exact WQ.meetN [(0, _), (1, _), (21, _)] ⟨rfl, rfl, rfl, trivial⟩ ⟨_, _, rfl, H, e8⟩
    ·
     rintro e w ⟨b9, M, rfl, H, q12⟩
     obtain rfl := Option.some.inj q12
     refine TN ?_
     refine WC.condB rfl (fun hk13 => ?_) (fun hk13 => ?_)
     ·
      subst hk13
      rw [if_pos rfl] at h
      refine SQ ?_
      obtain ⟨c14, hxc14, h⟩ := bnd h
      obtain ⟨s15, hx16, h⟩ := bnd h
      obtain ⟨c17, hxc17, h⟩ := bnd h
      obtain ⟨s18, hx19, h⟩ := bnd h
      refine WC.draw (m := 8) rfl rfl H ?_
      intro w H
      refine WA.take (i := 0) rfl (by kernel_rfl) (by kernel_rfl) (by kernel_rfl) (fun _ => Ex.move rfl) (Wn.none rfl) rfl rfl (fun _ _ => rfl) (WA.take (i := 1) rfl (by kernel_rfl) (by kernel_rfl) (by kernel_rfl) (fun _ => Ex.move rfl) (Wn.none rfl) rfl rfl (fun _ _ => rfl) (WA.take (i := 2) rfl (by kernel_rfl) (by kernel_rfl) (by kernel_rfl) (fun _ => Ex.idxStrC Tryz.underlying9 rfl rfl hxc14) (Wn.none rfl) rfl rfl (fun _ _ => rfl) (WA.take (i := 4) rfl (by kernel_rfl) (by kernel_rfl) (by kernel_rfl) (fun _ => Ex.move rfl) (Wn.none rfl) rfl rfl (fun _ _ => rfl) (WA.take (i := 5) rfl (by kernel_rfl) (by kernel_rfl) (by kernel_rfl) (fun _ => Ex.idxStrC Tryz.underlying9 rfl rfl hxc17) (Wn.none rfl) rfl rfl (fun _ _ => rfl) (WA.seq (fuel := 0) [3, 6, 7] rfl (by kernel_rfl) (WR.call H (strings_trimRightByte_ct hx16) rfl trivial (Wn.none rfl) rfl ?_))))))
      intro v25 M w H hle hR
      obtain rfl := hR
      refine WR.call H (strings_trimLeftByte_ct hx19) rfl trivial (Wn.none rfl) rfl ?_
      intro v28 M w H hle hR
      obtain rfl := hR
      refine AS rfl rfl (NA (WA.done (by kernel_rfl) (TN (RT ?_))))
      obtain rfl := Option.some.inj h
      exact WQ.ret1 rfl rfl H.ext rfl
     ·
      subst hk13
      rw [if_neg Bool.false_ne_true] at h
      refine SK (TN (SQ (SQ ?_)))
      obtain ⟨⟨n20, b21⟩, hx22, h⟩ := bnd h
      try dsimp only at h
      obtain ⟨l23, hxl23, h⟩ := bnd h
      obtain ⟨l24, hxl24, h⟩ := bnd h
      refine RG (MV rfl rfl (WR.call H (strings_makeASCIISet_ct hx22) rfl trivial (Wn.none rfl) rfl ?_))
      intro v31 M w H hle hR
      try dsimp only at hR
      obtain rfl := hR
      refine MV rfl rfl (ST (Ex.extract rfl rfl) rfl (ST (Ex.extract rfl rfl) rfl (WR.alloc (List.map encBo (List.replicate 256 false : List Bool)) H Tryz.zeroValue142 (by kernel_rfl) (Wn.none rfl) rfl ?_)))
      intro b5 w H
      refine WR.storeA (l2 := n20) H rfl rfl (fun _ => rfl) (fun _ => by repeat first | exact .head | apply Upd.tail) hxl23 hxl24 Tryz.sizeOf142 (Wn.none rfl) ?_
      intro w H
      refine AS rfl rfl (NL (TN (SQ (RG (MV rfl rfl (NL (TN ?_)))))))
      refine WC.condB rfl (fun hk25 => ?_) (fun hk25 => ?_)
      ·
       subst hk25
       rw [if_pos rfl] at h
       refine SQ ?_
       obtain ⟨s27, hx28, h⟩ := bnd h
       obtain ⟨s29, hx30, h⟩ := bnd h
       refine RG (MV rfl rfl ?_)
       obtain ⟨M, hle, hb26, H⟩ := H.freezeVar (b := b5) (by repeat first | exact .head | apply Rem.tail)
       refine WR.call H (strings_trimRightASCII_ct hx28) rfl (hb26) (Wn.none rfl) rfl ?_
       intro v36 M w H hle hR
       replace hb26 := hb26.mono hle
       obtain rfl := hR
       refine WR.call H (strings_trimLeftASCII_ct hx30) rfl (hb26) (Wn.none rfl) rfl ?_
       intro v37 M w H hle hR
       replace hb26 := hb26.mono hle
       obtain rfl := hR
       refine AS rfl rfl (NL (TN (RT ?_)))
       obtain rfl := Option.some.inj h
       exact WQ.ret1 rfl rfl H.ext rfl
      ·
       subst hk25
       rw [if_neg Bool.false_ne_true] at h
       cases h
theorem fold_Unfold_ct {p0 : List (List UInt8)} {vp0 : Value} {r : (List UInt8 × List UInt8 × (Int × Int))} (h : fold_Unfold p0 = some r) : Ct Tryz.prog 36 [vp0] (fun M => GlF (fun w => ∃ m, w.cell? ⟨2, 0, none⟩ = some (.int .i64 m)) M ∧ Sl M encS vp0 p0) (fun v M => v = Value.tuple #[S r.1, S r.2.1, Value.agg #[I r.2.2.1, I r.2.2.2]]) := by
  refine Ct.of Tryz.func36 (enters Tryz.func36 (by kernel_rfl) rfl) rfl rfl rfl ?_
  intro w0 M0 H hp
  obtain ⟨hg_maxl, hp0⟩ := hp
  unfold fold_Unfold at h
  refine SQ (RG (AS rfl rfl (AS rfl rfl (WR.alloc [_, _] H Tryz.zeroValue24 rfl (Wn.none rfl) rfl ?_))))
  intro b4 w H
  refine NL (TN (SQ (SQ (RG (MV rfl rfl (ST (Ex.lenSl Tryz.underlying43 hp0 rfl) rfl (ST (Ex.gtr rfl rfl) rfl (NL (TN ?_)))))))))
  refine WC.condB rfl (fun hk1 => ?_) (fun hk1 => ?_)
  ·
   replace hk1 : (300 : Int) < (p0.length : Int) := of_decide_eq_true hk1
   rw [if_pos hk1] at h
   refine SQ ?_
   obtain ⟨⟨n2, n3⟩, hx4, h⟩ := bnd h
   try dsimp only at h
   refine RG (WR.call H (basic_Fault_ct hx4) rfl trivial (Wn.none rfl) rfl ?_)
   intro v14 M w H hle hR
   replace hg_maxl := hg_maxl.mono hle
   replace hp0 := hp0.mono hle
   try dsimp only at hR
   obtain rfl := hR
   refine AS rfl rfl (AS rfl rfl (WR.store [_, _] H rfl rfl rfl (by repeat first | exact .head | apply Upd.tail) Tryz.sizeOf24 rfl (by rfl) (by rfl) (Wn.none rfl) ?_))
   intro w H
   refine NL (TN (RT ?_))
   obtain rfl := Option.some.inj h
   exact WQ.ret3 rfl rfl rfl ⟨_, rfl, H.loadAgg (by repeat (first | exact List.Mem.head _ | apply List.Mem.tail)) Tryz.isAgg24 Tryz.sizeOf24 (by rfl)⟩ H.ext rfl
  ·
   replace hk1 : ¬ ((300 : Int) < (p0.length : Int)) := of_decide_eq_false hk1
   rw [if_neg hk1] at h
   refine SK (TN (SQ (RG (AS rfl rfl (NL (TN (SQ (SQ (RG (MV rfl rfl (ST (Ex.lenSl Tryz.underlying43 hp0 rfl) rfl (MV rfl rfl (NL (TN ?_))))))))))))))
   obtain ⟨o5, e6, h⟩ := bnd h
   refine WC.cutX (fun e w => ∃ (n7 : Int) (n8 : Int) (n9 : Int) (M : Mem), e = [(0, vp0), (4, ptr b4 0), (5, I n9)] ∧ St w0 M0 M [.blk b4 (.cells #[I n7, I n8] 24)] w ∧ GlF (fun w => ∃ m, w.cell? ⟨2, 0, none⟩ = some (.int .i64 m)) M ∧ Sl M encS vp0 p0 ∧ some (.inl (n7, n8, n9)) = some o5) [] ?_ ?_ (trivial)
   ·
    refine BL (WC.loopP (fun m e w => ∃ (n10 : Int) (n11 : Int) (n12 : Int) (n13 : Int) (M : Mem), e = [(0, vp0), (4, ptr b4 0), (5, I n12), (15, vp0), (16, I (p0.length : Int)), (17, I n13)] ∧ St w0 M0 M [.blk b4 (.cells #[I n10, I n11] 24)] w ∧ GlF (fun w => ∃ m, w.cell? ⟨2, 0, none⟩ = some (.int .i64 m)) M ∧ Sl M encS vp0 p0 ∧ fold_Unfold_L1 p0 m n10 n11 n12 n13 = some o5) FU [(0, _), (4, _), (5, _), (15, _), (16, _), (17, _)] ⟨rfl, rfl, rfl, rfl, rfl, rfl, trivial⟩ ⟨_, _, _, _, _, rfl, H, hg_maxl, hp0, e6⟩ ?_)
    rintro m14 e w ⟨n10, n11, n12, n13, M, rfl, H, hg_maxl, hp0, e6⟩
    rcases m14 with _ | m14
    · rw [fold_Unfold_L1] at e6; cases e6
    rw [fold_Unfold_L1] at e6
    refine SQ (RG (ST (Ex.lss rfl rfl) rfl (NL (TN (SQ ?_)))))
    refine WC.condB rfl (fun hk15 => ?_) (fun hk15 => ?_)
    ·
     replace hk15 : n13 < (p0.length : Int) := of_decide_eq_true hk15
     rw [if_pos hk15] at e6
     refine SK (TN (SQ (BL (SQ ?_))))
     obtain ⟨a16, hxa16, e6⟩ := bnd e6
     obtain ⟨b20, o20, ha20, hc20⟩ := hp0.atC hxa16
     refine RG (MV rfl rfl (ST (Ex.idxAt ha20 Tryz.underlying43 Tryz.sizeOf9 rfl rfl) rfl (ST (Ex.loadM H rfl hc20 Tryz.isAgg9) rfl (AS rfl rfl (AS rfl rfl (NL (TN (SQ (SQ ?_)))))))))
     obtain ⟨o17, e18, e6⟩ := bnd e6
     refine WC.cutX (fun e w => ∃ (b19 : Bool) (M : Mem), e = [(0, vp0), (4, ptr b4 0), (5, I n12), (6, I n13), (7, S a16), (15, vp0), (16, I (p0.length : Int)), (17, I n13), (37, Value.bool b19)] ∧ St w0 M0 M [.blk b4 (.cells #[I n10, I n11] 24)] w ∧ GlF (fun w => ∃ m, w.cell? ⟨2, 0, none⟩ = some (.int .i64 m)) M ∧ Sl M encS vp0 p0 ∧ some b19 = some o17) [] ?_ ?_ (trivial)
     ·
      obtain ⟨b20, hx21, e18⟩ := bnd e18
      refine RG (MV rfl rfl (WR.call H (fold_ends_ct hx21) rfl trivial (Wn.none rfl) rfl ?_))
      intro v23 M w H hle hR
      replace hg_maxl := hg_maxl.mono hle
      replace hp0 := hp0.mono hle
      replace hc20 := hc20.mono hle
      obtain rfl := hR
      refine MV rfl rfl ?_
      rcases b20 with _ | _
      ·
       rw [if_neg Bool.false_ne_true] at e18
       by_cases hk22 : (0 : Int) < n13
       ·
        rw [if_pos hk22] at e18
        refine SG (Ex.move rfl) rfl rfl rfl (WR.stepE (v' := .bool true) (Ex.gtr rfl rfl) (congrArg Value.bool (decide_eq_true hk22)) (Wn.some rfl rfl rfl) rfl rfl ?_)
        by_cases hk23 : a16 = []
        ·
         rw [if_pos hk23] at e18
         refine SG (Ex.move rfl) rfl rfl rfl (SG (Ex.move rfl) rfl rfl rfl (WR.stepE (v' := .bool true) (Ex.strEql rfl rfl) (congrArg Value.bool (decide_eq_true hk23)) (Wn.some rfl rfl rfl) rfl rfl (SG (Ex.move rfl) rfl rfl rfl (WR.skipN 4 rfl rfl (SG (Ex.pickT rfl rfl) rfl rfl rfl (SG (Ex.pickT rfl rfl) rfl rfl rfl (PF rfl rfl rfl (NL ?_))))))))
         exact WQ.meetN [(0, _), (4, _), (5, _), (6, _), (7, _), (15, _), (16, _), (17, _), (37, _)] ⟨rfl, rfl, rfl, rfl, rfl, rfl, rfl, rfl, rfl, trivial⟩ ⟨_, _, rfl, H, hg_maxl, hp0, e18⟩
        ·
         rw [if_neg hk23] at e18
         obtain ⟨c24, hxc24, e18⟩ := bnd e18
         obtain ⟨b25, hx26, e18⟩ := bnd e18
         refine SG (Ex.move rfl) rfl rfl rfl (SG (Ex.move rfl) rfl rfl rfl (WR.stepE (v' := .bool false) (Ex.strEql rfl rfl) (congrArg Value.bool (decide_eq_false hk23)) (Wn.some rfl rfl rfl) rfl rfl (SG (Ex.move rfl) rfl rfl rfl (SG (Ex.move rfl) rfl rfl rfl (SG (Ex.idxStrC Tryz.underlying9 rfl rfl hxc24) rfl rfl rfl (WR.call H (basic_Blank_ct hx26) rfl trivial (Wn.some rfl rfl rfl) rfl ?_))))))
         intro v33 M w H hle hR
         replace hg_maxl := hg_maxl.mono hle
         replace hp0 := hp0.mono hle
         replace hc20 := hc20.mono hle
         obtain rfl := hR
         refine SG (Ex.not rfl) rfl rfl rfl (SG (Ex.pickF rfl rfl) rfl rfl rfl (SG (Ex.pickT rfl rfl) rfl rfl rfl (PF rfl rfl rfl (NL ?_))))
         exact WQ.meetN [(0, _), (4, _), (5, _), (6, _), (7, _), (15, _), (16, _), (17, _), (37, _)] ⟨rfl, rfl, rfl, rfl, rfl, rfl, rfl, rfl, rfl, trivial⟩ ⟨_, _, rfl, H, hg_maxl, hp0, e18⟩
       ·
        rw [if_neg hk22] at e18
        refine SG (Ex.move rfl) rfl rfl rfl (WR.stepE (v' := .bool false) (Ex.gtr rfl rfl) (congrArg Value.bool (decide_eq_false hk22)) (Wn.some rfl rfl rfl) rfl rfl (SG (Ex.move rfl) rfl rfl rfl (WR.skipN 8 rfl rfl (SG (Ex.pickF rfl rfl) rfl rfl rfl (PF rfl rfl rfl (NL ?_))))))
        exact WQ.meetN [(0, _), (4, _), (5, _), (6, _), (7, _), (15, _), (16, _), (17, _), (37, _)] ⟨rfl, rfl, rfl, rfl, rfl, rfl, rfl, rfl, rfl, trivial⟩ ⟨_, _, rfl, H, hg_maxl, hp0, e18⟩
      ·
       rw [if_pos rfl] at e18
       refine WR.skipN 12 rfl rfl (PT rfl rfl rfl (NL ?_))
       exact WQ.meetN [(0, _), (4, _), (5, _), (6, _), (7, _), (15, _), (16, _), (17, _), (37, _)] ⟨rfl, rfl, rfl, rfl, rfl, rfl, rfl, rfl, rfl, trivial⟩ ⟨_, _, rfl, H, hg_maxl, hp0, e18⟩
     ·
      rintro e w ⟨b19, M, rfl, H, hg_maxl, hp0, q27⟩
      obtain rfl := Option.some.inj q27
      refine TN ?_
      refine WC.condB rfl (fun hk28 => ?_) (fun hk28 => ?_)
      ·
       subst hk28
       rw [if_pos rfl] at e6
       refine SQ ?_
       obtain ⟨⟨n29, n30⟩, hx31, e6⟩ := bnd e6
       try dsimp only at e6
       refine RG (MV rfl rfl (WR.call H (basic_Fault_ct hx31) rfl trivial (Wn.none rfl) rfl ?_))
       intro v39 M w H hle hR
       replace hg_maxl := hg_maxl.mono hle
       replace hp0 := hp0.mono hle
       try dsimp only at hR
       obtain rfl := hR
       refine AS rfl rfl (AS rfl rfl (WR.store [_, _] H rfl rfl rfl (by repeat first | exact .head | apply Upd.tail) Tryz.sizeOf24 rfl (by rfl) (by rfl) (Wn.none rfl) ?_))
       intro w H
       refine NL (TN (RT ?_))
       obtain rfl := Option.some.inj e6
       try dsimp only at h
       obtain rfl := Option.some.inj h
       exact WQ.ret3 rfl rfl rfl ⟨_, rfl, H.loadAgg (by repeat (first | exact List.Mem.head _ | apply List.Mem.tail)) Tryz.isAgg24 Tryz.sizeOf24 (by rfl)⟩ H.ext rfl
      ·
       subst hk28
       rw [if_neg Bool.false_ne_true] at e6
       refine SK (TN ?_)
       obtain ⟨n32, hxn32, e6⟩ := bnd e6
       refine RG (MV rfl rfl (MV rfl rfl (ST (Ex.lenStr Tryz.underlying9 rfl) rfl (ST (Ex.addC rfl rfl hxn32) rfl (AS rfl rfl (NL (IB (TN ?_))))))))
       obtain ⟨n33, hxn33, e6⟩ := bnd e6
       refine RG (ST (Ex.addC rfl rfl hxn33) rfl (MV rfl rfl (NL ?_)))
       exact WQ.againP m14 [(0, _), (4, _), (5, _), (15, _), (16, _), (17, _)] ⟨rfl, rfl, rfl, rfl, rfl, rfl, trivial⟩ ⟨_, _, _, _, _, rfl, H, hg_maxl, hp0, e6⟩ (Nat.lt_succ_self _)
    ·
     replace hk15 : ¬ (n13 < (p0.length : Int)) := of_decide_eq_false hk15
     rw [if_neg hk15] at e6
     refine WC.exit (WQ.thenExit (WQ.thenExit (WQ.exitHere ?_)))
     exact WQ.meetN [(0, _), (4, _), (5, _)] ⟨rfl, rfl, rfl, trivial⟩ ⟨_, _, _, _, rfl, H, hg_maxl, hp0, e6⟩
   ·
    rintro e w ⟨n7, n8, n9, M, rfl, H, hg_maxl, hp0, q34⟩
    obtain rfl := Option.some.inj q34
    try dsimp only at h
    refine TN (SQ (SQ (RG (MV rfl rfl (ST (Ex.gtr rfl rfl) rfl (NL (TN ?_)))))))
    refine WC.condB rfl (fun hk35 => ?_) (fun hk35 => ?_)
    ·
     replace hk35 : (8000 : Int) < n9 := of_decide_eq_true hk35
     rw [if_pos hk35] at h
     refine SQ ?_
     obtain ⟨⟨n36, n37⟩, hx38, h⟩ := bnd h
     try dsimp only at h
     refine RG (WR.call H (basic_Fault_ct hx38) rfl trivial (Wn.none rfl) rfl ?_)
     intro v47 M w H hle hR
     replace hg_maxl := hg_maxl.mono hle
     replace hp0 := hp0.mono hle
     try dsimp only at hR
     obtain rfl := hR
     refine AS rfl rfl (AS rfl rfl (WR.store [_, _] H rfl rfl rfl (by repeat first | exact .head | apply Upd.tail) Tryz.sizeOf24 rfl (by rfl) (by rfl) (Wn.none rfl) ?_))
     intro w H
     refine NL (TN (RT ?_))
     obtain rfl := Option.some.inj h
     exact WQ.ret3 rfl rfl rfl ⟨_, rfl, H.loadAgg (by repeat (first | exact List.Mem.head _ | apply List.Mem.tail)) Tryz.isAgg24 Tryz.sizeOf24 (by rfl)⟩ H.ext rfl
    ·
     replace hk35 : ¬ ((8000 : Int) < n9) := of_decide_eq_false hk35
     rw [if_neg hk35] at h
     refine SK (TN (SQ ?_))
     obtain ⟨s39, hx40, h⟩ := bnd h
     obtain ⟨⟨s41, s42, b43⟩, hx44, h⟩ := bnd h
     try dsimp only at h
     refine RG (MV rfl rfl (WR.call H (strings_Join_ct hx40) rfl (hp0) (Wn.none rfl) rfl ?_))
     intro v50 M w H hle hR
     replace hg_maxl := hg_maxl.mono hle
     replace hp0 := hp0.mono hle
     obtain rfl := hR
     refine WR.call H (strings_Cut_ct hx44) rfl (hg_maxl) (Wn.none rfl) rfl ?_
     intro v51 M w H hle hR
     replace hg_maxl := hg_maxl.mono hle
     replace hp0 := hp0.mono hle
     try dsimp only at hR
     obtain rfl := hR
     refine MV rfl rfl (ST (Ex.extract rfl rfl) rfl (ST (Ex.extract rfl rfl) rfl (ST (Ex.extract rfl rfl) rfl (AS rfl rfl (AS rfl rfl (AS rfl rfl (NL (TN (SQ (SQ ?_))))))))))
     obtain ⟨o45, e46, h⟩ := bnd h
     refine WC.cutX (fun e w => ∃ (b47 : Bool) (M : Mem), e = [(4, ptr b4 0), (8, S s41), (9, S s42), (61, Value.bool b47)] ∧ St w0 M0 M [.blk b4 (.cells #[I n7, I n8] 24)] w ∧ GlF (fun w => ∃ m, w.cell? ⟨2, 0, none⟩ = some (.int .i64 m)) M ∧ some b47 = some o45) [] ?_ ?_ (trivial)
     ·
      refine RG (MV rfl rfl (ST (Ex.not rfl) rfl (MV rfl rfl ?_)))
      rcases b43 with _ | _
      ·
       rw [if_neg Bool.false_ne_true] at e46
       refine WR.skipN 3 rfl rfl (PT rfl rfl rfl (NL ?_))
       exact WQ.meetN [(4, _), (8, _), (9, _), (61, _)] ⟨rfl, rfl, rfl, rfl, trivial⟩ ⟨_, _, rfl, H, hg_maxl, e46⟩
      ·
       rw [if_pos rfl] at e46
       obtain ⟨b48, hx49, e46⟩ := bnd e46
       refine SG (Ex.move rfl) rfl rfl rfl (WR.call H (fold_name_ct hx49) rfl trivial (Wn.some rfl rfl rfl) rfl ?_)
       intro v59 M w H hle hR
       replace hg_maxl := hg_maxl.mono hle
       replace hp0 := hp0.mono hle
       obtain rfl := hR
       refine SG (Ex.not rfl) rfl rfl rfl (PF rfl rfl rfl (NL ?_))
       exact WQ.meetN [(4, _), (8, _), (9, _), (61, _)] ⟨rfl, rfl, rfl, rfl, trivial⟩ ⟨_, _, rfl, H, hg_maxl, e46⟩
     ·
      rintro e w ⟨b47, M, rfl, H, hg_maxl, q50⟩
      obtain rfl := Option.some.inj q50
      refine TN ?_
      refine WC.condB rfl (fun hk51 => ?_) (fun hk51 => ?_)
      ·
       subst hk51
       rw [if_pos rfl] at h
       refine SQ ?_
       obtain ⟨⟨n52, n53⟩, hx54, h⟩ := bnd h
       try dsimp only at h
       refine RG (WR.call H (basic_Fault_ct hx54) rfl trivial (Wn.none rfl) rfl ?_)
       intro v62 M w H hle hR
       replace hg_maxl := hg_maxl.mono hle
       try dsimp only at hR
       obtain rfl := hR
       refine AS rfl rfl (AS rfl rfl (WR.store [_, _] H rfl rfl rfl (by repeat first | exact .head | apply Upd.tail) Tryz.sizeOf24 rfl (by rfl) (by rfl) (Wn.none rfl) ?_))
       intro w H
       refine NL (TN (RT ?_))
       obtain rfl := Option.some.inj h
       exact WQ.ret3 rfl rfl rfl ⟨_, rfl, H.loadAgg (by repeat (first | exact List.Mem.head _ | apply List.Mem.tail)) Tryz.isAgg24 Tryz.sizeOf24 (by rfl)⟩ H.ext rfl
      ·
       subst hk51
       rw [if_neg Bool.false_ne_true] at h
       refine SK (TN (SQ ?_))
       obtain ⟨s55, hx56, h⟩ := bnd h
       refine RG (MV rfl rfl (WR.call H (strings_Trim_ct hx56) rfl trivial (Wn.none rfl) rfl ?_))
       intro v64 M w H hle hR
       replace hg_maxl := hg_maxl.mono hle
       obtain rfl := hR
       refine AS rfl rfl (NL (TN (SQ (SQ (RG (MV rfl rfl (ST (Ex.lenStr Tryz.underlying9 rfl) rfl (ST (Ex.gtr rfl rfl) rfl (NL (TN ?_))))))))))
       refine WC.condB rfl (fun hk57 => ?_) (fun hk57 => ?_)
       ·
        replace hk57 : (4000 : Int) < (s55.length : Int) := of_decide_eq_true hk57
        rw [if_pos hk57] at h
        refine SQ ?_
        obtain ⟨⟨n58, n59⟩, hx60, h⟩ := bnd h
        try dsimp only at h
        refine RG (WR.call H (basic_Fault_ct hx60) rfl trivial (Wn.none rfl) rfl ?_)
        intro v68 M w H hle hR
        replace hg_maxl := hg_maxl.mono hle
        try dsimp only at hR
        obtain rfl := hR
        refine AS rfl rfl (AS rfl rfl (WR.store [_, _] H rfl rfl rfl (by repeat first | exact .head | apply Upd.tail) Tryz.sizeOf24 rfl (by rfl) (by rfl) (Wn.none rfl) ?_))
        intro w H
        refine NL (TN (RT ?_))
        obtain rfl := Option.some.inj h
        exact WQ.ret3 rfl rfl rfl ⟨_, rfl, H.loadAgg (by repeat (first | exact List.Mem.head _ | apply List.Mem.tail)) Tryz.isAgg24 Tryz.sizeOf24 (by rfl)⟩ H.ext rfl
       ·
        replace hk57 : ¬ ((4000 : Int) < (s55.length : Int)) := of_decide_eq_false hk57
        rw [if_neg hk57] at h
        refine SK (TN (SQ ?_))
        obtain ⟨⟨n61, n62⟩, hx63, h⟩ := bnd h
        try dsimp only at h
        refine RG (MV rfl rfl (MV rfl rfl (WR.call H (basic_None_ct hx63) rfl trivial (Wn.none rfl) rfl ?_)))
        intro v71 M w H hle hR
        replace hg_maxl := hg_maxl.mono hle
        try dsimp only at hR
        obtain rfl := hR
        refine AS rfl rfl (AS rfl rfl (WR.store [_, _] H rfl rfl rfl (by repeat first | exact .head | apply Upd.tail) Tryz.sizeOf24 rfl (by rfl) (by rfl) (Wn.none rfl) ?_))
        intro w H
        refine NL (TN (RT ?_))
        obtain rfl := Option.some.inj h
        exact WQ.ret3 rfl rfl rfl ⟨_, rfl, H.loadAgg (by repeat (first | exact List.Mem.head _ | apply List.Mem.tail)) Tryz.isAgg24 Tryz.sizeOf24 (by rfl)⟩ H.ext rfl
theorem L_WordsSurviveFolding_ct {p0 : List UInt8} {r : Bool} (h : L_WordsSurviveFolding p0 = some r) : Ct Tryz.prog 11 [S p0] (fun M => GlF (fun w => ∃ m, w.cell? ⟨2, 0, none⟩ = some (.int .i64 m)) M ∧ Tabs M) (fun v M => v = Value.bool r) := by
  refine Ct.of Tryz.func11 (enters Tryz.func11 (by kernel_rfl) rfl) rfl rfl rfl ?_
  intro w0 M0 H hp
  obtain ⟨hg_maxl, hg_tabs⟩ := hp
  unfold L_WordsSurviveFolding at h
  refine SQ (RG (AS rfl rfl (NL (TN (SQ (SQ ?_))))))
  obtain ⟨b1, hx2, h⟩ := bnd h
  refine RG (WR.call H (L_wordsExample_ct hx2) rfl ⟨hg_maxl, hg_tabs⟩ (Wn.none rfl) rfl ?_)
  intro v12 M w H hle hR
  replace hg_maxl := hg_maxl.mono hle
  replace hg_tabs := hg_tabs.mono hle
  obtain rfl := hR
  refine ST (Ex.not rfl) rfl (NL (TN ?_))
  refine WC.condB rfl (fun hk3 => ?_) (fun hk3 => ?_)
  ·
   replace hk3 : b1 = false := by simpa using hk3
   subst hk3
   rw [if_neg Bool.false_ne_true] at h
   refine SQ (RG (AS rfl rfl (NL (TN (RT ?_)))))
   obtain rfl := Option.some.inj h
   exact WQ.ret1 rfl rfl H.ext rfl
  ·
   replace hk3 : b1 = true := by simpa using hk3
   subst hk3
   rw [if_pos rfl] at h
   refine SK (TN (SQ ?_))
   obtain ⟨⟨s4, ⟨n5, n6⟩⟩, hx7, h⟩ := bnd h
   try dsimp only at h
   refine RG (MV rfl rfl (WR.call H (words_Encode_ct hx7) rfl ⟨hg_maxl, hg_tabs⟩ (Wn.none rfl) rfl ?_))
   intro v16 M w H hle hR
   replace hg_maxl := hg_maxl.mono hle
   replace hg_tabs := hg_tabs.mono hle
   try dsimp only at hR
   obtain rfl := hR
   refine MV rfl rfl (ST (Ex.extract rfl rfl) rfl (ST (Ex.extract rfl rfl) rfl (WR.alloc [_, _] H Tryz.zeroValue24 rfl (Wn.none rfl) rfl ?_)))
   intro b4 w H
   refine AS rfl rfl (WR.store [_, _] H rfl rfl rfl (by repeat first | exact .head | apply Upd.tail) Tryz.sizeOf24 rfl (by rfl) (by rfl) (Wn.none rfl) ?_)
   intro w H
   refine NL (TN (SQ (SQ (RG (ST (Ex.fieldAddr Tryz.underlying24 rfl Tryz.sizeOf3 (by decide) rfl) rfl (ST (Ex.load1 H rfl (by repeat (first | exact List.Mem.head _ | apply List.Mem.tail)) Tryz.isAgg3 (by rfl)) rfl ?_))))))
   refine ST (Ex.neqC rfl rfl) rfl (NL (TN ?_))
   refine WC.condB rfl (fun hk8 => ?_) (fun hk8 => ?_)
   ·
    replace hk8 : ¬ (n5 = (0 : Int)) := of_not_decide hk8
    rw [if_neg hk8] at h
    refine SQ (RG (MV rfl rfl (ST (Ex.strEql rfl rfl) rfl (AS rfl rfl (NL (TN (RT ?_)))))))
    obtain rfl := Option.some.inj h
    exact WQ.ret1 rfl rfl H.ext rfl
   ·
    replace hk8 : n5 = (0 : Int) := of_not_decide' hk8
    rw [if_pos hk8] at h
    refine SK (TN (SQ ?_))
    obtain ⟨⟨l9, ⟨n10, n11⟩⟩, hx12, h⟩ := bnd h
    try dsimp only at h
    refine RG (MV rfl rfl (WR.call H (fold_Fold_ct hx12) rfl trivial (Wn.none rfl) rfl ?_))
    intro v26 M w H hle hR
    replace hg_maxl := hg_maxl.mono hle
    replace hg_tabs := hg_tabs.mono hle
    try dsimp only at hR
    obtain ⟨x26_0, rfl, f26_0⟩ := hR
    refine MV rfl rfl (ST (Ex.extract rfl rfl) rfl (ST (Ex.extract rfl rfl) rfl (WR.alloc [_, _] H Tryz.zeroValue24 rfl (Wn.none rfl) rfl ?_)))
    intro b6 w H
    refine AS rfl rfl (WR.store [_, _] H rfl rfl rfl (by repeat first | exact .head | apply Upd.tail) Tryz.sizeOf24 rfl (by rfl) (by rfl) (Wn.none rfl) ?_)
    intro w H
    refine NL (TN (SQ (SQ (RG (ST (Ex.fieldAddr Tryz.underlying24 rfl Tryz.sizeOf3 (by decide) rfl) rfl (ST (Ex.load1 H rfl (by repeat (first | exact List.Mem.head _ | apply List.Mem.tail)) Tryz.isAgg3 (by rfl)) rfl ?_))))))
    refine ST (Ex.neqC rfl rfl) rfl (NL (TN ?_))
    refine WC.condB rfl (fun hk13 => ?_) (fun hk13 => ?_)
    ·
     replace hk13 : ¬ (n10 = (0 : Int)) := of_not_decide hk13
     rw [if_neg hk13] at h
     refine SQ (RG (MV rfl rfl (ST (Ex.lenSl Tryz.underlying43 f26_0 rfl) rfl (ST (Ex.eql rfl rfl) rfl (AS rfl rfl (NL (TN (RT ?_))))))))
     obtain rfl := Option.some.inj h
     exact WQ.ret1 rfl rfl H.ext rfl
    ·
     replace hk13 : n10 = (0 : Int) := of_not_decide' hk13
     rw [if_pos hk13] at h
     refine SK (TN (SQ ?_))
     obtain ⟨⟨s14, s15, ⟨n16, n17⟩⟩, hx18, h⟩ := bnd h
     try dsimp only at h
     refine RG (MV rfl rfl (WR.call H (fold_Unfold_ct hx18) rfl ⟨hg_maxl, f26_0⟩ (Wn.none rfl) rfl ?_))
     intro v37 M w H hle hR
     replace hg_maxl := hg_maxl.mono hle
     replace hg_tabs := hg_tabs.mono hle
     replace f26_0 := f26_0.mono hle
     try dsimp only at hR
     obtain rfl := hR
     refine MV rfl rfl (ST (Ex.extract rfl rfl) rfl (ST (Ex.extract rfl rfl) rfl (ST (Ex.extract rfl rfl) rfl (WR.alloc [_, _] H Tryz.zeroValue24 rfl (Wn.none rfl) rfl ?_))))
     intro b9 w H
     refine AS rfl rfl (AS rfl rfl (WR.store [_, _] H rfl rfl rfl (by repeat first | exact .head | apply Upd.tail) Tryz.sizeOf24 rfl (by rfl) (by rfl) (Wn.none rfl) ?_))
     intro w H
     refine NL (TN (SQ ?_))
     obtain ⟨⟨s19, ⟨n20, n21⟩⟩, hx22, h⟩ := bnd h
     try dsimp only at h
     refine RG (MV rfl rfl (WR.call H (words_Decode_ct hx22) rfl (hg_maxl) (Wn.none rfl) rfl ?_))
     intro v43 M w H hle hR
     replace hg_maxl := hg_maxl.mono hle
     replace hg_tabs := hg_tabs.mono hle
     replace f26_0 := f26_0.mono hle
     try dsimp only at hR
     obtain rfl := hR
     refine MV rfl rfl (ST (Ex.extract rfl rfl) rfl (ST (Ex.extract rfl rfl) rfl (WR.alloc [_, _] H Tryz.zeroValue24 rfl (Wn.none rfl) rfl ?_)))
     intro b11 w H
     refine AS rfl rfl (WR.store [_, _] H rfl rfl rfl (by repeat first | exact .head | apply Upd.tail) Tryz.sizeOf24 rfl (by rfl) (by rfl) (Wn.none rfl) ?_)
     intro w H
     refine NL (TN (SQ ?_))
     obtain ⟨o23, e24, h⟩ := bnd h
     refine WC.cutX (fun e w => ∃ (b25 : Bool) (M : Mem), e = [(2, Value.bool b25)] ∧ St w0 M0 M [] w ∧ GlF (fun w => ∃ m, w.cell? ⟨2, 0, none⟩ = some (.int .i64 m)) M ∧ Tabs M ∧ some b25 = some o23) [] ?_ ?_ (trivial)
     ·
      refine RG (ST (Ex.fieldAddr Tryz.underlying24 rfl Tryz.sizeOf3 (by decide) rfl) rfl (ST (Ex.load1 H rfl (by repeat (first | exact List.Mem.head _ | apply List.Mem.tail)) Tryz.isAgg3 (by rfl)) rfl ?_))
      by_cases hk26 : n16 = (0 : Int)
      ·
       rw [if_pos hk26] at e24
       by_cases hk27 : n20 = (0 : Int)
       ·
        rw [if_pos hk27] at e24
        by_cases hk28 : s14 = [83, 117, 98, 106, 101, 99, 116]
        ·
         rw [if_pos hk28] at e24
         refine WR.stepE (v' := .bool true) (Ex.eql rfl rfl) (congrArg Value.bool (decide_eq_true hk26)) (Wn.none rfl) rfl rfl (MV rfl rfl (SG (Ex.fieldAddr Tryz.underlying24 rfl Tryz.sizeOf3 (by decide) rfl) rfl rfl rfl (SG (Ex.load1 H rfl (by repeat (first | exact List.Mem.head _ | apply List.Mem.tail)) Tryz.isAgg3 (by rfl)) rfl rfl rfl ?_)))
         refine WR.stepE (v' := .bool true) (Ex.eql rfl rfl) (congrArg Value.bool (decide_eq_true hk27)) (Wn.some rfl rfl rfl) rfl rfl (PT rfl rfl rfl (MV rfl rfl (SG (Ex.move rfl) rfl rfl rfl (WR.stepE (v' := .bool true) (Ex.strEql rfl rfl) (congrArg Value.bool (decide_eq_true hk28)) (Wn.some rfl rfl rfl) rfl rfl (PT rfl rfl rfl (MV rfl rfl (SG (Ex.move rfl) rfl rfl rfl (SG (Ex.move rfl) rfl rfl rfl (SG (Ex.strEql rfl rfl) rfl rfl rfl (PT rfl rfl rfl (AS rfl rfl (NL ?_))))))))))))
         exact WQ.meetN [(2, _)] ⟨rfl, trivial⟩ ⟨_, _, rfl, (H.pick (L' := []) (by repeat (first | exact Pick.nil | refine Pick.cons (by repeat first | exact .head | apply Rem.tail) ?_))), hg_maxl, hg_tabs, e24⟩
        ·
         rw [if_neg hk28] at e24
         refine WR.stepE (v' := .bool true) (Ex.eql rfl rfl) (congrArg Value.bool (decide_eq_true hk26)) (Wn.none rfl) rfl rfl (MV rfl rfl (SG (Ex.fieldAddr Tryz.underlying24 rfl Tryz.sizeOf3 (by decide) rfl) rfl rfl rfl (SG (Ex.load1 H rfl (by repeat (first | exact List.Mem.head _ | apply List.Mem.tail)) Tryz.isAgg3 (by rfl)) rfl rfl rfl ?_)))
         refine WR.stepE (v' := .bool true) (Ex.eql rfl rfl) (congrArg Value.bool (decide_eq_true hk27)) (Wn.some rfl rfl rfl) rfl rfl (PT rfl rfl rfl (MV rfl rfl (SG (Ex.move rfl) rfl rfl rfl (WR.stepE (v' := .bool false) (Ex.strEql rfl rfl) (congrArg Value.bool (decide_eq_false hk28)) (Wn.some rfl rfl rfl) rfl rfl (PT rfl rfl rfl (MV rfl rfl (WR.skipN 3 rfl rfl (PF rfl rfl rfl (AS rfl rfl (NL ?_))))))))))
         exact WQ.meetN [(2, _)] ⟨rfl, trivial⟩ ⟨_, _, rfl, (H.pick (L' := []) (by repeat (first | exact Pick.nil | refine Pick.cons (by repeat first | exact .head | apply Rem.tail) ?_))), hg_maxl, hg_tabs, e24⟩
       ·
        rw [if_neg hk27] at e24
        refine WR.stepE (v' := .bool true) (Ex.eql rfl rfl) (congrArg Value.bool (decide_eq_true hk26)) (Wn.none rfl) rfl rfl (MV rfl rfl (SG (Ex.fieldAddr Tryz.underlying24 rfl Tryz.sizeOf3 (by decide) rfl) rfl rfl rfl (SG (Ex.load1 H rfl (by repeat (first | exact List.Mem.head _ | apply List.Mem.tail)) Tryz.isAgg3 (by rfl)) rfl rfl rfl ?_)))
        refine WR.stepE (v' := .bool false) (Ex.eql rfl rfl) (congrArg Value.bool (decide_eq_false hk27)) (Wn.some rfl rfl rfl) rfl rfl (PT rfl rfl rfl (MV rfl rfl (GF rfl rfl rfl (GF rfl rfl rfl (PF rfl rfl rfl (MV rfl rfl (WR.skipN 3 rfl rfl (PF rfl rfl rfl (AS rfl rfl (NL ?_))))))))))
        exact WQ.meetN [(2, _)] ⟨rfl, trivial⟩ ⟨_, _, rfl, (H.pick (L' := []) (by repeat (first | exact Pick.nil | refine Pick.cons (by repeat first | exact .head | apply Rem.tail) ?_))), hg_maxl, hg_tabs, e24⟩
      ·
       rw [if_neg hk26] at e24
       refine WR.stepE (v' := .bool false) (Ex.eql rfl rfl) (congrArg Value.bool (decide_eq_false hk26)) (Wn.none rfl) rfl rfl (MV rfl rfl (WR.skipN 3 rfl rfl (PF rfl rfl rfl (MV rfl rfl (GF rfl rfl rfl (GF rfl rfl rfl (PF rfl rfl rfl (MV rfl rfl (WR.skipN 3 rfl rfl (PF rfl rfl rfl (AS rfl rfl (NL ?_))))))))))))
       exact WQ.meetN [(2, _)] ⟨rfl, trivial⟩ ⟨_, _, rfl, (H.pick (L' := []) (by repeat (first | exact Pick.nil | refine Pick.cons (by repeat first | exact .head | apply Rem.tail) ?_))), hg_maxl, hg_tabs, e24⟩
     ·
      rintro e w ⟨b25, M, rfl, H, hg_maxl, hg_tabs, q29⟩
      obtain rfl := Option.some.inj q29
      refine TN (RT ?_)
      obtain rfl := Option.some.inj h
      exact WQ.ret1 rfl rfl H.ext rfl
end Go.Proofs.YtogkmhjnojphiaaGreatDoor
end
section
set_option linter.unusedVariables false
set_option linter.unusedSimpArgs false
namespace Go.Ph.Pl
theorem u8_lit (c n : UInt8) : c = n ↔ c.toNat = n.toNat := UInt8.toNat_inj.symm
theorem drop_cons {α : Type} {l : List α} {i : Nat} (h : i < l.length) : l.drop i = l[i] :: l.drop (i + 1) := List.drop_eq_getElem_cons h
theorem scanL {α β : Type} (L : Nat → Int → Option β) (l : List α) (p : α → Bool) (stop r : β) (hend : ∀ m, L (m + 1) (l.length : Int) = some stop)
    (hstep : ∀ m i (h : i < l.length), L (m + 1) (i : Int) = if p l[i] = true then some r else L m ((i + 1 : Nat) : Int)) :
    ∀ (k i m : Nat), l.length - i ≤ k → k < m → i ≤ l.length → L m (i : Int) = some (if (l.drop i).any p = true then r else stop)
  | 0, i, m, h1, h2, h3 => by
    obtain ⟨m, rfl⟩ : ∃ k, m = k + 1 := ⟨m - 1, by omega⟩
    obtain rfl : i = l.length := by omega
    rw [hend, List.drop_length]; rfl
  | k + 1, i, m, h1, h2, h3 => by
    obtain ⟨m, rfl⟩ : ∃ k, m = k + 1 := ⟨m - 1, by omega⟩
    by_cases hi : i < l.length
    · rw [hstep m i hi, drop_cons hi, List.any_cons]
      by_cases hp : p l[i] = true
      · rw [if_pos hp, hp]; rfl
      · rw [if_neg hp, scanL L l p stop r hend hstep k (i + 1) m (by omega) (by omega) (by omega)]
        have : p l[i] = false := by simpa using hp
        rw [this]; rfl
    · obtain rfl : i = l.length := by omega
      rw [hend, List.drop_length]; rfl
theorem scan0 {α β : Type} {L : Nat → Int → Option β} {l : List α} {p : α → Bool} {stop r : β} {m : Nat} (hm : l.length < m) (hend : ∀ m, L (m + 1) (l.length : Int) = some stop)
    (hstep : ∀ m i (h : i < l.length), L (m + 1) (i : Int) = if p l[i] = true then some r else L m ((i + 1 : Nat) : Int)) : L m 0 = some (if l.any p = true then r else stop) := by
  have := scanL L l p stop r hend hstep l.length 0 m (by omega) hm (by omega)
  simpa using this
theorem scanP {α β : Type} (L : Nat → Int → Option β) (l : List α) (p : Nat → α → Option β) (stop : β) (hend : ∀ m, L (m + 1) (l.length : Int) = some stop)
    (hstep : ∀ m i (h : i < l.length), L (m + 1) (i : Int) = match p i l[i] with | some r => some r | none => L m ((i + 1 : Nat) : Int)) :
    ∀ (k i m : Nat), l.length - i ≤ k → k < m → i ≤ l.length →
      (∃ (j : Nat) (hj : j < l.length) (r : β), i ≤ j ∧ p j l[j] = some r ∧ (∀ (a : Nat) (ha : a < l.length), i ≤ a → a < j → p a l[a] = none) ∧ L m (i : Int) = some r) ∨
      ((∀ (a : Nat) (ha : a < l.length), i ≤ a → p a l[a] = none) ∧ L m (i : Int) = some stop)
  | 0, i, m, h1, h2, h3 => by
    obtain ⟨m, rfl⟩ : ∃ k, m = k + 1 := ⟨m - 1, by omega⟩
    obtain rfl : i = l.length := by omega
    exact .inr ⟨fun a ha hi => by omega, hend m⟩
  | k + 1, i, m, h1, h2, h3 => by
    obtain ⟨m, rfl⟩ : ∃ k, m = k + 1 := ⟨m - 1, by omega⟩
    by_cases hi : i < l.length
    · cases hp : p i l[i] with
      | some r => exact .inl ⟨i, hi, r, Nat.le_refl _, hp, fun a ha h1 h2 => by omega, by rw [hstep m i hi, hp]⟩
      | none =>
        rw [hstep m i hi, hp]
        rcases scanP L l p stop hend hstep k (i + 1) m (by omega) (by omega) (by omega) with ⟨j, hj, r, a1, a2, a3, a4⟩ | ⟨a1, a2⟩
        · refine .inl ⟨j, hj, r, by omega, a2, fun a ha h1 h2 => ?_, a4⟩
          rcases Nat.eq_or_lt_of_le h1 with rfl | h1
          · exact hp
          · exact a3 a ha h1 h2
        · refine .inr ⟨fun a ha h1 => ?_, a2⟩
          rcases Nat.eq_or_lt_of_le h1 with rfl | h1
          · exact hp
          · exact a1 a ha h1
    · obtain rfl : i = l.length := by omega
      exact .inr ⟨fun a ha hi => by omega, hend m⟩
theorem FU_gt {n : Nat} (h : n ≤ 9223372036854775807) : n < FU := by rw [FU_eq]; omega
end Go.Ph.Pl
end
section
set_option linter.unusedVariables false
set_option linter.unusedSimpArgs false
namespace Go.Ph.B64
theorem byThree {P : List UInt8 → Prop} (h0 : P []) (h1 : ∀ a, P [a]) (h2 : ∀ a b, P [a, b]) (h3 : ∀ a b c l, P l → P (a :: b :: c :: l)) : ∀ l, P l
  | [] => h0
  | [a] => h1 a
  | [a, b] => h2 a b
  | a :: b :: c :: l => h3 a b c l (byThree h0 h1 h2 h3 l)
abbrev A (k : Nat) : UInt8 := alpha.getD k 0
theorem outp_eq (l : List UInt8) : outp l 4 = [ch l 0, ch l 1, ch l 2, ch l 3] := rfl
theorem ch_of (l : List UInt8) (i : Nat) (h : i ≤ min 3 l.length) : ch l i = A (accN l 3 / 2 ^ (18 - 6 * i) % 64) := by
  unfold ch; rw [if_neg (by omega)]
theorem acc3 (l : List UInt8) : accN l 3 = (l.getD 0 0).toNat * 65536 + (l.getD 1 0).toNat * 256 + (l.getD 2 0).toNat := by
  simp only [accN]; omega
theorem grp3 (a b c : UInt8) (l : List UInt8) : outp (a :: b :: c :: l) 4 = [A (a.toNat / 4), A (a.toNat % 4 * 16 + b.toNat / 16), A (b.toNat % 16 * 4 + c.toNat / 64), A (c.toNat % 64)] := by
  have ha := a.toNat_lt
  have hb := b.toNat_lt
  have hc := c.toNat_lt
  have h := acc3 (a :: b :: c :: l)
  simp only [List.getD_cons_zero, List.getD_cons_succ] at h
  rw [outp_eq, ch_of _ _ (by simp), ch_of _ _ (by simp), ch_of _ _ (by simp), ch_of _ _ (by simp), h]
  congr 2
  · simp only [Nat.mul_zero, Nat.sub_zero]; omega
  congr 2
  · simp only [Nat.mul_one]; omega
  congr 2
  · omega
  rw [show (a.toNat * 65536 + b.toNat * 256 + c.toNat) / 2 ^ (18 - 6 * 3) % 64 = c.toNat % 64 by rw [show 2 ^ (18 - 6 * 3) = 1 from rfl, Nat.div_one]; omega]
theorem grp1 (a : UInt8) : outp [a] 4 = [A (a.toNat / 4), A (a.toNat % 4 * 16), 61, 61] := by
  have ha := a.toNat_lt
  have h := acc3 [a]
  simp only [List.getD_cons_zero, List.getD_cons_succ, List.getD_nil] at h
  rw [outp_eq, ch_of _ _ (by simp), ch_of _ _ (by simp), h]
  congr 2
  · simp; omega
  congr 2
  simp; omega
theorem grp2 (a b : UInt8) : outp [a, b] 4 = [A (a.toNat / 4), A (a.toNat % 4 * 16 + b.toNat / 16), A (b.toNat % 16 * 4), 61] := by
  have ha := a.toNat_lt
  have hb := b.toNat_lt
  have h := acc3 [a, b]
  simp only [List.getD_cons_zero, List.getD_cons_succ, List.getD_nil] at h
  rw [outp_eq, ch_of _ _ (by simp), ch_of _ _ (by simp), ch_of _ _ (by simp), h]
  congr 2
  · simp; omega
  congr 2
  · simp; omega
  congr 2
  simp; omega
theorem grps_three (a b c : UInt8) (l : List UInt8) : grps (a :: b :: c :: l) = outp (a :: b :: c :: l) 4 :: grps l := by
  unfold grps
  have h1 : ((a :: b :: c :: l).length + 2) / 3 = (l.length + 2) / 3 + 1 := by simp only [List.length_cons]; omega
  rw [h1]
  unfold grpsTo
  rw [List.range_succ_eq_map, List.map_cons, List.map_map]
  congr 1
theorem grps_one (a : UInt8) : grps [a] = [outp [a] 4] := by
  unfold grps
  rw [show ([a].length + 2) / 3 = 1 by simp]
  simp [grpsTo, grpAt, List.range_succ]
theorem grps_two (a b : UInt8) : grps [a, b] = [outp [a, b] 4] := by
  unfold grps
  rw [show ([a, b].length + 2) / 3 = 1 by simp]
  simp [grpsTo, grpAt, List.range_succ]
theorem sumN6 (x y z u v w : Nat) : sumN [x, y, z, u, v, w] = 32 * x + 16 * y + 8 * z + 4 * u + 2 * v + w := by simp [sumN]; omega
theorem sumN8 (u : Nat) (h : u < 256) : sumN (bits8 u) = u := by simp [sumN, bits8]; omega
theorem six_add (x bits : List Nat) (m q : Nat) (hx : x.length = 6 * m) : six (x ++ bits) (m + q) = six bits q := by
  unfold six
  congr 1
  rw [List.drop_take, List.drop_take]
  rw [show 6 * (m + q) = x.length + 6 * q by omega, List.drop_length_add_append]
  congr 1
  omega
theorem sext_add (x bits : List Nat) (m : Nat) (hx : x.length = 6 * m) (q : Nat) : sext (x ++ bits) (m + q) = sext (x ++ bits) m ++ sext bits q := by
  induction q with
  | zero => simp [sext]
  | succ q ih => rw [← Nat.add_assoc, sext, sext, ih, six_add x bits m q hx, List.append_assoc]
theorem padBits_three (a b c : UInt8) (l : List UInt8) : padBits (a :: b :: c :: l) = (bits8 a.toNat ++ bits8 b.toNat ++ bits8 c.toNat) ++ padBits l := by
  unfold padBits bitsOf
  simp only [List.flatMap_cons, List.append_assoc, List.length_cons]
  rw [show (6 - 8 * (l.length + 1 + 1 + 1) % 6) % 6 = (6 - 8 * l.length % 6) % 6 by omega]
theorem sext_lit (x : List Nat) (bits : List Nat) (n1 n2 n3 n4 : Nat) (h1 : six (x ++ bits) 0 = n1) (h2 : six (x ++ bits) 1 = n2) (h3 : six (x ++ bits) 2 = n3) (h4 : six (x ++ bits) 3 = n4) (l1 : n1 < 64) (l2 : n2 < 64) (l3 : n3 < 64) (l4 : n4 < 64) :
    sext (x ++ bits) 4 = [A n1, A n2, A n3, A n4] := by
  simp only [sext, h1, h2, h3, h4, alpha_one _ l1, alpha_one _ l2, alpha_one _ l3, alpha_one _ l4]
  rfl
theorem chars_three (a b c : UInt8) (l : List UInt8) : chars64 (a :: b :: c :: l) = outp (a :: b :: c :: l) 4 ++ chars64 l := by
  have ha := a.toNat_lt
  have hb := b.toNat_lt
  have hc := c.toNat_lt
  have hlen : (padBits (a :: b :: c :: l)).length / 6 = 4 + (padBits l).length / 6 := by
    rw [padBits_three, List.length_append]
    simp only [List.length_append, bits8_len]
    omega
  have h4 : sext (padBits (a :: b :: c :: l)) 4 = outp (a :: b :: c :: l) 4 := by
    rw [grp3, padBits_three]
    refine sext_lit _ _ _ _ _ _ ?_ ?_ ?_ ?_ (by omega) (by omega) (by omega) (by omega)
    · simp only [six, bits8, List.cons_append, List.nil_append, List.take_succ_cons, List.take_zero, List.drop_zero, Nat.mul_zero, Nat.zero_add, sumN6]; omega
    · simp only [six, bits8, List.cons_append, List.nil_append, List.take_succ_cons, List.take_zero, List.drop_succ_cons, List.drop_zero, Nat.mul_one, sumN6]; omega
    · simp only [six, bits8, List.cons_append, List.nil_append, List.take_succ_cons, List.take_zero, List.drop_succ_cons, List.drop_zero, sumN6]; omega
    · simp only [six, bits8, List.cons_append, List.nil_append, List.take_succ_cons, List.take_zero, List.drop_succ_cons, List.drop_zero, sumN6]; omega
  have hs : sext (padBits (a :: b :: c :: l)) ((padBits (a :: b :: c :: l)).length / 6) = outp (a :: b :: c :: l) 4 ++ sext (padBits l) ((padBits l).length / 6) := by
    rw [hlen, ← h4, padBits_three]
    exact sext_add _ _ 4 (by simp [bits8_len]) _
  unfold chars64
  simp only [hs, List.append_assoc, List.length_append]
  congr 3
  rw [show (outp (a :: b :: c :: l) 4).length = 4 from rfl]
  omega
theorem padBits_one (a : UInt8) : padBits [a] = bits8 a.toNat ++ [0, 0, 0, 0] := by simp [padBits, bitsOf, List.replicate]
theorem padBits_two (a b : UInt8) : padBits [a, b] = bits8 a.toNat ++ bits8 b.toNat ++ [0, 0] := by simp [padBits, bitsOf, List.replicate]
theorem chars_of {l : List UInt8} {q : Nat} {s : List UInt8} (hq : (padBits l).length / 6 = q) (h : sext (padBits l) q = s) : chars64 l = s ++ List.replicate ((4 - s.length % 4) % 4) 61 := by
  unfold chars64; rw [hq, h]
theorem chars_one (a : UInt8) : chars64 [a] = outp [a] 4 := by
  have ha := a.toNat_lt
  rw [grp1]
  have h : sext (padBits [a]) 2 = [A (a.toNat / 4), A (a.toNat % 4 * 16)] := by
    rw [padBits_one]
    have h1 : six (bits8 a.toNat ++ [0, 0, 0, 0]) 0 = a.toNat / 4 := by
      simp only [six, bits8, List.cons_append, List.nil_append, List.take_succ_cons, List.take_zero, List.drop_zero, Nat.mul_zero, Nat.zero_add, sumN6]; omega
    have h2 : six (bits8 a.toNat ++ [0, 0, 0, 0]) 1 = a.toNat % 4 * 16 := by
      simp only [six, bits8, List.cons_append, List.nil_append, List.take_succ_cons, List.take_zero, List.drop_succ_cons, List.drop_zero, Nat.mul_one, sumN6]; omega
    simp only [sext, h1, h2, alpha_one _ (show a.toNat / 4 < 64 by omega), alpha_one _ (show a.toNat % 4 * 16 < 64 by omega)]
    rfl
  rw [chars_of (by rw [padBits_one]; simp [bits8_len]) h]; rfl
theorem chars_two (a b : UInt8) : chars64 [a, b] = outp [a, b] 4 := by
  have ha := a.toNat_lt
  have hb := b.toNat_lt
  rw [grp2]
  have h : sext (padBits [a, b]) 3 = [A (a.toNat / 4), A (a.toNat % 4 * 16 + b.toNat / 16), A (b.toNat % 16 * 4)] := by
    rw [padBits_two]
    have h1 : six (bits8 a.toNat ++ bits8 b.toNat ++ [0, 0]) 0 = a.toNat / 4 := by
      simp only [six, bits8, List.cons_append, List.nil_append, List.take_succ_cons, List.take_zero, List.drop_zero, Nat.mul_zero, Nat.zero_add, sumN6]; omega
    have h2 : six (bits8 a.toNat ++ bits8 b.toNat ++ [0, 0]) 1 = a.toNat % 4 * 16 + b.toNat / 16 := by
      simp only [six, bits8, List.cons_append, List.nil_append, List.take_succ_cons, List.take_zero, List.drop_succ_cons, List.drop_zero, Nat.mul_one, sumN6]; omega
    have h3 : six (bits8 a.toNat ++ bits8 b.toNat ++ [0, 0]) 2 = b.toNat % 16 * 4 := by
      simp only [six, bits8, List.cons_append, List.nil_append, List.take_succ_cons, List.take_zero, List.drop_succ_cons, List.drop_zero, sumN6]; omega
    simp only [sext, h1, h2, h3, alpha_one _ (show a.toNat / 4 < 64 by omega), alpha_one _ (show a.toNat % 4 * 16 + b.toNat / 16 < 64 by omega), alpha_one _ (show b.toNat % 16 * 4 < 64 by omega)]
    rfl
  rw [chars_of (by rw [padBits_two]; simp [bits8_len]) h]; rfl
theorem chars_grps (l : List UInt8) : chars64 l = (grps l).flatten := by
  induction l using byThree with
  | h0 => rfl
  | h1 a => rw [chars_one, grps_one]; simp
  | h2 a b => rw [chars_two, grps_two]; simp
  | h3 a b c l ih => rw [chars_three, grps_three, List.flatten_cons, ih]
theorem flat_len (gs : List (List UInt8)) (h : ∀ g ∈ gs, g.length = 4) : gs.flatten.length = 4 * gs.length := by
  induction gs with
  | nil => rfl
  | cons g gs ih =>
    rw [List.flatten_cons, List.length_append, h g List.mem_cons_self, ih (fun x hx => h x (List.mem_cons_of_mem _ hx)), List.length_cons]
    omega
theorem wrapTo_app (cs t : List UInt8) (m : Nat) (h : 76 * m ≤ cs.length) : wrapTo (cs ++ t) m = wrapTo cs m := by
  induction m with
  | zero => rfl
  | succ m ih =>
    rw [wrapTo, wrapTo, ih (by omega)]
    congr 2
    rw [List.drop_append_of_le_length (by omega), List.take_append_of_le_length (by rw [List.length_drop]; omega)]
theorem encRun_wrap (gs : List (List UInt8)) (h : ∀ g ∈ gs, g.length = 4) : ∃ k, k = (gs.flatten.length - 1) / 76 ∧ (encRun gs).1 = wrapTo gs.flatten k ++ gs.flatten.drop (76 * k) ∧ (encRun gs).2 = gs.flatten.length - 76 * k := by
  have key : ∀ (n : Nat) (gs : List (List UInt8)), gs.length = n → (∀ g ∈ gs, g.length = 4) → ∃ k, k = (gs.flatten.length - 1) / 76 ∧ (encRun gs).1 = wrapTo gs.flatten k ++ gs.flatten.drop (76 * k) ∧ (encRun gs).2 = gs.flatten.length - 76 * k := by
    intro n
    induction n with
    | zero =>
      intro gs hn _
      obtain rfl := List.eq_nil_of_length_eq_zero hn
      exact ⟨0, rfl, rfl, rfl⟩
    | succ n ih =>
      intro gs hn hg
      obtain ⟨g0, g, rfl⟩ : ∃ g0 g, gs = g0 ++ [g] := ⟨gs.dropLast, gs.getLast (by rintro rfl; cases hn), (List.dropLast_concat_getLast _).symm⟩
      have hl0 : g0.length = n := by simpa using hn
      have hg0 : ∀ x ∈ g0, x.length = 4 := fun x hx => hg x (List.mem_append_left _ hx)
      have hg4 : g.length = 4 := hg g (List.mem_append_right _ (List.mem_singleton.2 rfl))
      obtain ⟨k, hk, h1, h2⟩ := ih g0 hl0 hg0
      have hfl := flat_len g0 hg0
      have hflat : (g0 ++ [g]).flatten = g0.flatten ++ g := by simp
      rw [hflat, encRun_next, encStep, h1, h2, List.length_append, hg4]
      generalize g0.flatten = cs at *
      by_cases hf : cs.length - 76 * k = 76
      · rw [if_pos hf]
        refine ⟨k + 1, by omega, ?_, by simp only []; omega⟩
        have e0 : cs.length = 76 * (k + 1) := by omega
        have e1 : (cs ++ g).drop (76 * (k + 1)) = g := by rw [← e0]; exact List.drop_left
        have e2 : ((cs ++ g).drop (76 * k)).take 76 = cs.drop (76 * k) := by
          have e3 : (cs.drop (76 * k)).length = 76 := by rw [List.length_drop]; omega
          rw [List.drop_append_of_le_length (by omega)]
          exact List.take_left' e3
        rw [wrapTo, wrapTo_app _ _ _ (by omega), e1, e2]
      · rw [if_neg hf]
        refine ⟨k, by omega, ?_, by simp only []; omega⟩
        simp only []
        rw [wrapTo_app _ _ _ (by omega), List.drop_append_of_le_length (by omega), List.append_assoc]
  exact key _ gs rfl h
theorem encode_lines (l : List UInt8) : encode l = lines64 (chars64 l) := by
  obtain ⟨k, hk, h1, h2⟩ := encRun_wrap (grps l) (grps_all l)
  rw [chars_grps]
  unfold encode lines64
  rw [h1, h2, ← hk]
  generalize (grps l).flatten = cs at *
  by_cases hc : cs.drop (76 * k) = []
  · have : cs.length ≤ 76 * k := List.drop_eq_nil_iff.1 hc
    rw [if_neg (by omega), if_pos hc, hc]
  · have : 76 * k < cs.length := by
      rcases Nat.lt_or_ge (76 * k) cs.length with h | h
      · exact h
      · exact absurd (List.drop_eq_nil_of_le h) hc
    rw [if_pos (by omega), if_neg hc, List.append_assoc]
theorem encode_len (l : List UInt8) : (encode l).length ≤ 4 * ((l.length + 2) / 3) + 2 * (4 * ((l.length + 2) / 3) / 76) + 2 := by
  obtain ⟨k, hk, h1, h2⟩ := encRun_wrap (grps l) (grps_all l)
  have hfl := flat_len (grps l) (grps_all l)
  rw [grps_len] at hfl
  have hw : ∀ (cs : List UInt8) (m : Nat), 76 * m ≤ cs.length → (wrapTo cs m).length = 78 * m := by
    intro cs m
    induction m with
    | zero => intro _; rfl
    | succ m ih => intro h; simp only [wrapTo, List.length_append, List.length_take, List.length_drop, List.length_cons, List.length_nil, ih (by omega)]; omega
  have h3 : (encRun (grps l)).1.length = 78 * k + ((grps l).flatten.length - 76 * k) := by
    rw [h1, List.length_append, hw _ _ (by omega), List.length_drop]
  unfold encode
  split
  · rw [List.length_append, h3]; simp only [List.length_cons, List.length_nil]; omega
  · rw [h3]; omega
theorem chars_len (l : List UInt8) : (chars64 l).length = 4 * ((l.length + 2) / 3) := by
  rw [chars_grps, flat_len _ (grps_all l), grps_len]
def low (n y : Nat) : List Nat := (List.range n).map fun i => y / 2 ^ (n - 1 - i) % 2
theorem low_len (n y : Nat) : (low n y).length = n := by simp [low]
theorem lrun_bits (m : List UInt8) : vbits m = bitsOf (lrun m).1 ++ low (lrun m).2.2 (lrun m).2.1 := by
  have key : ∀ (m : List UInt8) (s : List UInt8 × Nat × Nat) (pre : List Nat), ((s.2.2 ≤ 6 ∧ s.2.2 % 2 = 0) ∧ s.2.1 < 2 ^ s.2.2) → pre = bitsOf s.1 ++ low s.2.2 s.2.1 → pre ++ vbits m = bitsOf (m.foldl lstep s).1 ++ low (m.foldl lstep s).2.2 (m.foldl lstep s).2.1 := by
    intro m
    induction m with
    | nil => intro s pre _ h; simpa [vbits] using h
    | cons c m ih =>
      intro s pre hi h
      have hn := lstep_inv s c hi.1 hi.2
      have : pre ++ vb c = bitsOf (lstep s c).1 ++ low (lstep s c).2.2 (lstep s c).2.1 := by
        unfold vb lstep
        by_cases hv : val64 c < 0
        · rw [if_pos hv, if_pos hv]; simpa using h
        · rw [if_neg hv, if_neg hv]
          obtain ⟨e1, e2⟩ := val64_idx (c := c) (by omega)
          rw [e1, Int.toNat_natCast, h]
          obtain ⟨o, x, b⟩ := s
          simp only [] at hi ⊢
          obtain hb | hb | hb | hb : b = 0 ∨ b = 2 ∨ b = 4 ∨ b = 6 := by omega
          · subst hb
            simp only [Nat.pow_zero] at hi
            have hx : x = 0 := by omega
            subst hx
            simp [low, List.range_succ, bits6]
          all_goals
            subst hb
            simp only [show ¬ (2 + 6 < 8) by omega, show ¬ (4 + 6 < 8) by omega, show ¬ (6 + 6 < 8) by omega, if_false]
            have hx := hi.2
            simp only [Nat.reducePow] at hx
            unfold bitsOf
            rw [List.flatMap_append, List.append_assoc, List.append_assoc]
            congr 1
            simp only [List.flatMap_cons, List.flatMap_nil, List.append_nil, bits8, low, bits6, List.range_succ, List.range_zero, List.nil_append, List.cons_append, List.map_cons, List.map_nil, UInt8.toNat_ofNat', Nat.reduceAdd, Nat.reduceSub, Nat.reducePow]
            simp only [List.cons.injEq, and_true]
            omega
      have h2 := ih (lstep s c) (pre ++ vb c) hn this
      rw [List.foldl_cons, ← h2]
      simp [vbits]
  have := key m ([], 0, 0) [] (by simp) rfl
  simpa [lrun] using this
theorem eight_add (x bits : List Nat) (q : Nat) (hx : x.length = 8) : eight (x ++ bits) (q + 1) = eight bits q := by
  unfold eight
  congr 1
  rw [List.drop_take, List.drop_take, show 8 * (q + 1) = x.length + 8 * q by omega, List.drop_length_add_append]
  congr 1
  omega
theorem octs_cons (u : UInt8) (bits : List Nat) (q : Nat) : octs (bits8 u.toNat ++ bits) (q + 1) = u :: octs bits q := by
  induction q with
  | zero =>
    have : eight (bits8 u.toNat ++ bits) 0 = u.toNat := by
      unfold eight
      rw [show (List.take (8 * 0 + 8) (bits8 u.toNat ++ bits)).drop (8 * 0) = bits8 u.toNat by simp [bits8]]
      exact sumN8 _ u.toNat_lt
    simp [octs, this]
  | succ q ih => rw [octs, ih, eight_add _ _ _ (bits8_len _), octs, List.cons_append]
theorem octs_bits (o : List UInt8) (t : List Nat) : octs (bitsOf o ++ t) o.length = o := by
  induction o with
  | nil => rfl
  | cons u o ih =>
    have : bitsOf (u :: o) ++ t = bits8 u.toNat ++ (bitsOf o ++ t) := by simp [bitsOf]
    rw [this, List.length_cons, octs_cons, ih]
theorem lenient_loose (l : List UInt8) : lenient l = loose64 l := by
  unfold lenient loose64
  have h := lrun_bits (upto61 l)
  have hi := lrun_inv (upto61 l)
  have hl : (vbits (upto61 l)).length / 8 = (lrun (upto61 l)).1.length := by
    rw [h, List.length_append, bitsOf_len, low_len]; omega
  rw [hl, h, octs_bits]
def vis (l : List UInt8) : List Nat := vbits (upto61 l)
theorem upto61_not {a : List UInt8} (b : List UInt8) (h : 61 ∉ a) : upto61 (a ++ b) = a ++ upto61 b := by
  induction a with
  | nil => rfl
  | cons u a ih =>
    have hu : u ≠ 61 := fun e => h (by rw [e]; exact List.mem_cons_self)
    unfold upto61 at *
    rw [List.cons_append, List.takeWhile_cons_of_pos (by simpa using hu), ih (fun hm => h (List.mem_cons_of_mem _ hm)), List.cons_append]
theorem vbits_app (a b : List UInt8) : vbits (a ++ b) = vbits a ++ vbits b := by simp [vbits]
theorem vis_not (a b : List UInt8) (h : 61 ∉ a) : vis (a ++ b) = vbits a ++ vis b := by unfold vis; rw [upto61_not _ h, vbits_app]
theorem A_val (k : Nat) (h : k < 64) : val64 (A k) = (k : Int) ∧ A k ≠ 61 := by
  have key : ∀ k, k < 64 → val64 (A k) = (k : Int) ∧ A k ≠ 61 := by decide
  exact key k h
theorem vb_A (k : Nat) (h : k < 64) : vb (A k) = bits6 k := by
  unfold vb; rw [(A_val k h).1, if_neg (by omega), Int.toNat_natCast]
theorem vis_chars (l : List UInt8) : ∃ z, vis (grps l).flatten = bitsOf l ++ z ∧ z.length < 8 := by
  induction l using byThree with
  | h0 => exact ⟨[], rfl, by simp⟩
  | h1 a =>
    have ha := a.toNat_lt
    refine ⟨[0, 0, 0, 0], ?_, by simp⟩
    rw [grps_one, grp1, List.flatten_cons, List.flatten_nil, List.append_nil]
    have h1 := A_val (a.toNat / 4) (by omega)
    have h2 := A_val (a.toNat % 4 * 16) (by omega)
    rw [show [A (a.toNat / 4), A (a.toNat % 4 * 16), 61, 61] = [A (a.toNat / 4), A (a.toNat % 4 * 16)] ++ [61, 61] from rfl, vis_not _ _ (by simp only [List.mem_cons, List.not_mem_nil, or_false, not_or]; exact ⟨Ne.symm h1.2, Ne.symm h2.2⟩)]
    simp only [vbits, List.flatMap_cons, List.flatMap_nil, List.append_nil, vb_A _ (show a.toNat / 4 < 64 by omega), vb_A _ (show a.toNat % 4 * 16 < 64 by omega), bitsOf, bits6, bits8, List.cons_append, List.nil_append, vis, upto61, List.takeWhile_cons]
    simp
    omega
  | h2 a b =>
    have ha := a.toNat_lt
    have hb := b.toNat_lt
    refine ⟨[0, 0], ?_, by simp⟩
    rw [grps_two, grp2, List.flatten_cons, List.flatten_nil, List.append_nil]
    have h1 := A_val (a.toNat / 4) (by omega)
    have h2 := A_val (a.toNat % 4 * 16 + b.toNat / 16) (by omega)
    have h3 := A_val (b.toNat % 16 * 4) (by omega)
    rw [show [A (a.toNat / 4), A (a.toNat % 4 * 16 + b.toNat / 16), A (b.toNat % 16 * 4), 61] = [A (a.toNat / 4), A (a.toNat % 4 * 16 + b.toNat / 16), A (b.toNat % 16 * 4)] ++ [61] from rfl, vis_not _ _ (by simp only [List.mem_cons, List.not_mem_nil, or_false, not_or]; exact ⟨Ne.symm h1.2, Ne.symm h2.2, Ne.symm h3.2⟩)]
    simp only [vbits, List.flatMap_cons, List.flatMap_nil, List.append_nil, vb_A _ (show a.toNat / 4 < 64 by omega), vb_A _ (show a.toNat % 4 * 16 + b.toNat / 16 < 64 by omega), vb_A _ (show b.toNat % 16 * 4 < 64 by omega), bitsOf, bits6, bits8, List.cons_append, List.nil_append, vis, upto61, List.takeWhile_cons]
    simp
    omega
  | h3 a b c l ih =>
    have ha := a.toNat_lt
    have hb := b.toNat_lt
    have hc := c.toNat_lt
    obtain ⟨z, hz, hl⟩ := ih
    refine ⟨z, ?_, hl⟩
    rw [grps_three, grp3, List.flatten_cons]
    have h1 := A_val (a.toNat / 4) (by omega)
    have h2 := A_val (a.toNat % 4 * 16 + b.toNat / 16) (by omega)
    have h3 := A_val (b.toNat % 16 * 4 + c.toNat / 64) (by omega)
    have h4 := A_val (c.toNat % 64) (by omega)
    rw [vis_not _ _ (by simp only [List.mem_cons, List.not_mem_nil, or_false, not_or]; exact ⟨Ne.symm h1.2, Ne.symm h2.2, Ne.symm h3.2, Ne.symm h4.2⟩), hz]
    have h5 : bitsOf (a :: b :: c :: l) = (bits8 a.toNat ++ bits8 b.toNat ++ bits8 c.toNat) ++ bitsOf l := by simp [bitsOf]
    rw [h5, List.append_assoc _ (bitsOf l)]
    congr 1
    simp only [vbits, List.flatMap_cons, List.flatMap_nil, List.append_nil, vb_A _ (show a.toNat / 4 < 64 by omega), vb_A _ (show a.toNat % 4 * 16 + b.toNat / 16 < 64 by omega), vb_A _ (show b.toNat % 16 * 4 + c.toNat / 64 < 64 by omega), vb_A _ (show c.toNat % 64 < 64 by omega), bits6, bits8, List.cons_append, List.nil_append, List.cons.injEq, and_true]
    omega
theorem lenient_of_vis (m l : List UInt8) (h : vis m = vis (grps l).flatten) : lenient m = l := by
  obtain ⟨z, hz, hl⟩ := vis_chars l
  rw [lenient_loose]
  unfold loose64
  rw [show vbits (upto61 m) = bitsOf l ++ z from h.trans hz, List.length_append, bitsOf_len, show (8 * l.length + z.length) / 8 = l.length by omega, octs_bits]
end Go.Ph.B64
end
section
set_option linter.unusedVariables false
set_option linter.unusedSimpArgs false
namespace Go.Ph.Wd
open Go.Ph.Pl Go.Ph.Pf
open Go.Ph.Gr (chars Ch pieces byts)
open Go.Ph.Chs (vld setN setOf encK encGo decoded utf8 bestK)
theorem foldI {α σ γ : Type} {L : Nat → σ → Int → Option γ} (l : List α) (F : σ → α → σ) (fin : σ → γ) (I : Nat → σ → Prop)
    (hend : ∀ m s, I l.length s → L (m + 1) s (l.length : Int) = some (fin s))
    (hstep : ∀ m s i a, l[i]? = some a → I i s → I (i + 1) (F s a) ∧ L (m + 1) s (i : Int) = L m (F s a) ((i + 1 : Nat) : Int)) :
    ∀ (d i : Nat) (s : σ) (m : Nat), l.length - i = d → i ≤ l.length → d < m → I i s → L m s (i : Int) = some (fin ((l.drop i).foldl F s)) := by
  intro d
  induction d with
  | zero =>
    intro i s m h1 h2 h3 hI
    obtain ⟨m, rfl⟩ : ∃ k, m = k + 1 := ⟨m - 1, by omega⟩
    obtain rfl : i = l.length := by omega
    rw [hend m s hI, List.drop_length]; rfl
  | succ d ih =>
    intro i s m h1 h2 h3 hI
    obtain ⟨m, rfl⟩ : ∃ k, m = k + 1 := ⟨m - 1, by omega⟩
    have hi : i < l.length := by omega
    obtain ⟨hI', hL⟩ := hstep m s i l[i] (List.getElem?_eq_getElem hi) hI
    rw [hL, ih (i + 1) _ m (by omega) (by omega) (by omega) hI', List.drop_eq_getElem_cons hi]; rfl
theorem foldI0 {α σ γ : Type} {L : Nat → σ → Int → Option γ} (l : List α) (F : σ → α → σ) (fin : σ → γ) (I : Nat → σ → Prop) (hl : l.length ≤ 9223372036854775807)
    (hend : ∀ m s, I l.length s → L (m + 1) s (l.length : Int) = some (fin s))
    (hstep : ∀ m s i a, l[i]? = some a → I i s → I (i + 1) (F s a) ∧ L (m + 1) s (i : Int) = L m (F s a) ((i + 1 : Nat) : Int)) (s : σ) (h0 : I 0 s) : L FU s 0 = some (fin (l.foldl F s)) := by
  have := foldI l F fin I hend hstep l.length 0 s FU (by omega) (by omega) (FU_gt hl) h0
  simpa using this
theorem foldl_app {α β : Type} (f : α → List β) : ∀ (l : List α) (o : List β), l.foldl (fun o a => o ++ f a) o = o ++ l.flatMap f
  | [], o => by simp
  | a :: l, o => by rw [List.foldl_cons, foldl_app f l]; simp
def hexd : List UInt8 := [48, 49, 50, 51, 52, 53, 54, 55, 56, 57, 65, 66, 67, 68, 69, 70]
def alnum (c : UInt8) : Bool := decide (97 ≤ c.toNat ∧ c.toNat ≤ 122) || (decide (65 ≤ c.toNat ∧ c.toNat ≤ 90) || decide (48 ≤ c.toNat ∧ c.toNat ≤ 57))
def hx (n : Nat) : UInt8 := hexd.getD n 0
theorem allB {p : UInt8 → Prop} (h : ∀ n, n < 256 → p (UInt8.ofNat n)) (c : UInt8) : p c := by
  have := h c.toNat c.toNat_lt
  rwa [UInt8.ofNat_toNat] at this
theorem letter_eq (c : UInt8) : basic_Letter c = some (alnum c) := by
  refine allB (p := fun c => basic_Letter c = some (alnum c)) ?_ c
  decide +kernel
theorem digit_hi (c : UInt8) : basic_Digit (UInt8.ofNat (c.toNat / 2 ^ 4)) = some (hx (c.toNat / 16)) := by
  refine allB (p := fun c => basic_Digit (UInt8.ofNat (c.toNat / 2 ^ 4)) = some (hx (c.toNat / 16))) ?_ c
  decide +kernel
theorem digit_lo (c : UInt8) : basic_Digit c = some (hx (c.toNat % 16)) := by
  refine allB (p := fun c => basic_Digit c = some (hx (c.toNat % 16))) ?_ c
  decide +kernel
def dq1 (c : UInt8) : List UInt8 := if c = 32 then [95] else if alnum c = true then [c] else [61, hx (c.toNat / 16), hx (c.toNat % 16)]
def dq (b : List UInt8) : List UInt8 := b.flatMap dq1
theorem dq1_len (c : UInt8) : 1 ≤ (dq1 c).length ∧ (dq1 c).length ≤ 3 := by unfold dq1; split; · simp
                                                                            split <;> simp
theorem dq_len (b : List UInt8) : (dq b).length ≤ 3 * b.length := by
  unfold dq
  induction b with
  | nil => simp
  | cons c b ih => have := dq1_len c; simp only [List.flatMap_cons, List.length_append, List.length_cons]; omega
theorem data_eq (b : List UInt8) (hb : b.length ≤ 1000000) : words_data b = some (dq b) := by
  unfold words_data
  rw [foldI0 (L := fun m s i => words_data_L1 b m s i) b (fun o c => o ++ dq1 c) id (fun i s => s.length ≤ 3 * i) (by omega) ?_ ?_ [] (by simp), foldl_app, bsome]
  · rfl
  · intro m s hs
    rw [words_data_L1, if_neg (by omega)]; rfl
  · intro m s i a ha hs
    have hi := (List.getElem?_eq_some_iff.1 ha).1
    have hl := dq1_len a
    refine ⟨by rw [List.length_append]; omega, ?_⟩
    rw [words_data_L1, if_pos (by omega), idx_nat, ha, bsome]
    unfold dq1 strings_Builder_WriteByte strings_Builder_Write
    by_cases h1 : a = 32
    · rw [if_pos h1, if_pos h1, app_ok (by simp; omega), bsome]
      dsimp only
      rw [bsome, chk_succ (by omega), bsome]
    · rw [if_neg h1, if_neg h1, letter_eq, bsome]
      by_cases h2 : alnum a = true
      · rw [if_pos h2, if_pos h2, app_ok (by simp; omega), bsome]
        dsimp only
        rw [bsome, chk_succ (by omega), bsome]
      · rw [if_neg h2, if_neg h2, digit_hi, bsome, digit_lo, bsome, app_ok (by simp; omega), bsome]
        dsimp only
        rw [bsome, chk_succ (by omega), bsome]
inductive Good : List UInt8 → Prop
  | nil : Good []
  | one {c : UInt8} {t : List UInt8} (h1 : c ≠ 13) (h2 : c ≠ 10) (h : Good t) : Good (c :: t)
  | crlf {t : List UInt8} (h : Good t) : Good (13 :: 10 :: t)
theorem Good.app {a b : List UInt8} (h : Good a) (k : Good b) : Good (a ++ b) := by
  induction h with
  | nil => exact k
  | one h1 h2 _ ih => exact .one h1 h2 ih
  | crlf _ ih => exact .crlf ih
def fre (l : List UInt8) : Prop := ∀ c ∈ l, c ≠ 13 ∧ c ≠ 10
theorem Good.of {a : List UInt8} (h : fre a) : Good a := by
  induction a with
  | nil => exact .nil
  | cons c a ih => exact .one (h c (by simp)).1 (h c (by simp)).2 (ih fun x hx => h x (by simp [hx]))
def keep (c : UInt8) : Bool := decide (c ≠ 13 ∧ c ≠ 10)
theorem keep_fre {a : List UInt8} (h : fre a) : a.filter keep = a := by
  rw [List.filter_eq_self]; intro c hc; exact decide_eq_true (h c hc)
theorem Good.index {s : List UInt8} (h : Good s) : (Lib.index s [13, 10] = -1 ∧ fre s) ∨ ∃ i : Nat, Lib.index s [13, 10] = (i : Int) ∧ fre (s.take i) ∧ Good (s.drop (i + 2)) ∧ i + 2 ≤ s.length ∧ s.filter keep = s.take i ++ (s.drop (i + 2)).filter keep := by
  induction h with
  | nil => exact .inl ⟨rfl, fun c hc => by cases hc⟩
  | @one c t h1 h2 h ih =>
    have hp : ([13, 10] : List UInt8).isPrefixOf (c :: t) = false := by simp [List.isPrefixOf, Ne.symm h1]
    have hk : keep c = true := decide_eq_true ⟨h1, h2⟩
    rcases ih with ⟨e1, e2⟩ | ⟨i, e1, e2, e3, e4, e5⟩
    · refine .inl ⟨by rw [Lib.index, hp, e1]; rfl, fun x hx => ?_⟩
      rcases List.mem_cons.1 hx with rfl | hx
      · exact ⟨h1, h2⟩
      · exact e2 x hx
    · refine .inr ⟨i + 1, ?_, fun x hx => ?_, ?_, by rw [List.length_cons]; omega, ?_⟩
      · rw [Lib.index, hp, e1]
        have : ((i : Int) == -1) = false := by simp
        rw [this]; simp
      · rw [List.take_succ_cons] at hx
        rcases List.mem_cons.1 hx with rfl | hx
        · exact ⟨h1, h2⟩
        · exact e2 x hx
      · rw [show i + 1 + 2 = (i + 2) + 1 by omega, List.drop_succ_cons]; exact e3
      · rw [List.filter_cons_of_pos hk, e5, List.take_succ_cons, show i + 1 + 2 = (i + 2) + 1 by omega, List.drop_succ_cons]; rfl
  | @crlf t h ih =>
    refine .inr ⟨0, by rw [Lib.index]; simp [List.isPrefixOf], fun x hx => (by cases hx), h, by simp, ?_⟩
    rw [List.take_zero, List.drop_succ_cons, List.drop_succ_cons, List.drop_zero, List.filter_cons_of_neg (by decide), List.filter_cons_of_neg (by decide)]; rfl
theorem replK : ∀ (n : Nat) (s : List UInt8), s.length ≤ n → Good s → Lib.replaceK [13, 10] [] (Lib.count s [13, 10]) s = s.filter keep
  | n, s, hn, h => by
    rcases h.index with ⟨e1, e2⟩ | ⟨i, e1, e2, e3, e4, e5⟩
    · rw [Lib.count_miss e1, keep_fre e2]; rfl
    · obtain ⟨n, rfl⟩ : ∃ k, n = k + 1 := ⟨n - 1, by omega⟩
      rw [Lib.count_hit (by simp) e1, Nat.add_comm, Lib.replaceK_hit _ _ _ _ _ e1, e5, List.append_nil]
      show _ ++ Lib.replaceK [13, 10] [] (Lib.count (s.drop (i + 2)) [13, 10]) (s.drop (i + 2)) = _
      rw [replK n (s.drop (i + 2)) (by rw [List.length_drop]; omega) e3]
theorem repl_good {s : List UInt8} (h : Good s) : Lib.replaceAll s [13, 10] [] = s.filter keep := by
  unfold Lib.replaceAll Lib.replace Lib.replaceNum
  rw [if_neg (by decide), if_pos (.inl (by decide))]
  exact replK _ _ (Nat.le_refl _) h
theorem alpha_fre : ∀ c ∈ (61 :: B64.alpha), c ≠ 13 ∧ c ≠ 10 := by decide
theorem alpha_at (k : Nat) : B64.alpha.getD k 0 ∈ (61 :: B64.alpha) ∨ B64.alpha.getD k 0 = 0 := by
  by_cases h : k < B64.alpha.length
  · rw [B64.getD_in _ _ _ h]; exact .inl (List.mem_cons_of_mem _ (List.getElem_mem h))
  · rw [B64.getD_out _ _ _ (by omega)]; exact .inr rfl
theorem outp_fre (l : List UInt8) : fre (B64.outp l 4) := fun c hc => by
  rw [B64.outp_eq] at hc
  have hch : ∀ i, B64.ch l i ≠ 13 ∧ B64.ch l i ≠ 10 := fun i => by
    unfold B64.ch
    split
    · decide
    · rcases alpha_at (B64.accN l 3 / 2 ^ (18 - 6 * i) % 64) with h | h
      · exact alpha_fre _ h
      · rw [h]; decide
  simp only [List.mem_cons, List.not_mem_nil, or_false] at hc
  rcases hc with rfl | rfl | rfl | rfl <;> exact hch _
theorem chars64_fre (l : List UInt8) : fre (B64.chars64 l) := fun c hc => by
  rw [B64.chars_grps] at hc
  obtain ⟨g, hg, hc⟩ := List.mem_flatten.1 hc
  unfold B64.grps B64.grpsTo at hg
  obtain ⟨k, _, rfl⟩ := List.mem_map.1 hg
  exact outp_fre _ c hc
theorem fre_sub {a b : List UInt8} (h : fre b) (hs : ∀ c ∈ a, c ∈ b) : fre a := fun c hc => h c (hs c hc)
theorem wrapTo_good {cs : List UInt8} (h : fre cs) : ∀ m, Good (B64.wrapTo cs m) ∧ (B64.wrapTo cs m).filter keep = cs.take (76 * m)
  | 0 => ⟨.nil, rfl⟩
  | m + 1 => by
    obtain ⟨h1, h2⟩ := wrapTo_good h m
    have hf : fre ((cs.drop (76 * m)).take 76) := fre_sub h fun c hc => List.mem_of_mem_drop (List.mem_of_mem_take hc)
    rw [B64.wrapTo]
    refine ⟨(h1.app (.of hf)).app (.crlf .nil), ?_⟩
    rw [List.filter_append, List.filter_append, h2, keep_fre hf, show ([13, 10] : List UInt8).filter keep = [] by decide, List.append_nil]
    rw [show 76 * (m + 1) = 76 * m + 76 by omega, List.take_add]
theorem lines_good {cs : List UInt8} (h : fre cs) : Good (B64.lines64 cs) ∧ (B64.lines64 cs).filter keep = cs := by
  obtain ⟨h1, h2⟩ := wrapTo_good h ((cs.length - 1) / 76)
  have hf : fre (cs.drop (76 * ((cs.length - 1) / 76))) := fre_sub h fun c hc => List.mem_of_mem_drop hc
  unfold B64.lines64
  split
  · rename_i hd
    refine ⟨h1.app .nil, ?_⟩
    rw [List.append_nil, h2]
    have := List.take_append_drop (76 * ((cs.length - 1) / 76)) cs
    rw [hd, List.append_nil] at this; exact this
  · refine ⟨h1.app ((Good.of hf).app (.crlf .nil)), ?_⟩
    rw [List.filter_append, List.filter_append, h2, keep_fre hf, show ([13, 10] : List UInt8).filter keep = [] by decide, List.append_nil, List.take_append_drop]
theorem flat_eq (b : List UInt8) (hb : b.length ≤ 12000) : words_flat b = some (B64.chars64 b) := by
  unfold words_flat base64_Encode strings_ReplaceAll
  have hl := B64.encode_len b
  rw [if_pos hb, bsome]
  dsimp only
  rw [if_pos ⟨by omega, by decide, by simp; omega⟩, bsome, B64.encode_lines]
  obtain ⟨h1, h2⟩ := lines_good (chars64_fre b)
  rw [repl_good h1, h2]
abbrev nam (k : Nat) : List UInt8 := setN.getD k []
theorem setOf_nam : ∀ k, k < 4 → setOf (nam k) = some k := by decide
theorem nam_len : ∀ k, k < 4 → (nam k).length ≤ 7 := by decide
theorem nam_utf8 : ∀ k, k < 4 → (nam k = [117, 116, 102, 56] ↔ k = 2) := by decide
def enc (k : Nat) (l : List UInt8) : List UInt8 := (chars l).flatMap fun c => (encK k c.1).getD []
structure okE (k : Nat) (l : List UInt8) : Prop where
  v : vld l = true
  e : ∀ c ∈ chars l, ∃ b, encK k c.1 = some b
theorem enc_go {k : Nat} {l : List UInt8} (h : okE k l) : encGo (encK k) (chars l) 0 = .ok (enc k l) := by
  obtain ⟨b, hb⟩ := Chs.encGo_all (chars l) 0 h.e
  rw [hb]
  obtain ⟨bs, h1, h2⟩ := Chs.encGo_ok _ _ _ hb
  have : enc k l = (bs.map some).flatMap (fun o => o.getD []) := by
    rw [← h1]; unfold enc; rw [List.flatMap_map]
  rw [this, h2, List.flatMap_map]
  simp
theorem chars_len (l : List UInt8) : (chars l).length ≤ l.length := by
  have h := Gr.flat_le ((chars l).map (·.2)) (fun p hp => by
    obtain ⟨c, hc, rfl⟩ := List.mem_map.1 hp
    exact Gr.chars_ne l c hc)
  rw [Gr.chars_flat, List.length_map] at h
  exact h
theorem flatMap_len {α β : Type} (f : α → List β) (n : Nat) : ∀ (l : List α), (∀ a ∈ l, (f a).length ≤ n) → (l.flatMap f).length ≤ n * l.length
  | [], _ => by simp
  | a :: l, h => by
    have h1 := h a (by simp)
    have h2 := flatMap_len f n l (fun x hx => h x (by simp [hx]))
    simp only [List.flatMap_cons, List.length_append, List.length_cons, Nat.mul_succ]
    omega
theorem enc_len (k : Nat) (l : List UInt8) : (enc k l).length ≤ 4 * l.length := by
  have h := flatMap_len (fun c : Ch => (encK k c.1).getD []) 4 (chars l) (fun c _ => by
    cases he : encK k c.1 with
    | none => simp
    | some b => exact Chs.encK_len he)
  have h2 := chars_len l
  unfold enc
  omega
def wrap (k : Nat) (b : List UInt8) : List UInt8 := [61, 63] ++ nam k ++ (if k = 2 then [63, 66, 63] ++ B64.chars64 b else [63, 81, 63] ++ dq b) ++ [63, 61]
def W (k : Nat) (l : List UInt8) : List UInt8 := wrap k (enc k l)
theorem charset_enc {k : Nat} {l : List UInt8} (hk : k < 4) (hl : l.length ≤ 12000) (h : okE k l) : charset_Encode (nam k) l = some (enc k l, (0, 0)) := by
  unfold charset_Encode
  have hn := nam_len k hk
  rw [if_pos ⟨by omega, hl⟩, setOf_nam k hk]
  dsimp only
  rw [if_pos h.v, enc_go h]
theorem word_eq {k : Nat} {l : List UInt8} (hk : k < 3) (hl : l.length ≤ 3000) (h : okE k l) : words_word (nam k) l = some (W k l) := by
  have hn := nam_len k (by omega)
  have he := enc_len k l
  have hd := dq_len (enc k l)
  have hc := B64.chars_len (enc k l)
  have hu := nam_utf8 k (by omega)
  unfold words_word W wrap
  rw [charset_enc (by omega) (by omega) h, bsome]
  dsimp only
  by_cases h2 : k = 2
  · rw [if_pos (hu.2 h2), if_pos h2, cat_ok (by simp only [List.length_cons, List.length_nil]; omega), bsome, cat_ok (by simp only [List.length_append, List.length_cons, List.length_nil]; omega), bsome, flat_eq _ (by omega), bsome,
      cat_ok (by simp only [List.length_append, List.length_cons, List.length_nil]; omega), bsome, cat_ok (by simp only [List.length_append, List.length_cons, List.length_nil]; omega), bsome]
    simp only [List.append_assoc]
  · rw [if_neg (fun e => h2 (hu.1 e)), if_neg h2, cat_ok (by simp only [List.length_cons, List.length_nil]; omega), bsome, cat_ok (by simp only [List.length_append, List.length_cons, List.length_nil]; omega), bsome, data_eq _ (by omega), bsome,
      cat_ok (by simp only [List.length_append, List.length_cons, List.length_nil]; omega), bsome, cat_ok (by simp only [List.length_append, List.length_cons, List.length_nil]; omega), bsome]
    simp only [List.append_assoc]
end Go.Ph.Wd
end
section
set_option linter.unusedVariables false
set_option linter.unusedSimpArgs false
namespace Go.Ph.Wd
open Go.Ph.Pl Go.Ph.Pf
open Go.Ph.Gr (chars Ch pieces byts segs)
open Go.Ph.Chs (vld setN setOf encK encGo decoded utf8 bestK)
open Go.Ph.Utf (rune dr)
theorem chars_mid {l : List UInt8} {A g B : List Ch} (h : chars l = A ++ g ++ B) : chars (byts g) = g := by
  obtain ⟨h1, _⟩ := Gr.chars_split (A ++ g) B l h
  exact (Gr.chars_split A g _ h1).2
theorem okE.mid {k : Nat} {l : List UInt8} (h : okE k l) {A g B : List Ch} (hs : chars l = A ++ g ++ B) : okE k (byts g) := by
  have hc := chars_mid hs
  have hm : ∀ c ∈ g, c ∈ chars l := fun c hc => by rw [hs]; simp [hc]
  refine ⟨?_, fun c hcg => h.e c (hm c (by rwa [hc] at hcg))⟩
  have hv := h.v
  unfold vld at hv ⊢
  rw [hc]
  rw [List.all_eq_true] at hv ⊢
  exact fun c hcg => hv c (hm c hcg)
theorem byts_app (a b : List Ch) : byts (a ++ b) = byts a ++ byts b := by simp [byts]
theorem byts_len {l : List UInt8} {A g B : List Ch} (h : chars l = A ++ g ++ B) : (byts g).length ≤ l.length := by
  have := Gr.chars_flat l
  rw [h] at this
  simp only [List.map_append, List.flatten_append] at this
  rw [← this]
  simp only [List.length_append, byts]
  omega
def usC (k : Nat) (g : List Ch) : List (List Ch) := if (W k (byts g)).length ≤ 75 then [g] else g.map fun c => [c]
def unitsC (k : Nat) (l : List UInt8) : List (List Ch) := (segs (chars l)).flatMap (usC k)
theorem singles_flat (g : List Ch) : (g.map fun c => [c]).flatten = g := by
  induction g with
  | nil => rfl
  | cons c g ih => rw [List.map_cons, List.flatten_cons, ih]; rfl
theorem usC_flat (k : Nat) (g : List Ch) : (usC k g).flatten = g := by
  unfold usC
  split
  · simp
  · exact singles_flat g
theorem unitsC_flat (k : Nat) (l : List UInt8) : (unitsC k l).flatten = chars l := by
  unfold unitsC
  conv => rhs; rw [← Gr.segs_flat (chars l)]
  induction segs (chars l) with
  | nil => rfl
  | cons g gs ih => rw [List.flatMap_cons, List.flatten_append, ih, usC_flat]; rfl
theorem unitsC_ne (k : Nat) (l : List UInt8) : ∀ u ∈ unitsC k l, u ≠ [] := fun u hu => by
  obtain ⟨g, hg, hu⟩ := List.mem_flatMap.1 hu
  unfold usC at hu
  split at hu
  · simp only [List.mem_cons, List.not_mem_nil, or_false] at hu
    subst hu; exact Gr.segs_ne _ _ hg
  · obtain ⟨c, _, rfl⟩ := List.mem_map.1 hu; simp
def runX {σ α : Type} (Y : σ → α → Option (σ × Bool)) : List α → σ → Option (σ ⊕ σ)
  | [], s => some (.inl s)
  | x :: xs, s => (Y s x).bind fun r => if r.2 = true then runX Y xs r.1 else some (.inr r.1)
theorem runX_app {σ α : Type} (Y : σ → α → Option (σ × Bool)) (ys : List α) : ∀ (xs : List α) (s : σ), runX Y (xs ++ ys) s = (runX Y xs s).bind fun o => match o with | .inl s' => runX Y ys s' | .inr r => some (.inr r)
  | [], s => by rw [List.nil_append, runX, bsome]
  | x :: xs, s => by
    rw [List.cons_append, runX, runX]
    cases h : Y s x with
    | none => rfl
    | some r =>
      rw [bsome, bsome]
      by_cases hr : r.2 = true
      · rw [if_pos hr, if_pos hr, runX_app Y ys xs]
      · rw [if_neg hr, if_neg hr, bsome]
theorem runX_runL {σ α : Type} (Y : σ → α → Option (σ × Bool)) : ∀ (xs : List α) (s : σ), ((runX Y xs s).bind fun o => match o with | .inl s5 => some s5 | .inr r35 => some r35) = runL Y xs s
  | [], s => by rw [runX, bsome]; rfl
  | x :: xs, s => by
    rw [runX, runL]
    cases h : Y s x with
    | none => rfl
    | some r =>
      rw [bsome, bsome]
      by_cases hr : r.2 = true
      · rw [if_pos hr, if_pos hr, runX_runL Y xs]
      · rw [if_neg hr, if_neg hr, bsome]
theorem units_L2 {σ : Type} (Y : σ → List UInt8 → Option (σ × Bool)) (a : List UInt8) (ha : a.length ≤ 1000000) : ∀ (d p m : Nat) (s : σ), a.length - p ≤ d → d < m → p ≤ a.length → vld (a.drop p) = true →
    words_units_1_L2 Y a m p s = runX Y ((chars (a.drop p)).map (·.2)) s := by
  intro d
  induction d with
  | zero =>
    intro p m s h1 h2 h3 hv
    obtain ⟨m, rfl⟩ : ∃ k, m = k + 1 := ⟨m - 1, by omega⟩
    rw [words_units_1_L2, if_neg (by omega), List.drop_eq_nil_of_le (by omega)]; rfl
  | succ d ih =>
    intro p m s h1 h2 h3 hv
    obtain ⟨m, rfl⟩ : ∃ k, m = k + 1 := ⟨m - 1, by omega⟩
    rw [words_units_1_L2]
    by_cases hp : p < a.length
    · have hne := Gr.drop_ne (t := a) (n := p) hp
      rw [Chs.vld_cons hne] at hv
      simp only [Bool.and_eq_true, decide_eq_true_eq] at hv
      have hrs := Utf.rune_size (a.drop p)
      have h5 := hrs.2.2 hne
      rw [List.length_drop] at h5
      have hd : dr (a.drop p) = ((rune (a.drop p)).1.toNat, (rune (a.drop p)).2) := by rw [Utf.rune_dr, if_neg (by omega)]
      have hy : utf8 ((dr (a.drop p)).1 : Int) = (a.drop p).take (rune (a.drop p)).2 := by
        rw [hd, ← Chs.utf8_rune _ hne hv.1]
        show utf8 (((rune (a.drop p)).1.toNat : Nat) : Int) = _
        rw [Int.toNat_of_nonneg hv.1]
      rw [if_pos hp, Gr.chars_cons hne, List.map_cons, runX, hy]
      cases hY : Y s ((a.drop p).take (rune (a.drop p)).2) with
      | none => rfl
      | some r =>
        obtain ⟨s2, b⟩ := r
        rw [bsome, bsome]
        dsimp only
        by_cases hb : b = true
        · rw [if_pos hb, if_pos hb, hd]
          have := ih (p + (rune (a.drop p)).2) m s2 (by omega) (by omega) (by omega) (by rw [← List.drop_drop]; exact hv.2)
          rw [← List.drop_drop] at this
          exact this
        · rw [if_neg hb, if_neg hb]
    · rw [if_neg hp, List.drop_eq_nil_of_le (by omega)]; rfl
theorem seg_mid {cs g : List Ch} {gs : List (List Ch)} (h : gs.flatten = cs) (hg : g ∈ gs) : ∃ A B, cs = A ++ g ++ B := by
  obtain ⟨a, b, rfl⟩ := List.append_of_mem hg
  exact ⟨a.flatten, b.flatten, by rw [← h]; simp⟩
theorem singles_byts (g : List Ch) : (g.map fun c => [c]).map byts = g.map (·.2) := by
  rw [List.map_map]; apply List.map_congr_left; intro c _; simp [byts]
theorem units_L1 {σ : Type} (Y : σ → List UInt8 → Option (σ × Bool)) {k : Nat} (hk : k < 3) (l : List UInt8) (hl : l.length ≤ 3000) (hok : okE k l) : ∀ (d i m : Nat) (s : σ), (segs (chars l)).length - i ≤ d → d < m → i ≤ (segs (chars l)).length →
    words_units_1_L1 Y (nam k) (pieces l) m (i : Int) s = runX Y ((((segs (chars l)).drop i).flatMap (usC k)).map byts) s := by
  have hpl := Gr.pieces_len l
  have hsl : (pieces l).length = (segs (chars l)).length := by unfold pieces; rw [List.length_map]
  intro d
  induction d with
  | zero =>
    intro i m s h1 h2 h3
    obtain ⟨m, rfl⟩ : ∃ k, m = k + 1 := ⟨m - 1, by omega⟩
    rw [words_units_1_L1, if_neg (by omega), List.drop_eq_nil_of_le (by omega)]; rfl
  | succ d ih =>
    intro i m s h1 h2 h3
    obtain ⟨m, rfl⟩ : ∃ k, m = k + 1 := ⟨m - 1, by omega⟩
    rw [words_units_1_L1]
    by_cases hi : i < (segs (chars l)).length
    · have hp : (pieces l)[i]? = some (byts (segs (chars l))[i]) := by unfold pieces; rw [List.getElem?_map, List.getElem?_eq_getElem hi]; rfl
      obtain ⟨A, B, hAB⟩ := seg_mid (Gr.segs_flat (chars l)) (List.getElem_mem hi)
      have hg := hok.mid hAB
      have hgl := byts_len hAB
      have hgc := chars_mid hAB
      rw [if_pos (by omega), idx_nat, hp, bsome, word_eq hk (by omega) hg, bsome, List.drop_eq_getElem_cons hi, List.flatMap_cons, List.map_append, runX_app]
      unfold usC
      by_cases hw : (W k (byts (segs (chars l))[i])).length ≤ 75
      · rw [if_pos (by omega), if_pos hw, List.map_cons, List.map_nil, runX]
        cases hY : Y s (byts (segs (chars l))[i]) with
        | none => rfl
        | some r =>
          obtain ⟨s2, b⟩ := r
          rw [bsome, bsome]
          dsimp only
          by_cases hb : b = true
          · rw [if_pos hb, if_pos hb, runX, bsome, chk_succ (by omega), bsome]
            exact ih (i + 1) m s2 (by omega) (by omega) (by omega)
          · rw [if_neg hb, if_neg hb, bsome]
      · have h2 := units_L2 Y (byts (segs (chars l))[i]) (by omega) (byts (segs (chars l))[i]).length 0 FU s (by omega) (by rw [FU_eq]; omega) (by omega) (by rw [List.drop_zero]; exact hg.v)
        rw [List.drop_zero, hgc] at h2
        rw [if_neg (by omega), if_neg hw, singles_byts, h2]
        refine congrArg (Option.bind _) (funext fun o => ?_)
        cases o with
        | inl s2 =>
          dsimp only
          rw [chk_succ (by omega), bsome]
          exact ih (i + 1) m s2 (by omega) (by omega) (by omega)
        | inr r => rfl
    · rw [if_neg (by omega), List.drop_eq_nil_of_le (by omega)]; rfl
theorem units_eq {σ : Type} (Y : σ → List UInt8 → Option (σ × Bool)) (s : σ) {k : Nat} (hk : k < 3) {l : List UInt8} (hl : l.length ≤ 3000) (hok : okE k l) : words_units_1 l (nam k) σ Y s = runL Y ((unitsC k l).map byts) s := by
  unfold words_units_1 grapheme_Split
  have hpl := Gr.pieces_len l
  have hsl : (pieces l).length = (segs (chars l)).length := by unfold pieces; rw [List.length_map]
  rw [if_pos (by omega), bsome]
  have := units_L1 Y hk l hl hok _ 0 FU s (Nat.le_refl _) (by rw [FU_eq]; omega) (by omega)
  rw [List.drop_zero] at this
  show ((words_units_1_L1 Y (nam k) (pieces l) FU ((0 : Nat) : Int) s).bind fun o36 => _) = _
  rw [this]
  exact runX_runL Y _ s
end Go.Ph.Wd
end
section
set_option linter.unusedVariables false
set_option linter.unusedSimpArgs false
namespace Go.Ph.Wd
open Go.Ph.Pl Go.Ph.Pf
open Go.Ph.Gr (chars Ch pieces byts segs)
open Go.Ph.Chs (vld setN setOf encK encGo decoded utf8 bestK)
open Go.Ph.Utf (rune dr)
def p2 (k : Nat) (now : List Ch) : List (List Ch) → List (List Ch)
  | [] => [now]
  | u :: us => if (W k (byts (now ++ u))).length ≤ 75 then p2 k (now ++ u) us else now :: p2 k u us
def parts (k : Nat) : List (List Ch) → List (List Ch)
  | [] => []
  | u :: us => p2 k u us
theorem p2_flat (k : Nat) : ∀ (us : List (List Ch)) (now : List Ch), (p2 k now us).flatten = now ++ us.flatten
  | [], now => by simp [p2]
  | u :: us, now => by
    rw [p2]
    split
    · rw [p2_flat k us]; simp
    · rw [List.flatten_cons, p2_flat k us]; simp
theorem p2_len (k : Nat) : ∀ (us : List (List Ch)) (now : List Ch), (p2 k now us).length ≤ us.length + 1
  | [], now => by simp [p2]
  | u :: us, now => by
    rw [p2]
    split
    · have := p2_len k us (now ++ u); simp; omega
    · have := p2_len k us u; simp; omega
def gr (k : Nat) (s : List (List Ch) × List Ch) (u : List Ch) : List (List Ch) × List Ch := if s.2 ≠ [] ∧ 75 < (W k (byts (s.2 ++ u))).length then (s.1 ++ [s.2], u) else (s.1, s.2 ++ u)
theorem gr_p2 (k : Nat) : ∀ (us : List (List Ch)) (out : List (List Ch)) (now : List Ch), now ≠ [] → (∀ u ∈ us, u ≠ []) → (us.foldl (gr k) (out, now)).1 ++ [(us.foldl (gr k) (out, now)).2] = out ++ p2 k now us
  | [], out, now, h0, h => by simp [p2]
  | u :: us, out, now, h0, h => by
    rw [List.foldl_cons, p2]
    by_cases hw : (W k (byts (now ++ u))).length ≤ 75
    · rw [if_pos hw, show gr k (out, now) u = (out, now ++ u) by unfold gr; dsimp only; rw [if_neg (fun e => by have := e.2; omega)]]
      exact gr_p2 k us out (now ++ u) (by simp [h0]) (fun x hx => h x (by simp [hx]))
    · rw [if_neg hw, show gr k (out, now) u = (out ++ [now], u) by unfold gr; dsimp only; rw [if_pos ⟨h0, by omega⟩]]
      rw [gr_p2 k us (out ++ [now]) u (h u (by simp)) (fun x hx => h x (by simp [hx]))]; simp
theorem gr_parts (k : Nat) (us : List (List Ch)) (hne : us ≠ []) (h : ∀ u ∈ us, u ≠ []) : (us.foldl (gr k) ([], [])).1 ++ [(us.foldl (gr k) ([], [])).2] = parts k us := by
  cases us with
  | nil => exact absurd rfl hne
  | cons u us =>
    rw [List.foldl_cons, show gr k ([], []) u = ([], u) by unfold gr; simp, gr_p2 k us [] u (h u (by simp)) (fun x hx => h x (by simp [hx]))]; rfl
theorem byts_nil {g : List Ch} {l : List UInt8} (hs : ∀ c ∈ g, c ∈ chars l) : byts g = [] ↔ g = [] := by
  constructor
  · intro h
    cases g with
    | nil => rfl
    | cons c g =>
      have := Gr.chars_ne l c (hs c (by simp))
      simp [byts] at h
      exact absurd h.1 this
  · rintro rfl; rfl
theorem wrap_len (k : Nat) (hk : k < 4) (b : List UInt8) : (wrap k b).length ≤ 20 + 4 * (b.length + 2) := by
  have hn := nam_len k hk
  have hd := dq_len b
  have hc := B64.chars_len b
  unfold wrap
  simp only [List.length_append, List.length_cons, List.length_nil]
  split
  · simp only [List.length_append, List.length_cons, List.length_nil]; omega
  · simp only [List.length_append, List.length_cons, List.length_nil]; omega
theorem W_len (k : Nat) (hk : k < 4) (l : List UInt8) : (W k l).length ≤ 28 + 16 * l.length := by
  have := wrap_len k hk (enc k l)
  have := enc_len k l
  unfold W; omega
theorem mid_mem {l : List UInt8} {A g B : List Ch} (h : chars l = A ++ g ++ B) : ∀ c ∈ g, c ∈ chars l := fun c hc => by rw [h]; simp [hc]
theorem encY {k : Nat} (hk : k < 3) {l : List UInt8} (hl : l.length ≤ 1000) (hok : okE k l) (out : List (List Ch)) (now u : List Ch) {A B : List Ch} (hs : chars l = A ++ (now ++ u) ++ B) (hout : out.length ≤ 2000) :
    words_Encode_Y28 (nam k) (out.map fun g => W k (byts g), byts now) (byts u) = some ((gr k (out, now) u).1.map (fun g => W k (byts g)), byts (gr k (out, now) u).2) := by
  have h1 := hok.mid hs
  have hl1 := byts_len hs
  have h2 := hok.mid (A := A) (g := now) (B := u ++ B) (by rw [hs]; simp)
  have hl2 := byts_len (l := l) (A := A) (g := now) (B := u ++ B) (by rw [hs]; simp)
  have hm := mid_mem (l := l) (A := A) (g := now) (B := u ++ B) (by rw [hs]; simp)
  have hn := byts_nil hm
  have hb := byts_app now u
  have hbl : (byts (now ++ u)).length = (byts now).length + (byts u).length := by rw [hb, List.length_append]
  unfold words_Encode_Y28 gr
  dsimp only
  by_cases h0 : now = []
  · subst h0
    have hb0 : byts ([] : List Ch) = [] := rfl
    rw [if_pos hb0, bsome, if_neg Bool.false_ne_true, if_neg (fun e => e.1 rfl), hb0, cat_ok (by simp only [List.length_nil]; omega), bsome]
    rfl
  · rw [if_neg (fun e => h0 (hn.1 e)), cat_ok (by omega), bsome, ← hb, word_eq hk (by omega) h1, bsome, bsome]
    by_cases hw : 75 < (W k (byts (now ++ u))).length
    · rw [if_pos (decide_eq_true (by omega)), word_eq hk (by omega) h2, bsome, app_ok (by rw [List.length_map]; simp only [List.length_cons, List.length_nil]; omega), bsome, cat_ok (by simp only [List.length_nil]; omega), bsome, if_pos ⟨h0, hw⟩]
      simp
    · rw [if_neg (by rw [decide_eq_true_eq]; omega), if_neg (fun e => hw e.2), bsome]
theorem gr_len (k : Nat) (s : List (List Ch) × List Ch) (u : List Ch) : (gr k s u).1.length ≤ s.1.length + 1 := by unfold gr; split <;> simp
theorem gr_flat (k : Nat) (s : List (List Ch) × List Ch) (u : List Ch) : (gr k s u).1.flatten ++ (gr k s u).2 = s.1.flatten ++ s.2 ++ u := by unfold gr; split <;> simp
theorem encFold {k : Nat} (hk : k < 3) {l : List UInt8} (hl : l.length ≤ 1000) (hok : okE k l) : ∀ (us : List (List Ch)) (s : List (List Ch) × List Ch) (n : Nat), chars l = (s.1.flatten ++ s.2) ++ us.flatten → s.1.length + us.length ≤ 2000 →
    (us.map byts).foldlM (words_Encode_Y28 (nam k)) (s.1.map fun g => W k (byts g), byts s.2) = some ((us.foldl (gr k) s).1.map (fun g => W k (byts g)), byts (us.foldl (gr k) s).2)
  | [], s, n, hs, hlen => rfl
  | u :: us, s, n, hs, hlen => by
    rw [List.map_cons, List.foldlM_cons, List.foldl_cons]
    show Option.bind _ _ = _
    rw [encY hk hl hok s.1 s.2 u (A := s.1.flatten) (B := us.flatten) (by rw [hs]; simp) (by omega), bsome]
    exact encFold hk hl hok us (gr k s u) n (by rw [hs, gr_flat]; simp) (by have := gr_len k s u; simp only [List.length_cons] at hlen; omega)
theorem unitsC_len (k : Nat) (l : List UInt8) : (unitsC k l).length ≤ l.length := by
  have h : ∀ us : List (List Ch), (∀ u ∈ us, u ≠ []) → us.length ≤ us.flatten.length := by
    intro us
    induction us with
    | nil => simp
    | cons u us ih =>
      intro h
      have h1 := ih (fun x hx => h x (by simp [hx]))
      have h2 := List.length_pos_iff.2 (h u (by simp))
      simp only [List.flatten_cons, List.length_append, List.length_cons]; omega
  have h1 := h (unitsC k l) (unitsC_ne k l)
  rw [unitsC_flat] at h1
  have := chars_len l
  omega
def rep (k : Nat) (l : List UInt8) : List UInt8 := jn [32] ((parts k (unitsC k l)).map fun g => W k (byts g))
theorem jn_len (sep : List UInt8) (n : Nat) : ∀ (ws : List (List UInt8)), (∀ w ∈ ws, w.length ≤ n) → (jn sep ws).length ≤ ws.length * (n + sep.length)
  | [], _ => by simp [jn]
  | [x], h => by have := h x (by simp); simp [jn]; omega
  | x :: y :: r, h => by
    have h1 := h x (by simp)
    have h2 := jn_len sep n (y :: r) (fun w hw => h w (by simp [hw]))
    simp only [jn, List.length_append, List.length_cons] at h2 ⊢
    rw [Nat.succ_mul]; omega
theorem parts_flat (k : Nat) (us : List (List Ch)) : (parts k us).flatten = us.flatten := by
  cases us with
  | nil => rfl
  | cons u us => rw [parts, p2_flat]; rfl
theorem parts_len (k : Nat) (us : List (List Ch)) : (parts k us).length ≤ us.length := by
  cases us with
  | nil => simp [parts]
  | cons u us => rw [parts]; have := p2_len k us u; simp; omega
theorem part_mid (k : Nat) (l : List UInt8) {g : List Ch} (hg : g ∈ parts k (unitsC k l)) : ∃ A B, chars l = A ++ g ++ B := seg_mid (by rw [parts_flat, unitsC_flat]) hg
theorem parts_bound {k : Nat} (hk : k < 4) {l : List UInt8} : ∀ w ∈ (parts k (unitsC k l)).map (fun g => W k (byts g)), w.length ≤ 28 + 16 * l.length := fun w hw => by
  obtain ⟨g, hg, rfl⟩ := List.mem_map.1 hw
  obtain ⟨A, B, h⟩ := part_mid k l hg
  have := byts_len h
  have := W_len k hk (byts g)
  omega
theorem rep_len {k : Nat} (hk : k < 4) {l : List UInt8} (hl : l.length ≤ 1000) : (rep k l).length ≤ 20000000 := by
  have h1 := jn_len [32] _ _ (parts_bound hk (l := l))
  have h2 := parts_len k (unitsC k l)
  have h3 := unitsC_len k l
  rw [List.length_map] at h1
  have h4 : (parts k (unitsC k l)).length * (28 + 16 * l.length + 1) ≤ 1000 * (28 + 16 * 1000 + 1) := Nat.mul_le_mul (by omega) (by omega)
  unfold rep
  simp only [List.length_cons, List.length_nil, Nat.zero_add] at h1
  omega
theorem encTail {k : Nat} (hk : k < 3) {l : List UInt8} (hl : l.length ≤ 1000) (h0 : l ≠ []) (hok : okE k l) :
    ((words_units (nam k) l).bind fun (z19, z21) => (words_units_1 z19 z21 (List (List UInt8) × List UInt8) (stepY goOn (words_Encode_Y28 (nam k))) ([], [])).bind fun (l25, s27) => (words_word (nam k) s27).bind fun s49 => (app 16 l25 ([s49] : List (List UInt8))).bind fun l51 => (strings_Join l51 [32]).bind fun s53 => (basic_None).bind fun (n55, n56) => some (s53, (n55, n56)))
      = some (rep k l, (0, 0)) := by
  unfold words_units
  rw [bsome]
  dsimp only
  have hne : unitsC k l ≠ [] := fun e => by
    have := unitsC_flat k l
    rw [e] at this
    rw [Gr.chars_cons h0] at this; cases this
  have hul := unitsC_len k l
  rw [units_eq _ _ hk (by omega) hok, runL_goOn]
  have hf := encFold hk hl hok (unitsC k l) ([], []) 0 (by rw [unitsC_flat]; rfl) (by simp; omega)
  have hp := gr_parts k (unitsC k l) hne (unitsC_ne k l)
  have hb : byts ([] : List Ch) = [] := rfl
  rw [hb] at hf
  simp only [List.map_nil] at hf
  rw [hf, bsome]
  dsimp only
  obtain ⟨A, B, hAB⟩ := part_mid k l (g := ((unitsC k l).foldl (gr k) ([], [])).2) (by rw [← hp]; simp)
  have hbl := byts_len hAB
  have hpl := parts_len k (unitsC k l)
  have hpl2 := congrArg List.length hp
  simp only [List.length_append, List.length_cons, List.length_nil] at hpl2
  have hrl := rep_len (k := k) (by omega) hl
  rw [word_eq hk (by omega) (hok.mid hAB), bsome, app_ok (by rw [List.length_map]; simp only [List.length_cons, List.length_nil]; omega), bsome]
  have hj : (((unitsC k l).foldl (gr k) ([], [])).1.map (fun g => W k (byts g))) ++ [W k (byts ((unitsC k l).foldl (gr k) ([], [])).2)] = (parts k (unitsC k l)).map fun g => W k (byts g) := by
    rw [← hp]; simp
  rw [hj]
  unfold strings_Join basic_None
  unfold rep at hrl
  rw [if_pos ⟨by rw [List.length_map]; omega, by omega⟩, bsome, bsome]
  rfl
theorem utf8_char : ∀ (n : Nat) (l : List UInt8), l.length ≤ n → vld l = true → ∀ c ∈ chars l, utf8 c.1 = c.2
  | 0, l, hn, hv => by
    obtain rfl : l = [] := List.eq_nil_of_length_eq_zero (by omega)
    intro c hc; cases hc
  | n + 1, l, hn, hv => by
    by_cases hl : l = []
    · subst hl; intro c hc; cases hc
    · rw [Chs.vld_cons hl] at hv
      simp only [Bool.and_eq_true, decide_eq_true_eq] at hv
      have hrs := Utf.rune_size l
      intro c hc
      rw [Gr.chars_cons hl] at hc
      rcases List.mem_cons.1 hc with rfl | hc
      · exact Chs.utf8_rune l hl hv.1
      · exact utf8_char n (l.drop (rune l).2) (by rw [List.length_drop]; omega) hv.2 c hc
def ext (k : Nat) (now : List Ch) : List (List Ch) → Nat × List Ch
  | [] => (0, now)
  | u :: us => if (W k (byts (now ++ u))).length ≤ 75 then ((ext k (now ++ u) us).1 + 1, (ext k (now ++ u) us).2) else (0, now)
def more (ws : List (List UInt8)) : List UInt8 := ws.flatMap fun w => 32 :: w
theorem jn_more : ∀ (w : List UInt8) (ws : List (List UInt8)), jn [32] (w :: ws) = w ++ more ws
  | w, [] => by simp [jn, more]
  | w, x :: ws => by rw [jn, jn_more x ws]; simp [more]
end Go.Ph.Wd
end
section
set_option linter.unusedVariables false
set_option linter.unusedSimpArgs false
namespace Go.Ph.Wd
open Go.Ph.Pl Go.Ph.Pf
open Go.Ph.Gr (chars Ch pieces byts segs)
open Go.Ph.Chs (vld setN setOf encK encGo decoded utf8 bestK)
open Go.Ph.Utf (rune dr)
theorem prefix_eq (s p : List UInt8) (hs : s.length ≤ 9223372036854775807) : strings_HasPrefix s p = some (decide (p <+: s)) := by
  unfold strings_HasPrefix stringslite_HasPrefix
  by_cases h : p.length ≤ s.length
  · rw [if_pos (by omega), cut_to rfl h, bsome, bsome, bsome]
    congr 1
    rw [decide_eq_decide, List.prefix_iff_eq_take]
    exact ⟨fun e => e.symm, fun e => e.symm⟩
  · rw [if_neg (by omega), bsome, bsome, decide_eq_false (fun e => h e.length_le)]
theorem suffix_eq (s p : List UInt8) (hs : s.length ≤ 9223372036854775807) : strings_HasSuffix s p = some (decide (p <:+ s)) := by
  unfold strings_HasSuffix stringslite_HasSuffix
  by_cases h : p.length ≤ s.length
  · rw [if_pos (by omega), chk_ok (by omega) (by omega), bsome, show (s.length : Int) - (p.length : Int) = ((s.length - p.length : Nat) : Int) by omega, cut_from rfl (by omega), bsome, bsome, bsome]
    congr 1
    rw [decide_eq_decide, List.suffix_iff_eq_drop]
    exact ⟨fun e => e.symm, fun e => e.symm⟩
  · rw [if_neg (by omega), bsome, bsome, decide_eq_false (fun e => h e.length_le)]
def fnd (s sub : List UInt8) (i : Nat) : Int := if Lib.index (s.drop i) sub = -1 then -1 else (i : Int) + Lib.index (s.drop i) sub
theorem fnd_here {s sub : List UInt8} {i : Nat} (hi : i < s.length) (h : sub <+: s.drop i) : fnd s sub i = (i : Int) := by
  unfold fnd
  rw [List.drop_eq_getElem_cons hi] at h ⊢
  have : Lib.index (s[i] :: s.drop (i + 1)) sub = 0 := by rw [Lib.index, if_pos (List.isPrefixOf_iff_prefix.2 h)]
  rw [this]; simp
theorem fnd_next {s sub : List UInt8} {i : Nat} (hi : i < s.length) (h : ¬ sub <+: s.drop i) : fnd s sub i = fnd s sub (i + 1) := by
  unfold fnd
  have hd := List.drop_eq_getElem_cons hi
  rw [hd] at h ⊢
  have hn : ¬ sub.isPrefixOf (s[i] :: s.drop (i + 1)) = true := fun e => h (List.isPrefixOf_iff_prefix.1 e)
  have h1 := Lib.index_ge (s.drop (i + 1)) sub
  rw [Lib.index, if_neg hn]
  by_cases h2 : Lib.index (s.drop (i + 1)) sub = -1
  · rw [h2]; simp
  · have h3 : ¬ (Lib.index (s.drop (i + 1)) sub == -1) = true := by simpa using h2
    rw [if_neg h3, if_neg h2, if_neg (by omega)]; omega
def okc (c : UInt8) : Bool := decide (32 ≤ c.toNat ∧ c.toNat ≤ 126)
def pln (s : List UInt8) : Bool := s.all okc && (!decide ([32] <+: s) && (!decide ([32] <:+ s) && !Lib.contains s [61, 63]))
theorem all_any (s : List UInt8) : s.all okc = !s.any fun c => !okc c := by
  induction s with
  | nil => rfl
  | cons c s ih => rw [List.all_cons, List.any_cons, ih]; cases okc c <;> simp
theorem okc_prog (c : UInt8) : (if c.toNat < 32 then some true else some (decide (126 < c.toNat))) = some (!okc c) := by
  unfold okc
  by_cases h : c.toNat < 32
  · rw [if_pos h, decide_eq_false (by omega)]; rfl
  · rw [if_neg h]
    by_cases h2 : 126 < c.toNat
    · rw [decide_eq_true h2, decide_eq_false (by omega)]; rfl
    · rw [decide_eq_false h2, decide_eq_true (by omega)]; rfl
theorem plain_eq (s : List UInt8) (hs : s.length ≤ 1000000) : words_plain s = some (pln s) := by
  unfold words_plain strings_Contains pln
  rw [all_any, scan0 (L := fun m i => words_plain_L1 s m i) (l := s) (p := fun c => !okc c) (stop := .inl ()) (r := .inr false) (by rw [FU_eq]; omega) (fun m => by rw [words_plain_L1, if_neg (by omega)]) (fun m i h => by
    rw [words_plain_L1, if_pos (by omega), idx_nat, List.getElem?_eq_getElem h, bsome, bsome, okc_prog, bsome]
    by_cases hc : (!okc s[i]) = true
    · rw [if_pos hc, if_pos hc]
    · rw [if_neg hc, if_neg hc, chk_succ (by omega), bsome]), bsome]
  by_cases ha : (s.any fun c => !okc c) = true
  · rw [if_pos ha, ha]; rfl
  · have ha' := (Bool.not_eq_true _).mp ha
    rw [if_neg ha, ha']
    dsimp only
    rw [prefix_eq s [32] (by omega), bsome]
    by_cases h1 : [32] <+: s
    · rw [decide_eq_true h1, if_pos rfl, bsome]; rfl
    · rw [decide_eq_false h1, if_neg Bool.false_ne_true, suffix_eq s [32] (by omega), bsome]
      by_cases h2 : [32] <:+ s
      · rw [decide_eq_true h2, if_pos rfl, bsome]; rfl
      · rw [decide_eq_false h2, if_neg Bool.false_ne_true, if_pos (by omega), bsome, bsome]; rfl
theorem pre1 (s : List UInt8) (c : UInt8) : [c] <+: s ↔ s.head? = some c := by
  cases s with
  | nil => simp
  | cons a s => simp [List.cons_prefix_cons, eq_comm]
theorem contains_fnd (s sub : List UInt8) : Lib.contains s sub = !decide (fnd s sub 0 < 0) := by
  unfold Lib.contains fnd
  have h1 := Lib.index_ge s sub
  rw [List.drop_zero]
  by_cases h : Lib.index s sub = -1
  · rw [if_pos h, h]; rfl
  · rw [if_neg h, decide_eq_true (by omega), decide_eq_false (by omega)]; rfl
theorem bestK_le (l : List UInt8) : bestK l ≤ 2 := by unfold bestK; split; · omega
                                                      split <;> omega
theorem best_ok {l : List UInt8} (hv : vld l = true) : okE (bestK l) l := by
  refine ⟨hv, fun c hc => ?_⟩
  have h0 : 0 ≤ c.1 := by
    unfold vld at hv
    exact of_decide_eq_true (List.all_eq_true.1 hv c hc)
  have hf : Chs.fix0 c.1 = c.1 := by unfold Chs.fix0; rw [if_neg (by omega)]
  unfold bestK encK
  by_cases h1 : (chars l).any (fun c => decide (255 < Chs.fix0 c.1)) = true
  · rw [if_pos h1]; exact ⟨_, rfl⟩
  · rw [if_neg h1]
    have h1' : c.1 ≤ 255 := by
      have := mt (List.any_eq_true.2) h1
      have h2 : ¬ 255 < Chs.fix0 c.1 := fun e => this ⟨c, hc, decide_eq_true e⟩
      omega
    by_cases h2 : (chars l).any (fun c => decide (127 < Chs.fix0 c.1)) = true
    · rw [if_pos h2]
      refine ⟨[ub c.1], ?_⟩
      show Chs.encS 256 c.1 = _
      unfold Chs.encS; rw [if_pos (by omega)]
    · rw [if_neg h2]
      have h3 : c.1 ≤ 127 := by
        have := mt (List.any_eq_true.2) h2
        have h4 : ¬ 127 < Chs.fix0 c.1 := fun e => this ⟨c, hc, decide_eq_true e⟩
        omega
      refine ⟨[ub c.1], ?_⟩
      show Chs.encS 128 c.1 = _
      unfold Chs.encS; rw [if_pos (by omega)]
theorem example_eq : L_wordsExample = some true := by decide +kernel
theorem encode_big {s : List UInt8} (h : 1000 < s.length) : words_Encode s = some ([], (1, -1)) := by
  unfold words_Encode basic_Fault
  rw [if_pos (by omega), bsome]
theorem encode_mal {s : List UInt8} (h : s.length ≤ 1000) (hv : vld s = false) : words_Encode s = some ([], (5, -2)) := by
  unfold words_Encode basic_Fault utf8_ValidString
  rw [if_neg (by omega), if_pos (by omega), bsome, hv, if_neg Bool.false_ne_true, bsome]
theorem encode_own {s : List UInt8} (h : s.length ≤ 1000) (hv : vld s = true) (hp : pln s = true) : words_Encode s = some (s, (0, 0)) := by
  unfold words_Encode basic_None utf8_ValidString
  rw [if_neg (by omega), if_pos (by omega), bsome, hv, if_pos rfl, plain_eq _ (by omega), bsome, hp, if_pos rfl, bsome]
theorem encode_rep {s : List UInt8} (h : s.length ≤ 1000) (hv : vld s = true) (hp : pln s = false) : words_Encode s = some (rep (bestK s) s, (0, 0)) := by
  have hb := bestK_le s
  have h0 : s ≠ [] := by rintro rfl; revert hp; decide
  have ht := encTail (k := bestK s) (by omega) h h0 (best_ok hv)
  unfold words_Encode utf8_ValidString charset_Best
  rw [if_neg (by omega), if_pos (by omega), bsome, hv, if_pos rfl, plain_eq _ (by omega), bsome, hp, if_neg Bool.false_ne_true, bsome]
  exact ht
theorem dq1_ok (c : UInt8) : ∀ x ∈ dq1 c, 33 ≤ x.toNat ∧ x.toNat ≤ 126 ∧ x ≠ 63 := by
  refine allB (p := fun c => ∀ x ∈ dq1 c, 33 ≤ x.toNat ∧ x.toNat ≤ 126 ∧ x ≠ 63) ?_ c
  decide +kernel
theorem alpha_ok : ∀ c ∈ (61 :: B64.alpha), 33 ≤ c.toNat ∧ c.toNat ≤ 126 ∧ c ≠ 63 := by decide
theorem chars64_ok (l : List UInt8) : ∀ x ∈ B64.chars64 l, 33 ≤ x.toNat ∧ x.toNat ≤ 126 ∧ x ≠ 63 := fun c hc => by
  rw [B64.chars_grps] at hc
  obtain ⟨g, hg, hc⟩ := List.mem_flatten.1 hc
  unfold B64.grps B64.grpsTo at hg
  obtain ⟨q, _, rfl⟩ := List.mem_map.1 hg
  have hch : ∀ (m : List UInt8) i, 33 ≤ (B64.ch m i).toNat ∧ (B64.ch m i).toNat ≤ 126 ∧ B64.ch m i ≠ 63 := fun m i => by
    unfold B64.ch
    split
    · decide
    · have hlt : B64.accN m 3 / 2 ^ (18 - 6 * i) % 64 < B64.alpha.length := Nat.mod_lt _ (by decide)
      rw [B64.getD_in _ _ _ hlt]
      exact alpha_ok _ (List.mem_cons_of_mem _ (List.getElem_mem hlt))
  unfold B64.grpAt at hc
  rw [B64.outp_eq] at hc
  simp only [List.mem_cons, List.not_mem_nil, or_false] at hc
  rcases hc with rfl | rfl | rfl | rfl <;> exact hch _ _
theorem nam_ok : ∀ k, k < 4 → ∀ x ∈ nam k, 33 ≤ x.toNat ∧ x.toNat ≤ 126 ∧ x ≠ 63 := by decide
theorem unit_75 {k : Nat} (hk : k < 4) {l : List UInt8} : ∀ u ∈ unitsC k l, (W k (byts u)).length ≤ 75 := fun u hu => by
  obtain ⟨g, hg, hu⟩ := List.mem_flatMap.1 hu
  obtain ⟨A, B, hAB⟩ := seg_mid (Gr.segs_flat (chars l)) hg
  unfold usC at hu
  split at hu
  · rename_i hw
    simp only [List.mem_cons, List.not_mem_nil, or_false] at hu
    rw [hu]; exact hw
  · obtain ⟨c, hc, rfl⟩ := List.mem_map.1 hu
    obtain ⟨a, b, rfl⟩ := List.append_of_mem hc
    have h1 : chars (byts [c]) = [c] := chars_mid (l := l) (A := A ++ a) (g := [c]) (B := b ++ B) (by rw [hAB]; simp)
    have h2 : (enc k (byts [c])).length ≤ 4 := by
      unfold enc
      rw [h1]
      simp only [List.flatMap_cons, List.flatMap_nil, List.append_nil]
      cases he : encK k c.1 with
      | none => simp
      | some b => exact Chs.encK_len he
    have h3 := wrap_len k hk (enc k (byts [c]))
    unfold W; omega
theorem p2_75 (k : Nat) : ∀ (us : List (List Ch)) (now : List Ch), (W k (byts now)).length ≤ 75 → (∀ u ∈ us, (W k (byts u)).length ≤ 75) → ∀ g ∈ p2 k now us, (W k (byts g)).length ≤ 75
  | [], now, h, _ => by intro g hg; simp [p2] at hg; rw [hg]; exact h
  | u :: us, now, h, hu => by
    rw [p2]
    split
    · rename_i hw; exact p2_75 k us (now ++ u) hw (fun x hx => hu x (by simp [hx]))
    · intro g hg
      rcases List.mem_cons.1 hg with rfl | hg
      · exact h
      · exact p2_75 k us u (hu u (by simp)) (fun x hx => hu x (by simp [hx])) g hg
theorem part_75 {k : Nat} (hk : k < 4) {l : List UInt8} : ∀ g ∈ parts k (unitsC k l), (W k (byts g)).length ≤ 75 := by
  have h := unit_75 hk (l := l)
  cases hus : unitsC k l with
  | nil => intro g hg; cases hg
  | cons u us => rw [hus] at h; exact p2_75 k us u (h u (by simp)) (fun x hx => h x (by simp [hx]))
end Go.Ph.Wd
end
section
set_option linter.unusedVariables false
set_option linter.unusedSimpArgs false
namespace Go.Ph.Wd
open Go.Ph.Pl Go.Ph.Pf
open Go.Ph.Gr (chars Ch pieces byts segs)
open Go.Ph.Chs (vld setN setOf encK encGo decoded utf8 bestK lower lowB)
open Go.Ph.Utf (rune dr)
def q1 : List UInt8 → Option (List UInt8 × List UInt8)
  | [] => none
  | c :: t => if c = 63 then some ([], t) else (q1 t).map fun p => (c :: p.1, p.2)
theorem q1_some : ∀ {x A r : List UInt8}, q1 x = some (A, r) → x = A ++ 63 :: r ∧ 63 ∉ A
  | [], A, r, h => by cases h
  | c :: t, A, r, h => by
    rw [q1] at h
    split at h
    · rename_i hc; cases h; exact ⟨by rw [hc]; rfl, by simp⟩
    · rename_i hc
      obtain ⟨⟨A', r'⟩, h1, h2⟩ := Option.map_eq_some_iff.1 h
      cases h2
      obtain ⟨h3, h4⟩ := q1_some h1
      exact ⟨by rw [h3]; rfl, by simp [Ne.symm hc, h4]⟩
theorem q1_of : ∀ {A r : List UInt8}, 63 ∉ A → q1 (A ++ 63 :: r) = some (A, r)
  | [], r, _ => by simp [q1]
  | c :: A, r, h => by
    simp only [List.mem_cons, not_or] at h
    rw [List.cons_append, q1, if_neg (fun e => h.1 e.symm), q1_of h.2]; rfl
theorem q1_none : ∀ {x : List UInt8}, q1 x = none ↔ 63 ∉ x
  | [] => by simp [q1]
  | c :: t => by
    rw [q1]
    split
    · rename_i hc; simp [hc]
    · rename_i hc; rw [Option.map_eq_none_iff, q1_none]; simp [Ne.symm hc]
theorem q1_take (x : List UInt8) (n : Nat) : q1 (x.take n) = match q1 x with | some (A, r) => if A.length < n then some (A, r.take (n - A.length - 1)) else none | none => none := by
  cases hq : q1 x with
  | none =>
    have := q1_none.1 hq
    exact q1_none.2 (fun hm => this (List.mem_of_mem_take hm))
  | some p =>
    obtain ⟨A, r⟩ := p
    obtain ⟨h1, h2⟩ := q1_some hq
    dsimp only
    split
    · rename_i hn
      rw [h1, List.take_append, List.take_of_length_le (by omega), show n - A.length = (n - A.length - 1) + 1 by omega, List.take_succ_cons]
      exact q1_of h2
    · rename_i hn
      refine q1_none.2 (fun hm => h2 ?_)
      rw [h1, List.take_append, show n - A.length = 0 by omega, List.take_zero, List.append_nil] at hm
      exact List.mem_of_mem_take hm
theorem index_q1 : ∀ x : List UInt8, Lib.index x [63] = match q1 x with | some p => (p.1.length : Int) | none => -1
  | [] => rfl
  | c :: t => by
    rw [Lib.index, q1]
    by_cases hc : c = 63
    · rw [if_pos (by simp [List.isPrefixOf, hc]), if_pos hc]; rfl
    · rw [if_neg (by simp [List.isPrefixOf, Ne.symm hc]), if_neg hc, index_q1 t]
      cases q1 t with
      | none => rfl
      | some p =>
        have : ¬ (((p.1.length : Int) == -1) = true) := by simp
        rw [Option.map_some]
        dsimp only
        rw [if_neg this, List.length_cons]
        exact (Int.natCast_succ _).symm
theorem splitK_q1 (k : Nat) (x : List UInt8) : Lib.splitK [63] 0 (k + 1) x = match q1 x with | some p => p.1 :: Lib.splitK [63] 0 k p.2 | none => [x] := by
  rw [Lib.splitK, index_q1]
  cases hq : q1 x with
  | none => rfl
  | some p =>
    obtain ⟨A, r⟩ := p
    obtain ⟨h1, h2⟩ := q1_some hq
    have : ¬ (((A.length : Int) == -1) = true) := by simp
    simp only [if_neg this, Int.toNat_natCast, Nat.add_zero, List.length_cons, List.length_nil, Nat.zero_add]
    rw [h1, List.take_left' rfl, List.drop_append, List.drop_eq_nil_of_le (by omega), show A.length + 1 - A.length = 1 by omega]
    rfl
def sp3 (x : List UInt8) : Option (List UInt8 × List UInt8 × List UInt8 × List UInt8) :=
  (q1 x).bind fun a => (q1 a.2).bind fun b => (q1 b.2).bind fun c => some (a.1, b.1, c.1, c.2)
theorem splitK_len : ∀ (k : Nat) (x : List UInt8), (Lib.splitK [63] 0 k x).length ≤ k + 1
  | 0, x => by simp [Lib.splitK]
  | k + 1, x => by
    rw [splitK_q1]
    cases q1 x with
    | none => simp
    | some p => have := splitK_len k p.2; simp; omega
theorem sp3_some {x A K D r : List UInt8} (h : sp3 x = some (A, K, D, r)) : x = A ++ 63 :: (K ++ 63 :: (D ++ 63 :: r)) ∧ 63 ∉ A ∧ 63 ∉ K ∧ 63 ∉ D := by
  unfold sp3 at h
  obtain ⟨⟨A', r1⟩, h1, h⟩ := bnd h
  obtain ⟨⟨K', r2⟩, h2, h⟩ := bnd h
  obtain ⟨⟨D', r3⟩, h3, h⟩ := bnd h
  cases h
  obtain ⟨e1, n1⟩ := q1_some h1
  obtain ⟨e2, n2⟩ := q1_some h2
  obtain ⟨e3, n3⟩ := q1_some h3
  dsimp only at e2 e3
  exact ⟨by rw [e1, e2, e3], n1, n2, n3⟩
theorem sp3_of {A K D r : List UInt8} (h1 : 63 ∉ A) (h2 : 63 ∉ K) (h3 : 63 ∉ D) : sp3 (A ++ 63 :: (K ++ 63 :: (D ++ 63 :: r))) = some (A, K, D, r) := by
  unfold sp3
  rw [q1_of h1, bsome, q1_of h2, bsome, q1_of h3, bsome]
theorem split4_some {x A K D r : List UInt8} (h : sp3 x = some (A, K, D, r)) : Lib.splitN x [63] 4 = [A, K, D, r] := by
  have hx := (sp3_some h).1
  have hl : 3 ≤ x.length := by rw [hx]; simp; omega
  unfold sp3 at h
  obtain ⟨a, h1, h⟩ := bnd h
  obtain ⟨b, h2, h⟩ := bnd h
  obtain ⟨c, h3, h⟩ := bnd h
  cases h
  unfold Lib.splitN
  rw [show min 4 (x.length + 1) - 1 = 3 by omega, splitK_q1, h1]
  dsimp only
  rw [splitK_q1, h2]
  dsimp only
  rw [splitK_q1, h3]
  rfl
theorem split4_none {x : List UInt8} (h : sp3 x = none) : (Lib.splitN x [63] 4).length < 4 := by
  unfold Lib.splitN
  by_cases hl : 3 ≤ x.length
  · rw [show min 4 (x.length + 1) - 1 = 3 by omega, splitK_q1]
    unfold sp3 at h
    cases h1 : q1 x with
    | none => simp
    | some a =>
      rw [h1, bsome] at h
      dsimp only
      rw [splitK_q1]
      cases h2 : q1 a.2 with
      | none => simp
      | some b =>
        rw [h2, bsome] at h
        dsimp only
        rw [splitK_q1]
        cases h3 : q1 b.2 with
        | none => simp
        | some c => rw [h3, bsome] at h; cases h
  · have := splitK_len (min 4 (x.length + 1) - 1) x
    omega
theorem sp3_take (x : List UInt8) (n : Nat) : sp3 (x.take n) = match sp3 x with | some (A, K, D, r) => if A.length + K.length + D.length + 2 < n then some (A, K, D, r.take (n - (A.length + K.length + D.length + 3))) else none | none => none := by
  cases h : sp3 x with
  | none =>
    unfold sp3 at h ⊢
    rw [q1_take]
    cases h1 : q1 x with
    | none => rfl
    | some a =>
      rw [h1, bsome] at h
      dsimp only
      split
      · rw [bsome, q1_take]
        dsimp only
        cases h2 : q1 a.2 with
        | none => rfl
        | some b =>
          rw [h2, bsome] at h
          dsimp only
          split
          · rw [bsome, q1_take]
            dsimp only
            cases h3 : q1 b.2 with
            | none => rfl
            | some c => rw [h3, bsome] at h; cases h
          · rfl
      · rfl
  | some p =>
    obtain ⟨A, K, D, r⟩ := p
    unfold sp3 at h ⊢
    obtain ⟨⟨A', r1⟩, h1, h⟩ := bnd h
    obtain ⟨⟨K', r2⟩, h2, h⟩ := bnd h
    obtain ⟨⟨D', r3⟩, h3, h⟩ := bnd h
    cases h
    dsimp only at h2 h3 ⊢
    rw [q1_take, h1]
    dsimp only
    by_cases n1 : A'.length < n
    · rw [if_pos n1, bsome, q1_take, h2]
      dsimp only
      by_cases n2 : K'.length < n - A'.length - 1
      · rw [if_pos n2, bsome, q1_take, h3]
        dsimp only
        by_cases n3 : D'.length < n - A'.length - 1 - K'.length - 1
        · rw [if_pos n3, bsome, if_pos (by show A'.length + K'.length + D'.length + 2 < n; omega)]
          rw [show n - A'.length - 1 - K'.length - 1 - D'.length - 1 = n - (A'.length + K'.length + D'.length + 3) by omega]
        · rw [if_neg n3, if_neg (by show ¬ A'.length + K'.length + D'.length + 2 < n; omega)]; rfl
      · rw [if_neg n2, if_neg (by show ¬ A'.length + K'.length + D'.length + 2 < n; omega)]; rfl
    · rw [if_neg n1, if_neg (by show ¬ A'.length + K'.length + D'.length + 2 < n; omega)]; rfl
def hexv (c : UInt8) : Option Nat := if 48 ≤ c.toNat ∧ c.toNat ≤ 57 then some (c.toNat - 48) else if 65 ≤ c.toNat ∧ c.toNat ≤ 70 then some (c.toNat - 55) else if 97 ≤ c.toNat ∧ c.toNat ≤ 102 then some (c.toNat - 87) else none
theorem hexv_lt {c : UInt8} {x : Nat} (h : hexv c = some x) : x < 16 := by
  have : ∀ c : UInt8, ∀ x, hexv c = some x → x < 16 := fun c => by
    refine allB (p := fun c => ∀ x, hexv c = some x → x < 16) ?_ c
    intro n hn x hx
    have h2 : ∀ n, n < 256 → (hexv (UInt8.ofNat n)).all (fun x => decide (x < 16)) = true := by decide +kernel
    have := h2 n hn
    rw [hx] at this
    exact of_decide_eq_true this
  exact this c x h
theorem hex_eq (c : UInt8) : basic_Hex c = some ((match hexv c with | some x => UInt8.ofNat x | none => 0), (hexv c).isSome) := by
  refine allB (p := fun c => basic_Hex c = some ((match hexv c with | some x => UInt8.ofNat x | none => 0), (hexv c).isSome)) ?_ c
  decide +kernel
theorem two16 : ∀ x, x < 16 → ∀ y, y < 16 → (UInt8.ofNat ((UInt8.ofNat x).toNat * 2 ^ 4)) ||| UInt8.ofNat y = UInt8.ofNat (16 * x + y) := by decide +kernel
def hex2 (a b : UInt8) : Option UInt8 := match hexv a, hexv b with | some x, some y => some (UInt8.ofNat (16 * x + y)) | _, _ => none
theorem pair_short {s : List UInt8} (h : s.length < 2) : basic_Pair s = some (0, false) := by
  unfold basic_Pair; rw [if_pos (by omega)]
theorem pair_eq (a b : UInt8) (t : List UInt8) : ∃ c, basic_Pair (a :: b :: t) = some (c, (hex2 a b).isSome) ∧ ∀ z, hex2 a b = some z → c = z := by
  unfold basic_Pair
  rw [if_neg (by simp; omega), show (0 : Int) = ((0 : Nat) : Int) from rfl, idx_nat, show (1 : Int) = ((1 : Nat) : Int) from rfl, idx_nat]
  simp only [List.getElem?_cons_zero, List.getElem?_cons_succ, bsome, hex_eq]
  unfold hex2
  cases ha : hexv a with
  | none => exact ⟨_, by rfl, fun z hz => by cases hz⟩
  | some x =>
    cases hb : hexv b with
    | none => exact ⟨_, by rfl, fun z hz => by cases hz⟩
    | some y => exact ⟨_, by rfl, fun z hz => by cases hz; exact two16 x (hexv_lt ha) y (hexv_lt hb)⟩
def hexd2 : List UInt8 → Option (UInt8 × List UInt8)
  | a :: b :: t => (hex2 a b).map fun z => (z, t)
  | _ => none
theorem hexd2_len {t : List UInt8} {p : UInt8 × List UInt8} (h : hexd2 t = some p) : p.2 = t.drop 2 ∧ 2 ≤ t.length := by
  rcases t with _ | ⟨a, _ | ⟨b, t⟩⟩
  · cases h
  · cases h
  · obtain ⟨z, _, rfl⟩ := Option.map_eq_some_iff.1 h
    exact ⟨rfl, by simp⟩
def uqF : Nat → List UInt8 → Option (List UInt8)
  | 0, _ => none
  | n + 1, [] => some []
  | n + 1, c :: t => if c = 95 then (uqF n t).map (32 :: ·) else if c = 61 then (hexd2 t).bind fun p => (uqF n p.2).map (p.1 :: ·) else if 33 ≤ c.toNat ∧ c.toNat ≤ 126 then (uqF n t).map (c :: ·) else none
theorem uqF_more : ∀ (n m : Nat) (l : List UInt8), l.length < n → l.length < m → uqF n l = uqF m l
  | n + 1, m + 1, [], _, _ => rfl
  | n + 1, m + 1, c :: t, h1, h2 => by
    simp only [List.length_cons] at h1 h2
    rw [uqF, uqF]
    have h0 := uqF_more n m t (by omega) (by omega)
    rw [h0]
    cases hp : hexd2 t with
    | none => rfl
    | some p =>
      obtain ⟨h3, h4⟩ := hexd2_len hp
      rw [bsome, bsome, uqF_more n m p.2 (by rw [h3, List.length_drop]; omega) (by rw [h3, List.length_drop]; omega)]
def uq (l : List UInt8) : Option (List UInt8) := uqF (l.length + 1) l
theorem uq_nil : uq [] = some [] := rfl
theorem uq_cons (c : UInt8) (t : List UInt8) : uq (c :: t) = if c = 95 then (uq t).map (32 :: ·) else if c = 61 then (hexd2 t).bind fun p => (uq p.2).map (p.1 :: ·) else if 33 ≤ c.toNat ∧ c.toNat ≤ 126 then (uq t).map (c :: ·) else none := by
  unfold uq
  rw [List.length_cons, uqF]
  cases hp : hexd2 t with
  | none => rfl
  | some p =>
    obtain ⟨h3, h4⟩ := hexd2_len hp
    rw [bsome, bsome, uqF_more (t.length + 1) (p.2.length + 1) p.2 (by rw [h3, List.length_drop]; omega) (by omega)]
theorem uq_L1 (D : List UInt8) (hD : D.length ≤ 1000000) : ∀ (d i m : Nat) (acc : List UInt8), D.length - i ≤ d → d < m → i ≤ D.length → acc.length ≤ i →
    words_bytesOf_L1 D m acc (i : Int) = some (match uq (D.drop i) with | some r => .inl (acc ++ r) | none => .inr ([], false)) := by
  intro d
  induction d using Nat.strongRecOn with
  | ind d ih =>
    intro i m acc h1 h2 h3 h4
    obtain ⟨m, rfl⟩ : ∃ k, m = k + 1 := ⟨m - 1, by omega⟩
    rw [words_bytesOf_L1]
    by_cases hi : i < D.length
    · have hd := List.drop_eq_getElem_cons hi
      rw [if_pos (by omega), idx_nat, List.getElem?_eq_getElem hi, bsome, hd, uq_cons]
      by_cases c1 : D[i] = 95
      · rw [if_pos c1, if_pos c1, app_ok (by simp; omega), bsome, chk_succ (by omega), bsome, ih (d - 1) (by omega) (i + 1) m _ (by omega) (by omega) (by omega) (by simp; omega)]
        cases uq (D.drop (i + 1)) <;> simp
      · rw [if_neg c1, if_neg c1, bsome]
        by_cases c2 : D[i] = 61
        · rw [if_pos c2, if_pos c2, chk_succ (by omega), bsome, cut_from rfl (by omega), bsome]
          by_cases hs : (D.drop (i + 1)).length < 2
          · rw [pair_short hs, bsome]
            dsimp only
            rw [if_neg Bool.false_ne_true]
            have : hexd2 (D.drop (i + 1)) = none := by
              cases hx : hexd2 (D.drop (i + 1)) with
              | none => rfl
              | some p => have := hexd2_len hx; omega
            rw [this]; rfl
          · rw [List.length_drop] at hs
            have e1 := List.drop_eq_getElem_cons (show i + 1 < D.length by omega)
            have e2 := List.drop_eq_getElem_cons (show i + 1 + 1 < D.length by omega)
            rw [e1, e2]
            obtain ⟨c, hc1, hc2⟩ := pair_eq D[i + 1] D[i + 1 + 1] (D.drop (i + 1 + 1 + 1))
            rw [hc1, bsome]
            dsimp only [hexd2]
            cases hx : hex2 D[i + 1] D[i + 1 + 1] with
            | none => rw [if_neg (by simp)]; rfl
            | some z =>
              obtain rfl := hc2 z hx
              rw [if_pos (by simp), app_ok (by simp; omega), bsome, show (i : Int) + 2 = ((i + 1 + 1 : Nat) : Int) by omega, chk_ok (by omega) (by omega), bsome, chk_succ (by omega), bsome, ih (d - 3) (by omega) (i + 1 + 1 + 1) m _ (by omega) (by omega) (by omega) (by simp; omega)]
              rw [Option.map_some, bsome]
              dsimp only
              cases uq (D.drop (i + 1 + 1 + 1)) <;> simp
        · rw [if_neg c2, if_neg c2, bsome]
          by_cases c3 : 33 ≤ D[i].toNat
          · rw [if_pos c3, bsome, bsome]
            by_cases c4 : D[i].toNat ≤ 126
            · rw [if_pos (decide_eq_true c4), if_pos ⟨c3, c4⟩, bsome, app_ok (by simp; omega), bsome, chk_succ (by omega), bsome, ih (d - 1) (by omega) (i + 1) m _ (by omega) (by omega) (by omega) (by simp; omega)]
              cases uq (D.drop (i + 1)) <;> simp
            · rw [if_neg (by rw [decide_eq_true_eq]; exact c4), if_neg (fun e => c4 e.2)]
          · rw [if_neg c3, bsome, if_neg Bool.false_ne_true, if_neg (fun e => c3 e.1)]
    · rw [if_neg (by omega), List.drop_eq_nil_of_le (by omega), uq_nil]; simp
def bytesP (K D : List UInt8) : Option (List UInt8) := if lower K = [98] then (if B64.chars64 (B64.lenient D) = D then some (B64.lenient D) else none) else if lower K = [113] then uq D else none
theorem lower_one (K : List UInt8) (a b : UInt8) (h : ∀ c, lowB c = b ↔ c = a ∨ c = b) : lower K = [b] ↔ K = [a] ∨ K = [b] := by
  rcases K with _ | ⟨c, _ | ⟨d, K⟩⟩
  · simp [lower]
  · simp [lower, h c]
  · simp [lower]
theorem lowB_b (c : UInt8) : lowB c = 98 ↔ c = 66 ∨ c = 98 := by
  refine allB (p := fun c => lowB c = 98 ↔ c = 66 ∨ c = 98) ?_ c
  decide +kernel
theorem lowB_q (c : UInt8) : lowB c = 113 ↔ c = 81 ∨ c = 113 := by
  refine allB (p := fun c => lowB c = 113 ↔ c = 81 ∨ c = 113) ?_ c
  decide +kernel
theorem kind_b (K : List UInt8) : (if K = [66] then some (decide (K = [66])) else some (decide (K = [98]))) = some (decide (lower K = [98])) := by
  have h := lower_one K 66 98 lowB_b
  by_cases h1 : K = [66]
  · rw [if_pos h1, decide_eq_true h1, decide_eq_true (h.2 (.inl h1))]
  · rw [if_neg h1]; congr 1; rw [decide_eq_decide, h]; simp [h1]
theorem kind_q (K : List UInt8) : (if K = [81] then some (decide (K = [81])) else some (decide (K = [113]))) = some (decide (lower K = [113])) := by
  have h := lower_one K 81 113 lowB_q
  by_cases h1 : K = [81]
  · rw [if_pos h1, decide_eq_true h1, decide_eq_true (h.2 (.inl h1))]
  · rw [if_neg h1]; congr 1; rw [decide_eq_decide, h]; simp [h1]
theorem lenient_len (D : List UInt8) : (B64.lenient D).length ≤ D.length := by
  unfold B64.lenient
  refine Nat.le_trans (B64.lrun_len _) ?_
  unfold B64.upto61
  exact (List.takeWhile_sublist _).length_le
theorem uqF_len : ∀ (n : Nat) (l r : List UInt8), uqF n l = some r → r.length ≤ l.length := by
  intro n
  induction n with
  | zero => intro l r h; cases h
  | succ n ih =>
    intro l r h
    cases l with
    | nil => rw [uqF] at h; cases h; simp
    | cons c t =>
      rw [uqF] at h
      split at h
      · obtain ⟨y, hy, rfl⟩ := Option.map_eq_some_iff.1 h
        have := ih t y hy; simp; omega
      · split at h
        · obtain ⟨p, hp, h⟩ := bnd h
          obtain ⟨y, hy, rfl⟩ := Option.map_eq_some_iff.1 h
          have := ih p.2 y hy
          obtain ⟨h3, h4⟩ := hexd2_len hp
          rw [h3, List.length_drop] at this
          simp; omega
        · split at h
          · obtain ⟨y, hy, rfl⟩ := Option.map_eq_some_iff.1 h
            have := ih t y hy; simp; omega
          · cases h
theorem bytes_eq (K D : List UInt8) (hD : D.length ≤ 10000) : ∃ b, words_bytesOf K D = some (b, (bytesP K D).isSome) ∧ b.length ≤ D.length ∧ ∀ x, bytesP K D = some x → b = x := by
  have hl := lenient_len D
  unfold words_bytesOf bytesP
  rw [kind_b, bsome]
  by_cases h1 : lower K = [98]
  · rw [if_pos (decide_eq_true h1), if_pos h1, toB_ok (by omega), bsome]
    unfold base64_Lenient
    rw [if_pos (by omega), bsome]
    dsimp only
    rw [flat_eq _ (by omega), bsome]
    refine ⟨B64.lenient D, ?_, hl, fun x hx => ?_⟩
    · by_cases h2 : B64.chars64 (B64.lenient D) = D
      · rw [decide_eq_true h2, if_pos h2]; rfl
      · rw [decide_eq_false h2, if_neg h2]; rfl
    · split at hx
      · cases hx; rfl
      · cases hx
  · rw [if_neg (by rw [decide_eq_true_eq]; exact h1), if_neg h1, kind_q, bsome]
    by_cases h2 : lower K = [113]
    · rw [if_pos (decide_eq_true h2), if_pos h2]
      have := uq_L1 D (by omega) D.length 0 FU [] (by omega) (by rw [FU_eq]; omega) (by omega) (by simp)
      rw [show ((0 : Nat) : Int) = 0 from rfl, List.drop_zero] at this
      rw [this, bsome]
      cases hq : uq D with
      | none => exact ⟨[], rfl, by simp, fun x hx => by cases hx⟩
      | some r => exact ⟨r, rfl, uqF_len _ _ _ hq, fun x hx => by cases hx; rfl⟩
    · rw [if_neg (by rw [decide_eq_true_eq]; exact h2), if_neg h2]
      exact ⟨[], rfl, by simp, fun x hx => by cases hx⟩
def body (A K D : List UInt8) : Option (List UInt8) := (setOf A).bind fun k => (bytesP K D).map (decoded k)
def pw (t : List UInt8) : Option (List UInt8 × Nat) :=
  if [61, 63] <+: t then (sp3 (t.drop 2)).bind fun p => if [61] <+: p.2.2.2 ∧ p.1.length + p.2.1.length + p.2.2.1.length + 6 ≤ 75 then (body p.1 p.2.1 p.2.2.1).map fun x => (x, p.1.length + p.2.1.length + p.2.2.1.length + 6) else none else none
theorem pre_take {c : UInt8} {r : List UInt8} {n : Nat} (hn : 1 ≤ n) : [c] <+: r.take n ↔ [c] <+: r := by
  rw [pre1, pre1]
  cases r with
  | nil => simp
  | cons a r => obtain ⟨n, rfl⟩ : ∃ k, n = k + 1 := ⟨n - 1, by omega⟩; simp
theorem decode_prog (A b : List UInt8) (hA : A.length ≤ 10000) (hb : b.length ≤ 10000) : ∃ x n m, charset_Decode A b = some (x, (n, m)) ∧ (decide (n = (0 : Int)) = (setOf A).isSome) ∧ ∀ k, setOf A = some k → x = decoded k b := by
  unfold charset_Decode
  rw [if_pos ⟨by omega, by omega⟩]
  cases h : setOf A with
  | none => exact ⟨[], 18, -2, rfl, rfl, fun k hk => by cases hk⟩
  | some k => exact ⟨decoded k b, 0, 0, rfl, rfl, fun k' hk => by cases hk; rfl⟩
theorem read_eq (t : List UInt8) (ht : t.length ≤ 10000) : ∃ x n, words_read t = some (x, n, (pw t).isSome) ∧ ∀ p, pw t = some p → x = p.1 ∧ n = (p.2 : Int) := by
  unfold words_read pw
  rw [prefix_eq t [61, 63] (by omega), bsome]
  by_cases hp : [61, 63] <+: t
  · have hl2 : 2 ≤ t.length := hp.length_le
    rw [if_pos (decide_eq_true hp), if_pos hp, cut_of (i := 2) (a := 2) (b := min t.length 75) rfl (by omega) (by omega) (by omega), bsome]
    have hw : (t.take (min t.length 75)).drop 2 = (t.drop 2).take 73 := by
      rw [List.drop_take]
      by_cases h75 : t.length ≤ 75
      · rw [Nat.min_eq_left h75, List.take_of_length_le (by rw [List.length_drop]; omega), List.take_of_length_le (by rw [List.length_drop]; omega)]
      · rw [Nat.min_eq_right (by omega)]
    rw [hw]
    unfold strings_SplitN
    have hxl : ((t.drop 2).take 73).length ≤ 73 := List.length_take_le _ _
    rw [if_pos ⟨by omega, by decide, by decide, by decide⟩, bsome, show (4 : Int).toNat = 4 from rfl]
    have hst := sp3_take (t.drop 2) 73
    cases hs : sp3 (t.drop 2) with
    | none =>
      rw [hs] at hst
      have h4 := split4_none hst
      rw [if_pos (by omega), bsome, if_pos rfl]
      exact ⟨_, _, rfl, fun p hp => by cases hp⟩
    | some p =>
      obtain ⟨A, K, D, r⟩ := p
      rw [hs] at hst
      dsimp only at hst
      have hxe := (sp3_some hs).1
      have hlen := congrArg List.length hxe
      simp only [List.length_append, List.length_cons, List.length_drop] at hlen
      rw [bsome]
      dsimp only
      by_cases hn : A.length + K.length + D.length + 2 < 73
      · rw [if_pos hn] at hst
        have h4 := split4_some hst
        rw [h4]
        simp only [List.length_cons, List.length_nil]
        rw [if_neg (by omega)]
        have i0 : idx [A, K, D, r.take (73 - (A.length + K.length + D.length + 3))] 0 = some A := rfl
        have i1 : idx [A, K, D, r.take (73 - (A.length + K.length + D.length + 3))] 1 = some K := rfl
        have i2 : idx [A, K, D, r.take (73 - (A.length + K.length + D.length + 3))] 2 = some D := rfl
        have i3 : idx [A, K, D, r.take (73 - (A.length + K.length + D.length + 3))] 3 = some (r.take (73 - (A.length + K.length + D.length + 3))) := rfl
        rw [i0, i1, i2, i3, bsome, prefix_eq _ _ (by rw [List.length_take]; omega), bsome, bsome]
        have hpt : ([61] <+: r.take (73 - (A.length + K.length + D.length + 3))) ↔ ([61] <+: r ∧ A.length + K.length + D.length + 6 ≤ 75) := by
          by_cases h1 : 1 ≤ 73 - (A.length + K.length + D.length + 3)
          · rw [pre_take h1]
            exact ⟨fun h => ⟨h, by omega⟩, fun h => h.1⟩
          · rw [show 73 - (A.length + K.length + D.length + 3) = 0 by omega, List.take_zero]
            exact ⟨fun h => by have := h.length_le; simp at this, fun h => by omega⟩
        by_cases hq : [61] <+: r ∧ A.length + K.length + D.length + 6 ≤ 75
        · rw [decide_eq_true (hpt.2 hq), if_neg (by decide), if_pos hq, bsome, bsome]
          obtain ⟨b, hb1, hbl, hb2⟩ := bytes_eq K D (by omega)
          rw [hb1, bsome]
          dsimp only
          rw [bsome]
          obtain ⟨x, n, m, hx1, hx2, hx3⟩ := decode_prog A b (by omega) (by omega)
          rw [hx1, bsome]
          dsimp only
          rw [bsome, chk_ok (by omega) (by omega), bsome, bsome, chk_ok (by omega) (by omega), bsome, bsome, chk_ok (by omega) (by omega), bsome, chk_ok (by omega) (by omega), bsome]
          unfold basic_Failed body
          cases hbp : bytesP K D with
          | none =>
            simp only [Option.isSome_none, Bool.false_eq_true, if_false, bsome]
            cases hA : setOf A with
            | none => exact ⟨_, _, rfl, fun p hp => by cases hp⟩
            | some k => exact ⟨_, _, rfl, fun p hp => by cases hp⟩
          | some y =>
            obtain rfl := hb2 y hbp
            simp only [Option.isSome_some, if_true, bsome]
            cases hA : setOf A with
            | none =>
              rw [hA] at hx2
              simp only [Option.isSome_none] at hx2
              rw [hx2]
              exact ⟨_, _, rfl, fun p hp => by cases hp⟩
            | some k =>
              rw [hA] at hx2
              simp only [Option.isSome_some] at hx2
              rw [hx2, hx3 k hA]
              refine ⟨_, _, rfl, fun p hp => ?_⟩
              cases hp
              exact ⟨rfl, by dsimp only; omega⟩
        · rw [decide_eq_false (fun e => hq (hpt.1 e)), if_pos (by decide), if_neg hq]
          exact ⟨_, _, rfl, fun p hp => by cases hp⟩
      · rw [if_neg hn] at hst
        have h4 := split4_none hst
        rw [if_pos (by omega), bsome, if_pos rfl, if_neg (fun e => by have := e.2; omega)]
        exact ⟨_, _, rfl, fun p hp => by cases hp⟩
  · rw [if_neg (by rw [decide_eq_true_eq]; exact hp), if_neg hp]
    exact ⟨_, _, rfl, fun p hp => by cases hp⟩
end Go.Ph.Wd
end
