/-
  Ect3, Ect4, Ect5, Ect6: own texts of this repository (wip/tpl, wip/plans), merged and shaken by wip/tools/pack.py.
-/
import Derived.KernelRfl
import Derived.Test.YtkmjdamkifbddaaGreatDoorE4d
set_option maxRecDepth 100000
set_option linter.unusedVariables false
set_option linter.unusedSimpArgs false
section
namespace Go.Proofs.YtkmjdamkifbddaaGreatDoor
open Go Go.RowKit Go.Ph Go.Ph.Pl Go.Ph.Pf
theorem Y2R {p0 : (Ls × Int)} {bp0 : Nat} {r : ((Ls × Int) ⊕ Int)} (h : Y26 p0 = some r) : CtS Tryz.prog 121 [ptr bp0 0] [.blk bp0 (.cells #[S p0.1, I p0.2] 72)] (fun M => True) (fun x => fun v M its => v = Value.tuple #[] ∧ its = [.blk bp0 (.cells #[S x.1, I x.2] 72)]) (fun n => Value.iface 69 (Value.agg #[I n])) r := by
 refine CtS.of Tryz.func121 (enters Tryz.func121 Kr G) G G G ?_
 intro w0 M0 H hp
 unfold Y26 at h
 obtain ⟨o1, e2, h⟩ := bnd h
 refine q0l (fun e w => ∃ (s3 : Ls) (n4 : Int) (M : Mem), e = [] ∧ StX (feet [.blk bp0 (.cells #[S p0.1, I p0.2] 72)]) w0 M0 M [.blk bp0 (.cells #[S s3, I n4] 72)] w ∧ some (.inl (s3, n4)) = some o1) [] ?_ ?_ (trivial)
 ·
  refine BL (q0J (fun m e w => ∃ (s5 : Ls) (n6 : Int) (M : Mem), e = [(0, ptr bp0 0)] ∧ StX (feet [.blk bp0 (.cells #[S p0.1, I p0.2] 72)]) w0 M0 M [.blk bp0 (.cells #[S s5, I n6] 72)] w ∧ Y0b  m s5 n6 = some o1) FU [(0, _)] ⟨rfl, trivial⟩ ⟨_, _, _, rfl, H, e2⟩ ?_)
  rintro m7 e w ⟨s5, n6, M, rfl, H, e2⟩
  rcases m7 with _ | m7
  · rw [Y0b] at e2; cases e2
  rw [Y0b] at e2
  refine SQ (SQ (q0F (m := 10) G G H ?_))
  intro w H
  refine TK 0 G (fun _ => q02 G) G (TK 1 G (fun _ => q0E G) G (TK 2 G (fun _ => q03 Tu72 G Ts3 Dc G) G (TK 4 G (fun _ => q02 G) G (TK 5 G (fun _ => q0E G) G (TK 6 G (fun _ => q03 Tu72 G Ts9 Dc G) G ?_)))))
  refine q1c (i := 7) [3] G Kr Kr Kr (XL H Ta9) (q00 G) G G (fun _ _ => G) ?_
  refine TK 8 G (fun _ => q0k Tu9 G) G (q0s (fuel := 0) [3, 9] G Kr (ST (XL H Ta3) G ?_))
  refine ST (q0n G G) G (NA (q0h Kr (TN ?_)))
  refine CB (p := n6 < (s5.length : Int)) G (fun hk8 => ?_) fun hk8 => ?_
  ·
   rw [if_pos hk8] at e2
   refine SK (TN (BL (SQ ?_)))
   obtain ⟨c9, hxc9, e2⟩ := bnd e2
   refine q0F (m := 10) G G H ?_
   intro w H
   refine TK 0 G (fun _ => q02 G) G (TK 1 G (fun _ => q0E G) G (TK 2 G (fun _ => q03 Tu72 G Ts9 Dc G) G (TK 4 G (fun _ => q02 G) G (TK 5 G (fun _ => q0E G) G (TK 6 G (fun _ => q03 Tu72 G Ts3 Dc G) G ?_)))))
   refine q1c (i := 3) [7] G Kr Kr Kr (XL H Ta9) (q00 G) G G (fun _ _ => G) ?_
   refine q0s (fuel := 0) [7, 8, 9] G Kr (ST (XL H Ta3) G ?_)
   refine ST (q0N Tu9 G G hxc9) G (AS G G (NA (q0h Kr (TN (BL (SQ ?_))))))
   obtain ⟨b10, hx11, e2⟩ := bnd e2
   refine RG (MV G G (q05 H (Y48 hx11) G trivial (q00 G) G ?_))
   intro v24 M w H hle hR
   obtain rfl := hR
   refine AS G G (NL (TN ?_))
   refine q0o G (fun hk12 => ?_) (fun hk12 => ?_)
   ·
    subst hk12
    rw [if_pos rfl] at e2
    obtain ⟨n13, hxn13, e2⟩ := bnd e2
    refine RG (MV G G (FN G G Tu72 G Ts3 G G (ST (XL H Ta3) G ?_)))
    refine ST (q0u G G hxn13) G (FN G G Tu72 G Ts3 G G (q1s [_, _] H G G Ku Kf Ts3 (by first | decide | (simp; done) | (simp; omega)) Kf Kf (q00 G) ?_))
    intro w H
    refine NL (IB (IB ?_))
    exact AG m7 ⟨_, _, _, G, H, e2⟩ (l0a _)
   subst hk12
   rw [if_neg l07] at e2
   refine SQ (RG (MV G G (ST (q1A (c := c9) (d := 40) G G) G (AS G G (NL (TN ?_))))))
   refine CB (p := c9 = 40) G (fun hk14 => ?_) fun hk14 => ?_
   ·
    rw [if_pos hk14] at e2
    obtain ⟨o17, hx16, e2⟩ := bnd e2
    rcases o17 with o15 | n18
    ·
     try dsimp only at e2
     refine RG (MV G G ?_)
     refine q0w (A := [.blk bp0 (.cells #[S s5, I n6] 72)]) (B := []) (H.pick (L' := [.blk bp0 (.cells #[S s5, I n6] 72)]) Kp) (Y2x hx16) (.left (q0j _)) G trivial (q00 G) G ?_
     intro v36 M w its H hle hR
     try dsimp only at hR
     obtain ⟨rfl, rfl⟩ := hR
     simp only [l05, l06] at H
     refine NL (IB (IB ?_))
     exact AG m7 ⟨_, _, _, G, H, e2⟩ (l0a _)
    try dsimp only at e2
    obtain rfl := oI e2
    try dsimp only at h
    obtain rfl := oI h
    refine RG (MV G G ?_)
    refine q0C (A := [.blk bp0 (.cells #[S s5, I n6] 72)]) (B := []) (H.pick (L' := [.blk bp0 (.cells #[S s5, I n6] 72)]) Kp) (Y2x hx16) (.left (q0j _)) G trivial (q00 G) ?_
    intro M w H hle
    (repeat (first | refine q0M ?_ | refine q0W ?_ | refine q0S ?_ | refine q0X ?_))
    exact q0T H
   rw [if_neg hk14] at e2
   refine RT ?_
   obtain rfl := oI e2
   try dsimp only at h
   obtain rfl := oI h
   exact WQ.retX0 (its := [.blk bp0 (.cells #[S s5, I n6] 72)]) G H Kp ⟨G, G⟩
  rw [if_neg hk8] at e2
  refine q0m (q06 (q06 (q0f ?_)))
  exact MN ⟨_, _, _, G, H, e2⟩
 rintro e w ⟨s3, n4, M, rfl, H, q19⟩
 obtain rfl := oI q19
 try dsimp only at h
 obtain rfl := oI h
 exact WQ.endX0 (its := [.blk bp0 (.cells #[S s3, I n4] 72)]) G H Kp ⟨G, G⟩
theorem Y2Q {p0 : (Ls × Int)} {bp0 : Nat} {r : ((Ls × (Ls × Int)) ⊕ Int)} (h : Y1s p0 = some r) : CtS Tryz.prog 122 [ptr bp0 0] [.blk bp0 (.cells #[S p0.1, I p0.2] 72)] (fun M => True) (fun x => fun v M its => v = S x.1 ∧ its = [.blk bp0 (.cells #[S x.2.1, I x.2.2] 72)]) (fun n => Value.iface 69 (Value.agg #[I n])) r := by
 refine CtS.of Tryz.func122 (enters Tryz.func122 Kr G) G G G ?_
 intro w0 M0 H hp
 unfold Y1s at h
 refine SQ (RG (AS G G (NL (TN (SQ (RG (AS G G (NL (TN (SQ ?_))))))))))
 obtain ⟨n1, hxn1, h⟩ := bnd h
 refine RG (MV G G (FN G G Tu72 G Ts3 G G (ST (XL H Ta3) G ?_)))
 refine ST (q0u G G hxn1) G (FN G G Tu72 G Ts3 G G (q1s [_, _] H G G Ku Kf Ts3 (by first | decide | (simp; done) | (simp; omega)) Kf Kf (q00 G) ?_))
 intro w H
 refine NL (TN ?_)
 obtain ⟨o2, e3, h⟩ := bnd h
 refine BL ?_
 replace H := H.newRow 5 encB
 refine q0J (fun m e w => ∃ (s4 : Ls) (n5 : Int) (l7 : Ls) (v8 : Value) (M : Mem), e = [(0, ptr bp0 0), (3, v8)] ∧ StX (feet [.blk bp0 (.cells #[S p0.1, I p0.2] 72)]) w0 M0 M [.blk bp0 (.cells #[S s4, I n5] 72), RowI 5 encB v8 l7] w ∧ Y0d  m s4 n5 l7 = some o2) FU [(0, _), (3, _)] ⟨rfl, rfl, trivial⟩ ⟨_, _, _, _, _, rfl, (H.pick (L' := [.blk bp0 (.cells #[S p0.1, I n1] 72), RowI 5 encB (Value.slice none 0 0) []]) Kp), e3⟩ ?_
 rintro m9 e w ⟨s4, n5, l7, v8, M, rfl, H, e3⟩
 rcases m9 with _ | m9
 · rw [Y0d] at e3; cases e3
 rw [Y0d] at e3
 refine SQ (BL (SQ (SQ (q0F (m := 10) G G H ?_))))
 intro w H
 refine TK 0 G (fun _ => q02 G) G (TK 1 G (fun _ => q0E G) G (TK 2 G (fun _ => q03 Tu72 G Ts3 Dc G) G (TK 4 G (fun _ => q02 G) G (TK 5 G (fun _ => q0E G) G (TK 6 G (fun _ => q03 Tu72 G Ts9 Dc G) G ?_)))))
 refine q1c (i := 7) [3] G Kr Kr Kr (XL H Ta9) (q00 G) G G (fun _ _ => G) ?_
 refine TK 8 G (fun _ => q0k Tu9 G) G (q0s (fuel := 0) [3, 9] G Kr (ST (XL H Ta3) G ?_))
 refine ST (q1b G G) G (NA (q0h Kr (TN ?_)))
 obtain ⟨o11, e12, e3⟩ := bnd e3
 refine q0l (fun e w => ∃ (s13 : Ls) (n14 : Int) (M : Mem), e = [(0, ptr bp0 0), (3, v8)] ∧ StX (feet [.blk bp0 (.cells #[S p0.1, I p0.2] 72)]) w0 M0 M [.blk bp0 (.cells #[S s13, I n14] 72), RowI 5 encB v8 l7] w ∧ some (.inl (s13, n14)) = some o11) [] ?_ ?_ (trivial)
 ·
  refine CB (p := (s4.length : Int) ≤ n5) G (fun hk15 => ?_) fun hk15 => ?_
  ·
   rw [if_pos hk15] at e12
   obtain ⟨o18, hx17, e12⟩ := bnd e12
   rcases o18 with o16 | n19
   ·
    try dsimp only at e12
    refine RG (MV G G ?_)
    refine q0w (A := [.blk bp0 (.cells #[S s4, I n5] 72)]) (B := [RowI 5 encB v8 l7]) (H.pick (L' := [.blk bp0 (.cells #[S s4, I n5] 72), RowI 5 encB v8 l7]) Kp) (Y03 hx17) (.left (q0j _)) G trivial (q00 G) G ?_
    intro v30 M w its H hle hR
    try dsimp only at hR
    obtain ⟨rfl, rfl⟩ := hR
    simp only [l05, l06] at H
    refine NL ?_
    exact MN ⟨_, _, _, G, H, e12⟩
   try dsimp only at e12
   obtain rfl := oI e12
   try dsimp only at e3
   obtain rfl := oI e3
   try dsimp only at h
   obtain rfl := oI h
   refine RG (MV G G ?_)
   refine q0C (A := [.blk bp0 (.cells #[S s4, I n5] 72)]) (B := [RowI 5 encB v8 l7]) (H.pick (L' := [.blk bp0 (.cells #[S s4, I n5] 72), RowI 5 encB v8 l7]) Kp) (Y03 hx17) (.left (q0j _)) G trivial (q00 G) ?_
   intro M w H hle
   (repeat (first | refine q0M ?_ | refine q0W ?_ | refine q0S ?_ | refine q0X ?_))
   exact q0T H
  rw [if_neg hk15] at e12
  refine SK ?_
  exact MN ⟨_, _, _, G, H, e12⟩
 rintro e w ⟨s13, n14, M, rfl, H, q20⟩
 obtain rfl := oI q20
 try dsimp only at e3
 refine TN (SQ ?_)
 obtain ⟨c21, hxc21, e3⟩ := bnd e3
 refine q0F (m := 10) G G H ?_
 intro w H
 refine TK 0 G (fun _ => q02 G) G (TK 1 G (fun _ => q0E G) G (TK 2 G (fun _ => q03 Tu72 G Ts9 Dc G) G (TK 4 G (fun _ => q02 G) G (TK 5 G (fun _ => q0E G) G (TK 6 G (fun _ => q03 Tu72 G Ts3 Dc G) G ?_)))))
 refine q1c (i := 3) [7] G Kr Kr Kr (XL H Ta9) (q00 G) G G (fun _ _ => G) ?_
 refine q0s (fuel := 0) [7, 8, 9] G Kr (ST (XL H Ta3) G ?_)
 refine ST (q0N Tu9 G G hxc21) G (AS G G (NA (q0h Kr (TN (SQ (RG (MV G G (NL (TN (BL (SQ (RG (ST (q1A (c := c21) (d := 34) G G) G (AS G G (NL (TN ?_))))))))))))))))
 refine CB (p := c21 = 34) G (fun hk22 => ?_) fun hk22 => ?_
 ·
  rw [if_pos hk22] at e3
  refine SQ ?_
  obtain ⟨n23, hxn23, e3⟩ := bnd e3
  refine RG (MV G G (FN G G Tu72 G Ts3 G G (ST (XL H Ta3) G ?_)))
  refine ST (q0u G G hxn23) G (FN G G Tu72 G Ts3 G G (q1s [_, _] H G G Ku Kf Ts3 (by first | decide | (simp; done) | (simp; omega)) Kf Kf (q00 G) ?_))
  intro w H
  refine NL (TN (SQ (RG (MV G G ?_))))
  obtain ⟨M, hle, hs24, H⟩ := H.freezeRowN (v := v8) (enc := encB) (t := 5) Kv ⟨⟨_, Km⟩, trivial⟩
  refine ST (q1S Tu88 Tu5 Tu9 H (hs24) G) G (AS G G (NL (TN (RT ?_))))
  obtain rfl := oI e3
  try dsimp only at h
  obtain rfl := oI h
  exact q1n (its := [.blk bp0 (.cells #[S s13, I n23] 72)]) G G H Kp ⟨G, G⟩
 rw [if_neg hk22] at e3
 refine SQ (RG (ST (q1A (c := c21) (d := 92) G G) G (AS G G (NL (TN ?_)))))
 obtain ⟨o25, e26, e3⟩ := bnd e3
 refine q0l (fun e w => ∃ (s27 : Ls) (n28 : Int) (l30 : Ls) (v31 : Value) (M : Mem), e = [(0, ptr bp0 0), (3, v31)] ∧ StX (feet [.blk bp0 (.cells #[S p0.1, I p0.2] 72)]) w0 M0 M [.blk bp0 (.cells #[S s27, I n28] 72), RowI 5 encB v31 l30] w ∧ some (.inl (s27, n28, l30)) = some o25) [] ?_ ?_ (trivial)
 ·
  refine CB (p := c21 = 92) G (fun hk32 => ?_) fun hk32 => ?_
  ·
   rw [if_pos hk32] at e26
   refine SQ (SQ ?_)
   obtain ⟨n33, hxn33, e26⟩ := bnd e26
   refine RG (MV G G (FN G G Tu72 G Ts3 G G (ST (XL H Ta3) G ?_)))
   refine ST (q0u G G hxn33) G (FN G G Tu72 G Ts3 G G (q1s [_, _] H G G Ku Kf Ts3 (by first | decide | (simp; done) | (simp; omega)) Kf Kf (q00 G) ?_))
   intro w H
   refine NL (TN (SQ (q0F (m := 10) G G H ?_)))
   intro w H
   refine TK 0 G (fun _ => q02 G) G (TK 1 G (fun _ => q0E G) G (TK 2 G (fun _ => q03 Tu72 G Ts3 Dc G) G (TK 4 G (fun _ => q02 G) G (TK 5 G (fun _ => q0E G) G (TK 6 G (fun _ => q03 Tu72 G Ts9 Dc G) G ?_)))))
   refine q1c (i := 7) [3] G Kr Kr Kr (XL H Ta9) (q00 G) G G (fun _ _ => G) ?_
   refine TK 8 G (fun _ => q0k Tu9 G) G (q0s (fuel := 0) [3, 9] G Kr (ST (XL H Ta3) G ?_))
   refine ST (q1b G G) G (NA (q0h Kr (TN ?_)))
   obtain ⟨o34, e35, e26⟩ := bnd e26
   refine q0l (fun e w => ∃ (s36 : Ls) (n37 : Int) (M : Mem), e = [(0, ptr bp0 0), (3, v8)] ∧ StX (feet [.blk bp0 (.cells #[S p0.1, I p0.2] 72)]) w0 M0 M [.blk bp0 (.cells #[S s36, I n37] 72), RowI 5 encB v8 l7] w ∧ some (.inl (s36, n37)) = some o34) [] ?_ ?_ (trivial)
   ·
    refine CB (p := (s13.length : Int) ≤ n33) G (fun hk38 => ?_) fun hk38 => ?_
    ·
     rw [if_pos hk38] at e35
     obtain ⟨o41, hx40, e35⟩ := bnd e35
     rcases o41 with o39 | n42
     ·
      try dsimp only at e35
      refine RG (MV G G ?_)
      refine q0w (A := [.blk bp0 (.cells #[S s13, I n33] 72)]) (B := [RowI 5 encB v8 l7]) (H.pick (L' := [.blk bp0 (.cells #[S s13, I n33] 72), RowI 5 encB v8 l7]) Kp) (Y03 hx40) (.left (q0j _)) G trivial (q00 G) G ?_
      intro v76 M w its H hle hR
      try dsimp only at hR
      obtain ⟨rfl, rfl⟩ := hR
      simp only [l05, l06] at H
      refine NL ?_
      exact MN ⟨_, _, _, G, H, e35⟩
     try dsimp only at e35
     obtain rfl := oI e35
     try dsimp only at e26
     obtain rfl := oI e26
     try dsimp only at e3
     obtain rfl := oI e3
     try dsimp only at h
     obtain rfl := oI h
     refine RG (MV G G ?_)
     refine q0C (A := [.blk bp0 (.cells #[S s13, I n33] 72)]) (B := [RowI 5 encB v8 l7]) (H.pick (L' := [.blk bp0 (.cells #[S s13, I n33] 72), RowI 5 encB v8 l7]) Kp) (Y03 hx40) (.left (q0j _)) G trivial (q00 G) ?_
     intro M w H hle
     (repeat (first | refine q0M ?_ | refine q0W ?_ | refine q0S ?_ | refine q0X ?_))
     exact q0T H
    rw [if_neg hk38] at e35
    refine SK ?_
    exact MN ⟨_, _, _, G, H, e35⟩
   rintro e w ⟨s36, n37, M, rfl, H, q43⟩
   obtain rfl := oI q43
   try dsimp only at e26
   refine TN ?_
   obtain ⟨c44, hxc44, e26⟩ := bnd e26
   obtain ⟨l45, hxl45, e26⟩ := bnd e26
   refine q0F (m := 13) G G H ?_
   intro w H
   refine TK 0 G (fun _ => q02 G) G (TK 1 G (fun _ => q02 G) G (TK 2 G (fun _ => q0E G) G (TK 3 G (fun _ => q03 Tu72 G Ts9 Dc G) G (TK 5 G (fun _ => q02 G) G (TK 6 G (fun _ => q0E G) G (TK 7 G (fun _ => q03 Tu72 G Ts3 Dc G) G ?_))))))
   refine q1c (i := 4) [8] G Kr Kr Kr (XL H Ta9) (q00 G) G G (fun _ _ => G) ?_
   refine q0s (fuel := 0) [8, 9, 10, 11, 12] G Kr (ST (XL H Ta3) G ?_)
   refine ST (q0N Tu9 G G hxc44) G (q0B (enc := encB) xty88 ([c44] : Ls) H G Kf (fun _ => G) G G (q00 G) G ?_)
   intro v87 M w H hle hs87
   refine q1l (l := l7) xty88 G (fun _ => G) H G (fun _ => by repeat first | exact .head | apply Upd.tail) G (hs87) hxl45 (q00 G) G ?_
   intro v88 w H
   refine AS G G (NA (q0h Kr ?_))
   exact MN ⟨_, _, _, _, _, G, H, e26⟩
  rw [if_neg hk32] at e26
  obtain ⟨l48, hxl48, e26⟩ := bnd e26
  refine RG (MV G G (MV G G (q0B (enc := encB) xty88 ([c21] : Ls) H G Kf (fun _ => G) G G (q00 G) G ?_)))
  intro v43 M w H hle hs43
  refine q1l (l := l7) xty88 G (fun _ => G) H G (fun _ => by repeat first | exact .head | apply Upd.tail) G (hs43) hxl48 (q00 G) G ?_
  intro v44 w H
  refine AS G G (NL ?_)
  exact MN ⟨_, _, _, _, _, G, H, e26⟩
 rintro e w ⟨s27, n28, l30, v31, M, rfl, H, q49⟩
 obtain rfl := oI q49
 try dsimp only at e3
 refine IB (IB (TN ?_))
 obtain ⟨n50, hxn50, e3⟩ := bnd e3
 refine RG (MV G G (FN G G Tu72 G Ts3 G G (ST (XL H Ta3) G ?_)))
 refine ST (q0u G G hxn50) G (FN G G Tu72 G Ts3 G G (q1s [_, _] H G G Ku Kf Ts3 (by first | decide | (simp; done) | (simp; omega)) Kf Kf (q00 G) ?_))
 intro w H
 refine NL ?_
 exact AG m9 ⟨_, _, _, _, _, G, H, e3⟩ (l0a _)
theorem Y0m {p0 : (Ls × Int)} {bp0 : Nat} {r : ((Elt × (Ls × Int)) ⊕ Int)} (h : Y0i p0 = some r) : CtS Tryz.prog 84 [ptr bp0 0] [.blk bp0 (.cells #[S p0.1, I p0.2] 72)] (fun M => True) (fun x => fun v M its => v = encA 76 136 x.1 ∧ its = [.blk bp0 (.cells #[S x.2.1, I x.2.2] 72)]) (fun n => Value.iface 69 (Value.agg #[I n])) r := by
 refine CtS.of Tryz.func84 (enters Tryz.func84 Kr G) G G G ?_
 intro w0 M0 H hp
 unfold Y0i at h
 refine SQ (RG (AS G G (NL (TN (SQ ?_)))))
 obtain ⟨o3, hx2, h⟩ := bnd h
 rcases o3 with o1 | n4
 ·
  try dsimp only at h
  refine RG (MV G G ?_)
  refine q0w (A := [.blk bp0 (.cells #[S p0.1, I p0.2] 72)]) (B := []) (H.pick (L' := [.blk bp0 (.cells #[S p0.1, I p0.2] 72)]) Kp) (Y2R hx2) (.left (q0j _)) G trivial (q00 G) G ?_
  intro v6 M w its H hle hR
  try dsimp only at hR
  obtain ⟨rfl, rfl⟩ := hR
  simp only [l05, l06] at H
  refine NL (TN (SQ (SQ (q0F (m := 10) G G H ?_))))
  intro w H
  refine TK 0 G (fun _ => q02 G) G (TK 1 G (fun _ => q0E G) G (TK 2 G (fun _ => q03 Tu72 G Ts3 Dc G) G (TK 4 G (fun _ => q02 G) G (TK 5 G (fun _ => q0E G) G (TK 6 G (fun _ => q03 Tu72 G Ts9 Dc G) G ?_)))))
  refine q1c (i := 7) [3] G Kr Kr Kr (XL H Ta9) (q00 G) G G (fun _ _ => G) ?_
  refine TK 8 G (fun _ => q0k Tu9 G) G (q0s (fuel := 0) [3, 9] G Kr (ST (XL H Ta3) G ?_))
  refine ST (q1b G G) G (NA (q0h Kr (TN ?_)))
  refine CB (p := (o1.1.length : Int) ≤ o1.2) G (fun hk5 => ?_) fun hk5 => ?_
  ·
   rw [if_pos hk5] at h
   refine SQ (RG (AS G G (NL (TN (RT ?_)))))
   obtain rfl := oI h
   exact q1n (its := [.blk bp0 (.cells #[S o1.1, I o1.2] 72)]) G G H Kp ⟨G, G⟩
  rw [if_neg hk5] at h
  refine SK (TN (SQ ?_))
  obtain ⟨c6, hxc6, h⟩ := bnd h
  refine q0F (m := 10) G G H ?_
  intro w H
  refine TK 0 G (fun _ => q02 G) G (TK 1 G (fun _ => q0E G) G (TK 2 G (fun _ => q03 Tu72 G Ts9 Dc G) G (TK 4 G (fun _ => q02 G) G (TK 5 G (fun _ => q0E G) G (TK 6 G (fun _ => q03 Tu72 G Ts3 Dc G) G ?_)))))
  refine q1c (i := 3) [7] G Kr Kr Kr (XL H Ta9) (q00 G) G G (fun _ _ => G) ?_
  refine q0s (fuel := 0) [7, 8, 9] G Kr (ST (XL H Ta3) G ?_)
  refine ST (q0N Tu9 G G hxc6) G (AS G G (NA (q0h Kr (TN (SQ (SQ (RG (MV G G (ST (q1A (c := c6) (d := 34) G G) G (NL (TN ?_)))))))))))
  refine CB (p := c6 = 34) G (fun hk7 => ?_) fun hk7 => ?_
  ·
   rw [if_pos hk7] at h
   refine SQ ?_
   obtain ⟨o11, hx10, h⟩ := bnd h
   rcases o11 with ⟨s8, o9⟩ | n12
   ·
    try dsimp only at h
    refine RG (MV G G ?_)
    refine q0w (A := [.blk bp0 (.cells #[S o1.1, I o1.2] 72)]) (B := []) (H.pick (L' := [.blk bp0 (.cells #[S o1.1, I o1.2] 72)]) Kp) (Y2Q hx10) (.left (q0j _)) G trivial (q00 G) G ?_
    intro v29 M w its H hle hR
    try dsimp only at hR
    obtain ⟨rfl, rfl⟩ := hR
    simp only [l05, l06] at H
    refine ST (q0L [S s8, Value.bool true] Tu136 Tz136 (xplaces136 Tu136) G G) G (ST (Ex.anyW (ts := 76) (s := s8) (b := true) Kr G) G (AS G G (NL (TN (RT ?_)))))
    obtain rfl := oI h
    exact q1n (its := [.blk bp0 (.cells #[S o9.1, I o9.2] 72)]) G G H Kp ⟨G, G⟩
   try dsimp only at h
   obtain rfl := oI h
   refine RG (MV G G ?_)
   refine q0C (A := [.blk bp0 (.cells #[S o1.1, I o1.2] 72)]) (B := []) (H.pick (L' := [.blk bp0 (.cells #[S o1.1, I o1.2] 72)]) Kp) (Y2Q hx10) (.left (q0j _)) G trivial (q00 G) ?_
   intro M w H hle
   (repeat (first | refine q0M ?_ | refine q0W ?_ | refine q0S ?_ | refine q0X ?_))
   exact q0T H
  rw [if_neg hk7] at h
  refine SK (TN (SQ (SQ ?_)))
  obtain ⟨n13, hx14, h⟩ := bnd h
  refine RG (MV G G (q05 H (Y37 hx14) G trivial (q00 G) G ?_))
  intro v33 M w H hle hR
  obtain rfl := hR
  refine ST (q1b G G) G (NL (TN ?_))
  refine CB (p := (0 : Int) ≤ n13) G (fun hk15 => ?_) fun hk15 => ?_
  ·
   rw [if_pos hk15] at h
   refine SQ ?_
   obtain ⟨n16, hxn16, h⟩ := bnd h
   refine RG (MV G G (FN G G Tu72 G Ts3 G G (ST (XL H Ta3) G ?_)))
   refine ST (q0u G G hxn16) G (FN G G Tu72 G Ts3 G G (q1s [_, _] H G G Ku Kf Ts3 (by first | decide | (simp; done) | (simp; omega)) Kf Kf (q00 G) ?_))
   intro w H
   refine NL (TN (SQ (RG (MV G G (ST (Ex.anyS (tw := 136) (c := c6) Kr G) G (AS G G (NL (TN (RT ?_)))))))))
   obtain rfl := oI h
   exact q1n (its := [.blk bp0 (.cells #[S o1.1, I n16] 72)]) G G H Kp ⟨G, G⟩
  rw [if_neg hk15] at h
  refine SK (TN (SQ (RG (MV G G (FN G G Tu72 G Ts3 G G (ST (XL H Ta3) G ?_))))))
  refine AS G G (NL (TN (SQ ?_)))
  obtain ⟨o17, e18, h⟩ := bnd h
  refine q0l (fun e w => ∃ (s19 : Ls) (n20 : Int) (M : Mem), e = [(0, ptr bp0 0), (4, I o1.2)] ∧ StX (feet [.blk bp0 (.cells #[S p0.1, I p0.2] 72)]) w0 M0 M [.blk bp0 (.cells #[S s19, I n20] 72)] w ∧ some (s19, n20) = some o17) [] ?_ ?_ (trivial)
  ·
   refine BL (q0J (fun m e w => ∃ (s21 : Ls) (n22 : Int) (M : Mem), e = [(0, ptr bp0 0), (4, I o1.2)] ∧ StX (feet [.blk bp0 (.cells #[S p0.1, I p0.2] 72)]) w0 M0 M [.blk bp0 (.cells #[S s21, I n22] 72)] w ∧ Y0j  m s21 n22 = some o17) FU [(0, _), (4, _)] ⟨rfl, rfl, trivial⟩ ⟨_, _, _, rfl, H, e18⟩ ?_)
   rintro m23 e w ⟨s21, n22, M, rfl, H, e18⟩
   rcases m23 with _ | m23
   · rw [Y0j] at e18; cases e18
   rw [Y0j] at e18
   refine SQ (SQ ?_)
   obtain ⟨o24, e25, e18⟩ := bnd e18
   refine q0l (fun e w => ∃ (b26 : Bool) (M : Mem), e = [(0, ptr bp0 0), (4, I o1.2), (81, Value.bool b26)] ∧ StX (feet [.blk bp0 (.cells #[S p0.1, I p0.2] 72)]) w0 M0 M [.blk bp0 (.cells #[S s21, I n22] 72)] w ∧ some b26 = some o24) [] ?_ ?_ (trivial)
   ·
    refine q0F (m := 34) G G H ?_
    intro w H
    refine TK 0 G (fun _ => q02 G) G (TK 1 G (fun _ => q0E G) G (TK 2 G (fun _ => q03 Tu72 G Ts3 Dc G) G (TK 4 G (fun _ => q02 G) G (TK 5 G (fun _ => q0E G) G (TK 6 G (fun _ => q03 Tu72 G Ts9 Dc G) G ?_)))))
    refine q1c (i := 7) [3] G Kr Kr Kr (XL H Ta9) (q00 G) G G (fun _ _ => G) ?_
    refine TK 8 G (fun _ => q0k Tu9 G) G (ON 3 Kr G (ST (XL H Ta3) G ?_))
    refine NA ?_
    by_cases hk27 : n22 < (s21.length : Int)
    ·
     rw [if_pos hk27] at e25
     obtain ⟨c28, hxc28, e25⟩ := bnd e25
     obtain ⟨b29, hx30, e25⟩ := bnd e25
     rcases b29 with _ | _
     ·
      rw [if_neg l07] at e25
      obtain ⟨c31, hxc31, e25⟩ := bnd e25
      refine q0s (fuel := 23) [9, 10] G Kr (DT hk27 (q0n G G) G (MV G G (NA (q0x (i := 11) G Kr Kr Kr (fun _ => q02 G) (q04 G G G) G G (fun _ _ => G) (q0x (i := 12) G Kr Kr Kr (fun _ => q0E G) (q04 G G G) G G (fun _ _ => G) (q0x (i := 13) G Kr Kr Kr (fun _ => q03 Tu72 G Ts9 Dc G) (q04 G G G) G G (fun _ _ => G) (q0x (i := 15) G Kr Kr Kr (fun _ => q02 G) (q04 G G G) G G (fun _ _ => G) (q0x (i := 16) G Kr Kr Kr (fun _ => q0E G) (q04 G G G) G G (fun _ _ => G) ?_))))))))
      refine q0x (i := 17) G Kr Kr Kr (fun _ => q03 Tu72 G Ts3 Dc G) (q04 G G G) G G (fun _ _ => G) (q1c (i := 14) [18] G Kr Kr Kr (XL H Ta9) (q04 G G G) G G (fun _ _ => G) ?_)
      refine q0s (fuel := 12) [18, 19, 20, 21] G Kr (SG (XL H Ta3) G G G ?_)
      refine SG (q0N Tu9 G G hxc28) G G G (q05 H (Y2P hx30) G trivial (q04 G G G) G ?_)
      intro v68 M w H hle hR
      obtain rfl := hR
      refine SG (q02 G) G G G (NA (q0x (i := 22) G Kr Kr Kr (fun _ => q02 G) (q04 G G G) G G (fun _ _ => G) (q0x (i := 23) G Kr Kr Kr (fun _ => q0E G) (q04 G G G) G G (fun _ _ => G) (q0x (i := 24) G Kr Kr Kr (fun _ => q03 Tu72 G Ts9 Dc G) (q04 G G G) G G (fun _ _ => G) (q0x (i := 26) G Kr Kr Kr (fun _ => q02 G) (q04 G G G) G G (fun _ _ => G) (q0x (i := 27) G Kr Kr Kr (fun _ => q0E G) (q04 G G G) G G (fun _ _ => G) (q0x (i := 28) G Kr Kr Kr (fun _ => q03 Tu72 G Ts3 Dc G) (q04 G G G) G G (fun _ _ => G) ?_)))))))
      refine q1c (i := 25) [29] G Kr Kr Kr (XL H Ta9) (q04 G G G) G G (fun _ _ => G) ?_
      refine q0s (fuel := 0) [29, 30, 31, 32, 33] G Kr (SG (XL H Ta3) G G G ?_)
      refine SG (q0N Tu9 G G hxc31) G G G (SG (q1A (c := c31) (d := 46) G G) G G G (SG (q0r G G) G G G (PT G G G (NA (q0h Kr ?_)))))
      exact MN ⟨_, _, G, H, e25⟩
     rw [if_pos rfl] at e25
     refine q0s (fuel := 23) [9, 10] G Kr (DT hk27 (q0n G G) G (MV G G (NA (q0x (i := 11) G Kr Kr Kr (fun _ => q02 G) (q04 G G G) G G (fun _ _ => G) (q0x (i := 12) G Kr Kr Kr (fun _ => q0E G) (q04 G G G) G G (fun _ _ => G) (q0x (i := 13) G Kr Kr Kr (fun _ => q03 Tu72 G Ts9 Dc G) (q04 G G G) G G (fun _ _ => G) (q0x (i := 15) G Kr Kr Kr (fun _ => q02 G) (q04 G G G) G G (fun _ _ => G) (q0x (i := 16) G Kr Kr Kr (fun _ => q0E G) (q04 G G G) G G (fun _ _ => G) ?_))))))))
     refine q0x (i := 17) G Kr Kr Kr (fun _ => q03 Tu72 G Ts3 Dc G) (q04 G G G) G G (fun _ _ => G) (q1c (i := 14) [18] G Kr Kr Kr (XL H Ta9) (q04 G G G) G G (fun _ _ => G) ?_)
     refine q0s (fuel := 12) [18, 19, 20, 21] G Kr (SG (XL H Ta3) G G G ?_)
     refine SG (q0N Tu9 G G hxc28) G G G (q05 H (Y2P hx30) G trivial (q04 G G G) G ?_)
     intro v68 M w H hle hR
     obtain rfl := hR
     refine SG (q02 G) G G G (NA (q2c (fuel := 8) [22, 23, 24, 25] G Kr Kr G (q0s (fuel := 0) [26, 27, 28, 29, 30, 31, 32, 33] G Kr (q0i 6 G G (SG (q0q G G) G G G (PT G G G (NA (q0h Kr ?_))))))))
     exact MN ⟨_, _, G, H, e25⟩
    rw [if_neg hk27] at e25
    refine q0s (fuel := 23) [9, 10] G Kr (DF hk27 (q0n G G) G (MV G G (NA (q2c (fuel := 19) [11, 12, 13, 14] G Kr Kr G (q0s (fuel := 12) [15, 16, 17, 18, 19, 20, 21] G Kr (q0i 7 G G (NA (q2c (fuel := 8) [22, 23, 24, 25] G Kr Kr G (q0s (fuel := 0) [26, 27, 28, 29, 30, 31, 32, 33] G Kr (q0i 7 G G (PF G G G (NA (q0h Kr ?_)))))))))))))
    exact MN ⟨_, _, G, H, e25⟩
   rintro e w ⟨b26, M, rfl, H, q32⟩
   obtain rfl := oI q32
   refine TN ?_
   refine q0o G (fun hk33 => ?_) (fun hk33 => ?_)
   ·
    subst hk33
    rw [if_pos rfl] at e18
    refine SK (TN (BL ?_))
    obtain ⟨n34, hxn34, e18⟩ := bnd e18
    refine RG (MV G G (FN G G Tu72 G Ts3 G G (ST (XL H Ta3) G ?_)))
    refine ST (q0u G G hxn34) G (FN G G Tu72 G Ts3 G G (q1s [_, _] H G G Ku Kf Ts3 (by first | decide | (simp; done) | (simp; omega)) Kf Kf (q00 G) ?_))
    intro w H
    refine NL (IB ?_)
    exact AG m23 ⟨_, _, _, G, H, e18⟩ (l0a _)
   subst hk33
   rw [if_neg l07] at e18
   refine q0m (q06 (q06 (q0f ?_)))
   exact MN ⟨_, _, _, G, H, e18⟩
  rintro e w ⟨s19, n20, M, rfl, H, q35⟩
  obtain rfl := oI q35
  try dsimp only at h
  refine TN (SQ (SQ (RG (MV G G (FN G G Tu72 G Ts3 G G (ST (XL H Ta3) G ?_))))))
  refine MV G G (ST (q0c G G) G (NL (TN ?_)))
  obtain ⟨o36, e37, h⟩ := bnd h
  refine q0l (fun e w => ∃ (s38 : Ls) (n39 : Int) (M : Mem), e = [(0, ptr bp0 0), (4, I o1.2)] ∧ StX (feet [.blk bp0 (.cells #[S p0.1, I p0.2] 72)]) w0 M0 M [.blk bp0 (.cells #[S s38, I n39] 72)] w ∧ some (.inl (s38, n39)) = some o36) [] ?_ ?_ (trivial)
  ·
   refine CB (p := n20 = o1.2) G (fun hk40 => ?_) fun hk40 => ?_
   ·
    rw [if_pos hk40] at e37
    obtain ⟨o43, hx42, e37⟩ := bnd e37
    rcases o43 with o41 | n44
    ·
     try dsimp only at e37
     refine RG (MV G G ?_)
     refine q0w (A := [.blk bp0 (.cells #[S s19, I n20] 72)]) (B := []) (H.pick (L' := [.blk bp0 (.cells #[S s19, I n20] 72)]) Kp) (Y03 hx42) (.left (q0j _)) G trivial (q00 G) G ?_
     intro v96 M w its H hle hR
     try dsimp only at hR
     obtain ⟨rfl, rfl⟩ := hR
     simp only [l05, l06] at H
     refine NL ?_
     exact MN ⟨_, _, _, G, H, e37⟩
    try dsimp only at e37
    obtain rfl := oI e37
    try dsimp only at h
    obtain rfl := oI h
    refine RG (MV G G ?_)
    refine q0C (A := [.blk bp0 (.cells #[S s19, I n20] 72)]) (B := []) (H.pick (L' := [.blk bp0 (.cells #[S s19, I n20] 72)]) Kp) (Y03 hx42) (.left (q0j _)) G trivial (q00 G) ?_
    intro M w H hle
    (repeat (first | refine q0M ?_ | refine q0W ?_ | refine q0S ?_ | refine q0X ?_))
    exact q0T H
   rw [if_neg hk40] at e37
   refine SK ?_
   exact MN ⟨_, _, _, G, H, e37⟩
  rintro e w ⟨s38, n39, M, rfl, H, q45⟩
  obtain rfl := oI q45
  try dsimp only at h
  refine TN (SQ ?_)
  obtain ⟨s46, hxs46, h⟩ := bnd h
  refine q0F (m := 13) G G H ?_
  intro w H
  refine TK 0 G (fun _ => q02 G) G (TK 1 G (fun _ => q0E G) G (TK 2 G (fun _ => q03 Tu72 G Ts9 Dc G) G (TK 4 G (fun _ => q02 G) G (TK 5 G (fun _ => q02 G) G (TK 6 G (fun _ => q0E G) G (TK 7 G (fun _ => q03 Tu72 G Ts3 Dc G) G ?_))))))
  refine q1c (i := 3) [8] G Kr Kr Kr (XL H Ta9) (q00 G) G G (fun _ _ => G) ?_
  refine q0s (fuel := 0) [8, 9, 10, 11, 12] G Kr (ST (XL H Ta3) G ?_)
  refine ST (Ex.sliceC Tu9 G G G hxs46) G (ST (q0L [S s46, Value.bool false] Tu136 Tz136 (xplaces136 Tu136) G G) G (ST (Ex.anyW (ts := 76) (s := s46) (b := false) Kr G) G (AS G G (NA (q0h Kr (TN (RT ?_)))))))
  obtain rfl := oI h
  exact q1n (its := [.blk bp0 (.cells #[S s38, I n39] 72)]) G G H Kp ⟨G, G⟩
 try dsimp only at h
 obtain rfl := oI h
 refine RG (MV G G ?_)
 refine q0C (A := [.blk bp0 (.cells #[S p0.1, I p0.2] 72)]) (B := []) (H.pick (L' := [.blk bp0 (.cells #[S p0.1, I p0.2] 72)]) Kp) (Y2R hx2) (.left (q0j _)) G trivial (q00 G) ?_
 intro M w H hle
 (repeat (first | refine q0M ?_ | refine q0W ?_ | refine q0S ?_ | refine q0X ?_))
 exact q0T H
theorem Y0n {p0 : (Ls × Int)} {bp0 : Nat} {r : ((Elt × (Ls × Int)) ⊕ Int)} (h : Y0l p0 = some r) : CtS Tryz.prog 46 [ptr bp0 0] [.blk bp0 (.cells #[S p0.1, I p0.2] 72)] (fun M => True) (fun x => fun v M its => v = encA 76 136 x.1 ∧ its = [.blk bp0 (.cells #[S x.2.1, I x.2.2] 72)]) (fun n => Value.iface 69 (Value.agg #[I n])) r := by
 refine CtS.of Tryz.func46 (enters Tryz.func46 Kr G) G G G ?_
 intro w0 M0 H hp
 unfold Y0l at h
 refine SQ (RG (AS G G (NL (TN (SQ (RG (MV G G (FN G G Tu72 G Ts3 G G (ST (XL H Ta3) G ?_)))))))))
 refine AS G G (NL (TN (SQ ?_)))
 obtain ⟨o4, hx3, h⟩ := bnd h
 rcases o4 with ⟨n1, o2⟩ | n5
 ·
  try dsimp only at h
  refine RG (MV G G ?_)
  refine q0w (A := [.blk bp0 (.cells #[S p0.1, I p0.2] 72)]) (B := []) (H.pick (L' := [.blk bp0 (.cells #[S p0.1, I p0.2] 72)]) Kp) (Y0m hx3) (.left (q0j _)) G trivial (q00 G) G ?_
  intro v10 M w its H hle hR
  try dsimp only at hR
  obtain ⟨rfl, rfl⟩ := hR
  simp only [l05, l06] at H
  refine AS G G (NL (TN (SQ (RG (MV G G (MV G G (FN G G Tu72 G Ts3 G G (q1s [_, _] H G G Ku Kf Ts3 (by first | decide | (simp; done) | (simp; omega)) Kf Kf (q00 G) ?_))))))))
  intro w H
  refine NL (TN (SQ (RG (MV G G (AS G G (NL (TN (RT ?_))))))))
  obtain rfl := oI h
  exact q1n (its := [.blk bp0 (.cells #[S o2.1, I p0.2] 72)]) G G H Kp ⟨G, G⟩
 try dsimp only at h
 obtain rfl := oI h
 refine RG (MV G G ?_)
 refine q0C (A := [.blk bp0 (.cells #[S p0.1, I p0.2] 72)]) (B := []) (H.pick (L' := [.blk bp0 (.cells #[S p0.1, I p0.2] 72)]) Kp) (Y0m hx3) (.left (q0j _)) G trivial (q00 G) ?_
 intro M w H hle
 (repeat (first | refine q0M ?_ | refine q0W ?_ | refine q0S ?_ | refine q0X ?_))
 exact q0T H
theorem Y08 {p0 : (Ls × Int)} {bp0 : Nat} {r : ((List (Ls × Bool) × (Ls × Int)) ⊕ Int)} (h : Y0I p0 = some r) : CtS Tryz.prog 85 [ptr bp0 0] [.blk bp0 (.cells #[S p0.1, I p0.2] 72)] (fun M => True) (fun x => fun v M its => ∃ x0, v = x0 ∧ SlS M 2 xenc136 x0 x.1 ∧ its = [.blk bp0 (.cells #[S x.2.1, I x.2.2] 72)]) (fun n => Value.iface 69 (Value.agg #[I n])) r := by
 refine CtS.of Tryz.func85 (enters Tryz.func85 Kr G) G G G ?_
 intro w0 M0 H hp
 unfold Y0I at h
 refine SQ (RG (AS G G (NL (TN (SQ (RG (AS G G (NL (TN ?_)))))))))
 obtain ⟨o1, e2, h⟩ := bnd h
 refine BL ?_
 replace H := H.newRowS 136 2 xenc136
 refine q0J (fun m e w => ∃ (s3 : Ls) (n4 : Int) (l6 : List (Ls × Bool)) (v7 : Value) (M : Mem), e = [(0, ptr bp0 0), (3, v7)] ∧ StX (feet [.blk bp0 (.cells #[S p0.1, I p0.2] 72)]) w0 M0 M [.blk bp0 (.cells #[S s3, I n4] 72), RowS 136 2 xenc136 v7 l6] w ∧ Y0e  m s3 n4 l6 = some o1) FU [(0, _), (3, _)] ⟨rfl, rfl, trivial⟩ ⟨_, _, _, _, _, rfl, (H.pick (L' := [.blk bp0 (.cells #[S p0.1, I p0.2] 72), RowS 136 2 xenc136 (Value.slice none 0 0) []]) Kp), e2⟩ ?_
 rintro m8 e w ⟨s3, n4, l6, v7, M, rfl, H, e2⟩
 rcases m8 with _ | m8
 · rw [Y0e] at e2; cases e2
 rw [Y0e] at e2
 refine BL (SQ ?_)
 obtain ⟨o13, hx12, e2⟩ := bnd e2
 rcases o13 with ⟨n10, o11⟩ | n14
 ·
  try dsimp only at e2
  refine RG (MV G G ?_)
  refine q0w (A := [.blk bp0 (.cells #[S s3, I n4] 72)]) (B := [RowS 136 2 xenc136 v7 l6]) (H.pick (L' := [.blk bp0 (.cells #[S s3, I n4] 72), RowS 136 2 xenc136 v7 l6]) Kp) (Y0n hx12) (.left (q0j _)) G trivial (q00 G) G ?_
  intro v7 M w its H hle hR
  try dsimp only at hR
  obtain ⟨rfl, rfl⟩ := hR
  simp only [l05, l06] at H
  refine NL (TN (BL (SQ ?_)))
  obtain ⟨⟨w15, b16⟩, hx17, e2⟩ := bnd e2
  try dsimp only at e2
  refine RG (ST (Ex.anyOk Tu136 Tz136 G hx17 G) G (ST (q0e G G) G (ST (q0e G G) G (NL (TN ?_)))))
  refine q0o G (fun hk18 => ?_) (fun hk18 => ?_)
  ·
   subst hk18
   rw [if_pos rfl] at e2
   refine SQ (RG (q0g [_, _] H Tz136 G (q00 G) G ?_))
   intro bk4 w H
   refine q0b [_, _] H G G G Ku Ts136 G Kf Kf (q00 G) ?_
   intro w H
   refine NL (TN (SQ ?_))
   obtain ⟨o22, hx21, e2⟩ := bnd e2
   rcases o22 with ⟨n19, o20⟩ | n23
   ·
    try dsimp only at e2
    refine RG (MV G G ?_)
    refine q0w (A := [.blk bp0 (.cells #[S o11.1, I o11.2] 72)]) (B := [.blk bk4 (.cells #[S w15.1, Value.bool w15.2] 136), RowS 136 2 xenc136 v7 l6]) (H.pick (L' := [.blk bp0 (.cells #[S o11.1, I o11.2] 72), .blk bk4 (.cells #[S w15.1, Value.bool w15.2] 136), RowS 136 2 xenc136 v7 l6]) Kp) (Y0m hx21) (.left (q0j _)) G trivial (q00 G) G ?_
    intro v13 M w its H hle hR
    try dsimp only at hR
    obtain ⟨rfl, rfl⟩ := hR
    simp only [l05, l06] at H
    refine NL (TN ?_)
    obtain ⟨l24, hxl24, e2⟩ := bnd e2
    refine RG (MV G G (ST (q0v H G Km Tryz.isAgg136 Ts136 Kf) G ?_))
    refine q1E (enc := xenc136) xty107 ([(w15.1, w15.2)] : List (Ls × Bool)) H (fun _ => G) G Kr G G G (q00 G) G ?_
    intro v16 M w H hle hs16
    refine q2d (l := l6) xty107 G xone136 H G (fun _ => by repeat first | exact .head | apply Upd.tail) G (hs16) hxl24 (q00 G) G ?_
    intro v17 w H
    refine AS G G (NL (IB (IB ?_)))
    exact AG m8 ⟨_, _, _, _, _, G, (H.pick (L' := [.blk bp0 (.cells #[S o20.1, I o20.2] 72), RowS 136 2 xenc136 v17 l24]) Kp), e2⟩ (l0a _)
   try dsimp only at e2
   obtain rfl := oI e2
   try dsimp only at h
   obtain rfl := oI h
   refine RG (MV G G ?_)
   refine q0C (A := [.blk bp0 (.cells #[S o11.1, I o11.2] 72)]) (B := [.blk bk4 (.cells #[S w15.1, Value.bool w15.2] 136), RowS 136 2 xenc136 v7 l6]) (H.pick (L' := [.blk bp0 (.cells #[S o11.1, I o11.2] 72), .blk bk4 (.cells #[S w15.1, Value.bool w15.2] 136), RowS 136 2 xenc136 v7 l6]) Kp) (Y0m hx21) (.left (q0j _)) G trivial (q00 G) ?_
   intro M w H hle
   (repeat (first | refine q0M ?_ | refine q0W ?_ | refine q0S ?_ | refine q0X ?_))
   exact q0T H
  subst hk18
  rw [if_neg l07] at e2
  refine SQ (RG (AS G G (NL (TN (SQ (RG (MV G G (AS G G (NL (TN (RT ?_)))))))))))
  obtain ⟨M, hle, hs25, H⟩ := H.freezeRowSN (v := v7) (enc := xenc136) (t := 136) Kv (fun _ => rfl) ⟨⟨_, Km⟩, trivial⟩
  obtain rfl := oI e2
  try dsimp only at h
  obtain rfl := oI h
  exact q1n (its := [.blk bp0 (.cells #[S o11.1, I o11.2] 72)]) G G H Kp ⟨_, G, hs25, G⟩
 try dsimp only at e2
 obtain rfl := oI e2
 try dsimp only at h
 obtain rfl := oI h
 refine RG (MV G G ?_)
 refine q0C (A := [.blk bp0 (.cells #[S s3, I n4] 72)]) (B := [RowS 136 2 xenc136 v7 l6]) (H.pick (L' := [.blk bp0 (.cells #[S s3, I n4] 72), RowS 136 2 xenc136 v7 l6]) Kp) (Y0n hx12) (.left (q0j _)) G trivial (q00 G) ?_
 intro M w H hle
 (repeat (first | refine q0M ?_ | refine q0W ?_ | refine q0S ?_ | refine q0X ?_))
 exact q0T H
theorem Y0a {p0 : (Ls × Int)} {p1 : UInt8} {bp0 : Nat} {r : ((Bool × (Ls × Int)) ⊕ Int)} (h : Y0u p0 p1 = some r) : CtS Tryz.prog 48 [ptr bp0 0, encB p1] [.blk bp0 (.cells #[S p0.1, I p0.2] 72)] (fun M => True) (fun x => fun v M its => v = Value.bool x.1 ∧ its = [.blk bp0 (.cells #[S x.2.1, I x.2.2] 72)]) (fun n => Value.iface 69 (Value.agg #[I n])) r := by
 refine CtS.of Tryz.func48 (enters Tryz.func48 Kr G) G G G ?_
 intro w0 M0 H hp
 unfold Y0u at h
 refine SQ (RG (AS G G (NL (TN (SQ (SQ ?_))))))
 obtain ⟨o4, hx3, h⟩ := bnd h
 rcases o4 with ⟨n1, o2⟩ | n5
 ·
  try dsimp only at h
  refine RG (MV G G ?_)
  refine q0w (A := [.blk bp0 (.cells #[S p0.1, I p0.2] 72)]) (B := []) (H.pick (L' := [.blk bp0 (.cells #[S p0.1, I p0.2] 72)]) Kp) (Y0n hx3) (.left (q0j _)) G trivial (q00 G) G ?_
  intro v6 M w its H hle hR
  try dsimp only at hR
  obtain ⟨rfl, rfl⟩ := hR
  simp only [l05, l06] at H
  refine MV G G (ST (Ex.anyS (tw := 136) (c := p1) Kr G) G (ST (Ex.neqAnyS Tu20 Dc Kr Tryz.underlying76 G G) G (NL (TN ?_))))
  refine q0o G (fun hk6 => ?_) (fun hk6 => ?_)
  ·
   replace hk6 : ¬ (n1 = (eltS p1)) := of_not_decide hk6
   rw [if_neg hk6] at h
   refine SQ (RG (AS G G (NL (TN (RT ?_)))))
   obtain rfl := oI h
   exact q1n (its := [.blk bp0 (.cells #[S o2.1, I o2.2] 72)]) G G H Kp ⟨G, G⟩
  replace hk6 : n1 = (eltS p1) := of_not_decide' hk6
  rw [if_pos hk6] at h
  refine SK (TN (SQ ?_))
  obtain ⟨o10, hx9, h⟩ := bnd h
  rcases o10 with ⟨n7, o8⟩ | n11
  ·
   try dsimp only at h
   refine RG (MV G G ?_)
   refine q0w (A := [.blk bp0 (.cells #[S o2.1, I o2.2] 72)]) (B := []) (H.pick (L' := [.blk bp0 (.cells #[S o2.1, I o2.2] 72)]) Kp) (Y0m hx9) (.left (q0j _)) G trivial (q00 G) G ?_
   intro v11 M w its H hle hR
   try dsimp only at hR
   obtain ⟨rfl, rfl⟩ := hR
   simp only [l05, l06] at H
   refine NL (TN (SQ (RG (AS G G (NL (TN (RT ?_)))))))
   obtain rfl := oI h
   exact q1n (its := [.blk bp0 (.cells #[S o8.1, I o8.2] 72)]) G G H Kp ⟨G, G⟩
  try dsimp only at h
  obtain rfl := oI h
  refine RG (MV G G ?_)
  refine q0C (A := [.blk bp0 (.cells #[S o2.1, I o2.2] 72)]) (B := []) (H.pick (L' := [.blk bp0 (.cells #[S o2.1, I o2.2] 72)]) Kp) (Y0m hx9) (.left (q0j _)) G trivial (q00 G) ?_
  intro M w H hle
  (repeat (first | refine q0M ?_ | refine q0W ?_ | refine q0S ?_ | refine q0X ?_))
  exact q0T H
 try dsimp only at h
 obtain rfl := oI h
 refine RG (MV G G ?_)
 refine q0C (A := [.blk bp0 (.cells #[S p0.1, I p0.2] 72)]) (B := []) (H.pick (L' := [.blk bp0 (.cells #[S p0.1, I p0.2] 72)]) Kp) (Y0n hx3) (.left (q0j _)) G trivial (q00 G) ?_
 intro M w H hle
 (repeat (first | refine q0M ?_ | refine q0W ?_ | refine q0S ?_ | refine q0X ?_))
 exact q0T H
theorem Y0K {p0 : (Ls × Int)} {p1 : UInt8} {bp0 : Nat} {r : ((Ls × Int) ⊕ Int)} (h : Y0S p0 p1 = some r) : CtS Tryz.prog 88 [ptr bp0 0, encB p1] [.blk bp0 (.cells #[S p0.1, I p0.2] 72)] (fun M => True) (fun x => fun v M its => v = Value.tuple #[] ∧ its = [.blk bp0 (.cells #[S x.1, I x.2] 72)]) (fun n => Value.iface 69 (Value.agg #[I n])) r := by
 refine CtS.of Tryz.func88 (enters Tryz.func88 Kr G) G G G ?_
 intro w0 M0 H hp
 unfold Y0S at h
 refine SQ ?_
 obtain ⟨o4, hx3, h⟩ := bnd h
 rcases o4 with ⟨b1, o2⟩ | n5
 ·
  try dsimp only at h
  refine RG (MV G G (MV G G ?_))
  refine q0w (A := [.blk bp0 (.cells #[S p0.1, I p0.2] 72)]) (B := []) (H.pick (L' := [.blk bp0 (.cells #[S p0.1, I p0.2] 72)]) Kp) (Y0a hx3) (.left (q0j _)) G trivial (q00 G) G ?_
  intro v6 M w its H hle hR
  try dsimp only at hR
  obtain ⟨rfl, rfl⟩ := hR
  simp only [l05, l06] at H
  refine ST (q0R G) G (NL (TN ?_))
  refine q0o G (fun hk6 => ?_) (fun hk6 => ?_)
  ·
   replace hk6 : b1 = false := by simpa using hk6
   subst hk6
   rw [if_neg l07] at h
   obtain ⟨o9, hx8, h⟩ := bnd h
   rcases o9 with o7 | n10
   ·
    try dsimp only at h
    refine RG (MV G G ?_)
    refine q0w (A := [.blk bp0 (.cells #[S o2.1, I o2.2] 72)]) (B := []) (H.pick (L' := [.blk bp0 (.cells #[S o2.1, I o2.2] 72)]) Kp) (Y03 hx8) (.left (q0j _)) G trivial (q00 G) G ?_
    intro v9 M w its H hle hR
    try dsimp only at hR
    obtain ⟨rfl, rfl⟩ := hR
    simp only [l05, l06] at H
    refine NL ?_
    obtain rfl := oI h
    exact WQ.endX0 (its := [.blk bp0 (.cells #[S o7.1, I o7.2] 72)]) G H Kp ⟨G, G⟩
   try dsimp only at h
   obtain rfl := oI h
   refine RG (MV G G ?_)
   refine q0C (A := [.blk bp0 (.cells #[S o2.1, I o2.2] 72)]) (B := []) (H.pick (L' := [.blk bp0 (.cells #[S o2.1, I o2.2] 72)]) Kp) (Y03 hx8) (.left (q0j _)) G trivial (q00 G) ?_
   intro M w H hle
   (repeat (first | refine q0M ?_ | refine q0W ?_ | refine q0S ?_ | refine q0X ?_))
   exact q0T H
  replace hk6 : b1 = true := by simpa using hk6
  subst hk6
  rw [if_pos rfl] at h
  refine SK ?_
  obtain rfl := oI h
  exact WQ.endX0 (its := [.blk bp0 (.cells #[S o2.1, I o2.2] 72)]) G H Kp ⟨G, G⟩
 try dsimp only at h
 obtain rfl := oI h
 refine RG (MV G G (MV G G ?_))
 refine q0C (A := [.blk bp0 (.cells #[S p0.1, I p0.2] 72)]) (B := []) (H.pick (L' := [.blk bp0 (.cells #[S p0.1, I p0.2] 72)]) Kp) (Y0a hx3) (.left (q0j _)) G trivial (q00 G) ?_
 intro M w H hle
 (repeat (first | refine q0M ?_ | refine q0W ?_ | refine q0S ?_ | refine q0X ?_))
 exact q0T H
theorem Y15 {p0 : (Ls × Int)} {p1 : List (Ls × Bool)} {bp0 : Nat} {vp1 : Value} {r : (((Ls × Ls × Ls) × (Ls × Int)) ⊕ Int)} (h : Y0H p0 p1 = some r) : CtS Tryz.prog 123 [ptr bp0 0, vp1] [.blk bp0 (.cells #[S p0.1, I p0.2] 72)] (fun M => GlF (fun w => ∃ m, w.cell? ⟨2, 0, none⟩ = some (.int .i64 m)) M ∧ Tabs M ∧ SlS M 2 xenc136 vp1 p1) (fun x => fun v M its => v = Value.agg #[S x.1.1, S x.1.2.1, S x.1.2.2] ∧ its = [.blk bp0 (.cells #[S x.2.1, I x.2.2] 72)]) (fun n => Value.iface 69 (Value.agg #[I n])) r := by
 refine CtS.of Tryz.func123 (enters Tryz.func123 Kr G) G G G ?_
 intro w0 M0 H hp
 obtain ⟨gM, gT, hp1⟩ := hp
 unfold Y0H at h
 refine SQ (RG (q0g [_, _, _] H Tz24 G (q00 G) G ?_))
 intro bk4 w H
 refine NL (TN (SQ (SQ ?_)))
 obtain ⟨o1, e2, h⟩ := bnd h
 refine q0l (fun e w => ∃ (b3 : Bool) (M : Mem), e = [(0, ptr bp0 0), (1, vp1), (4, ptr bk4 0), (32, Value.bool b3)] ∧ StX (feet [.blk bp0 (.cells #[S p0.1, I p0.2] 72)]) w0 M0 M [.blk bp0 (.cells #[S p0.1, I p0.2] 72), .blk bk4 (.cells #[S [], S [], S []] 24)] w ∧ GlF (fun w => ∃ m, w.cell? ⟨2, 0, none⟩ = some (.int .i64 m)) M ∧ Tabs M ∧ SlS M 2 xenc136 vp1 p1 ∧ some b3 = some o1) [] ?_ ?_ (trivial)
 ·
  refine RG (MV G G (ST (q1k Tu107 hp1 G) G ?_))
  by_cases hk4 : (p1.length : Int) = (1 : Int)
  ·
   rw [if_pos hk4] at e2
   obtain ⟨a5, hxa5, e2⟩ := bnd e2
   obtain ⟨bk12, o12, ha12, hc12⟩ := hp1.atC hxa5
   obtain ⟨b6, hx7, e2⟩ := bnd e2
   rcases b6 with _ | _
   ·
    rw [if_neg l07] at e2
    refine q09 (v' := .bool false) (q1v G G) (congrArg Value.bool (by rw [decide_eq_true hk4]; rfl)) (q00 G) G G ?_
    refine MV G G (SG (q02 G) G G G (SG (q0t ha12 Tu107 Ts136 G G) G G G (SG (q03 Tu136 G Ts9 Dc G) G G G (SG (q08 H G (hc12.at (j := 0) G) Ta9) G G G (q05 H (Y2y hx7) G trivial (q04 G G G) G ?_)))))
    intro v15 M w H hle hR
    replace gM := gM.mono hle
    replace gT := gT.mono hle
    replace hp1 := hp1.mono hle
    replace hc12 := hc12.mono hle
    obtain rfl := hR
    refine SG (q0R G) G G G (PF G G G (MV G G (q0i 13 G G (PT G G G (NL ?_)))))
    exact MN ⟨_, _, G, (H.pick (L' := [.blk bp0 (.cells #[S p0.1, I p0.2] 72), .blk bk4 (.cells #[S [], S [], S []] 24)]) Kp), gM, gT, hp1, e2⟩
   rw [if_pos rfl] at e2
   obtain ⟨a8, hxa8, e2⟩ := bnd e2
   obtain ⟨bk20, o20, ha20, hc20⟩ := hp1.atC hxa8
   by_cases hk9 : a8.2 = true
   ·
    rw [if_pos hk9] at e2
    refine q09 (v' := .bool false) (q1v G G) (congrArg Value.bool (by rw [decide_eq_true hk4]; rfl)) (q00 G) G G ?_
    refine MV G G (SG (q02 G) G G G (SG (q0t ha12 Tu107 Ts136 G G) G G G (SG (q03 Tu136 G Ts9 Dc G) G G G (SG (q08 H G (hc12.at (j := 0) G) Ta9) G G G (q05 H (Y2y hx7) G trivial (q04 G G G) G ?_)))))
    intro v15 M w H hle hR
    replace gM := gM.mono hle
    replace gT := gT.mono hle
    replace hp1 := hp1.mono hle
    replace hc12 := hc12.mono hle
    replace hc20 := hc20.mono hle
    obtain rfl := hR
    refine SG (q0R G) G G G (PF G G G (MV G G (SG (q02 G) G G G (SG (q0t ha20 Tu107 Ts136 G G) G G G (SG (q03 Tu136 G Ts4 Dc G) G G G (SG (q08 H G (hc20.at (j := 1) G) Ta4) G G G (q09 (v' := .bool false) (q0R G) (congrArg Value.bool (by rw [hk9]; rfl)) (q04 G G G) G G ?_)))))))
    refine SG (q02 G) G G G (q0i 6 G G (SG (q0r G G) G G G (PF G G G (NL ?_))))
    exact MN ⟨_, _, G, (H.pick (L' := [.blk bp0 (.cells #[S p0.1, I p0.2] 72), .blk bk4 (.cells #[S [], S [], S []] 24)]) Kp), gM, gT, hp1, e2⟩
   rw [if_neg hk9] at e2
   obtain ⟨a10, hxa10, e2⟩ := bnd e2
   obtain ⟨bk26, o26, ha26, hc26⟩ := hp1.atC hxa10
   obtain ⟨b11, hx12, e2⟩ := bnd e2
   refine q09 (v' := .bool false) (q1v G G) (congrArg Value.bool (by rw [decide_eq_true hk4]; rfl)) (q00 G) G G ?_
   refine MV G G (SG (q02 G) G G G (SG (q0t ha12 Tu107 Ts136 G G) G G G (SG (q03 Tu136 G Ts9 Dc G) G G G (SG (q08 H G (hc12.at (j := 0) G) Ta9) G G G (q05 H (Y2y hx7) G trivial (q04 G G G) G ?_)))))
   intro v15 M w H hle hR
   replace gM := gM.mono hle
   replace gT := gT.mono hle
   replace hp1 := hp1.mono hle
   replace hc12 := hc12.mono hle
   replace hc20 := hc20.mono hle
   replace hc26 := hc26.mono hle
   obtain rfl := hR
   refine SG (q0R G) G G G (PF G G G (MV G G (SG (q02 G) G G G (SG (q0t ha20 Tu107 Ts136 G G) G G G (SG (q03 Tu136 G Ts4 Dc G) G G G (SG (q08 H G (hc20.at (j := 1) G) Ta4) G G G (q09 (v' := .bool true) (q0R G) (congrArg Value.bool (by rw [(l1e hk9)]; rfl)) (q04 G G G) G G ?_)))))))
   refine SG (q02 G) G G G (SG (q02 G) G G G (SG (q0t ha26 Tu107 Ts136 G G) G G G (SG (q03 Tu136 G Ts9 Dc G) G G G (SG (q08 H G (hc26.at (j := 0) G) Ta9) G G G (q05 H (Y3G hx12) G ⟨gM, gT⟩ (q04 G G G) G ?_)))))
   intro v29 M w H hle hR
   replace gM := gM.mono hle
   replace gT := gT.mono hle
   replace hp1 := hp1.mono hle
   replace hc12 := hc12.mono hle
   replace hc20 := hc20.mono hle
   replace hc26 := hc26.mono hle
   obtain rfl := hR
   refine SG (q0R G) G G G (SG (q0q G G) G G G (PF G G G (NL ?_)))
   exact MN ⟨_, _, G, (H.pick (L' := [.blk bp0 (.cells #[S p0.1, I p0.2] 72), .blk bk4 (.cells #[S [], S [], S []] 24)]) Kp), gM, gT, hp1, e2⟩
  rw [if_neg hk4] at e2
  refine q09 (v' := .bool true) (q1v G G) (congrArg Value.bool (by rw [decide_eq_false hk4]; rfl)) (q00 G) G G ?_
  refine MV G G (q0i 6 G G (PT G G G (MV G G (q0i 13 G G (PT G G G (NL ?_))))))
  exact MN ⟨_, _, G, (H.pick (L' := [.blk bp0 (.cells #[S p0.1, I p0.2] 72), .blk bk4 (.cells #[S [], S [], S []] 24)]) Kp), gM, gT, hp1, e2⟩
 rintro e w ⟨b3, M, rfl, H, gM, gT, hp1, q13⟩
 obtain rfl := oI q13
 refine TN ?_
 obtain ⟨o14, e15, h⟩ := bnd h
 refine q0l (fun e w => ∃ (s16 : Ls) (n17 : Int) (M : Mem), e = [(0, ptr bp0 0), (1, vp1), (4, ptr bk4 0)] ∧ StX (feet [.blk bp0 (.cells #[S p0.1, I p0.2] 72)]) w0 M0 M [.blk bp0 (.cells #[S s16, I n17] 72), .blk bk4 (.cells #[S [], S [], S []] 24)] w ∧ GlF (fun w => ∃ m, w.cell? ⟨2, 0, none⟩ = some (.int .i64 m)) M ∧ Tabs M ∧ SlS M 2 xenc136 vp1 p1 ∧ some (.inl (s16, n17)) = some o14) [] ?_ ?_ (trivial)
 ·
  refine q0o G (fun hk18 => ?_) (fun hk18 => ?_)
  ·
   subst hk18
   rw [if_pos rfl] at e15
   obtain ⟨o21, hx20, e15⟩ := bnd e15
   rcases o21 with o19 | n22
   ·
    try dsimp only at e15
    refine RG (MV G G ?_)
    refine q0w (A := [.blk bp0 (.cells #[S p0.1, I p0.2] 72)]) (B := [.blk bk4 (.cells #[S [], S [], S []] 24)]) (H.pick (L' := [.blk bp0 (.cells #[S p0.1, I p0.2] 72), .blk bk4 (.cells #[S [], S [], S []] 24)]) Kp) (Y03 hx20) (.left (q0j _)) G trivial (q00 G) G ?_
    intro v34 M w its H hle hR
    replace gM := gM.mono hle
    replace gT := gT.mono hle
    replace hp1 := hp1.mono hle
    try dsimp only at hR
    obtain ⟨rfl, rfl⟩ := hR
    simp only [l05, l06] at H
    refine NL ?_
    exact MN ⟨_, _, _, G, H, gM, gT, hp1, e15⟩
   try dsimp only at e15
   obtain rfl := oI e15
   try dsimp only at h
   obtain rfl := oI h
   refine RG (MV G G ?_)
   refine q0C (A := [.blk bp0 (.cells #[S p0.1, I p0.2] 72)]) (B := [.blk bk4 (.cells #[S [], S [], S []] 24)]) (H.pick (L' := [.blk bp0 (.cells #[S p0.1, I p0.2] 72), .blk bk4 (.cells #[S [], S [], S []] 24)]) Kp) (Y03 hx20) (.left (q0j _)) G trivial (q00 G) ?_
   intro M w H hle
   (repeat (first | refine q0M ?_ | refine q0W ?_ | refine q0S ?_ | refine q0X ?_))
   exact q0T H
  subst hk18
  rw [if_neg l07] at e15
  refine SK ?_
  exact MN ⟨_, _, _, G, H, gM, gT, hp1, e15⟩
 rintro e w ⟨s16, n17, M, rfl, H, gM, gT, hp1, q23⟩
 obtain rfl := oI q23
 try dsimp only at h
 refine TN (SQ ?_)
 obtain ⟨o26, hx25, h⟩ := bnd h
 rcases o26 with o24 | n27
 ·
  try dsimp only at h
  refine RG (MV G G ?_)
  refine q0w (A := [.blk bp0 (.cells #[S s16, I n17] 72)]) (B := [.blk bk4 (.cells #[S [], S [], S []] 24)]) (H.pick (L' := [.blk bp0 (.cells #[S s16, I n17] 72), .blk bk4 (.cells #[S [], S [], S []] 24)]) Kp) (Y0K hx25) (.left (q0j _)) G trivial (q00 G) G ?_
  intro v36 M w its H hle hR
  replace gM := gM.mono hle
  replace gT := gT.mono hle
  replace hp1 := hp1.mono hle
  try dsimp only at hR
  obtain ⟨rfl, rfl⟩ := hR
  simp only [l05, l06] at H
  refine NL (TN (SQ ?_))
  obtain ⟨o31, hx30, h⟩ := bnd h
  rcases o31 with ⟨n28, o29⟩ | n32
  ·
   try dsimp only at h
   obtain ⟨⟨w33, b34⟩, hx35, h⟩ := bnd h
   try dsimp only at h
   refine RG (MV G G ?_)
   refine q0w (A := [.blk bp0 (.cells #[S o24.1, I o24.2] 72)]) (B := [.blk bk4 (.cells #[S [], S [], S []] 24)]) (H.pick (L' := [.blk bp0 (.cells #[S o24.1, I o24.2] 72), .blk bk4 (.cells #[S [], S [], S []] 24)]) Kp) (Y0m hx30) (.left (q0j _)) G trivial (q00 G) G ?_
   intro v39 M w its H hle hR
   replace gM := gM.mono hle
   replace gT := gT.mono hle
   replace hp1 := hp1.mono hle
   try dsimp only at hR
   obtain ⟨rfl, rfl⟩ := hR
   simp only [l05, l06] at H
   refine ST (Ex.anyOk Tu136 Tz136 G hx35 G) G (MV G G (ST (q0e G G) G (ST (q0e G G) G (q0g [_, _] H Tz136 G (q00 G) G ?_))))
   intro bk5 w H
   refine q0b [_, _] H G G G Ku Ts136 G Kf Kf (q00 G) ?_
   intro w H
   refine AS G G (NL (TN (SQ (SQ ?_))))
   obtain ⟨o36, e37, h⟩ := bnd h
   refine q0l (fun e w => ∃ (b38 : Bool) (M : Mem), e = [(0, ptr bp0 0), (1, vp1), (4, ptr bk4 0), (5, ptr bk5 0), (54, Value.bool b38)] ∧ StX (feet [.blk bp0 (.cells #[S p0.1, I p0.2] 72)]) w0 M0 M [.blk bp0 (.cells #[S o29.1, I o29.2] 72), .blk bk4 (.cells #[S [], S [], S []] 24), .blk bk5 (.cells #[S w33.1, Value.bool w33.2] 136)] w ∧ GlF (fun w => ∃ m, w.cell? ⟨2, 0, none⟩ = some (.int .i64 m)) M ∧ Tabs M ∧ SlS M 2 xenc136 vp1 p1 ∧ some b38 = some o36) [] ?_ ?_ (trivial)
   ·
    refine RG (MV G G (ST (q0R G) G (MV G G ?_)))
    rcases b34 with _ | _
    ·
     rw [if_neg l07] at e37
     refine GT G G G (GT G G G (PT G G G (MV G G (q0i 4 G G (PT G G G (NL ?_))))))
     exact MN ⟨_, _, G, (H.pick (L' := [.blk bp0 (.cells #[S o29.1, I o29.2] 72), .blk bk4 (.cells #[S [], S [], S []] 24), .blk bk5 (.cells #[S w33.1, Value.bool w33.2] 136)]) Kp), gM, gT, hp1, e37⟩
    rw [if_pos rfl] at e37
    by_cases hk39 : w33.2 = true
    ·
     rw [if_pos hk39] at e37
     refine SG (q03 Tu136 G Ts4 Dc G) G G G (q09 (v' := .bool true) (XL H Ta4) (congrArg Value.bool hk39) (q04 G G G) G G ?_)
     refine PF G G G (MV G G (q0i 4 G G (PT G G G (NL ?_))))
     exact MN ⟨_, _, G, (H.pick (L' := [.blk bp0 (.cells #[S o29.1, I o29.2] 72), .blk bk4 (.cells #[S [], S [], S []] 24), .blk bk5 (.cells #[S w33.1, Value.bool w33.2] 136)]) Kp), gM, gT, hp1, e37⟩
    rw [if_neg hk39] at e37
    obtain ⟨b40, hx41, e37⟩ := bnd e37
    refine SG (q03 Tu136 G Ts4 Dc G) G G G (q09 (v' := .bool false) (XL H Ta4) (congrArg Value.bool (l1e hk39)) (q04 G G G) G G ?_)
    refine PF G G G (MV G G (SG (q03 Tu136 G Ts9 Dc G) G G G (SG (XL H Ta9) G G G ?_)))
    refine q05 H (Y3F hx41) G ⟨gM, gT⟩ (q04 G G G) G ?_
    intro v52 M w H hle hR
    replace gM := gM.mono hle
    replace gT := gT.mono hle
    replace hp1 := hp1.mono hle
    obtain rfl := hR
    refine SG (q0R G) G G G (PF G G G (NL ?_))
    exact MN ⟨_, _, G, (H.pick (L' := [.blk bp0 (.cells #[S o29.1, I o29.2] 72), .blk bk4 (.cells #[S [], S [], S []] 24), .blk bk5 (.cells #[S w33.1, Value.bool w33.2] 136)]) Kp), gM, gT, hp1, e37⟩
   rintro e w ⟨b38, M, rfl, H, gM, gT, hp1, q42⟩
   obtain rfl := oI q42
   refine TN ?_
   obtain ⟨o43, e44, h⟩ := bnd h
   refine q0l (fun e w => ∃ (s45 : Ls) (n46 : Int) (M : Mem), e = [(1, vp1), (4, ptr bk4 0), (5, ptr bk5 0)] ∧ StX (feet [.blk bp0 (.cells #[S p0.1, I p0.2] 72)]) w0 M0 M [.blk bk4 (.cells #[S [], S [], S []] 24), .blk bk5 (.cells #[S w33.1, Value.bool w33.2] 136), .blk bp0 (.cells #[S s45, I n46] 72)] w ∧ GlF (fun w => ∃ m, w.cell? ⟨2, 0, none⟩ = some (.int .i64 m)) M ∧ Tabs M ∧ SlS M 2 xenc136 vp1 p1 ∧ some (.inl (s45, n46)) = some o43) [] ?_ ?_ (trivial)
   ·
    refine q0o G (fun hk47 => ?_) (fun hk47 => ?_)
    ·
     subst hk47
     rw [if_pos rfl] at e44
     obtain ⟨o50, hx49, e44⟩ := bnd e44
     rcases o50 with o48 | n51
     ·
      try dsimp only at e44
      refine RG (MV G G ?_)
      refine q0w (A := [.blk bp0 (.cells #[S o29.1, I o29.2] 72)]) (B := [.blk bk4 (.cells #[S [], S [], S []] 24), .blk bk5 (.cells #[S w33.1, Value.bool w33.2] 136)]) (H.pick (L' := [.blk bp0 (.cells #[S o29.1, I o29.2] 72), .blk bk4 (.cells #[S [], S [], S []] 24), .blk bk5 (.cells #[S w33.1, Value.bool w33.2] 136)]) Kp) (Y03 hx49) (.left (q0j _)) G trivial (q00 G) G ?_
      intro v56 M w its H hle hR
      replace gM := gM.mono hle
      replace gT := gT.mono hle
      replace hp1 := hp1.mono hle
      try dsimp only at hR
      obtain ⟨rfl, rfl⟩ := hR
      simp only [l05, l06] at H
      refine NL ?_
      exact MN ⟨_, _, _, G, (H.pick (L' := [.blk bk4 (.cells #[S [], S [], S []] 24), .blk bk5 (.cells #[S w33.1, Value.bool w33.2] 136), .blk bp0 (.cells #[S o48.1, I o48.2] 72)]) Kp), gM, gT, hp1, e44⟩
     try dsimp only at e44
     obtain rfl := oI e44
     try dsimp only at h
     obtain rfl := oI h
     refine RG (MV G G ?_)
     refine q0C (A := [.blk bp0 (.cells #[S o29.1, I o29.2] 72)]) (B := [.blk bk4 (.cells #[S [], S [], S []] 24), .blk bk5 (.cells #[S w33.1, Value.bool w33.2] 136)]) (H.pick (L' := [.blk bp0 (.cells #[S o29.1, I o29.2] 72), .blk bk4 (.cells #[S [], S [], S []] 24), .blk bk5 (.cells #[S w33.1, Value.bool w33.2] 136)]) Kp) (Y03 hx49) (.left (q0j _)) G trivial (q00 G) ?_
     intro M w H hle
     (repeat (first | refine q0M ?_ | refine q0W ?_ | refine q0S ?_ | refine q0X ?_))
     exact q0T H
    subst hk47
    rw [if_neg l07] at e44
    refine SK ?_
    exact MN ⟨_, _, _, G, (H.pick (L' := [.blk bk4 (.cells #[S [], S [], S []] 24), .blk bk5 (.cells #[S w33.1, Value.bool w33.2] 136), .blk bp0 (.cells #[S o29.1, I o29.2] 72)]) Kp), gM, gT, hp1, e44⟩
   rintro e w ⟨s45, n46, M, rfl, H, gM, gT, hp1, q52⟩
   obtain rfl := oI q52
   try dsimp only at h
   refine TN (SQ ?_)
   obtain ⟨a53, hxa53, h⟩ := bnd h
   obtain ⟨bk58, o58, ha58, hc58⟩ := hp1.atC hxa53
   refine q0F (m := 8) G G H ?_
   intro w H
   refine TK 0 G (fun _ => q02 G) G (TK 1 G (fun _ => q0t ha58 Tu107 Ts136 G G) G (TK 2 G (fun _ => q03 Tu136 G Ts9 Dc G) G (TK 4 G (fun _ => q03 Tu136 G Ts9 Dc G) G (q1c (i := 3) [5] G Kr Kr Kr (q08 H G (hc58.at (j := 0) G) Ta9) (q00 G) G G (fun _ _ => G) (q0s (fuel := 0) [5, 6, 7] G Kr (ST (XL H Ta9) G ?_))))))
   refine ST (q0L [S [], S a53.1, S w33.1] Tu24 Tz24 (xplaces24 Tu24) G G) G (q0b [_, _, _] H G G G Ku Ts24 G Kf Kf (q00 G) ?_)
   intro w H
   refine NA (q0h Kr (TN (RT ?_)))
   obtain rfl := oI h
   exact q1n (its := [.blk bp0 (.cells #[S s45, I n46] 72)]) G ⟨_, G, H.loadAgg Km Ta24 Ts24 Kf⟩ H Kp ⟨G, G⟩
  try dsimp only at h
  obtain rfl := oI h
  refine RG (MV G G ?_)
  refine q0C (A := [.blk bp0 (.cells #[S o24.1, I o24.2] 72)]) (B := [.blk bk4 (.cells #[S [], S [], S []] 24)]) (H.pick (L' := [.blk bp0 (.cells #[S o24.1, I o24.2] 72), .blk bk4 (.cells #[S [], S [], S []] 24)]) Kp) (Y0m hx30) (.left (q0j _)) G trivial (q00 G) ?_
  intro M w H hle
  (repeat (first | refine q0M ?_ | refine q0W ?_ | refine q0S ?_ | refine q0X ?_))
  exact q0T H
 try dsimp only at h
 obtain rfl := oI h
 refine RG (MV G G ?_)
 refine q0C (A := [.blk bp0 (.cells #[S s16, I n17] 72)]) (B := [.blk bk4 (.cells #[S [], S [], S []] 24)]) (H.pick (L' := [.blk bp0 (.cells #[S s16, I n17] 72), .blk bk4 (.cells #[S [], S [], S []] 24)]) Kp) (Y0K hx25) (.left (q0j _)) G trivial (q00 G) ?_
 intro M w H hle
 (repeat (first | refine q0M ?_ | refine q0W ?_ | refine q0S ?_ | refine q0X ?_))
 exact q0T H
theorem Y4J {p0 : Ls} {r : (Ls × Int × Bool)} (h : Y4c p0 = some r) : Ct Tryz.prog 156 [S p0] (fun M => GlF (fun w => ∃ m, w.cell? ⟨2, 0, none⟩ = some (.int .i64 m)) M) (fun v M => v = Value.tuple #[S r.1, I r.2.1, Value.bool r.2.2]) := by
 refine Ct.of Tryz.func156 (enters Tryz.func156 Kr G) G G G ?_
 intro w0 M0 H hp
 have gM := hp
 unfold Y4c at h
 refine SQ (RG (AS G G (AS G G (AS G G (NL (TN (SQ (SQ ?_))))))))
 obtain ⟨b1, hx2, h⟩ := bnd h
 refine RG (MV G G (q05 H (Y2s hx2) G trivial (q00 G) G ?_))
 intro v11 M w H hle hR
 replace gM := gM.mono hle
 obtain rfl := hR
 refine ST (q0R G) G (NL (TN ?_))
 refine q0o G (fun hk3 => ?_) (fun hk3 => ?_)
 ·
  replace hk3 : b1 = false := by simpa using hk3
  subst hk3
  rw [if_neg l07] at h
  refine SQ (RG (AS G G (AS G G (AS G G (NL (TN (RT ?_)))))))
  obtain rfl := oI h
  exact WQ.ret3 G G G G H.ext G
 replace hk3 : b1 = true := by simpa using hk3
 subst hk3
 rw [if_pos rfl] at h
 refine SK (TN (SQ ?_))
 obtain ⟨s4, hxs4, h⟩ := bnd h
 obtain ⟨l5, hx6, h⟩ := bnd h
 refine RG (MV G G (MV G G (ST (q0k Tu9 G) G (ST (Ex.min2 G G) G (ST (Ex.sliceC Tu9 G G G hxs4) G (q05 H (Y4q hx6) G (gM) (q00 G) G ?_))))))
 intro v18 M w H hle hR
 replace gM := gM.mono hle
 have f18_0 := hR
 refine AS G G (NL (TN (SQ (SQ ?_))))
 obtain ⟨o7, e8, h⟩ := bnd h
 refine q0l (fun e w => ∃ (b9 : Bool) (M : Mem), e = [(5, v18), (28, Value.bool b9)] ∧ St w0 M0 M [] w ∧ GlF (fun w => ∃ m, w.cell? ⟨2, 0, none⟩ = some (.int .i64 m)) M ∧ Sl M encS v18 l5 ∧ some b9 = some o7) [] ?_ ?_ (trivial)
 ·
  refine RG (MV G G (ST (q0A Tu55 f18_0 G) G ?_))
  by_cases hk10 : (l5.length : Int) < (4 : Int)
  ·
   rw [if_pos hk10] at e8
   refine DT hk10 (q0n G G) G (MV G G (q0i 5 G G (PT G G G (NL ?_))))
   exact MN ⟨_, _, G, H, gM, f18_0, e8⟩
  rw [if_neg hk10] at e8
  obtain ⟨a11, hxa11, e8⟩ := bnd e8
  obtain ⟨bk24, o24, ha24, hc24⟩ := f18_0.atC hxa11
  obtain ⟨b12, hx13, e8⟩ := bnd e8
  refine DF hk10 (q0n G G) G (MV G G (SG (q02 G) G G G (SG (q0t ha24 Tu55 Ts9 G G) G G G (SG (q08 H G hc24 Ta9) G G G (q05 H (Y2s hx13) G trivial (q04 G G G) G ?_)))))
  intro v26 M w H hle hR
  replace gM := gM.mono hle
  replace f18_0 := f18_0.mono hle
  replace hc24 := hc24.mono hle
  obtain rfl := hR
  refine SG (q0R G) G G G (PF G G G (NL ?_))
  exact MN ⟨_, _, G, H, gM, f18_0, e8⟩
 rintro e w ⟨b9, M, rfl, H, gM, f18_0, q14⟩
 obtain rfl := oI q14
 refine TN ?_
 refine q0o G (fun hk15 => ?_) (fun hk15 => ?_)
 ·
  subst hk15
  rw [if_pos rfl] at h
  refine SQ (RG (AS G G (AS G G (AS G G (NL (TN (RT ?_)))))))
  obtain rfl := oI h
  exact WQ.ret3 G G G G H.ext G
 subst hk15
 rw [if_neg l07] at h
 cases h
theorem Y1k {p0 : Ls} {p1 : Ls} {bp0 : Nat} {pp0 : Value} {vp0 : Value} {r : (Int × Bool × Ls)} (h : Y04 p0 p1 = some r) : CtX Tryz.prog 75 [ptr bp0 0, S p1] [.blk bp0 (.cells #[pp0, vp0] 96), RowI 5 encB vp0 p0] (fun M => BPM M bp0 pp0) (fun v M its => ∃ x1 qp0 up0, v = Value.tuple #[I r.1, x1] ∧ NilB M x1 r.2.1 ∧ BPM M bp0 qp0 ∧ its = [.blk bp0 (.cells #[qp0, up0] 96), RowI 5 encB up0 r.2.2]) := by
 refine CtX.of Tf75 (enters Tf75 Kr G) G G G ?_
 intro w0 M0 H hp
 have hp0 := hp
 unfold Y04 at h
 refine SQ (RG (AS G G (AS G G (NL (TN (SQ (RG (MV G G ?_))))))))
 refine q0w (A := [.blk bp0 (.cells #[pp0, vp0] 96)]) (B := [RowI 5 encB vp0 p0]) (H.pick (L' := [.blk bp0 (.cells #[pp0, vp0] 96), RowI 5 encB vp0 p0]) Kp) (copyCheck_ct hp0) (.left (q0j _)) G trivial (q00 G) G ?_
 intro v7 M w its H hle hR
 replace hp0 := hp0.mono hle
 obtain ⟨rfl, rfl⟩ := hR
 simp only [l05, l06] at H
 refine NL (TN (SQ ?_))
 obtain ⟨l2, hxl2, h⟩ := bnd h
 refine RG (MV G G (MV G G (FN G G Tu96 G Ts88 G G (ST (XL H Ta88) G ?_))))
 refine MV G G (WR.appStrC (l := p0) xty88 Tu9 H G (fun _ => by repeat first | exact .head | apply Upd.tail) G hxl2 (q00 G) G ?_)
 intro v14 w H
 refine FN G G Tu96 G Ts88 G G (q0O [_, _] H G G (H.rowOne Km) Ku Kf Ts88 (by first | decide | (simp; done) | (simp; omega)) (q00 G) ?_)
 intro w H
 refine NL (TN (SQ (RG (MV G G (ST (q0k Tu9 G) G (AS G G (AS G G (NL (TN (RT ?_))))))))))
 obtain rfl := oI h
 exact WQ.retX2 (its := [.blk bp0 (.cells #[(ptr bp0 0), v14] 96), RowI 5 encB v14 l2]) G G G H Kp ⟨_, _, _, G, (.inl ⟨G, G⟩), BPM.self, G⟩
theorem Y4v {p0 : Ls} {r : (Ls × (Int × Int))} (h : Y3L p0 = some r) : Ct Tryz.prog 125 [S p0] (fun M => GlF (fun w => ∃ m, w.cell? ⟨2, 0, none⟩ = some (.int .i64 m)) M) (fun v M => v = Value.tuple #[S r.1, Value.agg #[I r.2.1, I r.2.2]]) := by
 refine Ct.of Tryz.func125 (enters Tryz.func125 Kr G) G G G ?_
 intro w0 M0 H hp
 have gM := hp
 unfold Y3L at h
 refine SQ (RG (AS G G (q0g [_, _] H Tz27 G (q00 G) G ?_)))
 intro bk3 w H
 refine NL (TN (SQ (SQ (RG (MV G G (ST (q0k Tu9 G) G (ST (q0K G G) G (NL (TN ?_)))))))))
 refine CB (p := (4000 : Int) < (p0.length : Int)) G (fun hk1 => ?_) fun hk1 => ?_
 ·
  rw [if_pos hk1] at h
  refine SQ ?_
  obtain ⟨⟨n2, n3⟩, hx4, h⟩ := bnd h
  try dsimp only at h
  refine RG (q05 H (Y0E hx4) G trivial (q00 G) G ?_)
  intro v13 M w H hle hR
  replace gM := gM.mono hle
  try dsimp only at hR
  obtain rfl := hR
  refine AS G G (q0b [_, _] H G G G Ku Ts27 G Kf Kf (q00 G) ?_)
  intro w H
  refine NL (TN (RT ?_))
  obtain rfl := oI h
  exact q0H G G ⟨_, G, H.loadAgg Km Ta27 Ts27 Kf⟩ H.ext G
 rw [if_neg hk1] at h
 refine SK (TN (SQ (RG (q0g [_, _] H Tz96 G (q00 G) G ?_))))
 intro bk4 w H
 refine NL (TN (SQ (RG (AS G G (NL (TN (SQ (SQ (RG (AS G G (NL (TN ?_))))))))))))
 obtain ⟨o5, e6, h⟩ := bnd h
 refine q0l (fun e w => ∃ (v7 : Value) (l10 : Ls) (v11 : Value) (n12 : Int) (M : Mem), e = [(0, S p0), (3, ptr bk3 0), (4, ptr bk4 0), (5, I n12)] ∧ St w0 M0 M [.blk bk3 (.cells #[I 0, I 0] 27), .blk bk4 (.cells #[v7, v11] 96), RowI 5 encB v11 l10] w ∧ GlF (fun w => ∃ m, w.cell? ⟨2, 0, none⟩ = some (.int .i64 m)) M ∧ BPM M bk4 v7 ∧ some (l10, n12) = some o5) [] ?_ ?_ (trivial)
 ·
  refine BL ?_
  replace H := H.newRow 5 encB
  refine q0J (fun m e w => ∃ (v13 : Value) (l16 : Ls) (v17 : Value) (n18 : Int) (n19 : Int) (M : Mem), e = [(0, S p0), (3, ptr bk3 0), (4, ptr bk4 0), (5, I n18), (6, I n19)] ∧ St w0 M0 M [.blk bk3 (.cells #[I 0, I 0] 27), .blk bk4 (.cells #[v13, v17] 96), RowI 5 encB v17 l16] w ∧ GlF (fun w => ∃ m, w.cell? ⟨2, 0, none⟩ = some (.int .i64 m)) M ∧ BPM M bk4 v13 ∧ Y1G p0 m l16 n18 n19 = some o5) FU [(0, _), (3, _), (4, _), (5, _), (6, _)] ⟨rfl, rfl, rfl, rfl, rfl, trivial⟩ ⟨_, _, _, _, _, _, rfl, (H.pick (L' := [.blk bk3 (.cells #[I 0, I 0] 27), .blk bk4 (.cells #[(Value.pointer none), (Value.slice none 0 0)] 96), RowI 5 encB (Value.slice none 0 0) []]) Kp), gM, BPM.nil, e6⟩ ?_
  rintro m20 e w ⟨v13, l16, v17, n18, n19, M, rfl, H, gM, hs14, e6⟩
  rcases m20 with _ | m20
  · rw [Y1G] at e6; cases e6
  rw [Y1G] at e6
  refine SQ (SQ (RG (MV G G (MV G G (ST (q0k Tu9 G) G (ST (q0n G G) G (NL (TN ?_))))))))
  refine CB (p := n19 < (p0.length : Int)) G (fun hk22 => ?_) fun hk22 => ?_
  ·
   rw [if_pos hk22] at e6
   refine SK (TN (BL (SQ ?_)))
   obtain ⟨s23, hxs23, e6⟩ := bnd e6
   obtain ⟨⟨s24, n25, b26⟩, hx27, e6⟩ := bnd e6
   try dsimp only at e6
   refine RG (MV G G (MV G G (ST (Ex.sliceL Tu9 G G hxs23) G (q05 H (Y4J hx27) G (gM) (q00 G) G ?_))))
   intro v22 M w H hle hR
   replace gM := gM.mono hle
   replace hs14 := hs14.mono hle
   try dsimp only at hR
   obtain rfl := hR
   refine MV G G (ST (q0e G G) G (ST (q0e G G) G (ST (q0e G G) G (AS G G (AS G G (AS G G (NL (TN (SQ (SQ (RG (MV G G (ST (q0R G) G (NL (TN ?_)))))))))))))))
   refine q0o G (fun hk28 => ?_) (fun hk28 => ?_)
   ·
    replace hk28 : b26 = false := by simpa using hk28
    subst hk28
    rw [if_neg l07] at e6
    refine SQ (SQ (RG (MV G G (ST (q0n G G) G (NL (TN ?_))))))
    obtain ⟨o29, e30, e6⟩ := bnd e6
    refine q0l (fun e w => ∃ (v31 : Value) (l34 : Ls) (v35 : Value) (M : Mem), e = [(0, S p0), (3, ptr bk3 0), (4, ptr bk4 0), (5, I n18), (6, I n19)] ∧ St w0 M0 M [.blk bk3 (.cells #[I 0, I 0] 27), .blk bk4 (.cells #[v31, v35] 96), RowI 5 encB v35 l34] w ∧ GlF (fun w => ∃ m, w.cell? ⟨2, 0, none⟩ = some (.int .i64 m)) M ∧ BPM M bk4 v31 ∧ some l34 = some o29) [] ?_ ?_ (trivial)
    ·
     refine CB (p := n18 < (0 : Int)) G (fun hk36 => ?_) fun hk36 => ?_
     ·
      rw [if_pos hk36] at e30
      obtain ⟨c37, hxc37, e30⟩ := bnd e30
      obtain ⟨⟨b38, l39⟩, hx40, e30⟩ := bnd e30
      try dsimp only at e30
      refine RG (MV G G (MV G G (ST (q0N Tu9 G G hxc37) G ?_)))
      refine q0w (A := [.blk bk4 (.cells #[v13, v17] 96), RowI 5 encB v17 l16]) (B := [.blk bk3 (.cells #[I 0, I 0] 27)]) (H.pick (L' := [.blk bk4 (.cells #[v13, v17] 96), RowI 5 encB v17 l16, .blk bk3 (.cells #[I 0, I 0] 27)]) Kp) (Y1u hx40) (.left (.left (q0j _))) G (hs14) (q00 G) G ?_
      intro v33 M w its H hle hR
      replace gM := gM.mono hle
      replace hs14 := hs14.mono hle
      try dsimp only at hR
      obtain ⟨x33_0, q33_0, u33_0, rfl, f33_0, hq33_0, rfl⟩ := hR
      simp only [l05, l06] at H
      refine NL ?_
      exact MN ⟨_, _, _, _, G, (H.pick (L' := [.blk bk3 (.cells #[I 0, I 0] 27), .blk bk4 (.cells #[q33_0, u33_0] 96), RowI 5 encB u33_0 l39]) Kp), gM, hq33_0, e30⟩
     rw [if_neg hk36] at e30
     refine SK ?_
     exact MN ⟨_, _, _, _, G, H, gM, hs14, e30⟩
    rintro e w ⟨v31, l34, v35, M, rfl, H, gM, hs32, q41⟩
    obtain rfl := oI q41
    refine TN (SQ (SQ ?_))
    obtain ⟨o42, e43, e6⟩ := bnd e6
    refine q0l (fun e w => ∃ (b44 : Bool) (M : Mem), e = [(0, S p0), (3, ptr bk3 0), (4, ptr bk4 0), (5, I n18), (6, I n19), (42, Value.bool b44)] ∧ St w0 M0 M [.blk bk3 (.cells #[I 0, I 0] 27), .blk bk4 (.cells #[v31, v35] 96), RowI 5 encB v35 l34] w ∧ GlF (fun w => ∃ m, w.cell? ⟨2, 0, none⟩ = some (.int .i64 m)) M ∧ BPM M bk4 v31 ∧ some b44 = some o42) [] ?_ ?_ (trivial)
    ·
     by_cases hk45 : (0 : Int) ≤ n18
     ·
      rw [if_pos hk45] at e43
      obtain ⟨c46, hxc46, e43⟩ := bnd e43
      obtain ⟨b47, hx48, e43⟩ := bnd e43
      refine RG (MV G G (DT hk45 (q1b G G) G (MV G G (SG (q02 G) G G G (SG (q02 G) G G G (SG (q0N Tu9 G G hxc46) G G G (q05 H (Y48 hx48) G trivial (q04 G G G) G ?_)))))))
      intro v40 M w H hle hR
      replace gM := gM.mono hle
      replace hs32 := hs32.mono hle
      obtain rfl := hR
      refine SG (q0R G) G G G (PT G G G (NL ?_))
      exact MN ⟨_, _, G, H, gM, hs32, e43⟩
     rw [if_neg hk45] at e43
     refine RG (MV G G (DF hk45 (q1b G G) G (MV G G (q0i 5 G G (PF G G G (NL ?_))))))
     exact MN ⟨_, _, G, H, gM, hs32, e43⟩
    rintro e w ⟨b44, M, rfl, H, gM, hs32, q49⟩
    obtain rfl := oI q49
    refine TN ?_
    obtain ⟨o50, e51, e6⟩ := bnd e6
    refine q0l (fun e w => ∃ (v52 : Value) (l55 : Ls) (v56 : Value) (n57 : Int) (M : Mem), e = [(0, S p0), (3, ptr bk3 0), (4, ptr bk4 0), (5, I n57), (6, I n19)] ∧ St w0 M0 M [.blk bk3 (.cells #[I 0, I 0] 27), .blk bk4 (.cells #[v52, v56] 96), RowI 5 encB v56 l55] w ∧ GlF (fun w => ∃ m, w.cell? ⟨2, 0, none⟩ = some (.int .i64 m)) M ∧ BPM M bk4 v52 ∧ some (l55, n57) = some o50) [] ?_ ?_ (trivial)
    ·
     refine q0o G (fun hk58 => ?_) (fun hk58 => ?_)
     ·
      subst hk58
      rw [if_pos rfl] at e51
      refine SQ ?_
      obtain ⟨n59, hxn59, e51⟩ := bnd e51
      obtain ⟨s60, hxs60, e51⟩ := bnd e51
      obtain ⟨⟨n61, b62, l63⟩, hx64, e51⟩ := bnd e51
      try dsimp only at e51
      refine RG (MV G G (MV G G (MV G G (ST (q0u G G hxn59) G (ST (Ex.sliceC Tu9 G G G hxs60) G ?_)))))
      refine q0w (A := [.blk bk4 (.cells #[v31, v35] 96), RowI 5 encB v35 l34]) (B := [.blk bk3 (.cells #[I 0, I 0] 27)]) (H.pick (L' := [.blk bk4 (.cells #[v31, v35] 96), RowI 5 encB v35 l34, .blk bk3 (.cells #[I 0, I 0] 27)]) Kp) (Y1k hx64) (.left (.left (q0j _))) G (hs32) (q00 G) G ?_
      intro v48 M w its H hle hR
      replace gM := gM.mono hle
      replace hs32 := hs32.mono hle
      try dsimp only at hR
      obtain ⟨x48_1, q48_0, u48_0, rfl, f48_1, hq48_0, rfl⟩ := hR
      simp only [l05, l06] at H
      refine NL (TN (RG (AS G G (NL ?_))))
      exact MN ⟨_, _, _, _, _, G, (H.pick (L' := [.blk bk3 (.cells #[I 0, I 0] 27), .blk bk4 (.cells #[q48_0, u48_0] 96), RowI 5 encB u48_0 l63]) Kp), gM, hq48_0, e51⟩
     subst hk58
     rw [if_neg l07] at e51
     refine SK ?_
     exact MN ⟨_, _, _, _, _, G, H, gM, hs32, e51⟩
    rintro e w ⟨v52, l55, v56, n57, M, rfl, H, gM, hs53, q65⟩
    obtain rfl := oI q65
    try dsimp only at e6
    refine TN (SQ ?_)
    obtain ⟨n66, hxn66, e6⟩ := bnd e6
    refine RG (MV G G (ST (q0u G G hxn66) G (AS G G (NL (TN (q0m (q06 (q0f ?_))))))))
    exact AG m20 ⟨_, _, _, _, _, _, G, H, gM, hs53, e6⟩ (l0a _)
   replace hk28 : b26 = true := by simpa using hk28
   subst hk28
   rw [if_pos rfl] at e6
   refine SK (TN (SQ ?_))
   obtain ⟨⟨n67, b68, l69⟩, hx70, e6⟩ := bnd e6
   try dsimp only at e6
   refine RG (MV G G ?_)
   refine q0w (A := [.blk bk4 (.cells #[v13, v17] 96), RowI 5 encB v17 l16]) (B := [.blk bk3 (.cells #[I 0, I 0] 27)]) (H.pick (L' := [.blk bk4 (.cells #[v13, v17] 96), RowI 5 encB v17 l16, .blk bk3 (.cells #[I 0, I 0] 27)]) Kp) (Y1k hx70) (.left (.left (q0j _))) G (hs14) (q00 G) G ?_
   intro v52 M w its H hle hR
   replace gM := gM.mono hle
   replace hs14 := hs14.mono hle
   try dsimp only at hR
   obtain ⟨x52_1, q52_0, u52_0, rfl, f52_1, hq52_0, rfl⟩ := hR
   simp only [l05, l06] at H
   refine NL (TN (SQ ?_))
   obtain ⟨n71, hxn71, e6⟩ := bnd e6
   refine RG (MV G G (MV G G (ST (q0u G G hxn71) G (AS G G (NL (TN (RG (MV G G (AS G G (NL (IB ?_)))))))))))
   exact AG m20 ⟨_, _, _, _, _, _, G, (H.pick (L' := [.blk bk3 (.cells #[I 0, I 0] 27), .blk bk4 (.cells #[q52_0, u52_0] 96), RowI 5 encB u52_0 l69]) Kp), gM, hq52_0, e6⟩ (l0a _)
  rw [if_neg hk22] at e6
  refine q0m (q06 (q06 (q0f ?_)))
  exact MN ⟨_, _, _, _, _, G, H, gM, hs14, e6⟩
 rintro e w ⟨v7, l10, v11, n12, M, rfl, H, gM, hs8, q72⟩
 obtain rfl := oI q72
 try dsimp only at h
 refine TN (SQ (SQ (RG (MV G G (ST (q1b G G) G (NL (TN ?_)))))))
 obtain ⟨o73, e74, h⟩ := bnd h
 refine q0l (fun e w => ∃ (v75 : Value) (l78 : Ls) (v79 : Value) (M : Mem), e = [(3, ptr bk3 0), (4, ptr bk4 0)] ∧ St w0 M0 M [.blk bk3 (.cells #[I 0, I 0] 27), .blk bk4 (.cells #[v75, v79] 96), RowI 5 encB v79 l78] w ∧ GlF (fun w => ∃ m, w.cell? ⟨2, 0, none⟩ = some (.int .i64 m)) M ∧ BPM M bk4 v75 ∧ some l78 = some o73) [] ?_ ?_ (trivial)
 ·
  refine CB (p := (0 : Int) ≤ n12) G (fun hk80 => ?_) fun hk80 => ?_
  ·
   rw [if_pos hk80] at e74
   obtain ⟨s81, hxs81, e74⟩ := bnd e74
   obtain ⟨⟨n82, b83, l84⟩, hx85, e74⟩ := bnd e74
   try dsimp only at e74
   refine RG (MV G G (MV G G (ST (Ex.sliceL Tu9 G G hxs81) G ?_)))
   refine q0w (A := [.blk bk4 (.cells #[v7, v11] 96), RowI 5 encB v11 l10]) (B := [.blk bk3 (.cells #[I 0, I 0] 27)]) (H.pick (L' := [.blk bk4 (.cells #[v7, v11] 96), RowI 5 encB v11 l10, .blk bk3 (.cells #[I 0, I 0] 27)]) Kp) (Y1k hx85) (.left (.left (q0j _))) G (hs8) (q00 G) G ?_
   intro v62 M w its H hle hR
   replace gM := gM.mono hle
   replace hs8 := hs8.mono hle
   try dsimp only at hR
   obtain ⟨x62_1, q62_0, u62_0, rfl, f62_1, hq62_0, rfl⟩ := hR
   simp only [l05, l06] at H
   refine NL ?_
   exact MN ⟨_, _, _, _, G, (H.pick (L' := [.blk bk3 (.cells #[I 0, I 0] 27), .blk bk4 (.cells #[q62_0, u62_0] 96), RowI 5 encB u62_0 l84]) Kp), gM, hq62_0, e74⟩
  rw [if_neg hk80] at e74
  refine SK ?_
  exact MN ⟨_, _, _, _, G, H, gM, hs8, e74⟩
 rintro e w ⟨v75, l78, v79, M, rfl, H, gM, hs76, q86⟩
 obtain rfl := oI q86
 refine TN (SQ ?_)
 obtain ⟨s87, hx88, h⟩ := bnd h
 obtain ⟨⟨n89, n90⟩, hx91, h⟩ := bnd h
 try dsimp only at h
 refine RG ?_
 refine q0w (A := [.blk bk4 (.cells #[v75, v79] 96), RowI 5 encB v79 l78]) (B := [.blk bk3 (.cells #[I 0, I 0] 27)]) (H.pick (L' := [.blk bk4 (.cells #[v75, v79] 96), RowI 5 encB v79 l78, .blk bk3 (.cells #[I 0, I 0] 27)]) Kp) (Y2w hx88) (.left (.left (q0j _))) G (hs76) (q00 G) G ?_
 intro v63 M w its H hle hR
 replace gM := gM.mono hle
 replace hs76 := hs76.mono hle
 obtain ⟨rfl, rfl⟩ := hR
 simp only [l05, l06] at H
 refine q05 H (Y0P hx91) G trivial (q00 G) G ?_
 intro v64 M w H hle hR
 replace gM := gM.mono hle
 replace hs76 := hs76.mono hle
 try dsimp only at hR
 obtain rfl := hR
 refine AS G G (q0b [_, _] H G G G Ku Ts27 G Kf Kf (q00 G) ?_)
 intro w H
 refine NL (TN (RT ?_))
 obtain rfl := oI h
 exact q0H G G ⟨_, G, H.loadAgg Km Ta27 Ts27 Kf⟩ H.ext G
theorem Y3u {p0 : List Ls} {p1 : List Ls} {bp0 : Nat} {vp0 : Value} {bp1 : Nat} {vp1 : Value} {r : (List Ls × List Ls)} (h : Y2O p0 p1 = some r) : CtX Tryz.prog 124 [ptr bp0 0, ptr bp1 0] [.blk bp0 (.cells #[vp0] 55), RowI 9 encS vp0 p0, .blk bp1 (.cells #[vp1] 55), RowI 9 encS vp1 p1] (fun M => GlF (fun w => ∃ m, w.cell? ⟨2, 0, none⟩ = some (.int .i64 m)) M) (fun v M its => ∃ up0 up1, v = Value.tuple #[] ∧ its = [.blk bp0 (.cells #[up0] 55), RowI 9 encS up0 r.1, .blk bp1 (.cells #[up1] 55), RowI 9 encS up1 r.2]) := by
 refine CtX.of Tryz.func124 (enters Tryz.func124 Kr G) G G G ?_
 intro w0 M0 H hp
 have gM := hp
 unfold Y2O at h
 refine SQ (RG (ST (XL H Ta55) G ?_))
 refine ST (q0G (l := p0) Tu55 H Km G) G ?_
 refine ST (q0K G G) G (NL (TN ?_))
 refine CB (p := (0 : Int) < (p0.length : Int)) G (fun hk3 => ?_) fun hk3 => ?_
 ·
  rw [if_pos hk3] at h
  refine SQ ?_
  obtain ⟨s4, hx5, h⟩ := bnd h
  obtain ⟨⟨s6, ⟨n7, n8⟩⟩, hx9, h⟩ := bnd h
  try dsimp only at h
  refine RG (ST (XL H Ta55) G ?_)
  refine WR.callLend (l := p0) H Km (Y1D hx5) (fun _ _ _ h => h) G (fun _ hb1 hbor => hbor) (q00 G) G ?_
  intro v9 M w H hle hR
  replace gM := gM.mono hle
  obtain rfl := hR
  refine q05 H (Y4v hx9) G (gM) (q00 G) G ?_
  intro v10 M w H hle hR
  replace gM := gM.mono hle
  try dsimp only at hR
  obtain rfl := hR
  refine MV G G (ST (q0e G G) G (ST (q0e G G) G (q0g [_, _] H Tz27 G (q00 G) G ?_)))
  intro bk3 w H
  refine AS G G (q0b [_, _] H G G G Ku Ts27 G Kf Kf (q00 G) ?_)
  intro w H
  refine NL (TN ?_)
  obtain ⟨l10, hxl10, h⟩ := bnd h
  refine RG (ST (XL H Ta55) G ?_)
  refine MV G G (q0B (enc := encS) xty55 ([s6] : List Ls) H G Kf (fun _ => G) G G (q00 G) G ?_)
  intro v15 M w H hle hs15
  replace gM := gM.mono hle
  refine q1l (l := p1) xty55 G (fun _ => G) H G (fun _ => by repeat first | exact .head | apply Upd.tail) G (hs15) hxl10 (q00 G) G ?_
  intro v16 w H
  refine q0O [_] H G G (H.rowOne Km) Ku Kf Ts55 (by first | decide | (simp; done) | (simp; omega)) (q00 G) ?_
  intro w H
  refine q0O [_] H G G (q1p _ _ _) Ku Kf Ts55 (by first | decide | (simp; done) | (simp; omega)) (q00 G) ?_
  intro w H
  refine NL ?_
  replace H := H.newRow 9 encS
  obtain rfl := oI h
  exact WQ.endX0 (its := [.blk bp0 (.cells #[(Value.slice none 0 0)] 55), RowI 9 encS (Value.slice none 0 0) [], .blk bp1 (.cells #[v16] 55), RowI 9 encS v16 l10]) G H Kp ⟨_, _, G, G⟩
 rw [if_neg hk3] at h
 refine SK ?_
 obtain rfl := oI h
 exact WQ.endX0 (its := [.blk bp0 (.cells #[vp0] 55), RowI 9 encS vp0 p0, .blk bp1 (.cells #[vp1] 55), RowI 9 encS vp1 p1]) G H Kp ⟨_, _, G, G⟩
theorem Y3R {p0 : List (Ls × Bool)} {vp0 : Value} {r : Ls} (h : Y39 p0 = some r) : Ct Tryz.prog 87 [vp0] (fun M => GlF (fun w => ∃ m, w.cell? ⟨2, 0, none⟩ = some (.int .i64 m)) M ∧ SlS M 2 xenc136 vp0 p0) (fun v M => v = S r) := by
 refine Ct.of Tryz.func87 (enters Tryz.func87 Kr G) G G G ?_
 intro w0 M0 H hp
 obtain ⟨gM, hp0⟩ := hp
 unfold Y39 at h
 refine SQ (RG (AS G G (NL (TN (SQ (RG (q0g [_] H Tz55 G (q00 G) G ?_)))))))
 intro bk3 w H
 refine q0g [_] H Tz55 G (q00 G) G ?_
 intro bk4 w H
 refine NL (TN (SQ (RG (ST (q1Q G) G (AS G G (NL (TN (SQ (SQ (RG (MV G G (ST (q1k Tu107 hp0 G) G (MV G G (NL (TN ?_)))))))))))))))
 obtain ⟨o1, e2, h⟩ := bnd h
 refine q0l (fun e w => ∃ (l4 : List Ls) (v5 : Value) (l7 : List Ls) (v8 : Value) (M : Mem), e = [(3, ptr bk3 0), (5, (Value.func (.func 124) #[] #[ptr bk4 0, ptr bk3 0]))] ∧ St w0 M0 M [.blk bk3 (.cells #[v5] 55), RowI 9 encS v5 l4, .blk bk4 (.cells #[v8] 55), RowI 9 encS v8 l7] w ∧ GlF (fun w => ∃ m, w.cell? ⟨2, 0, none⟩ = some (.int .i64 m)) M ∧ some (l4, l7) = some o1) [] ?_ ?_ (trivial)
 ·
  refine BL ?_
  replace H := H.newRow 9 encS
  replace H := H.newRow 9 encS
  refine q0J (fun m e w => ∃ (l10 : List Ls) (v11 : Value) (l13 : List Ls) (v14 : Value) (n15 : Int) (M : Mem), e = [(3, ptr bk3 0), (4, ptr bk4 0), (5, (Value.func (.func 124) #[] #[ptr bk4 0, ptr bk3 0])), (9, vp0), (10, I (p0.length : Int)), (11, I n15)] ∧ St w0 M0 M [.blk bk3 (.cells #[v11] 55), RowI 9 encS v11 l10, .blk bk4 (.cells #[v14] 55), RowI 9 encS v14 l13] w ∧ GlF (fun w => ∃ m, w.cell? ⟨2, 0, none⟩ = some (.int .i64 m)) M ∧ SlS M 2 xenc136 vp0 p0 ∧ Y1H p0 m l10 l13 n15 = some o1) FU [(3, _), (4, _), (5, _), (9, _), (10, _), (11, _)] ⟨rfl, rfl, rfl, rfl, rfl, rfl, trivial⟩ ⟨_, _, _, _, _, _, rfl, (H.pick (L' := [.blk bk3 (.cells #[(Value.slice none 0 0)] 55), RowI 9 encS (Value.slice none 0 0) [], .blk bk4 (.cells #[(Value.slice none 0 0)] 55), RowI 9 encS (Value.slice none 0 0) []]) Kp), gM, hp0, e2⟩ ?_
  rintro m16 e w ⟨l10, v11, l13, v14, n15, M, rfl, H, gM, hp0, e2⟩
  rcases m16 with _ | m16
  · rw [Y1H] at e2; cases e2
  rw [Y1H] at e2
  refine SQ (RG (ST (q0n G G) G (NL (TN (SQ ?_)))))
  refine CB (p := n15 < (p0.length : Int)) G (fun hk19 => ?_) fun hk19 => ?_
  ·
   rw [if_pos hk19] at e2
   refine SK (TN (SQ (BL (SQ ?_))))
   obtain ⟨a20, hxa20, e2⟩ := bnd e2
   obtain ⟨bk13, o13, ha13, hc13⟩ := hp0.atC hxa20
   refine RG (ST (q0t ha13 Tu107 Ts136 G G) G (ST (q1e H G hc13 Tryz.isAgg136 Ts136 Kf) G ?_))
   refine q0g [_, _] H Tz136 G (q00 G) G ?_
   intro bk7 w H
   refine q0b [_, _] H G G G Ku Ts136 G Kf Kf (q00 G) ?_
   intro w H
   refine NL (TN (SQ (RG (ST (q03 Tu136 G Ts4 Dc G) G (ST (XL H Ta4) G ?_)))))
   refine NL (TN ?_)
   refine q0o G (fun hk21 => ?_) (fun hk21 => ?_)
   ·
    rw [if_pos hk21] at e2
    refine SQ ?_
    obtain ⟨⟨o22, o23⟩, hx24, e2⟩ := bnd e2
    try dsimp only at e2
    refine RG (MV G G ?_)
    refine WR.callVX (cap := [ptr bk4 0, ptr bk3 0]) (A := [.blk bk4 (.cells #[v14] 55), RowI 9 encS v14 l13, .blk bk3 (.cells #[v11] 55), RowI 9 encS v11 l10]) (B := [.blk bk7 (.cells #[S a20.1, Value.bool a20.2] 136)]) (H.pick (L' := [.blk bk4 (.cells #[v14] 55), RowI 9 encS v14 l13, .blk bk3 (.cells #[v11] 55), RowI 9 encS v11 l10, .blk bk7 (.cells #[S a20.1, Value.bool a20.2] 136)]) Kp) (Y3u hx24) (.left (.left (.left (.left (q0j _))))) G G (gM) (q00 G) G ?_
    intro v18 M w its H hle hR
    replace gM := gM.mono hle
    replace hp0 := hp0.mono hle
    replace hc13 := hc13.mono hle
    try dsimp only at hR
    obtain ⟨u18_0, u18_1, rfl, rfl⟩ := hR
    simp only [l05, l06] at H
    refine NL (TN ?_)
    obtain ⟨l25, hxl25, e2⟩ := bnd e2
    refine RG (ST (XL H Ta55) G ?_)
    refine ST (q03 Tu136 G Ts9 Dc G) G (ST (XL H Ta9) G ?_)
    refine q0B (enc := encS) xty55 ([a20.1] : List Ls) H G Kf (fun _ => G) G G (q00 G) G ?_
    intro v22 M w H hle hs22
    replace gM := gM.mono hle
    replace hp0 := hp0.mono hle
    replace hc13 := hc13.mono hle
    refine q1l (l := o23) xty55 G (fun _ => G) H G (fun _ => by repeat first | exact .head | apply Upd.tail) G (hs22) hxl25 (q00 G) G ?_
    intro v23 w H
    refine q0O [_] H G G (H.rowOne Km) Ku Kf Ts55 (by first | decide | (simp; done) | (simp; omega)) (q00 G) ?_
    intro w H
    refine NL (IB (TN ?_))
    obtain ⟨n26, hxn26, e2⟩ := bnd e2
    refine RG (ST (q0u G G hxn26) G (MV G G (NL ?_)))
    exact AG m16 ⟨_, _, _, _, _, _, G, (H.pick (L' := [.blk bk3 (.cells #[v23] 55), RowI 9 encS v23 l25, .blk bk4 (.cells #[u18_0] 55), RowI 9 encS u18_0 o22]) Kp), gM, hp0, e2⟩ (l0a _)
   rw [if_neg (by rw [hk21]; exact l07)] at e2
   obtain ⟨l27, hxl27, e2⟩ := bnd e2
   refine RG (ST (XL H Ta55) G ?_)
   refine ST (q03 Tu136 G Ts9 Dc G) G (ST (XL H Ta9) G ?_)
   refine q0B (enc := encS) xty55 ([a20.1] : List Ls) H G Kf (fun _ => G) G G (q00 G) G ?_
   intro v27 M w H hle hs27
   replace gM := gM.mono hle
   replace hp0 := hp0.mono hle
   replace hc13 := hc13.mono hle
   refine q1l (l := l13) xty55 G (fun _ => G) H G (fun _ => by repeat first | exact .head | apply Upd.tail) G (hs27) hxl27 (q00 G) G ?_
   intro v28 w H
   refine q0O [_] H G G (H.rowOne Km) Ku Kf Ts55 (by first | decide | (simp; done) | (simp; omega)) (q00 G) ?_
   intro w H
   refine NL (IB (TN ?_))
   obtain ⟨n28, hxn28, e2⟩ := bnd e2
   refine RG (ST (q0u G G hxn28) G (MV G G (NL ?_)))
   exact AG m16 ⟨_, _, _, _, _, _, G, (H.pick (L' := [.blk bk3 (.cells #[v11] 55), RowI 9 encS v11 l10, .blk bk4 (.cells #[v28] 55), RowI 9 encS v28 l27]) Kp), gM, hp0, e2⟩ (l0a _)
  rw [if_neg hk19] at e2
  refine q0m (q06 (q06 (q0f ?_)))
  exact MN ⟨_, _, _, _, _, G, H, gM, e2⟩
 rintro e w ⟨l4, v5, l7, v8, M, rfl, H, gM, q29⟩
 obtain rfl := oI q29
 try dsimp only at h
 refine TN (SQ ?_)
 obtain ⟨⟨o30, o31⟩, hx32, h⟩ := bnd h
 try dsimp only at h
 refine RG (MV G G ?_)
 refine WR.callVX (cap := [ptr bk4 0, ptr bk3 0]) (A := [.blk bk4 (.cells #[v8] 55), RowI 9 encS v8 l7, .blk bk3 (.cells #[v5] 55), RowI 9 encS v5 l4]) (B := []) (H.pick (L' := [.blk bk4 (.cells #[v8] 55), RowI 9 encS v8 l7, .blk bk3 (.cells #[v5] 55), RowI 9 encS v5 l4]) Kp) (Y3u hx32) (.left (.left (.left (.left (q0j _))))) G G (gM) (q00 G) G ?_
 intro v31 M w its H hle hR
 replace gM := gM.mono hle
 try dsimp only at hR
 obtain ⟨u31_0, u31_1, rfl, rfl⟩ := hR
 simp only [l05, l06] at H
 refine NL (TN (SQ ?_))
 obtain ⟨s34, hx35, h⟩ := bnd h
 refine RG (ST (XL H Ta55) G ?_)
 obtain ⟨M, hle, hs33, H⟩ := H.freezeRow (v := u31_1) (enc := encS) (t := 9) Kv
 replace gM := gM.mono hle
 refine q05 H (Y1D hx35) G (hs33) (q00 G) G ?_
 intro v33 M w H hle hR
 replace gM := gM.mono hle
 replace hs33 := hs33.mono hle
 obtain rfl := hR
 refine AS G G (NL (TN (RT ?_)))
 obtain rfl := oI h
 exact q07 G G H.ext G
theorem Y0h {p0 : (Ls × Int)} {p1 : List (Ls × Bool)} {bp0 : Nat} {vp1 : Value} {r : (((Ls × Ls × Ls) × (Ls × Int)) ⊕ Int)} (h : Y19 p0 p1 = some r) : CtS Tryz.prog 86 [ptr bp0 0, vp1] [.blk bp0 (.cells #[S p0.1, I p0.2] 72)] (fun M => GlF (fun w => ∃ m, w.cell? ⟨2, 0, none⟩ = some (.int .i64 m)) M ∧ Tabs M ∧ SlS M 2 xenc136 vp1 p1) (fun x => fun v M its => v = Value.agg #[S x.1.1, S x.1.2.1, S x.1.2.2] ∧ its = [.blk bp0 (.cells #[S x.2.1, I x.2.2] 72)]) (fun n => Value.iface 69 (Value.agg #[I n])) r := by
 refine CtS.of Tryz.func86 (enters Tryz.func86 Kr G) G G G ?_
 intro w0 M0 H hp
 obtain ⟨gM, gT, hp1⟩ := hp
 unfold Y19 at h
 refine SQ (RG (q0g [_, _, _] H Tz24 G (q00 G) G ?_))
 intro bk4 w H
 refine NL (TN (SQ (SQ ?_)))
 obtain ⟨o4, hx3, h⟩ := bnd h
 rcases o4 with ⟨b1, o2⟩ | n5
 ·
  try dsimp only at h
  refine RG (MV G G ?_)
  refine q0w (A := [.blk bp0 (.cells #[S p0.1, I p0.2] 72)]) (B := [.blk bk4 (.cells #[S [], S [], S []] 24)]) (H.pick (L' := [.blk bp0 (.cells #[S p0.1, I p0.2] 72), .blk bk4 (.cells #[S [], S [], S []] 24)]) Kp) (Y0a hx3) (.left (q0j _)) G trivial (q00 G) G ?_
  intro v7 M w its H hle hR
  replace gM := gM.mono hle
  replace gT := gT.mono hle
  replace hp1 := hp1.mono hle
  try dsimp only at hR
  obtain ⟨rfl, rfl⟩ := hR
  simp only [l05, l06] at H
  refine ST (q0R G) G (NL (TN ?_))
  refine q0o G (fun hk6 => ?_) (fun hk6 => ?_)
  ·
   replace hk6 : b1 = false := by simpa using hk6
   subst hk6
   rw [if_neg l07] at h
   refine SQ ?_
   obtain ⟨o12, hx11, h⟩ := bnd h
   rcases o12 with ⟨⟨s7, s8, s9⟩, o10⟩ | n13
   ·
    try dsimp only at h
    refine RG (MV G G (MV G G ?_))
    refine q0w (A := [.blk bp0 (.cells #[S o2.1, I o2.2] 72)]) (B := [.blk bk4 (.cells #[S [], S [], S []] 24)]) (H.pick (L' := [.blk bp0 (.cells #[S o2.1, I o2.2] 72), .blk bk4 (.cells #[S [], S [], S []] 24)]) Kp) (Y15 hx11) (.left (q0j _)) G ⟨gM, gT, hp1⟩ (q00 G) G ?_
    intro v11 M w its H hle hR
    replace gM := gM.mono hle
    replace gT := gT.mono hle
    replace hp1 := hp1.mono hle
    try dsimp only at hR
    obtain ⟨rfl, rfl⟩ := hR
    simp only [l05, l06] at H
    refine q0b [_, _, _] H G G G Ku Ts24 G Kf Kf (q00 G) ?_
    intro w H
    refine NL (TN (RT ?_))
    obtain rfl := oI h
    exact q1n (its := [.blk bp0 (.cells #[S o10.1, I o10.2] 72)]) G ⟨_, G, H.loadAgg Km Ta24 Ts24 Kf⟩ H Kp ⟨G, G⟩
   try dsimp only at h
   obtain rfl := oI h
   refine RG (MV G G (MV G G ?_))
   refine q0C (A := [.blk bp0 (.cells #[S o2.1, I o2.2] 72)]) (B := [.blk bk4 (.cells #[S [], S [], S []] 24)]) (H.pick (L' := [.blk bp0 (.cells #[S o2.1, I o2.2] 72), .blk bk4 (.cells #[S [], S [], S []] 24)]) Kp) (Y15 hx11) (.left (q0j _)) G ⟨gM, gT, hp1⟩ (q00 G) ?_
   intro M w H hle
   (repeat (first | refine q0M ?_ | refine q0W ?_ | refine q0S ?_ | refine q0X ?_))
   exact q0T H
  replace hk6 : b1 = true := by simpa using hk6
  subst hk6
  rw [if_pos rfl] at h
  refine SK (TN (SQ ?_))
  obtain ⟨o17, hx16, h⟩ := bnd h
  rcases o17 with ⟨l14, o15⟩ | n18
  ·
   try dsimp only at h
   obtain ⟨o24, hx23, h⟩ := bnd h
   rcases o24 with ⟨⟨s19, s20, s21⟩, o22⟩ | n25
   ·
    try dsimp only at h
    refine RG (MV G G (MV G G ?_))
    refine q0w (A := [.blk bp0 (.cells #[S o2.1, I o2.2] 72)]) (B := [.blk bk4 (.cells #[S [], S [], S []] 24)]) (H.pick (L' := [.blk bp0 (.cells #[S o2.1, I o2.2] 72), .blk bk4 (.cells #[S [], S [], S []] 24)]) Kp) (Y08 hx16) (.left (q0j _)) G trivial (q00 G) G ?_
    intro v14 M w its H hle hR
    replace gM := gM.mono hle
    replace gT := gT.mono hle
    replace hp1 := hp1.mono hle
    try dsimp only at hR
    obtain ⟨x14_0, rfl, f14_0, rfl⟩ := hR
    simp only [l05, l06] at H
    refine q0w (A := [.blk bp0 (.cells #[S o15.1, I o15.2] 72)]) (B := [.blk bk4 (.cells #[S [], S [], S []] 24)]) (H.pick (L' := [.blk bp0 (.cells #[S o15.1, I o15.2] 72), .blk bk4 (.cells #[S [], S [], S []] 24)]) Kp) (Y15 hx23) (.left (q0j _)) G ⟨gM, gT, f14_0⟩ (q00 G) G ?_
    intro v15 M w its H hle hR
    replace gM := gM.mono hle
    replace gT := gT.mono hle
    replace hp1 := hp1.mono hle
    replace f14_0 := f14_0.mono hle
    try dsimp only at hR
    obtain ⟨rfl, rfl⟩ := hR
    simp only [l05, l06] at H
    refine q0g [_, _, _] H Tz24 G (q00 G) G ?_
    intro bk5 w H
    refine q0b [_, _, _] H G G G Ku Ts24 G Kf Kf (q00 G) ?_
    intro w H
    refine NL (TN (SQ ?_))
    obtain ⟨s26, hx27, h⟩ := bnd h
    refine RG (MV G G (q05 H (Y3R hx27) G ⟨gM, hp1⟩ (q00 G) G ?_))
    intro v17 M w H hle hR
    replace gM := gM.mono hle
    replace gT := gT.mono hle
    replace hp1 := hp1.mono hle
    replace f14_0 := f14_0.mono hle
    obtain rfl := hR
    refine ST (q03 Tu24 G Ts9 Dc G) G (q1s [_, _, _] H G G Ku Kf Ts9 (by first | decide | (simp; done) | (simp; omega)) Kf Kf (q00 G) ?_)
    intro w H
    refine NL (TN (SQ ?_))
    obtain ⟨o30, hx29, h⟩ := bnd h
    rcases o30 with o28 | n31
    ·
     try dsimp only at h
     refine RG (MV G G ?_)
     refine q0w (A := [.blk bp0 (.cells #[S o22.1, I o22.2] 72)]) (B := [.blk bk5 (.cells #[S s26, S s20, S s21] 24), .blk bk4 (.cells #[S [], S [], S []] 24)]) (H.pick (L' := [.blk bp0 (.cells #[S o22.1, I o22.2] 72), .blk bk5 (.cells #[S s26, S s20, S s21] 24), .blk bk4 (.cells #[S [], S [], S []] 24)]) Kp) (Y0K hx29) (.left (q0j _)) G trivial (q00 G) G ?_
     intro v20 M w its H hle hR
     replace gM := gM.mono hle
     replace gT := gT.mono hle
     replace hp1 := hp1.mono hle
     replace f14_0 := f14_0.mono hle
     try dsimp only at hR
     obtain ⟨rfl, rfl⟩ := hR
     simp only [l05, l06] at H
     refine NL (TN (SQ (RG (ST (q0v H G Km Ta24 Ts24 Kf) G ?_))))
     refine q0b [_, _, _] H G G G Ku Ts24 G Kf Kf (q00 G) ?_
     intro w H
     refine NL (TN (RT ?_))
     obtain rfl := oI h
     exact q1n (its := [.blk bp0 (.cells #[S o28.1, I o28.2] 72)]) G ⟨_, G, H.loadAgg Km Ta24 Ts24 Kf⟩ H Kp ⟨G, G⟩
    try dsimp only at h
    obtain rfl := oI h
    refine RG (MV G G ?_)
    refine q0C (A := [.blk bp0 (.cells #[S o22.1, I o22.2] 72)]) (B := [.blk bk5 (.cells #[S s26, S s20, S s21] 24), .blk bk4 (.cells #[S [], S [], S []] 24)]) (H.pick (L' := [.blk bp0 (.cells #[S o22.1, I o22.2] 72), .blk bk5 (.cells #[S s26, S s20, S s21] 24), .blk bk4 (.cells #[S [], S [], S []] 24)]) Kp) (Y0K hx29) (.left (q0j _)) G trivial (q00 G) ?_
    intro M w H hle
    (repeat (first | refine q0M ?_ | refine q0W ?_ | refine q0S ?_ | refine q0X ?_))
    exact q0T H
   try dsimp only at h
   obtain rfl := oI h
   refine RG (MV G G (MV G G ?_))
   refine q0w (A := [.blk bp0 (.cells #[S o2.1, I o2.2] 72)]) (B := [.blk bk4 (.cells #[S [], S [], S []] 24)]) (H.pick (L' := [.blk bp0 (.cells #[S o2.1, I o2.2] 72), .blk bk4 (.cells #[S [], S [], S []] 24)]) Kp) (Y08 hx16) (.left (q0j _)) G trivial (q00 G) G ?_
   intro v14 M w its H hle hR
   replace gM := gM.mono hle
   replace gT := gT.mono hle
   replace hp1 := hp1.mono hle
   try dsimp only at hR
   obtain ⟨x14_0, rfl, f14_0, rfl⟩ := hR
   simp only [l05, l06] at H
   refine q0C (A := [.blk bp0 (.cells #[S o15.1, I o15.2] 72)]) (B := [.blk bk4 (.cells #[S [], S [], S []] 24)]) (H.pick (L' := [.blk bp0 (.cells #[S o15.1, I o15.2] 72), .blk bk4 (.cells #[S [], S [], S []] 24)]) Kp) (Y15 hx23) (.left (q0j _)) G ⟨gM, gT, f14_0⟩ (q00 G) ?_
   intro M w H hle
   (repeat (first | refine q0M ?_ | refine q0W ?_ | refine q0S ?_ | refine q0X ?_))
   exact q0T H
  try dsimp only at h
  obtain rfl := oI h
  refine RG (MV G G (MV G G ?_))
  refine q0C (A := [.blk bp0 (.cells #[S o2.1, I o2.2] 72)]) (B := [.blk bk4 (.cells #[S [], S [], S []] 24)]) (H.pick (L' := [.blk bp0 (.cells #[S o2.1, I o2.2] 72), .blk bk4 (.cells #[S [], S [], S []] 24)]) Kp) (Y08 hx16) (.left (q0j _)) G trivial (q00 G) ?_
  intro M w H hle
  (repeat (first | refine q0M ?_ | refine q0W ?_ | refine q0S ?_ | refine q0X ?_))
  exact q0T H
 try dsimp only at h
 obtain rfl := oI h
 refine RG (MV G G ?_)
 refine q0C (A := [.blk bp0 (.cells #[S p0.1, I p0.2] 72)]) (B := [.blk bk4 (.cells #[S [], S [], S []] 24)]) (H.pick (L' := [.blk bp0 (.cells #[S p0.1, I p0.2] 72), .blk bk4 (.cells #[S [], S [], S []] 24)]) Kp) (Y0a hx3) (.left (q0j _)) G trivial (q00 G) ?_
 intro M w H hle
 (repeat (first | refine q0M ?_ | refine q0W ?_ | refine q0S ?_ | refine q0X ?_))
 exact q0T H
end Go.Proofs.YtkmjdamkifbddaaGreatDoor
end
section
namespace Go.Proofs.YtkmjdamkifbddaaGreatDoor
open Go Go.RowKit Go.Ph Go.Ph.Pl Go.Ph.Pf
theorem Y0o {p0 : (Ls × Int)} {bp0 : Nat} {r : (((Ls × Bool × List (Ls × Ls × Ls)) × (Ls × Int)) ⊕ Int)} (h : Y0T p0 = some r) : CtS Tryz.prog 47 [ptr bp0 0] [.blk bp0 (.cells #[S p0.1, I p0.2] 72)] (fun M => GlF (fun w => ∃ m, w.cell? ⟨2, 0, none⟩ = some (.int .i64 m)) M ∧ Tabs M) (fun x => fun v M its => ∃ x0_2, v = Value.agg #[S x.1.1, Value.bool x.1.2.1, x0_2] ∧ SlS M 3 xenc24 x0_2 x.1.2.2 ∧ its = [.blk bp0 (.cells #[S x.2.1, I x.2.2] 72)]) (fun n => Value.iface 69 (Value.agg #[I n])) r := by
 refine CtS.of Tryz.func47 (enters Tryz.func47 Kr G) G G G ?_
 intro w0 M0 H hp
 obtain ⟨gM, gT⟩ := hp
 unfold Y0T at h
 refine SQ (RG (q0g [_, _, _] H Tz34 G (q00 G) G ?_))
 intro bk2 w H
 refine NL (TN (SQ ?_))
 obtain ⟨o4, hx3, h⟩ := bnd h
 rcases o4 with ⟨l1, o2⟩ | n5
 ·
  try dsimp only at h
  refine RG (MV G G ?_)
  refine q0w (A := [.blk bp0 (.cells #[S p0.1, I p0.2] 72)]) (B := [.blk bk2 (.cells #[S [], Value.bool false, Value.slice none 0 0] 34)]) (H.pick (L' := [.blk bp0 (.cells #[S p0.1, I p0.2] 72), .blk bk2 (.cells #[S [], Value.bool false, Value.slice none 0 0] 34)]) Kp) (Y08 hx3) (.left (q0j _)) G trivial (q00 G) G ?_
  intro v6 M w its H hle hR
  replace gM := gM.mono hle
  replace gT := gT.mono hle
  try dsimp only at hR
  obtain ⟨x6_0, rfl, f6_0, rfl⟩ := hR
  simp only [l05, l06] at H
  refine AS G G (NL (TN (SQ (SQ ?_))))
  obtain ⟨o9, hx8, h⟩ := bnd h
  rcases o9 with ⟨b6, o7⟩ | n10
  ·
   try dsimp only at h
   refine RG (MV G G ?_)
   refine q0w (A := [.blk bp0 (.cells #[S o2.1, I o2.2] 72)]) (B := [.blk bk2 (.cells #[S [], Value.bool false, Value.slice none 0 0] 34)]) (H.pick (L' := [.blk bp0 (.cells #[S o2.1, I o2.2] 72), .blk bk2 (.cells #[S [], Value.bool false, Value.slice none 0 0] 34)]) Kp) (Y0a hx8) (.left (q0j _)) G trivial (q00 G) G ?_
   intro v8 M w its H hle hR
   replace gM := gM.mono hle
   replace gT := gT.mono hle
   replace f6_0 := f6_0.mono hle
   try dsimp only at hR
   obtain ⟨rfl, rfl⟩ := hR
   simp only [l05, l06] at H
   refine ST (q0R G) G (NL (TN ?_))
   refine q0o G (fun hk11 => ?_) (fun hk11 => ?_)
   ·
    replace hk11 : b6 = false := by simpa using hk11
    subst hk11
    rw [if_neg l07] at h
    refine SQ ?_
    obtain ⟨o17, hx16, h⟩ := bnd h
    rcases o17 with ⟨⟨s12, s13, s14⟩, o15⟩ | n18
    ·
     try dsimp only at h
     refine RG (MV G G (MV G G ?_))
     refine q0w (A := [.blk bp0 (.cells #[S o7.1, I o7.2] 72)]) (B := [.blk bk2 (.cells #[S [], Value.bool false, Value.slice none 0 0] 34)]) (H.pick (L' := [.blk bp0 (.cells #[S o7.1, I o7.2] 72), .blk bk2 (.cells #[S [], Value.bool false, Value.slice none 0 0] 34)]) Kp) (Y0h hx16) (.left (q0j _)) G ⟨gM, gT, f6_0⟩ (q00 G) G ?_
     intro v12 M w its H hle hR
     replace gM := gM.mono hle
     replace gT := gT.mono hle
     replace f6_0 := f6_0.mono hle
     try dsimp only at hR
     obtain ⟨rfl, rfl⟩ := hR
     simp only [l05, l06] at H
     refine q1E (enc := xenc24) xty30 ([(s12, s13, s14)] : List (Ls × Ls × Ls)) H (fun _ => G) G Kr G G G (q00 G) G ?_
     intro v13 M w H hle hs13
     replace gM := gM.mono hle
     replace gT := gT.mono hle
     replace f6_0 := f6_0.mono hle
     refine ST (q0L [S [], Value.bool false, v13] Tu34 Tz34 (xplaces34 Tu34) G (by obtain ⟨_, _, _, hv, -⟩ := hs13; rw [hv]; clear hv; rfl)) G ?_
     refine q0b [_, _, _] H G G G Ku Ts34 G Kf (by simp only [l0A, l1W, (hs13).one.2]; rfl) (q00 G) ?_
     intro w H
     refine NL (TN (RT ?_))
     obtain rfl := oI h
     exact q1n (its := [.blk bp0 (.cells #[S o15.1, I o15.2] 72)]) G ⟨_, G, H.loadAgg Km Ta34 Ts34 Kf⟩ H Kp ⟨_, G, hs13, G⟩
    try dsimp only at h
    obtain rfl := oI h
    refine RG (MV G G (MV G G ?_))
    refine q0C (A := [.blk bp0 (.cells #[S o7.1, I o7.2] 72)]) (B := [.blk bk2 (.cells #[S [], Value.bool false, Value.slice none 0 0] 34)]) (H.pick (L' := [.blk bp0 (.cells #[S o7.1, I o7.2] 72), .blk bk2 (.cells #[S [], Value.bool false, Value.slice none 0 0] 34)]) Kp) (Y0h hx16) (.left (q0j _)) G ⟨gM, gT, f6_0⟩ (q00 G) ?_
    intro M w H hle
    (repeat (first | refine q0M ?_ | refine q0W ?_ | refine q0S ?_ | refine q0X ?_))
    exact q0T H
   replace hk11 : b6 = true := by simpa using hk11
   subst hk11
   rw [if_pos rfl] at h
   refine SK (TN (SQ ?_))
   obtain ⟨s19, hx20, h⟩ := bnd h
   refine RG (MV G G (q05 H (Y3R hx20) G ⟨gM, f6_0⟩ (q00 G) G ?_))
   intro v16 M w H hle hR
   replace gM := gM.mono hle
   replace gT := gT.mono hle
   replace f6_0 := f6_0.mono hle
   obtain rfl := hR
   refine ST (q0L [S s19, Value.bool true, Value.slice none 0 0] Tu34 Tz34 (xplaces34 Tu34) G G) G (q0g [_, _, _] H Tz34 G (q00 G) G ?_)
   intro bk4 w H
   refine q0b [_, _, _] H G G G Ku Ts34 G Kf Kf (q00 G) ?_
   intro w H
   refine NL (TN (SQ (SQ (RG (ST (q03 Tu34 G Ts9 Dc G) G (ST (XL H Ta9) G ?_))))))
   refine ST (q0I G G) G (NL (TN ?_))
   obtain ⟨o21, e22, h⟩ := bnd h
   refine q0l (fun e w => ∃ (s23 : Ls) (n24 : Int) (M : Mem), e = [(0, ptr bp0 0), (2, ptr bk2 0), (4, ptr bk4 0)] ∧ StX (feet [.blk bp0 (.cells #[S p0.1, I p0.2] 72)]) w0 M0 M [.blk bp0 (.cells #[S s23, I n24] 72), .blk bk2 (.cells #[S [], Value.bool false, Value.slice none 0 0] 34), .blk bk4 (.cells #[S s19, Value.bool true, Value.slice none 0 0] 34)] w ∧ GlF (fun w => ∃ m, w.cell? ⟨2, 0, none⟩ = some (.int .i64 m)) M ∧ Tabs M ∧ some (.inl (s23, n24)) = some o21) [] ?_ ?_ (trivial)
   ·
    refine CB (p := s19 = []) G (fun hk25 => ?_) fun hk25 => ?_
    ·
     rw [if_pos hk25] at e22
     obtain ⟨o28, hx27, e22⟩ := bnd e22
     rcases o28 with o26 | n29
     ·
      try dsimp only at e22
      refine RG (MV G G ?_)
      refine q0w (A := [.blk bp0 (.cells #[S o7.1, I o7.2] 72)]) (B := [.blk bk4 (.cells #[S s19, Value.bool true, Value.slice none 0 0] 34), .blk bk2 (.cells #[S [], Value.bool false, Value.slice none 0 0] 34)]) (H.pick (L' := [.blk bp0 (.cells #[S o7.1, I o7.2] 72), .blk bk4 (.cells #[S s19, Value.bool true, Value.slice none 0 0] 34), .blk bk2 (.cells #[S [], Value.bool false, Value.slice none 0 0] 34)]) Kp) (Y03 hx27) (.left (q0j _)) G trivial (q00 G) G ?_
      intro v22 M w its H hle hR
      replace gM := gM.mono hle
      replace gT := gT.mono hle
      replace f6_0 := f6_0.mono hle
      try dsimp only at hR
      obtain ⟨rfl, rfl⟩ := hR
      simp only [l05, l06] at H
      refine NL ?_
      exact MN ⟨_, _, _, G, (H.pick (L' := [.blk bp0 (.cells #[S o26.1, I o26.2] 72), .blk bk2 (.cells #[S [], Value.bool false, Value.slice none 0 0] 34), .blk bk4 (.cells #[S s19, Value.bool true, Value.slice none 0 0] 34)]) Kp), gM, gT, e22⟩
     try dsimp only at e22
     obtain rfl := oI e22
     try dsimp only at h
     obtain rfl := oI h
     refine RG (MV G G ?_)
     refine q0C (A := [.blk bp0 (.cells #[S o7.1, I o7.2] 72)]) (B := [.blk bk4 (.cells #[S s19, Value.bool true, Value.slice none 0 0] 34), .blk bk2 (.cells #[S [], Value.bool false, Value.slice none 0 0] 34)]) (H.pick (L' := [.blk bp0 (.cells #[S o7.1, I o7.2] 72), .blk bk4 (.cells #[S s19, Value.bool true, Value.slice none 0 0] 34), .blk bk2 (.cells #[S [], Value.bool false, Value.slice none 0 0] 34)]) Kp) (Y03 hx27) (.left (q0j _)) G trivial (q00 G) ?_
     intro M w H hle
     (repeat (first | refine q0M ?_ | refine q0W ?_ | refine q0S ?_ | refine q0X ?_))
     exact q0T H
    rw [if_neg hk25] at e22
    refine SK ?_
    exact MN ⟨_, _, _, G, (H.pick (L' := [.blk bp0 (.cells #[S o7.1, I o7.2] 72), .blk bk2 (.cells #[S [], Value.bool false, Value.slice none 0 0] 34), .blk bk4 (.cells #[S s19, Value.bool true, Value.slice none 0 0] 34)]) Kp), gM, gT, e22⟩
   rintro e w ⟨s23, n24, M, rfl, H, gM, gT, q30⟩
   obtain rfl := oI q30
   try dsimp only at h
   refine TN (SQ (SQ ?_))
   obtain ⟨o34, hx33, h⟩ := bnd h
   rcases o34 with ⟨b31, o32⟩ | n35
   ·
    try dsimp only at h
    refine RG (MV G G ?_)
    refine q0w (A := [.blk bp0 (.cells #[S s23, I n24] 72)]) (B := [.blk bk2 (.cells #[S [], Value.bool false, Value.slice none 0 0] 34), .blk bk4 (.cells #[S s19, Value.bool true, Value.slice none 0 0] 34)]) (H.pick (L' := [.blk bp0 (.cells #[S s23, I n24] 72), .blk bk2 (.cells #[S [], Value.bool false, Value.slice none 0 0] 34), .blk bk4 (.cells #[S s19, Value.bool true, Value.slice none 0 0] 34)]) Kp) (Y0a hx33) (.left (q0j _)) G trivial (q00 G) G ?_
    intro v24 M w its H hle hR
    replace gM := gM.mono hle
    replace gT := gT.mono hle
    try dsimp only at hR
    obtain ⟨rfl, rfl⟩ := hR
    simp only [l05, l06] at H
    refine NL (TN ?_)
    refine q0o G (fun hk36 => ?_) (fun hk36 => ?_)
    ·
     subst hk36
     rw [if_pos rfl] at h
     refine SQ (RG (ST (q0v H G Km Ta34 Ts34 Kf) G ?_))
     refine q0b [_, _, _] H G G G Ku Ts34 G Kf Kf (q00 G) ?_
     intro w H
     refine NL (TN (RT ?_))
     obtain rfl := oI h
     exact q1n (its := [.blk bp0 (.cells #[S o32.1, I o32.2] 72)]) G ⟨_, G, H.loadAgg Km Ta34 Ts34 Kf⟩ H Kp ⟨_, G, (SlS.nil _ _ (fun _ => G)), G⟩
    subst hk36
    rw [if_neg l07] at h
    refine SK (TN ?_)
    obtain ⟨o37, e38, h⟩ := bnd h
    refine BL ?_
    replace H := H.newRowS 24 3 xenc24
    refine q0J (fun m e w => ∃ (s39 : Ls) (n40 : Int) (s41 : Ls) (b42 : Bool) (l43 : List (Ls × Ls × Ls)) (v44 : Value) (s46 : Ls) (b47 : Bool) (l49 : List (Ls × Ls × Ls)) (v50 : Value) (M : Mem), e = [(0, ptr bp0 0), (2, ptr bk2 0), (4, ptr bk4 0)] ∧ StX (feet [.blk bp0 (.cells #[S p0.1, I p0.2] 72)]) w0 M0 M [.blk bp0 (.cells #[S s39, I n40] 72), .blk bk2 (.cells #[S s41, Value.bool b42, v44] 34), .blk bk4 (.cells #[S s46, Value.bool b47, v50] 34), RowS 24 3 xenc24 v50 l49] w ∧ GlF (fun w => ∃ m, w.cell? ⟨2, 0, none⟩ = some (.int .i64 m)) M ∧ Tabs M ∧ SlS M 3 xenc24 v44 l43 ∧ Y1a  m s39 n40 s41 b42 l43 s46 b47 l49 = some o37) FU [(0, _), (2, _), (4, _)] ⟨rfl, rfl, rfl, trivial⟩ ⟨_, _, _, _, _, _, _, _, _, _, _, rfl, (H.pick (L' := [.blk bp0 (.cells #[S o32.1, I o32.2] 72), .blk bk2 (.cells #[S [], Value.bool false, Value.slice none 0 0] 34), .blk bk4 (.cells #[S s19, Value.bool true, (Value.slice none 0 0)] 34), RowS 24 3 xenc24 (Value.slice none 0 0) []]) Kp), gM, gT, (SlS.nil _ _ (fun _ => rfl)), e38⟩ ?_
    rintro m51 e w ⟨s39, n40, s41, b42, l43, v44, s46, b47, l49, v50, M, rfl, H, gM, gT, hs45, e38⟩
    rcases m51 with _ | m51
    · rw [Y1a] at e38; cases e38
    rw [Y1a] at e38
    refine BL (SQ ?_)
    obtain ⟨o56, hx55, e38⟩ := bnd e38
    rcases o56 with ⟨l53, o54⟩ | n57
    ·
     try dsimp only at e38
     obtain ⟨o63, hx62, e38⟩ := bnd e38
     rcases o63 with ⟨⟨s58, s59, s60⟩, o61⟩ | n64
     ·
      try dsimp only at e38
      obtain ⟨l65, hxl65, e38⟩ := bnd e38
      refine q1Z (fun e w => ∃ (v66 : Value) (M : Mem), e = [(0, ptr bp0 0), (2, ptr bk2 0), (4, ptr bk4 0)] ∧ StX (feet [.blk bp0 (.cells #[S p0.1, I p0.2] 72)]) w0 M0 M [.blk bp0 (.cells #[S o61.1, I o61.2] 72), .blk bk2 (.cells #[S s41, Value.bool b42, v44] 34), .blk bk4 (.cells #[S s46, Value.bool b47, v66] 34), RowS 24 3 xenc24 v66 l65] w ∧ GlF (fun w => ∃ m, w.cell? ⟨2, 0, none⟩ = some (.int .i64 m)) M ∧ Tabs M ∧ SlS M 3 xenc24 v44 l43) ?_ ?_
      ·
       refine q0F (m := 10) G G H ?_
       intro w H
       refine TK 0 G (fun _ => q03 Tu34 G Ts30 Dc G) G (TK 2 G (fun _ => q02 G) G (TK 3 G (fun _ => q02 G) G ?_))
       refine q0P (i := 1) (j := 4) Kr G G ?_ ?_
       ·
        refine ST (XL H Ta30) G ?_
        refine NA (q0s (fuel := 0) [4, 5, 6, 7, 8, 9] G Kr ?_)
        refine q0w (A := [.blk bp0 (.cells #[S s39, I n40] 72)]) (B := [.blk bk2 (.cells #[S s41, Value.bool b42, v44] 34), .blk bk4 (.cells #[S s46, Value.bool b47, v50] 34), RowS 24 3 xenc24 v50 l49]) (H.pick (L' := [.blk bp0 (.cells #[S s39, I n40] 72), .blk bk2 (.cells #[S s41, Value.bool b42, v44] 34), .blk bk4 (.cells #[S s46, Value.bool b47, v50] 34), RowS 24 3 xenc24 v50 l49]) Kp) (Y08 hx55) (.left (q0j _)) G trivial (q00 G) G ?_
        intro v30 M w its H hle hR
        replace gM := gM.mono hle
        replace gT := gT.mono hle
        replace hs45 := hs45.mono hle
        try dsimp only at hR
        obtain ⟨x30_0, rfl, f30_0, rfl⟩ := hR
        simp only [l05, l06] at H
        refine q0w (A := [.blk bp0 (.cells #[S o54.1, I o54.2] 72)]) (B := [.blk bk2 (.cells #[S s41, Value.bool b42, v44] 34), .blk bk4 (.cells #[S s46, Value.bool b47, v50] 34), RowS 24 3 xenc24 v50 l49]) (H.pick (L' := [.blk bp0 (.cells #[S o54.1, I o54.2] 72), .blk bk2 (.cells #[S s41, Value.bool b42, v44] 34), .blk bk4 (.cells #[S s46, Value.bool b47, v50] 34), RowS 24 3 xenc24 v50 l49]) Kp) (Y0h hx62) (.left (q0j _)) G ⟨gM, gT, f30_0⟩ (q00 G) G ?_
        intro v31 M w its H hle hR
        replace gM := gM.mono hle
        replace gT := gT.mono hle
        replace hs45 := hs45.mono hle
        replace f30_0 := f30_0.mono hle
        try dsimp only at hR
        obtain ⟨rfl, rfl⟩ := hR
        simp only [l05, l06] at H
        refine q1E (enc := xenc24) xty30 ([(s58, s59, s60)] : List (Ls × Ls × Ls)) H (fun _ => G) G Kr G G G (q00 G) G ?_
        intro v32 M w H hle hs32
        replace gM := gM.mono hle
        replace gT := gT.mono hle
        replace hs45 := hs45.mono hle
        replace f30_0 := f30_0.mono hle
        refine q2d (l := l49) xty30 G xone24 H G (fun _ => by repeat first | exact .head | apply Upd.tail) G (hs32) hxl65 (q00 G) G ?_
        intro v33 w H
        refine ST (q03 Tu34 G Ts30 Dc G) G (q0O [_, _, _] H G G (H.rowOneS Km) Ku Kf Ts30 (by first | decide | (simp; done) | (simp; omega)) (q00 G) ?_)
        intro w H
        refine NA (q0h Kr ?_)
        exact MP ⟨_, _, G, H, gM, gT, hs45⟩
       refine q0w (A := [.blk bp0 (.cells #[S s39, I n40] 72)]) (B := [.blk bk2 (.cells #[S s41, Value.bool b42, v44] 34), .blk bk4 (.cells #[S s46, Value.bool b47, v50] 34), RowS 24 3 xenc24 v50 l49]) (H.pick (L' := [.blk bp0 (.cells #[S s39, I n40] 72), .blk bk2 (.cells #[S s41, Value.bool b42, v44] 34), .blk bk4 (.cells #[S s46, Value.bool b47, v50] 34), RowS 24 3 xenc24 v50 l49]) Kp) (Y08 hx55) (.left (q0j _)) G trivial (q00 G) G ?_
       intro v30 M w its H hle hR
       replace gM := gM.mono hle
       replace gT := gT.mono hle
       replace hs45 := hs45.mono hle
       try dsimp only at hR
       obtain ⟨x30_0, rfl, f30_0, rfl⟩ := hR
       simp only [l05, l06] at H
       refine NA ?_
       refine q0P (i := 1) (j := 5) Kr G G ?_ ?_
       ·
        refine ST (XL H Ta30) G ?_
        refine NA (q0s (fuel := 0) [5, 6, 7, 8, 9] G Kr ?_)
        refine q0w (A := [.blk bp0 (.cells #[S o54.1, I o54.2] 72)]) (B := [.blk bk2 (.cells #[S s41, Value.bool b42, v44] 34), .blk bk4 (.cells #[S s46, Value.bool b47, v50] 34), RowS 24 3 xenc24 v50 l49]) (H.pick (L' := [.blk bp0 (.cells #[S o54.1, I o54.2] 72), .blk bk2 (.cells #[S s41, Value.bool b42, v44] 34), .blk bk4 (.cells #[S s46, Value.bool b47, v50] 34), RowS 24 3 xenc24 v50 l49]) Kp) (Y0h hx62) (.left (q0j _)) G ⟨gM, gT, f30_0⟩ (q00 G) G ?_
        intro v31 M w its H hle hR
        replace gM := gM.mono hle
        replace gT := gT.mono hle
        replace hs45 := hs45.mono hle
        replace f30_0 := f30_0.mono hle
        try dsimp only at hR
        obtain ⟨rfl, rfl⟩ := hR
        simp only [l05, l06] at H
        refine q1E (enc := xenc24) xty30 ([(s58, s59, s60)] : List (Ls × Ls × Ls)) H (fun _ => G) G Kr G G G (q00 G) G ?_
        intro v32 M w H hle hs32
        replace gM := gM.mono hle
        replace gT := gT.mono hle
        replace hs45 := hs45.mono hle
        replace f30_0 := f30_0.mono hle
        refine q2d (l := l49) xty30 G xone24 H G (fun _ => by repeat first | exact .head | apply Upd.tail) G (hs32) hxl65 (q00 G) G ?_
        intro v33 w H
        refine ST (q03 Tu34 G Ts30 Dc G) G (q0O [_, _, _] H G G (H.rowOneS Km) Ku Kf Ts30 (by first | decide | (simp; done) | (simp; omega)) (q00 G) ?_)
        intro w H
        refine NA (q0h Kr ?_)
        exact MP ⟨_, _, G, H, gM, gT, hs45⟩
       refine q0w (A := [.blk bp0 (.cells #[S o54.1, I o54.2] 72)]) (B := [.blk bk2 (.cells #[S s41, Value.bool b42, v44] 34), .blk bk4 (.cells #[S s46, Value.bool b47, v50] 34), RowS 24 3 xenc24 v50 l49]) (H.pick (L' := [.blk bp0 (.cells #[S o54.1, I o54.2] 72), .blk bk2 (.cells #[S s41, Value.bool b42, v44] 34), .blk bk4 (.cells #[S s46, Value.bool b47, v50] 34), RowS 24 3 xenc24 v50 l49]) Kp) (Y0h hx62) (.left (q0j _)) G ⟨gM, gT, f30_0⟩ (q00 G) G ?_
       intro v31 M w its H hle hR
       replace gM := gM.mono hle
       replace gT := gT.mono hle
       replace hs45 := hs45.mono hle
       replace f30_0 := f30_0.mono hle
       try dsimp only at hR
       obtain ⟨rfl, rfl⟩ := hR
       simp only [l05, l06] at H
       refine NA ?_
       refine q0P (i := 1) (j := 6) Kr G G ?_ ?_
       ·
        refine ST (XL H Ta30) G ?_
        refine NA (q0s (fuel := 0) [6, 7, 8, 9] G Kr (q1E (enc := xenc24) xty30 ([(s58, s59, s60)] : List (Ls × Ls × Ls)) H (fun _ => G) G Kr G G G (q00 G) G ?_))
        intro v32 M w H hle hs32
        replace gM := gM.mono hle
        replace gT := gT.mono hle
        replace hs45 := hs45.mono hle
        replace f30_0 := f30_0.mono hle
        refine q2d (l := l49) xty30 G xone24 H G (fun _ => by repeat first | exact .head | apply Upd.tail) G (hs32) hxl65 (q00 G) G ?_
        intro v33 w H
        refine ST (q03 Tu34 G Ts30 Dc G) G (q0O [_, _, _] H G G (H.rowOneS Km) Ku Kf Ts30 (by first | decide | (simp; done) | (simp; omega)) (q00 G) ?_)
        intro w H
        refine NA (q0h Kr ?_)
        exact MP ⟨_, _, G, H, gM, gT, hs45⟩
       refine q1E (enc := xenc24) xty30 ([(s58, s59, s60)] : List (Ls × Ls × Ls)) H (fun _ => G) G Kr G G G (q00 G) G ?_
       intro v32 M w H hle hs32
       replace gM := gM.mono hle
       replace gT := gT.mono hle
       replace hs45 := hs45.mono hle
       replace f30_0 := f30_0.mono hle
       refine NA (q0s (fuel := 0) [1, 7, 8, 9] G Kr (ST (XL H Ta30) G ?_))
       refine q2d (l := l49) xty30 G xone24 H G (fun _ => by repeat first | exact .head | apply Upd.tail) G (hs32) hxl65 (q00 G) G ?_
       intro v33 w H
       refine ST (q03 Tu34 G Ts30 Dc G) G (q0O [_, _, _] H G G (H.rowOneS Km) Ku Kf Ts30 (by first | decide | (simp; done) | (simp; omega)) (q00 G) ?_)
       intro w H
       refine NA (q0h Kr ?_)
       exact MP ⟨_, _, G, H, gM, gT, hs45⟩
      rintro e w ⟨v66, M, rfl, H, gM, gT, hs45⟩
      refine TN (SQ (SQ ?_))
      obtain ⟨o70, hx69, e38⟩ := bnd e38
      rcases o70 with ⟨b67, o68⟩ | n71
      ·
       try dsimp only at e38
       refine RG (MV G G ?_)
       refine q0w (A := [.blk bp0 (.cells #[S o61.1, I o61.2] 72)]) (B := [.blk bk2 (.cells #[S s41, Value.bool b42, v44] 34), .blk bk4 (.cells #[S s46, Value.bool b47, v66] 34), RowS 24 3 xenc24 v66 l65]) (H.pick (L' := [.blk bp0 (.cells #[S o61.1, I o61.2] 72), .blk bk2 (.cells #[S s41, Value.bool b42, v44] 34), .blk bk4 (.cells #[S s46, Value.bool b47, v66] 34), RowS 24 3 xenc24 v66 l65]) Kp) (Y0a hx69) (.left (q0j _)) G trivial (q00 G) G ?_
       intro v36 M w its H hle hR
       replace gM := gM.mono hle
       replace gT := gT.mono hle
       replace hs45 := hs45.mono hle
       try dsimp only at hR
       obtain ⟨rfl, rfl⟩ := hR
       simp only [l05, l06] at H
       refine NL (TN ?_)
       refine q0o G (fun hk72 => ?_) (fun hk72 => ?_)
       ·
        subst hk72
        rw [if_pos rfl] at e38
        refine SQ (RG (ST (q0v H G Km Ta34 Ts34 Kf) G ?_))
        refine q0b [_, _, _] H G G G Ku Ts34 G Kf (by simp only [l0A, l1W, (H.rowOneS Km).2]; rfl) (q00 G) ?_
        intro w H
        refine NL (TN (RT ?_))
        obtain ⟨M, hle, hs73, H⟩ := H.freezeRowSN (v := v66) (enc := xenc24) (t := 24) Kv (fun _ => rfl) ⟨⟨_, Km⟩, trivial⟩
        replace gM := gM.mono hle
        replace gT := gT.mono hle
        obtain rfl := oI e38
        try dsimp only at h
        obtain rfl := oI h
        exact q1n (its := [.blk bp0 (.cells #[S o68.1, I o68.2] 72)]) G ⟨_, G, H.loadAgg Km Ta34 Ts34 Kf⟩ H Kp ⟨_, G, hs73, G⟩
       subst hk72
       rw [if_neg l07] at e38
       refine SK (TN ?_)
       obtain ⟨o76, hx75, e38⟩ := bnd e38
       rcases o76 with o74 | n77
       ·
        try dsimp only at e38
        refine RG (MV G G ?_)
        refine q0w (A := [.blk bp0 (.cells #[S o68.1, I o68.2] 72)]) (B := [.blk bk2 (.cells #[S s41, Value.bool b42, v44] 34), .blk bk4 (.cells #[S s46, Value.bool b47, v66] 34), RowS 24 3 xenc24 v66 l65]) (H.pick (L' := [.blk bp0 (.cells #[S o68.1, I o68.2] 72), .blk bk2 (.cells #[S s41, Value.bool b42, v44] 34), .blk bk4 (.cells #[S s46, Value.bool b47, v66] 34), RowS 24 3 xenc24 v66 l65]) Kp) (Y0K hx75) (.left (q0j _)) G trivial (q00 G) G ?_
        intro v39 M w its H hle hR
        replace gM := gM.mono hle
        replace gT := gT.mono hle
        replace hs45 := hs45.mono hle
        try dsimp only at hR
        obtain ⟨rfl, rfl⟩ := hR
        simp only [l05, l06] at H
        refine NL (IB ?_)
        exact AG m51 ⟨_, _, _, _, _, _, _, _, _, _, _, G, H, gM, gT, hs45, e38⟩ (l0a _)
       try dsimp only at e38
       obtain rfl := oI e38
       try dsimp only at h
       obtain rfl := oI h
       refine RG (MV G G ?_)
       refine q0C (A := [.blk bp0 (.cells #[S o68.1, I o68.2] 72)]) (B := [.blk bk2 (.cells #[S s41, Value.bool b42, v44] 34), .blk bk4 (.cells #[S s46, Value.bool b47, v66] 34), RowS 24 3 xenc24 v66 l65]) (H.pick (L' := [.blk bp0 (.cells #[S o68.1, I o68.2] 72), .blk bk2 (.cells #[S s41, Value.bool b42, v44] 34), .blk bk4 (.cells #[S s46, Value.bool b47, v66] 34), RowS 24 3 xenc24 v66 l65]) Kp) (Y0K hx75) (.left (q0j _)) G trivial (q00 G) ?_
       intro M w H hle
       (repeat (first | refine q0M ?_ | refine q0W ?_ | refine q0S ?_ | refine q0X ?_))
       exact q0T H
      try dsimp only at e38
      obtain rfl := oI e38
      try dsimp only at h
      obtain rfl := oI h
      refine RG (MV G G ?_)
      refine q0C (A := [.blk bp0 (.cells #[S o61.1, I o61.2] 72)]) (B := [.blk bk2 (.cells #[S s41, Value.bool b42, v44] 34), .blk bk4 (.cells #[S s46, Value.bool b47, v66] 34), RowS 24 3 xenc24 v66 l65]) (H.pick (L' := [.blk bp0 (.cells #[S o61.1, I o61.2] 72), .blk bk2 (.cells #[S s41, Value.bool b42, v44] 34), .blk bk4 (.cells #[S s46, Value.bool b47, v66] 34), RowS 24 3 xenc24 v66 l65]) Kp) (Y0a hx69) (.left (q0j _)) G trivial (q00 G) ?_
      intro M w H hle
      (repeat (first | refine q0M ?_ | refine q0W ?_ | refine q0S ?_ | refine q0X ?_))
      exact q0T H
     try dsimp only at e38
     obtain rfl := oI e38
     try dsimp only at h
     obtain rfl := oI h
     refine q0F (m := 10) G G H ?_
     intro w H
     refine TK 0 G (fun _ => q03 Tu34 G Ts30 Dc G) G (TK 2 G (fun _ => q02 G) G (TK 3 G (fun _ => q02 G) G ?_))
     refine q0P (i := 1) (j := 4) Kr G G ?_ ?_
     ·
      refine ST (XL H Ta30) G ?_
      refine NA (q0s (fuel := 4) [4, 5] G Kr ?_)
      refine q0w (A := [.blk bp0 (.cells #[S s39, I n40] 72)]) (B := [.blk bk2 (.cells #[S s41, Value.bool b42, v44] 34), .blk bk4 (.cells #[S s46, Value.bool b47, v50] 34), RowS 24 3 xenc24 v50 l49]) (H.pick (L' := [.blk bp0 (.cells #[S s39, I n40] 72), .blk bk2 (.cells #[S s41, Value.bool b42, v44] 34), .blk bk4 (.cells #[S s46, Value.bool b47, v50] 34), RowS 24 3 xenc24 v50 l49]) Kp) (Y08 hx55) (.left (q0j _)) G trivial (q00 G) G ?_
      intro v30 M w its H hle hR
      replace gM := gM.mono hle
      replace gT := gT.mono hle
      replace hs45 := hs45.mono hle
      try dsimp only at hR
      obtain ⟨x30_0, rfl, f30_0, rfl⟩ := hR
      simp only [l05, l06] at H
      refine q0C (A := [.blk bp0 (.cells #[S o54.1, I o54.2] 72)]) (B := [.blk bk2 (.cells #[S s41, Value.bool b42, v44] 34), .blk bk4 (.cells #[S s46, Value.bool b47, v50] 34), RowS 24 3 xenc24 v50 l49]) (H.pick (L' := [.blk bp0 (.cells #[S o54.1, I o54.2] 72), .blk bk2 (.cells #[S s41, Value.bool b42, v44] 34), .blk bk4 (.cells #[S s46, Value.bool b47, v50] 34), RowS 24 3 xenc24 v50 l49]) Kp) (Y0h hx62) (.left (q0j _)) G ⟨gM, gT, f30_0⟩ (q00 G) ?_
      intro M w H hle
      refine WQ.pAny (e' := []) trivial Kr ?_
      (repeat (first | refine q0M ?_ | refine q0W ?_ | refine q0S ?_ | refine q0X ?_))
      exact q0T H
     refine q0w (A := [.blk bp0 (.cells #[S s39, I n40] 72)]) (B := [.blk bk2 (.cells #[S s41, Value.bool b42, v44] 34), .blk bk4 (.cells #[S s46, Value.bool b47, v50] 34), RowS 24 3 xenc24 v50 l49]) (H.pick (L' := [.blk bp0 (.cells #[S s39, I n40] 72), .blk bk2 (.cells #[S s41, Value.bool b42, v44] 34), .blk bk4 (.cells #[S s46, Value.bool b47, v50] 34), RowS 24 3 xenc24 v50 l49]) Kp) (Y08 hx55) (.left (q0j _)) G trivial (q00 G) G ?_
     intro v30 M w its H hle hR
     replace gM := gM.mono hle
     replace gT := gT.mono hle
     replace hs45 := hs45.mono hle
     try dsimp only at hR
     obtain ⟨x30_0, rfl, f30_0, rfl⟩ := hR
     simp only [l05, l06] at H
     refine NA ?_
     refine q0P (i := 1) (j := 5) Kr G G ?_ ?_
     ·
      refine ST (XL H Ta30) G ?_
      refine NA (ON 5 Kr G ?_)
      refine q0C (A := [.blk bp0 (.cells #[S o54.1, I o54.2] 72)]) (B := [.blk bk2 (.cells #[S s41, Value.bool b42, v44] 34), .blk bk4 (.cells #[S s46, Value.bool b47, v50] 34), RowS 24 3 xenc24 v50 l49]) (H.pick (L' := [.blk bp0 (.cells #[S o54.1, I o54.2] 72), .blk bk2 (.cells #[S s41, Value.bool b42, v44] 34), .blk bk4 (.cells #[S s46, Value.bool b47, v50] 34), RowS 24 3 xenc24 v50 l49]) Kp) (Y0h hx62) (.left (q0j _)) G ⟨gM, gT, f30_0⟩ (q00 G) ?_
      intro M w H hle
      refine WQ.pAny (e' := []) trivial Kr ?_
      (repeat (first | refine q0M ?_ | refine q0W ?_ | refine q0S ?_ | refine q0X ?_))
      exact q0T H
     refine q0C (A := [.blk bp0 (.cells #[S o54.1, I o54.2] 72)]) (B := [.blk bk2 (.cells #[S s41, Value.bool b42, v44] 34), .blk bk4 (.cells #[S s46, Value.bool b47, v50] 34), RowS 24 3 xenc24 v50 l49]) (H.pick (L' := [.blk bp0 (.cells #[S o54.1, I o54.2] 72), .blk bk2 (.cells #[S s41, Value.bool b42, v44] 34), .blk bk4 (.cells #[S s46, Value.bool b47, v50] 34), RowS 24 3 xenc24 v50 l49]) Kp) (Y0h hx62) (.left (q0j _)) G ⟨gM, gT, f30_0⟩ (q00 G) ?_
     intro M w H hle
     refine WQ.pAny (e' := []) trivial Kr ?_
     (repeat (first | refine q0M ?_ | refine q0W ?_ | refine q0S ?_ | refine q0X ?_))
     exact q0T H
    try dsimp only at e38
    obtain rfl := oI e38
    try dsimp only at h
    obtain rfl := oI h
    refine q0F (m := 10) G G H ?_
    intro w H
    refine TK 0 G (fun _ => q03 Tu34 G Ts30 Dc G) G (TK 2 G (fun _ => q02 G) G (TK 3 G (fun _ => q02 G) G ?_))
    refine q0P (i := 1) (j := 4) Kr G G ?_ ?_
    ·
     refine ST (XL H Ta30) G ?_
     refine NA (ON 4 Kr G ?_)
     refine q0C (A := [.blk bp0 (.cells #[S s39, I n40] 72)]) (B := [.blk bk2 (.cells #[S s41, Value.bool b42, v44] 34), .blk bk4 (.cells #[S s46, Value.bool b47, v50] 34), RowS 24 3 xenc24 v50 l49]) (H.pick (L' := [.blk bp0 (.cells #[S s39, I n40] 72), .blk bk2 (.cells #[S s41, Value.bool b42, v44] 34), .blk bk4 (.cells #[S s46, Value.bool b47, v50] 34), RowS 24 3 xenc24 v50 l49]) Kp) (Y08 hx55) (.left (q0j _)) G trivial (q00 G) ?_
     intro M w H hle
     refine WQ.pAny (e' := []) trivial Kr ?_
     (repeat (first | refine q0M ?_ | refine q0W ?_ | refine q0S ?_ | refine q0X ?_))
     exact q0T H
    refine q0C (A := [.blk bp0 (.cells #[S s39, I n40] 72)]) (B := [.blk bk2 (.cells #[S s41, Value.bool b42, v44] 34), .blk bk4 (.cells #[S s46, Value.bool b47, v50] 34), RowS 24 3 xenc24 v50 l49]) (H.pick (L' := [.blk bp0 (.cells #[S s39, I n40] 72), .blk bk2 (.cells #[S s41, Value.bool b42, v44] 34), .blk bk4 (.cells #[S s46, Value.bool b47, v50] 34), RowS 24 3 xenc24 v50 l49]) Kp) (Y08 hx55) (.left (q0j _)) G trivial (q00 G) ?_
    intro M w H hle
    refine WQ.pAny (e' := []) trivial Kr ?_
    (repeat (first | refine q0M ?_ | refine q0W ?_ | refine q0S ?_ | refine q0X ?_))
    exact q0T H
   try dsimp only at h
   obtain rfl := oI h
   refine RG (MV G G ?_)
   refine q0C (A := [.blk bp0 (.cells #[S s23, I n24] 72)]) (B := [.blk bk2 (.cells #[S [], Value.bool false, Value.slice none 0 0] 34), .blk bk4 (.cells #[S s19, Value.bool true, Value.slice none 0 0] 34)]) (H.pick (L' := [.blk bp0 (.cells #[S s23, I n24] 72), .blk bk2 (.cells #[S [], Value.bool false, Value.slice none 0 0] 34), .blk bk4 (.cells #[S s19, Value.bool true, Value.slice none 0 0] 34)]) Kp) (Y0a hx33) (.left (q0j _)) G trivial (q00 G) ?_
   intro M w H hle
   (repeat (first | refine q0M ?_ | refine q0W ?_ | refine q0S ?_ | refine q0X ?_))
   exact q0T H
  try dsimp only at h
  obtain rfl := oI h
  refine RG (MV G G ?_)
  refine q0C (A := [.blk bp0 (.cells #[S o2.1, I o2.2] 72)]) (B := [.blk bk2 (.cells #[S [], Value.bool false, Value.slice none 0 0] 34)]) (H.pick (L' := [.blk bp0 (.cells #[S o2.1, I o2.2] 72), .blk bk2 (.cells #[S [], Value.bool false, Value.slice none 0 0] 34)]) Kp) (Y0a hx8) (.left (q0j _)) G trivial (q00 G) ?_
  intro M w H hle
  (repeat (first | refine q0M ?_ | refine q0W ?_ | refine q0S ?_ | refine q0X ?_))
  exact q0T H
 try dsimp only at h
 obtain rfl := oI h
 refine RG (MV G G ?_)
 refine q0C (A := [.blk bp0 (.cells #[S p0.1, I p0.2] 72)]) (B := [.blk bk2 (.cells #[S [], Value.bool false, Value.slice none 0 0] 34)]) (H.pick (L' := [.blk bp0 (.cells #[S p0.1, I p0.2] 72), .blk bk2 (.cells #[S [], Value.bool false, Value.slice none 0 0] 34)]) Kp) (Y08 hx3) (.left (q0j _)) G trivial (q00 G) ?_
 intro M w H hle
 (repeat (first | refine q0M ?_ | refine q0W ?_ | refine q0S ?_ | refine q0X ?_))
 exact q0T H
set_option maxHeartbeats 4000000 in
theorem Y3S {p0 : Ls} {r : (List (Ls × Bool × List (Ls × Ls × Ls)) × (Int × Int))} (h : Y2p p0 = some r) : Ct Tryz.prog 19 [S p0] (fun M => GlF (fun w => ∃ m, w.cell? ⟨2, 0, none⟩ = some (.int .i64 m)) M ∧ Tabs M) (fun v M => ∃ x0, v = Value.tuple #[x0, Value.agg #[I r.2.1, I r.2.2]] ∧ SlR xrl34 M x0 r.1) := by
 refine Ct.ofD Tryz.func19 (enters Tryz.func19 Kr G) G G G ?_
 intro w0 M0 H hp
 obtain ⟨gM, gT⟩ := hp
 unfold Y2p at h
 refine SQ (RG (q1t [_] H G G (q00 G) G ?_))
 intro bk1 w H
 refine q0g [_] H Tryz.zeroValue22 G (q00 G) G ?_
 intro bk2 w H
 refine q0g [_, _] H Tz27 G (q00 G) G ?_
 intro bk3 w H
 refine NL (TN (SQ (SQ (RG (ST (XL H Ta9) G ?_)))))
 refine ST (q0k Tu9 G) G (ST (q0K G G) G (NL (TN ?_)))
 refine CB (p := (4000 : Int) < (p0.length : Int)) G (fun hk1 => ?_) fun hk1 => ?_
 ·
  rw [if_pos hk1] at h
  refine SQ ?_
  obtain ⟨⟨n2, n3⟩, hx4, h⟩ := bnd h
  try dsimp only at h
  refine RG (q05 H (Y0E hx4) G trivial (q00 G) G ?_)
  intro v9 M w H hle hR
  replace gM := gM.mono hle
  replace gT := gT.mono hle
  try dsimp only at hR
  obtain rfl := hR
  refine q0O [_] H G G (q1p _ _ _) Ku Kf Ts22 (by first | decide | (simp; done) | (simp; omega)) (q00 G) ?_
  intro w H
  refine q0b [_, _] H G G G Ku Ts27 G Kf Kf (q00 G) ?_
  intro w H
  refine NL (TN (RT ?_))
  obtain rfl := oI h
  exact WQ.dret2 G ⟨_, G, H.load1 Km Ta22 Kf⟩ ⟨_, G, H.loadAgg Km Ta27 Ts27 Kf⟩ H.ext (⟨_, G, SlR.nil⟩)
 rw [if_neg hk1] at h
 refine SK (TN (SQ (RG ?_)))
 obtain ⟨M, hle, hb5, H⟩ := H.freezeVar (b := bk1) Kv
 replace gM := gM.mono hle
 replace gT := gT.mono hle
 refine ST (q1Q G) G (WR.deferS (cap := [ptr bk1 0, ptr bk2 0, ptr bk3 0]) G (q00 G) (NL (TN (SQ (RG (ST (q08 H G (hb5.cell (j := 0) G) Ta9) G (ST (q0L [S p0, I 0] Tu72 Tryz.zeroValue72 (xplaces72 Tu72) G G) G (q1t [_, _] H G G (q00 G) G ?_))))))))
 intro bk13 w H
 refine AS G G (NL (TN (SQ (SQ ?_))))
 obtain ⟨o9, hx8, h⟩ := bnd h
 rcases o9 with ⟨n6, o7⟩ | n10
 ·
  try dsimp only at h
  refine RG (MV G G ?_)
  refine q0w (A := [.blk bk13 (.cells #[S p0, I 0] 72)]) (B := [.blk bk3 (.cells #[I 0, I 0] 27), .blk bk2 (.cells #[Value.slice none 0 0] 22)]) (H.pick (L' := [.blk bk13 (.cells #[S p0, I 0] 72), .blk bk3 (.cells #[I 0, I 0] 27), .blk bk2 (.cells #[Value.slice none 0 0] 22)]) Kp) (Y0n hx8) (.left (q0j _)) G trivial (q00 G) G ?_
  intro v15 M w its H hle hR
  replace gM := gM.mono hle
  replace gT := gT.mono hle
  replace hb5 := hb5.mono hle
  try dsimp only at hR
  obtain ⟨rfl, rfl⟩ := hR
  simp only [l05, l06] at H
  refine ST (Ex.neqAnyNil Tu20 G) G (NL (TN ?_))
  obtain ⟨o11, e12, h⟩ := bnd h
  refine q0l (fun e w => ∃ (l14 : List (Ls × Bool × List (Ls × Ls × Ls))) (v15 : Value) (g16 : List (Ls × Bool × Hd)) (M : Mem), e = [(1, ptr bk1 0), (2, ptr bk2 0), (3, ptr bk3 0)] ∧ St w0 M0 M [.blk bk2 (.cells #[v15] 22), RowS 34 xrl34.k xrl34.enc v15 g16, .blk bk3 (.cells #[I 0, I 0] 27)] w ∧ GlF (fun w => ∃ m, w.cell? ⟨2, 0, none⟩ = some (.int .i64 m)) M ∧ Tabs M ∧ PtM M bk1 (.cells #[S p0] 9) ∧ RelL xrl34 M g16 l14 ∧ some (.inl l14) = some o11) [] ?_ ?_ (trivial)
  ·
   refine q0o G (fun hk18 => ?_) (fun hk18 => ?_)
   ·
    replace hk18 : ¬ (n6 = none) := of_not_decide hk18
    rw [if_neg hk18] at e12
    refine SQ ?_
    obtain ⟨o24, hx23, e12⟩ := bnd e12
    rcases o24 with ⟨⟨s19, b20, l21⟩, o22⟩ | n25
    ·
     try dsimp only at e12
     obtain ⟨l29, hxl29, e12⟩ := bnd e12
     refine q1Z (fun e w => ∃ (v30 : Value) (b31 : List (Ls × Bool × Hd)) (M : Mem), e = [(1, ptr bk1 0), (2, ptr bk2 0), (3, ptr bk3 0), (4, ptr bk13 0)] ∧ St w0 M0 M [.blk bk2 (.cells #[v30] 22), RowS 34 xrl34.k xrl34.enc v30 b31, .blk bk3 (.cells #[I 0, I 0] 27), .blk bk13 (.cells #[S o22.1, I o22.2] 72)] w ∧ GlF (fun w => ∃ m, w.cell? ⟨2, 0, none⟩ = some (.int .i64 m)) M ∧ Tabs M ∧ PtM M bk1 (.cells #[S p0] 9) ∧ RelL xrl34 M b31 l29) ?_ ?_
     ·
      refine q0F (m := 6) G G H ?_
      intro w H
      refine TK 1 G (fun _ => q02 G) G ?_
      refine q0P (i := 0) (j := 2) Kr G G ?_ ?_
      ·
       refine ST (XL H Ta22) G ?_
       refine NA (q0s (fuel := 0) [2, 3, 4, 5] G Kr ?_)
       refine q0w (A := [.blk bk13 (.cells #[S o7.1, I o7.2] 72)]) (B := [.blk bk3 (.cells #[I 0, I 0] 27), .blk bk2 (.cells #[Value.slice none 0 0] 22)]) (H.pick (L' := [.blk bk13 (.cells #[S o7.1, I o7.2] 72), .blk bk3 (.cells #[I 0, I 0] 27), .blk bk2 (.cells #[Value.slice none 0 0] 22)]) Kp) (Y0o hx23) (.left (q0j _)) G ⟨gM, gT⟩ (q00 G) G ?_
       intro v19 M w its H hle hR
       replace gM := gM.mono hle
       replace gT := gT.mono hle
       replace hb5 := hb5.mono hle
       try dsimp only at hR
       obtain ⟨x19_0_2, rfl, f19_0_2, rfl⟩ := hR
       simp only [l05, l06] at H
       obtain ⟨q26, rfl⟩ := f19_0_2.hd
       refine q1E (enc := xrl34.enc) xty22 ([(s19, b20, q26)] : List (Ls × Bool × Hd)) H (fun _ => G) G Kr G G G (q00 G) G ?_
       intro v20 M w H hle hs20
       replace gM := gM.mono hle
       replace gT := gT.mono hle
       replace hb5 := hb5.mono hle
       replace f19_0_2 := f19_0_2.mono hle
       replace hs20 := SlR.of (R := xrl34) (l := ([(s19, b20, l21)] : List (Ls × Bool × List (Ls × Ls × Ls)))) hs20 ⟨⟨rfl, rfl, f19_0_2⟩, trivial⟩
       replace H := H.newRowS 34 xrl34.k xrl34.enc
       have hr28 : RelL xrl34 M [] [] := RelL.nil
       refine WR.appRC (R := xrl34) (l := []) xty22 G H hr28 G (fun _ => by repeat first | exact .head | apply Upd.tail) G (hs20) hxl29 (q00 G) G ?_
       intro v21 g21 w hr21 H
       refine q0O [_] H G G (H.rowOneS Km) Ku Kf Ts22 (by first | decide | (simp; done) | (simp; omega)) (q00 G) ?_
       intro w H
       refine NA (q0h Kr ?_)
       exact MP ⟨_, _, _, G, (H.pick (L' := [.blk bk2 (.cells #[v21] 22), RowS 34 xrl34.k xrl34.enc v21 g21, .blk bk3 (.cells #[I 0, I 0] 27), .blk bk13 (.cells #[S o22.1, I o22.2] 72)]) Kp), gM, gT, hb5, hr21⟩
      refine q0w (A := [.blk bk13 (.cells #[S o7.1, I o7.2] 72)]) (B := [.blk bk3 (.cells #[I 0, I 0] 27), .blk bk2 (.cells #[Value.slice none 0 0] 22)]) (H.pick (L' := [.blk bk13 (.cells #[S o7.1, I o7.2] 72), .blk bk3 (.cells #[I 0, I 0] 27), .blk bk2 (.cells #[Value.slice none 0 0] 22)]) Kp) (Y0o hx23) (.left (q0j _)) G ⟨gM, gT⟩ (q00 G) G ?_
      intro v19 M w its H hle hR
      replace gM := gM.mono hle
      replace gT := gT.mono hle
      replace hb5 := hb5.mono hle
      try dsimp only at hR
      obtain ⟨x19_0_2, rfl, f19_0_2, rfl⟩ := hR
      simp only [l05, l06] at H
      refine NA ?_
      refine q0P (i := 0) (j := 3) Kr G G ?_ ?_
      ·
       refine ST (XL H Ta22) G ?_
       refine NA (q0s (fuel := 0) [3, 4, 5] G Kr ?_)
       obtain ⟨q26, rfl⟩ := f19_0_2.hd
       refine q1E (enc := xrl34.enc) xty22 ([(s19, b20, q26)] : List (Ls × Bool × Hd)) H (fun _ => G) G Kr G G G (q00 G) G ?_
       intro v20 M w H hle hs20
       replace gM := gM.mono hle
       replace gT := gT.mono hle
       replace hb5 := hb5.mono hle
       replace f19_0_2 := f19_0_2.mono hle
       replace hs20 := SlR.of (R := xrl34) (l := ([(s19, b20, l21)] : List (Ls × Bool × List (Ls × Ls × Ls)))) hs20 ⟨⟨rfl, rfl, f19_0_2⟩, trivial⟩
       replace H := H.newRowS 34 xrl34.k xrl34.enc
       have hr28 : RelL xrl34 M [] [] := RelL.nil
       refine WR.appRC (R := xrl34) (l := []) xty22 G H hr28 G (fun _ => by repeat first | exact .head | apply Upd.tail) G (hs20) hxl29 (q00 G) G ?_
       intro v21 g21 w hr21 H
       refine q0O [_] H G G (H.rowOneS Km) Ku Kf Ts22 (by first | decide | (simp; done) | (simp; omega)) (q00 G) ?_
       intro w H
       refine NA (q0h Kr ?_)
       exact MP ⟨_, _, _, G, (H.pick (L' := [.blk bk2 (.cells #[v21] 22), RowS 34 xrl34.k xrl34.enc v21 g21, .blk bk3 (.cells #[I 0, I 0] 27), .blk bk13 (.cells #[S o22.1, I o22.2] 72)]) Kp), gM, gT, hb5, hr21⟩
      obtain ⟨q26, rfl⟩ := f19_0_2.hd
      refine q1E (enc := xrl34.enc) xty22 ([(s19, b20, q26)] : List (Ls × Bool × Hd)) H (fun _ => G) G Kr G G G (q00 G) G ?_
      intro v20 M w H hle hs20
      replace gM := gM.mono hle
      replace gT := gT.mono hle
      replace hb5 := hb5.mono hle
      replace f19_0_2 := f19_0_2.mono hle
      replace hs20 := SlR.of (R := xrl34) (l := ([(s19, b20, l21)] : List (Ls × Bool × List (Ls × Ls × Ls)))) hs20 ⟨⟨rfl, rfl, f19_0_2⟩, trivial⟩
      refine NA (q0s (fuel := 0) [0, 4, 5] G Kr (ST (XL H Ta22) G ?_))
      replace H := H.newRowS 34 xrl34.k xrl34.enc
      have hr28 : RelL xrl34 M [] [] := RelL.nil
      refine WR.appRC (R := xrl34) (l := []) xty22 G H hr28 G (fun _ => by repeat first | exact .head | apply Upd.tail) G (hs20) hxl29 (q00 G) G ?_
      intro v21 g21 w hr21 H
      refine q0O [_] H G G (H.rowOneS Km) Ku Kf Ts22 (by first | decide | (simp; done) | (simp; omega)) (q00 G) ?_
      intro w H
      refine NA (q0h Kr ?_)
      exact MP ⟨_, _, _, G, (H.pick (L' := [.blk bk2 (.cells #[v21] 22), RowS 34 xrl34.k xrl34.enc v21 g21, .blk bk3 (.cells #[I 0, I 0] 27), .blk bk13 (.cells #[S o22.1, I o22.2] 72)]) Kp), gM, gT, hb5, hr21⟩
     rintro e w ⟨v30, b31, M, rfl, H, gM, gT, hb5, hr32⟩
     refine TN (SQ ?_)
     obtain ⟨o33, e34, e12⟩ := bnd e12
     refine q0l (fun e w => ∃ (l36 : List (Ls × Bool × List (Ls × Ls × Ls))) (v37 : Value) (g38 : List (Ls × Bool × Hd)) (s40 : Ls) (n41 : Int) (M : Mem), e = [(1, ptr bk1 0), (2, ptr bk2 0), (3, ptr bk3 0), (4, ptr bk13 0)] ∧ St w0 M0 M [.blk bk2 (.cells #[v37] 22), RowS 34 xrl34.k xrl34.enc v37 g38, .blk bk3 (.cells #[I 0, I 0] 27), .blk bk13 (.cells #[S s40, I n41] 72)] w ∧ GlF (fun w => ∃ m, w.cell? ⟨2, 0, none⟩ = some (.int .i64 m)) M ∧ Tabs M ∧ PtM M bk1 (.cells #[S p0] 9) ∧ RelL xrl34 M g38 l36 ∧ some (.inl (l36, s40, n41)) = some o33) [] ?_ ?_ (trivial)
     ·
      refine BL (q0J (fun m e w => ∃ (l43 : List (Ls × Bool × List (Ls × Ls × Ls))) (v44 : Value) (g45 : List (Ls × Bool × Hd)) (s47 : Ls) (n48 : Int) (M : Mem), e = [(1, ptr bk1 0), (2, ptr bk2 0), (3, ptr bk3 0), (4, ptr bk13 0)] ∧ St w0 M0 M [.blk bk2 (.cells #[v44] 22), RowS 34 xrl34.k xrl34.enc v44 g45, .blk bk3 (.cells #[I 0, I 0] 27), .blk bk13 (.cells #[S s47, I n48] 72)] w ∧ GlF (fun w => ∃ m, w.cell? ⟨2, 0, none⟩ = some (.int .i64 m)) M ∧ Tabs M ∧ PtM M bk1 (.cells #[S p0] 9) ∧ RelL xrl34 M g45 l43 ∧ Y1I p0 m l43 s47 n48 = some o33) FU [(1, _), (2, _), (3, _), (4, _)] ⟨rfl, rfl, rfl, rfl, trivial⟩ ⟨_, _, _, _, _, _, rfl, H, gM, gT, hb5, hr32, e34⟩ ?_)
      rintro m49 e w ⟨l43, v44, g45, s47, n48, M, rfl, H, gM, gT, hb5, hs46, e34⟩
      rcases m49 with _ | m49
      · rw [Y1I] at e34; cases e34
      rw [Y1I] at e34
      refine SQ (SQ ?_)
      obtain ⟨o53, hx52, e34⟩ := bnd e34
      rcases o53 with ⟨b50, o51⟩ | n54
      ·
       try dsimp only at e34
       refine RG (MV G G ?_)
       refine q0w (A := [.blk bk13 (.cells #[S s47, I n48] 72)]) (B := [.blk bk2 (.cells #[v44] 22), RowS 34 xrl34.k xrl34.enc v44 g45, .blk bk3 (.cells #[I 0, I 0] 27)]) (H.pick (L' := [.blk bk13 (.cells #[S s47, I n48] 72), .blk bk2 (.cells #[v44] 22), RowS 34 xrl34.k xrl34.enc v44 g45, .blk bk3 (.cells #[I 0, I 0] 27)]) Kp) (Y0a hx52) (.left (q0j _)) G trivial (q00 G) G ?_
       intro v23 M w its H hle hR
       replace gM := gM.mono hle
       replace gT := gT.mono hle
       replace hs46 := hs46.mono hle
       replace hb5 := hb5.mono hle
       try dsimp only at hR
       obtain ⟨rfl, rfl⟩ := hR
       simp only [l05, l06] at H
       refine NL (TN ?_)
       refine q0o G (fun hk55 => ?_) (fun hk55 => ?_)
       ·
        subst hk55
        rw [if_pos rfl] at e34
        refine SK (TN (BL ?_))
        obtain ⟨o61, hx60, e34⟩ := bnd e34
        rcases o61 with ⟨⟨s56, b57, l58⟩, o59⟩ | n62
        ·
         try dsimp only at e34
         obtain ⟨l64, hxl64, e34⟩ := bnd e34
         refine q1Z (fun e w => ∃ (v65 : Value) (b66 : List (Ls × Bool × Hd)) (M : Mem), e = [(1, ptr bk1 0), (2, ptr bk2 0), (3, ptr bk3 0), (4, ptr bk13 0)] ∧ St w0 M0 M [.blk bk2 (.cells #[v65] 22), RowS 34 xrl34.k xrl34.enc v65 b66, .blk bk3 (.cells #[I 0, I 0] 27), .blk bk13 (.cells #[S o59.1, I o59.2] 72)] w ∧ GlF (fun w => ∃ m, w.cell? ⟨2, 0, none⟩ = some (.int .i64 m)) M ∧ Tabs M ∧ PtM M bk1 (.cells #[S p0] 9) ∧ RelL xrl34 M b66 l64) ?_ ?_
         ·
          refine q0F (m := 6) G G H ?_
          intro w H
          refine TK 1 G (fun _ => q02 G) G ?_
          refine q0P (i := 0) (j := 2) Kr G G ?_ ?_
          ·
           refine ST (XL H Ta22) G ?_
           refine NA (q0s (fuel := 0) [2, 3, 4, 5] G Kr ?_)
           refine q0w (A := [.blk bk13 (.cells #[S o51.1, I o51.2] 72)]) (B := [.blk bk2 (.cells #[v44] 22), RowS 34 xrl34.k xrl34.enc v44 g45, .blk bk3 (.cells #[I 0, I 0] 27)]) (H.pick (L' := [.blk bk13 (.cells #[S o51.1, I o51.2] 72), .blk bk2 (.cells #[v44] 22), RowS 34 xrl34.k xrl34.enc v44 g45, .blk bk3 (.cells #[I 0, I 0] 27)]) Kp) (Y0o hx60) (.left (q0j _)) G ⟨gM, gT⟩ (q00 G) G ?_
           intro v26 M w its H hle hR
           replace gM := gM.mono hle
           replace gT := gT.mono hle
           replace hs46 := hs46.mono hle
           replace hb5 := hb5.mono hle
           try dsimp only at hR
           obtain ⟨x26_0_2, rfl, f26_0_2, rfl⟩ := hR
           simp only [l05, l06] at H
           obtain ⟨q63, rfl⟩ := f26_0_2.hd
           refine q1E (enc := xrl34.enc) xty22 ([(s56, b57, q63)] : List (Ls × Bool × Hd)) H (fun _ => G) G Kr G G G (q00 G) G ?_
           intro v27 M w H hle hs27
           replace gM := gM.mono hle
           replace gT := gT.mono hle
           replace hs46 := hs46.mono hle
           replace hb5 := hb5.mono hle
           replace f26_0_2 := f26_0_2.mono hle
           replace hs27 := SlR.of (R := xrl34) (l := ([(s56, b57, l58)] : List (Ls × Bool × List (Ls × Ls × Ls)))) hs27 ⟨⟨rfl, rfl, f26_0_2⟩, trivial⟩
           refine WR.appRC (R := xrl34) (l := l43) xty22 G H hs46 G (fun _ => by repeat first | exact .head | apply Upd.tail) G (hs27) hxl64 (q00 G) G ?_
           intro v28 g28 w hr28 H
           refine q0O [_] H G G (H.rowOneS Km) Ku Kf Ts22 (by first | decide | (simp; done) | (simp; omega)) (q00 G) ?_
           intro w H
           refine NA (q0h Kr ?_)
           exact MP ⟨_, _, _, G, (H.pick (L' := [.blk bk2 (.cells #[v28] 22), RowS 34 xrl34.k xrl34.enc v28 g28, .blk bk3 (.cells #[I 0, I 0] 27), .blk bk13 (.cells #[S o59.1, I o59.2] 72)]) Kp), gM, gT, hb5, hr28⟩
          refine q0w (A := [.blk bk13 (.cells #[S o51.1, I o51.2] 72)]) (B := [.blk bk2 (.cells #[v44] 22), RowS 34 xrl34.k xrl34.enc v44 g45, .blk bk3 (.cells #[I 0, I 0] 27)]) (H.pick (L' := [.blk bk13 (.cells #[S o51.1, I o51.2] 72), .blk bk2 (.cells #[v44] 22), RowS 34 xrl34.k xrl34.enc v44 g45, .blk bk3 (.cells #[I 0, I 0] 27)]) Kp) (Y0o hx60) (.left (q0j _)) G ⟨gM, gT⟩ (q00 G) G ?_
          intro v26 M w its H hle hR
          replace gM := gM.mono hle
          replace gT := gT.mono hle
          replace hs46 := hs46.mono hle
          replace hb5 := hb5.mono hle
          try dsimp only at hR
          obtain ⟨x26_0_2, rfl, f26_0_2, rfl⟩ := hR
          simp only [l05, l06] at H
          refine NA ?_
          refine q0P (i := 0) (j := 3) Kr G G ?_ ?_
          ·
           refine ST (XL H Ta22) G ?_
           refine NA (q0s (fuel := 0) [3, 4, 5] G Kr ?_)
           obtain ⟨q63, rfl⟩ := f26_0_2.hd
           refine q1E (enc := xrl34.enc) xty22 ([(s56, b57, q63)] : List (Ls × Bool × Hd)) H (fun _ => G) G Kr G G G (q00 G) G ?_
           intro v27 M w H hle hs27
           replace gM := gM.mono hle
           replace gT := gT.mono hle
           replace hs46 := hs46.mono hle
           replace hb5 := hb5.mono hle
           replace f26_0_2 := f26_0_2.mono hle
           replace hs27 := SlR.of (R := xrl34) (l := ([(s56, b57, l58)] : List (Ls × Bool × List (Ls × Ls × Ls)))) hs27 ⟨⟨rfl, rfl, f26_0_2⟩, trivial⟩
           refine WR.appRC (R := xrl34) (l := l43) xty22 G H hs46 G (fun _ => by repeat first | exact .head | apply Upd.tail) G (hs27) hxl64 (q00 G) G ?_
           intro v28 g28 w hr28 H
           refine q0O [_] H G G (H.rowOneS Km) Ku Kf Ts22 (by first | decide | (simp; done) | (simp; omega)) (q00 G) ?_
           intro w H
           refine NA (q0h Kr ?_)
           exact MP ⟨_, _, _, G, (H.pick (L' := [.blk bk2 (.cells #[v28] 22), RowS 34 xrl34.k xrl34.enc v28 g28, .blk bk3 (.cells #[I 0, I 0] 27), .blk bk13 (.cells #[S o59.1, I o59.2] 72)]) Kp), gM, gT, hb5, hr28⟩
          obtain ⟨q63, rfl⟩ := f26_0_2.hd
          refine q1E (enc := xrl34.enc) xty22 ([(s56, b57, q63)] : List (Ls × Bool × Hd)) H (fun _ => G) G Kr G G G (q00 G) G ?_
          intro v27 M w H hle hs27
          replace gM := gM.mono hle
          replace gT := gT.mono hle
          replace hs46 := hs46.mono hle
          replace hb5 := hb5.mono hle
          replace f26_0_2 := f26_0_2.mono hle
          replace hs27 := SlR.of (R := xrl34) (l := ([(s56, b57, l58)] : List (Ls × Bool × List (Ls × Ls × Ls)))) hs27 ⟨⟨rfl, rfl, f26_0_2⟩, trivial⟩
          refine NA (q0s (fuel := 0) [0, 4, 5] G Kr (ST (XL H Ta22) G ?_))
          refine WR.appRC (R := xrl34) (l := l43) xty22 G H hs46 G (fun _ => by repeat first | exact .head | apply Upd.tail) G (hs27) hxl64 (q00 G) G ?_
          intro v28 g28 w hr28 H
          refine q0O [_] H G G (H.rowOneS Km) Ku Kf Ts22 (by first | decide | (simp; done) | (simp; omega)) (q00 G) ?_
          intro w H
          refine NA (q0h Kr ?_)
          exact MP ⟨_, _, _, G, (H.pick (L' := [.blk bk2 (.cells #[v28] 22), RowS 34 xrl34.k xrl34.enc v28 g28, .blk bk3 (.cells #[I 0, I 0] 27), .blk bk13 (.cells #[S o59.1, I o59.2] 72)]) Kp), gM, gT, hb5, hr28⟩
         rintro e w ⟨v65, b66, M, rfl, H, gM, gT, hb5, hr67⟩
         refine IB ?_
         exact AG m49 ⟨_, _, _, _, _, _, G, H, gM, gT, hb5, hr67, e34⟩ (l0a _)
        try dsimp only at e34
        obtain rfl := oI e34
        try dsimp only at e12
        obtain rfl := oI e12
        try dsimp only at h
        obtain rfl := oI h
        refine q0F (m := 6) G G H ?_
        intro w H
        refine TK 1 G (fun _ => q02 G) G ?_
        refine q0P (i := 0) (j := 2) Kr G G ?_ ?_
        ·
         refine ST (XL H Ta22) G ?_
         refine NA (ON 2 Kr G ?_)
         refine q0C (A := [.blk bk13 (.cells #[S o51.1, I o51.2] 72)]) (B := [.blk bk2 (.cells #[v44] 22), RowS 34 xrl34.k xrl34.enc v44 g45, .blk bk3 (.cells #[I 0, I 0] 27)]) (H.pick (L' := [.blk bk13 (.cells #[S o51.1, I o51.2] 72), .blk bk2 (.cells #[v44] 22), RowS 34 xrl34.k xrl34.enc v44 g45, .blk bk3 (.cells #[I 0, I 0] 27)]) Kp) (Y0o hx60) (.left (q0j _)) G ⟨gM, gT⟩ (q00 G) ?_
         intro M w H hle
         refine WQ.pAny (e' := [(2, ptr bk2 0), (3, ptr bk3 0)]) ⟨G, G, trivial⟩ Kr ?_
         (repeat (first | refine q0M ?_ | refine q0W ?_ | refine q0S ?_ | refine q0X ?_))
         exact parse_pan (s := p0) (n := n62) H Kp (hb5.mono hle) G G (fun M => ⟨_, G, SlR.nil⟩)
        refine q0C (A := [.blk bk13 (.cells #[S o51.1, I o51.2] 72)]) (B := [.blk bk2 (.cells #[v44] 22), RowS 34 xrl34.k xrl34.enc v44 g45, .blk bk3 (.cells #[I 0, I 0] 27)]) (H.pick (L' := [.blk bk13 (.cells #[S o51.1, I o51.2] 72), .blk bk2 (.cells #[v44] 22), RowS 34 xrl34.k xrl34.enc v44 g45, .blk bk3 (.cells #[I 0, I 0] 27)]) Kp) (Y0o hx60) (.left (q0j _)) G ⟨gM, gT⟩ (q00 G) ?_
        intro M w H hle
        refine WQ.pAny (e' := [(2, ptr bk2 0), (3, ptr bk3 0)]) ⟨G, G, trivial⟩ Kr ?_
        (repeat (first | refine q0M ?_ | refine q0W ?_ | refine q0S ?_ | refine q0X ?_))
        exact parse_pan (s := p0) (n := n62) H Kp (hb5.mono hle) G G (fun M => ⟨_, G, SlR.nil⟩)
       subst hk55
       rw [if_neg l07] at e34
       refine q0m (q06 (q06 (q0f ?_)))
       exact MN ⟨_, _, _, _, _, _, G, (H.pick (L' := [.blk bk2 (.cells #[v44] 22), RowS 34 xrl34.k xrl34.enc v44 g45, .blk bk3 (.cells #[I 0, I 0] 27), .blk bk13 (.cells #[S o51.1, I o51.2] 72)]) Kp), gM, gT, hb5, hs46, e34⟩
      try dsimp only at e34
      obtain rfl := oI e34
      try dsimp only at e12
      obtain rfl := oI e12
      try dsimp only at h
      obtain rfl := oI h
      refine RG (MV G G ?_)
      refine q0C (A := [.blk bk13 (.cells #[S s47, I n48] 72)]) (B := [.blk bk2 (.cells #[v44] 22), RowS 34 xrl34.k xrl34.enc v44 g45, .blk bk3 (.cells #[I 0, I 0] 27)]) (H.pick (L' := [.blk bk13 (.cells #[S s47, I n48] 72), .blk bk2 (.cells #[v44] 22), RowS 34 xrl34.k xrl34.enc v44 g45, .blk bk3 (.cells #[I 0, I 0] 27)]) Kp) (Y0a hx52) (.left (q0j _)) G trivial (q00 G) ?_
      intro M w H hle
      (repeat (first | refine q0M ?_ | refine q0W ?_ | refine q0S ?_ | refine q0X ?_))
      exact parse_pan (s := p0) (n := n54) H Kp (hb5.mono hle) G G (fun M => ⟨_, G, SlR.nil⟩)
     rintro e w ⟨l36, v37, g38, s40, n41, M, rfl, H, gM, gT, hb5, hs39, q68⟩
     obtain rfl := oI q68
     try dsimp only at e12
     refine TN (SQ ?_)
     obtain ⟨o72, hx71, e12⟩ := bnd e12
     rcases o72 with ⟨n69, o70⟩ | n73
     ·
      try dsimp only at e12
      refine RG (MV G G ?_)
      refine q0w (A := [.blk bk13 (.cells #[S s40, I n41] 72)]) (B := [.blk bk2 (.cells #[v37] 22), RowS 34 xrl34.k xrl34.enc v37 g38, .blk bk3 (.cells #[I 0, I 0] 27)]) (H.pick (L' := [.blk bk13 (.cells #[S s40, I n41] 72), .blk bk2 (.cells #[v37] 22), RowS 34 xrl34.k xrl34.enc v37 g38, .blk bk3 (.cells #[I 0, I 0] 27)]) Kp) (Y0n hx71) (.left (q0j _)) G trivial (q00 G) G ?_
      intro v30 M w its H hle hR
      replace gM := gM.mono hle
      replace gT := gT.mono hle
      replace hs39 := hs39.mono hle
      replace hb5 := hb5.mono hle
      try dsimp only at hR
      obtain ⟨rfl, rfl⟩ := hR
      simp only [l05, l06] at H
      refine ST (Ex.neqAnyNil Tu20 G) G (NL (TN ?_))
      refine q0o G (fun hk74 => ?_) (fun hk74 => ?_)
      ·
       replace hk74 : ¬ (n69 = none) := of_not_decide hk74
       rw [if_neg hk74] at e12
       obtain ⟨o77, hx76, e12⟩ := bnd e12
       rcases o77 with o75 | n78
       ·
        try dsimp only at e12
        refine RG (MV G G ?_)
        refine q0w (A := [.blk bk13 (.cells #[S o70.1, I o70.2] 72)]) (B := [.blk bk2 (.cells #[v37] 22), RowS 34 xrl34.k xrl34.enc v37 g38, .blk bk3 (.cells #[I 0, I 0] 27)]) (H.pick (L' := [.blk bk13 (.cells #[S o70.1, I o70.2] 72), .blk bk2 (.cells #[v37] 22), RowS 34 xrl34.k xrl34.enc v37 g38, .blk bk3 (.cells #[I 0, I 0] 27)]) Kp) (Y03 hx76) (.left (q0j _)) G trivial (q00 G) G ?_
        intro v33 M w its H hle hR
        replace gM := gM.mono hle
        replace gT := gT.mono hle
        replace hs39 := hs39.mono hle
        replace hb5 := hb5.mono hle
        try dsimp only at hR
        obtain ⟨rfl, rfl⟩ := hR
        simp only [l05, l06] at H
        refine NL ?_
        exact MN ⟨_, _, _, _, G, (H.pick (L' := [.blk bk2 (.cells #[v37] 22), RowS 34 xrl34.k xrl34.enc v37 g38, .blk bk3 (.cells #[I 0, I 0] 27)]) Kp), gM, gT, hb5, hs39, e12⟩
       try dsimp only at e12
       obtain rfl := oI e12
       try dsimp only at h
       obtain rfl := oI h
       refine RG (MV G G ?_)
       refine q0C (A := [.blk bk13 (.cells #[S o70.1, I o70.2] 72)]) (B := [.blk bk2 (.cells #[v37] 22), RowS 34 xrl34.k xrl34.enc v37 g38, .blk bk3 (.cells #[I 0, I 0] 27)]) (H.pick (L' := [.blk bk13 (.cells #[S o70.1, I o70.2] 72), .blk bk2 (.cells #[v37] 22), RowS 34 xrl34.k xrl34.enc v37 g38, .blk bk3 (.cells #[I 0, I 0] 27)]) Kp) (Y03 hx76) (.left (q0j _)) G trivial (q00 G) ?_
       intro M w H hle
       (repeat (first | refine q0M ?_ | refine q0W ?_ | refine q0S ?_ | refine q0X ?_))
       exact parse_pan (s := p0) (n := n78) H Kp (hb5.mono hle) G G (fun M => ⟨_, G, SlR.nil⟩)
      replace hk74 : n69 = none := of_not_decide' hk74
      rw [if_pos hk74] at e12
      refine SK ?_
      exact MN ⟨_, _, _, _, G, (H.pick (L' := [.blk bk2 (.cells #[v37] 22), RowS 34 xrl34.k xrl34.enc v37 g38, .blk bk3 (.cells #[I 0, I 0] 27)]) Kp), gM, gT, hb5, hs39, e12⟩
     try dsimp only at e12
     obtain rfl := oI e12
     try dsimp only at h
     obtain rfl := oI h
     refine RG (MV G G ?_)
     refine q0C (A := [.blk bk13 (.cells #[S s40, I n41] 72)]) (B := [.blk bk2 (.cells #[v37] 22), RowS 34 xrl34.k xrl34.enc v37 g38, .blk bk3 (.cells #[I 0, I 0] 27)]) (H.pick (L' := [.blk bk13 (.cells #[S s40, I n41] 72), .blk bk2 (.cells #[v37] 22), RowS 34 xrl34.k xrl34.enc v37 g38, .blk bk3 (.cells #[I 0, I 0] 27)]) Kp) (Y0n hx71) (.left (q0j _)) G trivial (q00 G) ?_
     intro M w H hle
     (repeat (first | refine q0M ?_ | refine q0W ?_ | refine q0S ?_ | refine q0X ?_))
     exact parse_pan (s := p0) (n := n73) H Kp (hb5.mono hle) G G (fun M => ⟨_, G, SlR.nil⟩)
    try dsimp only at e12
    obtain rfl := oI e12
    try dsimp only at h
    obtain rfl := oI h
    refine q0F (m := 6) G G H ?_
    intro w H
    refine TK 1 G (fun _ => q02 G) G ?_
    refine q0P (i := 0) (j := 2) Kr G G ?_ ?_
    ·
     refine ST (XL H Ta22) G ?_
     refine NA (ON 2 Kr G ?_)
     refine q0C (A := [.blk bk13 (.cells #[S o7.1, I o7.2] 72)]) (B := [.blk bk3 (.cells #[I 0, I 0] 27), .blk bk2 (.cells #[Value.slice none 0 0] 22)]) (H.pick (L' := [.blk bk13 (.cells #[S o7.1, I o7.2] 72), .blk bk3 (.cells #[I 0, I 0] 27), .blk bk2 (.cells #[Value.slice none 0 0] 22)]) Kp) (Y0o hx23) (.left (q0j _)) G ⟨gM, gT⟩ (q00 G) ?_
     intro M w H hle
     refine WQ.pAny (e' := [(2, ptr bk2 0), (3, ptr bk3 0)]) ⟨G, G, trivial⟩ Kr ?_
     (repeat (first | refine q0M ?_ | refine q0W ?_ | refine q0S ?_ | refine q0X ?_))
     exact parse_pan (s := p0) (n := n25) H Kp (hb5.mono hle) G G (fun M => ⟨_, G, SlR.nil⟩)
    refine q0C (A := [.blk bk13 (.cells #[S o7.1, I o7.2] 72)]) (B := [.blk bk3 (.cells #[I 0, I 0] 27), .blk bk2 (.cells #[Value.slice none 0 0] 22)]) (H.pick (L' := [.blk bk13 (.cells #[S o7.1, I o7.2] 72), .blk bk3 (.cells #[I 0, I 0] 27), .blk bk2 (.cells #[Value.slice none 0 0] 22)]) Kp) (Y0o hx23) (.left (q0j _)) G ⟨gM, gT⟩ (q00 G) ?_
    intro M w H hle
    refine WQ.pAny (e' := [(2, ptr bk2 0), (3, ptr bk3 0)]) ⟨G, G, trivial⟩ Kr ?_
    (repeat (first | refine q0M ?_ | refine q0W ?_ | refine q0S ?_ | refine q0X ?_))
    exact parse_pan (s := p0) (n := n25) H Kp (hb5.mono hle) G G (fun M => ⟨_, G, SlR.nil⟩)
   replace hk18 : n6 = none := of_not_decide' hk18
   rw [if_pos hk18] at e12
   refine SK ?_
   replace H := H.newRowS 34 xrl34.k xrl34.enc
   have hr82 : RelL xrl34 M [] [] := RelL.nil
   exact MN ⟨_, _, _, _, G, (H.pick (L' := [.blk bk2 (.cells #[(Value.slice none 0 0)] 22), RowS 34 xrl34.k xrl34.enc (Value.slice none 0 0) ([] : List (Ls × Bool × Hd)), .blk bk3 (.cells #[I 0, I 0] 27)]) Kp), gM, gT, hb5, hr82, e12⟩
  rintro e w ⟨l14, v15, g16, M, rfl, H, gM, gT, hb5, hs17, q83⟩
  obtain rfl := oI q83
  try dsimp only at h
  refine TN (SQ (SQ ?_))
  obtain ⟨⟨n85, n86⟩, hx87, h⟩ := bnd h
  try dsimp only at h
  refine RG (ST (XL H Ta22) G ?_)
  obtain ⟨M, hle, hs84, H⟩ := H.freezeRowS (v := v15) (enc := xrl34.enc) (t := 34) Kv (fun _ => rfl)
  replace gM := gM.mono hle
  replace gT := gT.mono hle
  replace hs17 := hs17.mono hle
  replace hb5 := hb5.mono hle
  replace hs84 := SlR.of (R := xrl34) hs84 hs17
  refine q05 H (Y28 hx87) G ⟨gM, gT, hs84⟩ (q00 G) G ?_
  intro v35 M w H hle hR
  replace gM := gM.mono hle
  replace gT := gT.mono hle
  replace hs17 := hs17.mono hle
  replace hb5 := hb5.mono hle
  replace hs84 := hs84.mono hle
  try dsimp only at hR
  obtain rfl := hR
  refine q0g [_, _] H Tz27 G (q00 G) G ?_
  intro bk5 w H
  refine q0b [_, _] H G G G Ku Ts27 G Kf Kf (q00 G) ?_
  intro w H
  refine NL (TN (SQ ?_))
  obtain ⟨b88, hx89, h⟩ := bnd h
  refine RG (ST (q0v H G Km Ta27 Ts27 Kf) G ?_)
  refine q05 H (Y2k hx89) G trivial (q00 G) G ?_
  intro v37 M w H hle hR
  replace gM := gM.mono hle
  replace gT := gT.mono hle
  replace hs84 := hs84.mono hle
  replace hb5 := hb5.mono hle
  obtain rfl := hR
  refine NL (TN ?_)
  refine q0o G (fun hk90 => ?_) (fun hk90 => ?_)
  ·
   subst hk90
   rw [if_pos rfl] at h
   refine SQ ?_
   obtain ⟨⟨n91, n92⟩, hx93, h⟩ := bnd h
   try dsimp only at h
   refine RG (ST (q03 Tu27 G Ts3 Dc G) G (ST (XL H Ta3) G ?_))
   refine q05 H (Y0E hx93) G trivial (q00 G) G ?_
   intro v40 M w H hle hR
   replace gM := gM.mono hle
   replace gT := gT.mono hle
   replace hs84 := hs84.mono hle
   replace hb5 := hb5.mono hle
   try dsimp only at hR
   obtain rfl := hR
   refine q0O [_] H G G (q1p _ _ _) Ku Kf Ts22 (by first | decide | (simp; done) | (simp; omega)) (q00 G) ?_
   intro w H
   refine q0b [_, _] H G G G Ku Ts27 G Kf Kf (q00 G) ?_
   intro w H
   refine NL (TN (RT ?_))
   obtain rfl := oI h
   exact WQ.dretD2 G ⟨_, G, H.load1 Km Ta22 Kf⟩ ⟨_, G, H.loadAgg Km Ta27 Ts27 Kf⟩ H.ext (fun _ hK => parse_ret hK) (⟨_, G, SlR.nil⟩)
  subst hk90
  rw [if_neg l07] at h
  refine SK (TN (SQ ?_))
  obtain ⟨⟨n94, n95⟩, hx96, h⟩ := bnd h
  try dsimp only at h
  refine q1Z (fun e w => ∃  (M : Mem), e = [(1, ptr bk1 0), (2, ptr bk2 0), (3, ptr bk3 0)] ∧ St w0 M0 M [.blk bk2 (.cells #[v15] 22), .blk bk3 (.cells #[I n94, I n95] 27)] w ∧ GlF (fun w => ∃ m, w.cell? ⟨2, 0, none⟩ = some (.int .i64 m)) M ∧ Tabs M ∧ PtM M bk1 (.cells #[S p0] 9) ∧ SlR xrl34 M v15 l14) ?_ ?_
  ·
   refine q0F (m := 4) G G H ?_
   intro w H
   refine q0P (i := 0) (j := 1) Kr G G ?_ ?_
   ·
    refine ST (XL H Ta22) G ?_
    refine NA (q0s (fuel := 0) [1, 2, 3] G Kr (q05 H (Y0P hx96) G trivial (q00 G) G ?_))
    intro v42 M w H hle hR
    replace gM := gM.mono hle
    replace gT := gT.mono hle
    replace hs84 := hs84.mono hle
    replace hb5 := hb5.mono hle
    try dsimp only at hR
    obtain rfl := hR
    refine q0O [_] H G G (hs84.one) Ku Kf Ts22 (by first | decide | (simp; done) | (simp; omega)) (q00 G) ?_
    intro w H
    refine q0b [_, _] H G G G Ku Ts27 G Kf Kf (q00 G) ?_
    intro w H
    refine NA (q0h Kr ?_)
    exact MP ⟨_, G, (H.pick (L' := [.blk bk2 (.cells #[v15] 22), .blk bk3 (.cells #[I n94, I n95] 27)]) Kp), gM, gT, hb5, hs84⟩
   refine q05 H (Y0P hx96) G trivial (q00 G) G ?_
   intro v42 M w H hle hR
   replace gM := gM.mono hle
   replace gT := gT.mono hle
   replace hs84 := hs84.mono hle
   replace hb5 := hb5.mono hle
   try dsimp only at hR
   obtain rfl := hR
   refine NA (q0s (fuel := 0) [0, 2, 3] G Kr (ST (XL H Ta22) G ?_))
   refine q0O [_] H G G (hs84.one) Ku Kf Ts22 (by first | decide | (simp; done) | (simp; omega)) (q00 G) ?_
   intro w H
   refine q0b [_, _] H G G G Ku Ts27 G Kf Kf (q00 G) ?_
   intro w H
   refine NA (q0h Kr ?_)
   exact MP ⟨_, G, (H.pick (L' := [.blk bk2 (.cells #[v15] 22), .blk bk3 (.cells #[I n94, I n95] 27)]) Kp), gM, gT, hb5, hs84⟩
  rintro e w ⟨M, rfl, H, gM, gT, hb5, hs84⟩
  refine TN (RT ?_)
  obtain rfl := oI h
  exact WQ.dretD2 G ⟨_, G, H.load1 Km Ta22 Kf⟩ ⟨_, G, H.loadAgg Km Ta27 Ts27 Kf⟩ H.ext (fun _ hK => parse_ret hK) (⟨_, G, hs84⟩)
 try dsimp only at h
 obtain rfl := oI h
 refine RG (MV G G ?_)
 refine q0C (A := [.blk bk13 (.cells #[S p0, I 0] 72)]) (B := [.blk bk3 (.cells #[I 0, I 0] 27), .blk bk2 (.cells #[Value.slice none 0 0] 22)]) (H.pick (L' := [.blk bk13 (.cells #[S p0, I 0] 72), .blk bk3 (.cells #[I 0, I 0] 27), .blk bk2 (.cells #[Value.slice none 0 0] 22)]) Kp) (Y0n hx8) (.left (q0j _)) G trivial (q00 G) ?_
 intro M w H hle
 (repeat (first | refine q0M ?_ | refine q0W ?_ | refine q0S ?_ | refine q0X ?_))
 exact parse_pan (s := p0) (n := n10) H Kp (hb5.mono hle) G G (fun M => ⟨_, G, SlR.nil⟩)
theorem Y3J {p0 : (Ls × Ls × Ls)} {r : (Ls × (Int × Int))} (h : Y2v p0 = some r) : Ct Tryz.prog 23 [Value.agg #[S p0.1, S p0.2.1, S p0.2.2]] (fun M => GlF (fun w => ∃ m, w.cell? ⟨2, 0, none⟩ = some (.int .i64 m)) M ∧ Tabs M) (fun v M => v = Value.tuple #[S r.1, Value.agg #[I r.2.1, I r.2.2]]) := by
 refine Ct.of Tryz.func23 (enters Tryz.func23 Kr G) G G G ?_
 intro w0 M0 H hp
 obtain ⟨gM, gT⟩ := hp
 unfold Y2v at h
 refine SQ (RG (q1t [_, _, _] H G G (q00 G) G ?_))
 intro bk1 w H
 refine AS G G (q0g [_, _] H Tz27 G (q00 G) G ?_)
 intro bk3 w H
 refine NL (TN (SQ (SQ ?_)))
 obtain ⟨⟨n1, n2⟩, hx3, h⟩ := bnd h
 try dsimp only at h
 refine RG (ST (q0v H G Km Ta24 Ts24 Kf) G ?_)
 refine q05 H (Y1c hx3) G ⟨gM, gT⟩ (q00 G) G ?_
 intro v6 M w H hle hR
 replace gM := gM.mono hle
 replace gT := gT.mono hle
 try dsimp only at hR
 obtain rfl := hR
 refine q0g [_, _] H Tz27 G (q00 G) G ?_
 intro bk4 w H
 refine q0b [_, _] H G G G Ku Ts27 G Kf Kf (q00 G) ?_
 intro w H
 refine NL (TN (SQ ?_))
 obtain ⟨b4, hx5, h⟩ := bnd h
 refine RG (ST (q0v H G Km Ta27 Ts27 Kf) G ?_)
 refine q05 H (Y2k hx5) G trivial (q00 G) G ?_
 intro v8 M w H hle hR
 replace gM := gM.mono hle
 replace gT := gT.mono hle
 obtain rfl := hR
 refine NL (TN ?_)
 refine q0o G (fun hk6 => ?_) (fun hk6 => ?_)
 ·
  subst hk6
  rw [if_pos rfl] at h
  refine SQ (q0F (m := 3) G G H ?_)
  intro w H
  refine TK 1 G (fun _ => Ex.assign G) G (q0s (fuel := 0) [0, 2] G Kr (ST (q0v H G Km Ta27 Ts27 Kf) G ?_))
  refine q0b [_, _] H G G G Ku Ts27 G Kf Kf (q00 G) ?_
  intro w H
  refine NA (q0h Kr (TN (RT ?_)))
  obtain rfl := oI h
  exact q0H G G ⟨_, G, H.loadAgg Km Ta27 Ts27 Kf⟩ H.ext G
 subst hk6
 rw [if_neg l07] at h
 refine SK (TN (SQ ?_))
 obtain ⟨s7, hx8, h⟩ := bnd h
 refine RG (ST (q03 Tu24 G Ts9 Dc G) G (ST (XL H Ta9) G ?_))
 refine q05 H (Y4G hx8) G trivial (q00 G) G ?_
 intro v12 M w H hle hR
 replace gM := gM.mono hle
 replace gT := gT.mono hle
 obtain rfl := hR
 refine ST (q03 Tu24 G Ts9 Dc G) G (q1s [_, _, _] H G G Ku Kf Ts9 (by first | decide | (simp; done) | (simp; omega)) Kf Kf (q00 G) ?_)
 intro w H
 refine NL (TN (SQ ?_))
 obtain ⟨s9, hx10, h⟩ := bnd h
 obtain ⟨⟨n11, n12⟩, hx13, h⟩ := bnd h
 try dsimp only at h
 refine RG (ST (q0v H G Km Ta24 Ts24 Kf) G ?_)
 refine q05 H (Y1n hx10) G ⟨gM, gT⟩ (q00 G) G ?_
 intro v15 M w H hle hR
 replace gM := gM.mono hle
 replace gT := gT.mono hle
 obtain rfl := hR
 refine q05 H (Y0P hx13) G trivial (q00 G) G ?_
 intro v16 M w H hle hR
 replace gM := gM.mono hle
 replace gT := gT.mono hle
 try dsimp only at hR
 obtain rfl := hR
 refine AS G G (q0b [_, _] H G G G Ku Ts27 G Kf Kf (q00 G) ?_)
 intro w H
 refine NL (TN (RT ?_))
 obtain rfl := oI h
 exact q0H G G ⟨_, G, H.loadAgg Km Ta27 Ts27 Kf⟩ H.ext G
theorem Y49 {p0 : List (Ls × Bool × List (Ls × Ls × Ls))} {vp0 : Value} {r : (List (Ls × Ls × Ls) × (Int × Int))} (h : Y2U p0 = some r) : Ct Tryz.prog 14 [vp0] (fun M => GlF (fun w => ∃ m, w.cell? ⟨2, 0, none⟩ = some (.int .i64 m)) M ∧ Tabs M ∧ SlR xrl34 M vp0 p0) (fun v M => ∃ x0, v = Value.tuple #[x0, Value.agg #[I r.2.1, I r.2.2]] ∧ SlS M 3 xenc24 x0 r.1) := by
 refine Ct.of Tryz.func14 (enters Tryz.func14 Kr G) G G G ?_
 intro w0 M0 H hp
 obtain ⟨gM, gT, hp0⟩ := hp
 unfold Y2U at h
 refine SQ (RG (AS G G (q0g [_, _] H Tz27 G (q00 G) G ?_)))
 intro bk3 w H
 refine NL (TN (SQ (SQ ?_)))
 obtain ⟨⟨n1, n2⟩, hx3, h⟩ := bnd h
 try dsimp only at h
 refine RG (MV G G (q05 H (Y28 hx3) G ⟨gM, gT, hp0⟩ (q00 G) G ?_))
 intro v9 M w H hle hR
 replace gM := gM.mono hle
 replace gT := gT.mono hle
 replace hp0 := hp0.mono hle
 try dsimp only at hR
 obtain rfl := hR
 refine q0g [_, _] H Tz27 G (q00 G) G ?_
 intro bk4 w H
 refine q0b [_, _] H G G G Ku Ts27 G Kf Kf (q00 G) ?_
 intro w H
 refine NL (TN (SQ ?_))
 obtain ⟨b4, hx5, h⟩ := bnd h
 refine RG (ST (q0v H G Km Ta27 Ts27 Kf) G ?_)
 refine q05 H (Y2k hx5) G trivial (q00 G) G ?_
 intro v11 M w H hle hR
 replace gM := gM.mono hle
 replace gT := gT.mono hle
 replace hp0 := hp0.mono hle
 obtain rfl := hR
 refine NL (TN ?_)
 refine q0o G (fun hk6 => ?_) (fun hk6 => ?_)
 ·
  subst hk6
  rw [if_pos rfl] at h
  refine SQ (q0F (m := 3) G G H ?_)
  intro w H
  refine TK 1 G (fun _ => Ex.assign G) G (q0s (fuel := 0) [0, 2] G Kr (ST (q0v H G Km Ta27 Ts27 Kf) G ?_))
  refine q0b [_, _] H G G G Ku Ts27 G Kf Kf (q00 G) ?_
  intro w H
  refine NA (q0h Kr (TN (RT ?_)))
  obtain rfl := oI h
  exact q0H G G ⟨_, G, H.loadAgg Km Ta27 Ts27 Kf⟩ H.ext (⟨_, G, (SlS.nil _ _ (fun _ => G))⟩)
 subst hk6
 rw [if_neg l07] at h
 refine SK (TN (SQ (RG (AS G G (NL (TN (SQ (SQ (RG (MV G G (ST (q1q Tu22 hp0 G) G (MV G G (NL (TN ?_))))))))))))))
 obtain ⟨o7, e8, h⟩ := bnd h
 refine q0l (fun e w => ∃ (l10 : List (Ls × Ls × Ls)) (v11 : Value) (M : Mem), e = [(3, ptr bk3 0), (5, v11)] ∧ St w0 M0 M [.blk bk3 (.cells #[I 0, I 0] 27), RowS 24 3 xenc24 v11 l10] w ∧ GlF (fun w => ∃ m, w.cell? ⟨2, 0, none⟩ = some (.int .i64 m)) M ∧ Tabs M ∧ some l10 = some o7) [] ?_ ?_ (trivial)
 ·
  refine BL ?_
  replace H := H.newRowS 24 3 xenc24
  refine q0J (fun m e w => ∃ (l13 : List (Ls × Ls × Ls)) (v14 : Value) (n15 : Int) (M : Mem), e = [(3, ptr bk3 0), (5, v14), (13, vp0), (14, I (p0.length : Int)), (15, I n15)] ∧ St w0 M0 M [.blk bk3 (.cells #[I 0, I 0] 27), RowS 24 3 xenc24 v14 l13] w ∧ GlF (fun w => ∃ m, w.cell? ⟨2, 0, none⟩ = some (.int .i64 m)) M ∧ Tabs M ∧ SlR xrl34 M vp0 p0 ∧ Y1y p0 m l13 n15 = some o7) FU [(3, _), (5, _), (13, _), (14, _), (15, _)] ⟨rfl, rfl, rfl, rfl, rfl, trivial⟩ ⟨_, _, _, _, rfl, (H.pick (L' := [.blk bk3 (.cells #[I 0, I 0] 27), RowS 24 3 xenc24 (Value.slice none 0 0) []]) Kp), gM, gT, hp0, e8⟩ ?_
  rintro m16 e w ⟨l13, v14, n15, M, rfl, H, gM, gT, hp0, e8⟩
  rcases m16 with _ | m16
  · rw [Y1y] at e8; cases e8
  rw [Y1y] at e8
  refine SQ (RG (ST (q0n G G) G (NL (TN (SQ ?_)))))
  refine CB (p := n15 < (p0.length : Int)) G (fun hk18 => ?_) fun hk18 => ?_
  ·
   rw [if_pos hk18] at e8
   refine SK (TN (SQ (BL (SQ ?_))))
   obtain ⟨a19, hxa19, e8⟩ := bnd e8
   obtain ⟨bk17, o17, fq17, ha17, hc17, hr17⟩ := hp0.atC hxa19
   obtain ⟨f17_0, f17_1, q17_2⟩ := fq17
   replace hr17 : f17_0 = a19.1 ∧ f17_1 = a19.2.1 ∧ SlS M 3 xenc24 (hv q17_2) a19.2.2 := hr17
   obtain ⟨rfl, rfl, hs17_2⟩ := hr17
   refine RG (ST (q0t ha17 Tu22 Ts34 G G) G (ST (q1e H G hc17 Ta34 Ts34 Kf) G ?_))
   refine q0g [_, _, _] H Tz34 G (q00 G) G ?_
   intro bk7 w H
   refine q0b [_, _, _] H G G G Ku Ts34 G Kf (by simp only [l0A, l1W, (hs17_2).one.2]; rfl) (q00 G) ?_
   intro w H
   refine NL (TN ?_)
   obtain ⟨l20, hx21, e8⟩ := bnd e8
   obtain ⟨l22, hxl22, e8⟩ := bnd e8
   refine RG (MV G G (ST (q03 Tu34 G Ts30 Dc G) G (ST (XL H Ta30) G ?_)))
   refine q05 H (Y3M hx21) G (hs17_2) (q00 G) G ?_
   intro v22 M w H hle hR
   replace gM := gM.mono hle
   replace gT := gT.mono hle
   replace hp0 := hp0.mono hle
   replace hc17 := hc17.mono hle
   replace hs17_2 := hs17_2.mono hle
   have f22_0 := hR
   refine q2d (l := l13) xty30 G xone24 H G (fun _ => by repeat first | exact .head | apply Upd.tail) G (f22_0) hxl22 (q00 G) G ?_
   intro v23 w H
   refine AS G G (NL (IB (TN ?_)))
   obtain ⟨n23, hxn23, e8⟩ := bnd e8
   refine RG (ST (q0u G G hxn23) G (MV G G (NL ?_)))
   exact AG m16 ⟨_, _, _, _, G, (H.pick (L' := [.blk bk3 (.cells #[I 0, I 0] 27), RowS 24 3 xenc24 v23 l22]) Kp), gM, gT, hp0, e8⟩ (l0a _)
  rw [if_neg hk18] at e8
  refine q0m (q06 (q06 (q0f ?_)))
  exact MN ⟨_, _, _, G, H, gM, gT, e8⟩
 rintro e w ⟨l10, v11, M, rfl, H, gM, gT, q24⟩
 obtain rfl := oI q24
 refine TN (SQ ?_)
 obtain ⟨⟨n25, n26⟩, hx27, h⟩ := bnd h
 try dsimp only at h
 refine RG (MV G G (q05 H (Y0P hx27) G trivial (q00 G) G ?_))
 intro v26 M w H hle hR
 replace gM := gM.mono hle
 replace gT := gT.mono hle
 try dsimp only at hR
 obtain rfl := hR
 refine AS G G (q0b [_, _] H G G G Ku Ts27 G Kf Kf (q00 G) ?_)
 intro w H
 refine NL (TN (RT ?_))
 obtain ⟨M, hle, hs28, H⟩ := H.freezeRowS (v := v11) (enc := xenc24) (t := 24) Kv (fun _ => rfl)
 replace gM := gM.mono hle
 replace gT := gT.mono hle
 obtain rfl := oI h
 exact q0H G G ⟨_, G, H.loadAgg Km Ta27 Ts27 Kf⟩ H.ext (⟨_, G, hs28⟩)
set_option maxHeartbeats 4000000 in
theorem Y2B  {r : Bool} (h : Y0O = some r) : Ct Tryz.prog 9 [] (fun M => GlF (fun w => ∃ m, w.cell? ⟨2, 0, none⟩ = some (.int .i64 m)) M ∧ Tabs M) (fun v M => v = Value.bool r) := by
 refine Ct.of Tryz.func9 (enters Tryz.func9 Kr G) G G G ?_
 intro w0 M0 H hp
 obtain ⟨gM, gT⟩ := hp
 unfold Y0O at h
 refine SQ (RG (AS G G (NL (TN (SQ ?_)))))
 obtain ⟨⟨s2, ⟨n3, n4⟩⟩, hx5, h⟩ := bnd h
 try dsimp only at h
 refine RG (ST (q0L [S [65, 46, 32, 66], S [97], S [120]] Tu24 Tz24 (xplaces24 Tu24) G G) G (q1E (enc := xenc24) xty30 ([([65, 46, 32, 66], [97], [120])] : List (Ls × Ls × Ls)) H (fun _ => G) G Kr G G G (q00 G) G ?_))
 intro v11 M w H hle hs11
 replace gM := gM.mono hle
 replace gT := gT.mono hle
 refine ST (q0L [S [], Value.bool false, v11] Tu34 Tz34 (xplaces34 Tu34) G (by obtain ⟨_, _, _, hv, -⟩ := hs11; rw [hv]; clear hv; rfl)) G ?_
 obtain ⟨q1, rfl⟩ := hs11.hd
 refine q1E (enc := xrl34.enc) xty22 ([([], false, q1)] : List (Ls × Bool × Hd)) H (fun _ => G) G Kr G G G (q00 G) G ?_
 intro v13 M w H hle hs13
 replace gM := gM.mono hle
 replace gT := gT.mono hle
 replace hs11 := hs11.mono hle
 replace hs13 := SlR.of (R := xrl34) (l := ([([], false, ([([65, 46, 32, 66], [97], [120])] : List (Ls × Ls × Ls)))] : List (Ls × Bool × List (Ls × Ls × Ls)))) hs13 ⟨⟨rfl, rfl, hs11⟩, trivial⟩
 refine q05 H (Y3Q hx5) G ⟨gM, gT, hs13⟩ (q00 G) G ?_
 intro v14 M w H hle hR
 replace gM := gM.mono hle
 replace gT := gT.mono hle
 replace hs11 := hs11.mono hle
 replace hs13 := hs13.mono hle
 try dsimp only at hR
 obtain rfl := hR
 refine MV G G (ST (q0e G G) G (ST (q0e G G) G (q0g [_, _] H Tz27 G (q00 G) G ?_)))
 intro bk2 w H
 refine AS G G (q0b [_, _] H G G G Ku Ts27 G Kf Kf (q00 G) ?_)
 intro w H
 refine NL (TN (SQ ?_))
 obtain ⟨⟨l6, ⟨n7, n8⟩⟩, hx9, h⟩ := bnd h
 try dsimp only at h
 refine RG (q05 H (Y3S hx9) G ⟨gM, gT⟩ (q00 G) G ?_)
 intro v18 M w H hle hR
 replace gM := gM.mono hle
 replace gT := gT.mono hle
 replace hs11 := hs11.mono hle
 replace hs13 := hs13.mono hle
 try dsimp only at hR
 obtain ⟨x18_0, rfl, f18_0⟩ := hR
 refine MV G G (ST (q0e G G) G (ST (q0e G G) G (q0g [_, _] H Tz27 G (q00 G) G ?_)))
 intro bk4 w H
 refine AS G G (q0b [_, _] H G G G Ku Ts27 G Kf Kf (q00 G) ?_)
 intro w H
 refine NL (TN (SQ ?_))
 obtain ⟨⟨s10, ⟨n11, n12⟩⟩, hx13, h⟩ := bnd h
 try dsimp only at h
 refine RG (ST (q0L [S [], S [65], S [88, 46, 69, 120, 97, 109, 112, 108, 101]] Tu24 Tz24 (xplaces24 Tu24) G G) G (q05 H (Y3J hx13) G ⟨gM, gT⟩ (q00 G) G ?_))
 intro v23 M w H hle hR
 replace gM := gM.mono hle
 replace gT := gT.mono hle
 replace hs11 := hs11.mono hle
 replace hs13 := hs13.mono hle
 replace f18_0 := f18_0.mono hle
 try dsimp only at hR
 obtain rfl := hR
 refine MV G G (ST (q0e G G) G (ST (q0e G G) G (q0g [_, _] H Tz27 G (q00 G) G ?_)))
 intro bk6 w H
 refine AS G G (q0b [_, _] H G G G Ku Ts27 G Kf Kf (q00 G) ?_)
 intro w H
 refine NL (TN (SQ ?_))
 obtain ⟨⟨l14, ⟨n15, n16⟩⟩, hx17, h⟩ := bnd h
 try dsimp only at h
 refine RG (MV G G (q05 H (Y49 hx17) G ⟨gM, gT, f18_0⟩ (q00 G) G ?_))
 intro v28 M w H hle hR
 replace gM := gM.mono hle
 replace gT := gT.mono hle
 replace hs11 := hs11.mono hle
 replace hs13 := hs13.mono hle
 replace f18_0 := f18_0.mono hle
 try dsimp only at hR
 obtain ⟨x28_0, rfl, f28_0⟩ := hR
 refine MV G G (ST (q0e G G) G (ST (q0e G G) G (q0g [_, _] H Tz27 G (q00 G) G ?_)))
 intro bk8 w H
 refine AS G G (q0b [_, _] H G G G Ku Ts27 G Kf Kf (q00 G) ?_)
 intro w H
 refine NL (TN (SQ ?_))
 obtain ⟨o18, e19, h⟩ := bnd h
 refine q0l (fun e w => ∃ (b20 : Bool) (M : Mem), e = [(0, Value.bool b20)] ∧ St w0 M0 M [] w ∧ GlF (fun w => ∃ m, w.cell? ⟨2, 0, none⟩ = some (.int .i64 m)) M ∧ Tabs M ∧ some b20 = some o18) [] ?_ ?_ (trivial)
 ·
  refine RG (ST (q03 Tu27 G Ts3 Dc G) G (ST (XL H Ta3) G ?_))
  by_cases hk21 : n3 = (0 : Int)
  ·
   rw [if_pos hk21] at e19
   by_cases hk22 : n7 = (0 : Int)
   ·
    rw [if_pos hk22] at e19
    by_cases hk23 : n11 = (0 : Int)
    ·
     rw [if_pos hk23] at e19
     by_cases hk24 : n15 = (0 : Int)
     ·
      rw [if_pos hk24] at e19
      by_cases hk25 : s2 = [34, 65, 46, 32, 66, 34, 32, 60, 97, 64, 120, 62]
      ·
       rw [if_pos hk25] at e19
       by_cases hk26 : (l6.length : Int) = (1 : Int)
       ·
        rw [if_pos hk26] at e19
        obtain ⟨a27, hxa27, e19⟩ := bnd e19
        obtain ⟨bk60, o60, fq60, ha60, hc60, hr60⟩ := f18_0.atC hxa27
        obtain ⟨f60_0, f60_1, q60_2⟩ := fq60
        replace hr60 : f60_0 = a27.1 ∧ f60_1 = a27.2.1 ∧ SlS M 3 xenc24 (hv q60_2) a27.2.2 := hr60
        obtain ⟨rfl, rfl, hs60_2⟩ := hr60
        by_cases hk28 : a27.2.1 = true
        ·
         rw [if_pos hk28] at e19
         obtain ⟨a29, hxa29, e19⟩ := bnd e19
         obtain ⟨bk66, o66, fq66, ha66, hc66, hr66⟩ := f18_0.atC hxa29
         obtain ⟨f66_0, f66_1, q66_2⟩ := fq66
         replace hr66 : f66_0 = a29.1 ∧ f66_1 = a29.2.1 ∧ SlS M 3 xenc24 (hv q66_2) a29.2.2 := hr66
         obtain ⟨rfl, rfl, hs66_2⟩ := hr66
         by_cases hk30 : a29.1 = [103]
         ·
          rw [if_pos hk30] at e19
          by_cases hk31 : s10 = [65, 64, 120, 46, 101, 120, 97, 109, 112, 108, 101]
          ·
           rw [if_pos hk31] at e19
           by_cases hk32 : (l14.length : Int) = (2 : Int)
           ·
            rw [if_pos hk32] at e19
            obtain ⟨a33, hxa33, e19⟩ := bnd e19
            obtain ⟨bk82, o82, ha82, hc82⟩ := f28_0.atC hxa33
            refine DT hk21 (q0c G G) G (MV G G (SG (q03 Tu27 G Ts3 Dc G) G G G (SG (XL H Ta3) G G G ?_)))
            refine DU hk22 (q0c G G) G G G (PT G G G (MV G G (SG (q03 Tu27 G Ts3 Dc G) G G G (SG (XL H Ta3) G G G ?_))))
            refine DU hk23 (q0c G G) G G G (PT G G G (MV G G (SG (q03 Tu27 G Ts3 Dc G) G G G (SG (XL H Ta3) G G G ?_))))
            refine DU hk24 (q0c G G) G G G (PT G G G (MV G G (SG (q02 G) G G G (DU hk25 (q0I G G) G G G (PT G G G (MV G G (SG (q02 G) G G G (SG (q1q Tu22 f18_0 G) G G G (DU hk26 (q0c G G) G G G (PT G G G (MV G G (SG (q02 G) G G G (SG (q0t ha60 Tu22 Ts34 G G) G G G (SG (q03 Tu34 G Ts4 Dc G) G G G (q09 (v' := .bool true) (q08 H G (hc60.at (j := 1) G) Ta4) (congrArg Value.bool hk28) (q04 G G G) G G (PT G G G ?_))))))))))))))))
            refine MV G G (SG (q02 G) G G G (SG (q0t ha66 Tu22 Ts34 G G) G G G (SG (q03 Tu34 G Ts9 Dc G) G G G (SG (q08 H G (hc66.at (j := 0) G) Ta9) G G G (DU hk30 (q0I G G) G G G (PT G G G (MV G G (SG (q02 G) G G G (DU hk31 (q0I G G) G G G (PT G G G (MV G G (SG (q02 G) G G G (SG (q1k Tu30 f28_0 G) G G G (DU hk32 (q0c G G) G G G (PT G G G (MV G G (SG (q02 G) G G G (SG (q0t ha82 Tu30 Ts24 G G) G G G ?_))))))))))))))))))
            refine SG (q03 Tu24 G Ts9 Dc G) G G G (SG (q08 H G (hc82.at (j := 1) G) Ta9) G G G (SG (q0I G G) G G G (PT G G G (AS G G (NL ?_)))))
            exact MN ⟨_, _, G, (H.pick (L' := []) Kp), gM, gT, e19⟩
           rw [if_neg hk32] at e19
           refine DT hk21 (q0c G G) G (MV G G (SG (q03 Tu27 G Ts3 Dc G) G G G (SG (XL H Ta3) G G G ?_)))
           refine DU hk22 (q0c G G) G G G (PT G G G (MV G G (SG (q03 Tu27 G Ts3 Dc G) G G G (SG (XL H Ta3) G G G ?_))))
           refine DU hk23 (q0c G G) G G G (PT G G G (MV G G (SG (q03 Tu27 G Ts3 Dc G) G G G (SG (XL H Ta3) G G G ?_))))
           refine DU hk24 (q0c G G) G G G (PT G G G (MV G G (SG (q02 G) G G G (DU hk25 (q0I G G) G G G (PT G G G (MV G G (SG (q02 G) G G G (SG (q1q Tu22 f18_0 G) G G G (DU hk26 (q0c G G) G G G (PT G G G (MV G G (SG (q02 G) G G G (SG (q0t ha60 Tu22 Ts34 G G) G G G (SG (q03 Tu34 G Ts4 Dc G) G G G (q09 (v' := .bool true) (q08 H G (hc60.at (j := 1) G) Ta4) (congrArg Value.bool hk28) (q04 G G G) G G (PT G G G ?_))))))))))))))))
           refine MV G G (SG (q02 G) G G G (SG (q0t ha66 Tu22 Ts34 G G) G G G (SG (q03 Tu34 G Ts9 Dc G) G G G (SG (q08 H G (hc66.at (j := 0) G) Ta9) G G G (DU hk30 (q0I G G) G G G (PT G G G (MV G G (SG (q02 G) G G G (DU hk31 (q0I G G) G G G (PT G G G (MV G G (SG (q02 G) G G G (SG (q1k Tu30 f28_0 G) G G G (DG hk32 (q0c G G) G G G (PT G G G (MV G G (q0i 5 G G (PF G G G (AS G G (NL ?_))))))))))))))))))))
           exact MN ⟨_, _, G, (H.pick (L' := []) Kp), gM, gT, e19⟩
          rw [if_neg hk31] at e19
          refine DT hk21 (q0c G G) G (MV G G (SG (q03 Tu27 G Ts3 Dc G) G G G (SG (XL H Ta3) G G G ?_)))
          refine DU hk22 (q0c G G) G G G (PT G G G (MV G G (SG (q03 Tu27 G Ts3 Dc G) G G G (SG (XL H Ta3) G G G ?_))))
          refine DU hk23 (q0c G G) G G G (PT G G G (MV G G (SG (q03 Tu27 G Ts3 Dc G) G G G (SG (XL H Ta3) G G G ?_))))
          refine DU hk24 (q0c G G) G G G (PT G G G (MV G G (SG (q02 G) G G G (DU hk25 (q0I G G) G G G (PT G G G (MV G G (SG (q02 G) G G G (SG (q1q Tu22 f18_0 G) G G G (DU hk26 (q0c G G) G G G (PT G G G (MV G G (SG (q02 G) G G G (SG (q0t ha60 Tu22 Ts34 G G) G G G (SG (q03 Tu34 G Ts4 Dc G) G G G (q09 (v' := .bool true) (q08 H G (hc60.at (j := 1) G) Ta4) (congrArg Value.bool hk28) (q04 G G G) G G (PT G G G ?_))))))))))))))))
          refine MV G G (SG (q02 G) G G G (SG (q0t ha66 Tu22 Ts34 G G) G G G (SG (q03 Tu34 G Ts9 Dc G) G G G (SG (q08 H G (hc66.at (j := 0) G) Ta9) G G G (DU hk30 (q0I G G) G G G (PT G G G (MV G G (SG (q02 G) G G G (DG hk31 (q0I G G) G G G (PT G G G (MV G G (q0i 3 G G (PF G G G (MV G G (q0i 5 G G (PF G G G (AS G G (NL ?_))))))))))))))))))
          exact MN ⟨_, _, G, (H.pick (L' := []) Kp), gM, gT, e19⟩
         rw [if_neg hk30] at e19
         refine DT hk21 (q0c G G) G (MV G G (SG (q03 Tu27 G Ts3 Dc G) G G G (SG (XL H Ta3) G G G ?_)))
         refine DU hk22 (q0c G G) G G G (PT G G G (MV G G (SG (q03 Tu27 G Ts3 Dc G) G G G (SG (XL H Ta3) G G G ?_))))
         refine DU hk23 (q0c G G) G G G (PT G G G (MV G G (SG (q03 Tu27 G Ts3 Dc G) G G G (SG (XL H Ta3) G G G ?_))))
         refine DU hk24 (q0c G G) G G G (PT G G G (MV G G (SG (q02 G) G G G (DU hk25 (q0I G G) G G G (PT G G G (MV G G (SG (q02 G) G G G (SG (q1q Tu22 f18_0 G) G G G (DU hk26 (q0c G G) G G G (PT G G G (MV G G (SG (q02 G) G G G (SG (q0t ha60 Tu22 Ts34 G G) G G G (SG (q03 Tu34 G Ts4 Dc G) G G G (q09 (v' := .bool true) (q08 H G (hc60.at (j := 1) G) Ta4) (congrArg Value.bool hk28) (q04 G G G) G G (PT G G G ?_))))))))))))))))
         refine MV G G (SG (q02 G) G G G (SG (q0t ha66 Tu22 Ts34 G G) G G G (SG (q03 Tu34 G Ts9 Dc G) G G G (SG (q08 H G (hc66.at (j := 0) G) Ta9) G G G (DG hk30 (q0I G G) G G G (PT G G G (MV G G (GF G G G (GF G G G (PF G G G (MV G G (q0i 3 G G (PF G G G (MV G G (q0i 5 G G (PF G G G (AS G G (NL ?_))))))))))))))))))
         exact MN ⟨_, _, G, (H.pick (L' := []) Kp), gM, gT, e19⟩
        rw [if_neg hk28] at e19
        refine DT hk21 (q0c G G) G (MV G G (SG (q03 Tu27 G Ts3 Dc G) G G G (SG (XL H Ta3) G G G ?_)))
        refine DU hk22 (q0c G G) G G G (PT G G G (MV G G (SG (q03 Tu27 G Ts3 Dc G) G G G (SG (XL H Ta3) G G G ?_))))
        refine DU hk23 (q0c G G) G G G (PT G G G (MV G G (SG (q03 Tu27 G Ts3 Dc G) G G G (SG (XL H Ta3) G G G ?_))))
        refine DU hk24 (q0c G G) G G G (PT G G G (MV G G (SG (q02 G) G G G (DU hk25 (q0I G G) G G G (PT G G G (MV G G (SG (q02 G) G G G (SG (q1q Tu22 f18_0 G) G G G (DU hk26 (q0c G G) G G G (PT G G G (MV G G (SG (q02 G) G G G (SG (q0t ha60 Tu22 Ts34 G G) G G G (SG (q03 Tu34 G Ts4 Dc G) G G G (q09 (v' := .bool false) (q08 H G (hc60.at (j := 1) G) Ta4) (congrArg Value.bool (l1e hk28)) (q04 G G G) G G ?_)))))))))))))))
        refine PT G G G (MV G G (q0i 5 G G (PF G G G (MV G G (GF G G G (GF G G G (PF G G G (MV G G (q0i 3 G G (PF G G G (MV G G (q0i 5 G G (PF G G G (AS G G (NL ?_)))))))))))))))
        exact MN ⟨_, _, G, (H.pick (L' := []) Kp), gM, gT, e19⟩
       rw [if_neg hk26] at e19
       refine DT hk21 (q0c G G) G (MV G G (SG (q03 Tu27 G Ts3 Dc G) G G G (SG (XL H Ta3) G G G ?_)))
       refine DU hk22 (q0c G G) G G G (PT G G G (MV G G (SG (q03 Tu27 G Ts3 Dc G) G G G (SG (XL H Ta3) G G G ?_))))
       refine DU hk23 (q0c G G) G G G (PT G G G (MV G G (SG (q03 Tu27 G Ts3 Dc G) G G G (SG (XL H Ta3) G G G ?_))))
       refine DU hk24 (q0c G G) G G G (PT G G G (MV G G (SG (q02 G) G G G (DU hk25 (q0I G G) G G G (PT G G G (MV G G (SG (q02 G) G G G (SG (q1q Tu22 f18_0 G) G G G (DG hk26 (q0c G G) G G G (PT G G G (MV G G (q0i 4 G G (PF G G G (MV G G (q0i 5 G G (PF G G G (MV G G (GF G G G (GF G G G (PF G G G (MV G G (q0i 3 G G (PF G G G (MV G G (q0i 5 G G (PF G G G (AS G G (NL ?_))))))))))))))))))))))))))))
       exact MN ⟨_, _, G, (H.pick (L' := []) Kp), gM, gT, e19⟩
      rw [if_neg hk25] at e19
      refine DT hk21 (q0c G G) G (MV G G (SG (q03 Tu27 G Ts3 Dc G) G G G (SG (XL H Ta3) G G G ?_)))
      refine DU hk22 (q0c G G) G G G (PT G G G (MV G G (SG (q03 Tu27 G Ts3 Dc G) G G G (SG (XL H Ta3) G G G ?_))))
      refine DU hk23 (q0c G G) G G G (PT G G G (MV G G (SG (q03 Tu27 G Ts3 Dc G) G G G (SG (XL H Ta3) G G G ?_))))
      refine DU hk24 (q0c G G) G G G (PT G G G (MV G G (SG (q02 G) G G G (DG hk25 (q0I G G) G G G (PT G G G (MV G G (q0i 3 G G (PF G G G (MV G G (q0i 4 G G (PF G G G (MV G G (q0i 5 G G (PF G G G (MV G G (GF G G G (GF G G G (PF G G G (MV G G (q0i 3 G G (PF G G G (MV G G (q0i 5 G G (PF G G G (AS G G (NL ?_))))))))))))))))))))))))))
      exact MN ⟨_, _, G, (H.pick (L' := []) Kp), gM, gT, e19⟩
     rw [if_neg hk24] at e19
     refine DT hk21 (q0c G G) G (MV G G (SG (q03 Tu27 G Ts3 Dc G) G G G (SG (XL H Ta3) G G G ?_)))
     refine DU hk22 (q0c G G) G G G (PT G G G (MV G G (SG (q03 Tu27 G Ts3 Dc G) G G G (SG (XL H Ta3) G G G ?_))))
     refine DU hk23 (q0c G G) G G G (PT G G G (MV G G (SG (q03 Tu27 G Ts3 Dc G) G G G (SG (XL H Ta3) G G G ?_))))
     refine DG hk24 (q0c G G) G G G (PT G G G (MV G G (GF G G G (GF G G G (PF G G G (MV G G (q0i 3 G G (PF G G G (MV G G (q0i 4 G G (PF G G G (MV G G (q0i 5 G G (PF G G G (MV G G (GF G G G (GF G G G (PF G G G (MV G G (q0i 3 G G (PF G G G (MV G G (q0i 5 G G (PF G G G (AS G G (NL ?_))))))))))))))))))))))))))
     exact MN ⟨_, _, G, (H.pick (L' := []) Kp), gM, gT, e19⟩
    rw [if_neg hk23] at e19
    refine DT hk21 (q0c G G) G (MV G G (SG (q03 Tu27 G Ts3 Dc G) G G G (SG (XL H Ta3) G G G ?_)))
    refine DU hk22 (q0c G G) G G G (PT G G G (MV G G (SG (q03 Tu27 G Ts3 Dc G) G G G (SG (XL H Ta3) G G G ?_))))
    refine DG hk23 (q0c G G) G G G (PT G G G (MV G G (q0i 3 G G (PF G G G (MV G G (GF G G G (GF G G G (PF G G G (MV G G (q0i 3 G G (PF G G G (MV G G (q0i 4 G G (PF G G G (MV G G (q0i 5 G G (PF G G G (MV G G (GF G G G (GF G G G (PF G G G (MV G G (q0i 3 G G (PF G G G (MV G G (q0i 5 G G (PF G G G (AS G G (NL ?_)))))))))))))))))))))))))))))
    exact MN ⟨_, _, G, (H.pick (L' := []) Kp), gM, gT, e19⟩
   rw [if_neg hk22] at e19
   refine DT hk21 (q0c G G) G (MV G G (SG (q03 Tu27 G Ts3 Dc G) G G G (SG (XL H Ta3) G G G ?_)))
   refine DG hk22 (q0c G G) G G G (PT G G G (MV G G (q0i 3 G G (PF G G G (MV G G (q0i 3 G G (PF G G G (MV G G (GF G G G (GF G G G (PF G G G (MV G G (q0i 3 G G (PF G G G (MV G G (q0i 4 G G (PF G G G (MV G G (q0i 5 G G (PF G G G (MV G G (GF G G G (GF G G G (PF G G G (MV G G (q0i 3 G G (PF G G G (MV G G (q0i 5 G G (PF G G G (AS G G (NL ?_))))))))))))))))))))))))))))))))
   exact MN ⟨_, _, G, (H.pick (L' := []) Kp), gM, gT, e19⟩
  rw [if_neg hk21] at e19
  refine DF hk21 (q0c G G) G (MV G G (q0i 3 G G (PF G G G (MV G G (q0i 3 G G (PF G G G (MV G G (q0i 3 G G (PF G G G (MV G G (GF G G G (GF G G G (PF G G G (MV G G (q0i 3 G G (PF G G G (MV G G (q0i 4 G G (PF G G G (MV G G (q0i 5 G G (PF G G G (MV G G (GF G G G (GF G G G (PF G G G (MV G G (q0i 3 G G (PF G G G (MV G G (q0i 5 G G (PF G G G (AS G G (NL ?_))))))))))))))))))))))))))))))))))
  exact MN ⟨_, _, G, (H.pick (L' := []) Kp), gM, gT, e19⟩
 rintro e w ⟨b20, M, rfl, H, gM, gT, q34⟩
 obtain rfl := oI q34
 refine TN (RT ?_)
 obtain rfl := oI h
 exact q07 G G H.ext G
theorem R_At_ct {p0 : Int} {p1 : Int} {r : (Int × Int)} (h : R_At p0 p1 = some r) : Ct Tryz.prog 18 [I p0, I p1] (fun M => True) (fun v M => v = Value.agg #[I r.1, I r.2]) := by
 refine Ct.of Tryz.func18 (enters Tryz.func18 Kr G) G G G ?_
 intro w0 M0 H hp
 unfold R_At at h
 refine SQ (RG (q0g [_, _] H Tz27 G (q00 G) G ?_))
 intro bk4 w H
 refine NL (TN (SQ (RG (MV G G (MV G G (ST (q0L [I p0, I p1] Tu27 Tz27 (xplaces27 Tu27) G G) G (q0b [_, _] H G G G Ku Ts27 G Kf Kf (q00 G) ?_)))))))
 intro w H
 refine NL (TN (RT ?_))
 obtain rfl := oI h
 exact q07 G ⟨_, G, H.loadAgg Km Ta27 Ts27 Kf⟩ H.ext G
theorem Y2z {p0 : Ls} {r : Int} (h : Y1Q p0 = some r) : Ct Tryz.prog 34 [S p0] (fun M => True) (fun v M => v = I r) := by
 refine Ct.of Tryz.func34 (enters Tryz.func34 Kr G) G G G ?_
 intro w0 M0 H hp
 unfold Y1Q at h
 refine SQ (RG (AS G G (NL (TN (SQ (SQ (RG (MV G G (ST (q0k Tu9 G) G (ST (q0K G G) G (NL (TN ?_))))))))))))
 refine CB (p := (500 : Int) < (p0.length : Int)) G (fun hk1 => ?_) fun hk1 => ?_
 ·
  rw [if_pos hk1] at h
  refine SQ (RG (AS G G (NL (TN (RT ?_)))))
  obtain rfl := oI h
  exact q07 G G H.ext G
 rw [if_neg hk1] at h
 refine SK (TN (SQ (SQ ?_)))
 obtain ⟨b2, hx3, h⟩ := bnd h
 refine RG (MV G G (q05 H (Y52 hx3) G trivial (q00 G) G ?_))
 intro v7 M w H hle hR
 obtain rfl := hR
 refine ST (q0R G) G (NL (TN ?_))
 refine q0o G (fun hk4 => ?_) (fun hk4 => ?_)
 ·
  replace hk4 : b2 = false := by simpa using hk4
  subst hk4
  rw [if_neg l07] at h
  refine SQ (RG (AS G G (NL (TN (RT ?_)))))
  obtain rfl := oI h
  exact q07 G G H.ext G
 replace hk4 : b2 = true := by simpa using hk4
 subst hk4
 rw [if_pos rfl] at h
 refine SK (TN (SQ (RG (AS G G (NL (TN (RT ?_)))))))
 obtain rfl := oI h
 exact q07 G G H.ext G
theorem R_In_ct {p0 : Int} {p1 : Int} {p2 : Int} {r : Bool} (h : R_In p0 p1 p2 = some r) : Ct Tryz.prog 21 [I p0, I p1, I p2] (fun M => True) (fun v M => v = Value.bool r) := by
 refine Ct.of Tryz.func21 (enters Tryz.func21 Kr G) G G G ?_
 intro w0 M0 H hp
 unfold R_In at h
 refine SQ (RG (AS G G (NL (TN (SQ ?_)))))
 obtain ⟨o1, e2, h⟩ := bnd h
 refine q0l (fun e w => ∃ (b3 : Bool) (M : Mem), e = [(6, Value.bool b3)] ∧ St w0 M0 M [] w ∧ some b3 = some o1) [] ?_ ?_ (trivial)
 ·
  refine RG (MV G G (MV G G ?_))
  by_cases hk4 : p1 ≤ p0
  ·
   rw [if_pos hk4] at e2
   refine DT hk4 (q1b G G) G (MV G G (SG (q02 G) G G G (SG (q02 G) G G G (SG (q1G G G) G G G (PT G G G (AS G G (NL ?_)))))))
   exact MN ⟨_, _, G, H, e2⟩
  rw [if_neg hk4] at e2
  refine DF hk4 (q1b G G) G (MV G G (q0i 3 G G (PF G G G (AS G G (NL ?_)))))
  exact MN ⟨_, _, G, H, e2⟩
 rintro e w ⟨b3, M, rfl, H, q5⟩
 obtain rfl := oI q5
 refine TN (RT ?_)
 obtain rfl := oI h
 exact q07 G G H.ext G
theorem Y4K {p0 : Ls} {r : Bool} (h : Y3k p0 = some r) : Ct Tryz.prog 35 [S p0] (fun M => True) (fun v M => v = Value.bool r) := by
 refine Ct.of Tryz.func35 (enters Tryz.func35 Kr G) G G G ?_
 intro w0 M0 H hp
 unfold Y3k at h
 refine SQ (RG (AS G G (NL (TN (SQ (SQ (RG (AS G G (NL (TN ?_))))))))))
 obtain ⟨o1, e2, h⟩ := bnd h
 refine q0l (fun e w => ∃  (M : Mem), e = [(0, S p0)] ∧ St w0 M0 M [] w ∧ some (.inl ()) = some o1) [] ?_ ?_ (trivial)
 ·
  refine BL (q0J (fun m e w => ∃ (n3 : Int) (M : Mem), e = [(0, S p0), (3, I n3)] ∧ St w0 M0 M [] w ∧ Y1z p0 m n3 = some o1) FU [(0, _), (3, _)] ⟨rfl, rfl, trivial⟩ ⟨_, _, rfl, H, e2⟩ ?_)
  rintro m4 e w ⟨n3, M, rfl, H, e2⟩
  rcases m4 with _ | m4
  · rw [Y1z] at e2; cases e2
  rw [Y1z] at e2
  refine SQ (SQ (RG (MV G G (MV G G (ST (q0k Tu9 G) G (ST (q0n G G) G (NL (TN ?_))))))))
  refine CB (p := n3 < (p0.length : Int)) G (fun hk5 => ?_) fun hk5 => ?_
  ·
   rw [if_pos hk5] at e2
   refine SK (TN (SQ (BL (SQ ?_))))
   obtain ⟨c6, hxc6, e2⟩ := bnd e2
   obtain ⟨b7, hx8, e2⟩ := bnd e2
   refine RG (MV G G (MV G G (ST (q0N Tu9 G G hxc6) G (ST (q1i Tu5 Tu3 G) G (q05 H (R_In_ct hx8) G trivial (q00 G) G ?_)))))
   intro v14 M w H hle hR
   obtain rfl := hR
   refine ST (q0R G) G (NL (TN ?_))
   refine q0o G (fun hk9 => ?_) (fun hk9 => ?_)
   ·
    replace hk9 : b7 = false := by simpa using hk9
    subst hk9
    rw [if_neg l07] at e2
    refine SQ (RG (AS G G (NL (TN (RT ?_)))))
    obtain rfl := oI e2
    try dsimp only at h
    obtain rfl := oI h
    exact q07 G G H.ext G
   replace hk9 : b7 = true := by simpa using hk9
   subst hk9
   rw [if_pos rfl] at e2
   refine SK (IB (TN ?_))
   obtain ⟨n10, hxn10, e2⟩ := bnd e2
   refine RG (MV G G (ST (q0u G G hxn10) G (AS G G (NL ?_))))
   exact AG m4 ⟨_, _, G, H, e2⟩ (l0a _)
  rw [if_neg hk5] at e2
  refine q0m (q06 (q06 (q0f ?_)))
  exact MN ⟨_, G, H, e2⟩
 rintro e w ⟨M, rfl, H, q11⟩
 obtain rfl := oI q11
 try dsimp only at h
 refine TN (SQ ?_)
 obtain ⟨b12, hx13, h⟩ := bnd h
 refine RG (MV G G (ST (q0k Tu9 G) G (q05 H (R_In_ct hx13) G trivial (q00 G) G ?_)))
 intro v18 M w H hle hR
 obtain rfl := hR
 refine AS G G (NL (TN (RT ?_)))
 obtain rfl := oI h
 exact q07 G G H.ext G
theorem Y4D {p0 : UInt8} {r : Bool} (h : Y41 p0 = some r) : Ct Tryz.prog 73 [encB p0] (fun M => True) (fun v M => v = Value.bool r) := by
 refine Ct.of Tryz.func73 (enters Tryz.func73 Kr G) G G G ?_
 intro w0 M0 H hp
 unfold Y41 at h
 refine SQ (RG (AS G G (NL (TN (SQ (RG (MV G G (ST (q1i Tu5 Tu3 G) G (AS G G (NL (TN (SQ ?_))))))))))))
 obtain ⟨o1, e2, h⟩ := bnd h
 refine q0l (fun e w => ∃ (b3 : Bool) (M : Mem), e = [(2, Value.bool b3)] ∧ St w0 M0 M [] w ∧ some b3 = some o1) [] ?_ ?_ (trivial)
 ·
  obtain ⟨b4, hx5, e2⟩ := bnd e2
  refine RG (MV G G (q05 H (R_In_ct hx5) G trivial (q00 G) G ?_))
  intro v7 M w H hle hR
  obtain rfl := hR
  refine MV G G ?_
  rcases b4 with _ | _
  ·
   rw [if_neg l07] at e2
   obtain ⟨b6, hx7, e2⟩ := bnd e2
   refine SG (q02 G) G G G (q05 H (R_In_ct hx7) G trivial (q04 G G G) G ?_)
   intro v10 M w H hle hR
   obtain rfl := hR
   refine PF G G G (MV G G ?_)
   rcases b6 with _ | _
   ·
    rw [if_neg l07] at e2
    obtain ⟨b8, hx9, e2⟩ := bnd e2
    refine SG (q02 G) G G G (q05 H (R_In_ct hx9) G trivial (q04 G G G) G ?_)
    intro v14 M w H hle hR
    obtain rfl := hR
    refine PF G G G (AS G G (NL ?_))
    exact MN ⟨_, _, G, H, e2⟩
   rw [if_pos rfl] at e2
   refine GT G G G (GT G G G (PT G G G (AS G G (NL ?_))))
   exact MN ⟨_, _, G, H, e2⟩
  rw [if_pos rfl] at e2
  refine GT G G G (GT G G G (PT G G G (MV G G (GT G G G (GT G G G (PT G G G (AS G G (NL ?_))))))))
  exact MN ⟨_, _, G, H, e2⟩
 rintro e w ⟨b3, M, rfl, H, q10⟩
 obtain rfl := oI q10
 refine TN (RT ?_)
 obtain rfl := oI h
 exact q07 G G H.ext G
theorem Y56 {p0 : UInt8} {p1 : Ls} {r : Bool} (h : R_OneOf p0 p1 = some r) : Ct Tryz.prog 26 [encB p0, S p1] (fun M => True) (fun v M => v = Value.bool r) := by
 refine Ct.of Tryz.func26 (enters Tryz.func26 Kr G) G G G ?_
 intro w0 M0 H hp
 unfold R_OneOf at h
 refine SQ (RG (AS G G (NL (TN (SQ (SQ (RG (AS G G (NL (TN ?_))))))))))
 obtain ⟨o1, e2, h⟩ := bnd h
 refine q0l (fun e w => ∃  (M : Mem), e = [] ∧ St w0 M0 M [] w ∧ some (.inl ()) = some o1) [] ?_ ?_ (trivial)
 ·
  refine BL (q0J (fun m e w => ∃ (n3 : Int) (M : Mem), e = [(0, encB p0), (1, S p1), (5, I n3)] ∧ St w0 M0 M [] w ∧ Y3E p0 p1 m n3 = some o1) FU [(0, _), (1, _), (5, _)] ⟨rfl, rfl, rfl, trivial⟩ ⟨_, _, rfl, H, e2⟩ ?_)
  rintro m4 e w ⟨n3, M, rfl, H, e2⟩
  rcases m4 with _ | m4
  · rw [Y3E] at e2; cases e2
  rw [Y3E] at e2
  refine SQ (SQ (RG (MV G G (MV G G (ST (q0k Tu9 G) G (ST (q0n G G) G (NL (TN ?_))))))))
  refine CB (p := n3 < (p1.length : Int)) G (fun hk5 => ?_) fun hk5 => ?_
  ·
   rw [if_pos hk5] at e2
   refine SK (TN (SQ (BL (SQ ?_))))
   obtain ⟨c6, hxc6, e2⟩ := bnd e2
   refine RG (MV G G (MV G G (ST (q0N Tu9 G G hxc6) G (MV G G (ST (q1A (c := c6) (d := p0) G G) G (NL (TN ?_)))))))
   refine CB (p := c6 = p0) G (fun hk7 => ?_) fun hk7 => ?_
   ·
    rw [if_pos hk7] at e2
    refine SQ (RG (AS G G (NL (TN (RT ?_)))))
    obtain rfl := oI e2
    try dsimp only at h
    obtain rfl := oI h
    exact q07 G G H.ext G
   rw [if_neg hk7] at e2
   refine SK (IB (TN ?_))
   obtain ⟨n8, hxn8, e2⟩ := bnd e2
   refine RG (MV G G (ST (q0u G G hxn8) G (AS G G (NL ?_))))
   exact AG m4 ⟨_, _, G, H, e2⟩ (l0a _)
  rw [if_neg hk5] at e2
  refine q0m (q06 (q06 (q0f ?_)))
  exact MN ⟨_, G, H, e2⟩
 rintro e w ⟨M, rfl, H, q9⟩
 obtain rfl := oI q9
 try dsimp only at h
 refine TN (SQ (RG (AS G G (NL (TN (RT ?_))))))
 obtain rfl := oI h
 exact q07 G G H.ext G
theorem Y4m {p0 : UInt8} {r : Bool} (h : Y2V p0 = some r) : Ct Tryz.prog 72 [encB p0] (fun M => True) (fun v M => v = Value.bool r) := by
 refine Ct.of Tryz.func72 (enters Tryz.func72 Kr G) G G G ?_
 intro w0 M0 H hp
 unfold Y2V at h
 refine SQ (RG (AS G G (NL (TN (SQ ?_)))))
 obtain ⟨o1, e2, h⟩ := bnd h
 refine q0l (fun e w => ∃ (b3 : Bool) (M : Mem), e = [(2, Value.bool b3)] ∧ St w0 M0 M [] w ∧ some b3 = some o1) [] ?_ ?_ (trivial)
 ·
  obtain ⟨b4, hx5, e2⟩ := bnd e2
  refine RG (MV G G (q05 H (Y4D hx5) G trivial (q00 G) G ?_))
  intro v4 M w H hle hR
  obtain rfl := hR
  refine MV G G ?_
  rcases b4 with _ | _
  ·
   rw [if_neg l07] at e2
   obtain ⟨b6, hx7, e2⟩ := bnd e2
   refine SG (q02 G) G G G (q05 H (Y56 hx7) G trivial (q04 G G G) G ?_)
   intro v7 M w H hle hR
   obtain rfl := hR
   refine PF G G G (AS G G (NL ?_))
   exact MN ⟨_, _, G, H, e2⟩
  rw [if_pos rfl] at e2
  refine GT G G G (GT G G G (PT G G G (AS G G (NL ?_))))
  exact MN ⟨_, _, G, H, e2⟩
 rintro e w ⟨b3, M, rfl, H, q8⟩
 obtain rfl := oI q8
 refine TN (RT ?_)
 obtain rfl := oI h
 exact q07 G G H.ext G
theorem Y4E {p0 : Ls} {p1 : Bool} {r : Bool} (h : Y3s p0 p1 = some r) : Ct Tryz.prog 36 [S p0, Value.bool p1] (fun M => True) (fun v M => v = Value.bool r) := by
 refine Ct.of Tryz.func36 (enters Tryz.func36 Kr G) G G G ?_
 intro w0 M0 H hp
 unfold Y3s at h
 refine SQ (RG (AS G G (NL (TN (SQ (RG (AS G G (NL (TN (SQ (SQ (RG (AS G G (NL (TN ?_)))))))))))))))
 obtain ⟨o1, e2, h⟩ := bnd h
 refine q0l (fun e w => ∃ (b3 : Bool) (M : Mem), e = [(5, Value.bool b3)] ∧ St w0 M0 M [] w ∧ some (.inl b3) = some o1) [] ?_ ?_ (trivial)
 ·
  refine BL (q0J (fun m e w => ∃ (b4 : Bool) (n5 : Int) (M : Mem), e = [(0, S p0), (1, Value.bool p1), (5, Value.bool b4), (6, I n5)] ∧ St w0 M0 M [] w ∧ Y1W p0 p1 m b4 n5 = some o1) FU [(0, _), (1, _), (5, _), (6, _)] ⟨rfl, rfl, rfl, rfl, trivial⟩ ⟨_, _, _, rfl, H, e2⟩ ?_)
  rintro m6 e w ⟨b4, n5, M, rfl, H, e2⟩
  rcases m6 with _ | m6
  · rw [Y1W] at e2; cases e2
  rw [Y1W] at e2
  refine SQ (SQ (RG (MV G G (MV G G (ST (q0k Tu9 G) G (ST (q0n G G) G (NL (TN ?_))))))))
  refine CB (p := n5 < (p0.length : Int)) G (fun hk7 => ?_) fun hk7 => ?_
  ·
   rw [if_pos hk7] at e2
   refine SK (TN (SQ (BL (SQ (SQ ?_)))))
   obtain ⟨c8, hxc8, e2⟩ := bnd e2
   refine RG (MV G G (MV G G (ST (q0N Tu9 G G hxc8) G (ST (q1A (c := c8) (d := 46) G G) G (NL (TN ?_))))))
   refine CB (p := c8 = 46) G (fun hk9 => ?_) fun hk9 => ?_
   ·
    rw [if_pos hk9] at e2
    refine SQ (SQ (RG (MV G G (NL (TN ?_)))))
    refine q0o G (fun hk10 => ?_) (fun hk10 => ?_)
    ·
     subst hk10
     rw [if_pos rfl] at e2
     refine SQ (RG (AS G G (NL (TN (RT ?_)))))
     obtain rfl := oI e2
     try dsimp only at h
     obtain rfl := oI h
     exact q07 G G H.ext G
    subst hk10
    rw [if_neg l07] at e2
    refine SK (TN (SQ (RG (AS G G (NL (TN (q0m (q06 (q0f (TN ?_))))))))))
    obtain ⟨n11, hxn11, e2⟩ := bnd e2
    refine RG (MV G G (ST (q0u G G hxn11) G (AS G G (NL ?_))))
    exact AG m6 ⟨_, _, _, G, H, e2⟩ (l0a _)
   rw [if_neg hk9] at e2
   refine SK (TN (SQ (SQ ?_)))
   obtain ⟨o12, e13, e2⟩ := bnd e2
   refine q0l (fun e w => ∃ (b14 : Bool) (M : Mem), e = [(0, S p0), (1, Value.bool p1), (6, I n5), (38, Value.bool b14)] ∧ St w0 M0 M [] w ∧ some b14 = some o12) [] ?_ ?_ (trivial)
   ·
    obtain ⟨c15, hxc15, e13⟩ := bnd e13
    obtain ⟨b16, hx17, e13⟩ := bnd e13
    refine RG (MV G G (MV G G (ST (q0N Tu9 G G hxc15) G (q05 H (Y4m hx17) G trivial (q00 G) G ?_))))
    intro v21 M w H hle hR
    obtain rfl := hR
    refine ST (q0R G) G (MV G G ?_)
    rcases b16 with _ | _
    ·
     rw [if_neg l07] at e13
     refine q0i 14 G G (PT G G G (NL ?_))
     exact MN ⟨_, _, G, H, e13⟩
    rw [if_pos rfl] at e13
    refine SG (q02 G) G G G (SG (q02 G) G G G ?_)
    rcases p1 with _ | _
    ·
     rw [if_neg l07] at e13
     refine q0i 5 G G (SG (q0r G G) G G G (SG (q02 G) G G G (q0i 4 G G (SG (q0r G G) G G G (PF G G G (NL ?_))))))
     exact MN ⟨_, _, G, H, e13⟩
    rw [if_pos rfl] at e13
    obtain ⟨c18, hxc18, e13⟩ := bnd e13
    obtain ⟨b19, hx20, e13⟩ := bnd e13
    refine SG (q02 G) G G G (SG (q02 G) G G G (SG (q0N Tu9 G G hxc18) G G G (q05 H (Y4D hx20) G trivial (q04 G G G) G ?_)))
    intro v29 M w H hle hR
    obtain rfl := hR
    refine SG (q0R G) G G G (SG (q0q G G) G G G (SG (q02 G) G G G ?_))
    rcases b19 with _ | _
    ·
     rw [if_neg l07] at e13
     obtain ⟨c21, hxc21, e13⟩ := bnd e13
     refine SG (q02 G) G G G (SG (q02 G) G G G (SG (q0N Tu9 G G hxc21) G G G (SG (Ex.neqB (c := c21) (d := 45) G G) G G G (SG (q0q G G) G G G (PF G G G (NL ?_))))))
     exact MN ⟨_, _, G, H, e13⟩
    rw [if_pos rfl] at e13
    refine q0i 4 G G (SG (q0r G G) G G G (PF G G G (NL ?_)))
    exact MN ⟨_, _, G, H, e13⟩
   rintro e w ⟨b14, M, rfl, H, q22⟩
   obtain rfl := oI q22
   refine TN ?_
   refine q0o G (fun hk23 => ?_) (fun hk23 => ?_)
   ·
    subst hk23
    rw [if_pos rfl] at e2
    refine SQ (RG (AS G G (NL (TN (RT ?_)))))
    obtain rfl := oI e2
    try dsimp only at h
    obtain rfl := oI h
    exact q07 G G H.ext G
   subst hk23
   rw [if_neg l07] at e2
   refine SK (TN (RG (AS G G (NL (IB (TN ?_))))))
   obtain ⟨n24, hxn24, e2⟩ := bnd e2
   refine RG (MV G G (ST (q0u G G hxn24) G (AS G G (NL ?_))))
   exact AG m6 ⟨_, _, _, G, H, e2⟩ (l0a _)
  rw [if_neg hk7] at e2
  refine q0m (q06 (q06 (q0f ?_)))
  exact MN ⟨_, _, G, H, e2⟩
 rintro e w ⟨b3, M, rfl, H, q25⟩
 obtain rfl := oI q25
 try dsimp only at h
 refine TN (SQ (RG (MV G G (ST (q0R G) G (AS G G (NL (TN (RT ?_))))))))
 obtain rfl := oI h
 exact q07 G G H.ext G
theorem Y1C {p0 : (Ls × Ls × Ls)} {r : (Int × Int)} (h : Y1X p0 = some r) : Ct Tryz.prog 11 [Value.agg #[S p0.1, S p0.2.1, S p0.2.2]] (fun M => True) (fun v M => v = Value.agg #[I r.1, I r.2]) := by
 refine Ct.of Tryz.func11 (enters Tryz.func11 Kr G) G G G ?_
 intro w0 M0 H hp
 unfold Y1X at h
 refine SQ (RG (q1t [_, _, _] H G G (q00 G) G ?_))
 intro bk1 w H
 refine q0g [_, _] H Tz27 G (q00 G) G ?_
 intro bk2 w H
 refine NL (TN (SQ (SQ ?_)))
 obtain ⟨n1, hx2, h⟩ := bnd h
 refine RG (ST (q03 Tu24 G Ts9 Dc G) G (ST (XL H Ta9) G ?_))
 refine q05 H (Y2z hx2) G trivial (q00 G) G ?_
 intro v5 M w H hle hR
 obtain rfl := hR
 refine ST (q1v G G) G (NL (TN ?_))
 refine q0o G (fun hk3 => ?_) (fun hk3 => ?_)
 ·
  replace hk3 : ¬ (n1 = (0 : Int)) := of_not_decide hk3
  rw [if_neg hk3] at h
  refine SQ ?_
  obtain ⟨n4, hx5, h⟩ := bnd h
  obtain ⟨⟨n6, n7⟩, hx8, h⟩ := bnd h
  try dsimp only at h
  refine RG (ST (q03 Tu24 G Ts9 Dc G) G (ST (XL H Ta9) G ?_))
  refine q05 H (Y2z hx5) G trivial (q00 G) G ?_
  intro v9 M w H hle hR
  obtain rfl := hR
  refine q05 H (R_At_ct hx8) G trivial (q00 G) G ?_
  intro v10 M w H hle hR
  try dsimp only at hR
  obtain rfl := hR
  refine q0b [_, _] H G G G Ku Ts27 G Kf Kf (q00 G) ?_
  intro w H
  refine NL (TN (RT ?_))
  obtain rfl := oI h
  exact q07 G ⟨_, G, H.loadAgg Km Ta27 Ts27 Kf⟩ H.ext G
 replace hk3 : n1 = (0 : Int) := of_not_decide' hk3
 rw [if_pos hk3] at h
 refine SK (TN (SQ (SQ ?_)))
 obtain ⟨b9, hx10, h⟩ := bnd h
 refine RG (ST (q03 Tu24 G Ts9 Dc G) G (ST (XL H Ta9) G ?_))
 refine q05 H (Y4K hx10) G trivial (q00 G) G ?_
 intro v13 M w H hle hR
 obtain rfl := hR
 refine ST (q0R G) G (NL (TN ?_))
 refine q0o G (fun hk11 => ?_) (fun hk11 => ?_)
 ·
  replace hk11 : b9 = false := by simpa using hk11
  subst hk11
  rw [if_neg l07] at h
  refine SQ ?_
  obtain ⟨⟨n12, n13⟩, hx14, h⟩ := bnd h
  try dsimp only at h
  refine RG (q05 H (R_At_ct hx14) G trivial (q00 G) G ?_)
  intro v15 M w H hle hR
  try dsimp only at hR
  obtain rfl := hR
  refine q0b [_, _] H G G G Ku Ts27 G Kf Kf (q00 G) ?_
  intro w H
  refine NL (TN (RT ?_))
  obtain rfl := oI h
  exact q07 G ⟨_, G, H.loadAgg Km Ta27 Ts27 Kf⟩ H.ext G
 replace hk11 : b9 = true := by simpa using hk11
 subst hk11
 rw [if_pos rfl] at h
 refine SK (TN (SQ (SQ ?_)))
 obtain ⟨o15, e16, h⟩ := bnd h
 refine q0l (fun e w => ∃ (b17 : Bool) (M : Mem), e = [(2, ptr bk2 0), (25, Value.bool b17)] ∧ St w0 M0 M [.blk bk2 (.cells #[I 0, I 0] 27)] w ∧ some b17 = some o15) [] ?_ ?_ (trivial)
 ·
  refine RG (ST (q03 Tu24 G Ts9 Dc G) G (ST (XL H Ta9) G ?_))
  refine ST (q0k Tu9 G) G ?_
  by_cases hk18 : (60 : Int) < (p0.2.2.length : Int)
  ·
   rw [if_pos hk18] at e16
   refine DT hk18 (q0K G G) G (MV G G (q0i 4 G G (PT G G G (NL ?_))))
   exact MN ⟨_, _, G, (H.pick (L' := [.blk bk2 (.cells #[I 0, I 0] 27)]) Kp), e16⟩
  rw [if_neg hk18] at e16
  obtain ⟨b19, hx20, e16⟩ := bnd e16
  refine DF hk18 (q0K G G) G (MV G G (SG (q03 Tu24 G Ts9 Dc G) G G G (SG (XL H Ta9) G G G ?_)))
  refine q05 H (Y4E hx20) G trivial (q04 G G G) G ?_
  intro v23 M w H hle hR
  obtain rfl := hR
  refine SG (q0R G) G G G (PF G G G (NL ?_))
  exact MN ⟨_, _, G, (H.pick (L' := [.blk bk2 (.cells #[I 0, I 0] 27)]) Kp), e16⟩
 rintro e w ⟨b17, M, rfl, H, q21⟩
 obtain rfl := oI q21
 refine TN ?_
 refine q0o G (fun hk22 => ?_) (fun hk22 => ?_)
 ·
  subst hk22
  rw [if_pos rfl] at h
  refine SQ ?_
  obtain ⟨⟨n23, n24⟩, hx25, h⟩ := bnd h
  try dsimp only at h
  refine RG (q05 H (R_At_ct hx25) G trivial (q00 G) G ?_)
  intro v26 M w H hle hR
  try dsimp only at hR
  obtain rfl := hR
  refine q0b [_, _] H G G G Ku Ts27 G Kf Kf (q00 G) ?_
  intro w H
  refine NL (TN (RT ?_))
  obtain rfl := oI h
  exact q07 G ⟨_, G, H.loadAgg Km Ta27 Ts27 Kf⟩ H.ext G
 subst hk22
 rw [if_neg l07] at h
 refine SK (TN (SQ (RG (ST (q0L [I 0, I 0] Tu27 Tz27 (xplaces27 Tu27) G G) G (q0b [_, _] H G G G Ku Ts27 G Kf Kf (q00 G) ?_)))))
 intro w H
 refine NL (TN (RT ?_))
 obtain rfl := oI h
 exact q07 G ⟨_, G, H.loadAgg Km Ta27 Ts27 Kf⟩ H.ext G
end Go.Proofs.YtkmjdamkifbddaaGreatDoor
end
section
namespace Go.Proofs.YtkmjdamkifbddaaGreatDoor
open Go Go.RowKit Go.Ph Go.Ph.Pl Go.Ph.Pf
theorem Y1l {p0 : List (Ls × Bool × List (Ls × Ls × Ls))} {vp0 : Value} {r : (Int × Int)} (h : Y24 p0 = some r) : Ct Tryz.prog 13 [vp0] (fun M => SlR xrl34 M vp0 p0) (fun v M => v = Value.agg #[I r.1, I r.2]) := by
 refine Ct.of Tryz.func13 (enters Tryz.func13 Kr G) G G G ?_
 intro w0 M0 H hp
 have hp0 := hp
 unfold Y24 at h
 refine SQ (RG (q0g [_, _] H Tz27 G (q00 G) G ?_))
 intro bk2 w H
 refine NL (TN (SQ (RG (AS G G (NL (TN (SQ (SQ (RG (AS G G (NL (TN ?_))))))))))))
 obtain ⟨o1, e2, h⟩ := bnd h
 refine q0l (fun e w => ∃ (n3 : Int) (M : Mem), e = [(0, vp0), (2, ptr bk2 0), (3, I n3)] ∧ St w0 M0 M [.blk bk2 (.cells #[I 0, I 0] 27)] w ∧ SlR xrl34 M vp0 p0 ∧ some n3 = some o1) [] ?_ ?_ (trivial)
 ·
  refine BL (q0J (fun m e w => ∃ (n4 : Int) (n5 : Int) (M : Mem), e = [(0, vp0), (2, ptr bk2 0), (3, I n4), (4, I n5)] ∧ St w0 M0 M [.blk bk2 (.cells #[I 0, I 0] 27)] w ∧ SlR xrl34 M vp0 p0 ∧ Y10 p0 m n4 n5 = some o1) FU [(0, _), (2, _), (3, _), (4, _)] ⟨rfl, rfl, rfl, rfl, trivial⟩ ⟨_, _, _, rfl, H, hp0, e2⟩ ?_)
  rintro m6 e w ⟨n4, n5, M, rfl, H, hp0, e2⟩
  rcases m6 with _ | m6
  · rw [Y10] at e2; cases e2
  rw [Y10] at e2
  refine SQ (SQ (RG (MV G G (MV G G (ST (q1q Tu22 hp0 G) G (ST (q0n G G) G (NL (TN ?_))))))))
  refine CB (p := n5 < (p0.length : Int)) G (fun hk7 => ?_) fun hk7 => ?_
  ·
   rw [if_pos hk7] at e2
   refine SK (TN (SQ (BL ?_)))
   obtain ⟨a8, hxa8, e2⟩ := bnd e2
   obtain ⟨bk18, o18, fq18, ha18, hc18, hr18⟩ := hp0.atC hxa8
   obtain ⟨f18_0, f18_1, q18_2⟩ := fq18
   replace hr18 : f18_0 = a8.1 ∧ f18_1 = a8.2.1 ∧ SlS M 3 xenc24 (hv q18_2) a8.2.2 := hr18
   obtain ⟨rfl, rfl, hs18_2⟩ := hr18
   refine RG (MV G G (MV G G (MV G G (ST (q0t ha18 Tu22 Ts34 G G) G (ST (q03 Tu34 G Ts30 Dc G) G (ST (q08 H G (hc18.at (j := 2) G) Ta30) G (ST (q1k Tu30 hs18_2 G) G (ST (Ex.add G G) G (AS G G (NL (IB (TN ?_))))))))))))
   obtain ⟨n9, hxn9, e2⟩ := bnd e2
   refine RG (MV G G (ST (q0u G G hxn9) G (AS G G (NL ?_))))
   exact AG m6 ⟨_, _, _, G, H, hp0, e2⟩ (l0a _)
  rw [if_neg hk7] at e2
  refine q0m (q06 (q06 (q0f ?_)))
  exact MN ⟨_, _, G, H, hp0, e2⟩
 rintro e w ⟨n3, M, rfl, H, hp0, q10⟩
 obtain rfl := oI q10
 refine TN (SQ (SQ ?_))
 obtain ⟨o11, e12, h⟩ := bnd h
 refine q0l (fun e w => ∃ (b13 : Bool) (M : Mem), e = [(0, vp0), (2, ptr bk2 0), (29, Value.bool b13)] ∧ St w0 M0 M [.blk bk2 (.cells #[I 0, I 0] 27)] w ∧ SlR xrl34 M vp0 p0 ∧ some b13 = some o11) [] ?_ ?_ (trivial)
 ·
  refine RG (MV G G (ST (q1q Tu22 hp0 G) G ?_))
  by_cases hk14 : (60 : Int) < (p0.length : Int)
  ·
   rw [if_pos hk14] at e12
   refine DT hk14 (q0K G G) G (MV G G (GT G G G (GT G G G (PT G G G (NL ?_)))))
   exact MN ⟨_, _, G, H, hp0, e12⟩
  rw [if_neg hk14] at e12
  refine DF hk14 (q0K G G) G (MV G G (SG (q02 G) G G G (SG (q0K G G) G G G (PF G G G (NL ?_)))))
  exact MN ⟨_, _, G, H, hp0, e12⟩
 rintro e w ⟨b13, M, rfl, H, hp0, q15⟩
 obtain rfl := oI q15
 refine TN ?_
 refine q0o G (fun hk16 => ?_) (fun hk16 => ?_)
 ·
  subst hk16
  rw [if_pos rfl] at h
  refine SQ ?_
  obtain ⟨⟨n17, n18⟩, hx19, h⟩ := bnd h
  try dsimp only at h
  refine RG (q05 H (R_At_ct hx19) G trivial (q00 G) G ?_)
  intro v30 M w H hle hR
  replace hp0 := hp0.mono hle
  try dsimp only at hR
  obtain rfl := hR
  refine q0b [_, _] H G G G Ku Ts27 G Kf Kf (q00 G) ?_
  intro w H
  refine NL (TN (RT ?_))
  obtain rfl := oI h
  exact q07 G ⟨_, G, H.loadAgg Km Ta27 Ts27 Kf⟩ H.ext G
 subst hk16
 rw [if_neg l07] at h
 refine SK (TN (SQ (SQ (RG (AS G G (NL (TN ?_)))))))
 obtain ⟨o20, e21, h⟩ := bnd h
 refine q0l (fun e w => ∃ (n22 : Int) (n23 : Int) (M : Mem), e = [(2, ptr bk2 0)] ∧ St w0 M0 M [.blk bk2 (.cells #[I n22, I n23] 27)] w ∧ some (.inl (n22, n23)) = some o20) [] ?_ ?_ (trivial)
 ·
  refine BL (q0J (fun m e w => ∃ (n24 : Int) (n25 : Int) (n26 : Int) (M : Mem), e = [(0, vp0), (2, ptr bk2 0), (5, I n26)] ∧ St w0 M0 M [.blk bk2 (.cells #[I n24, I n25] 27)] w ∧ SlR xrl34 M vp0 p0 ∧ Y11 p0 m n24 n25 n26 = some o20) FU [(0, _), (2, _), (5, _)] ⟨rfl, rfl, rfl, trivial⟩ ⟨_, _, _, _, rfl, H, hp0, e21⟩ ?_)
  rintro m27 e w ⟨n24, n25, n26, M, rfl, H, hp0, e21⟩
  rcases m27 with _ | m27
  · rw [Y11] at e21; cases e21
  rw [Y11] at e21
  refine SQ (SQ (RG (MV G G (MV G G (ST (q1q Tu22 hp0 G) G (ST (q0n G G) G (NL (TN ?_))))))))
  refine CB (p := n26 < (p0.length : Int)) G (fun hk28 => ?_) fun hk28 => ?_
  ·
   rw [if_pos hk28] at e21
   refine SK (TN (SQ (BL (SQ ?_))))
   obtain ⟨a29, hxa29, e21⟩ := bnd e21
   obtain ⟨bk39, o39, fq39, ha39, hc39, hr39⟩ := hp0.atC hxa29
   obtain ⟨f39_0, f39_1, q39_2⟩ := fq39
   replace hr39 : f39_0 = a29.1 ∧ f39_1 = a29.2.1 ∧ SlS M 3 xenc24 (hv q39_2) a29.2.2 := hr39
   obtain ⟨rfl, rfl, hs39_2⟩ := hr39
   refine RG (MV G G (MV G G (ST (q0t ha39 Tu22 Ts34 G G) G (ST (q1e H G hc39 Ta34 Ts34 Kf) G ?_))))
   refine q0g [_, _, _] H Tz34 G (q00 G) G ?_
   intro bk6 w H
   refine q0b [_, _, _] H G G G Ku Ts34 G Kf (by simp only [l0A, l1W, (hs39_2).one.2]; rfl) (q00 G) ?_
   intro w H
   refine NL (TN (SQ (SQ ?_)))
   obtain ⟨n30, hx31, e21⟩ := bnd e21
   refine RG (ST (q03 Tu34 G Ts9 Dc G) G (ST (XL H Ta9) G ?_))
   refine q05 H (Y2z hx31) G trivial (q00 G) G ?_
   intro v43 M w H hle hR
   replace hp0 := hp0.mono hle
   replace hc39 := hc39.mono hle
   replace hs39_2 := hs39_2.mono hle
   obtain rfl := hR
   refine ST (q1v G G) G (NL (TN ?_))
   refine q0o G (fun hk32 => ?_) (fun hk32 => ?_)
   ·
    replace hk32 : ¬ (n30 = (0 : Int)) := of_not_decide hk32
    rw [if_neg hk32] at e21
    refine SQ ?_
    obtain ⟨n33, hx34, e21⟩ := bnd e21
    obtain ⟨⟨n35, n36⟩, hx37, e21⟩ := bnd e21
    try dsimp only at e21
    refine RG (ST (q03 Tu34 G Ts9 Dc G) G (ST (XL H Ta9) G ?_))
    refine q05 H (Y2z hx34) G trivial (q00 G) G ?_
    intro v47 M w H hle hR
    replace hp0 := hp0.mono hle
    replace hc39 := hc39.mono hle
    replace hs39_2 := hs39_2.mono hle
    obtain rfl := hR
    refine MV G G (q05 H (R_At_ct hx37) G trivial (q00 G) G ?_)
    intro v49 M w H hle hR
    replace hp0 := hp0.mono hle
    replace hc39 := hc39.mono hle
    replace hs39_2 := hs39_2.mono hle
    try dsimp only at hR
    obtain rfl := hR
    refine q0b [_, _] H G G G Ku Ts27 G Kf Kf (q00 G) ?_
    intro w H
    refine NL (TN (RT ?_))
    obtain rfl := oI e21
    try dsimp only at h
    obtain rfl := oI h
    exact q07 G ⟨_, G, H.loadAgg Km Ta27 Ts27 Kf⟩ H.ext G
   replace hk32 : n30 = (0 : Int) := of_not_decide' hk32
   rw [if_pos hk32] at e21
   refine SK (TN (SQ (SQ ?_)))
   obtain ⟨o38, e39, e21⟩ := bnd e21
   refine q0l (fun e w => ∃ (b40 : Bool) (M : Mem), e = [(0, vp0), (2, ptr bk2 0), (5, I n26), (6, ptr bk6 0), (72, Value.bool b40)] ∧ St w0 M0 M [.blk bk2 (.cells #[I n24, I n25] 27), .blk bk6 (.cells #[S a29.1, Value.bool a29.2.1, (hv q39_2)] 34)] w ∧ SlR xrl34 M vp0 p0 ∧ SlS M 3 xenc24 (hv q39_2) a29.2.2 ∧ some b40 = some o38) [] ?_ ?_ (trivial)
   ·
    by_cases hk41 : a29.2.1 = true
    ·
     rw [if_pos hk41] at e39
     refine RG (ST (q03 Tu34 G Ts4 Dc G) G (q09 (v' := .bool true) (XL H Ta4) (congrArg Value.bool hk41) (q00 G) G G ?_))
     by_cases hk42 : a29.1 = []
     ·
      rw [if_pos hk42] at e39
      refine MV G G (SG (q03 Tu34 G Ts9 Dc G) G G G (SG (XL H Ta9) G G G ?_))
      refine DU hk42 (q0I G G) G G G (PT G G G (MV G G (q0i 14 G G (PT G G G (NL ?_)))))
      exact MN ⟨_, _, G, (H.pick (L' := [.blk bk2 (.cells #[I n24, I n25] 27), .blk bk6 (.cells #[S a29.1, Value.bool a29.2.1, (hv q39_2)] 34)]) Kp), hp0, hs39_2, e39⟩
     rw [if_neg hk42] at e39
     by_cases hk43 : a29.2.1 = true
     ·
      rw [if_pos hk43] at e39
      refine MV G G (SG (q03 Tu34 G Ts9 Dc G) G G G (SG (XL H Ta9) G G G ?_))
      refine DG hk42 (q0I G G) G G G (PT G G G (MV G G (SG (q03 Tu34 G Ts4 Dc G) G G G (SG (XL H Ta4) G G G ?_))))
      refine q09 (v' := .bool false) (q0R G) (congrArg Value.bool (by rw [hk43]; rfl)) (q04 G G G) G G ?_
      refine SG (q02 G) G G G (q0i 9 G G (SG (q0r G G) G G G (PF G G G (NL ?_))))
      exact MN ⟨_, _, G, (H.pick (L' := [.blk bk2 (.cells #[I n24, I n25] 27), .blk bk6 (.cells #[S a29.1, Value.bool a29.2.1, (hv q39_2)] 34)]) Kp), hp0, hs39_2, e39⟩
     rw [if_neg hk43] at e39
     by_cases hk44 : a29.1 = []
     ·
      rw [if_pos hk44] at e39
      refine MV G G (SG (q03 Tu34 G Ts9 Dc G) G G G (SG (XL H Ta9) G G G ?_))
      refine DG hk42 (q0I G G) G G G (PT G G G (MV G G (SG (q03 Tu34 G Ts4 Dc G) G G G (SG (XL H Ta4) G G G ?_))))
      refine q09 (v' := .bool true) (q0R G) (congrArg Value.bool (by rw [(l1e hk43)]; rfl)) (q04 G G G) G G ?_
      refine SG (q02 G) G G G (SG (q03 Tu34 G Ts9 Dc G) G G G (SG (XL H Ta9) G G G ?_))
      refine q09 (v' := .bool false) (q1u G G) (congrArg Value.bool (by rw [decide_eq_true hk44]; rfl)) (q04 G G G) G G ?_
      refine SG (q02 G) G G G (SG (q03 Tu34 G Ts30 Dc G) G G G (SG (XL H Ta30) G G G ?_))
      refine SG (q1k Tu30 hs39_2 G) G G G (SG (q1v G G) G G G (SG (q0r G G) G G G (SG (q0q G G) G G G (PF G G G (NL ?_)))))
      exact MN ⟨_, _, G, (H.pick (L' := [.blk bk2 (.cells #[I n24, I n25] 27), .blk bk6 (.cells #[S a29.1, Value.bool a29.2.1, (hv q39_2)] 34)]) Kp), hp0, hs39_2, e39⟩
     rw [if_neg hk44] at e39
     refine MV G G (SG (q03 Tu34 G Ts9 Dc G) G G G (SG (XL H Ta9) G G G ?_))
     refine DG hk42 (q0I G G) G G G (PT G G G (MV G G (SG (q03 Tu34 G Ts4 Dc G) G G G (SG (XL H Ta4) G G G ?_))))
     refine q09 (v' := .bool true) (q0R G) (congrArg Value.bool (by rw [(l1e hk43)]; rfl)) (q04 G G G) G G ?_
     refine SG (q02 G) G G G (SG (q03 Tu34 G Ts9 Dc G) G G G (SG (XL H Ta9) G G G ?_))
     refine q09 (v' := .bool true) (q1u G G) (congrArg Value.bool (by rw [decide_eq_false hk44]; rfl)) (q04 G G G) G G ?_
     refine SG (q02 G) G G G (q0i 4 G G (SG (q0q G G) G G G (SG (q0q G G) G G G (PF G G G (NL ?_)))))
     exact MN ⟨_, _, G, (H.pick (L' := [.blk bk2 (.cells #[I n24, I n25] 27), .blk bk6 (.cells #[S a29.1, Value.bool a29.2.1, (hv q39_2)] 34)]) Kp), hp0, hs39_2, e39⟩
    rw [if_neg hk41] at e39
    refine RG (ST (q03 Tu34 G Ts4 Dc G) G (q09 (v' := .bool false) (XL H Ta4) (congrArg Value.bool (l1e hk41)) (q00 G) G G ?_))
    by_cases hk45 : a29.2.1 = true
    ·
     rw [if_pos hk45] at e39
     refine MV G G (q0i 3 G G (PF G G G (MV G G (SG (q03 Tu34 G Ts4 Dc G) G G G (SG (XL H Ta4) G G G ?_)))))
     refine q09 (v' := .bool false) (q0R G) (congrArg Value.bool (by rw [hk45]; rfl)) (q04 G G G) G G ?_
     refine SG (q02 G) G G G (q0i 9 G G (SG (q0r G G) G G G (PF G G G (NL ?_))))
     exact MN ⟨_, _, G, (H.pick (L' := [.blk bk2 (.cells #[I n24, I n25] 27), .blk bk6 (.cells #[S a29.1, Value.bool a29.2.1, (hv q39_2)] 34)]) Kp), hp0, hs39_2, e39⟩
    rw [if_neg hk45] at e39
    by_cases hk46 : a29.1 = []
    ·
     rw [if_pos hk46] at e39
     refine MV G G (q0i 3 G G (PF G G G (MV G G (SG (q03 Tu34 G Ts4 Dc G) G G G (SG (XL H Ta4) G G G ?_)))))
     refine q09 (v' := .bool true) (q0R G) (congrArg Value.bool (by rw [(l1e hk45)]; rfl)) (q04 G G G) G G ?_
     refine SG (q02 G) G G G (SG (q03 Tu34 G Ts9 Dc G) G G G (SG (XL H Ta9) G G G ?_))
     refine q09 (v' := .bool false) (q1u G G) (congrArg Value.bool (by rw [decide_eq_true hk46]; rfl)) (q04 G G G) G G ?_
     refine SG (q02 G) G G G (SG (q03 Tu34 G Ts30 Dc G) G G G (SG (XL H Ta30) G G G ?_))
     refine SG (q1k Tu30 hs39_2 G) G G G (SG (q1v G G) G G G (SG (q0r G G) G G G (SG (q0q G G) G G G (PF G G G (NL ?_)))))
     exact MN ⟨_, _, G, (H.pick (L' := [.blk bk2 (.cells #[I n24, I n25] 27), .blk bk6 (.cells #[S a29.1, Value.bool a29.2.1, (hv q39_2)] 34)]) Kp), hp0, hs39_2, e39⟩
    rw [if_neg hk46] at e39
    refine MV G G (q0i 3 G G (PF G G G (MV G G (SG (q03 Tu34 G Ts4 Dc G) G G G (SG (XL H Ta4) G G G ?_)))))
    refine q09 (v' := .bool true) (q0R G) (congrArg Value.bool (by rw [(l1e hk45)]; rfl)) (q04 G G G) G G ?_
    refine SG (q02 G) G G G (SG (q03 Tu34 G Ts9 Dc G) G G G (SG (XL H Ta9) G G G ?_))
    refine q09 (v' := .bool true) (q1u G G) (congrArg Value.bool (by rw [decide_eq_false hk46]; rfl)) (q04 G G G) G G ?_
    refine SG (q02 G) G G G (q0i 4 G G (SG (q0q G G) G G G (SG (q0q G G) G G G (PF G G G (NL ?_)))))
    exact MN ⟨_, _, G, (H.pick (L' := [.blk bk2 (.cells #[I n24, I n25] 27), .blk bk6 (.cells #[S a29.1, Value.bool a29.2.1, (hv q39_2)] 34)]) Kp), hp0, hs39_2, e39⟩
   rintro e w ⟨b40, M, rfl, H, hp0, hs39_2, q47⟩
   obtain rfl := oI q47
   refine TN ?_
   refine q0o G (fun hk48 => ?_) (fun hk48 => ?_)
   ·
    subst hk48
    rw [if_pos rfl] at e21
    refine SQ ?_
    obtain ⟨⟨n49, n50⟩, hx51, e21⟩ := bnd e21
    try dsimp only at e21
    refine RG (MV G G (q05 H (R_At_ct hx51) G trivial (q00 G) G ?_))
    intro v74 M w H hle hR
    replace hp0 := hp0.mono hle
    replace hs39_2 := hs39_2.mono hle
    try dsimp only at hR
    obtain rfl := hR
    refine q0b [_, _] H G G G Ku Ts27 G Kf Kf (q00 G) ?_
    intro w H
    refine NL (TN (RT ?_))
    obtain rfl := oI e21
    try dsimp only at h
    obtain rfl := oI h
    exact q07 G ⟨_, G, H.loadAgg Km Ta27 Ts27 Kf⟩ H.ext G
   subst hk48
   rw [if_neg l07] at e21
   refine SK (TN (SQ (RG (AS G G (NL (TN ?_))))))
   obtain ⟨o52, e53, e21⟩ := bnd e21
   refine q0l (fun e w => ∃ (n54 : Int) (n55 : Int) (M : Mem), e = [(0, vp0), (2, ptr bk2 0), (5, I n26)] ∧ St w0 M0 M [.blk bk2 (.cells #[I n54, I n55] 27)] w ∧ SlR xrl34 M vp0 p0 ∧ some (.inl (n54, n55)) = some o52) [] ?_ ?_ (trivial)
   ·
    refine BL (q0J (fun m e w => ∃ (n56 : Int) (n57 : Int) (n58 : Int) (M : Mem), e = [(0, vp0), (2, ptr bk2 0), (5, I n26), (6, ptr bk6 0), (7, I n58)] ∧ St w0 M0 M [.blk bk2 (.cells #[I n56, I n57] 27), .blk bk6 (.cells #[S a29.1, Value.bool a29.2.1, (hv q39_2)] 34)] w ∧ SlR xrl34 M vp0 p0 ∧ SlS M 3 xenc24 (hv q39_2) a29.2.2 ∧ Y0L n26 a29 m n56 n57 n58 = some o52) FU [(0, _), (2, _), (5, _), (6, _), (7, _)] ⟨rfl, rfl, rfl, rfl, rfl, trivial⟩ ⟨_, _, _, _, rfl, H, hp0, hs39_2, e53⟩ ?_)
    rintro m59 e w ⟨n56, n57, n58, M, rfl, H, hp0, hs39_2, e53⟩
    rcases m59 with _ | m59
    · rw [Y0L] at e53; cases e53
    rw [Y0L] at e53
    refine SQ (SQ (RG (MV G G (ST (q03 Tu34 G Ts30 Dc G) G (ST (XL H Ta30) G ?_)))))
    refine ST (q1k Tu30 hs39_2 G) G (ST (q0n G G) G (NL (TN ?_)))
    refine CB (p := n58 < (a29.2.2.length : Int)) G (fun hk60 => ?_) fun hk60 => ?_
    ·
     rw [if_pos hk60] at e53
     refine SK (TN (SQ (BL (SQ ?_))))
     obtain ⟨a61, hxa61, e53⟩ := bnd e53
     obtain ⟨bk85, o85, ha85, hc85⟩ := hs39_2.atC hxa61
     obtain ⟨⟨n62, n63⟩, hx64, e53⟩ := bnd e53
     try dsimp only at e53
     refine RG (ST (q03 Tu34 G Ts30 Dc G) G (ST (XL H Ta30) G ?_))
     refine MV G G (ST (q0t ha85 Tu30 Ts24 G G) G (ST (q1e H G hc85 Ta24 Ts24 Kf) G ?_))
     refine q05 H (Y1C hx64) G trivial (q00 G) G ?_
     intro v87 M w H hle hR
     replace hp0 := hp0.mono hle
     replace hs39_2 := hs39_2.mono hle
     replace hc85 := hc85.mono hle
     try dsimp only at hR
     obtain rfl := hR
     refine q0g [_, _] H Tz27 G (q00 G) G ?_
     intro bk8 w H
     refine q0b [_, _] H G G G Ku Ts27 G Kf Kf (q00 G) ?_
     intro w H
     refine NL (TN (SQ (RG (ST (q03 Tu27 G Ts3 Dc G) G (ST (XL H Ta3) G ?_)))))
     refine ST (q1v G G) G (NL (TN ?_))
     refine q0o G (fun hk65 => ?_) (fun hk65 => ?_)
     ·
      replace hk65 : ¬ (n62 = (0 : Int)) := of_not_decide hk65
      rw [if_neg hk65] at e53
      refine SQ ?_
      obtain ⟨⟨n66, n67⟩, hx68, e53⟩ := bnd e53
      try dsimp only at e53
      refine RG (ST (q03 Tu27 G Ts3 Dc G) G (ST (XL H Ta3) G ?_))
      refine MV G G (q05 H (R_At_ct hx68) G trivial (q00 G) G ?_)
      intro v94 M w H hle hR
      replace hp0 := hp0.mono hle
      replace hs39_2 := hs39_2.mono hle
      replace hc85 := hc85.mono hle
      try dsimp only at hR
      obtain rfl := hR
      refine q0b [_, _] H G G G Ku Ts27 G Kf Kf (q00 G) ?_
      intro w H
      refine NL (TN (RT ?_))
      obtain rfl := oI e53
      try dsimp only at e21
      obtain rfl := oI e21
      try dsimp only at h
      obtain rfl := oI h
      exact q07 G ⟨_, G, H.loadAgg Km Ta27 Ts27 Kf⟩ H.ext G
     replace hk65 : n62 = (0 : Int) := of_not_decide' hk65
     rw [if_pos hk65] at e53
     refine SK (IB (TN ?_))
     obtain ⟨n69, hxn69, e53⟩ := bnd e53
     refine RG (MV G G (ST (q0u G G hxn69) G (AS G G (NL ?_))))
     exact AG m59 ⟨_, _, _, _, G, (H.pick (L' := [.blk bk2 (.cells #[I n56, I n57] 27), .blk bk6 (.cells #[S a29.1, Value.bool a29.2.1, (hv q39_2)] 34)]) Kp), hp0, hs39_2, e53⟩ (l0a _)
    rw [if_neg hk60] at e53
    refine q0m (q06 (q06 (q0f ?_)))
    exact MN ⟨_, _, _, G, (H.pick (L' := [.blk bk2 (.cells #[I n56, I n57] 27)]) Kp), hp0, e53⟩
   rintro e w ⟨n54, n55, M, rfl, H, hp0, q70⟩
   obtain rfl := oI q70
   try dsimp only at e21
   refine IB (TN ?_)
   obtain ⟨n71, hxn71, e21⟩ := bnd e21
   refine RG (MV G G (ST (q0u G G hxn71) G (AS G G (NL ?_))))
   exact AG m27 ⟨_, _, _, _, G, H, hp0, e21⟩ (l0a _)
  rw [if_neg hk28] at e21
  refine q0m (q06 (q06 (q0f ?_)))
  exact MN ⟨_, _, _, G, H, e21⟩
 rintro e w ⟨n22, n23, M, rfl, H, q74⟩
 obtain rfl := oI q74
 try dsimp only at h
 refine TN (SQ (RG (ST (q0L [I 0, I 0] Tu27 Tz27 (xplaces27 Tu27) G G) G (q0b [_, _] H G G G Ku Ts27 G Kf Kf (q00 G) ?_))))
 intro w H
 refine NL (TN (RT ?_))
 obtain rfl := oI h
 exact q07 G ⟨_, G, H.loadAgg Km Ta27 Ts27 Kf⟩ H.ext G
theorem Y5b {p0 : Ls} {p1 : Ls} {p2 : Int} {r : Int} (h : R_Find p0 p1 p2 = some r) : Ct Tryz.prog 117 [S p0, S p1, I p2] (fun M => True) (fun v M => v = I r) := by
 refine Ct.of Tryz.func117 (enters Tryz.func117 Kr G) G G G ?_
 intro w0 M0 H hp
 unfold R_Find at h
 refine SQ (RG (AS G G (NL (TN (SQ (SQ (RG (MV G G (AS G G (NL (TN ?_)))))))))))
 obtain ⟨o1, e2, h⟩ := bnd h
 refine q0l (fun e w => ∃  (M : Mem), e = [] ∧ St w0 M0 M [] w ∧ some (.inl ()) = some o1) [] ?_ ?_ (trivial)
 ·
  refine BL (q0J (fun m e w => ∃ (n3 : Int) (M : Mem), e = [(0, S p0), (1, S p1), (7, I n3)] ∧ St w0 M0 M [] w ∧ Y30 p0 p1 m n3 = some o1) FU [(0, _), (1, _), (7, _)] ⟨rfl, rfl, rfl, trivial⟩ ⟨_, _, rfl, H, e2⟩ ?_)
  rintro m4 e w ⟨n3, M, rfl, H, e2⟩
  rcases m4 with _ | m4
  · rw [Y30] at e2; cases e2
  rw [Y30] at e2
  refine SQ (SQ ?_)
  obtain ⟨n5, hxn5, e2⟩ := bnd e2
  refine RG (MV G G (MV G G (ST (q0k Tu9 G) G (ST (q0u G G hxn5) G (MV G G (ST (q0k Tu9 G) G (ST (q1G G G) G (NL (TN ?_)))))))))
  refine CB (p := n5 ≤ (p0.length : Int)) G (fun hk6 => ?_) fun hk6 => ?_
  ·
   rw [if_pos hk6] at e2
   refine SK (TN (SQ (BL (SQ ?_))))
   obtain ⟨n7, hxn7, e2⟩ := bnd e2
   obtain ⟨s8, hxs8, e2⟩ := bnd e2
   refine RG (MV G G (MV G G (MV G G (MV G G (ST (q0k Tu9 G) G (ST (q0u G G hxn7) G (ST (Ex.sliceC Tu9 G G G hxs8) G (MV G G (ST (q0I G G) G (NL (TN ?_)))))))))))
   refine CB (p := s8 = p1) G (fun hk9 => ?_) fun hk9 => ?_
   ·
    rw [if_pos hk9] at e2
    refine SQ (RG (MV G G (AS G G (NL (TN (RT ?_))))))
    obtain rfl := oI e2
    try dsimp only at h
    obtain rfl := oI h
    exact q07 G G H.ext G
   rw [if_neg hk9] at e2
   refine SK (IB (TN ?_))
   obtain ⟨n10, hxn10, e2⟩ := bnd e2
   refine RG (MV G G (ST (q0u G G hxn10) G (AS G G (NL ?_))))
   exact AG m4 ⟨_, _, G, H, e2⟩ (l0a _)
  rw [if_neg hk6] at e2
  refine q0m (q06 (q06 (q0f ?_)))
  exact MN ⟨_, G, H, e2⟩
 rintro e w ⟨M, rfl, H, q11⟩
 obtain rfl := oI q11
 try dsimp only at h
 refine TN (SQ (RG (AS G G (NL (TN (RT ?_))))))
 obtain rfl := oI h
 exact q07 G G H.ext G
theorem Y4P {p0 : Ls} {r : Bool} (h : R_Plain p0 = some r) : Ct Tryz.prog 82 [S p0] (fun M => True) (fun v M => v = Value.bool r) := by
 refine Ct.of Tryz.func82 (enters Tryz.func82 Kr G) G G G ?_
 intro w0 M0 H hp
 unfold R_Plain at h
 refine SQ (RG (AS G G (NL (TN (SQ (SQ (RG (AS G G (NL (TN ?_))))))))))
 obtain ⟨o1, e2, h⟩ := bnd h
 refine q0l (fun e w => ∃  (M : Mem), e = [(0, S p0)] ∧ St w0 M0 M [] w ∧ some (.inl ()) = some o1) [] ?_ ?_ (trivial)
 ·
  refine BL (q0J (fun m e w => ∃ (n3 : Int) (M : Mem), e = [(0, S p0), (3, I n3)] ∧ St w0 M0 M [] w ∧ Y2D p0 m n3 = some o1) FU [(0, _), (3, _)] ⟨rfl, rfl, trivial⟩ ⟨_, _, rfl, H, e2⟩ ?_)
  rintro m4 e w ⟨n3, M, rfl, H, e2⟩
  rcases m4 with _ | m4
  · rw [Y2D] at e2; cases e2
  rw [Y2D] at e2
  refine SQ (SQ (RG (MV G G (MV G G (ST (q0k Tu9 G) G (ST (q0n G G) G (NL (TN ?_))))))))
  refine CB (p := n3 < (p0.length : Int)) G (fun hk5 => ?_) fun hk5 => ?_
  ·
   rw [if_pos hk5] at e2
   refine SK (TN (SQ (BL (SQ ?_))))
   obtain ⟨c6, hxc6, e2⟩ := bnd e2
   obtain ⟨b7, hx8, e2⟩ := bnd e2
   refine RG (MV G G (MV G G (ST (q0N Tu9 G G hxc6) G (ST (q1i Tu5 Tu3 G) G (q05 H (R_In_ct hx8) G trivial (q00 G) G ?_)))))
   intro v14 M w H hle hR
   obtain rfl := hR
   refine ST (q0R G) G (NL (TN ?_))
   refine q0o G (fun hk9 => ?_) (fun hk9 => ?_)
   ·
    replace hk9 : b7 = false := by simpa using hk9
    subst hk9
    rw [if_neg l07] at e2
    refine SQ (RG (AS G G (NL (TN (RT ?_)))))
    obtain rfl := oI e2
    try dsimp only at h
    obtain rfl := oI h
    exact q07 G G H.ext G
   replace hk9 : b7 = true := by simpa using hk9
   subst hk9
   rw [if_pos rfl] at e2
   refine SK (IB (TN ?_))
   obtain ⟨n10, hxn10, e2⟩ := bnd e2
   refine RG (MV G G (ST (q0u G G hxn10) G (AS G G (NL ?_))))
   exact AG m4 ⟨_, _, G, H, e2⟩ (l0a _)
  rw [if_neg hk5] at e2
  refine q0m (q06 (q06 (q0f ?_)))
  exact MN ⟨_, G, H, e2⟩
 rintro e w ⟨M, rfl, H, q11⟩
 obtain rfl := oI q11
 try dsimp only at h
 refine TN (SQ ?_)
 obtain ⟨o12, e13, h⟩ := bnd h
 refine q0l (fun e w => ∃ (b14 : Bool) (M : Mem), e = [(2, Value.bool b14)] ∧ St w0 M0 M [] w ∧ some b14 = some o12) [] ?_ ?_ (trivial)
 ·
  obtain ⟨n15, hx16, e13⟩ := bnd e13
  refine RG (MV G G (q05 H (Y5b hx16) G trivial (q00 G) G ?_))
  intro v17 M w H hle hR
  obtain rfl := hR
  by_cases hk17 : n15 < (0 : Int)
  ·
   rw [if_pos hk17] at e13
   by_cases hk18 : p0 = []
   ·
    rw [if_pos hk18] at e13
    refine DT hk17 (q0n G G) G (MV G G (SG (q02 G) G G G (DU hk18 (q0I G G) G G G (SG (q02 G) G G G (q0i 11 G G (SG (q0q G G) G G G (PT G G G (AS G G (NL ?_)))))))))
    exact MN ⟨_, _, G, H, e13⟩
   rw [if_neg hk18] at e13
   obtain ⟨c19, hxc19, e13⟩ := bnd e13
   by_cases hk20 : c19 = 32
   ·
    rw [if_pos hk20] at e13
    refine DT hk17 (q0n G G) G (MV G G (SG (q02 G) G G G (DG hk18 (q0I G G) G G G (SG (q02 G) G G G (SG (q02 G) G G G (SG (q0N Tu9 G G hxc19) G G G (q09 (v' := .bool false) (Ex.neqB (c := c19) (d := 32) G G) (congrArg Value.bool (by rw [decide_eq_true hk20]; rfl)) (q04 G G G) G G ?_)))))))
    refine SG (q02 G) G G G (q0i 6 G G (SG (q0r G G) G G G (SG (q0r G G) G G G (PT G G G (AS G G (NL ?_))))))
    exact MN ⟨_, _, G, H, e13⟩
   rw [if_neg hk20] at e13
   obtain ⟨n21, hxn21, e13⟩ := bnd e13
   obtain ⟨c22, hxc22, e13⟩ := bnd e13
   refine DT hk17 (q0n G G) G (MV G G (SG (q02 G) G G G (DG hk18 (q0I G G) G G G (SG (q02 G) G G G (SG (q02 G) G G G (SG (q0N Tu9 G G hxc19) G G G (q09 (v' := .bool true) (Ex.neqB (c := c19) (d := 32) G G) (congrArg Value.bool (by rw [decide_eq_false hk20]; rfl)) (q04 G G G) G G ?_)))))))
   refine SG (q02 G) G G G (SG (q02 G) G G G (SG (q02 G) G G G (SG (q0k Tu9 G) G G G (SG (Ex.subC G G hxn21) G G G (SG (q0N Tu9 G G hxc22) G G G (SG (Ex.neqB (c := c22) (d := 32) G G) G G G (SG (q0q G G) G G G (SG (q0r G G) G G G (PT G G G (AS G G (NL ?_)))))))))))
   exact MN ⟨_, _, G, H, e13⟩
  rw [if_neg hk17] at e13
  refine DF hk17 (q0n G G) G (MV G G (q0i 15 G G (PF G G G (AS G G (NL ?_)))))
  exact MN ⟨_, _, G, H, e13⟩
 rintro e w ⟨b14, M, rfl, H, q23⟩
 obtain rfl := oI q23
 refine TN (RT ?_)
 obtain rfl := oI h
 exact q07 G G H.ext G
theorem Y5e {p0 : UInt8} {r : Ls} (h : R_Two p0 = some r) : Ct Tryz.prog 154 [encB p0] (fun M => True) (fun v M => v = S r) := by
 refine Ct.of Tryz.func154 (enters Tryz.func154 Kr G) G G G ?_
 intro w0 M0 H hp
 unfold R_Two at h
 refine SQ (RG (AS G G (NL (TN (SQ ?_)))))
 obtain ⟨s1, hxs1, h⟩ := bnd h
 obtain ⟨s2, hxs2, h⟩ := bnd h
 obtain ⟨s3, hxs3, h⟩ := bnd h
 refine q0F (m := 14) G G H ?_
 intro w H
 refine TK 0 G (fun _ => q02 G) G (TK 1 G (fun _ => Ex.divB (c := p0) (m := 16) G G Dc) G (TK 2 G (fun _ => q02 G) G (TK 3 G (fun _ => Ex.divB (c := p0) (m := 16) G G Dc) G (TK 4 G (fun _ => Ex.addB (c := (UInt8.ofNat (p0.toNat / 16))) (d := 1) G G) G (TK 5 G (fun _ => Ex.sliceCK Tu9 G G G hxs1) G ?_)))))
 refine TK 6 G (fun _ => q02 G) G (TK 7 G (fun _ => Ex.modB (c := p0) (m := 16) G G Dc) G (q0s (fuel := 0) [8, 9, 10, 11, 12, 13] G Kr (MV G G (ST (Ex.modB (c := p0) (m := 16) G G Dc) G (ST (Ex.addB (c := (UInt8.ofNat (p0.toNat % 16))) (d := 1) G G) G (ST (Ex.sliceCK Tu9 G G G hxs2) G (ST (q0p G G hxs3) G (AS G G (NA (q0h Kr (TN (RT ?_))))))))))))
 obtain rfl := oI h
 exact q07 G G H.ext G
theorem Y4F {p0 : Ls} {p1 : Ls} {r : Ls} (h : R_Word p0 p1 = some r) : Ct Tryz.prog 120 [S p0, S p1] (fun M => True) (fun v M => v = S r) := by
 refine Ct.of Tryz.func120 (enters Tryz.func120 Kr G) G G G ?_
 intro w0 M0 H hp
 unfold R_Word at h
 refine SQ (RG (AS G G (NL (TN (SQ ?_)))))
 obtain ⟨n1, hx2, h⟩ := bnd h
 obtain ⟨⟨l3, n4⟩, hx5, h⟩ := bnd h
 try dsimp only at h
 refine RG (MV G G (q05 H (Y55 hx2) G trivial (q00 G) G ?_))
 intro v12 M w H hle hR
 obtain rfl := hR
 refine MV G G (q05 H (Y4U hx5) G trivial (q00 G) G ?_)
 intro v14 M w H hle hR
 try dsimp only at hR
 obtain ⟨x14_0, rfl, f14_0⟩ := hR
 refine MV G G (ST (q0e G G) G (ST (q0e G G) G (AS G G (AS G G (NL (TN (SQ (SQ (RG (MV G G (ST (q0I G G) G (NL (TN ?_)))))))))))))
 refine CB (p := p0 = [117, 116, 102, 56]) G (fun hk6 => ?_) fun hk6 => ?_
 ·
  rw [if_pos hk6] at h
  refine SQ ?_
  obtain ⟨s7, hx8, h⟩ := bnd h
  obtain ⟨s9, hxs9, h⟩ := bnd h
  obtain ⟨s10, hxs10, h⟩ := bnd h
  refine RG (MV G G (q05 H (Y4V hx8) G (f14_0) (q00 G) G ?_))
  intro v20 M w H hle hR
  replace f14_0 := f14_0.mono hle
  obtain rfl := hR
  refine ST (q0p G G hxs9) G (ST (q0p G G hxs10) G (AS G G (NL (TN (RT ?_)))))
  obtain rfl := oI h
  exact q07 G G H.ext G
 rw [if_neg hk6] at h
 refine SK (TN (SQ ?_))
 obtain ⟨s11, hxs11, h⟩ := bnd h
 obtain ⟨s12, hxs12, h⟩ := bnd h
 refine RG (MV G G (ST (q0p G G hxs11) G (ST (q0p G G hxs12) G (AS G G (NL (TN (SQ (SQ (RG (AS G G (NL (TN ?_))))))))))))
 obtain ⟨o13, e14, h⟩ := bnd h
 refine q0l (fun e w => ∃ (s15 : Ls) (M : Mem), e = [(7, S s15)] ∧ St w0 M0 M [] w ∧ some s15 = some o13) [] ?_ ?_ (trivial)
 ·
  refine BL (q0J (fun m e w => ∃ (s16 : Ls) (n17 : Int) (M : Mem), e = [(5, x14_0), (7, S s16), (8, I n17)] ∧ St w0 M0 M [] w ∧ Sl M encB x14_0 l3 ∧ Y2f l3 m s16 n17 = some o13) FU [(5, _), (7, _), (8, _)] ⟨rfl, rfl, rfl, trivial⟩ ⟨_, _, _, rfl, H, f14_0, e14⟩ ?_)
  rintro m18 e w ⟨s16, n17, M, rfl, H, f14_0, e14⟩
  rcases m18 with _ | m18
  · rw [Y2f] at e14; cases e14
  rw [Y2f] at e14
  refine SQ (SQ (RG (MV G G (MV G G (ST (q0A Tu88 f14_0 G) G (ST (q0n G G) G (NL (TN ?_))))))))
  refine CB (p := n17 < (l3.length : Int)) G (fun hk19 => ?_) fun hk19 => ?_
  ·
   rw [if_pos hk19] at e14
   refine SK (TN (SQ (BL (SQ ?_))))
   obtain ⟨c20, hxc20, e14⟩ := bnd e14
   obtain ⟨bk34, o34, ha34, hc34⟩ := f14_0.atC hxc20
   refine RG (MV G G (MV G G (ST (q0t ha34 Tu88 Ts5 G G) G (ST (q08 H G hc34 Ta5) G (ST (q1i Tu5 Tu3 G) G (AS G G (NL (TN (BL (SQ (RG (MV G G (ST (q0c G G) G (AS G G (NL (TN ?_))))))))))))))))
   refine CB (p := (c20.toNat : Int) = (32 : Int)) G (fun hk21 => ?_) fun hk21 => ?_
   ·
    rw [if_pos hk21] at e14
    obtain ⟨s22, hxs22, e14⟩ := bnd e14
    refine RG (MV G G (ST (q0p G G hxs22) G (AS G G (NL (IB (IB (TN ?_)))))))
    obtain ⟨n23, hxn23, e14⟩ := bnd e14
    refine RG (MV G G (ST (q0u G G hxn23) G (AS G G (NL ?_))))
    exact AG m18 ⟨_, _, _, G, H, f14_0, e14⟩ (l0a _)
   rw [if_neg hk21] at e14
   refine SQ ?_
   obtain ⟨o24, e25, e14⟩ := bnd e14
   refine q0l (fun e w => ∃ (b26 : Bool) (M : Mem), e = [(5, x14_0), (7, S s16), (8, I n17), (50, Value.bool b26)] ∧ St w0 M0 M [] w ∧ Sl M encB x14_0 l3 ∧ some b26 = some o24) [] ?_ ?_ (trivial)
   ·
    obtain ⟨b27, hx28, e25⟩ := bnd e25
    refine RG (MV G G (q05 H (R_In_ct hx28) G trivial (q00 G) G ?_))
    intro v52 M w H hle hR
    replace f14_0 := f14_0.mono hle
    replace hc34 := hc34.mono hle
    obtain rfl := hR
    refine MV G G ?_
    rcases b27 with _ | _
    ·
     rw [if_neg l07] at e25
     obtain ⟨b29, hx30, e25⟩ := bnd e25
     refine SG (q02 G) G G G (q05 H (R_In_ct hx30) G trivial (q04 G G G) G ?_)
     intro v55 M w H hle hR
     replace f14_0 := f14_0.mono hle
     replace hc34 := hc34.mono hle
     obtain rfl := hR
     refine PF G G G (MV G G ?_)
     rcases b29 with _ | _
     ·
      rw [if_neg l07] at e25
      obtain ⟨b31, hx32, e25⟩ := bnd e25
      refine SG (q02 G) G G G (q05 H (R_In_ct hx32) G trivial (q04 G G G) G ?_)
      intro v59 M w H hle hR
      replace f14_0 := f14_0.mono hle
      replace hc34 := hc34.mono hle
      obtain rfl := hR
      refine PF G G G (AS G G (NL ?_))
      exact MN ⟨_, _, G, H, f14_0, e25⟩
     rw [if_pos rfl] at e25
     refine GT G G G (GT G G G (PT G G G (AS G G (NL ?_))))
     exact MN ⟨_, _, G, H, f14_0, e25⟩
    rw [if_pos rfl] at e25
    refine GT G G G (GT G G G (PT G G G (MV G G (GT G G G (GT G G G (PT G G G (AS G G (NL ?_))))))))
    exact MN ⟨_, _, G, H, f14_0, e25⟩
   rintro e w ⟨b26, M, rfl, H, f14_0, q33⟩
   obtain rfl := oI q33
   refine TN ?_
   refine q0o G (fun hk34 => ?_) (fun hk34 => ?_)
   ·
    subst hk34
    rw [if_pos rfl] at e14
    obtain ⟨c35, hxc35, e14⟩ := bnd e14
    obtain ⟨bk64, o64, ha64, hc64⟩ := f14_0.atC hxc35
    obtain ⟨s36, hxs36, e14⟩ := bnd e14
    refine RG (MV G G (MV G G (MV G G (ST (q0t ha64 Tu88 Ts5 G G) G (ST (q08 H G hc64 Ta5) G (q0B (enc := encB) xty88 ([c35] : Ls) H G Kf (fun _ => G) G G (q00 G) G ?_))))))
    intro v66 M w H hle hs66
    replace f14_0 := f14_0.mono hle
    replace hc64 := hc64.mono hle
    refine ST (q1S Tu88 Tu5 Tu9 H (hs66) G) G (ST (q0p G G hxs36) G (AS G G (NL (IB (IB (TN ?_))))))
    obtain ⟨n37, hxn37, e14⟩ := bnd e14
    refine RG (MV G G (ST (q0u G G hxn37) G (AS G G (NL ?_))))
    exact AG m18 ⟨_, _, _, G, H, f14_0, e14⟩ (l0a _)
   subst hk34
   rw [if_neg l07] at e14
   obtain ⟨s38, hxs38, e14⟩ := bnd e14
   obtain ⟨c39, hxc39, e14⟩ := bnd e14
   obtain ⟨bk41, o41, ha41, hc41⟩ := f14_0.atC hxc39
   obtain ⟨s40, hx41, e14⟩ := bnd e14
   obtain ⟨s42, hxs42, e14⟩ := bnd e14
   refine RG (MV G G (ST (q0p G G hxs38) G (MV G G (MV G G (ST (q0t ha41 Tu88 Ts5 G G) G (ST (q08 H G hc41 Ta5) G (q05 H (Y5e hx41) G trivial (q00 G) G ?_)))))))
   intro v43 M w H hle hR
   replace f14_0 := f14_0.mono hle
   replace hc41 := hc41.mono hle
   obtain rfl := hR
   refine ST (q0p G G hxs42) G (AS G G (NL (IB (IB (TN ?_)))))
   obtain ⟨n43, hxn43, e14⟩ := bnd e14
   refine RG (MV G G (ST (q0u G G hxn43) G (AS G G (NL ?_))))
   exact AG m18 ⟨_, _, _, G, H, f14_0, e14⟩ (l0a _)
  rw [if_neg hk19] at e14
  refine q0m (q06 (q06 (q0f ?_)))
  exact MN ⟨_, _, G, H, e14⟩
 rintro e w ⟨s15, M, rfl, H, q44⟩
 obtain rfl := oI q44
 refine TN (SQ ?_)
 obtain ⟨s45, hxs45, h⟩ := bnd h
 refine RG (MV G G (ST (q0p G G hxs45) G (AS G G (NL (TN (RT ?_))))))
 obtain rfl := oI h
 exact q07 G G H.ext G
theorem Y4L {p0 : Ls} {p1 : Ls} {r : List Ls} (h : Y2T p0 p1 = some r) : Ct Tryz.prog 119 [S p0, S p1] (fun M => True) (fun v M => Sl M encS v r) := by
 refine Ct.of Tryz.func119 (enters Tryz.func119 Kr G) G G G ?_
 intro w0 M0 H hp
 unfold Y2T at h
 refine SQ (RG (AS G G (NL (TN (SQ (RG (AS G G (NL (TN (SQ ?_))))))))))
 obtain ⟨l1, hx2, h⟩ := bnd h
 refine RG (MV G G (q05 H (Y4X hx2) G trivial (q00 G) G ?_))
 intro v11 M w H hle hR
 have f11_0 := hR
 refine AS G G (NL (TN (SQ (SQ (RG (AS G G (NL (TN ?_))))))))
 obtain ⟨o3, e4, h⟩ := bnd h
 refine q0l (fun e w => ∃ (l6 : List Ls) (v7 : Value) (M : Mem), e = [(5, v7)] ∧ St w0 M0 M [RowI 9 encS v7 l6] w ∧ some l6 = some o3) [] ?_ ?_ (trivial)
 ·
  refine BL ?_
  replace H := H.newRow 9 encS
  refine q0J (fun m e w => ∃ (l9 : List Ls) (v10 : Value) (n11 : Int) (M : Mem), e = [(0, S p0), (5, v10), (6, v11), (7, I n11)] ∧ St w0 M0 M [RowI 9 encS v10 l9] w ∧ Sl M encS v11 l1 ∧ Y1f p0 l1 m l9 n11 = some o3) FU [(0, _), (5, _), (6, _), (7, _)] ⟨rfl, rfl, rfl, rfl, trivial⟩ ⟨_, _, _, _, rfl, H, f11_0, e4⟩ ?_
  rintro m12 e w ⟨l9, v10, n11, M, rfl, H, f11_0, e4⟩
  rcases m12 with _ | m12
  · rw [Y1f] at e4; cases e4
  rw [Y1f] at e4
  refine SQ (SQ (RG (MV G G (MV G G (ST (q0A Tu55 f11_0 G) G (ST (q0n G G) G (NL (TN ?_))))))))
  refine CB (p := n11 < (l1.length : Int)) G (fun hk14 => ?_) fun hk14 => ?_
  ·
   rw [if_pos hk14] at e4
   refine SK (TN (SQ (BL (SQ (SQ ?_)))))
   obtain ⟨a15, hxa15, e4⟩ := bnd e4
   obtain ⟨bk21, o21, ha21, hc21⟩ := f11_0.atC hxa15
   obtain ⟨s16, hx17, e4⟩ := bnd e4
   refine RG (MV G G (MV G G (MV G G (ST (q0t ha21 Tu55 Ts9 G G) G (ST (q08 H G hc21 Ta9) G (q05 H (Y4F hx17) G trivial (q00 G) G ?_))))))
   intro v23 M w H hle hR
   replace f11_0 := f11_0.mono hle
   replace hc21 := hc21.mono hle
   obtain rfl := hR
   refine ST (q0k Tu9 G) G (ST (q1G G G) G (NL (TN ?_)))
   refine CB (p := (s16.length : Int) ≤ (75 : Int)) G (fun hk18 => ?_) fun hk18 => ?_
   ·
    rw [if_pos hk18] at e4
    refine SQ ?_
    obtain ⟨a19, hxa19, e4⟩ := bnd e4
    obtain ⟨bk29, o29, ha29, hc29⟩ := f11_0.atC hxa19
    obtain ⟨l20, hxl20, e4⟩ := bnd e4
    refine RG (MV G G (MV G G (MV G G (ST (q0t ha29 Tu55 Ts9 G G) G (ST (q08 H G hc29 Ta9) G (q0B (enc := encS) xty55 ([a19] : List Ls) H G Kf (fun _ => G) G G (q00 G) G ?_))))))
    intro v31 M w H hle hs31
    replace f11_0 := f11_0.mono hle
    replace hc21 := hc21.mono hle
    replace hc29 := hc29.mono hle
    refine q1l (l := l9) xty55 G (fun _ => G) H G (fun _ => by repeat first | exact .head | apply Upd.tail) G (hs31) hxl20 (q00 G) G ?_
    intro v32 w H
    refine AS G G (NL (TN (q0m (q06 (q0f (TN ?_))))))
    obtain ⟨n21, hxn21, e4⟩ := bnd e4
    refine RG (MV G G (ST (q0u G G hxn21) G (AS G G (NL ?_))))
    exact AG m12 ⟨_, _, _, _, G, H, f11_0, e4⟩ (l0a _)
   rw [if_neg hk18] at e4
   refine SK (TN (SQ ?_))
   obtain ⟨a22, hxa22, e4⟩ := bnd e4
   obtain ⟨bk35, o35, ha35, hc35⟩ := f11_0.atC hxa22
   obtain ⟨l23, hx24, e4⟩ := bnd e4
   refine RG (MV G G (MV G G (ST (q0t ha35 Tu55 Ts9 G G) G (ST (q08 H G hc35 Ta9) G (q05 H (Y53 hx24) G trivial (q00 G) G ?_)))))
   intro v37 M w H hle hR
   replace f11_0 := f11_0.mono hle
   replace hc21 := hc21.mono hle
   replace hc35 := hc35.mono hle
   have f37_0 := hR
   refine AS G G (NL (TN (SQ (RG (AS G G (NL (TN ?_)))))))
   obtain ⟨o25, e26, e4⟩ := bnd e4
   refine q0l (fun e w => ∃ (l28 : List Ls) (v29 : Value) (M : Mem), e = [(0, S p0), (5, v29), (6, v11), (7, I n11)] ∧ St w0 M0 M [RowI 9 encS v29 l28] w ∧ Sl M encS v11 l1 ∧ some l28 = some o25) [] ?_ ?_ (trivial)
   ·
    refine BL (q0J (fun m e w => ∃ (l31 : List Ls) (v32 : Value) (n33 : Int) (M : Mem), e = [(0, S p0), (5, v32), (6, v11), (7, I n11), (8, v37), (9, I n33)] ∧ St w0 M0 M [RowI 9 encS v32 l31] w ∧ Sl M encS v11 l1 ∧ Sl M encI v37 l23 ∧ Y1e l23 m l31 n33 = some o25) FU [(0, _), (5, _), (6, _), (7, _), (8, _), (9, _)] ⟨rfl, rfl, rfl, rfl, rfl, rfl, trivial⟩ ⟨_, _, _, _, rfl, H, f11_0, f37_0, e26⟩ ?_)
    rintro m34 e w ⟨l31, v32, n33, M, rfl, H, f11_0, f37_0, e26⟩
    rcases m34 with _ | m34
    · rw [Y1e] at e26; cases e26
    rw [Y1e] at e26
    refine SQ (SQ (RG (MV G G (MV G G (ST (q0A Tu168 f37_0 G) G (ST (q0n G G) G (NL (TN ?_))))))))
    refine CB (p := n33 < (l23.length : Int)) G (fun hk35 => ?_) fun hk35 => ?_
    ·
     rw [if_pos hk35] at e26
     refine SK (TN (SQ (BL ?_)))
     obtain ⟨a36, hxa36, e26⟩ := bnd e26
     obtain ⟨bk47, o47, ha47, hc47⟩ := f37_0.atC hxa36
     obtain ⟨s37, hx38, e26⟩ := bnd e26
     obtain ⟨l39, hxl39, e26⟩ := bnd e26
     refine RG (MV G G (MV G G (MV G G (ST (q0t ha47 Tu168 Ts3 G G) G (ST (q08 H G hc47 Ta3) G (q05 H (Y59 hx38) G trivial (q00 G) G ?_))))))
     intro v49 M w H hle hR
     replace f11_0 := f11_0.mono hle
     replace f37_0 := f37_0.mono hle
     replace hc47 := hc47.mono hle
     obtain rfl := hR
     refine q0B (enc := encS) xty55 ([s37] : List Ls) H G Kf (fun _ => G) G G (q00 G) G ?_
     intro v50 M w H hle hs50
     replace f11_0 := f11_0.mono hle
     replace f37_0 := f37_0.mono hle
     replace hc47 := hc47.mono hle
     refine q1l (l := l31) xty55 G (fun _ => G) H G (fun _ => by repeat first | exact .head | apply Upd.tail) G (hs50) hxl39 (q00 G) G ?_
     intro v51 w H
     refine AS G G (NL (IB (TN ?_)))
     obtain ⟨n40, hxn40, e26⟩ := bnd e26
     refine RG (MV G G (ST (q0u G G hxn40) G (AS G G (NL ?_))))
     exact AG m34 ⟨_, _, _, _, G, H, f11_0, f37_0, e26⟩ (l0a _)
    rw [if_neg hk35] at e26
    refine q0m (q06 (q06 (q0f ?_)))
    exact MN ⟨_, _, _, G, H, f11_0, e26⟩
   rintro e w ⟨l28, v29, M, rfl, H, f11_0, q41⟩
   obtain rfl := oI q41
   refine IB (TN ?_)
   obtain ⟨n42, hxn42, e4⟩ := bnd e4
   refine RG (MV G G (ST (q0u G G hxn42) G (AS G G (NL ?_))))
   exact AG m12 ⟨_, _, _, _, G, H, f11_0, e4⟩ (l0a _)
  rw [if_neg hk14] at e4
  refine q0m (q06 (q06 (q0f ?_)))
  exact MN ⟨_, _, _, G, H, e4⟩
 rintro e w ⟨l6, v7, M, rfl, H, q43⟩
 obtain rfl := oI q43
 refine TN (SQ (RG (MV G G (AS G G (NL (TN (RT ?_)))))))
 obtain ⟨M, hle, hs44, H⟩ := H.freezeRow (v := v7) (enc := encS) (t := 9) Kv
 obtain rfl := oI h
 exact q07 G G H.ext hs44
theorem Y57 {p0 : Ls} {r : Ls} (h : R_Words p0 = some r) : Ct Tryz.prog 83 [S p0] (fun M => True) (fun v M => v = S r) := by
 refine Ct.of Tryz.func83 (enters Tryz.func83 Kr G) G G G ?_
 intro w0 M0 H hp
 unfold R_Words at h
 refine SQ (RG (AS G G (NL (TN (SQ (SQ ?_))))))
 obtain ⟨b1, hx2, h⟩ := bnd h
 refine RG (MV G G (q05 H (Y4P hx2) G trivial (q00 G) G ?_))
 intro v9 M w H hle hR
 obtain rfl := hR
 refine NL (TN ?_)
 refine q0o G (fun hk3 => ?_) (fun hk3 => ?_)
 ·
  subst hk3
  rw [if_pos rfl] at h
  refine SQ (RG (MV G G (AS G G (NL (TN (RT ?_))))))
  obtain rfl := oI h
  exact q07 G G H.ext G
 subst hk3
 rw [if_neg l07] at h
 refine SK (TN (SQ ?_))
 obtain ⟨s4, hx5, h⟩ := bnd h
 refine RG (MV G G (q05 H (Y5a hx5) G trivial (q00 G) G ?_))
 intro v12 M w H hle hR
 obtain rfl := hR
 refine AS G G (NL (TN (SQ ?_)))
 obtain ⟨l6, hx7, h⟩ := bnd h
 refine RG (MV G G (MV G G (q05 H (Y4L hx7) G trivial (q00 G) G ?_)))
 intro v15 M w H hle hR
 have f15_0 := hR
 refine AS G G (NL (TN (SQ (RG (AS G G (NL (TN (SQ (SQ (RG (AS G G (NL (TN ?_)))))))))))))
 obtain ⟨o8, e9, h⟩ := bnd h
 refine q0l (fun e w => ∃ (s10 : Ls) (M : Mem), e = [(5, S s10)] ∧ St w0 M0 M [] w ∧ some s10 = some o8) [] ?_ ?_ (trivial)
 ·
  refine BL (q0J (fun m e w => ∃ (s11 : Ls) (n12 : Int) (M : Mem), e = [(3, S s4), (4, v15), (5, S s11), (6, I n12)] ∧ St w0 M0 M [] w ∧ Sl M encS v15 l6 ∧ Y2a s4 l6 m s11 n12 = some o8) FU [(3, _), (4, _), (5, _), (6, _)] ⟨rfl, rfl, rfl, rfl, trivial⟩ ⟨_, _, _, rfl, H, f15_0, e9⟩ ?_)
  rintro m13 e w ⟨s11, n12, M, rfl, H, f15_0, e9⟩
  rcases m13 with _ | m13
  · rw [Y2a] at e9; cases e9
  rw [Y2a] at e9
  refine SQ (SQ (RG (MV G G (MV G G (ST (q0A Tu55 f15_0 G) G (ST (q0n G G) G (NL (TN ?_))))))))
  refine CB (p := n12 < (l6.length : Int)) G (fun hk14 => ?_) fun hk14 => ?_
  ·
   rw [if_pos hk14] at e9
   refine SK (TN (BL (SQ ?_)))
   obtain ⟨a15, hxa15, e9⟩ := bnd e9
   obtain ⟨bk22, o22, ha22, hc22⟩ := f15_0.atC hxa15
   refine RG (MV G G (MV G G (ST (q0t ha22 Tu55 Ts9 G G) G (ST (q08 H G hc22 Ta9) G (AS G G (NL (TN (SQ ?_))))))))
   obtain ⟨n16, hxn16, e9⟩ := bnd e9
   refine RG (MV G G (ST (q0u G G hxn16) G (AS G G (NL (TN (SQ ?_))))))
   obtain ⟨o17, e18, e9⟩ := bnd e9
   refine q0l (fun e w => ∃ (n19 : Int) (s20 : Ls) (M : Mem), e = [(3, S s4), (4, v15), (5, S s11), (6, I n19), (7, S s20)] ∧ St w0 M0 M [] w ∧ Sl M encS v15 l6 ∧ some (n19, s20) = some o17) [] ?_ ?_ (trivial)
   ·
    refine BL (q0J (fun m e w => ∃ (n21 : Int) (s22 : Ls) (M : Mem), e = [(3, S s4), (4, v15), (5, S s11), (6, I n21), (7, S s22)] ∧ St w0 M0 M [] w ∧ Sl M encS v15 l6 ∧ Y2E s4 l6 m n21 s22 = some o17) FU [(3, _), (4, _), (5, _), (6, _), (7, _)] ⟨rfl, rfl, rfl, rfl, rfl, trivial⟩ ⟨_, _, _, rfl, H, f15_0, e18⟩ ?_)
    rintro m23 e w ⟨n21, s22, M, rfl, H, f15_0, e18⟩
    rcases m23 with _ | m23
    · rw [Y2E] at e18; cases e18
    rw [Y2E] at e18
    refine SQ (SQ ?_)
    obtain ⟨o24, e25, e18⟩ := bnd e18
    refine q0l (fun e w => ∃ (b26 : Bool) (M : Mem), e = [(3, S s4), (4, v15), (5, S s11), (6, I n21), (7, S s22), (41, Value.bool b26)] ∧ St w0 M0 M [] w ∧ Sl M encS v15 l6 ∧ some b26 = some o24) [] ?_ ?_ (trivial)
    ·
     refine RG (MV G G (MV G G (ST (q0A Tu55 f15_0 G) G ?_)))
     by_cases hk27 : n21 < (l6.length : Int)
     ·
      rw [if_pos hk27] at e25
      obtain ⟨a28, hxa28, e25⟩ := bnd e25
      obtain ⟨bk35, o35, ha35, hc35⟩ := f15_0.atC hxa28
      obtain ⟨s29, hxs29, e25⟩ := bnd e25
      obtain ⟨s30, hx31, e25⟩ := bnd e25
      refine DT hk27 (q0n G G) G (MV G G (SG (q02 G) G G G (SG (q02 G) G G G (SG (q02 G) G G G (SG (q02 G) G G G (SG (q0t ha35 Tu55 Ts9 G G) G G G (SG (q08 H G hc35 Ta9) G G G (SG (q0p G G hxs29) G G G (q05 H (Y4F hx31) G trivial (q04 G G G) G ?_)))))))))
      intro v38 M w H hle hR
      replace f15_0 := f15_0.mono hle
      replace hc35 := hc35.mono hle
      obtain rfl := hR
      refine SG (q0k Tu9 G) G G G (SG (q1G G G) G G G (PT G G G (NL ?_)))
      exact MN ⟨_, _, G, H, f15_0, e25⟩
     rw [if_neg hk27] at e25
     refine DF hk27 (q0n G G) G (MV G G (q0i 10 G G (PF G G G (NL ?_))))
     exact MN ⟨_, _, G, H, f15_0, e25⟩
    rintro e w ⟨b26, M, rfl, H, f15_0, q32⟩
    obtain rfl := oI q32
    refine TN ?_
    refine q0o G (fun hk33 => ?_) (fun hk33 => ?_)
    ·
     subst hk33
     rw [if_pos rfl] at e18
     refine SK (TN (BL (SQ ?_)))
     obtain ⟨a34, hxa34, e18⟩ := bnd e18
     obtain ⟨bk45, o45, ha45, hc45⟩ := f15_0.atC hxa34
     obtain ⟨s35, hxs35, e18⟩ := bnd e18
     refine RG (MV G G (MV G G (MV G G (ST (q0t ha45 Tu55 Ts9 G G) G (ST (q08 H G hc45 Ta9) G (ST (q0p G G hxs35) G (AS G G (NL (TN ?_)))))))))
     obtain ⟨n36, hxn36, e18⟩ := bnd e18
     refine RG (MV G G (ST (q0u G G hxn36) G (AS G G (NL (IB ?_)))))
     exact AG m23 ⟨_, _, _, G, H, f15_0, e18⟩ (l0a _)
    subst hk33
    rw [if_neg l07] at e18
    refine q0m (q06 (q06 (q0f ?_)))
    exact MN ⟨_, _, _, G, H, f15_0, e18⟩
   rintro e w ⟨n19, s20, M, rfl, H, f15_0, q37⟩
   obtain rfl := oI q37
   try dsimp only at e9
   refine TN (SQ (SQ (RG (MV G G (ST (q1u G G) G (NL (TN ?_)))))))
   obtain ⟨o38, e39, e9⟩ := bnd e9
   refine q0l (fun e w => ∃ (s40 : Ls) (M : Mem), e = [(3, S s4), (4, v15), (5, S s40), (6, I n19), (7, S s20)] ∧ St w0 M0 M [] w ∧ Sl M encS v15 l6 ∧ some s40 = some o38) [] ?_ ?_ (trivial)
   ·
    refine q0o G (fun hk41 => ?_) (fun hk41 => ?_)
    ·
     replace hk41 : ¬ (s11 = []) := of_not_decide hk41
     rw [if_neg hk41] at e39
     obtain ⟨s42, hxs42, e39⟩ := bnd e39
     refine RG (MV G G (ST (q0p G G hxs42) G (AS G G (NL ?_))))
     exact MN ⟨_, _, G, H, f15_0, e39⟩
    replace hk41 : s11 = [] := of_not_decide' hk41
    rw [if_pos hk41] at e39
    refine SK ?_
    exact MN ⟨_, _, G, H, f15_0, e39⟩
   rintro e w ⟨s40, M, rfl, H, f15_0, q43⟩
   obtain rfl := oI q43
   refine TN ?_
   obtain ⟨s44, hx45, e9⟩ := bnd e9
   obtain ⟨s46, hxs46, e9⟩ := bnd e9
   refine RG (MV G G (MV G G (MV G G (q05 H (Y4F hx45) G trivial (q00 G) G ?_))))
   intro v57 M w H hle hR
   replace f15_0 := f15_0.mono hle
   obtain rfl := hR
   refine ST (q0p G G hxs46) G (AS G G (NL (IB ?_)))
   exact AG m13 ⟨_, _, _, G, H, f15_0, e9⟩ (l0a _)
  rw [if_neg hk14] at e9
  refine q0m (q06 (q06 (q0f ?_)))
  exact MN ⟨_, _, G, H, e9⟩
 rintro e w ⟨s10, M, rfl, H, q47⟩
 obtain rfl := oI q47
 refine TN (SQ (RG (MV G G (AS G G (NL (TN (RT ?_)))))))
 obtain rfl := oI h
 exact q07 G G H.ext G
theorem Y43 {p0 : Ls} {r : Ls} (h : R_Quote p0 = some r) : Ct Tryz.prog 57 [S p0] (fun M => True) (fun v M => v = S r) := by
 refine Ct.of Tryz.func57 (enters Tryz.func57 Kr G) G G G ?_
 intro w0 M0 H hp
 unfold R_Quote at h
 refine SQ (RG (AS G G (NL (TN (SQ (RG (AS G G (NL (TN (SQ (SQ (RG (AS G G (NL (TN ?_)))))))))))))))
 obtain ⟨o1, e2, h⟩ := bnd h
 refine q0l (fun e w => ∃ (s3 : Ls) (M : Mem), e = [(3, S s3)] ∧ St w0 M0 M [] w ∧ some s3 = some o1) [] ?_ ?_ (trivial)
 ·
  refine BL (q0J (fun m e w => ∃ (s4 : Ls) (n5 : Int) (M : Mem), e = [(0, S p0), (3, S s4), (4, I n5)] ∧ St w0 M0 M [] w ∧ Y2J p0 m s4 n5 = some o1) FU [(0, _), (3, _), (4, _)] ⟨rfl, rfl, rfl, trivial⟩ ⟨_, _, _, rfl, H, e2⟩ ?_)
  rintro m6 e w ⟨s4, n5, M, rfl, H, e2⟩
  rcases m6 with _ | m6
  · rw [Y2J] at e2; cases e2
  rw [Y2J] at e2
  refine SQ (SQ (RG (MV G G (MV G G (ST (q0k Tu9 G) G (ST (q0n G G) G (NL (TN ?_))))))))
  refine CB (p := n5 < (p0.length : Int)) G (fun hk7 => ?_) fun hk7 => ?_
  ·
   rw [if_pos hk7] at e2
   refine SK (TN (SQ (BL (SQ (SQ ?_)))))
   obtain ⟨o8, e9, e2⟩ := bnd e2
   refine q0l (fun e w => ∃ (b10 : Bool) (M : Mem), e = [(0, S p0), (3, S s4), (4, I n5), (20, Value.bool b10)] ∧ St w0 M0 M [] w ∧ some b10 = some o8) [] ?_ ?_ (trivial)
   ·
    obtain ⟨c11, hxc11, e9⟩ := bnd e9
    refine RG (MV G G (MV G G (ST (q0N Tu9 G G hxc11) G ?_)))
    by_cases hk12 : c11 = 34
    ·
     rw [if_pos hk12] at e9
     refine DT hk12 (q1A (c := c11) (d := 34) G G) G (MV G G (q0i 4 G G (PT G G G (NL ?_))))
     exact MN ⟨_, _, G, H, e9⟩
    rw [if_neg hk12] at e9
    obtain ⟨c13, hxc13, e9⟩ := bnd e9
    refine DF hk12 (q1A (c := c11) (d := 34) G G) G (MV G G (SG (q02 G) G G G (SG (q02 G) G G G (SG (q0N Tu9 G G hxc13) G G G (SG (q1A (c := c13) (d := 92) G G) G G G (PF G G G (NL ?_)))))))
    exact MN ⟨_, _, G, H, e9⟩
   rintro e w ⟨b10, M, rfl, H, q14⟩
   obtain rfl := oI q14
   refine TN ?_
   obtain ⟨o15, e16, e2⟩ := bnd e2
   refine q0l (fun e w => ∃ (s17 : Ls) (M : Mem), e = [(0, S p0), (3, S s17), (4, I n5)] ∧ St w0 M0 M [] w ∧ some s17 = some o15) [] ?_ ?_ (trivial)
   ·
    refine q0o G (fun hk18 => ?_) (fun hk18 => ?_)
    ·
     subst hk18
     rw [if_pos rfl] at e16
     obtain ⟨s19, hxs19, e16⟩ := bnd e16
     refine RG (MV G G (ST (q0p G G hxs19) G (AS G G (NL ?_))))
     exact MN ⟨_, _, G, H, e16⟩
    subst hk18
    rw [if_neg l07] at e16
    refine SK ?_
    exact MN ⟨_, _, G, H, e16⟩
   rintro e w ⟨s17, M, rfl, H, q20⟩
   obtain rfl := oI q20
   refine TN ?_
   obtain ⟨n21, hxn21, e2⟩ := bnd e2
   obtain ⟨s22, hxs22, e2⟩ := bnd e2
   obtain ⟨s23, hxs23, e2⟩ := bnd e2
   refine RG (MV G G (MV G G (MV G G (MV G G (ST (q0u G G hxn21) G (ST (Ex.sliceC Tu9 G G G hxs22) G (ST (q0p G G hxs23) G (AS G G (NL (IB (TN ?_)))))))))))
   obtain ⟨n24, hxn24, e2⟩ := bnd e2
   refine RG (MV G G (ST (q0u G G hxn24) G (AS G G (NL ?_))))
   exact AG m6 ⟨_, _, _, G, H, e2⟩ (l0a _)
  rw [if_neg hk7] at e2
  refine q0m (q06 (q06 (q0f ?_)))
  exact MN ⟨_, _, G, H, e2⟩
 rintro e w ⟨s3, M, rfl, H, q25⟩
 obtain rfl := oI q25
 refine TN (SQ ?_)
 obtain ⟨s26, hxs26, h⟩ := bnd h
 refine RG (MV G G (ST (q0p G G hxs26) G (AS G G (NL (TN (RT ?_))))))
 obtain rfl := oI h
 exact q07 G G H.ext G
theorem Y4g {p0 : Ls} {r : Ls} (h : Y42 p0 = some r) : Ct Tryz.prog 44 [S p0] (fun M => True) (fun v M => v = S r) := by
 refine Ct.of Tryz.func44 (enters Tryz.func44 Kr G) G G G ?_
 intro w0 M0 H hp
 unfold Y42 at h
 refine SQ (RG (AS G G (NL (TN (SQ (SQ ?_))))))
 obtain ⟨b1, hx2, h⟩ := bnd h
 refine RG (MV G G (q05 H (Y4P hx2) G trivial (q00 G) G ?_))
 intro v5 M w H hle hR
 obtain rfl := hR
 refine ST (q0R G) G (NL (TN ?_))
 refine q0o G (fun hk3 => ?_) (fun hk3 => ?_)
 ·
  replace hk3 : b1 = false := by simpa using hk3
  subst hk3
  rw [if_neg l07] at h
  refine SQ ?_
  obtain ⟨s4, hx5, h⟩ := bnd h
  refine RG (MV G G (q05 H (Y57 hx5) G trivial (q00 G) G ?_))
  intro v8 M w H hle hR
  obtain rfl := hR
  refine AS G G (NL (TN (RT ?_)))
  obtain rfl := oI h
  exact q07 G G H.ext G
 replace hk3 : b1 = true := by simpa using hk3
 subst hk3
 rw [if_pos rfl] at h
 refine SK (TN (SQ (SQ (RG (AS G G (NL (TN ?_)))))))
 obtain ⟨o6, e7, h⟩ := bnd h
 refine q0l (fun e w => ∃  (M : Mem), e = [(0, S p0)] ∧ St w0 M0 M [] w ∧ some (.inl ()) = some o6) [] ?_ ?_ (trivial)
 ·
  refine BL (q0J (fun m e w => ∃ (n8 : Int) (M : Mem), e = [(0, S p0), (3, I n8)] ∧ St w0 M0 M [] w ∧ Y1Y p0 m n8 = some o6) FU [(0, _), (3, _)] ⟨rfl, rfl, trivial⟩ ⟨_, _, rfl, H, e7⟩ ?_)
  rintro m9 e w ⟨n8, M, rfl, H, e7⟩
  rcases m9 with _ | m9
  · rw [Y1Y] at e7; cases e7
  rw [Y1Y] at e7
  refine SQ (SQ (RG (MV G G (MV G G (ST (q0k Tu9 G) G (ST (q0n G G) G (NL (TN ?_))))))))
  refine CB (p := n8 < (p0.length : Int)) G (fun hk10 => ?_) fun hk10 => ?_
  ·
   rw [if_pos hk10] at e7
   refine SK (TN (SQ (BL (SQ ?_))))
   obtain ⟨o11, e12, e7⟩ := bnd e7
   refine q0l (fun e w => ∃ (b13 : Bool) (M : Mem), e = [(0, S p0), (3, I n8), (32, Value.bool b13)] ∧ St w0 M0 M [] w ∧ some b13 = some o11) [] ?_ ?_ (trivial)
   ·
    obtain ⟨c14, hxc14, e12⟩ := bnd e12
    obtain ⟨b15, hx16, e12⟩ := bnd e12
    refine RG (MV G G (MV G G (ST (q0N Tu9 G G hxc14) G (q05 H (Y4m hx16) G trivial (q00 G) G ?_))))
    intro v18 M w H hle hR
    obtain rfl := hR
    refine ST (q0R G) G (MV G G ?_)
    rcases b15 with _ | _
    ·
     rw [if_neg l07] at e12
     obtain ⟨c17, hxc17, e12⟩ := bnd e12
     refine SG (q02 G) G G G (SG (q02 G) G G G (SG (q0N Tu9 G G hxc17) G G G ?_))
     by_cases hk18 : c17 = 32
     ·
      rw [if_pos hk18] at e12
      obtain ⟨n19, hxn19, e12⟩ := bnd e12
      obtain ⟨c20, hxc20, e12⟩ := bnd e12
      refine q09 (v' := .bool false) (Ex.neqB (c := c17) (d := 32) G G) (congrArg Value.bool (by rw [decide_eq_true hk18]; rfl)) (q04 G G G) G G ?_
      refine SG (q02 G) G G G (SG (q02 G) G G G (SG (q02 G) G G G (SG (Ex.subC G G hxn19) G G G (SG (q0N Tu9 G G hxc20) G G G (SG (q1A (c := c20) (d := 32) G G) G G G (SG (q0r G G) G G G (PT G G G (NL ?_))))))))
      exact MN ⟨_, _, G, H, e12⟩
     rw [if_neg hk18] at e12
     refine q09 (v' := .bool true) (Ex.neqB (c := c17) (d := 32) G G) (congrArg Value.bool (by rw [decide_eq_false hk18]; rfl)) (q04 G G G) G G ?_
     refine SG (q02 G) G G G (q0i 5 G G (SG (q0q G G) G G G (PT G G G (NL ?_))))
     exact MN ⟨_, _, G, H, e12⟩
    rw [if_pos rfl] at e12
    refine q0i 11 G G (PF G G G (NL ?_))
    exact MN ⟨_, _, G, H, e12⟩
   rintro e w ⟨b13, M, rfl, H, q21⟩
   obtain rfl := oI q21
   refine TN ?_
   refine q0o G (fun hk22 => ?_) (fun hk22 => ?_)
   ·
    subst hk22
    rw [if_pos rfl] at e7
    refine SQ ?_
    obtain ⟨s23, hx24, e7⟩ := bnd e7
    refine RG (MV G G (q05 H (Y43 hx24) G trivial (q00 G) G ?_))
    intro v34 M w H hle hR
    obtain rfl := hR
    refine AS G G (NL (TN (RT ?_)))
    obtain rfl := oI e7
    try dsimp only at h
    obtain rfl := oI h
    exact q07 G G H.ext G
   subst hk22
   rw [if_neg l07] at e7
   refine SK (IB (TN ?_))
   obtain ⟨n25, hxn25, e7⟩ := bnd e7
   refine RG (MV G G (ST (q0u G G hxn25) G (AS G G (NL ?_))))
   exact AG m9 ⟨_, _, G, H, e7⟩ (l0a _)
  rw [if_neg hk10] at e7
  refine q0m (q06 (q06 (q0f ?_)))
  exact MN ⟨_, G, H, e7⟩
 rintro e w ⟨M, rfl, H, q26⟩
 obtain rfl := oI q26
 try dsimp only at h
 refine TN (SQ (SQ (RG (MV G G (ST (q0I G G) G (NL (TN ?_)))))))
 refine CB (p := p0 = []) G (fun hk27 => ?_) fun hk27 => ?_
 ·
  rw [if_pos hk27] at h
  refine SQ ?_
  obtain ⟨s28, hx29, h⟩ := bnd h
  refine RG (MV G G (q05 H (Y43 hx29) G trivial (q00 G) G ?_))
  intro v38 M w H hle hR
  obtain rfl := hR
  refine AS G G (NL (TN (RT ?_)))
  obtain rfl := oI h
  exact q07 G G H.ext G
 rw [if_neg hk27] at h
 refine SK (TN (SQ (RG (MV G G (AS G G (NL (TN (RT ?_))))))))
 obtain rfl := oI h
 exact q07 G G H.ext G
theorem Y2Z {p0 : (Ls × Ls × Ls)} {r : Ls} (h : Y3a p0 = some r) : Ct Tryz.prog 25 [Value.agg #[S p0.1, S p0.2.1, S p0.2.2]] (fun M => True) (fun v M => v = S r) := by
 refine Ct.of Tryz.func25 (enters Tryz.func25 Kr G) G G G ?_
 intro w0 M0 H hp
 unfold Y3a at h
 refine SQ (RG (q1t [_, _, _] H G G (q00 G) G ?_))
 intro bk1 w H
 refine AS G G (NL (TN (SQ (SQ ?_))))
 obtain ⟨b1, hx2, h⟩ := bnd h
 refine RG (ST (q03 Tu24 G Ts9 Dc G) G (ST (XL H Ta9) G ?_))
 refine q05 H (Y4E hx2) G trivial (q00 G) G ?_
 intro v5 M w H hle hR
 obtain rfl := hR
 refine NL (TN ?_)
 refine q0o G (fun hk3 => ?_) (fun hk3 => ?_)
 ·
  subst hk3
  rw [if_pos rfl] at h
  refine SQ ?_
  obtain ⟨s4, hxs4, h⟩ := bnd h
  obtain ⟨s5, hxs5, h⟩ := bnd h
  refine RG (ST (q03 Tu24 G Ts9 Dc G) G (ST (XL H Ta9) G ?_))
  refine ST (q0p G G hxs4) G (ST (q03 Tu24 G Ts9 Dc G) G (ST (XL H Ta9) G ?_))
  refine ST (q0p G G hxs5) G (AS G G (NL (TN (RT ?_))))
  obtain rfl := oI h
  exact q07 G G H.ext G
 subst hk3
 rw [if_neg l07] at h
 refine SK (TN (SQ ?_))
 obtain ⟨s6, hx7, h⟩ := bnd h
 obtain ⟨s8, hxs8, h⟩ := bnd h
 obtain ⟨s9, hxs9, h⟩ := bnd h
 refine q1Z (fun e w => ∃  (M : Mem), e = [(2, S s9)] ∧ St w0 M0 M [] w) ?_ ?_
 ·
  refine q0F (m := 8) G G H ?_
  intro w H
  refine TK 0 G (fun _ => q03 Tu24 G Ts9 Dc G) G (TK 4 G (fun _ => q03 Tu24 G Ts9 Dc G) G (q1c (i := 1) [5] G Kr Kr Kr (XL H Ta9) (q00 G) G G (fun _ _ => G) ?_))
  refine q0P (i := 2) (j := 5) Kr G G ?_ ?_
  ·
   refine q05 H (Y43 hx7) G trivial (q00 G) G ?_
   intro v14 M w H hle hR
   obtain rfl := hR
   refine NA (TK 3 G (fun _ => q0p G G hxs8) G (q0s (fuel := 0) [5, 6, 7] G Kr (ST (XL H Ta9) G ?_)))
   refine ST (q0p G G hxs9) G (AS G G (NA (q0h Kr ?_)))
   exact MP ⟨_, G, (H.pick (L' := []) Kp)⟩
  refine ST (XL H Ta9) G ?_
  refine NA (q0s (fuel := 0) [2, 3, 6, 7] G Kr (q05 H (Y43 hx7) G trivial (q00 G) G ?_))
  intro v14 M w H hle hR
  obtain rfl := hR
  refine ST (q0p G G hxs8) G (ST (q0p G G hxs9) G (AS G G (NA (q0h Kr ?_))))
  exact MP ⟨_, G, (H.pick (L' := []) Kp)⟩
 rintro e w ⟨M, rfl, H⟩
 refine TN (RT ?_)
 obtain rfl := oI h
 exact q07 G G H.ext G
theorem Y4a {p0 : List (Ls × Bool × List (Ls × Ls × Ls))} {vp0 : Value} {r : Ls} (h : Y2W p0 = some r) : Ct Tryz.prog 17 [vp0] (fun M => SlR xrl34 M vp0 p0) (fun v M => v = S r) := by
 refine Ct.of Tryz.func17 (enters Tryz.func17 Kr G) G G G ?_
 intro w0 M0 H hp
 have hp0 := hp
 unfold Y2W at h
 refine SQ (RG (AS G G (NL (TN (SQ (RG (AS G G (NL (TN (SQ (SQ (RG (AS G G (NL (TN ?_)))))))))))))))
 obtain ⟨o1, e2, h⟩ := bnd h
 refine q0l (fun e w => ∃ (s3 : Ls) (M : Mem), e = [(3, S s3)] ∧ St w0 M0 M [] w ∧ some s3 = some o1) [] ?_ ?_ (trivial)
 ·
  refine BL (q0J (fun m e w => ∃ (s4 : Ls) (n5 : Int) (M : Mem), e = [(0, vp0), (3, S s4), (4, I n5)] ∧ St w0 M0 M [] w ∧ SlR xrl34 M vp0 p0 ∧ Y0D p0 m s4 n5 = some o1) FU [(0, _), (3, _), (4, _)] ⟨rfl, rfl, rfl, trivial⟩ ⟨_, _, _, rfl, H, hp0, e2⟩ ?_)
  rintro m6 e w ⟨s4, n5, M, rfl, H, hp0, e2⟩
  rcases m6 with _ | m6
  · rw [Y0D] at e2; cases e2
  rw [Y0D] at e2
  refine SQ (SQ (RG (MV G G (MV G G (ST (q1q Tu22 hp0 G) G (ST (q0n G G) G (NL (TN ?_))))))))
  refine CB (p := n5 < (p0.length : Int)) G (fun hk7 => ?_) fun hk7 => ?_
  ·
   rw [if_pos hk7] at e2
   refine SK (TN (SQ (BL (SQ (SQ (RG (MV G G (ST (q0K G G) G (NL (TN ?_))))))))))
   obtain ⟨o8, e9, e2⟩ := bnd e2
   refine q0l (fun e w => ∃ (s10 : Ls) (M : Mem), e = [(0, vp0), (3, S s10), (4, I n5)] ∧ St w0 M0 M [] w ∧ SlR xrl34 M vp0 p0 ∧ some s10 = some o8) [] ?_ ?_ (trivial)
   ·
    refine CB (p := (0 : Int) < n5) G (fun hk11 => ?_) fun hk11 => ?_
    ·
     rw [if_pos hk11] at e9
     obtain ⟨s12, hxs12, e9⟩ := bnd e9
     refine RG (MV G G (ST (q0p G G hxs12) G (AS G G (NL ?_))))
     exact MN ⟨_, _, G, H, hp0, e9⟩
    rw [if_neg hk11] at e9
    refine SK ?_
    exact MN ⟨_, _, G, H, hp0, e9⟩
   rintro e w ⟨s10, M, rfl, H, hp0, q13⟩
   obtain rfl := oI q13
   refine TN (SQ (SQ ?_))
   obtain ⟨a14, hxa14, e2⟩ := bnd e2
   obtain ⟨bk19, o19, fq19, ha19, hc19, hr19⟩ := hp0.atC hxa14
   obtain ⟨f19_0, f19_1, q19_2⟩ := fq19
   replace hr19 : f19_0 = a14.1 ∧ f19_1 = a14.2.1 ∧ SlS M 3 xenc24 (hv q19_2) a14.2.2 := hr19
   obtain ⟨rfl, rfl, hs19_2⟩ := hr19
   refine RG (MV G G (MV G G (ST (q0t ha19 Tu22 Ts34 G G) G (ST (q03 Tu34 G Ts4 Dc G) G (ST (q08 H G (hc19.at (j := 1) G) Ta4) G (NL (TN ?_)))))))
   obtain ⟨o15, e16, e2⟩ := bnd e2
   refine q0l (fun e w => ∃ (s17 : Ls) (M : Mem), e = [(0, vp0), (3, S s17), (4, I n5)] ∧ St w0 M0 M [] w ∧ SlR xrl34 M vp0 p0 ∧ some s17 = some o15) [] ?_ ?_ (trivial)
   ·
    refine q0o G (fun hk18 => ?_) (fun hk18 => ?_)
    ·
     rw [if_pos hk18] at e16
     obtain ⟨a19, hxa19, e16⟩ := bnd e16
     obtain ⟨bk25, o25, fq25, ha25, hc25, hr25⟩ := hp0.atC hxa19
     obtain ⟨f25_0, f25_1, q25_2⟩ := fq25
     replace hr25 : f25_0 = a19.1 ∧ f25_1 = a19.2.1 ∧ SlS M 3 xenc24 (hv q25_2) a19.2.2 := hr25
     obtain ⟨rfl, rfl, hs25_2⟩ := hr25
     obtain ⟨s20, hx21, e16⟩ := bnd e16
     obtain ⟨s22, hxs22, e16⟩ := bnd e16
     obtain ⟨s23, hxs23, e16⟩ := bnd e16
     refine RG (MV G G (MV G G (MV G G (ST (q0t ha25 Tu22 Ts34 G G) G (ST (q03 Tu34 G Ts9 Dc G) G (ST (q08 H G (hc25.at (j := 0) G) Ta9) G (q05 H (Y4g hx21) G trivial (q00 G) G ?_)))))))
     intro v28 M w H hle hR
     replace hp0 := hp0.mono hle
     replace hc19 := hc19.mono hle
     replace hc25 := hc25.mono hle
     replace hs25_2 := hs25_2.mono hle
     obtain rfl := hR
     refine ST (q0p G G hxs22) G (ST (q0p G G hxs23) G (AS G G (NL ?_)))
     exact MN ⟨_, _, G, H, hp0, e16⟩
    rw [if_neg (by rw [hk18]; exact l07)] at e16
    refine SK ?_
    exact MN ⟨_, _, G, H, hp0, e16⟩
   rintro e w ⟨s17, M, rfl, H, hp0, q24⟩
   obtain rfl := oI q24
   refine TN (SQ (SQ (RG (AS G G (NL (TN ?_))))))
   obtain ⟨o25, e26, e2⟩ := bnd e2
   refine q0l (fun e w => ∃ (s27 : Ls) (M : Mem), e = [(0, vp0), (3, S s27), (4, I n5)] ∧ St w0 M0 M [] w ∧ SlR xrl34 M vp0 p0 ∧ some s27 = some o25) [] ?_ ?_ (trivial)
   ·
    refine BL (q0J (fun m e w => ∃ (s28 : Ls) (n29 : Int) (M : Mem), e = [(0, vp0), (3, S s28), (4, I n5), (5, I n29)] ∧ St w0 M0 M [] w ∧ SlR xrl34 M vp0 p0 ∧ Y0C p0 n5 m s28 n29 = some o25) FU [(0, _), (3, _), (4, _), (5, _)] ⟨rfl, rfl, rfl, rfl, trivial⟩ ⟨_, _, _, rfl, H, hp0, e26⟩ ?_)
    rintro m30 e w ⟨s28, n29, M, rfl, H, hp0, e26⟩
    rcases m30 with _ | m30
    · rw [Y0C] at e26; cases e26
    rw [Y0C] at e26
    refine SQ (SQ ?_)
    obtain ⟨a31, hxa31, e26⟩ := bnd e26
    obtain ⟨bk34, o34, fq34, ha34, hc34, hr34⟩ := hp0.atC hxa31
    obtain ⟨f34_0, f34_1, q34_2⟩ := fq34
    replace hr34 : f34_0 = a31.1 ∧ f34_1 = a31.2.1 ∧ SlS M 3 xenc24 (hv q34_2) a31.2.2 := hr34
    obtain ⟨rfl, rfl, hs34_2⟩ := hr34
    refine RG (MV G G (MV G G (MV G G (ST (q0t ha34 Tu22 Ts34 G G) G (ST (q03 Tu34 G Ts30 Dc G) G (ST (q08 H G (hc34.at (j := 2) G) Ta30) G (ST (q1k Tu30 hs34_2 G) G (ST (q0n G G) G (NL (TN ?_))))))))))
    refine CB (p := n29 < (a31.2.2.length : Int)) G (fun hk32 => ?_) fun hk32 => ?_
    ·
     rw [if_pos hk32] at e26
     refine SK (TN (SQ (BL (SQ ?_))))
     obtain ⟨a33, hxa33, e26⟩ := bnd e26
     obtain ⟨bk43, o43, fq43, ha43, hc43, hr43⟩ := hp0.atC hxa33
     obtain ⟨f43_0, f43_1, q43_2⟩ := fq43
     replace hr43 : f43_0 = a33.1 ∧ f43_1 = a33.2.1 ∧ SlS M 3 xenc24 (hv q43_2) a33.2.2 := hr43
     obtain ⟨rfl, rfl, hs43_2⟩ := hr43
     obtain ⟨a34, hxa34, e26⟩ := bnd e26
     obtain ⟨bk47, o47, ha47, hc47⟩ := hs43_2.atC hxa34
     refine RG (MV G G (MV G G (ST (q0t ha43 Tu22 Ts34 G G) G (ST (q03 Tu34 G Ts30 Dc G) G (ST (q08 H G (hc43.at (j := 2) G) Ta30) G (MV G G (ST (q0t ha47 Tu30 Ts24 G G) G (ST (q1e H G hc47 Ta24 Ts24 Kf) G ?_))))))))
     refine q0g [_, _, _] H Tz24 G (q00 G) G ?_
     intro bk6 w H
     refine q0b [_, _, _] H G G G Ku Ts24 G Kf Kf (q00 G) ?_
     intro w H
     refine NL (TN (SQ (SQ (RG (MV G G (ST (q0K G G) G (NL (TN ?_))))))))
     obtain ⟨o35, e36, e26⟩ := bnd e26
     refine q0l (fun e w => ∃ (s37 : Ls) (M : Mem), e = [(0, vp0), (3, S s37), (4, I n5), (5, I n29), (6, ptr bk6 0)] ∧ St w0 M0 M [.blk bk6 (.cells #[S a34.1, S a34.2.1, S a34.2.2] 24)] w ∧ SlR xrl34 M vp0 p0 ∧ some s37 = some o35) [] ?_ ?_ (trivial)
     ·
      refine CB (p := (0 : Int) < n29) G (fun hk38 => ?_) fun hk38 => ?_
      ·
       rw [if_pos hk38] at e36
       obtain ⟨s39, hxs39, e36⟩ := bnd e36
       refine RG (MV G G (ST (q0p G G hxs39) G (AS G G (NL ?_))))
       exact MN ⟨_, _, G, H, hp0, e36⟩
      rw [if_neg hk38] at e36
      refine SK ?_
      exact MN ⟨_, _, G, H, hp0, e36⟩
     rintro e w ⟨s37, M, rfl, H, hp0, q40⟩
     obtain rfl := oI q40
     refine TN (SQ (SQ ?_))
     obtain ⟨a41, hxa41, e26⟩ := bnd e26
     obtain ⟨bk55, o55, fq55, ha55, hc55, hr55⟩ := hp0.atC hxa41
     obtain ⟨f55_0, f55_1, q55_2⟩ := fq55
     replace hr55 : f55_0 = a41.1 ∧ f55_1 = a41.2.1 ∧ SlS M 3 xenc24 (hv q55_2) a41.2.2 := hr55
     obtain ⟨rfl, rfl, hs55_2⟩ := hr55
     refine RG (MV G G (MV G G (ST (q0t ha55 Tu22 Ts34 G G) G (ST (q03 Tu34 G Ts4 Dc G) G (ST (q08 H G (hc55.at (j := 1) G) Ta4) G (NL (TN ?_)))))))
     obtain ⟨o42, e43, e26⟩ := bnd e26
     refine q0l (fun e w => ∃ (s44 : Ls) (M : Mem), e = [(0, vp0), (3, S s44), (4, I n5), (5, I n29), (6, ptr bk6 0)] ∧ St w0 M0 M [.blk bk6 (.cells #[S a34.1, S a34.2.1, S a34.2.2] 24)] w ∧ SlR xrl34 M vp0 p0 ∧ some s44 = some o42) [] ?_ ?_ (trivial)
     ·
      refine q0o G (fun hk45 => ?_) (fun hk45 => ?_)
      ·
       rw [if_pos hk45] at e43
       obtain ⟨s46, hxs46, e43⟩ := bnd e43
       refine RG (MV G G (ST (q0p G G hxs46) G (AS G G (NL ?_))))
       exact MN ⟨_, _, G, H, hp0, e43⟩
      rw [if_neg (by rw [hk45]; exact l07)] at e43
      refine SK ?_
      exact MN ⟨_, _, G, H, hp0, e43⟩
     rintro e w ⟨s44, M, rfl, H, hp0, q47⟩
     obtain rfl := oI q47
     refine TN (SQ (RG (ST (q03 Tu24 G Ts9 Dc G) G (ST (XL H Ta9) G ?_))))
     refine ST (q0I G G) G (NL (TN ?_))
     refine CB (p := a34.1 = []) G (fun hk48 => ?_) fun hk48 => ?_
     ·
      rw [if_pos hk48] at e26
      obtain ⟨s49, hx50, e26⟩ := bnd e26
      obtain ⟨s51, hxs51, e26⟩ := bnd e26
      refine RG (MV G G (ST (q0v H G Km Ta24 Ts24 Kf) G ?_))
      refine q05 H (Y2Z hx50) G trivial (q00 G) G ?_
      intro v65 M w H hle hR
      replace hp0 := hp0.mono hle
      obtain rfl := hR
      refine ST (q0p G G hxs51) G (AS G G (NL (IB (TN ?_))))
      obtain ⟨n52, hxn52, e26⟩ := bnd e26
      refine RG (MV G G (ST (q0u G G hxn52) G (AS G G (NL ?_))))
      exact AG m30 ⟨_, _, _, G, (H.pick (L' := []) Kp), hp0, e26⟩ (l0a _)
     rw [if_neg hk48] at e26
     obtain ⟨s53, hx54, e26⟩ := bnd e26
     obtain ⟨s55, hxs55, e26⟩ := bnd e26
     obtain ⟨s56, hxs56, e26⟩ := bnd e26
     obtain ⟨s57, hx58, e26⟩ := bnd e26
     obtain ⟨s59, hxs59, e26⟩ := bnd e26
     obtain ⟨s60, hxs60, e26⟩ := bnd e26
     refine q1Z (fun e w => ∃  (M : Mem), e = [(0, vp0), (3, S s60), (4, I n5), (5, I n29)] ∧ St w0 M0 M [] w ∧ SlR xrl34 M vp0 p0) ?_ ?_
     ·
      refine q0F (m := 11) G G H ?_
      intro w H
      refine TK 0 G (fun _ => q02 G) G (TK 1 G (fun _ => q03 Tu24 G Ts9 Dc G) G (q1c (i := 2) [6] G Kr Kr Kr (XL H Ta9) (q00 G) G G (fun _ _ => G) ?_))
      refine q0P (i := 3) (j := 6) Kr G G ?_ ?_
      ·
       refine q05 H (Y4g hx54) G trivial (q00 G) G ?_
       intro v70 M w H hle hR
       replace hp0 := hp0.mono hle
       obtain rfl := hR
       refine NA (TK 4 G (fun _ => q0p G G hxs55) G (TK 5 G (fun _ => q0p G G hxs56) G (q0s (fuel := 0) [6, 7, 8, 9, 10] G Kr (ST (q0v H G Km Ta24 Ts24 Kf) G ?_))))
       refine q05 H (Y2Z hx58) G trivial (q00 G) G ?_
       intro v74 M w H hle hR
       replace hp0 := hp0.mono hle
       obtain rfl := hR
       refine ST (q0p G G hxs59) G (ST (q0p G G hxs60) G (AS G G (NA (q0h Kr ?_))))
       exact MP ⟨_, G, (H.pick (L' := []) Kp), hp0⟩
      refine ST (q0v H G Km Ta24 Ts24 Kf) G ?_
      refine NA (ON 3 Kr G (q05 H (Y4g hx54) G trivial (q00 G) G ?_))
      intro v70 M w H hle hR
      replace hp0 := hp0.mono hle
      obtain rfl := hR
      refine NA (TK 4 G (fun _ => q0p G G hxs55) G (TK 5 G (fun _ => q0p G G hxs56) G (q0s (fuel := 0) [7, 8, 9, 10] G Kr (q05 H (Y2Z hx58) G trivial (q00 G) G ?_))))
      intro v74 M w H hle hR
      replace hp0 := hp0.mono hle
      obtain rfl := hR
      refine ST (q0p G G hxs59) G (ST (q0p G G hxs60) G (AS G G (NA (q0h Kr ?_))))
      exact MP ⟨_, G, (H.pick (L' := []) Kp), hp0⟩
     rintro e w ⟨M, rfl, H, hp0⟩
     refine IB (TN ?_)
     obtain ⟨n61, hxn61, e26⟩ := bnd e26
     refine RG (MV G G (ST (q0u G G hxn61) G (AS G G (NL ?_))))
     exact AG m30 ⟨_, _, _, G, H, hp0, e26⟩ (l0a _)
    rw [if_neg hk32] at e26
    refine q0m (q06 (q06 (q0f ?_)))
    exact MN ⟨_, _, G, H, hp0, e26⟩
   rintro e w ⟨s27, M, rfl, H, hp0, q62⟩
   obtain rfl := oI q62
   refine TN (SQ ?_)
   obtain ⟨a63, hxa63, e2⟩ := bnd e2
   obtain ⟨bk79, o79, fq79, ha79, hc79, hr79⟩ := hp0.atC hxa63
   obtain ⟨f79_0, f79_1, q79_2⟩ := fq79
   replace hr79 : f79_0 = a63.1 ∧ f79_1 = a63.2.1 ∧ SlS M 3 xenc24 (hv q79_2) a63.2.2 := hr79
   obtain ⟨rfl, rfl, hs79_2⟩ := hr79
   refine RG (MV G G (MV G G (ST (q0t ha79 Tu22 Ts34 G G) G (ST (q03 Tu34 G Ts4 Dc G) G (ST (q08 H G (hc79.at (j := 1) G) Ta4) G (NL (TN ?_)))))))
   refine q0o G (fun hk64 => ?_) (fun hk64 => ?_)
   ·
    rw [if_pos hk64] at e2
    obtain ⟨s65, hxs65, e2⟩ := bnd e2
    refine RG (MV G G (ST (q0p G G hxs65) G (AS G G (NL (IB (TN ?_))))))
    obtain ⟨n66, hxn66, e2⟩ := bnd e2
    refine RG (MV G G (ST (q0u G G hxn66) G (AS G G (NL ?_))))
    exact AG m6 ⟨_, _, _, G, H, hp0, e2⟩ (l0a _)
   rw [if_neg (by rw [hk64]; exact l07)] at e2
   refine SK (IB (TN ?_))
   obtain ⟨n67, hxn67, e2⟩ := bnd e2
   refine RG (MV G G (ST (q0u G G hxn67) G (AS G G (NL ?_))))
   exact AG m6 ⟨_, _, _, G, H, hp0, e2⟩ (l0a _)
  rw [if_neg hk7] at e2
  refine q0m (q06 (q06 (q0f ?_)))
  exact MN ⟨_, _, G, H, e2⟩
 rintro e w ⟨s3, M, rfl, H, q68⟩
 obtain rfl := oI q68
 refine TN (SQ (RG (MV G G (AS G G (NL (TN (RT ?_)))))))
 obtain rfl := oI h
 exact q07 G G H.ext G
theorem Y3b {p0 : List (Ls × Bool × List (Ls × Ls × Ls))} {vp0 : Value} {r : Bool} (h : Y1g p0 = some r) : Ct Tryz.prog 4 [vp0] (fun M => GlF (fun w => ∃ m, w.cell? ⟨2, 0, none⟩ = some (.int .i64 m)) M ∧ Tabs M ∧ SlR xrl34 M vp0 p0) (fun v M => v = Value.bool r) := by
 refine Ct.of Tryz.func4 (enters Tryz.func4 Kr G) G G G ?_
 intro w0 M0 H hp
 obtain ⟨gM, gT, hp0⟩ := hp
 unfold Y1g at h
 refine SQ (RG (AS G G (NL (TN (SQ (SQ ?_))))))
 obtain ⟨b1, hx2, h⟩ := bnd h
 refine RG (q05 H (Y2B hx2) G ⟨gM, gT⟩ (q00 G) G ?_)
 intro v6 M w H hle hR
 replace gM := gM.mono hle
 replace gT := gT.mono hle
 replace hp0 := hp0.mono hle
 obtain rfl := hR
 refine ST (q0R G) G (NL (TN ?_))
 refine q0o G (fun hk3 => ?_) (fun hk3 => ?_)
 ·
  replace hk3 : b1 = false := by simpa using hk3
  subst hk3
  rw [if_neg l07] at h
  refine SQ (RG (AS G G (NL (TN (RT ?_)))))
  obtain rfl := oI h
  exact q07 G G H.ext G
 replace hk3 : b1 = true := by simpa using hk3
 subst hk3
 rw [if_pos rfl] at h
 refine SK (TN (SQ ?_))
 obtain ⟨⟨s4, ⟨n5, n6⟩⟩, hx7, h⟩ := bnd h
 try dsimp only at h
 refine RG (MV G G (q05 H (Y3Q hx7) G ⟨gM, gT, hp0⟩ (q00 G) G ?_))
 intro v10 M w H hle hR
 replace gM := gM.mono hle
 replace gT := gT.mono hle
 replace hp0 := hp0.mono hle
 try dsimp only at hR
 obtain rfl := hR
 refine MV G G (ST (q0e G G) G (ST (q0e G G) G (q0g [_, _] H Tz27 G (q00 G) G ?_)))
 intro bk4 w H
 refine AS G G (q0b [_, _] H G G G Ku Ts27 G Kf Kf (q00 G) ?_)
 intro w H
 refine NL (TN (SQ ?_))
 obtain ⟨⟨n8, n9⟩, hx10, h⟩ := bnd h
 try dsimp only at h
 refine RG (MV G G (q05 H (Y1l hx10) G (hp0) (q00 G) G ?_))
 intro v14 M w H hle hR
 replace gM := gM.mono hle
 replace gT := gT.mono hle
 replace hp0 := hp0.mono hle
 try dsimp only at hR
 obtain rfl := hR
 refine q0g [_, _] H Tz27 G (q00 G) G ?_
 intro bk5 w H
 refine q0b [_, _] H G G G Ku Ts27 G Kf Kf (q00 G) ?_
 intro w H
 refine NL (TN (SQ (SQ ?_)))
 obtain ⟨o11, e12, h⟩ := bnd h
 refine q0l (fun e w => ∃ (b13 : Bool) (M : Mem), e = [(0, vp0), (3, S s4), (4, ptr bk4 0), (5, ptr bk5 0), (23, Value.bool b13)] ∧ St w0 M0 M [.blk bk4 (.cells #[I n5, I n6] 27), .blk bk5 (.cells #[I n8, I n9] 27)] w ∧ GlF (fun w => ∃ m, w.cell? ⟨2, 0, none⟩ = some (.int .i64 m)) M ∧ Tabs M ∧ SlR xrl34 M vp0 p0 ∧ some b13 = some o11) [] ?_ ?_ (trivial)
 ·
  refine RG (ST (q03 Tu27 G Ts3 Dc G) G (ST (XL H Ta3) G ?_))
  by_cases hk14 : n8 = (0 : Int)
  ·
   rw [if_pos hk14] at e12
   obtain ⟨s15, hx16, e12⟩ := bnd e12
   refine DT hk14 (q0c G G) G (MV G G (SG (q02 G) G G G (q05 H (Y4a hx16) G (hp0) (q04 G G G) G ?_)))
   intro v20 M w H hle hR
   replace gM := gM.mono hle
   replace gT := gT.mono hle
   replace hp0 := hp0.mono hle
   obtain rfl := hR
   refine SG (q0k Tu9 G) G G G (SG (q0K G G) G G G (PT G G G (NL ?_)))
   exact MN ⟨_, _, G, (H.pick (L' := [.blk bk4 (.cells #[I n5, I n6] 27), .blk bk5 (.cells #[I n8, I n9] 27)]) Kp), gM, gT, hp0, e12⟩
  rw [if_neg hk14] at e12
  refine DF hk14 (q0c G G) G (MV G G (q0i 4 G G (PF G G G (NL ?_))))
  exact MN ⟨_, _, G, (H.pick (L' := [.blk bk4 (.cells #[I n5, I n6] 27), .blk bk5 (.cells #[I n8, I n9] 27)]) Kp), gM, gT, hp0, e12⟩
 rintro e w ⟨b13, M, rfl, H, gM, gT, hp0, q17⟩
 obtain rfl := oI q17
 refine TN ?_
 obtain ⟨o18, e19, h⟩ := bnd h
 refine q0l (fun e w => ∃ (n20 : Int) (n21 : Int) (M : Mem), e = [(0, vp0), (3, S s4), (4, ptr bk4 0), (5, ptr bk5 0)] ∧ St w0 M0 M [.blk bk4 (.cells #[I n5, I n6] 27), .blk bk5 (.cells #[I n20, I n21] 27)] w ∧ GlF (fun w => ∃ m, w.cell? ⟨2, 0, none⟩ = some (.int .i64 m)) M ∧ Tabs M ∧ SlR xrl34 M vp0 p0 ∧ some (n20, n21) = some o18) [] ?_ ?_ (trivial)
 ·
  refine q0o G (fun hk22 => ?_) (fun hk22 => ?_)
  ·
   subst hk22
   rw [if_pos rfl] at e19
   obtain ⟨⟨n23, n24⟩, hx25, e19⟩ := bnd e19
   try dsimp only at e19
   refine RG (q05 H (R_At_ct hx25) G trivial (q00 G) G ?_)
   intro v24 M w H hle hR
   replace gM := gM.mono hle
   replace gT := gT.mono hle
   replace hp0 := hp0.mono hle
   try dsimp only at hR
   obtain rfl := hR
   refine q0b [_, _] H G G G Ku Ts27 G Kf Kf (q00 G) ?_
   intro w H
   refine NL ?_
   exact MN ⟨_, _, _, G, H, gM, gT, hp0, e19⟩
  subst hk22
  rw [if_neg l07] at e19
  refine SK ?_
  exact MN ⟨_, _, _, G, H, gM, gT, hp0, e19⟩
 rintro e w ⟨n20, n21, M, rfl, H, gM, gT, hp0, q26⟩
 obtain rfl := oI q26
 try dsimp only at h
 refine TN (SQ (SQ (RG (ST (q03 Tu27 G Ts3 Dc G) G (ST (XL H Ta3) G ?_)))))
 refine ST (q1v G G) G (NL (TN ?_))
 refine q0o G (fun hk27 => ?_) (fun hk27 => ?_)
 ·
  replace hk27 : ¬ (n20 = (0 : Int)) := of_not_decide hk27
  rw [if_neg hk27] at h
  refine SQ ?_
  obtain ⟨o28, e29, h⟩ := bnd h
  refine q0l (fun e w => ∃ (b30 : Bool) (M : Mem), e = [(2, Value.bool b30)] ∧ St w0 M0 M [] w ∧ GlF (fun w => ∃ m, w.cell? ⟨2, 0, none⟩ = some (.int .i64 m)) M ∧ Tabs M ∧ some b30 = some o28) [] ?_ ?_ (trivial)
  ·
   refine RG (ST (q0v H G Km Ta27 Ts27 Kf) G ?_)
   refine ST (q0v H G Km Ta27 Ts27 Kf) G ?_
   by_cases hk31 : n5 = n20 ∧ n6 = n21
   ·
    rw [if_pos hk31] at e29
    refine DT hk31 (q28 G G Kr (xeq27 n5 n20 n6 n21)) G (MV G G (SG (q02 G) G G G (SG (q0I G G) G G G (PT G G G (AS G G (NL ?_))))))
    exact MN ⟨_, _, G, (H.pick (L' := []) Kp), gM, gT, e29⟩
   rw [if_neg hk31] at e29
   refine DF hk31 (q28 G G Kr (xeq27 n5 n20 n6 n21)) G (MV G G (GF G G G (GF G G G (PF G G G (AS G G (NL ?_))))))
   exact MN ⟨_, _, G, (H.pick (L' := []) Kp), gM, gT, e29⟩
  rintro e w ⟨b30, M, rfl, H, gM, gT, q32⟩
  obtain rfl := oI q32
  refine TN (RT ?_)
  obtain rfl := oI h
  exact q07 G G H.ext G
 replace hk27 : n20 = (0 : Int) := of_not_decide' hk27
 rw [if_pos hk27] at h
 refine SK (TN (SQ ?_))
 obtain ⟨o33, e34, h⟩ := bnd h
 refine q0l (fun e w => ∃ (b35 : Bool) (M : Mem), e = [(2, Value.bool b35)] ∧ St w0 M0 M [] w ∧ GlF (fun w => ∃ m, w.cell? ⟨2, 0, none⟩ = some (.int .i64 m)) M ∧ Tabs M ∧ some b35 = some o33) [] ?_ ?_ (trivial)
 ·
  refine RG (ST (q03 Tu27 G Ts3 Dc G) G (ST (XL H Ta3) G ?_))
  by_cases hk36 : n5 = (0 : Int)
  ·
   rw [if_pos hk36] at e34
   obtain ⟨s37, hx38, e34⟩ := bnd e34
   refine DT hk36 (q0c G G) G (MV G G (SG (q02 G) G G G (SG (q02 G) G G G (q05 H (Y4a hx38) G (hp0) (q04 G G G) G ?_))))
   intro v41 M w H hle hR
   replace gM := gM.mono hle
   replace gT := gT.mono hle
   replace hp0 := hp0.mono hle
   obtain rfl := hR
   refine SG (q0I G G) G G G (PT G G G (AS G G (NL ?_)))
   exact MN ⟨_, _, G, (H.pick (L' := []) Kp), gM, gT, e34⟩
  rw [if_neg hk36] at e34
  refine DF hk36 (q0c G G) G (MV G G (q0i 4 G G (PF G G G (AS G G (NL ?_)))))
  exact MN ⟨_, _, G, (H.pick (L' := []) Kp), gM, gT, e34⟩
 rintro e w ⟨b35, M, rfl, H, gM, gT, q39⟩
 obtain rfl := oI q39
 refine TN (RT ?_)
 obtain rfl := oI h
 exact q07 G G H.ext G
end Go.Proofs.YtkmjdamkifbddaaGreatDoor
end
section
namespace Go.Proofs.YtkmjdamkifbddaaGreatDoor
open Go Go.RowKit Go.Ph Go.Ph.Pl Go.Ph.Pf
end Go.Proofs.YtkmjdamkifbddaaGreatDoor
end
