/-
  Fold: the program's functions as plain functions, written by wip/tools/ext.py.
-/
import Derived.Test.YtolmifddbjdepaaDoorPl
import Derived.Test.YtolmifddbjdepaaDoorChs
set_option linter.unusedVariables false
namespace Go.Ph.Pf
open Go.Ph.Pl
def strings_IndexByte (p0 : List UInt8) (p1 : UInt8) : Option Int :=
  some (ixB p0 p1)
def stringslite_IndexByte (p0 : List UInt8) (p1 : UInt8) : Option Int :=
  some (ixB p0 p1)
def bytes_IndexByte (p0 : List UInt8) (p1 : UInt8) : Option Int :=
  some (ixB p0 p1)
def strings_Join (p0 : List (List UInt8)) (p1 : List UInt8) : Option (List UInt8) :=
  if p0.length ≤ 140737488355328 ∧ (jn p1 p0).length ≤ 140737488355328 then some (jn p1 p0) else none
def basic_All_L1 (p0 : List UInt8) (p1 : (UInt8 → Option Bool)) : Nat → Int → Option (Unit ⊕ Bool)
  | 0, _ => none
  | m4 + 1, n3 => (if n3 < (p0.length : Int) then (idx p0 n3).bind fun c6 => (p1 c6).bind fun b7 => (if b7 = true then (chk (n3 + 1)).bind fun n10 => basic_All_L1 p0 p1 m4 n10 else some (.inr false)) else some (.inl ()))
def basic_All (p0 : List UInt8) (p1 : (UInt8 → Option Bool)) : Option Bool :=
  ((basic_All_L1 p0 p1 FU 0 : Option (Unit ⊕ Bool))).bind fun o13 => (match o13 with | .inl _ => some true | .inr r12 => some r12)
def fold_name_1 (p0 : UInt8) : Option Bool :=
  ((if 33 ≤ p0.toNat then (if p0.toNat ≤ 126 then some (!decide (p0 = 58)) else some false) else some false)).bind fun b3 => some b3
def fold_name (p0 : List UInt8) : Option Bool :=
  ((if p0 = [] then some false else (if (p0.length : Int) ≤ (60 : Int) then (basic_All p0 fold_name_1).bind fun b6 => some b6 else some false))).bind fun b3 => some b3
def basic_Fault (p0 : Int) (p1 : Int) : Option (Int × Int) :=
  some (p0, p1)
def utf8_ValidRune (p0 : Int) : Option Bool :=
  ((if (0 : Int) ≤ p0 then some (decide (p0 < (55296 : Int))) else some false)).bind fun b3 => (if b3 = true then some true else ((if (57343 : Int) < p0 then some (decide (p0 ≤ (1114111 : Int))) else some false)).bind fun b9 => (if b9 = true then some true else some false))
def strings_IndexRune_L1 (p0 : List UInt8) : Nat → Nat → Option (Unit ⊕ Int)
  | 0, _ => none
  | m13 + 1, ps12 => (if ps12 < p0.length then (if ((Utf.dr (p0.drop ps12)).1 : Int) = (65533 : Int) then some (.inr (ps12 : Int)) else strings_IndexRune_L1 p0 m13 (ps12 + (Utf.dr (p0.drop ps12)).2)) else some (.inl ()))
def strings_IndexRune_L3 (p0 : List UInt8) (p1 : Int) (n22 : Int) (n32 : Int) : Nat → Int → Option Unit
  | 0, _ => none
  | m46 + 1, n45 => (if n45 < ((Chs.utf8 p1).length : Int) then (chk (n32 - n45)).bind fun n48 => (idx p0 n48).bind fun c49 => (chk (n22 - n45)).bind fun n50 => (idx (Chs.utf8 p1) n50).bind fun c51 => (if c49 = c51 then (chk (n45 + 1)).bind fun n53 => strings_IndexRune_L3 p0 p1 n22 n32 m46 n53 else none) else some ())
def strings_IndexRune_L2 (p0 : List UInt8) (p1 : Int) (n22 : Int) : Nat → Int → Option (Unit ⊕ Int)
  | 0, _ => none
  | m26 + 1, n25 => (if n25 < (p0.length : Int) then (idx p0 n25).bind fun c28 => (idx (Chs.utf8 p1) n22).bind fun c29 => (((if c28 = c29 then some (.inl n25) else (chk (n25 + 1)).bind fun n34 => (cut p0 n34 (p0.length : Int)).bind fun s35 => (idx (Chs.utf8 p1) n22).bind fun c36 => (strings_IndexByte s35 c36).bind fun n37 => (if n37 < (0 : Int) then some (.inr (-1)) else (chk (n37 + 1)).bind fun n40 => (chk (n25 + n40)).bind fun n41 => some (.inl n41))) : Option (Int ⊕ Int))).bind fun o57 => (match o57 with | .inl n32 => (strings_IndexRune_L3 p0 p1 n22 n32 FU 1).bind fun _ => (chk (n32 - n22)).bind fun n55 => some (.inr n55) | .inr r56 => some (.inr r56)) else some (.inl ()))
def strings_IndexRune (p0 : List UInt8) (p1 : Int) : Option Int :=
  ((if (0 : Int) ≤ p1 then some (decide (p1 < (128 : Int))) else some false)).bind fun b3 => (if b3 = true then (strings_IndexByte p0 (ub8 p1)).bind fun n7 => some n7 else (if p1 = (65533 : Int) then ((strings_IndexRune_L1 p0 FU 0 : Option (Unit ⊕ Int))).bind fun o18 => (match o18 with | .inl _ => some (-1) | .inr r17 => some r17) else (utf8_ValidRune p1).bind fun b19 => (if b19 = true then (chk (((Chs.utf8 p1).length : Int) - 1)).bind fun n22 => ((strings_IndexRune_L2 p0 p1 n22 FU n22 : Option (Unit ⊕ Int))).bind fun o60 => (match o60 with | .inl _ => some (-1) | .inr r59 => some r59) else some (-1))))
def strings_shouldUseASCIISet (p0 : Int) : Option Bool :=
  some (decide ((8 : Int) < p0))
def strings_makeASCIISet_L1 (p0 : List UInt8) : Nat → List Bool → Int → Option (List Bool ⊕ (List Bool × Bool))
  | 0, _, _ => none
  | m6 + 1, l4, n5 => (if n5 < (p0.length : Int) then (idx p0 n5).bind fun c8 => (if 128 ≤ c8.toNat then (chkA 256 l4).bind fun l10 => (chkA 256 l4).bind fun l11 => (chkA 256 l10).bind fun l12 => (chkA 256 l10).bind fun l13 => some (.inr (l13, false)) else (idxA 256 l4 (c8.toNat : Int)).bind fun a14 => (putA 256 l4 (c8.toNat : Int) true).bind fun l15 => (chk (n5 + 1)).bind fun n16 => strings_makeASCIISet_L1 p0 m6 l15 n16) else some (.inl l4))
def strings_makeASCIISet (p0 : List UInt8) : Option (List Bool × Bool) :=
  ((strings_makeASCIISet_L1 p0 FU (List.replicate 256 false : List Bool) 0 : Option (List Bool ⊕ (List Bool × Bool)))).bind fun o23 => (match o23 with | .inl l3 => (chkA 256 l3).bind fun l18 => (chkA 256 l3).bind fun l19 => (chkA 256 l18).bind fun l20 => (chkA 256 l18).bind fun l21 => some (l21, true) | .inr r22 => some r22)
def strings_asciiSet_contains (p0 : List Bool) (p1 : UInt8) : Option Bool :=
  (idxA 256 p0 (p1.toNat : Int)).bind fun a1 => some a1
def strings_IndexAny_L1 (p0 : List UInt8) (n16 : List Bool) : Nat → Int → Option (Unit ⊕ Int)
  | 0, _ => none
  | m26 + 1, n25 => (if n25 < (p0.length : Int) then (idx p0 n25).bind fun c28 => (strings_asciiSet_contains n16 c28).bind fun b29 => (if b29 = true then some (.inr n25) else (chk (n25 + 1)).bind fun n32 => strings_IndexAny_L1 p0 n16 m26 n32) else some (.inl ()))
def strings_IndexAny_L2 (p0 : List UInt8) (p1 : List UInt8) : Nat → Nat → Option (Unit ⊕ Int)
  | 0, _ => none
  | m40 + 1, ps39 => (if ps39 < p0.length then (strings_IndexRune p1 ((Utf.dr (p0.drop ps39)).1 : Int)).bind fun n42 => (if (0 : Int) ≤ n42 then some (.inr (ps39 : Int)) else strings_IndexAny_L2 p0 p1 m40 (ps39 + (Utf.dr (p0.drop ps39)).2)) else some (.inl ()))
def strings_IndexAny (p0 : List UInt8) (p1 : List UInt8) : Option Int :=
  (if p1 = [] then some (-1) else (if (p1.length : Int) = (1 : Int) then (idx p1 0).bind fun c3 => ((if (128 : Int) ≤ (IntKind.i32.wrap (c3.toNat : Int)) then some 65533 else some (IntKind.i32.wrap (c3.toNat : Int)))).bind fun n6 => (strings_IndexRune p0 n6).bind fun n9 => some n9 else (strings_shouldUseASCIISet (p0.length : Int)).bind fun b11 => (((if b11 = true then (strings_makeASCIISet p1).bind fun (n16, b17) => (chkA 256 (List.replicate 256 false : List Bool)).bind fun l19 => (chkA 256 n16).bind fun l20 => (if b17 = true then ((strings_IndexAny_L1 p0 n16 FU 0 : Option (Unit ⊕ Int))).bind fun o35 => (match o35 with | .inl _ => some (.inr (-1)) | .inr r34 => some (.inr r34)) else some (.inl ())) else some (.inl ())) : Option (Unit ⊕ Int))).bind fun o49 => (match o49 with | .inl _ => ((strings_IndexAny_L2 p0 p1 FU 0 : Option (Unit ⊕ Int))).bind fun o47 => (match o47 with | .inl _ => some (-1) | .inr r46 => some r46) | .inr r48 => some r48)))
def strings_ContainsAny (p0 : List UInt8) (p1 : List UInt8) : Option Bool :=
  (strings_IndexAny p0 p1).bind fun n1 => some (decide ((0 : Int) ≤ n1))
def fold_ends (p0 : List UInt8) : Option Bool :=
  (strings_ContainsAny p0 [13, 10, 0]).bind fun b1 => some b1
def basic_Blank (p0 : UInt8) : Option Bool :=
  ((if p0 = 32 then some true else some (decide (p0 = 9)))).bind fun b3 => some b3
def fold_value (p0 : List UInt8) : Option Bool :=
  ((fold_ends p0).bind fun b4 => (if b4 = true then some false else (if p0 = [] then some true else (idx p0 0).bind fun c7 => (basic_Blank c7).bind fun b8 => (if b8 = true then some false else (chk ((p0.length : Int) - 1)).bind fun n10 => (idx p0 n10).bind fun c11 => (basic_Blank c11).bind fun b12 => some (!b12))))).bind fun b3 => some b3
def fold_point_L1 (p0 : List UInt8) : Nat → Int → Int → Option Int
  | 0, _, _ => none
  | m6 + 1, n4, n5 => (if n5 < (p0.length : Int) then ((idx p0 n5).bind fun c11 => (basic_Blank c11).bind fun b12 => (if b12 = true then (chk (n5 - 1)).bind fun n14 => (idx p0 n14).bind fun c15 => (basic_Blank c15).bind fun b16 => some b16 else some true)).bind fun b10 => (if b10 = true then (chk (n5 + 1)).bind fun n20 => fold_point_L1 p0 m6 n4 n20 else ((if (0 : Int) < n4 then some (decide ((78 : Int) < n5)) else some false)).bind fun b23 => (if b23 = true then some n4 else (chk (n5 + 1)).bind fun n27 => fold_point_L1 p0 m6 n5 n27)) else some n4)
def fold_point (p0 : List UInt8) (p1 : Int) : Option Int :=
  (fold_point_L1 p0 FU 0 (max p1 1)).bind fun n3 => some n3
def basic_None  : Option (Int × Int) :=
  some (0, 0)
def fold_Fold_L1  : Nat → List UInt8 → Int → List (List UInt8) → Option (List UInt8 × List (List UInt8))
  | 0, _, _, _ => none
  | m31 + 1, s26, n27, l29 => (if (78 : Int) < (s26.length : Int) then (fold_point s26 n27).bind fun n34 => (if n34 = (0 : Int) then some (s26, l29) else (cut s26 0 n34).bind fun s37 => (app 16 l29 ([s37] : List (List UInt8))).bind fun l38 => (cut s26 n34 (s26.length : Int)).bind fun s39 => fold_Fold_L1  m31 s39 0 l38) else some (s26, l29))
def fold_Fold_L2 (l41 : List (List UInt8)) : Nat → Int → Int → Int → Option ((Int × Int) ⊕ (List (List UInt8) × (Int × Int)))
  | 0, _, _, _ => none
  | m49 + 1, n46, n47, n48 => (if n48 < (l41.length : Int) then (idx l41 n48).bind fun a51 => (if (998 : Int) < (a51.length : Int) then (basic_Fault 1 n48).bind fun (n53, n54) => some (.inr ([], (n53, n54))) else (chk (n48 + 1)).bind fun n56 => fold_Fold_L2 l41 m49 n46 n47 n56) else some (.inl (n46, n47)))
def fold_Fold (p0 : List UInt8) (p1 : List UInt8) : Option (List (List UInt8) × (Int × Int)) :=
  (fold_name p0).bind fun b1 => (if b1 = true then (if (4000 : Int) < (p1.length : Int) then (basic_Fault 1 (-1)).bind fun (n8, n9) => some ([], (n8, n9)) else (fold_value p1).bind fun b11 => (if b11 = true then (cat p0 [58, 32]).bind fun s17 => (cat s17 p1).bind fun s18 => (chk ((p0.length : Int) + 2)).bind fun n19 => (fold_Fold_L1  FU s18 n19 []).bind fun (s22, l24) => (app 16 l24 ([s22] : List (List UInt8))).bind fun l41 => ((fold_Fold_L2 l41 FU 0 0 0 : Option ((Int × Int) ⊕ (List (List UInt8) × (Int × Int))))).bind fun o63 => (match o63 with | .inl (n44, n45) => (basic_None).bind fun (n58, n59) => some (l41, (n58, n59)) | .inr r62 => some r62) else (basic_Fault 11 (-1)).bind fun (n14, n15) => some ([], (n14, n15)))) else (basic_Fault 10 (-1)).bind fun (n4, n5) => some ([], (n4, n5)))
def stringslite_Index (p0 : List UInt8) (p1 : List UInt8) : Option Int :=
  ((if (p1.length : Int) = (0 : Int) then some true else some (decide (p1 = p0)))).bind fun b3 => (if b3 = true then some 0 else (if (p1.length : Int) = (1 : Int) then (idx p1 0).bind fun c8 => (stringslite_IndexByte p0 c8).bind fun n9 => some n9 else (if (p0.length : Int) ≤ (p1.length : Int) then some (-1) else none)))
def stringslite_Cut (p0 : List UInt8) (p1 : List UInt8) : Option (List UInt8 × List UInt8 × Bool) :=
  (stringslite_Index p0 p1).bind fun n1 => (if (0 : Int) ≤ n1 then (cut p0 0 n1).bind fun s4 => (chk (n1 + (p1.length : Int))).bind fun n5 => (cut p0 n5 (p0.length : Int)).bind fun s6 => some (s4, s6, true) else some (p0, [], false))
def strings_Cut (p0 : List UInt8) (p1 : List UInt8) : Option (List UInt8 × List UInt8 × Bool) :=
  (stringslite_Cut p0 p1).bind fun (s1, s2, b3) => some (s1, s2, b3)
def strings_trimRightByte_L1 (p1 : UInt8) : Nat → List UInt8 → Option (List UInt8)
  | 0, _ => none
  | m5 + 1, s4 => ((if (0 : Int) < (s4.length : Int) then (chk ((s4.length : Int) - 1)).bind fun n10 => (idx s4 n10).bind fun c11 => some (decide (c11 = p1)) else some false)).bind fun b8 => (if b8 = true then (chk ((s4.length : Int) - 1)).bind fun n14 => (cut s4 0 n14).bind fun s15 => strings_trimRightByte_L1 p1 m5 s15 else some s4)
def strings_trimRightByte (p0 : List UInt8) (p1 : UInt8) : Option (List UInt8) :=
  (strings_trimRightByte_L1 p1 FU p0).bind fun s3 => some s3
def strings_trimLeftByte_L1 (p1 : UInt8) : Nat → List UInt8 → Option (List UInt8)
  | 0, _ => none
  | m5 + 1, s4 => ((if (0 : Int) < (s4.length : Int) then (idx s4 0).bind fun c10 => some (decide (c10 = p1)) else some false)).bind fun b8 => (if b8 = true then (cut s4 1 (s4.length : Int)).bind fun s13 => strings_trimLeftByte_L1 p1 m5 s13 else some s4)
def strings_trimLeftByte (p0 : List UInt8) (p1 : UInt8) : Option (List UInt8) :=
  (strings_trimLeftByte_L1 p1 FU p0).bind fun s3 => some s3
def strings_trimRightASCII_L1 (p1 : List Bool) : Nat → List UInt8 → Option (List UInt8)
  | 0, _ => none
  | m5 + 1, s4 => (if (0 : Int) < (s4.length : Int) then (chk ((s4.length : Int) - 1)).bind fun n7 => (idx s4 n7).bind fun c8 => (strings_asciiSet_contains p1 c8).bind fun b9 => (if b9 = true then (chk ((s4.length : Int) - 1)).bind fun n12 => (cut s4 0 n12).bind fun s13 => strings_trimRightASCII_L1 p1 m5 s13 else some s4) else some s4)
def strings_trimRightASCII (p0 : List UInt8) (p1 : List Bool) : Option (List UInt8) :=
  (strings_trimRightASCII_L1 p1 FU p0).bind fun s3 => some s3
def strings_trimLeftASCII_L1 (p1 : List Bool) : Nat → List UInt8 → Option (List UInt8)
  | 0, _ => none
  | m5 + 1, s4 => (if (0 : Int) < (s4.length : Int) then (idx s4 0).bind fun c7 => (strings_asciiSet_contains p1 c7).bind fun b8 => (if b8 = true then (cut s4 1 (s4.length : Int)).bind fun s11 => strings_trimLeftASCII_L1 p1 m5 s11 else some s4) else some s4)
def strings_trimLeftASCII (p0 : List UInt8) (p1 : List Bool) : Option (List UInt8) :=
  (strings_trimLeftASCII_L1 p1 FU p0).bind fun s3 => some s3
def strings_Trim (p0 : List UInt8) (p1 : List UInt8) : Option (List UInt8) :=
  ((if p0 = [] then some true else some (decide (p1 = [])))).bind fun b3 => (if b3 = true then some p0 else ((if (p1.length : Int) = (1 : Int) then (idx p1 0).bind fun c11 => some (decide (c11.toNat < 128)) else some false)).bind fun b9 => (if b9 = true then (idx p1 0).bind fun c14 => (strings_trimRightByte p0 c14).bind fun s15 => (idx p1 0).bind fun c17 => (strings_trimLeftByte s15 c17).bind fun s18 => some s18 else (strings_makeASCIISet p1).bind fun (n20, b21) => (chkA 256 (List.replicate 256 false : List Bool)).bind fun l23 => (chkA 256 n20).bind fun l24 => (if b21 = true then (strings_trimRightASCII p0 n20).bind fun s27 => (strings_trimLeftASCII s27 n20).bind fun s29 => some s29 else none)))
def fold_Unfold_L1 (p0 : List (List UInt8)) : Nat → Int → Int → Int → Int → Option ((Int × Int × Int) ⊕ (List UInt8 × List UInt8 × (Int × Int)))
  | 0, _, _, _, _ => none
  | m14 + 1, n10, n11, n12, n13 => (if n13 < (p0.length : Int) then (idx p0 n13).bind fun a16 => ((fold_ends a16).bind fun b20 => (if b20 = true then some true else (if (0 : Int) < n13 then (if a16 = [] then some true else (idx a16 0).bind fun c24 => (basic_Blank c24).bind fun b25 => some (!b25)) else some false))).bind fun b19 => (if b19 = true then (basic_Fault 11 n13).bind fun (n29, n30) => some (.inr ([], [], (n29, n30))) else (chk (n12 + (a16.length : Int))).bind fun n32 => (chk (n13 + 1)).bind fun n33 => fold_Unfold_L1 p0 m14 n10 n11 n32 n33) else some (.inl (n10, n11, n12)))
def fold_Unfold (p0 : List (List UInt8)) : Option (List UInt8 × List UInt8 × (Int × Int)) :=
  (if (300 : Int) < (p0.length : Int) then (basic_Fault 2 (-1)).bind fun (n2, n3) => some ([], [], (n2, n3)) else ((fold_Unfold_L1 p0 FU 0 0 0 0 : Option ((Int × Int × Int) ⊕ (List UInt8 × List UInt8 × (Int × Int))))).bind fun o65 => (match o65 with | .inl (n7, n8, n9) => (if (8000 : Int) < n9 then (basic_Fault 1 (-1)).bind fun (n36, n37) => some ([], [], (n36, n37)) else (strings_Join p0 []).bind fun s39 => (strings_Cut s39 [58]).bind fun (s41, s42, b43) => ((if b43 = true then (fold_name s41).bind fun b48 => some (!b48) else some true)).bind fun b47 => (if b47 = true then (basic_Fault 11 (-2)).bind fun (n52, n53) => some ([], [], (n52, n53)) else (strings_Trim s42 [32, 9]).bind fun s55 => (if (4000 : Int) < (s55.length : Int) then (basic_Fault 1 (-1)).bind fun (n58, n59) => some ([], [], (n58, n59)) else (basic_None).bind fun (n61, n62) => some (s41, s55, (n61, n62))))) | .inr r64 => some r64))
def R_Strings_L1 (p0 : List (List UInt8)) (p1 : List (List UInt8)) : Nat → Int → Option (Unit ⊕ Bool)
  | 0, _ => none
  | m5 + 1, n4 => (if n4 < (p0.length : Int) then (idx p0 n4).bind fun a7 => (idx p1 n4).bind fun a8 => (if a7 = a8 then (chk (n4 + 1)).bind fun n10 => R_Strings_L1 p0 p1 m5 n10 else some (.inr false)) else some (.inl ()))
def R_Strings (p0 : List (List UInt8)) (p1 : List (List UInt8)) : Option Bool :=
  (if (p0.length : Int) = (p1.length : Int) then ((R_Strings_L1 p0 p1 FU 0 : Option (Unit ⊕ Bool))).bind fun o13 => (match o13 with | .inl _ => some true | .inr r12 => some r12) else some false)
def L_foldExample  : Option Bool :=
  (fold_Fold [97] [98]).bind fun (l1, (n2, n3)) => (fold_Unfold ([[97, 58, 32, 98], [32, 99]] : List (List UInt8))).bind fun (s5, s6, (n7, n8)) => ((if n2 = (0 : Int) then (if n7 = (0 : Int) then (R_Strings l1 ([[97, 58, 32, 98]] : List (List UInt8))).bind fun b15 => (if b15 = true then (if s5 = [97] then some (decide (s6 = [98, 32, 99])) else some false) else some false) else some false) else some false)).bind fun b12 => some b12
def R_In (p0 : Int) (p1 : Int) (p2 : Int) : Option Bool :=
  ((if p1 ≤ p0 then some (decide (p0 ≤ p2)) else some false)).bind fun b3 => some b3
def R_FieldName_L1 (p0 : List UInt8) : Nat → Int → Option (Unit ⊕ Bool)
  | 0, _ => none
  | m4 + 1, n3 => (if n3 < (p0.length : Int) then ((idx p0 n3).bind fun c9 => (R_In (c9.toNat : Int) 33 126).bind fun b10 => (if b10 = true then (idx p0 n3).bind fun c12 => some (decide (c12 = 58)) else some true)).bind fun b8 => (if b8 = true then some (.inr false) else (chk (n3 + 1)).bind fun n15 => R_FieldName_L1 p0 m4 n15) else some (.inl ()))
def R_FieldName (p0 : List UInt8) : Option Bool :=
  ((R_FieldName_L1 p0 FU 0 : Option (Unit ⊕ Bool))).bind fun o20 => (match o20 with | .inl _ => (R_In (p0.length : Int) 1 60).bind fun b17 => some b17 | .inr r19 => some r19)
def R_OneOf_L1 (p0 : UInt8) (p1 : List UInt8) : Nat → Int → Option (Unit ⊕ Bool)
  | 0, _ => none
  | m4 + 1, n3 => (if n3 < (p1.length : Int) then (idx p1 n3).bind fun c6 => (if c6 = p0 then some (.inr true) else (chk (n3 + 1)).bind fun n8 => R_OneOf_L1 p0 p1 m4 n8) else some (.inl ()))
def R_OneOf (p0 : UInt8) (p1 : List UInt8) : Option Bool :=
  ((R_OneOf_L1 p0 p1 FU 0 : Option (Unit ⊕ Bool))).bind fun o11 => (match o11 with | .inl _ => some false | .inr r10 => some r10)
def R_Blank (p0 : UInt8) : Option Bool :=
  ((if p0 = 32 then some true else some (decide (p0 = 9)))).bind fun b3 => some b3
def R_Trim_L1  : Nat → List UInt8 → Option (List UInt8)
  | 0, _ => none
  | m5 + 1, s4 => ((if (0 : Int) < (s4.length : Int) then (idx s4 0).bind fun c10 => (R_Blank c10).bind fun b11 => some b11 else some false)).bind fun b8 => (if b8 = true then (cut s4 1 (s4.length : Int)).bind fun s15 => R_Trim_L1  m5 s15 else some s4)
def R_Trim_L2  : Nat → List UInt8 → Option (List UInt8)
  | 0, _ => none
  | m21 + 1, s20 => ((if (0 : Int) < (s20.length : Int) then (chk ((s20.length : Int) - 1)).bind fun n26 => (idx s20 n26).bind fun c27 => (R_Blank c27).bind fun b28 => some b28 else some false)).bind fun b24 => (if b24 = true then (chk ((s20.length : Int) - 1)).bind fun n32 => (cut s20 0 n32).bind fun s33 => R_Trim_L2  m21 s33 else some s20)
def R_Trim (p0 : List UInt8) : Option (List UInt8) :=
  (R_Trim_L1  FU p0).bind fun s3 => (R_Trim_L2  FU s3).bind fun s19 => some s19
def R_FieldCode_L1 (p1 : List UInt8) : Nat → Int → Option (Unit ⊕ Int)
  | 0, _ => none
  | m8 + 1, n7 => (if n7 < (p1.length : Int) then (idx p1 n7).bind fun c10 => (R_OneOf c10 [13, 10, 0]).bind fun b11 => (if b11 = true then some (.inr 11) else (chk (n7 + 1)).bind fun n14 => R_FieldCode_L1 p1 m8 n14) else some (.inl ()))
def R_FieldCode (p0 : List UInt8) (p1 : List UInt8) : Option Int :=
  (R_FieldName p0).bind fun b1 => (if b1 = true then (if (4000 : Int) < (p1.length : Int) then some 1 else ((R_FieldCode_L1 p1 FU 0 : Option (Unit ⊕ Int))).bind fun o20 => (match o20 with | .inl _ => (R_Trim p1).bind fun s16 => (if s16 = p1 then some 0 else some 11) | .inr r19 => some r19)) else some 10)
def R_At (p0 : Int) (p1 : Int) : Option (Int × Int) :=
  some (p0, p1)
def R_Folded_L1 (s2 : List UInt8) : Nat → List Int → Int → Option (List Int)
  | 0, _, _ => none
  | m13 + 1, l10, n12 => (if n12 < (s2.length : Int) then ((idx s2 n12).bind fun c19 => (R_Blank c19).bind fun b20 => (if b20 = true then (chk (n12 - 1)).bind fun n22 => (idx s2 n22).bind fun c23 => (R_Blank c23).bind fun b24 => some (!b24) else some false)).bind fun b18 => (if b18 = true then (app 8 l10 ([n12] : List Int)).bind fun l28 => (chk (n12 + 1)).bind fun n29 => R_Folded_L1 s2 m13 l28 n29 else (chk (n12 + 1)).bind fun n30 => R_Folded_L1 s2 m13 l10 n30) else some l10)
def R_Folded_L3 (l7 : List Int) (n41 : Int) : Nat → Int → Int → Option Int
  | 0, _, _ => none
  | m51 + 1, n49, n50 => (if n50 < (l7.length : Int) then (idx l7 n50).bind fun a53 => ((if n41 < a53 then (chk (a53 - n41)).bind fun n58 => (if n58 ≤ (78 : Int) then some true else some (decide (n49 < (0 : Int)))) else some false)).bind fun b56 => (if b56 = true then (chk (n50 + 1)).bind fun n62 => R_Folded_L3 l7 n41 m51 a53 n62 else (chk (n50 + 1)).bind fun n63 => R_Folded_L3 l7 n41 m51 n49 n63) else some n49)
def R_Folded_L2 (s2 : List UInt8) (l7 : List Int) : Nat → List (List UInt8) → Int → Option (List (List UInt8) × Int)
  | 0, _, _ => none
  | m42 + 1, l39, n41 => (chk ((s2.length : Int) - n41)).bind fun n44 => (if (78 : Int) < n44 then (R_Folded_L3 l7 n41 FU (-1) 0).bind fun n48 => (if n48 < (0 : Int) then some (l39, n41) else (cut s2 n41 n48).bind fun s66 => (app 16 l39 ([s66] : List (List UInt8))).bind fun l67 => R_Folded_L2 s2 l7 m42 l67 n48) else some (l39, n41))
def R_Folded (p0 : List UInt8) (p1 : List UInt8) : Option (List (List UInt8)) :=
  (cat p0 [58, 32]).bind fun s1 => (cat s1 p1).bind fun s2 => (chk ((p0.length : Int) + 3)).bind fun n3 => (R_Folded_L1 s2 FU [] n3).bind fun l7 => (R_Folded_L2 s2 l7 FU [] 0).bind fun (l35, n37) => (cut s2 n37 (s2.length : Int)).bind fun s69 => (app 16 l35 ([s69] : List (List UInt8))).bind fun l70 => some l70
def R_FoldFault_L1 (l9 : List (List UInt8)) : Nat → Int → Int → Int → Option ((Int × Int) ⊕ (Int × Int))
  | 0, _, _, _ => none
  | m18 + 1, n15, n16, n17 => (if n17 < (l9.length : Int) then (idx l9 n17).bind fun a20 => (if (998 : Int) < (a20.length : Int) then (R_At 1 n17).bind fun (n22, n23) => some (.inr (n22, n23)) else (chk (n17 + 1)).bind fun n25 => R_FoldFault_L1 l9 m18 n15 n16 n25) else some (.inl (n15, n16)))
def R_FoldFault (p0 : List UInt8) (p1 : List UInt8) : Option (Int × Int) :=
  (R_FieldCode p0 p1).bind fun n1 => (if n1 = (0 : Int) then (R_Folded p0 p1).bind fun l9 => ((R_FoldFault_L1 l9 FU 0 0 0 : Option ((Int × Int) ⊕ (Int × Int)))).bind fun o28 => (match o28 with | .inl (n13, n14) => some (0, 0) | .inr r27 => some r27) else (R_FieldCode p0 p1).bind fun n4 => (R_At n4 (-1)).bind fun (n6, n7) => some (n6, n7))
def L_FoldMatchesSpec (p0 : List UInt8) (p1 : List UInt8) : Option Bool :=
  (L_foldExample).bind fun b1 => (if b1 = true then (fold_Fold p0 p1).bind fun (l4, (n5, n6)) => (R_FoldFault p0 p1).bind fun (n8, n9) => (if n8 = (0 : Int) then ((if n5 = (0 : Int) then (R_Folded p0 p1).bind fun l21 => (R_Strings l4 l21).bind fun b23 => some b23 else some false)).bind fun b19 => some b19 else ((if n5 = n8 ∧ n6 = n9 then some (decide ((l4.length : Int) = (0 : Int))) else some false)).bind fun b14 => some b14) else some false)
def L_FoldRoundTrip (p0 : List UInt8) (p1 : List UInt8) : Option Bool :=
  (L_foldExample).bind fun b1 => (if b1 = true then (fold_Fold p0 p1).bind fun (l4, (n5, n6)) => ((if n5 = (0 : Int) then some (decide ((300 : Int) < (l4.length : Int))) else some true)).bind fun b10 => (if b10 = true then ((if n5 = (0 : Int) then some true else some (decide ((l4.length : Int) = (0 : Int))))).bind fun b16 => some b16 else (fold_Unfold l4).bind fun (s19, s20, (n21, n22)) => ((if n21 = (0 : Int) then (if s19 = p0 then some (decide (s20 = p1)) else some false) else some false)).bind fun b26 => some b26) else some false)
def L_FoldShortLines_L2 (l4 : List (List UInt8)) (n11 : Int) : Nat → Int → Option (Unit ⊕ Bool)
  | 0, _ => none
  | m23 + 1, n22 => ((idx l4 n11).bind fun a27 => (if n22 < (a27.length : Int) then (idx l4 n11).bind fun a29 => some (decide ((78 : Int) < (a29.length : Int))) else some false)).bind fun b26 => (if b26 = true then ((idx l4 n11).bind fun a35 => (idx a35 n22).bind fun c36 => (R_Blank c36).bind fun b37 => (if b37 = true then (idx l4 n11).bind fun a39 => (chk (n22 - 1)).bind fun n40 => (idx a39 n40).bind fun c41 => (R_Blank c41).bind fun b42 => some (!b42) else some false)).bind fun b34 => (if b34 = true then some (.inr false) else (chk (n22 + 1)).bind fun n46 => L_FoldShortLines_L2 l4 n11 m23 n46) else some (.inl ()))
def L_FoldShortLines_L1 (p0 : List UInt8) (p1 : List UInt8) (l4 : List (List UInt8)) : Nat → Int → Option (Unit ⊕ Bool)
  | 0, _ => none
  | m12 + 1, n11 => (if n11 < (l4.length : Int) then ((if n11 = (0 : Int) then (chk ((p0.length : Int) + 3)).bind fun n18 => some n18 else some 1)).bind fun n16 => ((L_FoldShortLines_L2 l4 n11 FU n16 : Option (Unit ⊕ Bool))).bind fun o64 => (match o64 with | .inl _ => ((idx l4 n11).bind fun a51 => (if a51 = [] then some true else (if p1 = [] then some false else (idx l4 n11).bind fun a54 => (idx l4 n11).bind fun a55 => (chk ((a55.length : Int) - 1)).bind fun n56 => (idx a54 n56).bind fun c57 => (R_Blank c57).bind fun b58 => some b58))).bind fun b50 => (if b50 = true then some (.inr false) else (chk (n11 + 1)).bind fun n62 => L_FoldShortLines_L1 p0 p1 l4 m12 n62) | .inr r63 => some (.inr r63)) else some (.inl ()))
def L_FoldShortLines (p0 : List UInt8) (p1 : List UInt8) : Option Bool :=
  (L_foldExample).bind fun b1 => (if b1 = true then (fold_Fold p0 p1).bind fun (l4, (n5, n6)) => (if n5 = (0 : Int) then ((L_FoldShortLines_L1 p0 p1 l4 FU 0 : Option (Unit ⊕ Bool))).bind fun o67 => (match o67 with | .inl _ => some (decide ((0 : Int) < (l4.length : Int))) | .inr r66 => some r66) else some (decide ((l4.length : Int) = (0 : Int)))) else some false)
def R_Find_L1 (p0 : List UInt8) (p1 : List UInt8) : Nat → Int → Option (Unit ⊕ Int)
  | 0, _ => none
  | m4 + 1, n3 => (chk (n3 + (p1.length : Int))).bind fun n5 => (if n5 ≤ (p0.length : Int) then (chk (n3 + (p1.length : Int))).bind fun n7 => (cut p0 n3 n7).bind fun s8 => (if s8 = p1 then some (.inr n3) else (chk (n3 + 1)).bind fun n10 => R_Find_L1 p0 p1 m4 n10) else some (.inl ()))
def R_Find (p0 : List UInt8) (p1 : List UInt8) (p2 : Int) : Option Int :=
  ((R_Find_L1 p0 p1 FU p2 : Option (Unit ⊕ Int))).bind fun o13 => (match o13 with | .inl _ => some (-1) | .inr r12 => some r12)
def L_UnfoldMatchesSpec_L2 (p0 : List (List UInt8)) (n23 : Int) : Nat → Bool → Int → Option Bool
  | 0, _, _ => none
  | m42 + 1, b40, n41 => (idx p0 n23).bind fun a43 => (if n41 < (a43.length : Int) then ((if b40 = true then some true else (idx p0 n23).bind fun a48 => (idx a48 n41).bind fun c49 => (R_OneOf c49 [13, 10, 0]).bind fun b50 => some b50)).bind fun b47 => (chk (n41 + 1)).bind fun n53 => L_UnfoldMatchesSpec_L2 p0 n23 m42 b47 n53 else some b40)
def L_UnfoldMatchesSpec_L1 (p0 : List (List UInt8)) (s4 : List UInt8) (s5 : List UInt8) (n6 : Int) (n7 : Int) : Nat → List UInt8 → Int → Option (List UInt8 ⊕ Bool)
  | 0, _, _ => none
  | m24 + 1, s22, n23 => (if n23 < (p0.length : Int) then ((if (0 : Int) < n23 then (idx p0 n23).bind fun a30 => (if a30 = [] then some true else (idx p0 n23).bind fun a32 => (idx a32 0).bind fun c33 => (R_Blank c33).bind fun b34 => some (!b34)) else some false)).bind fun b28 => (L_UnfoldMatchesSpec_L2 p0 n23 FU b28 0).bind fun b39 => (if b39 = true then ((R_At 11 n23).bind fun (n59, n60) => (if n6 = n59 ∧ n7 = n60 then (if s4 = [] then some (decide (s5 = [])) else some false) else some false)).bind fun b58 => some (.inr b58) else (idx p0 n23).bind fun a65 => (cat s22 a65).bind fun s66 => (chk (n23 + 1)).bind fun n67 => L_UnfoldMatchesSpec_L1 p0 s4 s5 n6 n7 m24 s66 n67) else some (.inl s22))
def L_UnfoldMatchesSpec (p0 : List (List UInt8)) : Option Bool :=
  (L_foldExample).bind fun b1 => (if b1 = true then (fold_Unfold p0).bind fun (s4, s5, (n6, n7)) => (if (300 : Int) < (p0.length : Int) then ((R_At 2 (-1)).bind fun (n13, n14) => (if n6 = n13 ∧ n7 = n14 then (if s4 = [] then some (decide (s5 = [])) else some false) else some false)).bind fun b12 => some b12 else ((L_UnfoldMatchesSpec_L1 p0 s4 s5 n6 n7 FU [] 0 : Option (List UInt8 ⊕ Bool))).bind fun o121 => (match o121 with | .inl s21 => (if (8000 : Int) < (s21.length : Int) then ((R_At 1 (-1)).bind fun (n73, n74) => (if n6 = n73 ∧ n7 = n74 then (if s4 = [] then some (decide (s5 = [])) else some false) else some false)).bind fun b72 => some b72 else (R_Find s21 [58] 0).bind fun n79 => ((if n79 < (0 : Int) then some true else (cut s21 0 n79).bind fun s85 => (R_FieldName s85).bind fun b86 => some (!b86))).bind fun b83 => (if b83 = true then ((R_At 11 (-2)).bind fun (n93, n94) => (if n6 = n93 ∧ n7 = n94 then (if s4 = [] then some (decide (s5 = [])) else some false) else some false)).bind fun b92 => some b92 else (chk (n79 + 1)).bind fun n99 => (cut s21 n99 (s21.length : Int)).bind fun s100 => (R_Trim s100).bind fun s101 => (if (4000 : Int) < (s101.length : Int) then ((R_At 1 (-1)).bind fun (n107, n108) => (if n6 = n107 ∧ n7 = n108 then (if s4 = [] then some (decide (s5 = [])) else some false) else some false)).bind fun b106 => some b106 else ((if n6 = (0 : Int) then (cut s21 0 n79).bind fun s117 => (if s4 = s117 then some (decide (s5 = s101)) else some false) else some false)).bind fun b115 => some b115))) | .inr r120 => some r120)) else some false)
end Go.Ph.Pf
