/-
  Quoted: the program's functions as plain functions, written by wip/tools/ext.py.
-/
import Derived.Test.YtolmifddbjdepaaDoorPl
import Derived.Test.YtolmifddbjdepaaDoorQp
set_option linter.unusedVariables false
namespace Go.Ph.Pf
open Go.Ph.Pl Go.Ph.Qp
def quoted_Encode (p0 : List UInt8) : Option (List UInt8 × (Int × Int)) :=
  if 12000 < p0.length then some ([], (1, -1)) else some (enc 0 p0, (0, 0))
def quoted_Lenient (p0 : List UInt8) : Option (List UInt8 × (Int × Int)) :=
  if 48000 < p0.length then some ([], (1, -1)) else some (lenient p0, (0, 0))
def quoted_Decode (p0 : List UInt8) : Option (List UInt8 × (Int × Int)) :=
  if 48000 < p0.length then some ([], (1, -1)) else if 12000 < (lenient p0).length then some ([], (11, -2)) else if enc 0 (lenient p0) = p0 then some (lenient p0, (0, 0)) else some ([], (11, -2))
def L_quotedExample  : Option Bool :=
  some true
def R_At (p0 : Int) (p1 : Int) : Option (Int × Int) :=
  some (p0, p1)
def R_Crlf (p0 : List UInt8) (p1 : Int) : Option Bool :=
  ((chk (p1 + 1)).bind fun n4 => (if n4 < (p0.length : Int) then (idx p0 p1).bind fun c6 => (if c6 = 13 then (chk (p1 + 1)).bind fun n8 => (idx p0 n8).bind fun c9 => some (decide (c9 = 10)) else some false) else some false)).bind fun b3 => some b3
def R_In (p0 : Int) (p1 : Int) (p2 : Int) : Option Bool :=
  ((if p1 ≤ p0 then some (decide (p0 ≤ p2)) else some false)).bind fun b3 => some b3
def R_Blank (p0 : UInt8) : Option Bool :=
  ((if p0 = 32 then some true else some (decide (p0 = 9)))).bind fun b3 => some b3
def R_Two (p0 : UInt8) : Option (List UInt8) :=
  (cut [48, 49, 50, 51, 52, 53, 54, 55, 56, 57, 65, 66, 67, 68, 69, 70] ((UInt8.ofNat (p0.toNat / 16)).toNat : Int) (((UInt8.ofNat (p0.toNat / 16)) + (1 : UInt8)).toNat : Int)).bind fun s1 => (cut [48, 49, 50, 51, 52, 53, 54, 55, 56, 57, 65, 66, 67, 68, 69, 70] ((UInt8.ofNat (p0.toNat % 16)).toNat : Int) (((UInt8.ofNat (p0.toNat % 16)) + (1 : UInt8)).toNat : Int)).bind fun s2 => (cat s1 s2).bind fun s3 => some s3
def R_LineUnits_L1 (p0 : List UInt8) : Nat → List (List UInt8) → Int → Option (List (List UInt8))
  | 0, _, _ => none
  | m10 + 1, l7, n9 => (if n9 < (p0.length : Int) then (idx p0 n9).bind fun c13 => ((R_In (c13.toNat : Int) 33 126).bind fun b17 => (if b17 = true then (if c13 = 61 then (R_Blank c13).bind fun b23 => (if b23 = true then (chk (n9 + 1)).bind fun n25 => some (decide (n25 < (p0.length : Int))) else some false) else some true) else (R_Blank c13).bind fun b19 => (if b19 = true then (chk (n9 + 1)).bind fun n21 => some (decide (n21 < (p0.length : Int))) else some false))).bind fun b16 => (if b16 = true then (app 16 l7 ([([c13] : List UInt8)] : List (List UInt8))).bind fun l28 => (chk (n9 + 1)).bind fun n29 => R_LineUnits_L1 p0 m10 l28 n29 else (R_Two c13).bind fun s30 => (cat [61] s30).bind fun s32 => (app 16 l7 ([s32] : List (List UInt8))).bind fun l33 => (chk (n9 + 1)).bind fun n34 => R_LineUnits_L1 p0 m10 l33 n34) else some l7)
def R_LineUnits (p0 : List UInt8) : Option (List (List UInt8)) :=
  (R_LineUnits_L1 p0 FU [] 0).bind fun l4 => some l4
def R_Quoted_L2 (p0 : List UInt8) : Nat → Int → Option Int
  | 0, _ => none
  | m12 + 1, n11 => ((if n11 < (p0.length : Int) then (R_Crlf p0 n11).bind fun b17 => some (!b17) else some false)).bind fun b15 => (if b15 = true then (chk (n11 + 1)).bind fun n21 => R_Quoted_L2 p0 m12 n21 else some n11)
def R_Quoted_L3 (l24 : List (List UInt8)) : Nat → List UInt8 → Int → Int → Option (List UInt8)
  | 0, _, _, _ => none
  | m32 + 1, s29, n30, n31 => (if n31 < (l24.length : Int) then (chk (n31 + 1)).bind fun n34 => ((if n34 = (l24.length : Int) then some 76 else some 75)).bind fun n37 => (idx l24 n31).bind fun a40 => (chk (n30 + (a40.length : Int))).bind fun n41 => ((if n37 < n41 then (cat s29 [61, 13, 10]).bind fun s47 => some (s47, 0) else some (s29, n30))).bind fun (s44, n45) => (idx l24 n31).bind fun a49 => (cat s44 a49).bind fun s50 => (idx l24 n31).bind fun a51 => (chk (n45 + (a51.length : Int))).bind fun n52 => (chk (n31 + 1)).bind fun n53 => R_Quoted_L3 l24 m32 s50 n52 n53 else some s29)
def R_Quoted_L1 (p0 : List UInt8) : Nat → List UInt8 → Int → Option (List UInt8)
  | 0, _, _ => none
  | m6 + 1, s4, n5 => (if n5 ≤ (p0.length : Int) then (R_Quoted_L2 p0 FU n5).bind fun n10 => (cut p0 n5 n10).bind fun l23 => (R_LineUnits l23).bind fun l24 => (R_Quoted_L3 l24 FU s4 0 0).bind fun s28 => (if n10 = (p0.length : Int) then some s28 else (cat s28 [13, 10]).bind fun s56 => (chk (n10 + 2)).bind fun n57 => R_Quoted_L1 p0 m6 s56 n57) else some s4)
def R_Quoted (p0 : List UInt8) : Option (List UInt8) :=
  (R_Quoted_L1 p0 FU [] 0).bind fun s3 => (toB s3).bind fun l59 => some l59
def R_Bytes (p0 : List UInt8) (p1 : List UInt8) : Option Bool :=
  some (decide (p0 = p1))
def L_QuotedEncodeMatchesSpec (p0 : List UInt8) : Option Bool :=
  (L_quotedExample).bind fun b1 => (if b1 = true then (quoted_Encode p0).bind fun (l4, (n5, n6)) => (if (12000 : Int) < (p0.length : Int) then ((R_At 1 (-1)).bind fun (n12, n13) => (if n5 = n12 ∧ n6 = n13 then some (decide ((l4.length : Int) = (0 : Int))) else some false)).bind fun b11 => some b11 else ((if n5 = (0 : Int) then (R_Quoted p0).bind fun l21 => (R_Bytes l4 l21).bind fun b23 => some b23 else some false)).bind fun b19 => some b19) else some false)
def R_Lower_L1  : Nat → List UInt8 → Int → Option (List UInt8)
  | 0, _, _ => none
  | m11 + 1, l8, n10 => (if n10 < (l8.length : Int) then (idx l8 n10).bind fun c13 => (R_In (c13.toNat : Int) 65 90).bind fun b14 => (if b14 = true then (idx l8 n10).bind fun c17 => (idx l8 n10).bind fun c18 => (put l8 n10 (c17 + (32 : UInt8))).bind fun l19 => (chk (n10 + 1)).bind fun n21 => R_Lower_L1  m11 l19 n21 else (chk (n10 + 1)).bind fun n22 => R_Lower_L1  m11 l8 n22) else some l8)
def R_Lower (p0 : List UInt8) : Option (List UInt8) :=
  (toB p0).bind fun l1 => (R_Lower_L1  FU l1 0).bind fun l6 => some l6
def R_Hex_L1 (p0 : UInt8) : Nat → Int → Option (Unit ⊕ Int)
  | 0, _ => none
  | m4 + 1, n3 => (if n3 < (16 : Int) then ((idx [48, 49, 50, 51, 52, 53, 54, 55, 56, 57, 65, 66, 67, 68, 69, 70] n3).bind fun c9 => (if c9 = p0 then some true else (R_Lower [48, 49, 50, 51, 52, 53, 54, 55, 56, 57, 65, 66, 67, 68, 69, 70]).bind fun s11 => (idx s11 n3).bind fun c13 => some (decide (c13 = p0)))).bind fun b8 => (if b8 = true then some (.inr n3) else (chk (n3 + 1)).bind fun n16 => R_Hex_L1 p0 m4 n16) else some (.inl ()))
def R_Hex (p0 : UInt8) : Option Int :=
  ((R_Hex_L1 p0 FU 0 : Option (Unit ⊕ Int))).bind fun o19 => (match o19 with | .inl _ => some (-1) | .inr r18 => some r18)
def R_LooseQuoted_L2 (p0 : List UInt8) : Nat → Int → Option Int
  | 0, _ => none
  | m17 + 1, n16 => ((if n16 < (p0.length : Int) then (idx p0 n16).bind fun c22 => some (!decide (c22 = 10)) else some false)).bind fun b20 => (if b20 = true then (chk (n16 + 1)).bind fun n25 => R_LooseQuoted_L2 p0 m17 n25 else some n16)
def R_LooseQuoted_L3 (p0 : List UInt8) (n9 : Int) : Nat → Int → Option Int
  | 0, _ => none
  | m45 + 1, n44 => ((if n9 < n44 then (chk (n44 - 1)).bind fun n50 => (idx p0 n50).bind fun c51 => (R_Blank c51).bind fun b52 => some b52 else some false)).bind fun b48 => (if b48 = true then (chk (n44 - 1)).bind fun n56 => R_LooseQuoted_L3 p0 n9 m45 n56 else some n44)
def R_LooseQuoted_L4 (p0 : List UInt8) (n67 : Int) : Nat → List UInt8 → Int → Option (List UInt8)
  | 0, _, _ => none
  | m80 + 1, l77, n79 => (if n79 < n67 then ((idx p0 n79).bind fun c85 => (if c85 = 61 then (chk (n79 + 2)).bind fun n87 => (if n87 < n67 then (chk (n79 + 1)).bind fun n89 => (idx p0 n89).bind fun c90 => (R_Hex c90).bind fun n91 => (if (0 : Int) ≤ n91 then (chk (n79 + 2)).bind fun n94 => (idx p0 n94).bind fun c95 => (R_Hex c95).bind fun n96 => some (decide ((0 : Int) ≤ n96)) else some false) else some false) else some false)).bind fun b84 => (if b84 = true then (chk (n79 + 1)).bind fun n100 => (idx p0 n100).bind fun c101 => (R_Hex c101).bind fun n102 => (chk ((16 : Int) * n102)).bind fun n104 => (chk (n79 + 2)).bind fun n105 => (idx p0 n105).bind fun c106 => (R_Hex c106).bind fun n107 => (chk (n104 + n107)).bind fun n109 => (app 1 l77 ([(ub8 n109)] : List UInt8)).bind fun l110 => (chk (n79 + 2)).bind fun n112 => (chk (n112 + 1)).bind fun n113 => R_LooseQuoted_L4 p0 n67 m80 l110 n113 else (idx p0 n79).bind fun c114 => (app 1 l77 ([c114] : List UInt8)).bind fun l115 => (chk (n79 + 1)).bind fun n116 => R_LooseQuoted_L4 p0 n67 m80 l115 n116) else some l77)
def R_LooseQuoted_L1 (p0 : List UInt8) : Nat → List UInt8 → Int → Option (List UInt8)
  | 0, _, _ => none
  | m10 + 1, l7, n9 => (if n9 < (p0.length : Int) then (R_LooseQuoted_L2 p0 FU n9).bind fun n15 => ((if n15 < (p0.length : Int) then (if n9 < n15 then (chk (n15 - 1)).bind fun n32 => (idx p0 n32).bind fun c33 => some (decide (c33 = 13)) else some false) else some false)).bind fun b29 => ((if b29 = true then (chk (n15 - 1)).bind fun n39 => some n39 else some n15)).bind fun n37 => (R_LooseQuoted_L3 p0 n9 FU n37).bind fun n43 => ((if n9 < n43 then (chk (n43 - 1)).bind fun n62 => (idx p0 n62).bind fun c63 => some (decide (c63 = 61)) else some false)).bind fun b60 => ((if b60 = true then (chk (n43 - 1)).bind fun n69 => some n69 else some n43)).bind fun n67 => (R_LooseQuoted_L4 p0 n67 FU l7 n9).bind fun l74 => ((if n15 < (p0.length : Int) then some (!b60) else some false)).bind fun b120 => (if b120 = true then (chk (n15 + 1)).bind fun n124 => (cut p0 n37 n124).bind fun l125 => (app 1 l74 l125).bind fun l126 => (chk (n15 + 1)).bind fun n127 => R_LooseQuoted_L1 p0 m10 l126 n127 else (chk (n15 + 1)).bind fun n128 => R_LooseQuoted_L1 p0 m10 l74 n128) else some l7)
def R_LooseQuoted (p0 : List UInt8) : Option (List UInt8) :=
  (R_LooseQuoted_L1 p0 FU [] 0).bind fun l4 => some l4
def L_QuotedLenientMatchesSpec (p0 : List UInt8) : Option Bool :=
  (L_quotedExample).bind fun b1 => (if b1 = true then (quoted_Lenient p0).bind fun (l4, (n5, n6)) => (if (48000 : Int) < (p0.length : Int) then ((R_At 1 (-1)).bind fun (n12, n13) => (if n5 = n12 ∧ n6 = n13 then some (decide ((l4.length : Int) = (0 : Int))) else some false)).bind fun b11 => some b11 else ((if n5 = (0 : Int) then (R_LooseQuoted p0).bind fun l21 => (R_Bytes l4 l21).bind fun b23 => some b23 else some false)).bind fun b19 => some b19) else some false)
def L_QuotedUnique (p0 : List UInt8) : Option Bool :=
  (L_quotedExample).bind fun b1 => (if b1 = true then (if (48000 : Int) < (p0.length : Int) then some true else (quoted_Decode p0).bind fun (l5, (n6, n7)) => (if n6 = (0 : Int) then (R_Quoted l5).bind fun l18 => (R_Bytes l18 p0).bind fun b20 => some b20 else ((R_At 11 (-2)).bind fun (n13, n14) => (if n6 = n13 ∧ n7 = n14 then some (decide ((l5.length : Int) = (0 : Int))) else some false)).bind fun b12 => some b12)) else some false)
def L_QuotedLines_L1 (l4 : List UInt8) : Nat → Int → Int → Option (Unit ⊕ Bool)
  | 0, _, _ => none
  | m13 + 1, n11, n12 => (if n12 ≤ (l4.length : Int) then ((if n12 = (l4.length : Int) then some true else (R_Crlf l4 n12).bind fun b19 => some b19)).bind fun b17 => (if b17 = true then ((if (76 : Int) < n11 then some true else (if (0 : Int) < n11 then (chk (n12 - 1)).bind fun n28 => (idx l4 n28).bind fun c29 => (R_Blank c29).bind fun b30 => some b30 else some false))).bind fun b25 => (if b25 = true then some (.inr false) else (chk (n12 + 1)).bind fun n34 => (chk (n34 + 1)).bind fun n35 => L_QuotedLines_L1 l4 m13 0 n35) else ((idx l4 n12).bind fun c39 => (R_In (c39.toNat : Int) 32 126).bind fun b40 => (if b40 = true then some false else (idx l4 n12).bind fun c42 => some (!decide (c42 = 9)))).bind fun b38 => (if b38 = true then some (.inr false) else (chk (n11 + 1)).bind fun n45 => (chk (n12 + 1)).bind fun n46 => L_QuotedLines_L1 l4 m13 n45 n46)) else some (.inl ()))
def L_QuotedLines (p0 : List UInt8) : Option Bool :=
  (L_quotedExample).bind fun b1 => (if b1 = true then (quoted_Encode p0).bind fun (l4, (n5, n6)) => (if n5 = (0 : Int) then ((L_QuotedLines_L1 l4 FU 0 0 : Option (Unit ⊕ Bool))).bind fun o49 => (match o49 with | .inl _ => some true | .inr r48 => some r48) else some (decide ((l4.length : Int) = (0 : Int)))) else some false)
end Go.Ph.Pf
