/-
  Mpf, Mct1: own texts of this repository (wip/tpl, wip/plans), merged and shaken by wip/tools/pack.py.
-/
import Derived.Test.YtegkhjbajijidaaGreatDoorProg
import Derived.KernelRfl
import Derived.Test.YtegkhjbajijidaaGreatDoorE1b
set_option maxRecDepth 100000
set_option linter.unusedVariables false
set_option linter.unusedSimpArgs false
section
namespace Go.Ph.Pf
open Go.Ph.Pl
def utf8_ValidString (p0 : List UInt8) : Option Bool :=
  if p0.length ≤ 4611686018427387904 then some (Chs.vld p0) else none
def R_Valid (p0 : List UInt8) : Option Bool :=
  if p0.length ≤ 4611686018427387904 then some (Chs.vld p0) else none
def R_Rune (p0 : List UInt8) (p1 : Int) : Option (Int × Int) :=
  if 0 ≤ p1 ∧ p1 < (p0.length : Int) ∧ p0.length ≤ 4611686018427387904 then some ((Utf.rune (p0.drop p1.toNat)).1, ((Utf.rune (p0.drop p1.toNat)).2 : Int)) else none
def R_Lower (p0 : List UInt8) : Option (List UInt8) :=
  if p0.length ≤ 9223372036854775807 then some (Chs.lower p0) else none
def basic_Same (p0 : List UInt8) (p1 : List UInt8) : Option Bool :=
  if p0.length ≤ 9223372036854775807 ∧ p1.length ≤ 9223372036854775807 then some (decide (Chs.lower p0 = Chs.lower p1)) else none
def R_Alike (p0 : List UInt8) (p1 : List UInt8) : Option Bool :=
  if p0.length ≤ 9223372036854775807 ∧ p1.length ≤ 9223372036854775807 then some (decide (Chs.lower p0 = Chs.lower p1)) else none
def R_Utf8 (p0 : Int) : Option (List UInt8) :=
  some (Chs.utf8 p0)
def strings_IndexByte (p0 : List UInt8) (p1 : UInt8) : Option Int :=
  some (ixB p0 p1)
def strconv_Itoa (p0 : Int) : Option (List UInt8) :=
  if -9223372036854775808 ≤ p0 ∧ p0 ≤ 9223372036854775807 then some (itoaP p0) else none
def strconv_Atoi (p0 : List UInt8) : Option (Int × Bool) :=
  if p0.length ≤ 281474976710656 then some (atoiP p0) else none
def stringslite_Index (p0 : List UInt8) (p1 : List UInt8) : Option Int :=
  if p0.length < 4294967281 then some (Lib.index p0 p1) else none
def utf8_DecodeRuneInString (p0 : List UInt8) : Option (Int × Int) :=
  if p0 ≠ [] then some (((Utf.dr p0).1 : Int), ((Utf.dr p0).2 : Int)) else none
def strings_Count (p0 : List UInt8) (p1 : List UInt8) : Option Int :=
  if p1.length = 1 ∧ p0.length ≤ 1000000 then some ((p0.countP fun c => decide (p1 = [c]) : Nat) : Int) else none
def strings_Builder_WriteString (p0 : List UInt8) (p1 : List UInt8) : Option (Int × Bool × List UInt8) :=
  (app 1 p0 p1).bind fun l2 => some ((p1.length : Int), true, l2)
def strings_Builder_WriteByte (p0 : List UInt8) (p1 : UInt8) : Option (Bool × List UInt8) :=
  (app 1 p0 ([p1] : List UInt8)).bind fun l2 => some (true, l2)
def strings_Builder_String (p0 : List UInt8) : Option (List UInt8) :=
  some p0
def strings_ToValidUTF8_L2 (p1 : List UInt8) (s3 : List UInt8) : Nat → List UInt8 → Bool → Int → Option (List UInt8)
  | 0, _, _, _ => none
  | m53 + 1, l49, b51, n52 => (if n52 < (s3.length : Int) then (idx s3 n52).bind fun c55 => (if c55.toNat < 128 then (chk (n52 + 1)).bind fun n57 => (strings_Builder_WriteByte l49 c55).bind fun (b58, l59) => strings_ToValidUTF8_L2 p1 s3 m53 l59 false n57 else (cut s3 n52 (s3.length : Int)).bind fun s61 => (utf8_DecodeRuneInString s61).bind fun (n62, n63) => (if n63 = (1 : Int) then (chk (n52 + 1)).bind fun n66 => ((if b51 = true then some (l49, true) else (strings_Builder_WriteString l49 p1).bind fun (n76, b77, l78) => some (l78, true))).bind fun (l72, b74) => strings_ToValidUTF8_L2 p1 s3 m53 l72 b74 n66 else (chk (n52 + n63)).bind fun n81 => (cut s3 n52 n81).bind fun s82 => (strings_Builder_WriteString l49 s82).bind fun (n83, b84, l85) => (chk (n52 + n63)).bind fun n87 => strings_ToValidUTF8_L2 p1 s3 m53 l85 false n87)) else some l49)
def tvL1 (p0 : List UInt8) : Nat → Nat → Option (Option Nat)
  | 0, _ => none
  | m + 1, i => if i < p0.length then (if ((Utf.dr (p0.drop i)).1 : Int) = (65533 : Int) then (if ((Utf.dr (p0.drop i)).2 : Int) = (1 : Int) then some (some i) else tvL1 p0 m (i + (Utf.dr (p0.drop i)).2)) else tvL1 p0 m (i + (Utf.dr (p0.drop i)).2)) else some none
def strings_ToValidUTF8 (p0 p1 : List UInt8) : Option (List UInt8) :=
  if p0.length ≤ 1000000 ∧ 1 ≤ p1.length ∧ p1.length ≤ 1000 then (tvL1 p0 FU 0).bind fun o => (match o with | none => some p0 | some i => (strings_ToValidUTF8_L2 p1 (p0.drop i) FU (p0.take i) false 0).bind fun l => (strings_Builder_String l).bind fun s => some s) else none
def tabk (k : Nat) : List (Option (List UInt8)) := (List.range 256).map fun n => if n = 34 ∧ 1 ≤ k then some [92, 34] else if n = 92 ∧ 2 ≤ k then some [92, 92] else none
def trk (k : Nat) : List (List UInt8) := [[34], [92]].take k
def strings_Replacer_build_L1 (p0 : List (List UInt8)) : Nat → Bool → Int → Option (Bool ⊕ ((List (Option (List UInt8)) × List (List UInt8)) × List (List UInt8)))
  | 0, _, _ => none
  | m15 + 1, b13, n14 => (if n14 < (p0.length : Int) then (idx p0 n14).bind fun a17 => (if (a17.length : Int) = (1 : Int) then (chk (n14 + 1)).bind fun n19 => (idx p0 n19).bind fun a20 => (if (a20.length : Int) = (1 : Int) then (chk (n14 + 2)).bind fun n23 => strings_Replacer_build_L1 p0 m15 b13 n23 else (chk (n14 + 2)).bind fun n22 => strings_Replacer_build_L1 p0 m15 false n22) else none) else some (.inl b13))
def strings_Replacer_build (p0 : List (List UInt8)) : Option ((List (Option (List UInt8)) × List (List UInt8)) × List (List UInt8)) :=
  ((if (p0.length : Int) = (2 : Int) then (idx p0 0).bind fun a5 => some (decide ((1 : Int) < (a5.length : Int))) else some false)).bind fun b3 => (if b3 = true then none else ((strings_Replacer_build_L1 p0 FU true 0 : Option (Bool ⊕ ((List (Option (List UInt8)) × List (List UInt8)) × List (List UInt8))))).bind fun o30 => (match o30 with | .inl b12 => (if b12 = true then none else (if p0 = [[92], [92, 92], [34], [92, 34]] then some ((tabk 2, trk 2), p0) else none)) | .inr r29 => some r29))
def strings_byteStringReplacer_Replace_L1 (p0 : (List (Option (List UInt8)) × List (List UInt8))) (p1 : List UInt8) : Nat → Int → Bool → Int → Option (Int × Bool)
  | 0, _, _, _ => none
  | m14 + 1, n11, b12, n13 => (if n13 < (p0.2.length : Int) then (idx p0.2 n13).bind fun a16 => (strings_Count p1 a16).bind fun n17 => (if n17 = (0 : Int) then (chk (n13 + 1)).bind fun n26 => strings_byteStringReplacer_Replace_L1 p0 p1 m14 n11 b12 n26 else (idx a16 0).bind fun c20 => (idxO p0.1 (c20.toNat : Int)).bind fun q21 => (chk (((q21.getD []).length : Int) - 1)).bind fun n22 => (chk (n17 * n22)).bind fun n23 => (chk (n11 + n23)).bind fun n24 => (chk (n13 + 1)).bind fun n25 => strings_byteStringReplacer_Replace_L1 p0 p1 m14 n24 true n25) else some (n11, b12))
def strings_byteStringReplacer_Replace_L2 (p0 : (List (Option (List UInt8)) × List (List UInt8))) (p1 : List UInt8) : Nat → Int → Bool → Int → Option (Int × Bool)
  | 0, _, _, _ => none
  | m35 + 1, n32, b33, n34 => (if n34 < (p1.length : Int) then (idx p1 n34).bind fun c37 => (idxO p0.1 (c37.toNat : Int)).bind fun q38 => (if q38.isSome = true then (idxO p0.1 (c37.toNat : Int)).bind fun q40 => (chk (((q40.getD []).length : Int) - 1)).bind fun n41 => (chk (n32 + n41)).bind fun n42 => (chk (n34 + 1)).bind fun n43 => strings_byteStringReplacer_Replace_L2 p0 p1 m35 n42 true n43 else (chk (n34 + 1)).bind fun n44 => strings_byteStringReplacer_Replace_L2 p0 p1 m35 n32 b33 n44) else some (n32, b33))
def strings_byteStringReplacer_Replace_L3 (p0 : (List (Option (List UInt8)) × List (List UInt8))) (p1 : List UInt8) : Nat → List UInt8 → Int → Int → Option (List UInt8)
  | 0, _, _, _ => none
  | m56 + 1, l53, n54, n55 => (if n55 < (p1.length : Int) then (idx p1 n55).bind fun c58 => (idxO p0.1 (c58.toNat : Int)).bind fun q59 => (if q59.isSome = true then (frm l53 n54).bind fun n61 => (idxO p0.1 (c58.toNat : Int)).bind fun q62 => (cpyO l53 n61 (q62.getD [])).bind fun (l63, n64) => (chk (n54 + n64)).bind fun n66 => (chk (n55 + 1)).bind fun n67 => strings_byteStringReplacer_Replace_L3 p0 p1 m56 l63 n66 n67 else (idx l53 n54).bind fun c68 => (put l53 n54 c58).bind fun l69 => (chk (n54 + 1)).bind fun n70 => (chk (n55 + 1)).bind fun n71 => strings_byteStringReplacer_Replace_L3 p0 p1 m56 l69 n70 n71) else some l53)
def strings_byteStringReplacer_Replace (p0 : (List (Option (List UInt8)) × List (List UInt8))) (p1 : List UInt8) : Option (List UInt8) :=
  (chk ((p0.2.length : Int) * 8)).bind fun n1 => ((if n1 ≤ (p1.length : Int) then (strings_byteStringReplacer_Replace_L1 p0 p1 FU (p1.length : Int) false 0).bind fun (n9, b10) => some (n9, b10) else (strings_byteStringReplacer_Replace_L2 p0 p1 FU (p1.length : Int) false 0).bind fun (n30, b31) => some (n30, b31))).bind fun (n4, b5) => (if b5 = true then (mkS 1 n4 n4 (0 : UInt8)).bind fun l48 => (strings_byteStringReplacer_Replace_L3 p0 p1 FU l48 0 0).bind fun l52 => some l52 else some p1)
def strings_NewReplacer (p0 : List (List UInt8)) : Option Unit :=
  if p0 = [[92], [92, 92], [34], [92, 34]] then some () else none
def strings_Replacer_Replace (p0 : List UInt8) : Option (List UInt8) :=
  strings_byteStringReplacer_Replace (tabk 2, trk 2) p0
def basic_All_L1 (p0 : List UInt8) (p1 : (UInt8 → Option Bool)) : Nat → Int → Option (Unit ⊕ Bool)
  | 0, _ => none
  | m4 + 1, n3 => (if n3 < (p0.length : Int) then (idx p0 n3).bind fun c6 => (p1 c6).bind fun b7 => (if b7 = true then (chk (n3 + 1)).bind fun n10 => basic_All_L1 p0 p1 m4 n10 else some (.inr false)) else some (.inl ()))
def basic_All (p0 : List UInt8) (p1 : (UInt8 → Option Bool)) : Option Bool :=
  ((basic_All_L1 p0 p1 FU 0 : Option (Unit ⊕ Bool))).bind fun o13 => (match o13 with | .inl _ => some true | .inr r12 => some r12)
def media_tokenByte (p0 : UInt8) : Option Bool :=
  ((if 33 ≤ p0.toNat then (if p0.toNat ≤ 126 then (strings_IndexByte [40, 41, 60, 62, 64, 44, 59, 58, 92, 34, 47, 91, 93, 63, 61, 42, 37, 39] p0).bind fun n6 => some (decide (n6 < (0 : Int))) else some false) else some false)).bind fun b3 => some b3
def media_token (p0 : List UInt8) : Option Bool :=
  ((if p0 = [] then some false else (if (p0.length : Int) ≤ (60 : Int) then (basic_All p0 media_tokenByte).bind fun b6 => some b6 else some false))).bind fun b3 => some b3
def basic_Fault (p0 : Int) (p1 : Int) : Option (Int × Int) :=
  some (p0, p1)
def slices_IndexFunc_Param_L1 (p0 : List (List UInt8 × List UInt8)) (p1 : ((List UInt8 × List UInt8) → Option Bool)) : Nat → Int → Option (Unit ⊕ Int)
  | 0, _ => none
  | m4 + 1, n3 => (if n3 < (p0.length : Int) then (idx p0 n3).bind fun a6 => (p1 (a6.1, a6.2)).bind fun b7 => (if b7 = true then some (.inr n3) else (chk (n3 + 1)).bind fun n10 => slices_IndexFunc_Param_L1 p0 p1 m4 n10) else some (.inl ()))
def slices_IndexFunc_Param (p0 : List (List UInt8 × List UInt8)) (p1 : ((List UInt8 × List UInt8) → Option Bool)) : Option Int :=
  ((slices_IndexFunc_Param_L1 p0 p1 FU 0 : Option (Unit ⊕ Int))).bind fun o13 => (match o13 with | .inl _ => some (-1) | .inr r12 => some r12)
def slices_ContainsFunc_Param (p0 : List (List UInt8 × List UInt8)) (p1 : ((List UInt8 × List UInt8) → Option Bool)) : Option Bool :=
  (slices_IndexFunc_Param p0 p1).bind fun n1 => some (decide ((0 : Int) ≤ n1))
def media_Validate_1 (p0 : (List UInt8 × List UInt8)) (p1 : (List UInt8 × List UInt8)) : Option Bool :=
  (basic_Same p0.1 p1.1).bind fun b1 => some b1
def basic_None  : Option (Int × Int) :=
  some (0, 0)
def media_Validate_L1 (p0 : (List UInt8 × List UInt8 × List (List UInt8 × List UInt8))) : Nat → Int → Int → Int → Option ((Int × Int) ⊕ (Int × Int))
  | 0, _, _, _ => none
  | m24 + 1, n21, n22, n23 => (if n23 < (p0.2.2.length : Int) then (idx p0.2.2 n23).bind fun a26 => ((media_token a26.1).bind fun b30 => (if b30 = true then some (decide ((20 : Int) < (a26.1.length : Int))) else some true)).bind fun b29 => (if b29 = true then (basic_Fault 10 n23).bind fun (n34, n35) => some (.inr (n34, n35)) else (cut p0.2.2 0 n23).bind fun l37 => (slices_ContainsFunc_Param l37 (fun z0 => media_Validate_1 z0 (a26.1, a26.2))).bind fun b39 => (if b39 = true then (basic_Fault 7 n23).bind fun (n42, n43) => some (.inr (n42, n43)) else (if (500 : Int) < (a26.2.length : Int) then (basic_Fault 1 n23).bind fun (n46, n47) => some (.inr (n46, n47)) else (utf8_ValidString a26.2).bind fun b49 => (if b49 = true then (chk (n23 + 1)).bind fun n55 => media_Validate_L1 p0 m24 n21 n22 n55 else (basic_Fault 5 n23).bind fun (n52, n53) => some (.inr (n52, n53)))))) else some (.inl (n21, n22)))
def media_Validate (p0 : (List UInt8 × List UInt8 × List (List UInt8 × List UInt8))) : Option (Int × Int) :=
  ((media_token p0.1).bind fun b4 => (if b4 = true then (media_token p0.2.1).bind fun b6 => some (!b6) else some true)).bind fun b3 => (if b3 = true then (basic_Fault 10 (-2)).bind fun (n10, n11) => some (n10, n11) else (if (60 : Int) < (p0.2.2.length : Int) then (basic_Fault 2 (-3)).bind fun (n14, n15) => some (n14, n15) else ((media_Validate_L1 p0 FU 0 0 0 : Option ((Int × Int) ⊕ (Int × Int)))).bind fun o61 => (match o61 with | .inl (n19, n20) => (basic_None).bind fun (n57, n58) => some (n57, n58) | .inr r60 => some r60)))
def basic_Failed (p0 : (Int × Int)) : Option Bool :=
  some (!decide (p0.1 = (0 : Int)))
def media_param_1 (p0 : UInt8) : Option Bool :=
  ((if 32 ≤ p0.toNat then some (decide (p0.toNat ≤ 126)) else some false)).bind fun b3 => some b3
def basic_Digit (p0 : UInt8) : Option UInt8 :=
  (idx [48, 49, 50, 51, 52, 53, 54, 55, 56, 57, 65, 66, 67, 68, 69, 70] ((p0 &&& (15 : UInt8)).toNat : Int)).bind fun c1 => some c1
def media_pieces_L1 (p0 : List UInt8) : Nat → List (List UInt8) → Int → Option (List (List UInt8))
  | 0, _, _ => none
  | m11 + 1, l8, n10 => (if n10 < (p0.length : Int) then (chk (n10 + 1)).bind fun n13 => (cut p0 n10 n13).bind fun s14 => (idx p0 n10).bind fun c15 => (media_tokenByte c15).bind fun b16 => ((if b16 = true then some s14 else (idx p0 n10).bind fun c22 => (basic_Digit (UInt8.ofNat (c22.toNat / 2 ^ 4))).bind fun c23 => (idx p0 n10).bind fun c25 => (basic_Digit c25).bind fun c26 => some ([37, c23, c26] : List UInt8))).bind fun s20 => (chk ((l8.length : Int) - 1)).bind fun n29 => (idx l8 n29).bind fun a30 => (chk ((a30.length : Int) + (s20.length : Int))).bind fun n31 => (if n31 ≤ (60 : Int) then (idx l8 n29).bind fun a33 => (cat a33 s20).bind fun s34 => (idx l8 n29).bind fun a35 => (put l8 n29 s34).bind fun l36 => (chk (n10 + 1)).bind fun n37 => media_pieces_L1 p0 m11 l36 n37 else (app 16 l8 ([s20] : List (List UInt8))).bind fun l38 => (chk (n10 + 1)).bind fun n39 => media_pieces_L1 p0 m11 l38 n39) else some l8)
def media_pieces (p0 : List UInt8) : Option (List (List UInt8)) :=
  (media_pieces_L1 p0 FU ([[117, 116, 102, 56, 39, 39]] : List (List UInt8)) 0).bind fun l5 => some l5
def media_param_L1 (p0 : (List UInt8 × List UInt8)) (l21 : List (List UInt8)) : Nat → List UInt8 → Int → Option (List UInt8)
  | 0, _, _ => none
  | m28 + 1, s26, n27 => (if n27 < (l21.length : Int) then (idx l21 n27).bind fun a30 => (cat [59, 32] p0.1).bind fun s31 => (cat s31 [42]).bind fun s32 => (strconv_Itoa n27).bind fun s33 => (cat s32 s33).bind fun s35 => (cat s35 [42, 61]).bind fun s36 => (cat s36 a30).bind fun s37 => (cat s26 s37).bind fun s38 => (chk (n27 + 1)).bind fun n39 => media_param_L1 p0 l21 m28 s38 n39 else some s26)
def media_param (p0 : (List UInt8 × List UInt8)) : Option (List UInt8) :=
  (media_token p0.2).bind fun b1 => (if b1 = true then (cat [59, 32] p0.1).bind fun s4 => (cat s4 [61]).bind fun s5 => (cat s5 p0.2).bind fun s6 => some s6 else ((if (p0.2.length : Int) ≤ (60 : Int) then (basic_All p0.2 media_param_1).bind fun b11 => some b11 else some false)).bind fun b9 => (if b9 = true then (cat [59, 32] p0.1).bind fun s15 => (cat s15 [61, 34]).bind fun s16 => (strings_NewReplacer ([[92], [92, 92], [34], [92, 34]] : List (List UInt8))).bind fun _ => (strings_Replacer_Replace p0.2).bind fun s18 => (cat s16 s18).bind fun s19 => (cat s19 [34]).bind fun s20 => some s20 else (media_pieces p0.2).bind fun l21 => (media_param_L1 p0 l21 FU [] 0).bind fun s25 => some s25))
def media_Print_L1 (p0 : (List UInt8 × List UInt8 × List (List UInt8 × List UInt8))) : Nat → List UInt8 → Int → Option (List UInt8)
  | 0, _, _ => none
  | m14 + 1, s12, n13 => (if n13 < (p0.2.2.length : Int) then (idx p0.2.2 n13).bind fun a16 => (media_param (a16.1, a16.2)).bind fun s17 => (cat s12 s17).bind fun s19 => (chk (n13 + 1)).bind fun n20 => media_Print_L1 p0 m14 s19 n20 else some s12)
def media_Print (p0 : (List UInt8 × List UInt8 × List (List UInt8 × List UInt8))) : Option (List UInt8 × (Int × Int)) :=
  (media_Validate (p0.1, p0.2.1, p0.2.2)).bind fun (n1, n2) => (basic_Failed (n1, n2)).bind fun b4 => (if b4 = true then some ([], (n1, n2)) else (cat p0.1 [47]).bind fun s7 => (cat s7 p0.2.1).bind fun s8 => (media_Print_L1 p0 FU s8 0).bind fun s11 => (if (4000 : Int) < (s11.length : Int) then (basic_Fault 1 (-4)).bind fun (n23, n24) => some ([], (n23, n24)) else (basic_None).bind fun (n26, n27) => some (s11, (n26, n27))))
def strings_trimLeftByte_L1 (p1 : UInt8) : Nat → List UInt8 → Option (List UInt8)
  | 0, _ => none
  | m5 + 1, s4 => ((if (0 : Int) < (s4.length : Int) then (idx s4 0).bind fun c10 => some (decide (c10 = p1)) else some false)).bind fun b8 => (if b8 = true then (cut s4 1 (s4.length : Int)).bind fun s13 => strings_trimLeftByte_L1 p1 m5 s13 else some s4)
def strings_trimLeftByte (p0 : List UInt8) (p1 : UInt8) : Option (List UInt8) :=
  (strings_trimLeftByte_L1 p1 FU p0).bind fun s3 => some s3
def strings_makeASCIISet_L1 (p0 : List UInt8) : Nat → List Bool → Int → Option (List Bool ⊕ (List Bool × Bool))
  | 0, _, _ => none
  | m6 + 1, l4, n5 => (if n5 < (p0.length : Int) then (idx p0 n5).bind fun c8 => (if 128 ≤ c8.toNat then (chkA 256 l4).bind fun l10 => (chkA 256 l4).bind fun l11 => (chkA 256 l10).bind fun l12 => (chkA 256 l10).bind fun l13 => some (.inr (l13, false)) else (idxA 256 l4 (c8.toNat : Int)).bind fun a14 => (putA 256 l4 (c8.toNat : Int) true).bind fun l15 => (chk (n5 + 1)).bind fun n16 => strings_makeASCIISet_L1 p0 m6 l15 n16) else some (.inl l4))
def strings_makeASCIISet (p0 : List UInt8) : Option (List Bool × Bool) :=
  ((strings_makeASCIISet_L1 p0 FU (List.replicate 256 false : List Bool) 0 : Option (List Bool ⊕ (List Bool × Bool)))).bind fun o23 => (match o23 with | .inl l3 => (chkA 256 l3).bind fun l18 => (chkA 256 l3).bind fun l19 => (chkA 256 l18).bind fun l20 => (chkA 256 l18).bind fun l21 => some (l21, true) | .inr r22 => some r22)
def strings_asciiSet_contains (p0 : List Bool) (p1 : UInt8) : Option Bool :=
  (idxA 256 p0 (p1.toNat : Int)).bind fun a1 => some a1
def strings_trimLeftASCII_L1 (p1 : List Bool) : Nat → List UInt8 → Option (List UInt8)
  | 0, _ => none
  | m5 + 1, s4 => (if (0 : Int) < (s4.length : Int) then (idx s4 0).bind fun c7 => (strings_asciiSet_contains p1 c7).bind fun b8 => (if b8 = true then (cut s4 1 (s4.length : Int)).bind fun s11 => strings_trimLeftASCII_L1 p1 m5 s11 else some s4) else some s4)
def strings_trimLeftASCII (p0 : List UInt8) (p1 : List Bool) : Option (List UInt8) :=
  (strings_trimLeftASCII_L1 p1 FU p0).bind fun s3 => some s3
def strings_TrimLeft (p0 : List UInt8) (p1 : List UInt8) : Option (List UInt8) :=
  ((if p0 = [] then some true else some (decide (p1 = [])))).bind fun b3 => (if b3 = true then some p0 else ((if (p1.length : Int) = (1 : Int) then (idx p1 0).bind fun c11 => some (decide (c11.toNat < 128)) else some false)).bind fun b9 => (if b9 = true then (idx p1 0).bind fun c14 => (strings_trimLeftByte p0 c14).bind fun s15 => some s15 else (strings_makeASCIISet p1).bind fun (n17, b18) => (chkA 256 (List.replicate 256 false : List Bool)).bind fun l20 => (chkA 256 n17).bind fun l21 => (if b18 = true then (strings_trimLeftASCII p0 n17).bind fun s24 => some s24 else none)))
def media_reader_blanks (p0 : List UInt8) : Option (List UInt8) :=
  (strings_TrimLeft p0 [32, 9]).bind fun s1 => some s1
def media_reader_take_L1 (p1 : (UInt8 → Option Bool)) (o1 : List UInt8) : Nat → Int → Option Int
  | 0, _ => none
  | m7 + 1, n6 => ((if n6 < (o1.length : Int) then (idx o1 n6).bind fun c12 => (p1 c12).bind fun b13 => some b13 else some false)).bind fun b10 => (if b10 = true then (chk (n6 + 1)).bind fun n17 => media_reader_take_L1 p1 o1 m7 n17 else some n6)
def media_reader_take (p0 : List UInt8) (p1 : (UInt8 → Option Bool)) : Option (List UInt8 × List UInt8) :=
  (media_reader_blanks p0).bind fun o1 => (media_reader_take_L1 p1 o1 FU 0).bind fun n5 => (cut o1 0 n5).bind fun s19 => (cut o1 n5 (o1.length : Int)).bind fun s20 => some (s19, s20)
def media_reader_sign (p0 : List UInt8) (p1 : UInt8) : Option (Bool × List UInt8) :=
  (media_reader_blanks p0).bind fun o1 => ((if o1 = [] then some true else (idx o1 0).bind fun c7 => some (!decide (c7 = p1)))).bind fun b5 => (if b5 = true then some (false, o1) else (cut o1 1 (o1.length : Int)).bind fun s10 => some (true, s10))
def media_reader_read_1 (p0 : UInt8) : Option Bool :=
  ((media_tokenByte p0).bind fun b4 => (if b4 = true then some true else some (decide (p0 = 42)))).bind fun b3 => some b3
def media_reader_value_1 (p0 : UInt8) : Option Bool :=
  ((media_tokenByte p0).bind fun b4 => (if b4 = true then some true else (if p0 = 37 then some true else (if p0 = 39 then some true else some (decide (p0 = 42)))))).bind fun b3 => some b3
def media_reader_value_L1  : Nat → List UInt8 → List UInt8 → Int → Option (List UInt8 ⊕ (List UInt8 × Bool × List UInt8))
  | 0, _, _, _ => none
  | m16 + 1, s11, l13, n15 => (if n15 < (s11.length : Int) then (idx s11 n15).bind fun c19 => (if c19 = 34 then (chk (n15 + 1)).bind fun n21 => (cut s11 n21 (s11.length : Int)).bind fun s22 => some (.inr (l13, true, s22)) else (if c19 = 92 then (chk (n15 + 1)).bind fun n25 => (if n25 = (s11.length : Int) then some (.inr ([], false, s11)) else (idx s11 n25).bind fun c27 => (app 1 l13 ([c27] : List UInt8)).bind fun l28 => (chk (n25 + 1)).bind fun n29 => media_reader_value_L1  m16 s11 l28 n29) else (app 1 l13 ([c19] : List UInt8)).bind fun l30 => (chk (n15 + 1)).bind fun n31 => media_reader_value_L1  m16 s11 l30 n31)) else some (.inl s11))
def media_reader_value (p0 : List UInt8) : Option (List UInt8 × Bool × List UInt8) :=
  (media_reader_sign p0 34).bind fun (b1, o2) => (if b1 = true then ((media_reader_value_L1  FU o2 [] 0 : Option (List UInt8 ⊕ (List UInt8 × Bool × List UInt8)))).bind fun o34 => (match o34 with | .inl s10 => some ([], false, s10) | .inr r33 => some r33) else (media_reader_take o2 media_reader_value_1).bind fun (s5, o6) => some (s5, true, o6))
def stringslite_Cut (p0 : List UInt8) (p1 : List UInt8) : Option (List UInt8 × List UInt8 × Bool) :=
  (stringslite_Index p0 p1).bind fun n1 => (if (0 : Int) ≤ n1 then (cut p0 0 n1).bind fun s4 => (chk (n1 + (p1.length : Int))).bind fun n5 => (cut p0 n5 (p0.length : Int)).bind fun s6 => some (s4, s6, true) else some (p0, [], false))
def strings_Cut (p0 : List UInt8) (p1 : List UInt8) : Option (List UInt8 × List UInt8 × Bool) :=
  (stringslite_Cut p0 p1).bind fun (s1, s2, b3) => some (s1, s2, b3)
def stringslite_HasSuffix (p0 : List UInt8) (p1 : List UInt8) : Option Bool :=
  ((if (p1.length : Int) ≤ (p0.length : Int) then (chk ((p0.length : Int) - (p1.length : Int))).bind fun n5 => (cut p0 n5 (p0.length : Int)).bind fun s6 => some (decide (s6 = p1)) else some false)).bind fun b3 => some b3
def stringslite_CutSuffix (p0 : List UInt8) (p1 : List UInt8) : Option (List UInt8 × Bool) :=
  (stringslite_HasSuffix p0 p1).bind fun b1 => (if b1 = true then (chk ((p0.length : Int) - (p1.length : Int))).bind fun n4 => (cut p0 0 n4).bind fun s5 => some (s5, true) else some (p0, false))
def strings_CutSuffix (p0 : List UInt8) (p1 : List UInt8) : Option (List UInt8 × Bool) :=
  (stringslite_CutSuffix p0 p1).bind fun (s1, b2) => some (s1, b2)
def basic_Number (p0 : List UInt8) (p1 : Int) : Option (Int × Bool) :=
  (strconv_Atoi p0).bind fun (n1, b2) => ((if b2 = true then (strconv_Itoa n1).bind fun s7 => (if s7 = p0 then (if n1 < (0 : Int) then some true else some (decide (p1 < n1))) else some true) else some true)).bind fun b6 => (if b6 = true then some (0, false) else some (n1, true))
def media_reader_read (p0 : List UInt8) : Option ((List UInt8 × Int × Bool × List UInt8) × Bool × List UInt8) :=
  (media_reader_take p0 media_reader_read_1).bind fun (s1, o2) => (media_reader_sign o2 61).bind fun (b4, o5) => (if b4 = true then (media_reader_value o5).bind fun (s8, b9, o10) => (strings_Cut s1 [42]).bind fun (s12, s13, b14) => ((if b14 = true then (strings_CutSuffix s13 [42]).bind fun (s24, b25) => (basic_Number s24 1099511627776).bind fun (n27, b28) => ((if b9 = true then some b28 else some false)).bind fun b32 => some (b32, s12, n27, b25, s8) else some (b9, s12, (-1), false, s8))).bind fun (b18, s19, n20, b21, s22) => ((if b18 = true then some (s19, n20, b21, s22, !decide (s12 = [])) else some (s19, n20, b21, s22, false))).bind fun (s37, n38, b39, s40, b41) => some ((s37, n38, b39, s40), b41, o10) else some (([], 0, false, []), false, o5))
def slices_IndexFunc_piece_L1 (p0 : List (List UInt8 × Int × Bool × List UInt8)) (p1 : ((List UInt8 × Int × Bool × List UInt8) → Option Bool)) : Nat → Int → Option (Unit ⊕ Int)
  | 0, _ => none
  | m4 + 1, n3 => (if n3 < (p0.length : Int) then (idx p0 n3).bind fun a6 => (p1 (a6.1, a6.2.1, a6.2.2.1, a6.2.2.2)).bind fun b7 => (if b7 = true then some (.inr n3) else (chk (n3 + 1)).bind fun n10 => slices_IndexFunc_piece_L1 p0 p1 m4 n10) else some (.inl ()))
def slices_IndexFunc_piece (p0 : List (List UInt8 × Int × Bool × List UInt8)) (p1 : ((List UInt8 × Int × Bool × List UInt8) → Option Bool)) : Option Int :=
  ((slices_IndexFunc_piece_L1 p0 p1 FU 0 : Option (Unit ⊕ Int))).bind fun o13 => (match o13 with | .inl _ => some (-1) | .inr r12 => some r12)
def slices_ContainsFunc_piece (p0 : List (List UInt8 × Int × Bool × List UInt8)) (p1 : ((List UInt8 × Int × Bool × List UInt8) → Option Bool)) : Option Bool :=
  (slices_IndexFunc_piece p0 p1).bind fun n1 => some (decide ((0 : Int) ≤ n1))
def media_params_1 (p0 : (List UInt8 × Int × Bool × List UInt8)) (p1 : (List UInt8 × Int × Bool × List UInt8)) : Option Bool :=
  (basic_Same p0.1 p1.1).bind fun b1 => some b1
def basic_Hex (p0 : UInt8) : Option (UInt8 × Bool) :=
  ((if 48 ≤ p0.toNat then some (decide (p0.toNat ≤ 57)) else some false)).bind fun b3 => (if b3 = true then some ((p0 - (48 : UInt8)), true) else ((if 65 ≤ p0.toNat then some (decide (p0.toNat ≤ 70)) else some false)).bind fun b9 => (if b9 = true then some (((p0 - (65 : UInt8)) + (10 : UInt8)), true) else ((if 97 ≤ p0.toNat then some (decide (p0.toNat ≤ 102)) else some false)).bind fun b15 => (if b15 = true then some (((p0 - (97 : UInt8)) + (10 : UInt8)), true) else some (0, false))))
def basic_Pair (p0 : List UInt8) : Option (UInt8 × Bool) :=
  (if (p0.length : Int) < (2 : Int) then some (0, false) else (idx p0 0).bind fun c2 => (basic_Hex c2).bind fun (c3, b4) => (idx p0 1).bind fun c6 => (basic_Hex c6).bind fun (c7, b8) => ((if b4 = true then some (((UInt8.ofNat (c3.toNat * 2 ^ 4)) ||| c7), b8) else some (((UInt8.ofNat (c3.toNat * 2 ^ 4)) ||| c7), false))).bind fun (c12, b13) => some (c12, b13))
def media_piece_text_L1 (s13 : List UInt8) : Nat → List UInt8 → Int → Option (List UInt8)
  | 0, _, _ => none
  | m26 + 1, l23, n25 => (if n25 < (s13.length : Int) then (idx s13 n25).bind fun c29 => (((if c29 = 37 then (chk (n25 + 1)).bind fun n41 => (cut s13 n41 (s13.length : Int)).bind fun s42 => (basic_Pair s42).bind fun (c43, b44) => (if b44 = true then (app 1 l23 ([c43] : List UInt8)).bind fun l47 => (chk (n25 + 2)).bind fun n48 => some (.inr (l47, n48)) else some (.inl (l23, n25))) else some (.inl (l23, n25))) : Option ((List UInt8 × Int) ⊕ (List UInt8 × Int)))).bind fun o55 => (match o55 with | .inl (l33, n35) => (idx s13 n35).bind fun c50 => (app 1 l33 ([c50] : List UInt8)).bind fun l51 => (chk (n35 + 1)).bind fun n52 => media_piece_text_L1 s13 m26 l51 n52 | .inr (l37, n39) => (chk (n39 + 1)).bind fun n54 => media_piece_text_L1 s13 m26 l37 n54) else some l23)
def media_piece_text (p0 : (List UInt8 × Int × Bool × List UInt8)) : Option (List UInt8) :=
  (if p0.2.2.1 = true then ((if p0.2.1 = (0 : Int) then (if (6 : Int) ≤ (p0.2.2.2.length : Int) then (cut p0.2.2.2 0 6).bind fun s7 => (basic_Same s7 [117, 116, 102, 56, 39, 39]).bind fun b8 => some b8 else some false) else some false)).bind fun b4 => ((if b4 = true then (cut p0.2.2.2 6 (p0.2.2.2.length : Int)).bind fun s15 => some s15 else some p0.2.2.2)).bind fun s13 => (media_piece_text_L1 s13 FU [] 0).bind fun l20 => some l20 else some p0.2.2.2)
def media_joined_L1 (l6 : List (List UInt8 × Int × Bool × List UInt8)) : Nat → List UInt8 → List UInt8 → List UInt8 → List UInt8 → Int → Option ((List UInt8 × List UInt8 × List UInt8 × List UInt8) ⊕ ((List UInt8 × List UInt8) × Bool))
  | 0, _, _, _, _, _ => none
  | m18 + 1, s13, s14, s15, s16, n17 => (if n17 < (l6.length : Int) then (idx l6 n17).bind fun a20 => (if a20.2.1 = n17 then (media_piece_text (a20.1, a20.2.1, a20.2.2.1, a20.2.2.2)).bind fun s22 => (cat s16 s22).bind fun s24 => (chk (n17 + 1)).bind fun n25 => media_joined_L1 l6 m18 s13 s14 s15 s24 n25 else some (.inr ((s15, s16), false))) else some (.inl (s13, s14, s15, s16)))
def media_joined (p0 : List (List UInt8 × Int × Bool × List UInt8)) : Option ((List UInt8 × List UInt8) × Bool) :=
  (idx p0 0).bind fun a1 => (idx p0 0).bind fun a2 => (idx p0 0).bind fun a4 => (if a4.2.1 < (0 : Int) then some ((a1.1, a2.2.2.2), decide ((p0.length : Int) = (1 : Int))) else (slices_SortFunc_piece p0).bind fun l6 => ((media_joined_L1 l6 FU [] [] a1.1 [] 0 : Option ((List UInt8 × List UInt8 × List UInt8 × List UInt8) ⊕ ((List UInt8 × List UInt8) × Bool)))).bind fun o30 => (match o30 with | .inl (s9, s10, s11, s12) => (strings_ToValidUTF8 s12 [239, 191, 189]).bind fun s27 => some ((s11, s27), true) | .inr r29 => some r29))
def media_params_L2 (p0 : List (List UInt8 × Int × Bool × List UInt8)) (a13 : (List UInt8 × Int × Bool × List UInt8)) : Nat → List (List UInt8 × Int × Bool × List UInt8) → Int → Option (List (List UInt8 × Int × Bool × List UInt8))
  | 0, _, _ => none
  | m29 + 1, l26, n28 => (if n28 < (p0.length : Int) then (idx p0 n28).bind fun a32 => (media_params_1 (a32.1, a32.2.1, a32.2.2.1, a32.2.2.2) (a13.1, a13.2.1, a13.2.2.1, a13.2.2.2)).bind fun b33 => (if b33 = true then (app 48 l26 ([(a32.1, a32.2.1, a32.2.2.1, a32.2.2.2)] : List (List UInt8 × Int × Bool × List UInt8))).bind fun l36 => (chk (n28 + 1)).bind fun n37 => media_params_L2 p0 a13 m29 l36 n37 else (chk (n28 + 1)).bind fun n38 => media_params_L2 p0 a13 m29 l26 n38) else some l26)
def media_params_L1 (p0 : List (List UInt8 × Int × Bool × List UInt8)) : Nat → List (List UInt8 × List UInt8) → Int → Option (List (List UInt8 × List UInt8) ⊕ (List (List UInt8 × List UInt8) × Bool))
  | 0, _, _ => none
  | m10 + 1, l7, n9 => (if n9 < (p0.length : Int) then (idx p0 n9).bind fun a13 => (cut p0 0 n9).bind fun l15 => (slices_ContainsFunc_piece l15 (fun z0 => media_params_1 z0 (a13.1, a13.2.1, a13.2.2.1, a13.2.2.2))).bind fun b16 => (if b16 = true then (chk (n9 + 1)).bind fun n19 => media_params_L1 p0 m10 l7 n19 else (media_params_L2 p0 a13 FU [] 0).bind fun l23 => (media_joined l23).bind fun ((s40, s41), b42) => (if b42 = true then (app 32 l7 ([(a13.1, s41)] : List (List UInt8 × List UInt8))).bind fun l45 => (chk (n9 + 1)).bind fun n46 => media_params_L1 p0 m10 l45 n46 else some (.inr ([], false)))) else some (.inl l7))
def media_params (p0 : List (List UInt8 × Int × Bool × List UInt8)) : Option (List (List UInt8 × List UInt8) × Bool) :=
  ((media_params_L1 p0 FU [] 0 : Option (List (List UInt8 × List UInt8) ⊕ (List (List UInt8 × List UInt8) × Bool)))).bind fun o50 => (match o50 with | .inl l4 => some (l4, true) | .inr r49 => some r49)
def media_parse_L1 (s1 : List UInt8) (s7 : List UInt8) : Nat → List UInt8 → List UInt8 → List (List UInt8 × List UInt8) → List UInt8 → List (List UInt8 × Int × Bool × List UInt8) → Option ((List UInt8 × List UInt8 × List (List UInt8 × List UInt8) × List UInt8 × List (List UInt8 × Int × Bool × List UInt8)) ⊕ ((List UInt8 × List UInt8 × List (List UInt8 × List UInt8)) × Bool))
  | 0, _, _, _, _, _ => none
  | m36 + 1, s27, s28, l29, s32, l34 => (media_reader_sign s32 59).bind fun (b38, o39) => (if b38 = true then (media_reader_read o39).bind fun ((s42, n43, b44, s45), b46, o47) => (if b46 = true then (app 48 l34 ([(s42, n43, b44, s45)] : List (List UInt8 × Int × Bool × List UInt8))).bind fun l50 => media_parse_L1 s1 s7 m36 s27 s28 l29 o47 l50 else some (.inr ((s1, s7, []), false))) else some (.inl (s27, s28, l29, o39, l34)))
def media_parse (p0 : List UInt8) : Option ((List UInt8 × List UInt8 × List (List UInt8 × List UInt8)) × Bool) :=
  (media_reader_take p0 media_tokenByte).bind fun (s1, o2) => (media_reader_sign o2 47).bind fun (b4, o5) => (media_reader_take o5 media_tokenByte).bind fun (s7, o8) => ((if s1 = [] then some true else (if b4 = true then some (decide (s7 = [])) else some true))).bind fun b12 => (if b12 = true then some ((s1, s7, []), false) else ((media_parse_L1 s1 s7 FU [] [] [] o8 [] : Option ((List UInt8 × List UInt8 × List (List UInt8 × List UInt8) × List UInt8 × List (List UInt8 × Int × Bool × List UInt8)) ⊕ ((List UInt8 × List UInt8 × List (List UInt8 × List UInt8)) × Bool)))).bind fun o68 => (match o68 with | .inl (s18, s19, l20, s23, l25) => (media_reader_blanks s23).bind fun o52 => (media_params l25).bind fun (l55, b56) => ((if b56 = true then some (s1, s7, l55, decide (o52 = [])) else some (s1, s7, l55, false))).bind fun (s60, s61, l62, b65) => some ((s60, s61, l62), b65) | .inr r67 => some r67))
def media_Parse (p0 : List UInt8) : Option ((List UInt8 × List UInt8 × List (List UInt8 × List UInt8)) × (Int × Int)) :=
  (if (4000 : Int) < (p0.length : Int) then (basic_Fault 1 (-1)).bind fun (n2, n3) => some (([], [], []), (n2, n3)) else (media_parse p0).bind fun ((s5, s6, l7), b8) => (if b8 = true then (media_Validate (s5, s6, l7)).bind fun (n14, n15) => (basic_Failed (n14, n15)).bind fun b17 => (if b17 = true then (basic_Fault n14 (-6)).bind fun (n20, n21) => some (([], [], []), (n20, n21)) else (basic_None).bind fun (n23, n24) => some ((s5, s6, l7), (n23, n24))) else (basic_Fault 11 (-5)).bind fun (n11, n12) => some (([], [], []), (n11, n12))))
def media_Param_L1 (p0 : (List UInt8 × List UInt8 × List (List UInt8 × List UInt8))) (p1 : List UInt8) : Nat → Int → Int → Int → Option ((Int × Int) ⊕ (List UInt8 × Bool × (Int × Int)))
  | 0, _, _, _ => none
  | m14 + 1, n11, n12, n13 => (if n13 < (p0.2.2.length : Int) then (idx p0.2.2 n13).bind fun a16 => (basic_Same a16.1 p1).bind fun b17 => (if b17 = true then (basic_None).bind fun (n20, n21) => some (.inr (a16.2, true, (n20, n21))) else (chk (n13 + 1)).bind fun n23 => media_Param_L1 p0 p1 m14 n11 n12 n23) else some (.inl (n11, n12)))
def media_Param (p0 : (List UInt8 × List UInt8 × List (List UInt8 × List UInt8))) (p1 : List UInt8) : Option (List UInt8 × Bool × (Int × Int)) :=
  (media_Validate (p0.1, p0.2.1, p0.2.2)).bind fun (n1, n2) => (basic_Failed (n1, n2)).bind fun b4 => (if b4 = true then some ([], false, (n1, n2)) else ((media_Param_L1 p0 p1 FU 0 0 0 : Option ((Int × Int) ⊕ (List UInt8 × Bool × (Int × Int))))).bind fun o29 => (match o29 with | .inl (n9, n10) => (basic_None).bind fun (n25, n26) => some ([], false, (n25, n26)) | .inr r28 => some r28))
def L_mediaExample  : Option Bool :=
  (media_Print ([116, 101, 120, 116], [112, 108, 97, 105, 110], ([([97], [98, 32, 99])] : List (List UInt8 × List UInt8)))).bind fun (s1, (n2, n3)) => (media_Parse [84, 101, 120, 116, 47, 112, 108, 97, 105, 110, 59, 65, 42, 48, 61, 98, 59, 32, 97, 42, 49, 42, 61, 37, 50, 48, 99]).bind fun ((s5, s6, l7), (n8, n9)) => (media_Param (s5, s6, l7) [97]).bind fun (s11, b12, (n13, n14)) => ((if n2 = (0 : Int) then (if n8 = (0 : Int) then (if n13 = (0 : Int) then (if s1 = [116, 101, 120, 116, 47, 112, 108, 97, 105, 110, 59, 32, 97, 61, 34, 98, 32, 99, 34] then (if s5 = [84, 101, 120, 116] then (if (l7.length : Int) = (1 : Int) then (idx l7 0).bind fun a25 => (if a25.1 = [65] ∧ a25.2 = [98, 32, 99] then (if b12 = true then some (decide (s11 = [98, 32, 99])) else some false) else some false) else some false) else some false) else some false) else some false) else some false) else some false)).bind fun b18 => some b18
def R_In (p0 : Int) (p1 : Int) (p2 : Int) : Option Bool :=
  ((if p1 ≤ p0 then some (decide (p0 ≤ p2)) else some false)).bind fun b3 => some b3
def R_OneOf_L1 (p0 : UInt8) (p1 : List UInt8) : Nat → Int → Option (Unit ⊕ Bool)
  | 0, _ => none
  | m4 + 1, n3 => (if n3 < (p1.length : Int) then (idx p1 n3).bind fun c6 => (if c6 = p0 then some (.inr true) else (chk (n3 + 1)).bind fun n8 => R_OneOf_L1 p0 p1 m4 n8) else some (.inl ()))
def R_OneOf (p0 : UInt8) (p1 : List UInt8) : Option Bool :=
  ((R_OneOf_L1 p0 p1 FU 0 : Option (Unit ⊕ Bool))).bind fun o11 => (match o11 with | .inl _ => some false | .inr r10 => some r10)
def R_TokenByte (p0 : UInt8) : Option Bool :=
  ((R_In (p0.toNat : Int) 33 126).bind fun b4 => (if b4 = true then (R_OneOf p0 [40, 41, 60, 62, 64, 44, 59, 58, 92, 34, 47, 91, 93, 63, 61, 42, 37, 39]).bind fun b6 => some (!b6) else some false)).bind fun b3 => some b3
def R_TokenText_L1 (p0 : List UInt8) : Nat → Int → Option (Unit ⊕ Bool)
  | 0, _ => none
  | m4 + 1, n3 => (if n3 < (p0.length : Int) then (idx p0 n3).bind fun c6 => (R_TokenByte c6).bind fun b7 => (if b7 = true then (chk (n3 + 1)).bind fun n10 => R_TokenText_L1 p0 m4 n10 else some (.inr false)) else some (.inl ()))
def R_TokenText (p0 : List UInt8) : Option Bool :=
  ((R_TokenText_L1 p0 FU 0 : Option (Unit ⊕ Bool))).bind fun o15 => (match o15 with | .inl _ => (R_In (p0.length : Int) 1 60).bind fun b12 => some b12 | .inr r14 => some r14)
def R_At (p0 : Int) (p1 : Int) : Option (Int × Int) :=
  some (p0, p1)
def R_MediaFault_L2 (p0 : (List UInt8 × List UInt8 × List (List UInt8 × List UInt8))) (n23 : Int) (a26 : (List UInt8 × List UInt8)) : Nat → Int → Int → Int → Option ((Int × Int) ⊕ (Int × Int))
  | 0, _, _, _ => none
  | m44 + 1, n41, n42, n43 => (if n43 < n23 then (idx p0.2.2 n43).bind fun a46 => (R_Alike a46.1 a26.1).bind fun b47 => (if b47 = true then (R_At 7 n23).bind fun (n50, n51) => some (.inr (n50, n51)) else (chk (n43 + 1)).bind fun n53 => R_MediaFault_L2 p0 n23 a26 m44 n41 n42 n53) else some (.inl (n41, n42)))
def R_MediaFault_L1 (p0 : (List UInt8 × List UInt8 × List (List UInt8 × List UInt8))) : Nat → Int → Int → Int → Option ((Int × Int) ⊕ (Int × Int))
  | 0, _, _, _ => none
  | m24 + 1, n21, n22, n23 => (if n23 < (p0.2.2.length : Int) then (idx p0.2.2 n23).bind fun a26 => ((R_TokenText a26.1).bind fun b30 => (if b30 = true then some (decide ((20 : Int) < (a26.1.length : Int))) else some true)).bind fun b29 => (if b29 = true then (R_At 10 n23).bind fun (n34, n35) => some (.inr (n34, n35)) else ((R_MediaFault_L2 p0 n23 a26 FU n21 n22 0 : Option ((Int × Int) ⊕ (Int × Int)))).bind fun o67 => (match o67 with | .inl (n39, n40) => (if (500 : Int) < (a26.2.length : Int) then (R_At 1 n23).bind fun (n56, n57) => some (.inr (n56, n57)) else (R_Valid a26.2).bind fun b59 => (if b59 = true then (chk (n23 + 1)).bind fun n65 => R_MediaFault_L1 p0 m24 n39 n40 n65 else (R_At 5 n23).bind fun (n62, n63) => some (.inr (n62, n63)))) | .inr r66 => some (.inr r66))) else some (.inl (n21, n22)))
def R_MediaFault (p0 : (List UInt8 × List UInt8 × List (List UInt8 × List UInt8))) : Option (Int × Int) :=
  ((R_TokenText p0.1).bind fun b4 => (if b4 = true then (R_TokenText p0.2.1).bind fun b6 => some (!b6) else some true)).bind fun b3 => (if b3 = true then (R_At 10 (-2)).bind fun (n10, n11) => some (n10, n11) else (if (60 : Int) < (p0.2.2.length : Int) then (R_At 2 (-3)).bind fun (n14, n15) => some (n14, n15) else ((R_MediaFault_L1 p0 FU 0 0 0 : Option ((Int × Int) ⊕ (Int × Int)))).bind fun o70 => (match o70 with | .inl (n19, n20) => some (0, 0) | .inr r69 => some r69)))
def R_decimal_B (self : Int → Option (List UInt8)) (p0 : Int) : Option (List UInt8) :=
  (if p0 < (10 : Int) then (cut [48, 49, 50, 51, 52, 53, 54, 55, 56, 57] p0 (IntKind.u64.wrap (p0 + 1))).bind fun s2 => some s2 else (self (IntKind.u64.wrap (Int.tdiv p0 10))).bind fun s3 => (cut [48, 49, 50, 51, 52, 53, 54, 55, 56, 57] (Int.tmod p0 10) (IntKind.u64.wrap ((Int.tmod p0 10) + 1))).bind fun s5 => (cat s3 s5).bind fun s6 => some s6)
def R_decimal_R : Nat → Int → Option (List UInt8)
  | 0, _ => none
  | m + 1, p0 => R_decimal_B (R_decimal_R m) p0
def R_decimal (p0 : Int) : Option (List UInt8) := R_decimal_R FU p0
def R_Number (p0 : Int) : Option (List UInt8) :=
  (if p0 < (0 : Int) then (chk (p0 + 1)).bind fun n2 => (chk (-n2)).bind fun n3 => (R_decimal (IntKind.u64.wrap ((IntKind.u64.wrap n3) + 1))).bind fun s4 => (cat [45] s4).bind fun s6 => some s6 else (R_decimal (IntKind.u64.wrap p0)).bind fun s7 => some s7)
def R_SameMedia_L1 (p0 : (List UInt8 × List UInt8 × List (List UInt8 × List UInt8))) (p1 : (List UInt8 × List UInt8 × List (List UInt8 × List UInt8))) : Nat → Int → Option (Unit ⊕ Bool)
  | 0, _ => none
  | m11 + 1, n10 => (if n10 < (p0.2.2.length : Int) then (idx p0.2.2 n10).bind fun a13 => (idx p1.2.2 n10).bind fun a14 => (if a13.1 = a14.1 ∧ a13.2 = a14.2 then (chk (n10 + 1)).bind fun n16 => R_SameMedia_L1 p0 p1 m11 n16 else some (.inr false)) else some (.inl ()))
def R_SameMedia (p0 : (List UInt8 × List UInt8 × List (List UInt8 × List UInt8))) (p1 : (List UInt8 × List UInt8 × List (List UInt8 × List UInt8))) : Option Bool :=
  ((if p0.1 = p1.1 then (if p0.2.1 = p1.2.1 then some (!decide ((p0.2.2.length : Int) = (p1.2.2.length : Int))) else some true) else some true)).bind fun b3 => (if b3 = true then some false else ((R_SameMedia_L1 p0 p1 FU 0 : Option (Unit ⊕ Bool))).bind fun o19 => (match o19 with | .inl _ => some true | .inr r18 => some r18))
def R_Blank (p0 : UInt8) : Option Bool :=
  ((if p0 = 32 then some true else some (decide (p0 = 9)))).bind fun b3 => some b3
def R_skip_L1 (p0 : List UInt8) : Nat → Int → Option Int
  | 0, _ => none
  | m5 + 1, n4 => ((if n4 < (p0.length : Int) then (idx p0 n4).bind fun c10 => (R_Blank c10).bind fun b11 => some b11 else some false)).bind fun b8 => (if b8 = true then (chk (n4 + 1)).bind fun n15 => R_skip_L1 p0 m5 n15 else some n4)
def R_skip (p0 : List UInt8) (p1 : Int) : Option Int :=
  (R_skip_L1 p0 FU p1).bind fun n3 => some n3
def R_run_L1 (p0 : List UInt8) (p2 : List UInt8) : Nat → Int → Option Int
  | 0, _ => none
  | m5 + 1, n4 => ((if n4 < (p0.length : Int) then (idx p0 n4).bind fun c10 => (R_TokenByte c10).bind fun b11 => (if b11 = true then some true else (idx p0 n4).bind fun c13 => (R_OneOf c13 p2).bind fun b14 => some b14) else some false)).bind fun b8 => (if b8 = true then (chk (n4 + 1)).bind fun n18 => R_run_L1 p0 p2 m5 n18 else some n4)
def R_run (p0 : List UInt8) (p1 : Int) (p2 : List UInt8) : Option Int :=
  (R_run_L1 p0 p2 FU p1).bind fun n3 => some n3
def R_Find_L1 (p0 : List UInt8) (p1 : List UInt8) : Nat → Int → Option (Unit ⊕ Int)
  | 0, _ => none
  | m4 + 1, n3 => (chk (n3 + (p1.length : Int))).bind fun n5 => (if n5 ≤ (p0.length : Int) then (chk (n3 + (p1.length : Int))).bind fun n7 => (cut p0 n3 n7).bind fun s8 => (if s8 = p1 then some (.inr n3) else (chk (n3 + 1)).bind fun n10 => R_Find_L1 p0 p1 m4 n10) else some (.inl ()))
def R_Find (p0 : List UInt8) (p1 : List UInt8) (p2 : Int) : Option Int :=
  ((R_Find_L1 p0 p1 FU p2 : Option (Unit ⊕ Int))).bind fun o13 => (match o13 with | .inl _ => some (-1) | .inr r12 => some r12)
def R_digitsOf_L1 (p0 : List UInt8) : Nat → Int → Int → Option (Int ⊕ Int)
  | 0, _, _ => none
  | m6 + 1, n4, n5 => (if n5 < (p0.length : Int) then ((idx p0 n5).bind fun c11 => (R_In (c11.toNat : Int) 48 57).bind fun b12 => (if b12 = true then some (decide ((9 : Int) ≤ n5)) else some true)).bind fun b10 => (if b10 = true then some (.inr (-1)) else (chk ((10 : Int) * n4)).bind fun n16 => (idx p0 n5).bind fun c17 => (chk (n16 + ((c17 - (48 : UInt8)).toNat : Int))).bind fun n18 => (chk (n5 + 1)).bind fun n19 => R_digitsOf_L1 p0 m6 n18 n19) else some (.inl n4))
def R_digitsOf (p0 : List UInt8) (p1 : Int) (p2 : Int) : Option Int :=
  ((R_digitsOf_L1 p0 FU 0 0 : Option (Int ⊕ Int))).bind fun o25 => (match o25 with | .inl n3 => (R_In (p0.length : Int) p1 p2).bind fun b21 => (if b21 = true then some n3 else some (-1)) | .inr r24 => some r24)
def R_pieceOf (p0 : List UInt8) (p1 : List UInt8) : Option ((List UInt8 × List UInt8 × Int × Bool) × Bool) :=
  (R_Find p0 [42] 0).bind fun n1 => (if n1 < (0 : Int) then some ((p0, p1, (-1), false), !decide (p0 = [])) else (chk (n1 + 1)).bind fun n4 => (cut p0 n4 (p0.length : Int)).bind fun s5 => (cut p0 0 n1).bind fun s6 => ((if (0 : Int) < (s5.length : Int) then (chk ((s5.length : Int) - 1)).bind fun n11 => (idx s5 n11).bind fun c12 => some (decide (c12 = 42)) else some false)).bind fun b9 => ((if b9 = true then (chk ((s5.length : Int) - 1)).bind fun n22 => (cut s5 0 n22).bind fun s23 => some (s23, s6, p1, (-1), true) else some (s5, s6, p1, (-1), false))).bind fun (s16, s17, s18, n19, b20) => (R_digitsOf s16 1 9).bind fun n25 => ((if s17 = [] then some (s17, s18, n25, b20, false) else (if (0 : Int) ≤ n25 then (R_Number n25).bind fun s36 => some (s17, s18, n25, b20, decide (s36 = s16)) else some (s17, s18, n25, b20, false)))).bind fun (s29, s30, n31, b32, b33) => some ((s29, s30, n31, b32), b33))
def R_Hex_L1 (p0 : UInt8) : Nat → Int → Option (Unit ⊕ Int)
  | 0, _ => none
  | m4 + 1, n3 => (if n3 < (16 : Int) then ((idx [48, 49, 50, 51, 52, 53, 54, 55, 56, 57, 65, 66, 67, 68, 69, 70] n3).bind fun c9 => (if c9 = p0 then some true else (R_Lower [48, 49, 50, 51, 52, 53, 54, 55, 56, 57, 65, 66, 67, 68, 69, 70]).bind fun s11 => (idx s11 n3).bind fun c13 => some (decide (c13 = p0)))).bind fun b8 => (if b8 = true then some (.inr n3) else (chk (n3 + 1)).bind fun n16 => R_Hex_L1 p0 m4 n16) else some (.inl ()))
def R_Hex (p0 : UInt8) : Option Int :=
  ((R_Hex_L1 p0 FU 0 : Option (Unit ⊕ Int))).bind fun o19 => (match o19 with | .inl _ => some (-1) | .inr r18 => some r18)
def R_unpercent_L1 (p0 : List UInt8) : Nat → List UInt8 → Int → Option (List UInt8)
  | 0, _, _ => none
  | m6 + 1, s4, n5 => (if n5 < (p0.length : Int) then ((idx p0 n5).bind fun c11 => (if c11 = 37 then (chk (n5 + 2)).bind fun n13 => (if n13 < (p0.length : Int) then (chk (n5 + 1)).bind fun n15 => (idx p0 n15).bind fun c16 => (R_Hex c16).bind fun n17 => (if (0 : Int) ≤ n17 then (chk (n5 + 2)).bind fun n20 => (idx p0 n20).bind fun c21 => (R_Hex c21).bind fun n22 => some (decide ((0 : Int) ≤ n22)) else some false) else some false) else some false)).bind fun b10 => (if b10 = true then (chk (n5 + 1)).bind fun n26 => (idx p0 n26).bind fun c27 => (R_Hex c27).bind fun n28 => (chk ((16 : Int) * n28)).bind fun n30 => (chk (n5 + 2)).bind fun n31 => (idx p0 n31).bind fun c32 => (R_Hex c32).bind fun n33 => (chk (n30 + n33)).bind fun n35 => (cat s4 ([(ub8 n35)] : List UInt8)).bind fun s36 => (chk (n5 + 2)).bind fun n37 => (chk (n37 + 1)).bind fun n38 => R_unpercent_L1 p0 m6 s36 n38 else (chk (n5 + 1)).bind fun n39 => (cut p0 n5 n39).bind fun s40 => (cat s4 s40).bind fun s41 => (chk (n5 + 1)).bind fun n42 => R_unpercent_L1 p0 m6 s41 n42) else some s4)
def R_unpercent (p0 : List UInt8) : Option (List UInt8) :=
  (R_unpercent_L1 p0 FU [] 0).bind fun s3 => some s3
def R_repaired_L1 (p0 : List UInt8) : Nat → List UInt8 → Bool → Int → Option (List UInt8)
  | 0, _, _, _ => none
  | m7 + 1, s4, b5, n6 => (if n6 < (p0.length : Int) then (R_Rune p0 n6).bind fun (n9, n10) => ((if (0 : Int) ≤ n9 then (chk (n6 + n10)).bind fun n16 => (cut p0 n6 n16).bind fun s17 => (cat s4 s17).bind fun s18 => some s18 else (if b5 = true then some s4 else (R_Utf8 (-1)).bind fun s20 => (cat s4 s20).bind fun s22 => some s22))).bind fun s14 => (chk (n6 + n10)).bind fun n24 => R_repaired_L1 p0 m7 s14 (decide (n9 < (0 : Int))) n24 else some s4)
def R_repaired (p0 : List UInt8) : Option (List UInt8) :=
  (R_repaired_L1 p0 FU [] false 0).bind fun s3 => some s3
def R_MediaRead_L2 (p0 : List UInt8) : Nat → Int → List UInt8 → Option (Int × List UInt8)
  | 0, _, _ => none
  | m90 + 1, n88, s89 => ((if n88 < (p0.length : Int) then (idx p0 n88).bind fun c95 => some (!decide (c95 = 34)) else some false)).bind fun b93 => (if b93 = true then ((idx p0 n88).bind fun c101 => (if c101 = 92 then (chk (n88 + 1)).bind fun n103 => some (decide (n103 < (p0.length : Int))) else some false)).bind fun b100 => ((if b100 = true then (chk (n88 + 1)).bind fun n109 => some n109 else some n88)).bind fun n107 => (chk (n107 + 1)).bind fun n111 => (cut p0 n107 n111).bind fun s112 => (cat s89 s112).bind fun s113 => (chk (n107 + 1)).bind fun n114 => R_MediaRead_L2 p0 m90 n114 s113 else some (n88, s89))
def R_MediaRead_L1 (p0 : List UInt8) : Nat → List UInt8 → List UInt8 → List (List UInt8 × List UInt8) → Int → List (List UInt8 × List UInt8 × Int × Bool) → Option ((List UInt8 × List UInt8 × List (List UInt8 × List UInt8) × List (List UInt8 × List UInt8 × Int × Bool)) ⊕ ((List UInt8 × List UInt8 × List (List UInt8 × List UInt8)) × Bool))
  | 0, _, _, _, _, _ => none
  | m44 + 1, s35, s36, l37, n40, l42 => (if n40 < (p0.length : Int) then (idx p0 n40).bind fun c47 => (if c47 = 59 then (chk (n40 + 1)).bind fun n49 => (R_skip p0 n49).bind fun n50 => (R_run p0 n50 [42]).bind fun n52 => (cut p0 n50 n52).bind fun s54 => (R_skip p0 n52).bind fun n55 => ((if n55 = (p0.length : Int) then some true else (idx p0 n55).bind fun c61 => some (!decide (c61 = 61)))).bind fun b59 => (if b59 = true then some (.inr (([], [], []), false)) else (chk (n55 + 1)).bind fun n64 => (R_skip p0 n64).bind fun n65 => ((if n65 < (p0.length : Int) then (idx p0 n65).bind fun c71 => some (decide (c71 = 34)) else some false)).bind fun b69 => (((if b69 = true then (chk (n65 + 1)).bind fun n83 => (R_MediaRead_L2 p0 FU n83 []).bind fun (n86, s87) => (if n86 = (p0.length : Int) then some (.inr (([], [], []), false)) else (chk (n86 + 1)).bind fun n117 => some (.inl (s35, s36, l37, n117, s87))) else (R_run p0 n65 [37, 39, 42]).bind fun n118 => (cut p0 n65 n118).bind fun s120 => some (.inl (s35, s36, l37, n118, s120))) : Option ((List UInt8 × List UInt8 × List (List UInt8 × List UInt8) × Int × List UInt8) ⊕ ((List UInt8 × List UInt8 × List (List UInt8 × List UInt8)) × Bool)))).bind fun o133 => (match o133 with | .inl (s75, s76, l77, n80, s81) => (R_pieceOf s54 s81).bind fun ((s122, s123, n124, b125), b126) => (if b126 = true then (app 48 l42 ([(s122, s123, n124, b125)] : List (List UInt8 × List UInt8 × Int × Bool))).bind fun l129 => (R_skip p0 n80).bind fun n130 => R_MediaRead_L1 p0 m44 s75 s76 l77 n130 l129 else some (.inr (([], [], []), false))) | .inr r132 => some (.inr r132))) else some (.inr (([], [], []), false))) else some (.inl (s35, s36, l37, l42)))
def R_MediaRead_L4 (l33 : List (List UInt8 × List UInt8 × Int × Bool)) (n157 : Int) : Nat → Bool → Int → Option Bool
  | 0, _, _ => none
  | m166 + 1, b164, n165 => (if n165 < n157 then ((if b164 = true then some true else (idx l33 n157).bind fun a171 => (idx l33 n165).bind fun a172 => (R_Alike a171.1 a172.1).bind fun b173 => some b173)).bind fun b170 => (chk (n165 + 1)).bind fun n176 => R_MediaRead_L4 l33 n157 m166 b170 n176 else some b164)
def R_MediaRead_L5 (l33 : List (List UInt8 × List UInt8 × Int × Bool)) (n157 : Int) : Nat → Int → Int → Option Int
  | 0, _, _ => none
  | m183 + 1, n181, n182 => (if n182 < (l33.length : Int) then (idx l33 n157).bind fun a185 => (idx l33 n182).bind fun a186 => (R_Alike a185.1 a186.1).bind fun b187 => (if b187 = true then (chk (n181 + 1)).bind fun n190 => (chk (n182 + 1)).bind fun n191 => R_MediaRead_L5 l33 n157 m183 n190 n191 else (chk (n182 + 1)).bind fun n192 => R_MediaRead_L5 l33 n157 m183 n181 n192) else some n181)
def R_MediaRead_L7 (l33 : List (List UInt8 × List UInt8 × Int × Bool)) (n157 : Int) (n218 : Int) : Nat → Int → Int → Option Int
  | 0, _, _ => none
  | m226 + 1, n224, n225 => (if n225 < (l33.length : Int) then ((idx l33 n157).bind fun a231 => (idx l33 n225).bind fun a232 => (R_Alike a231.1 a232.1).bind fun b233 => (if b233 = true then (idx l33 n225).bind fun a235 => some (decide (a235.2.2.1 = n218)) else some false)).bind fun b230 => (if b230 = true then (chk (n225 + 1)).bind fun n238 => R_MediaRead_L7 l33 n157 n218 m226 n225 n238 else (chk (n225 + 1)).bind fun n239 => R_MediaRead_L7 l33 n157 n218 m226 n224 n239) else some n224)
def R_MediaRead_L6 (l33 : List (List UInt8 × List UInt8 × Int × Bool)) (n157 : Int) (n180 : Int) : Nat → List UInt8 → List UInt8 → List (List UInt8 × List UInt8) → List UInt8 → Int → Option ((List UInt8 × List UInt8 × List (List UInt8 × List UInt8) × List UInt8) ⊕ ((List UInt8 × List UInt8 × List (List UInt8 × List UInt8)) × Bool))
  | 0, _, _, _, _, _ => none
  | m219 + 1, s212, s213, l214, s217, n218 => (if n218 < n180 then (R_MediaRead_L7 l33 n157 n218 FU (-1) 0).bind fun n223 => (if n223 < (0 : Int) then some (.inr (([], [], []), false)) else (idx l33 n223).bind fun a242 => (idx l33 n223).bind fun a243 => ((if a243.2.2.2 = true then ((if n218 = (0 : Int) then (if (6 : Int) ≤ (a242.2.1.length : Int) then (cut a242.2.1 0 6).bind fun s253 => (R_Lower s253).bind fun s254 => some (decide (s254 = [117, 116, 102, 56, 39, 39])) else some false) else some false)).bind fun b250 => ((if b250 = true then (cut a242.2.1 6 (a242.2.1.length : Int)).bind fun s261 => some s261 else some a242.2.1)).bind fun s259 => (R_unpercent s259).bind fun s263 => some s263 else some a242.2.1)).bind fun s246 => (cat s217 s246).bind fun s266 => (chk (n218 + 1)).bind fun n267 => R_MediaRead_L6 l33 n157 n180 m219 s212 s213 l214 s266 n267) else some (.inl (s212, s213, l214, s217)))
def R_MediaRead_L3 (l33 : List (List UInt8 × List UInt8 × Int × Bool)) : Nat → List UInt8 → List UInt8 → List (List UInt8 × List UInt8) → List UInt8 → List UInt8 → List (List UInt8 × List UInt8) → Int → Option ((List UInt8 × List UInt8 × List (List UInt8 × List UInt8) × List UInt8 × List UInt8 × List (List UInt8 × List UInt8)) ⊕ ((List UInt8 × List UInt8 × List (List UInt8 × List UInt8)) × Bool))
  | 0, _, _, _, _, _, _, _ => none
  | m158 + 1, s147, s148, l149, s152, s153, l155, n157 => (if n157 < (l33.length : Int) then (R_MediaRead_L4 l33 n157 FU false 0).bind fun b163 => (R_MediaRead_L5 l33 n157 FU 0 0).bind fun n180 => (if b163 = true then (chk (n157 + 1)).bind fun n195 => R_MediaRead_L3 l33 m158 s147 s148 l149 s152 s153 l155 n195 else (idx l33 n157).bind fun a196 => (if a196.2.2.1 < (0 : Int) then (if n180 = (1 : Int) then (idx l33 n157).bind fun a199 => (idx l33 n157).bind fun a200 => (app 32 l155 ([(a199.1, a200.2.1)] : List (List UInt8 × List UInt8))).bind fun l201 => (chk (n157 + 1)).bind fun n203 => R_MediaRead_L3 l33 m158 s147 s148 l149 s152 s153 l201 n203 else some (.inr (([], [], []), false))) else ((R_MediaRead_L6 l33 n157 n180 FU s147 s148 l149 [] 0 : Option ((List UInt8 × List UInt8 × List (List UInt8 × List UInt8) × List UInt8) ⊕ ((List UInt8 × List UInt8 × List (List UInt8 × List UInt8)) × Bool)))).bind fun o276 => (match o276 with | .inl (s206, s207, l208, s211) => (idx l33 n157).bind fun a269 => (R_repaired s211).bind fun s270 => (app 32 l155 ([(a269.1, s270)] : List (List UInt8 × List UInt8))).bind fun l272 => (chk (n157 + 1)).bind fun n274 => R_MediaRead_L3 l33 m158 s206 s207 l208 s152 s153 l272 n274 | .inr r275 => some (.inr r275)))) else some (.inl (s147, s148, l149, s152, s153, l155)))
def R_MediaRead (p0 : List UInt8) : Option ((List UInt8 × List UInt8 × List (List UInt8 × List UInt8)) × Bool) :=
  (R_skip p0 0).bind fun n1 => (R_run p0 n1 []).bind fun n3 => (cut p0 n1 n3).bind fun s5 => (R_skip p0 n3).bind fun n6 => ((if s5 = [] then some true else (if n6 = (p0.length : Int) then some true else (idx p0 n6).bind fun c13 => some (!decide (c13 = 47))))).bind fun b10 => (if b10 = true then some (([], [], []), false) else (chk (n6 + 1)).bind fun n16 => (R_skip p0 n16).bind fun n17 => (R_run p0 n17 []).bind fun n19 => (cut p0 n17 n19).bind fun s21 => (if s21 = [] then some (([], [], []), false) else (R_skip p0 n19).bind fun n23 => ((R_MediaRead_L1 p0 FU [] [] [] n23 [] : Option ((List UInt8 × List UInt8 × List (List UInt8 × List UInt8) × List (List UInt8 × List UInt8 × Int × Bool)) ⊕ ((List UInt8 × List UInt8 × List (List UInt8 × List UInt8)) × Bool)))).bind fun o282 => (match o282 with | .inl (s27, s28, l29, l33) => ((R_MediaRead_L3 l33 FU s27 s28 l29 s5 s21 [] 0 : Option ((List UInt8 × List UInt8 × List (List UInt8 × List UInt8) × List UInt8 × List UInt8 × List (List UInt8 × List UInt8)) ⊕ ((List UInt8 × List UInt8 × List (List UInt8 × List UInt8)) × Bool)))).bind fun o280 => (match o280 with | .inl (s137, s138, l139, s142, s143, l145) => some ((s142, s143, l145), true) | .inr r279 => some r279) | .inr r281 => some r281)))
def L_MediaParseMatchesSpec (p0 : List UInt8) : Option Bool :=
  (L_mediaExample).bind fun b1 => (if b1 = true then (media_Parse p0).bind fun ((s4, s5, l6), (n7, n8)) => (if (4000 : Int) < (p0.length : Int) then ((R_At 1 (-1)).bind fun (n14, n15) => (if n7 = n14 ∧ n8 = n15 then (R_SameMedia (s4, s5, l6) ([], [], ([] : List (List UInt8 × List UInt8)))).bind fun b18 => some b18 else some false)).bind fun b13 => some b13 else (R_MediaRead p0).bind fun ((s21, s22, l23), b24) => (if b24 = true then (R_MediaFault (s21, s22, l23)).bind fun (n37, n38) => (if n37 = (0 : Int) then ((if n7 = (0 : Int) then (R_SameMedia (s4, s5, l6) (s21, s22, l23)).bind fun b55 => some b55 else some false)).bind fun b53 => some b53 else ((R_At n37 (-6)).bind fun (n44, n45) => (if n7 = n44 ∧ n8 = n45 then (R_SameMedia (s4, s5, l6) ([], [], ([] : List (List UInt8 × List UInt8)))).bind fun b48 => some b48 else some false)).bind fun b43 => some b43) else ((R_At 11 (-5)).bind fun (n30, n31) => (if n7 = n30 ∧ n8 = n31 then (R_SameMedia (s4, s5, l6) ([], [], ([] : List (List UInt8 × List UInt8)))).bind fun b34 => some b34 else some false)).bind fun b29 => some b29)) else some false)
end Go.Ph.Pf
end
section
namespace Go.Proofs.YtegkhjbajijidaaGreatDoor
open Go Go.RowKit Go.Ph Go.Ph.Pl Go.Ph.Pf
abbrev xenc85 (x : (List UInt8 × Int × Bool × List UInt8)) : List Value := [S x.1, I x.2.1, Value.bool x.2.2.1, S x.2.2.2]
abbrev xenc47 (x : (List UInt8 × List UInt8)) : List Value := [S x.1, S x.2]
abbrev xenc58 (x : (List UInt8 × List UInt8 × Int × Bool)) : List Value := [S x.1, S x.2.1, I x.2.2.1, Value.bool x.2.2.2]
theorem xty93 : ElemTy Tryz.prog 93 5 (.int .u8 0) 1 1 := ElemTy.mk' Tryz.underlying93 (by kernel_rfl) rfl (by decide)
theorem xty75 : ElemTy Tryz.prog 75 9 (.string ⟨#[]⟩) 1 16 := ElemTy.mk' Tryz.underlying75 (by kernel_rfl) rfl (by decide)
theorem xone1_5 : (Tryz.prog.info? 5).map (·.size) = some 1 := by kernel_rfl
theorem xplaces47 : ∀ {fs : Array Field}, Tryz.prog.underlying 47 = some (.struct fs) → ∀ w, (fs.mapM fun f => do pure (f.offset, ← sizeOf f.type) : Sem (Array (Nat × Nat))).run Tryz.prog w = .ok #[(0, 1), (1, 1)] w := by
  intro fs h w
  rw [Tryz.underlying47] at h
  cases h
  simp
theorem xty22 : ElemTy Tryz.prog 22 47 (.agg #[.string ⟨#[]⟩, .string ⟨#[]⟩]) 2 32 := ElemTy.mk' Tryz.underlying22 (by kernel_rfl) rfl (by decide)
theorem xplaces24 : ∀ {fs : Array Field}, Tryz.prog.underlying 24 = some (.struct fs) → ∀ w, (fs.mapM fun f => do pure (f.offset, ← sizeOf f.type) : Sem (Array (Nat × Nat))).run Tryz.prog w = .ok #[(0, 1), (1, 1), (2, 1)] w := by
  intro fs h w
  rw [Tryz.underlying24] at h
  cases h
  simp
def FnT62 (M : Mem) (v : Value) (g : (UInt8 → Option Bool)) : Prop := ∀ (a0 : UInt8) (r : Bool), g a0 = some r → FnV Tryz.prog M v [encB a0] (fun v M => v = Value.bool r)
theorem FnT62.mono {M M' : Mem} {v : Value} {g : (UInt8 → Option Bool)} (h : FnT62 M v g) (hl : M.le M') : FnT62 M' v g := fun a0 r hr => (h a0 r hr).mono hl
theorem xplaces27 : ∀ {fs : Array Field}, Tryz.prog.underlying 27 = some (.struct fs) → ∀ w, (fs.mapM fun f => do pure (f.offset, ← sizeOf f.type) : Sem (Array (Nat × Nat))).run Tryz.prog w = .ok #[(0, 1), (1, 1)] w := by
  intro fs h w
  rw [Tryz.underlying27] at h
  cases h
  simp
def FnT50 (M : Mem) (v : Value) (g : ((List UInt8 × List UInt8) → Option Bool)) : Prop := ∀ (a0 : (List UInt8 × List UInt8)) (r : Bool), g a0 = some r → FnV Tryz.prog M v [Value.agg #[S a0.1, S a0.2]] (fun v M => v = Value.bool r)
theorem FnT50.mono {M M' : Mem} {v : Value} {g : ((List UInt8 × List UInt8) → Option Bool)} (h : FnT50 M v g) (hl : M.le M') : FnT50 M' v g := fun a0 r hr => (h a0 r hr).mono hl
theorem xplaces81 : ∀ {fs : Array Field}, Tryz.prog.underlying 81 = some (.struct fs) → ∀ w, (fs.mapM fun f => do pure (f.offset, ← sizeOf f.type) : Sem (Array (Nat × Nat))).run Tryz.prog w = .ok #[(0, 1)] w := by
  intro fs h w
  rw [Tryz.underlying81] at h
  cases h
  simp
theorem xplaces85 : ∀ {fs : Array Field}, Tryz.prog.underlying 85 = some (.struct fs) → ∀ w, (fs.mapM fun f => do pure (f.offset, ← sizeOf f.type) : Sem (Array (Nat × Nat))).run Tryz.prog w = .ok #[(0, 1), (1, 1), (2, 1), (3, 1)] w := by
  intro fs h w
  rw [Tryz.underlying85] at h
  cases h
  simp
theorem xty83 : ElemTy Tryz.prog 83 85 (.agg #[.string ⟨#[]⟩, .int .i64 0, .bool false, .string ⟨#[]⟩]) 4 48 := ElemTy.mk' Tryz.underlying83 (by kernel_rfl) rfl (by decide)
theorem xone85 : ∀ (a : (List UInt8 × Int × Bool × List UInt8)), ∀ u ∈ xenc85 a, u.oneCell' = true := by
  intro a u hu
  simp only [xenc85, List.mem_cons, List.not_mem_nil, or_false] at hu
  rcases hu with rfl | rfl | rfl | rfl <;> rfl
def FnT123 (M : Mem) (v : Value) (g : ((List UInt8 × Int × Bool × List UInt8) → Option Bool)) : Prop := ∀ (a0 : (List UInt8 × Int × Bool × List UInt8)) (r : Bool), g a0 = some r → FnV Tryz.prog M v [Value.agg #[S a0.1, I a0.2.1, Value.bool a0.2.2.1, S a0.2.2.2]] (fun v M => v = Value.bool r)
theorem FnT123.mono {M M' : Mem} {v : Value} {g : ((List UInt8 × Int × Bool × List UInt8) → Option Bool)} (h : FnT123 M v g) (hl : M.le M') : FnT123 M' v g := fun a0 r hr => (h a0 r hr).mono hl
theorem xone47 : ∀ (a : (List UInt8 × List UInt8)), ∀ u ∈ xenc47 a, u.oneCell' = true := by
  intro a u hu
  simp only [xenc47, List.mem_cons, List.not_mem_nil, or_false] at hu
  rcases hu with rfl | rfl <;> rfl
theorem xeq47 (a0 b0 : List UInt8) (a1 b1 : List UInt8) (w : World) : (Op.equalIn 10000 47 (.agg #[S a0, S a1]) (.agg #[S b0, S b1])).run Tryz.prog w = .ok (decide (a0 = b0 ∧ a1 = b1)) w := by
  rw [run_equalIn_struct w 9999 47 _ _ (by rw [Program.fieldsOf, Tryz.underlying47]) (by kernel_rfl)]
  rw [Program.fieldsOf, Tryz.underlying47]
  by_cases h0 : a0 = b0
  rotate_left
  · simp [Op.eqFields, part, h0, Tryz.isAgg9, run_equalIn_string _ _ _ _ _ Tryz.underlying9]
  by_cases h1 : a1 = b1
  rotate_left
  · simp [Op.eqFields, part, h0, h1, Tryz.isAgg9, run_equalIn_string _ _ _ _ _ Tryz.underlying9]
  simp [Op.eqFields, part, h0, h1, Tryz.isAgg9, run_equalIn_string _ _ _ _ _ Tryz.underlying9]
theorem xeq27 (a0 b0 : Int) (a1 b1 : Int) (w : World) : (Op.equalIn 10000 27 (.agg #[.int .i64 a0, .int .i64 a1]) (.agg #[.int .i64 b0, .int .i64 b1])).run Tryz.prog w = .ok (decide (a0 = b0 ∧ a1 = b1)) w := by
  rw [run_equalIn_struct w 9999 27 _ _ (by rw [Program.fieldsOf, Tryz.underlying27]) (by kernel_rfl)]
  rw [Program.fieldsOf, Tryz.underlying27]
  by_cases h0 : a0 = b0
  rotate_left
  · simp [Op.eqFields, part, h0, Tryz.isAgg3, run_equalIn_int _ _ _ _ _ _ _ Tryz.underlying3]
  by_cases h1 : a1 = b1
  rotate_left
  · simp [Op.eqFields, part, h0, h1, Tryz.isAgg3, run_equalIn_int _ _ _ _ _ _ _ Tryz.underlying3]
  simp [Op.eqFields, part, h0, h1, Tryz.isAgg3, run_equalIn_int _ _ _ _ _ _ _ Tryz.underlying3]
theorem xplaces58 : ∀ {fs : Array Field}, Tryz.prog.underlying 58 = some (.struct fs) → ∀ w, (fs.mapM fun f => do pure (f.offset, ← sizeOf f.type) : Sem (Array (Nat × Nat))).run Tryz.prog w = .ok #[(0, 1), (1, 1), (2, 1), (3, 1)] w := by
  intro fs h w
  rw [Tryz.underlying58] at h
  cases h
  simp
theorem xty56 : ElemTy Tryz.prog 56 58 (.agg #[.string ⟨#[]⟩, .string ⟨#[]⟩, .int .i64 0, .bool false]) 4 48 := ElemTy.mk' Tryz.underlying56 (by kernel_rfl) rfl (by decide)
theorem xone58 : ∀ (a : (List UInt8 × List UInt8 × Int × Bool)), ∀ u ∈ xenc58 a, u.oneCell' = true := by
  intro a u hu
  simp only [xenc58, List.mem_cons, List.not_mem_nil, or_false] at hu
  rcases hu with rfl | rfl | rfl | rfl <;> rfl
theorem indexByte_ixB (l : List UInt8) (c : UInt8) : Lib.indexByte l c = ixB l c := by
  unfold ixB
  induction l with
  | nil => simp [Lib.indexByte]
  | cons b l ih =>
    simp only [Lib.indexByte, List.idxOf_cons, List.length_cons]
    by_cases h : b = c
    · subst h; simp
    · have h' : (b == c) = false := by simpa using h
      rw [h', ih]
      simp only [Bool.false_eq_true, if_false, cond_false]
      by_cases hl : l.idxOf c < l.length
      · have h1 : l.idxOf c + 1 < l.length + 1 := by omega
        have h2 : ¬ (((l.idxOf c : Int) == -1) = true) := by simp only [beq_iff_eq]; omega
        simp only [hl, h1, if_true, h2, if_false, Bool.false_eq_true]
        omega
      · have h1 : ¬ (l.idxOf c + 1 < l.length + 1) := by omega
        simp only [hl, h1, if_false]
        rfl
theorem utf8_ValidString_ct {p0 : List UInt8} {r : Bool} (h : utf8_ValidString p0 = some r) : Ct Tryz.prog 27 [S p0] (fun M => Tabs M) (fun v M => v = Value.bool r) := by
  unfold utf8_ValidString at h
  split at h
  case isFalse => cases h
  rename_i hb
  cases h
  exact validString_spec p0 hb
theorem R_Valid_ct {p0 : List UInt8} {r : Bool} (h : R_Valid p0 = some r) : Ct Tryz.prog 30 [S p0] (fun M => True) (fun v M => v = Value.bool r) := by
  unfold R_Valid at h
  split at h
  case isFalse => cases h
  rename_i hb
  cases h
  exact valid_spec p0 hb
theorem R_Rune_ct {p0 : List UInt8} {p1 : Int} {r : (Int × Int)} (h : R_Rune p0 p1 = some r) : Ct Tryz.prog 47 [S p0, I p1] (fun M => True) (fun v M => v = Value.tuple #[I r.1, I r.2]) := by
  unfold R_Rune at h
  split at h
  case isFalse => cases h
  rename_i hb
  cases h
  obtain ⟨i, rfl⟩ := Int.eq_ofNat_of_zero_le hb.1
  exact rune_spec p0 i (by omega) hb.2.2
theorem R_Lower_ct {p0 : List UInt8} {r : List UInt8} (h : R_Lower p0 = some r) : Ct Tryz.prog 38 [S p0] (fun M => True) (fun v M => v = S r) := by
  unfold R_Lower at h
  split at h
  case isFalse => cases h
  rename_i hb
  cases h
  exact rlower_spec p0 hb
theorem basic_Same_ct {p0 : List UInt8} {p1 : List UInt8} {r : Bool} (h : basic_Same p0 p1 = some r) : Ct Tryz.prog 26 [S p0, S p1] (fun M => True) (fun v M => v = Value.bool r) := by
  unfold basic_Same at h
  split at h
  case isFalse => cases h
  rename_i hb
  cases h
  exact same_spec p0 p1 hb.1 hb.2
theorem R_Alike_ct {p0 : List UInt8} {p1 : List UInt8} {r : Bool} (h : R_Alike p0 p1 = some r) : Ct Tryz.prog 29 [S p0, S p1] (fun M => True) (fun v M => v = Value.bool r) := by
  unfold R_Alike at h
  split at h
  case isFalse => cases h
  rename_i hb
  cases h
  exact alike_spec p0 p1 hb.1 hb.2
theorem R_Utf8_ct {p0 : Int} {r : List UInt8} (h : R_Utf8 p0 = some r) : Ct Tryz.prog 66 [I p0] (fun M => True) (fun v M => v = S r) := by
  unfold R_Utf8 at h
  cases h
  exact utf8_spec p0
theorem strings_IndexByte_ct {p0 : List UInt8} {p1 : UInt8} {r : Int} (h : strings_IndexByte p0 p1 = some r) : Ct Tryz.prog 67 [S p0, encB p1] (fun M => True) (fun v M => v = I r) := by
  cases h
  refine ⟨enters Tryz.func67 (by kernel_rfl) rfl, fun w M ha hp => ?_⟩
  exact (Tryz.strings_IndexByte ⟨p0.toArray⟩ (p1.toNat : Int) w).mono fun e w' ⟨he, hw⟩ => ⟨_, M, he, by subst hw; exact Ext.refl ha, by rw [← indexByte_ixB]; simp⟩
theorem strconv_Itoa_ct {p0 : Int} {r : List UInt8} (h : strconv_Itoa p0 = some r) : Ct Tryz.prog 52 [I p0] (fun M => GlF (fun w => Lib.TabIs Tryz.prog w "internal/strconv.uint64pow10" .u64 Lib.pow10Tab) M) (fun v M => v = S r) := by
  unfold strconv_Itoa at h
  split at h
  case isFalse => cases h
  rename_i hb
  cases h
  refine ⟨enters Tryz.func52 (by kernel_rfl) rfl, fun w M ha hp => ?_⟩
  exact (Tryz.strconv_Itoa p0 hb.1 hb.2 w (hp w ha)).mono fun e w' ⟨he, k, os, hw⟩ => ⟨_, M, he, by subst hw; exact Ext.ofBelow ha (below_grow w k os), by rw [itoaP_eq hb]⟩
theorem strconv_Atoi_ct {p0 : List UInt8} {r : (Int × Bool)} (h : strconv_Atoi p0 = some r) : Ct Tryz.prog 90 [S p0] (fun M => GlF (fun w => ∃ tp p, w.var? Tryz.prog "strconv.ErrRange" = some #[.iface tp p]) M ∧ GlF (fun w => ∃ tp p, w.var? Tryz.prog "strconv.ErrSyntax" = some #[.iface tp p]) M) (fun v M => ∃ x1, v = Value.tuple #[I r.1, x1] ∧ NilB M x1 r.2) := by
  unfold strconv_Atoi at h
  split at h
  case isFalse => cases h
  rename_i hb
  cases h
  refine ⟨enters Tryz.func90 (by kernel_rfl) rfl, fun w M ha hp => ?_⟩
  obtain ⟨hpR, hpS⟩ := hp
  have hsz : (⟨p0.toArray⟩ : ByteArray).size = p0.length := by simp [ByteArray.size]
  unfold atoiP
  cases hc : Lib.atoiAll p0 with
  | ok v =>
    exact (Tryz.strconv_Atoi_ok ⟨p0.toArray⟩ (by omega) v (by simpa using hc) w).mono fun e w' ⟨he, hw⟩ => ⟨_, M, he, by
      rcases hw with rfl | ⟨t, rfl⟩
      · exact Ext.refl ha
      · exact Ext.ofBelow ha (Lib.bytesWorld_below w _ t), ⟨_, rfl, .inl ⟨rfl, rfl⟩⟩⟩
  | range =>
    obtain ⟨tp, p, hv⟩ := hpR w ha
    exact (Tryz.strconv_Atoi_range_var ⟨p0.toArray⟩ (by omega) (by simpa using hc) tp p w hv).mono fun e w' ⟨n, he, _, _, hw⟩ => ⟨_, M, he, Ext.ofBelow ha hw, ⟨_, rfl, .inr ⟨rfl, _, _, rfl⟩⟩⟩
  | _ =>
    obtain ⟨tp, p, hv⟩ := hpS w ha
    exact (Tryz.strconv_Atoi_syntax_var ⟨p0.toArray⟩ (by omega) (by simpa using hc) tp p w hv).mono fun e w' ⟨n, he, _, _, hw⟩ => ⟨_, M, he, Ext.ofBelow ha hw, ⟨_, rfl, .inr ⟨rfl, _, _, rfl⟩⟩⟩
theorem stringslite_Index_ct {p0 : List UInt8} {p1 : List UInt8} {r : Int} (h : stringslite_Index p0 p1 = some r) : Ct Tryz.prog 111 [S p0, S p1] (fun M => GlF (fun w => ∃ m, w.cell? ⟨2, 0, none⟩ = some (.int .i64 m)) M) (fun v M => v = I r) := by
  unfold stringslite_Index at h
  split at h
  case isFalse => cases h
  rename_i hb
  cases h
  refine ⟨enters Tryz.func111 (by kernel_rfl) rfl, fun w M ha hp => ?_⟩
  obtain ⟨m, hm⟩ := hp w ha
  exact (Tryz.stringslite_Index ⟨p0.toArray⟩ ⟨p1.toArray⟩ m w (by simpa [ByteArray.size] using hb) hm).mono fun e w' ⟨he, hw⟩ => ⟨_, M, he, by subst hw; exact Ext.refl ha, rfl⟩
theorem copyCheck_ct {b : Nat} {p v : Value} {M0 : Mem} (hb : BPM M0 b p) : CtX Tryz.prog 157 [ptr b 0] [.blk b (.cells #[p, v] 175)] (fun _ => True) (fun r _ its => r = .tuple #[] ∧ its = [.blk b (.cells #[ptr b 0, v] 175)]) := by
  refine CtX.of Tryz.func157 (enters Tryz.func157 (by kernel_rfl) rfl) rfl rfl rfl ?_
  intro w M H _
  obtain ⟨j, hj, hjs⟩ := Option.map_eq_some_iff.1 (show (Tryz.prog.info? 175).map (·.size) = some 2 by kernel_rfl)
  have hl : liesAt Tryz.prog Tryz.prog.depth 175 (2 / Tryz.prog.cellsOf 175) 0 175 1 = true := by kernel_rfl
  have hbk := H.blk (List.Mem.head _)
  refine WC.seq (WC.region ?_)
  refine MV rfl rfl (ST (Ex.nilCheckP rfl) rfl (ST (Ex.fieldAddr Tryz.underlying175 rfl Tryz.sizeOf173 (by decide) rfl) rfl (ST (Ex.load1 H rfl (by repeat first | exact kMh | apply kMt) Tryz.isAgg173 (by rfl)) rfl ?_)))
  rcases hb with rfl | rfl
  · refine WR.step (Ex.ptrNil Tryz.underlying173 rfl) (Wn.none rfl) rfl rfl ?_
    refine WR.nil (WQ.then (WC.condT rfl (WC.region ?_)))
    refine MV rfl rfl (MV rfl rfl (ST (Ex.toUnsafe Tryz.underlying173 Tryz.underlying219 hj (by rw [hjs]; decide) (T := 175) (cells := 2) (a := ⟨b, 0, none⟩) (by simp [World.shape?, hbk]) (by show (0 : Nat) < 2; decide) rfl) rfl ?_))
    refine ST (Ex.noEscape Tryz.func181 (by kernel_rfl) (by kernel_rfl) (by kernel_rfl) (by kernel_rfl) rfl) rfl (ST (Ex.fromUnsafe Tryz.underlying219 Tryz.underlying173 hj (T := 175) (cells := 2) (a := ⟨b, 0, none⟩) (by simp [World.shape?, hbk]) hl rfl) rfl ?_)
    refine ST (Ex.nilCheckP rfl) rfl (ST (Ex.fieldAddr Tryz.underlying175 rfl Tryz.sizeOf173 (by decide) rfl) rfl (WR.putV [_, _] H rfl rfl ⟨rfl, rfl⟩ (by repeat first | exact .head | apply Upd.tail) (by rfl) Tryz.sizeOf173 (by first | decide | (simp; done) | (simp; omega)) (Wn.none rfl) ?_))
    intro w H
    refine NL ?_
    exact WQ.endX0 rfl H (by repeat first | exact kPn | refine kPc (by repeat first | exact .head | apply Rem.tail) ?_) ⟨rfl, rfl⟩
  · refine WR.step (Ex.ptrNil Tryz.underlying173 rfl) (Wn.none rfl) rfl rfl ?_
    refine WR.nil (WQ.then (WC.condF rfl (WC.seq (WC.region ?_))))
    refine MV rfl rfl (ST (Ex.nilCheckP rfl) rfl (ST (Ex.fieldAddr Tryz.underlying175 rfl Tryz.sizeOf173 (by decide) rfl) rfl (ST (Ex.load1 H rfl (by repeat first | exact kMh | apply kMt) Tryz.isAgg173 (by rfl)) rfl ?_)))
    refine MV rfl rfl (ST (Ex.ptrNeqSame Tryz.underlying173 hj rfl rfl) rfl ?_)
    refine WR.nil (WQ.then (WC.condF rfl (WC.skip ?_)))
    exact WQ.endX0 rfl H (by repeat first | exact kPn | refine kPc (by repeat first | exact .head | apply Rem.tail) ?_) ⟨rfl, rfl⟩
theorem utf8_DecodeRuneInString_ct {p0 : List UInt8} {r : Int × Int} (h : utf8_DecodeRuneInString p0 = some r) : Ct Tryz.prog 116 [S p0] (fun M => Tabs M) (fun v M => v = Value.tuple #[Value.int .i32 r.1, I r.2]) := by
  unfold utf8_DecodeRuneInString at h
  split at h
  case isFalse => cases h
  rename_i hb
  cases h
  exact decode_spec p0 hb
theorem countByte_P (c : UInt8) : ∀ l : List UInt8, Lib.countByte l c = ((l.countP fun x => decide ([c] = [x]) : Nat) : Int) := by
  intro l
  induction l with
  | nil => rfl
  | cons a l ih =>
    rw [List.countP_cons]
    by_cases h : c = a
    · subst h; simp [Lib.countByte] at ih ⊢; omega
    · have h' : ¬ a = c := fun e => h e.symm
      simp [Lib.countByte, h, h'] at ih ⊢; omega
theorem strings_Count_ct {p0 p1 : List UInt8} {r : Int} (h : strings_Count p0 p1 = some r) : Ct Tryz.prog 220 [S p0, S p1] (fun _ => True) (fun v M => v = I r) := by
  unfold strings_Count at h
  split at h
  case isFalse => cases h
  rename_i hb
  cases h
  obtain ⟨c, rfl⟩ : ∃ c, p1 = [c] := List.length_eq_one_iff.1 hb.1
  refine ⟨enters Tryz.func220 (by kernel_rfl) rfl, fun w M ha hp => ?_⟩
  exact (Tryz.strings_Count_one ⟨p0.toArray⟩ c w).mono fun e w' ⟨he, hw⟩ => ⟨_, M, he, by subst hw; exact Ext.refl ha, by rw [countByte_P]⟩
theorem strings_Builder_WriteString_ct {p0 : List UInt8} {p1 : List UInt8} {bp0 : Nat} {pp0 : Value} {vp0 : Value} {r : (Int × Bool × List UInt8)} (h : strings_Builder_WriteString p0 p1 = some r) : CtX Tryz.prog 122 [ptr bp0 0, S p1] [.blk bp0 (.cells #[pp0, vp0] 175), RowI 5 encB vp0 p0] (fun M => BPM M bp0 pp0) (fun v M its => ∃ x1 qp0 up0, v = Value.tuple #[I r.1, x1] ∧ NilB M x1 r.2.1 ∧ BPM M bp0 qp0 ∧ its = [.blk bp0 (.cells #[qp0, up0] 175), RowI 5 encB up0 r.2.2]) := by
  refine CtX.of Tryz.func122 (enters Tryz.func122 (by kernel_rfl) rfl) rfl rfl rfl ?_
  intro w0 M0 H hp
  have hp0 := hp
  unfold strings_Builder_WriteString at h
  refine SQ (RG (AS rfl rfl (AS rfl rfl (NL (TN (SQ (RG (MV rfl rfl ?_))))))))
  refine WR.callX (A := [.blk bp0 (.cells #[pp0, vp0] 175)]) (B := [RowI 5 encB vp0 p0]) (H.pick (L' := [.blk bp0 (.cells #[pp0, vp0] 175), RowI 5 encB vp0 p0]) (by repeat first | exact kPn | refine kPc (by repeat first | exact .head | apply Rem.tail) ?_)) (copyCheck_ct hp0) (.left (Spl.all _)) rfl trivial (Wn.none rfl) rfl ?_
  intro v7 M w its H hle hR
  replace hp0 := hp0.mono hle
  obtain ⟨rfl, rfl⟩ := hR
  simp only [List.cons_append, List.nil_append] at H
  refine NL (TN (SQ ?_))
  obtain ⟨l2, hxl2, h⟩ := bnd h
  refine RG (MV rfl rfl (MV rfl rfl (ST (Ex.nilCheckP rfl) rfl (ST (Ex.fieldAddr Tryz.underlying175 rfl Tryz.sizeOf93 (by decide) rfl) rfl (ST (Ex.load1 H rfl (by repeat first | exact kMh | apply kMt) Tryz.isAgg93 (by rfl)) rfl ?_)))))
  refine MV rfl rfl (WR.appStrC (l := p0) xty93 Tryz.underlying9 H rfl (fun _ => by repeat first | exact .head | apply Upd.tail) rfl hxl2 (Wn.none rfl) rfl ?_)
  intro v14 w H
  refine ST (Ex.nilCheckP rfl) rfl (ST (Ex.fieldAddr Tryz.underlying175 rfl Tryz.sizeOf93 (by decide) rfl) rfl (WR.putV [_, _] H rfl rfl (H.rowOne (by repeat first | exact kMh | apply kMt)) (by repeat first | exact .head | apply Upd.tail) (by rfl) Tryz.sizeOf93 (by first | decide | (simp; done) | (simp; omega)) (Wn.none rfl) ?_))
  intro w H
  refine NL (TN (SQ (RG (MV rfl rfl (ST (Ex.lenStr Tryz.underlying9 rfl) rfl (AS rfl rfl (AS rfl rfl (NL (TN (RT ?_))))))))))
  obtain rfl := oI h
  exact WQ.retX2 (its := [.blk bp0 (.cells #[(ptr bp0 0), v14] 175), RowI 5 encB v14 l2]) rfl rfl rfl H (by repeat first | exact kPn | refine kPc (by repeat first | exact .head | apply Rem.tail) ?_) ⟨_, _, _, rfl, (.inl ⟨rfl, rfl⟩), BPM.self, rfl⟩
theorem strings_Builder_WriteByte_ct {p0 : List UInt8} {p1 : UInt8} {bp0 : Nat} {pp0 : Value} {vp0 : Value} {r : (Bool × List UInt8)} (h : strings_Builder_WriteByte p0 p1 = some r) : CtX Tryz.prog 124 [ptr bp0 0, encB p1] [.blk bp0 (.cells #[pp0, vp0] 175), RowI 5 encB vp0 p0] (fun M => BPM M bp0 pp0) (fun v M its => ∃ x0 qp0 up0, v = x0 ∧ NilB M x0 r.1 ∧ BPM M bp0 qp0 ∧ its = [.blk bp0 (.cells #[qp0, up0] 175), RowI 5 encB up0 r.2]) := by
  refine CtX.of Tryz.func124 (enters Tryz.func124 (by kernel_rfl) rfl) rfl rfl rfl ?_
  intro w0 M0 H hp
  have hp0 := hp
  unfold strings_Builder_WriteByte at h
  refine SQ (RG (AS rfl rfl (NL (TN (SQ (RG (MV rfl rfl ?_)))))))
  refine WR.callX (A := [.blk bp0 (.cells #[pp0, vp0] 175)]) (B := [RowI 5 encB vp0 p0]) (H.pick (L' := [.blk bp0 (.cells #[pp0, vp0] 175), RowI 5 encB vp0 p0]) (by repeat first | exact kPn | refine kPc (by repeat first | exact .head | apply Rem.tail) ?_)) (copyCheck_ct hp0) (.left (Spl.all _)) rfl trivial (Wn.none rfl) rfl ?_
  intro v6 M w its H hle hR
  replace hp0 := hp0.mono hle
  obtain ⟨rfl, rfl⟩ := hR
  simp only [List.cons_append, List.nil_append] at H
  refine NL (TN (SQ ?_))
  obtain ⟨l2, hxl2, h⟩ := bnd h
  refine RG (MV rfl rfl (MV rfl rfl (ST (Ex.nilCheckP rfl) rfl (ST (Ex.fieldAddr Tryz.underlying175 rfl Tryz.sizeOf93 (by decide) rfl) rfl (ST (Ex.load1 H rfl (by repeat first | exact kMh | apply kMt) Tryz.isAgg93 (by rfl)) rfl ?_)))))
  refine MV rfl rfl (WR.lit (enc := encB) xty93 ([p1] : List UInt8) H rfl (by rfl) (fun _ => rfl) rfl rfl (Wn.none rfl) rfl ?_)
  intro v13 M w H hle hs13
  refine WR.appC (l := p0) xty93 rfl (fun _ => rfl) H rfl (fun _ => by repeat first | exact .head | apply Upd.tail) rfl (hs13) hxl2 (Wn.none rfl) rfl ?_
  intro v14 w H
  refine ST (Ex.nilCheckP rfl) rfl (ST (Ex.fieldAddr Tryz.underlying175 rfl Tryz.sizeOf93 (by decide) rfl) rfl (WR.putV [_, _] H rfl rfl (H.rowOne (by repeat first | exact kMh | apply kMt)) (by repeat first | exact .head | apply Upd.tail) (by rfl) Tryz.sizeOf93 (by first | decide | (simp; done) | (simp; omega)) (Wn.none rfl) ?_))
  intro w H
  refine NL (TN (SQ (RG (AS rfl rfl (NL (TN (RT ?_)))))))
  obtain rfl := oI h
  exact WQ.retX1 (its := [.blk bp0 (.cells #[(ptr bp0 0), v14] 175), RowI 5 encB v14 l2]) rfl rfl H (by repeat first | exact kPn | refine kPc (by repeat first | exact .head | apply Rem.tail) ?_) ⟨_, _, _, rfl, (.inl ⟨rfl, rfl⟩), BPM.self, rfl⟩
theorem strings_Builder_String_ct {p0 : List UInt8} {bp0 : Nat} {pp0 : Value} {vp0 : Value} {r : List UInt8} (h : strings_Builder_String p0 = some r) : CtX Tryz.prog 125 [ptr bp0 0] [.blk bp0 (.cells #[pp0, vp0] 175), RowI 5 encB vp0 p0] (fun M => BPM M bp0 pp0) (fun v M its => v = S r ∧ its = []) := by
  refine CtX.of Tryz.func125 (enters Tryz.func125 (by kernel_rfl) rfl) rfl rfl rfl ?_
  intro w0 M0 H hp
  have hp0 := hp
  unfold strings_Builder_String at h
  refine SQ (RG (AS rfl rfl (NL (TN (SQ ?_)))))
  refine WC.cutP (fun e w => ∃  (M : Mem), e = [(2, S p0)] ∧ StX (feet [.blk bp0 (.cells #[pp0, vp0] 175), RowI 5 encB vp0 p0]) w0 M0 M [.blk bp0 (.cells #[pp0, vp0] 175)] w) ?_ ?_
  ·
   refine WC.draw (m := 12) rfl rfl H ?_
   intro w H
   refine WA.take (i := 0) rfl (by kernel_rfl) (by kernel_rfl) (by kernel_rfl) (fun _ => Ex.move rfl) (Wn.none rfl) rfl rfl (fun _ _ => rfl) (WA.take (i := 1) rfl (by kernel_rfl) (by kernel_rfl) (by kernel_rfl) (fun _ => Ex.nilCheckP rfl) (Wn.none rfl) rfl rfl (fun _ _ => rfl) (WA.take (i := 2) rfl (by kernel_rfl) (by kernel_rfl) (by kernel_rfl) (fun _ => Ex.fieldAddr Tryz.underlying175 rfl Tryz.sizeOf93 (by decide) rfl) (Wn.none rfl) rfl rfl (fun _ _ => rfl) (WA.take (i := 5) rfl (by kernel_rfl) (by kernel_rfl) (by kernel_rfl) (fun _ => Ex.move rfl) (Wn.none rfl) rfl rfl (fun _ _ => rfl) (WA.take (i := 6) rfl (by kernel_rfl) (by kernel_rfl) (by kernel_rfl) (fun _ => Ex.nilCheckP rfl) (Wn.none rfl) rfl rfl (fun _ _ => rfl) (WA.take (i := 7) rfl (by kernel_rfl) (by kernel_rfl) (by kernel_rfl) (fun _ => Ex.fieldAddr Tryz.underlying175 rfl Tryz.sizeOf93 (by decide) rfl) (Wn.none rfl) rfl rfl (fun _ _ => rfl) ?_)))))
   refine WA.two (i := 3) (j := 8) (by kernel_rfl) rfl rfl ?_ ?_
   ·
    refine ST (Ex.load1 H rfl (by repeat first | exact kMh | apply kMt) Tryz.isAgg93 (by rfl)) rfl ?_
    refine NA ?_
    refine WA.two (i := 4) (j := 8) (by kernel_rfl) rfl rfl ?_ ?_
    ·
     refine WR.sliceData Tryz.underlying214 H (by repeat first | exact kMh | apply kMt) rfl (Wn.none rfl) rfl ?_
     intro q7 w H hq7
     refine NA (WA.seq (fuel := 0) [8, 9, 10, 11] rfl (by kernel_rfl) (ST (Ex.load1 H rfl (by repeat first | exact kMh | apply kMt) Tryz.isAgg93 (by rfl)) rfl ?_))
     refine ST (Ex.lenRow (l := p0) Tryz.underlying93 H (by repeat first | exact kMh | apply kMt) rfl) rfl ?_
     refine WR.unsafeStr Tryz.underlying214 (by kernel_rfl) H (by repeat first | exact .head | apply Rem.tail) hq7 rfl rfl (Wn.none rfl) rfl ?_
     intro w H
     refine AS rfl rfl (NA (WA.done (by kernel_rfl) ?_))
     exact WQ.meetP [(2, _)] ⟨rfl, trivial⟩ ⟨_, rfl, H⟩
    ·
     refine ST (Ex.load1 H rfl (by repeat first | exact kMh | apply kMt) Tryz.isAgg93 (by rfl)) rfl ?_
     refine NA ?_
     refine WA.two (i := 4) (j := 9) (by kernel_rfl) rfl rfl ?_ ?_
     ·
      refine WR.sliceData Tryz.underlying214 H (by repeat first | exact kMh | apply kMt) rfl (Wn.none rfl) rfl ?_
      intro q7 w H hq7
      refine NA (WA.seq (fuel := 0) [9, 10, 11] rfl (by kernel_rfl) (ST (Ex.lenRow (l := p0) Tryz.underlying93 H (by repeat first | exact kMh | apply kMt) rfl) rfl ?_))
      refine WR.unsafeStr Tryz.underlying214 (by kernel_rfl) H (by repeat first | exact .head | apply Rem.tail) hq7 rfl rfl (Wn.none rfl) rfl ?_
      intro w H
      refine AS rfl rfl (NA (WA.done (by kernel_rfl) ?_))
      exact WQ.meetP [(2, _)] ⟨rfl, trivial⟩ ⟨_, rfl, H⟩
     ·
      refine ST (Ex.lenRow (l := p0) Tryz.underlying93 H (by repeat first | exact kMh | apply kMt) rfl) rfl ?_
      refine NA (WA.seq (fuel := 0) [4, 10, 11] rfl (by kernel_rfl) (WR.sliceData Tryz.underlying214 H (by repeat first | exact kMh | apply kMt) rfl (Wn.none rfl) rfl ?_))
      intro q7 w H hq7
      refine WR.unsafeStr Tryz.underlying214 (by kernel_rfl) H (by repeat first | exact .head | apply Rem.tail) hq7 rfl rfl (Wn.none rfl) rfl ?_
      intro w H
      refine AS rfl rfl (NA (WA.done (by kernel_rfl) ?_))
      exact WQ.meetP [(2, _)] ⟨rfl, trivial⟩ ⟨_, rfl, H⟩
   ·
    refine ST (Ex.load1 H rfl (by repeat first | exact kMh | apply kMt) Tryz.isAgg93 (by rfl)) rfl ?_
    refine NA ?_
    refine WA.two (i := 3) (j := 9) (by kernel_rfl) rfl rfl ?_ ?_
    ·
     refine ST (Ex.load1 H rfl (by repeat first | exact kMh | apply kMt) Tryz.isAgg93 (by rfl)) rfl ?_
     refine NA ?_
     refine WA.two (i := 4) (j := 9) (by kernel_rfl) rfl rfl ?_ ?_
     ·
      refine WR.sliceData Tryz.underlying214 H (by repeat first | exact kMh | apply kMt) rfl (Wn.none rfl) rfl ?_
      intro q7 w H hq7
      refine NA (WA.seq (fuel := 0) [9, 10, 11] rfl (by kernel_rfl) (ST (Ex.lenRow (l := p0) Tryz.underlying93 H (by repeat first | exact kMh | apply kMt) rfl) rfl ?_))
      refine WR.unsafeStr Tryz.underlying214 (by kernel_rfl) H (by repeat first | exact .head | apply Rem.tail) hq7 rfl rfl (Wn.none rfl) rfl ?_
      intro w H
      refine AS rfl rfl (NA (WA.done (by kernel_rfl) ?_))
      exact WQ.meetP [(2, _)] ⟨rfl, trivial⟩ ⟨_, rfl, H⟩
     ·
      refine ST (Ex.lenRow (l := p0) Tryz.underlying93 H (by repeat first | exact kMh | apply kMt) rfl) rfl ?_
      refine NA (WA.seq (fuel := 0) [4, 10, 11] rfl (by kernel_rfl) (WR.sliceData Tryz.underlying214 H (by repeat first | exact kMh | apply kMt) rfl (Wn.none rfl) rfl ?_))
      intro q7 w H hq7
      refine WR.unsafeStr Tryz.underlying214 (by kernel_rfl) H (by repeat first | exact .head | apply Rem.tail) hq7 rfl rfl (Wn.none rfl) rfl ?_
      intro w H
      refine AS rfl rfl (NA (WA.done (by kernel_rfl) ?_))
      exact WQ.meetP [(2, _)] ⟨rfl, trivial⟩ ⟨_, rfl, H⟩
    ·
     refine ST (Ex.lenRow (l := p0) Tryz.underlying93 H (by repeat first | exact kMh | apply kMt) rfl) rfl ?_
     refine NA (WA.seq (fuel := 0) [3, 4, 10, 11] rfl (by kernel_rfl) (ST (Ex.load1 H rfl (by repeat first | exact kMh | apply kMt) Tryz.isAgg93 (by rfl)) rfl ?_))
     refine WR.sliceData Tryz.underlying214 H (by repeat first | exact kMh | apply kMt) rfl (Wn.none rfl) rfl ?_
     intro q7 w H hq7
     refine WR.unsafeStr Tryz.underlying214 (by kernel_rfl) H (by repeat first | exact .head | apply Rem.tail) hq7 rfl rfl (Wn.none rfl) rfl ?_
     intro w H
     refine AS rfl rfl (NA (WA.done (by kernel_rfl) ?_))
     exact WQ.meetP [(2, _)] ⟨rfl, trivial⟩ ⟨_, rfl, H⟩
  ·
   rintro e w ⟨M, rfl, H⟩
   refine TN (RT ?_)
   obtain rfl := oI h
   exact WQ.retX1 (its := []) rfl rfl H (by repeat first | exact kPn | refine kPc (by repeat first | exact .head | apply Rem.tail) ?_) ⟨rfl, rfl⟩
theorem tvWrite_ct {p1 : List UInt8} {bp0 gb cap : Nat} (hc : p1.length ≤ cap) : CtX Tryz.prog 122 [ptr bp0 0, S p1] [.blk bp0 (.cells #[ptr bp0 0, .slice (some ⟨gb, 0, none⟩) 0 cap] 175), RowI 5 encB (.slice (some ⟨gb, 0, none⟩) 0 cap) []] (fun _ => True) (fun v M its => ∃ n x1, v = Value.tuple #[I n, x1] ∧ its = [.blk bp0 (.cells #[ptr bp0 0, .slice (some ⟨gb, 0, none⟩) p1.length cap] 175), RowI 5 encB (.slice (some ⟨gb, 0, none⟩) p1.length cap) p1]) := by
  refine CtX.of Tryz.func122 (enters Tryz.func122 (by kernel_rfl) rfl) rfl rfl rfl ?_
  intro w0 M0 H hp
  refine SQ (RG (AS rfl rfl (AS rfl rfl (NL (TN (SQ (RG (MV rfl rfl (WR.callX (A := [.blk bp0 (.cells #[ptr bp0 0, .slice (some ⟨gb, 0, none⟩) 0 cap] 175)]) (B := [RowI 5 encB (.slice (some ⟨gb, 0, none⟩) 0 cap) []]) H (copyCheck_ct (BPM.self (M := M0))) (.left (Spl.all _)) rfl trivial (Wn.none rfl) rfl ?_)))))))))
  intro v7 M w its H hle hR
  obtain ⟨rfl, rfl⟩ := hR
  simp only [List.cons_append, List.nil_append] at H
  refine NL (TN (SQ (RG (MV rfl rfl (MV rfl rfl (ST (Ex.nilCheckP rfl) rfl (ST (Ex.fieldAddr Tryz.underlying175 rfl Tryz.sizeOf93 (by decide) rfl) rfl (ST (Ex.load1 H rfl (by repeat first | exact kMh | apply kMt) Tryz.isAgg93 (by rfl)) rfl ?_))))))))
  refine MV rfl rfl (WR.appStrRoom (l := []) (l2 := p1) (gb := gb) (cap := cap) xty93 Tryz.underlying9 H rfl (fun _ => by repeat first | exact .head | apply Upd.tail) rfl (by simpa using hc) (Wn.none rfl) rfl ?_)
  intro w H
  refine ST (Ex.nilCheckP rfl) rfl (ST (Ex.fieldAddr Tryz.underlying175 rfl Tryz.sizeOf93 (by decide) rfl) rfl (WR.putV [_, _] H rfl rfl (H.rowOne (by repeat first | exact kMh | apply kMt)) (by repeat first | exact .head | apply Upd.tail) (by rfl) Tryz.sizeOf93 (by first | decide | (simp; done) | (simp; omega)) (Wn.none rfl) ?_))
  intro w H
  refine NL (TN (SQ (RG (MV rfl rfl (ST (Ex.lenStr Tryz.underlying9 rfl) rfl (AS rfl rfl (AS rfl rfl (NL (TN (RT ?_))))))))))
  exact WQ.retX2 (its := [.blk bp0 (.cells #[ptr bp0 0, .slice (some ⟨gb, 0, none⟩) p1.length cap] 175), RowI 5 encB (.slice (some ⟨gb, 0, none⟩) p1.length cap) p1]) rfl rfl rfl H (by repeat first | exact kPn | refine kPc (by repeat first | exact .head | apply Rem.tail) ?_) ⟨_, _, rfl, rfl⟩
theorem strings_ToValidUTF8_ct {p0 : List UInt8} {p1 : List UInt8} {r : List UInt8} (h : strings_ToValidUTF8 p0 p1 = some r) : Ct Tryz.prog 99 [S p0, S p1] (fun M => Tabs M) (fun v M => v = S r) := by
  refine Ct.of Tryz.func99 (enters Tryz.func99 (by kernel_rfl) rfl) rfl rfl rfl ?_
  intro w0 M0 H hp
  have H0 := H
  have hg_tabs := hp
  unfold strings_ToValidUTF8 at h
  split at h
  case isFalse => cases h
  rename_i hsz
  obtain ⟨o1, e2, h⟩ := bnd h
  refine SQ (RG (AS rfl rfl (NL (TN (SQ (RG (WR.alloc [_, _] H Tryz.zeroValue175 rfl (Wn.none rfl) rfl ?_)))))))
  intro bk5 w H
  refine NL (TN (SQ (SQ (RG (MV rfl rfl (WR.rangeStr H Tryz.underlying9 rfl (Wn.none rfl) rfl ?_))))))
  intro b16 w H
  refine NL (TN ?_)
  refine WC.cutX (fun e w => (∃ (M : Mem), e = [(0, S p0), (1, S p1), (5, ptr bk5 0)] ∧ St w0 M0 M [.blk bk5 (.cells #[(Value.pointer none), (Value.slice none 0 0)] 175)] w ∧ Tabs M ∧ o1 = none) ∨ (∃ (s3 : List UInt8) (q u : Value) (l36 : List UInt8) (gb cap i : Nat) (M : Mem), e = [(0, S s3), (1, S p1), (5, ptr bk5 0)] ∧ St w0 M0 M [.blk bk5 (.cells #[q, u] 175), RowI 5 encB u l36] w ∧ Tabs M ∧ BPM M bk5 q ∧ u = .slice (some ⟨gb, 0, none⟩) l36.length cap ∧ 0 < cap ∧ o1 = some i ∧ s3 = p0.drop i ∧ l36 = p0.take i)) [] ?_ ?_ (trivial)
  ·
   refine BL ?_
   refine WC.loopP (fun m e w => ∃ (ps15 : Nat) (M : Mem), e = [(0, S p0), (1, S p1), (5, ptr bk5 0), (16, ptr b16 0)] ∧ St w0 M0 M [.blk bk5 (.cells #[(Value.pointer none), (Value.slice none 0 0)] 175), .blk b16 (.stringIter ⟨((p0) : List UInt8).toArray⟩ ps15)] w ∧ Tabs M ∧ tvL1 p0 m ps15 = some o1) FU [(0, _), (1, _), (5, _), (16, _)] ⟨rfl, rfl, rfl, rfl, trivial⟩ ⟨_, _, rfl, (H.pick (L' := [.blk bk5 (.cells #[(Value.pointer none), (Value.slice none 0 0)] 175), .blk b16 (.stringIter ⟨((p0) : List UInt8).toArray⟩ 0)]) (by repeat first | exact kPn | refine kPc (by repeat first | exact .head | apply Rem.tail) ?_)), hg_tabs, e2⟩ ?_
   clear e2
   rintro m16 e w ⟨ps15, M, rfl, H, hg_tabs, e2⟩
   rcases m16 with _ | m16
   · rw [tvL1] at e2; cases e2
   rw [tvL1] at e2
   refine SQ ?_
   by_cases hk18 : ps15 < p0.length
   ·
    rw [if_pos hk18] at e2
    refine RG (WR.nextT H hk18 rfl (by repeat first | exact .head | apply Upd.tail) (Wn.none rfl) rfl ?_)
    intro w H
    refine ST (Ex.extract rfl rfl) rfl (NL (TN (SQ (CT rfl (SK (TN (BL (SQ (RG (ST (Ex.extract rfl rfl) rfl (ST (Ex.extract rfl rfl) rfl (AS rfl rfl (AS rfl rfl (NL (TN (SQ (SQ (RG (MV rfl rfl (ST (Ex.neqC rfl rfl) rfl (NL (TN ?_))))))))))))))))))))))
    refine WC.condB rfl (fun hk19 => ?_) (fun hk19 => ?_)
    ·
     replace hk19 : ¬ (((Utf.dr (p0.drop ps15)).1 : Int) = (65533 : Int)) := of_not_decide hk19
     rw [if_neg hk19] at e2
     refine WC.exit (WQ.thenExit (WQ.exitHere ?_))
     exact WQ.againP m16 [(0, _), (1, _), (5, _), (16, _)] ⟨rfl, rfl, rfl, rfl, trivial⟩ ⟨_, _, rfl, H, hg_tabs, e2⟩ (Nat.lt_succ_self _)
    ·
     replace hk19 : ((Utf.dr (p0.drop ps15)).1 : Int) = (65533 : Int) := of_not_decide' hk19
     rw [if_pos hk19] at e2
     refine SK (TN (SQ ?_))
     have hne : p0.drop ps15 ≠ [] := by rw [Ne, List.drop_eq_nil_iff]; omega
     have hxs20 : cut p0 (ps15 : Int) (p0.length : Int) = some (p0.drop ps15) := cut_from rfl (Nat.le_of_lt hk18)
     have hx23 : utf8_DecodeRuneInString (p0.drop ps15) = some (((Utf.dr (p0.drop ps15)).1 : Int), ((Utf.dr (p0.drop ps15)).2 : Int)) := by unfold utf8_DecodeRuneInString; rw [if_pos hne]
     refine RG (MV rfl rfl (MV rfl rfl (ST (Ex.sliceL Tryz.underlying9 rfl rfl hxs20) rfl (WR.call H (utf8_DecodeRuneInString_ct hx23) rfl (hg_tabs) (Wn.none rfl) rfl ?_))))
     intro v27 M w H hle hR
     replace hg_tabs := hg_tabs.mono hle
     try dsimp only at hR
     obtain rfl := hR
     refine MV rfl rfl (ST (Ex.extract rfl rfl) rfl (ST (Ex.extract rfl rfl) rfl (AS rfl rfl (AS rfl rfl (NL (TN (SQ (RG (MV rfl rfl (ST (Ex.eql rfl rfl) rfl (NL (TN ?_))))))))))))
     refine WC.condB rfl (fun hk24 => ?_) (fun hk24 => ?_)
     ·
      replace hk24 : ((Utf.dr (p0.drop ps15)).2 : Int) = (1 : Int) := of_decide_eq_true hk24
      rw [if_pos hk24] at e2
      refine SQ ?_
      have hxn25 : chk ((p0.length : Int) + (p1.length : Int)) = some ((p0.length : Int) + (p1.length : Int)) := chk_ok (by omega) (by omega)
      refine RG (MV rfl rfl (ST (Ex.lenStr Tryz.underlying9 rfl) rfl (MV rfl rfl (ST (Ex.lenStr Tryz.underlying9 rfl) rfl (ST (Ex.addC rfl rfl hxn25) rfl ?_)))))
      have hb5 := H.blk (List.Mem.head _)
      have hB5 : w0.heap.size ≤ bk5 := by
        rcases ((H.own _ (List.Mem.head _)).2 bk5 rfl).2 with h1 | h1
        · exact h1
        · exact h1.elim
      refine WR.callW (enters Tryz.func121 (by kernel_rfl) rfl) (Tryz.Builder_Grow_fresh_cap w0.heap.size bk5 (p0.length + p1.length) _ hB5 hb5 H.ext.below.size (by omega)) (by rw [← Int.natCast_add]; rfl) (Wn.none rfl) rfl ?_
      rintro w' ⟨⟨⟨_, u, hu1, hu2, hu3⟩, hbel⟩, pp, cap, hcell, hcap⟩
      have hu : u = .slice pp 0 cap := by simpa [World.cell?, hu1] using hcell
      obtain ⟨gb, rfl⟩ : ∃ gb, pp = some ⟨gb, 0, none⟩ := by
        rcases hu2.2 with ⟨h1, _⟩ | ⟨g', cap', cur, h1, _⟩
        · rw [hu] at h1; cases h1; omega
        · rw [hu] at h1; cases h1; exact ⟨_, rfl⟩
      subst hu
      have hgB : w0.heap.size ≤ gb := by
        have := World.ownsRow.lt hu2 gb rfl
        exact this.1
      have hgne : gb ≠ bk5 := fun h => hu3 (by rw [h]; rfl)
      have H := StX.restart H0 H hbel (L' := [.blk bk5 (.cells #[ptr bk5 0, .slice (some ⟨gb, 0, none⟩) 0 cap] 175), RowI 5 encB (.slice (some ⟨gb, 0, none⟩) 0 cap) []])
        (by
          intro it hit
          rcases List.mem_cons.1 hit with rfl | hit
          · exact ⟨hu1, fun b hb => by cases hb; exact hB5⟩
          · rcases List.mem_singleton.1 hit with rfl
            exact ⟨⟨hu2.1, hu2.2.elim .inl (fun ⟨g1, c1, u1, h1, _, h3⟩ => .inr ⟨g1, c1, u1, h1, Nat.zero_le _, h3⟩)⟩, fun b hb => by cases hb; exact hgB⟩)
        (by
          refine List.Pairwise.cons (fun y hy b hb hb' => ?_) (List.pairwise_singleton _ _)
          rcases List.mem_singleton.1 hy with rfl
          cases hb
          exact hu3 hb')
      replace hg_tabs := hp
      refine NL (TN (SQ ?_))
      have hxs28 : cut p0 0 (ps15 : Int) = some (p0.take ps15) := cut_to rfl (Nat.le_of_lt hk18)
      refine RG (MV rfl rfl (MV rfl rfl (ST (Ex.sliceH Tryz.underlying9 rfl rfl hxs28) rfl (WR.callX (A := [.blk bk5 (.cells #[ptr bk5 0, .slice (some ⟨gb, 0, none⟩) 0 cap] 175), RowI 5 encB (.slice (some ⟨gb, 0, none⟩) 0 cap) []]) (B := []) H (tvWrite_ct (by rw [List.length_take]; omega)) (.left (.left (Spl.nil))) rfl trivial (Wn.none rfl) rfl ?_))))
      intro v41 M w its H hle hR
      replace hg_tabs := hg_tabs.mono hle
      obtain ⟨n41, x41_1, rfl, rfl⟩ := hR
      simp only [List.cons_append, List.nil_append] at H
      refine NL (TN (SQ (RG (MV rfl rfl (MV rfl rfl (ST (Ex.sliceL Tryz.underlying9 rfl rfl hxs20) rfl (AS rfl rfl (NL (TN (WC.exit (WQ.exitOut rfl (WQ.thenExit (WQ.exitHere ?_)))))))))))))
      exact WQ.meetN [(0, _), (1, _), (5, _)] ⟨rfl, rfl, rfl, trivial⟩ (.inr ⟨_, _, _, _, gb, cap, ps15, _, rfl, H, hg_tabs, BPM.self, rfl, by omega, (oI e2).symm, rfl, rfl⟩)
     ·
      replace hk24 : ¬ (((Utf.dr (p0.drop ps15)).2 : Int) = (1 : Int)) := of_decide_eq_false hk24
      rw [if_neg hk24] at e2
      refine SK (IB ?_)
      exact WQ.againP m16 [(0, _), (1, _), (5, _), (16, _)] ⟨rfl, rfl, rfl, rfl, trivial⟩ ⟨_, _, rfl, H, hg_tabs, e2⟩ (Nat.lt_succ_self _)
   ·
    rw [if_neg hk18] at e2
    refine RG (WR.nextF H (Nat.le_of_not_lt hk18) rfl (by repeat first | exact kMh | apply kMt) (Wn.none rfl) rfl ?_)
    refine ST (Ex.extract rfl rfl) rfl (NL (TN (SQ (CF rfl (WC.exit (WQ.thenExit (WQ.thenExit (WQ.exitHere ?_))))))))
    exact WQ.meetN [(0, _), (1, _), (5, _)] ⟨rfl, rfl, rfl, trivial⟩ (.inl ⟨_, rfl, (H.pick (L' := [.blk bk5 (.cells #[(Value.pointer none), (Value.slice none 0 0)] 175)]) (by repeat first | exact kPn | refine kPc (by repeat first | exact .head | apply Rem.tail) ?_)), hg_tabs, (oI e2).symm⟩)
  ·
   rintro e w (⟨M, rfl, H, hg_tabs, rfl⟩ | ⟨s3, q45_0, u45_0, l36, gb, cap, i, M, rfl, H, hg_tabs, hq45_0, hu, hcap, rfl, hs3, hl36⟩)
   ·
    dsimp only at h
    refine TN (SQ (SQ (RG (WR.callW (enters Tryz.func123 (by kernel_rfl) rfl) (Tryz.Builder_Cap_cell bk5 none 0 0 _ (by simp [World.cell?, H.blk (List.Mem.head _)])) rfl (Wn.none rfl) rfl ?_))))
    rintro w' rfl
    refine ST (Ex.eql rfl rfl) rfl (NL (TN (CT rfl (SQ (RG (MV rfl rfl (AS rfl rfl (NL (TN (RT ?_))))))))))
    obtain rfl := oI h
    exact WQ.ret1 rfl rfl H.ext rfl
   ·
    dsimp only at h
    rw [← hs3, ← hl36] at h
    refine TN (SQ (SQ (RG (WR.callW (enters Tryz.func123 (by kernel_rfl) rfl) (Tryz.Builder_Cap_cell bk5 (some ⟨gb, 0, none⟩) l36.length cap _ (by simp [World.cell?, H.blk (List.Mem.head _), hu])) rfl (Wn.none rfl) rfl ?_))))
    rintro w' rfl
    refine ST (Ex.eql rfl rfl) rfl (NL (TN ?_))
    refine WC.condB rfl (fun hk38 => absurd (of_decide_eq_true hk38) (by omega)) (fun hk38 => ?_)
    refine SK (TN (SQ (RG (AS rfl rfl (NL (TN (SQ (SQ (RG (AS rfl rfl (NL (TN ?_))))))))))))
    obtain ⟨o39, e40, h⟩ := bnd h
    refine WC.cutX (fun e w => ∃ (v41 : Value) (l44 : List UInt8) (v45 : Value) (M : Mem), e = [(5, ptr bk5 0)] ∧ St w0 M0 M [.blk bk5 (.cells #[v41, v45] 175), RowI 5 encB v45 l44] w ∧ Tabs M ∧ BPM M bk5 v41 ∧ some l44 = some o39) [] ?_ ?_ (trivial)
    ·
     refine BL (WC.loopP (fun m e w => ∃ (v46 : Value) (l49 : List UInt8) (v50 : Value) (b51 : Bool) (n52 : Int) (M : Mem), e = [(0, S s3), (1, S p1), (5, ptr bk5 0), (10, Value.bool b51), (11, I n52)] ∧ St w0 M0 M [.blk bk5 (.cells #[v46, v50] 175), RowI 5 encB v50 l49] w ∧ Tabs M ∧ BPM M bk5 v46 ∧ strings_ToValidUTF8_L2 p1 s3 m l49 b51 n52 = some o39) FU [(0, _), (1, _), (5, _), (10, _), (11, _)] ⟨rfl, rfl, rfl, rfl, rfl, trivial⟩ ⟨_, _, _, _, _, _, rfl, H, hg_tabs, hq45_0, e40⟩ ?_)
     rintro m53 e w ⟨v46, l49, v50, b51, n52, M, rfl, H, hg_tabs, hs47, e40⟩
     rcases m53 with _ | m53
     · rw [strings_ToValidUTF8_L2] at e40; cases e40
     rw [strings_ToValidUTF8_L2] at e40
     refine SQ (SQ (RG (MV rfl rfl (MV rfl rfl (ST (Ex.lenStr Tryz.underlying9 rfl) rfl (ST (Ex.lss rfl rfl) rfl (NL (TN ?_))))))))
     refine WC.condB rfl (fun hk54 => ?_) (fun hk54 => ?_)
     ·
      replace hk54 : n52 < (s3.length : Int) := of_decide_eq_true hk54
      rw [if_pos hk54] at e40
      refine SK (TN (BL (SQ ?_)))
      obtain ⟨c55, hxc55, e40⟩ := bnd e40
      refine RG (MV rfl rfl (MV rfl rfl (ST (Ex.idxStrC Tryz.underlying9 rfl rfl hxc55) rfl (AS rfl rfl (NL (TN (SQ (SQ (RG (MV rfl rfl (ST (Ex.lssB (i := c55.toNat) (j := 128) rfl rfl) rfl (NL (TN ?_)))))))))))))
      refine WC.condB rfl (fun hk56 => ?_) (fun hk56 => ?_)
      ·
       replace hk56 : c55.toNat < 128 := of_decide_eq_true hk56
       rw [if_pos hk56] at e40
       refine SQ ?_
       obtain ⟨n57, hxn57, e40⟩ := bnd e40
       refine RG (MV rfl rfl (ST (Ex.addC rfl rfl hxn57) rfl (AS rfl rfl (NL (TN (SQ (RG (AS rfl rfl (NL (TN (SQ ?_)))))))))))
       obtain ⟨⟨b58, l59⟩, hx60, e40⟩ := bnd e40
       try dsimp only at e40
       refine RG (MV rfl rfl ?_)
       refine WR.callX (A := [.blk bk5 (.cells #[v46, v50] 175), RowI 5 encB v50 l49]) (B := []) (H.pick (L' := [.blk bk5 (.cells #[v46, v50] 175), RowI 5 encB v50 l49]) (by repeat first | exact kPn | refine kPc (by repeat first | exact .head | apply Rem.tail) ?_)) (strings_Builder_WriteByte_ct hx60) (.left (.left (Spl.all _))) rfl (hs47) (Wn.none rfl) rfl ?_
       intro v60 M w its H hle hR
       replace hg_tabs := hg_tabs.mono hle
       replace hs47 := hs47.mono hle
       try dsimp only at hR
       obtain ⟨x60_0, q60_0, u60_0, rfl, f60_0, hq60_0, rfl⟩ := hR
       simp only [List.cons_append, List.nil_append] at H
       refine NL (TN (WC.exit (WQ.thenExit (WQ.exitHere ?_))))
       exact WQ.againP m53 [(0, _), (1, _), (5, _), (10, _), (11, _)] ⟨rfl, rfl, rfl, rfl, rfl, trivial⟩ ⟨_, _, _, _, _, _, rfl, H, hg_tabs, hq60_0, e40⟩ (Nat.lt_succ_self _)
      ·
       replace hk56 : ¬ (c55.toNat < 128) := of_decide_eq_false hk56
       rw [if_neg hk56] at e40
       refine SK (TN (SQ ?_))
       obtain ⟨s61, hxs61, e40⟩ := bnd e40
       obtain ⟨⟨n62, n63⟩, hx64, e40⟩ := bnd e40
       try dsimp only at e40
       refine RG (MV rfl rfl (MV rfl rfl (ST (Ex.sliceL Tryz.underlying9 rfl rfl hxs61) rfl (WR.call H (utf8_DecodeRuneInString_ct hx64) rfl (hg_tabs) (Wn.none rfl) rfl ?_))))
       intro v65 M w H hle hR
       replace hg_tabs := hg_tabs.mono hle
       replace hs47 := hs47.mono hle
       try dsimp only at hR
       obtain rfl := hR
       refine MV rfl rfl (ST (Ex.extract rfl rfl) rfl (ST (Ex.extract rfl rfl) rfl (AS rfl rfl (AS rfl rfl (NL (TN (SQ (SQ (RG (MV rfl rfl (ST (Ex.eql rfl rfl) rfl (NL (TN ?_)))))))))))))
       refine WC.condB rfl (fun hk65 => ?_) (fun hk65 => ?_)
       ·
        replace hk65 : n63 = (1 : Int) := of_decide_eq_true hk65
        rw [if_pos hk65] at e40
        refine SQ ?_
        obtain ⟨n66, hxn66, e40⟩ := bnd e40
        refine RG (MV rfl rfl (ST (Ex.addC rfl rfl hxn66) rfl (AS rfl rfl (NL (TN (SQ (SQ (RG (MV rfl rfl (ST (Ex.not rfl) rfl (NL (TN ?_))))))))))))
        obtain ⟨o67, e68, e40⟩ := bnd e40
        refine WC.cutX (fun e w => ∃ (v69 : Value) (l72 : List UInt8) (v73 : Value) (b74 : Bool) (M : Mem), e = [(0, S s3), (1, S p1), (5, ptr bk5 0), (10, Value.bool b74), (11, I n66)] ∧ St w0 M0 M [.blk bk5 (.cells #[v69, v73] 175), RowI 5 encB v73 l72] w ∧ Tabs M ∧ BPM M bk5 v69 ∧ some (l72, b74) = some o67) [] ?_ ?_ (trivial)
        ·
         refine WC.condB rfl (fun hk75 => ?_) (fun hk75 => ?_)
         ·
          replace hk75 : b51 = false := by simpa using hk75
          subst hk75
          rw [if_neg Bool.false_ne_true] at e68
          refine SQ (RG (AS rfl rfl (NL (TN ?_))))
          obtain ⟨⟨n76, b77, l78⟩, hx79, e68⟩ := bnd e68
          try dsimp only at e68
          refine RG (MV rfl rfl ?_)
          refine WR.callX (A := [.blk bk5 (.cells #[v46, v50] 175), RowI 5 encB v50 l49]) (B := []) (H.pick (L' := [.blk bk5 (.cells #[v46, v50] 175), RowI 5 encB v50 l49]) (by repeat first | exact kPn | refine kPc (by repeat first | exact .head | apply Rem.tail) ?_)) (strings_Builder_WriteString_ct hx79) (.left (.left (Spl.all _))) rfl (hs47) (Wn.none rfl) rfl ?_
          intro v75 M w its H hle hR
          replace hg_tabs := hg_tabs.mono hle
          replace hs47 := hs47.mono hle
          try dsimp only at hR
          obtain ⟨x75_1, q75_0, u75_0, rfl, f75_1, hq75_0, rfl⟩ := hR
          simp only [List.cons_append, List.nil_append] at H
          refine NL ?_
          exact WQ.meetN [(0, _), (1, _), (5, _), (10, _), (11, _)] ⟨rfl, rfl, rfl, rfl, rfl, trivial⟩ ⟨_, _, _, _, _, rfl, H, hg_tabs, hq75_0, e68⟩
         ·
          replace hk75 : b51 = true := by simpa using hk75
          subst hk75
          rw [if_pos rfl] at e68
          refine SK ?_
          exact WQ.meetN [(0, _), (1, _), (5, _), (10, _), (11, _)] ⟨rfl, rfl, rfl, rfl, rfl, trivial⟩ ⟨_, _, _, _, _, rfl, H, hg_tabs, hs47, e68⟩
        ·
         rintro e w ⟨v69, l72, v73, b74, M, rfl, H, hg_tabs, hs70, q80⟩
         obtain rfl := oI q80
         try dsimp only at e40
         refine TN (WC.exit (WQ.thenExit (WQ.exitHere ?_)))
         exact WQ.againP m53 [(0, _), (1, _), (5, _), (10, _), (11, _)] ⟨rfl, rfl, rfl, rfl, rfl, trivial⟩ ⟨_, _, _, _, _, _, rfl, H, hg_tabs, hs70, e40⟩ (Nat.lt_succ_self _)
       ·
        replace hk65 : ¬ (n63 = (1 : Int)) := of_decide_eq_false hk65
        rw [if_neg hk65] at e40
        refine SK (TN (SQ (RG (AS rfl rfl (NL (TN (SQ ?_)))))))
        obtain ⟨n81, hxn81, e40⟩ := bnd e40
        obtain ⟨s82, hxs82, e40⟩ := bnd e40
        obtain ⟨⟨n83, b84, l85⟩, hx86, e40⟩ := bnd e40
        try dsimp only at e40
        refine RG (MV rfl rfl (MV rfl rfl (MV rfl rfl (MV rfl rfl (ST (Ex.addC rfl rfl hxn81) rfl (ST (Ex.sliceC Tryz.underlying9 rfl rfl rfl hxs82) rfl ?_))))))
        refine WR.callX (A := [.blk bk5 (.cells #[v46, v50] 175), RowI 5 encB v50 l49]) (B := []) (H.pick (L' := [.blk bk5 (.cells #[v46, v50] 175), RowI 5 encB v50 l49]) (by repeat first | exact kPn | refine kPc (by repeat first | exact .head | apply Rem.tail) ?_)) (strings_Builder_WriteString_ct hx86) (.left (.left (Spl.all _))) rfl (hs47) (Wn.none rfl) rfl ?_
        intro v82 M w its H hle hR
        replace hg_tabs := hg_tabs.mono hle
        replace hs47 := hs47.mono hle
        try dsimp only at hR
        obtain ⟨x82_1, q82_0, u82_0, rfl, f82_1, hq82_0, rfl⟩ := hR
        simp only [List.cons_append, List.nil_append] at H
        refine NL (TN ?_)
        obtain ⟨n87, hxn87, e40⟩ := bnd e40
        refine RG (MV rfl rfl (MV rfl rfl (ST (Ex.addC rfl rfl hxn87) rfl (AS rfl rfl (NL (IB ?_))))))
        exact WQ.againP m53 [(0, _), (1, _), (5, _), (10, _), (11, _)] ⟨rfl, rfl, rfl, rfl, rfl, trivial⟩ ⟨_, _, _, _, _, _, rfl, H, hg_tabs, hq82_0, e40⟩ (Nat.lt_succ_self _)
     ·
      replace hk54 : ¬ (n52 < (s3.length : Int)) := of_decide_eq_false hk54
      rw [if_neg hk54] at e40
      refine WC.exit (WQ.thenExit (WQ.thenExit (WQ.exitHere ?_)))
      exact WQ.meetN [(5, _)] ⟨rfl, trivial⟩ ⟨_, _, _, _, rfl, H, hg_tabs, hs47, e40⟩
    ·
     rintro e w ⟨v41, l44, v45, M, rfl, H, hg_tabs, hs42, q88⟩
     obtain rfl := oI q88
     refine TN (SQ ?_)
     obtain ⟨s89, hx90, h⟩ := bnd h
     refine RG ?_
     refine WR.callX (A := [.blk bk5 (.cells #[v41, v45] 175), RowI 5 encB v45 l44]) (B := []) (H.pick (L' := [.blk bk5 (.cells #[v41, v45] 175), RowI 5 encB v45 l44]) (by repeat first | exact kPn | refine kPc (by repeat first | exact .head | apply Rem.tail) ?_)) (strings_Builder_String_ct hx90) (.left (.left (Spl.all _))) rfl (hs42) (Wn.none rfl) rfl ?_
     intro v86 M w its H hle hR
     replace hg_tabs := hg_tabs.mono hle
     replace hs42 := hs42.mono hle
     obtain ⟨rfl, rfl⟩ := hR
     simp only [List.cons_append, List.nil_append] at H
     refine AS rfl rfl (NL (TN (RT ?_)))
     obtain rfl := oI h
     exact WQ.ret1 rfl rfl H.ext rfl
theorem slices_SortFunc_piece_ct {p0 r : List (List UInt8 × Int × Bool × List UInt8)} {vp0 : Value} (h : slices_SortFunc_piece p0 = some r) : CtX Tryz.prog 96 [vp0, .func (.func 97) #[] #[]] [RowS 85 4 xenc85 vp0 p0] (fun _ => True) (fun v M its => v = .tuple #[] ∧ its = [RowS 85 4 xenc85 vp0 r]) := sortPiece_ct h
theorem xplacesT : ∀ {fs : Array Field}, Tryz.prog.underlying 157 = some (.struct fs) → ∀ w, (fs.mapM fun f => do pure (f.offset, ← sizeOf f.type) : Sem (Array (Nat × Nat))).run Tryz.prog w = .ok #[(0, 256), (256, 1)] w := by
  intro fs h w
  rw [Tryz.underlying157] at h
  cases h
  simp
theorem tab0 {M : Mem} : ∀ (i : Nat) (o : Option (List UInt8)), (tabk 0)[i]? = some o → ∃ v, (List.replicate 256 (Value.slice none 0 0))[i]? = some v ∧ SlO M v o := by
  intro i o h
  have h0 : tabk 0 = List.replicate 256 none := by decide +kernel
  rw [h0] at h
  have hi : i < 256 := by have := (List.getElem?_eq_some_iff.1 h).1; simpa using this
  rw [List.getElem?_replicate, if_pos hi] at h
  cases h
  exact ⟨_, by rw [List.getElem?_replicate, if_pos hi], .inl ⟨rfl, rfl⟩⟩
theorem tab_step {M : Mem} {cs : List Value} {O k : Nat} {u : Value} {nn : List UInt8} (hcl : cs.length = 256) (htb : ∀ (i : Nat) (o : Option (List UInt8)), (tabk k)[i]? = some o → ∃ v, cs[i]? = some v ∧ SlO M v o) (hO : O < 256) (ht : tabk (k + 1) = (tabk k).set O (some nn)) (hs : SlO M u (some nn)) :
    ∀ (i : Nat) (o : Option (List UInt8)), (tabk (k + 1))[i]? = some o → ∃ v, (cs.set O u)[i]? = some v ∧ SlO M v o := by
  intro i o h
  rw [ht, List.getElem?_set] at h
  split at h
  · rename_i he
    subst he
    split at h
    · cases h
      exact ⟨u, by rw [List.getElem?_set_self (by omega)], hs⟩
    · cases h
  · rename_i he
    obtain ⟨v, hv, hs'⟩ := htb i o h
    exact ⟨v, by rw [List.getElem?_set_ne he]; exact hv, hs'⟩
theorem strings_Replacer_build_ct {p0 : List (List UInt8)} {bp0 : Nat} {vp0 : Value} {r : ((List (Option (List UInt8)) × List (List UInt8)) × List (List UInt8))} (h : strings_Replacer_build p0 = some r) : CtX Tryz.prog 85 [ptr bp0 0] [.blk bp0 (.cells #[Value.int .u32 0, Value.int .i32 1, Value.int .u32 0, Value.nilIface, vp0] 112)] (fun M => Sl M encS vp0 p0) (fun v M its => ∃ b0_, v = (Value.iface 158 (ptr b0_ 0)) ∧ TabO M b0_ 157 r.1.1 r.1.2 ∧ its = [.blk bp0 (.cells #[Value.int .u32 0, Value.int .i32 1, Value.int .u32 0, Value.nilIface, vp0] 112)]) := by
  refine CtX.of Tryz.func85 (enters Tryz.func85 (by kernel_rfl) rfl) rfl rfl rfl ?_
  intro w0 M0 H hp
  have hp0 := hp
  unfold strings_Replacer_build at h
  refine SQ (RG (AS rfl rfl (NL (TN (SQ (RG (MV rfl rfl (ST (Ex.nilCheckP rfl) rfl (ST (Ex.fieldAddr Tryz.underlying112 rfl Tryz.sizeOf75 (by decide) rfl) rfl (ST (Ex.load1 H rfl (by repeat first | exact kMh | apply kMt) Tryz.isAgg75 (by rfl)) rfl ?_))))))))))
  refine AS rfl rfl (NL (TN (SQ (SQ ?_))))
  obtain ⟨o1, e2, h⟩ := bnd h
  refine WC.cutX (fun e w => ∃ (b3 : Bool) (M : Mem), e = [(3, vp0), (28, Value.bool b3)] ∧ StX (feet [.blk bp0 (.cells #[Value.int .u32 0, Value.int .i32 1, Value.int .u32 0, Value.nilIface, vp0] 112)]) w0 M0 M [.blk bp0 (.cells #[Value.int .u32 0, Value.int .i32 1, Value.int .u32 0, Value.nilIface, vp0] 112)] w ∧ Sl M encS vp0 p0 ∧ some b3 = some o1) [] ?_ ?_ (trivial)
  ·
   refine RG (MV rfl rfl (ST (Ex.lenSl Tryz.underlying75 hp0 rfl) rfl ?_))
   by_cases hk4 : (p0.length : Int) = (2 : Int)
   ·
    rw [if_pos hk4] at e2
    obtain ⟨a5, hxa5, e2⟩ := bnd e2
    obtain ⟨bk24, o24, ha24, hc24⟩ := hp0.atC hxa5
    refine WR.stepE (v' := .bool true) (Ex.eql rfl rfl) (congrArg Value.bool (decide_eq_true hk4)) (Wn.none rfl) rfl rfl (MV rfl rfl (SG (Ex.move rfl) rfl rfl rfl (SG (Ex.idxAt ha24 Tryz.underlying75 Tryz.sizeOf9 rfl rfl) rfl rfl rfl (SG (Ex.loadM H rfl hc24 Tryz.isAgg9) rfl rfl rfl (SG (Ex.lenStr Tryz.underlying9 rfl) rfl rfl rfl (SG (Ex.gtr rfl rfl) rfl rfl rfl (PT rfl rfl rfl (NL ?_))))))))
    exact WQ.meetN [(3, _), (28, _)] ⟨rfl, rfl, trivial⟩ ⟨_, _, rfl, H, hp0, e2⟩
   ·
    rw [if_neg hk4] at e2
    refine WR.stepE (v' := .bool false) (Ex.eql rfl rfl) (congrArg Value.bool (decide_eq_false hk4)) (Wn.none rfl) rfl rfl (MV rfl rfl (WR.skipN 5 rfl rfl (PF rfl rfl rfl (NL ?_))))
    exact WQ.meetN [(3, _), (28, _)] ⟨rfl, rfl, trivial⟩ ⟨_, _, rfl, H, hp0, e2⟩
  ·
   rintro e w ⟨b3, M, rfl, H, hp0, q6⟩
   obtain rfl := oI q6
   refine TN ?_
   refine WC.condB rfl (fun hk7 => ?_) (fun hk7 => ?_)
   ·
    subst hk7
    rw [if_pos rfl] at h
    cases h
   ·
    subst hk7
    rw [if_neg Bool.false_ne_true] at h
    refine SK (TN (SQ (RG (AS rfl rfl (NL (TN (SQ (SQ (RG (AS rfl rfl (NL (TN ?_))))))))))))
    obtain ⟨o10, e11, h⟩ := bnd h
    refine WC.cutX (fun e w => ∃ (b12 : Bool) (M : Mem), e = [(3, vp0), (4, Value.bool b12)] ∧ StX (feet [.blk bp0 (.cells #[Value.int .u32 0, Value.int .i32 1, Value.int .u32 0, Value.nilIface, vp0] 112)]) w0 M0 M [.blk bp0 (.cells #[Value.int .u32 0, Value.int .i32 1, Value.int .u32 0, Value.nilIface, vp0] 112)] w ∧ Sl M encS vp0 p0 ∧ some (.inl b12) = some o10) [] ?_ ?_ (trivial)
    ·
     refine BL (WC.loopP (fun m e w => ∃ (b13 : Bool) (n14 : Int) (M : Mem), e = [(3, vp0), (4, Value.bool b13), (5, I n14)] ∧ StX (feet [.blk bp0 (.cells #[Value.int .u32 0, Value.int .i32 1, Value.int .u32 0, Value.nilIface, vp0] 112)]) w0 M0 M [.blk bp0 (.cells #[Value.int .u32 0, Value.int .i32 1, Value.int .u32 0, Value.nilIface, vp0] 112)] w ∧ Sl M encS vp0 p0 ∧ strings_Replacer_build_L1 p0 m b13 n14 = some o10) FU [(3, _), (4, _), (5, _)] ⟨rfl, rfl, rfl, trivial⟩ ⟨_, _, _, rfl, H, hp0, e11⟩ ?_)
     rintro m15 e w ⟨b13, n14, M, rfl, H, hp0, e11⟩
     rcases m15 with _ | m15
     · rw [strings_Replacer_build_L1] at e11; cases e11
     rw [strings_Replacer_build_L1] at e11
     refine SQ (SQ (RG (MV rfl rfl (MV rfl rfl (ST (Ex.lenSl Tryz.underlying75 hp0 rfl) rfl (ST (Ex.lss rfl rfl) rfl (NL (TN ?_))))))))
     refine WC.condB rfl (fun hk16 => ?_) (fun hk16 => ?_)
     ·
      replace hk16 : n14 < (p0.length : Int) := of_decide_eq_true hk16
      rw [if_pos hk16] at e11
      refine SK (TN (SQ (BL (SQ (SQ ?_)))))
      obtain ⟨a17, hxa17, e11⟩ := bnd e11
      obtain ⟨bk45, o45, ha45, hc45⟩ := hp0.atC hxa17
      refine RG (MV rfl rfl (MV rfl rfl (ST (Ex.idxAt ha45 Tryz.underlying75 Tryz.sizeOf9 rfl rfl) rfl (ST (Ex.loadM H rfl hc45 Tryz.isAgg9) rfl (ST (Ex.lenStr Tryz.underlying9 rfl) rfl (ST (Ex.neqC rfl rfl) rfl (NL (TN ?_))))))))
      refine WC.condB rfl (fun hk18 => ?_) (fun hk18 => ?_)
      ·
       replace hk18 : ¬ ((a17.length : Int) = (1 : Int)) := of_not_decide hk18
       rw [if_neg hk18] at e11
       cases e11
      ·
       replace hk18 : (a17.length : Int) = (1 : Int) := of_not_decide' hk18
       rw [if_pos hk18] at e11
       refine SK (TN (SQ ?_))
       obtain ⟨n19, hxn19, e11⟩ := bnd e11
       obtain ⟨a20, hxa20, e11⟩ := bnd e11
       obtain ⟨bk55, o55, ha55, hc55⟩ := hp0.atC hxa20
       refine RG (MV rfl rfl (MV rfl rfl (ST (Ex.addC rfl rfl hxn19) rfl (ST (Ex.idxAt ha55 Tryz.underlying75 Tryz.sizeOf9 rfl rfl) rfl (ST (Ex.loadM H rfl hc55 Tryz.isAgg9) rfl (ST (Ex.lenStr Tryz.underlying9 rfl) rfl (ST (Ex.neqC rfl rfl) rfl (NL (TN ?_)))))))))
       refine WC.condB rfl (fun hk21 => ?_) (fun hk21 => ?_)
       ·
        replace hk21 : ¬ ((a20.length : Int) = (1 : Int)) := of_not_decide hk21
        rw [if_neg hk21] at e11
        refine RG (AS rfl rfl (NL (IB (TN ?_))))
        obtain ⟨n22, hxn22, e11⟩ := bnd e11
        refine RG (MV rfl rfl (ST (Ex.addC rfl rfl hxn22) rfl (AS rfl rfl (NL ?_))))
        exact WQ.againP m15 [(3, _), (4, _), (5, _)] ⟨rfl, rfl, rfl, trivial⟩ ⟨_, _, _, rfl, H, hp0, e11⟩ (Nat.lt_succ_self _)
       ·
        replace hk21 : (a20.length : Int) = (1 : Int) := of_not_decide' hk21
        rw [if_pos hk21] at e11
        refine SK (IB (TN ?_))
        obtain ⟨n23, hxn23, e11⟩ := bnd e11
        refine RG (MV rfl rfl (ST (Ex.addC rfl rfl hxn23) rfl (AS rfl rfl (NL ?_))))
        exact WQ.againP m15 [(3, _), (4, _), (5, _)] ⟨rfl, rfl, rfl, trivial⟩ ⟨_, _, _, rfl, H, hp0, e11⟩ (Nat.lt_succ_self _)
     ·
      replace hk16 : ¬ (n14 < (p0.length : Int)) := of_decide_eq_false hk16
      rw [if_neg hk16] at e11
      refine WC.exit (WQ.thenExit (WQ.thenExit (WQ.exitHere ?_)))
      exact WQ.meetN [(3, _), (4, _)] ⟨rfl, rfl, trivial⟩ ⟨_, _, rfl, H, hp0, e11⟩
    ·
     rintro e w ⟨b12, M, rfl, H, hp0, q24⟩
     obtain rfl := oI q24
     try dsimp only at h
     refine TN (SQ (SQ (RG (MV rfl rfl (NL (TN ?_))))))
     refine WC.condB rfl (fun hk25 => ?_) (fun hk25 => ?_)
     ·
      subst hk25
      rw [if_pos rfl] at h
      cases h
     ·
      subst hk25
      rw [if_neg Bool.false_ne_true] at h
      split at h
      case isFalse => cases h
      rename_i hlit
      subst hlit
      cases h
      refine SK (TN (SQ (RG (MV rfl rfl (ST (Ex.lenSl Tryz.underlying75 hp0 rfl) rfl (ST (Ex.quoC (a := 4) (b := 2) (z := 2) rfl rfl rfl) rfl (WR.mkC (enc := encS) (z0 := ([] : List UInt8)) (a := 0) (c := 2) (l := []) xty75 rfl H rfl rfl rfl (Wn.none rfl) rfl ?_)))))))
      intro v94 w H0
      obtain ⟨A94, c94, hv94⟩ := H0.lenRow (by repeat first | exact kMh | apply kMt)
      refine ST (Ex.build (List.replicate 256 (Value.slice none 0 0) ++ [v94]) Tryz.underlying157 Tryz.zeroValue157 (xplacesT Tryz.underlying157) rfl (by subst hv94; kernel_rfl)) rfl ?_
      refine WR.alloc (List.replicate 256 (Value.slice none 0 0) ++ [Value.slice none 0 0]) H0 Tryz.zeroValue157 (by kernel_rfl) (Wn.none rfl) rfl ?_
      intro b11 w H
      refine WR.store (List.replicate 256 (Value.slice none 0 0) ++ [v94]) H rfl rfl rfl (by repeat first | exact .head | apply Upd.tail) Tryz.sizeOf157 rfl (by rfl) (by subst hv94; rfl) (Wn.none rfl) ?_
      intro w H
      refine NL (TN (SQ (SQ (RG (MV rfl rfl (ST (Ex.lenSl Tryz.underlying75 hp0 rfl) rfl (ST (Ex.subC (a := 4) (b := 2) (z := 2) rfl rfl rfl) rfl (AS rfl rfl (NL (TN ?_))))))))))
      refine WC.cutX (fun e w => ∃ (cs : List Value) (vr : Value) (M : Mem), e = [(11, ptr b11 0)] ∧ StX (feet [.blk bp0 (.cells #[Value.int .u32 0, Value.int .i32 1, Value.int .u32 0, Value.nilIface, vp0] 112)]) w0 M0 M [.blk b11 (.cells (cs ++ [vr]).toArray 157), RowI 9 encS vr (trk 2), .blk bp0 (.cells #[Value.int .u32 0, Value.int .i32 1, Value.int .u32 0, Value.nilIface, vp0] 112)] w ∧ cs.length = 256 ∧ (∀ (i : Nat) (o : Option (List UInt8)), (tabk 2)[i]? = some o → ∃ v, cs[i]? = some v ∧ SlO M v o)) [] ?_ ?_ (trivial)
      ·
       refine BL (WC.loopP (fun m e w => ∃ (k : Nat) (cs : List Value) (vr : Value) (M : Mem), e = [(3, vp0), (11, ptr b11 0), (12, I (2 - 2 * (k : Int)))] ∧ k ≤ 2 ∧ 2 - k < m ∧ StX (feet [.blk bp0 (.cells #[Value.int .u32 0, Value.int .i32 1, Value.int .u32 0, Value.nilIface, vp0] 112)]) w0 M0 M [.blk b11 (.cells (cs ++ [vr]).toArray 157), RowI 9 encS vr (trk k), .blk bp0 (.cells #[Value.int .u32 0, Value.int .i32 1, Value.int .u32 0, Value.nilIface, vp0] 112)] w ∧ Sl M encS vp0 [[92], [92, 92], [34], [92, 34]] ∧ cs.length = 256 ∧ (∀ (i : Nat) (o : Option (List UInt8)), (tabk k)[i]? = some o → ∃ v, cs[i]? = some v ∧ SlO M v o)) FU [(3, _), (11, _), (12, _)] ⟨rfl, rfl, rfl, trivial⟩ ⟨0, List.replicate 256 (Value.slice none 0 0), v94, _, rfl, by omega, by unfold FU; omega, H, hp0, by rw [List.length_replicate], tab0⟩ ?_)
       rintro m e w ⟨k, cs, vr, M, rfl, hk, hm, H, hp0, hcl, htb⟩
       obtain ⟨m, rfl⟩ : ∃ q, m = q + 1 := ⟨m - 1, by omega⟩
       obtain rfl | rfl | rfl : k = 0 ∨ k = 1 ∨ k = 2 := by omega
       · refine WC.seq ?_
         refine SQ (RG (MV rfl rfl (WR.stepT (Ex.geq rfl rfl) (by decide) (Wn.none rfl) rfl rfl (NL (TN (CT rfl (SK (TN (SQ (BL (SQ ?_)))))))))))
         obtain ⟨b105, o105, ha105, hc105⟩ := hp0.atC (i := 2) (a := [34]) rfl
         refine RG (MV rfl rfl (MV rfl rfl (ST (Ex.idxAt ha105 Tryz.underlying75 Tryz.sizeOf9 rfl rfl) rfl (ST (Ex.loadM H rfl hc105 Tryz.isAgg9) rfl (ST (Ex.idxStrC (i := 0) (c := 34) Tryz.underlying9 rfl rfl rfl) rfl (AS rfl rfl (NL (TN (SQ ?_)))))))))
         obtain ⟨b111, o111, ha111, hc111⟩ := hp0.atC (i := 3) (a := [92, 34]) rfl
         refine RG (MV rfl rfl (MV rfl rfl (ST (Ex.addC (z := 3) rfl rfl rfl) rfl (ST (Ex.idxAt ha111 Tryz.underlying75 Tryz.sizeOf9 rfl rfl) rfl (ST (Ex.loadM H rfl hc111 Tryz.isAgg9) rfl (AS rfl rfl (NL (TN (SQ (SQ ?_))))))))))
         have hnil : cs[34]? = some (Value.slice none 0 0) := by
           obtain ⟨v, hv, hs⟩ := htb 34 none (by decide +kernel)
           rcases hs with ⟨_, rfl⟩ | ⟨l, a, c, h, _⟩
           · exact hv
           · cases h
         have hcell : (cs ++ [vr])[34]? = some (Value.slice none 0 0) := by rw [List.getElem?_append_left (by omega)]; exact hnil
         refine RG (MV rfl rfl (ST (Ex.fieldAddr Tryz.underlying157 rfl Tryz.sizeOf155 (by decide) rfl) rfl (ST (Ex.idxArr (i := 34) Tryz.underlying155 Tryz.sizeOf93 rfl rfl (by decide)) rfl (ST (Ex.load1 H rfl (by repeat first | exact kMh | apply kMt) Tryz.isAgg93 hcell) rfl ?_))))
         refine ST (Ex.eqlNilS Tryz.underlying93 rfl) rfl (NL (TN (CT rfl (RG (ST (Ex.fieldAddr Tryz.underlying157 rfl Tryz.sizeOf75 (by decide) rfl) rfl ?_)))))
         have hlast : (cs ++ [vr])[256]? = some vr := by rw [List.getElem?_append_right (by omega), hcl]; rfl
         refine ST (Ex.load1 H rfl (by repeat first | exact kMh | apply kMt) Tryz.isAgg75 hlast) rfl ?_
         refine MV rfl rfl (WR.lit (enc := encB) xty93 ([34] : List UInt8) H rfl (by rfl) (fun _ => rfl) rfl rfl (Wn.none rfl) rfl ?_)
         intro v121 M w H hle hs121
         replace hp0 := hp0.mono hle
         replace htb : ∀ (i : Nat) (o : Option (List UInt8)), (tabk 0)[i]? = some o → ∃ v, cs[i]? = some v ∧ SlO M v o := fun i o ho => by obtain ⟨v, hv, hs⟩ := htb i o ho; exact ⟨v, hv, hs.mono hle⟩
         refine ST (Ex.toStr Tryz.underlying93 Tryz.underlying5 Tryz.underlying9 H hs121 rfl) rfl (WR.lit (enc := encS) xty75 ([[34]] : List (List UInt8)) H rfl (by rfl) (fun _ => rfl) rfl rfl (Wn.none rfl) rfl ?_)
         intro v123 M w H hle hs123
         replace hp0 := hp0.mono hle
         replace htb : ∀ (i : Nat) (o : Option (List UInt8)), (tabk 0)[i]? = some o → ∃ v, cs[i]? = some v ∧ SlO M v o := fun i o ho => by obtain ⟨v, hv, hs⟩ := htb i o ho; exact ⟨v, hv, hs.mono hle⟩
         refine WR.appC (l := trk 0) (l3 := trk (0 + 1)) xty75 rfl (fun _ => rfl) H rfl (fun _ => by repeat first | exact .head | apply Upd.tail) rfl hs123 (by decide +kernel) (Wn.none rfl) rfl ?_
         intro v124 w H
         have ho124 : One v124 := H.rowOne (by repeat first | exact kMh | apply kMt)
         refine ST (Ex.fieldAddr Tryz.underlying157 rfl Tryz.sizeOf75 (by decide) rfl) rfl ?_
         have hset1 : (cs ++ [vr]).set 256 v124 = cs ++ [v124] := by rw [List.set_append_right _ _ (by omega), hcl]; rfl
         refine WR.putV (cs ++ [v124]) H rfl rfl ho124 (by repeat first | exact .head | apply Upd.tail) hset1 Tryz.sizeOf75 (by rw [List.length_append, hcl]; exact (by decide : (256 : Nat) < 256 + 1)) (Wn.none rfl) ?_
         intro w H
         refine NL (TN (RG (MV rfl rfl (MV rfl rfl (WR.toBytesC H Tryz.underlying9 Tryz.underlying93 Tryz.underlying5 rfl (toB_ok (l := [92, 34]) (by decide)) (Wn.none rfl) rfl ?_)))))
         intro gb cap w hok H
         refine ST (Ex.fieldAddr Tryz.underlying157 rfl Tryz.sizeOf155 (by decide) rfl) rfl (ST (Ex.idxArr (i := 34) Tryz.underlying155 Tryz.sizeOf93 rfl rfl (by decide)) rfl ?_)
         have hset2 : (cs ++ [v124]).set 34 (.slice (some ⟨gb, 0, none⟩) 2 cap) = cs.set 34 (.slice (some ⟨gb, 0, none⟩) 2 cap) ++ [v124] := List.set_append_left _ _ (by omega)
         refine WR.putV (cs.set 34 (.slice (some ⟨gb, 0, none⟩) 2 cap) ++ [v124]) H rfl rfl (One.slice _ _ _) (by repeat first | exact .head | apply Upd.tail) hset2 Tryz.sizeOf93 (by rw [List.length_append, hcl]; exact (by decide : (34 : Nat) < 256 + 1)) (Wn.none rfl) ?_
         intro w H
         refine NL (IB (TN (RG (MV rfl rfl (ST (Ex.subC (z := 2 - 2 * ((0 + 1 : Nat) : Int)) rfl rfl rfl) rfl (AS rfl rfl (NL ?_)))))))
         obtain ⟨M, hle, hs, H⟩ := H.freezeSCN (gb := gb) (cap := cap) (t := 5) (by repeat first | exact .head | apply Rem.tail) hok ⟨⟨_, (by repeat first | exact kMh | apply kMt)⟩, trivial⟩
         exact WQ.againP m [(3, _), (11, _), (12, _)] ⟨rfl, rfl, rfl, trivial⟩ ⟨0 + 1, cs.set 34 (.slice (some ⟨gb, 0, none⟩) 2 cap), v124, _, rfl, by omega, by omega, H.pick (L' := [.blk b11 (.cells (cs.set 34 (.slice (some ⟨gb, 0, none⟩) 2 cap) ++ [v124]).toArray 157), RowI 9 encS v124 (trk (0 + 1)), .blk bp0 (.cells #[Value.int .u32 0, Value.int .i32 1, Value.int .u32 0, Value.nilIface, vp0] 112)]) (by repeat first | exact kPn | refine kPc (by repeat first | exact .head | apply Rem.tail) ?_), hp0.mono hle, by rw [List.length_set]; exact hcl, tab_step hcl (fun i o ho => by obtain ⟨v, hv, hs⟩ := htb i o ho; exact ⟨v, hv, hs.mono hle⟩) (by decide) (by decide +kernel) (.inr ⟨_, _, _, rfl, rfl, hs⟩)⟩ (Nat.lt_succ_self _)
       · refine WC.seq ?_
         refine SQ (RG (MV rfl rfl (WR.stepT (Ex.geq rfl rfl) (by decide) (Wn.none rfl) rfl rfl (NL (TN (CT rfl (SK (TN (SQ (BL (SQ ?_)))))))))))
         obtain ⟨b105, o105, ha105, hc105⟩ := hp0.atC (i := 0) (a := [92]) rfl
         refine RG (MV rfl rfl (MV rfl rfl (ST (Ex.idxAt ha105 Tryz.underlying75 Tryz.sizeOf9 rfl rfl) rfl (ST (Ex.loadM H rfl hc105 Tryz.isAgg9) rfl (ST (Ex.idxStrC (i := 0) (c := 92) Tryz.underlying9 rfl rfl rfl) rfl (AS rfl rfl (NL (TN (SQ ?_)))))))))
         obtain ⟨b111, o111, ha111, hc111⟩ := hp0.atC (i := 1) (a := [92, 92]) rfl
         refine RG (MV rfl rfl (MV rfl rfl (ST (Ex.addC (z := 1) rfl rfl rfl) rfl (ST (Ex.idxAt ha111 Tryz.underlying75 Tryz.sizeOf9 rfl rfl) rfl (ST (Ex.loadM H rfl hc111 Tryz.isAgg9) rfl (AS rfl rfl (NL (TN (SQ (SQ ?_))))))))))
         have hnil : cs[92]? = some (Value.slice none 0 0) := by
           obtain ⟨v, hv, hs⟩ := htb 92 none (by decide +kernel)
           rcases hs with ⟨_, rfl⟩ | ⟨l, a, c, h, _⟩
           · exact hv
           · cases h
         have hcell : (cs ++ [vr])[92]? = some (Value.slice none 0 0) := by rw [List.getElem?_append_left (by omega)]; exact hnil
         refine RG (MV rfl rfl (ST (Ex.fieldAddr Tryz.underlying157 rfl Tryz.sizeOf155 (by decide) rfl) rfl (ST (Ex.idxArr (i := 92) Tryz.underlying155 Tryz.sizeOf93 rfl rfl (by decide)) rfl (ST (Ex.load1 H rfl (by repeat first | exact kMh | apply kMt) Tryz.isAgg93 hcell) rfl ?_))))
         refine ST (Ex.eqlNilS Tryz.underlying93 rfl) rfl (NL (TN (CT rfl (RG (ST (Ex.fieldAddr Tryz.underlying157 rfl Tryz.sizeOf75 (by decide) rfl) rfl ?_)))))
         have hlast : (cs ++ [vr])[256]? = some vr := by rw [List.getElem?_append_right (by omega), hcl]; rfl
         refine ST (Ex.load1 H rfl (by repeat first | exact kMh | apply kMt) Tryz.isAgg75 hlast) rfl ?_
         refine MV rfl rfl (WR.lit (enc := encB) xty93 ([92] : List UInt8) H rfl (by rfl) (fun _ => rfl) rfl rfl (Wn.none rfl) rfl ?_)
         intro v121 M w H hle hs121
         replace hp0 := hp0.mono hle
         replace htb : ∀ (i : Nat) (o : Option (List UInt8)), (tabk 1)[i]? = some o → ∃ v, cs[i]? = some v ∧ SlO M v o := fun i o ho => by obtain ⟨v, hv, hs⟩ := htb i o ho; exact ⟨v, hv, hs.mono hle⟩
         refine ST (Ex.toStr Tryz.underlying93 Tryz.underlying5 Tryz.underlying9 H hs121 rfl) rfl (WR.lit (enc := encS) xty75 ([[92]] : List (List UInt8)) H rfl (by rfl) (fun _ => rfl) rfl rfl (Wn.none rfl) rfl ?_)
         intro v123 M w H hle hs123
         replace hp0 := hp0.mono hle
         replace htb : ∀ (i : Nat) (o : Option (List UInt8)), (tabk 1)[i]? = some o → ∃ v, cs[i]? = some v ∧ SlO M v o := fun i o ho => by obtain ⟨v, hv, hs⟩ := htb i o ho; exact ⟨v, hv, hs.mono hle⟩
         refine WR.appC (l := trk 1) (l3 := trk (1 + 1)) xty75 rfl (fun _ => rfl) H rfl (fun _ => by repeat first | exact .head | apply Upd.tail) rfl hs123 (by decide +kernel) (Wn.none rfl) rfl ?_
         intro v124 w H
         have ho124 : One v124 := H.rowOne (by repeat first | exact kMh | apply kMt)
         refine ST (Ex.fieldAddr Tryz.underlying157 rfl Tryz.sizeOf75 (by decide) rfl) rfl ?_
         have hset1 : (cs ++ [vr]).set 256 v124 = cs ++ [v124] := by rw [List.set_append_right _ _ (by omega), hcl]; rfl
         refine WR.putV (cs ++ [v124]) H rfl rfl ho124 (by repeat first | exact .head | apply Upd.tail) hset1 Tryz.sizeOf75 (by rw [List.length_append, hcl]; exact (by decide : (256 : Nat) < 256 + 1)) (Wn.none rfl) ?_
         intro w H
         refine NL (TN (RG (MV rfl rfl (MV rfl rfl (WR.toBytesC H Tryz.underlying9 Tryz.underlying93 Tryz.underlying5 rfl (toB_ok (l := [92, 92]) (by decide)) (Wn.none rfl) rfl ?_)))))
         intro gb cap w hok H
         refine ST (Ex.fieldAddr Tryz.underlying157 rfl Tryz.sizeOf155 (by decide) rfl) rfl (ST (Ex.idxArr (i := 92) Tryz.underlying155 Tryz.sizeOf93 rfl rfl (by decide)) rfl ?_)
         have hset2 : (cs ++ [v124]).set 92 (.slice (some ⟨gb, 0, none⟩) 2 cap) = cs.set 92 (.slice (some ⟨gb, 0, none⟩) 2 cap) ++ [v124] := List.set_append_left _ _ (by omega)
         refine WR.putV (cs.set 92 (.slice (some ⟨gb, 0, none⟩) 2 cap) ++ [v124]) H rfl rfl (One.slice _ _ _) (by repeat first | exact .head | apply Upd.tail) hset2 Tryz.sizeOf93 (by rw [List.length_append, hcl]; exact (by decide : (92 : Nat) < 256 + 1)) (Wn.none rfl) ?_
         intro w H
         refine NL (IB (TN (RG (MV rfl rfl (ST (Ex.subC (z := 2 - 2 * ((1 + 1 : Nat) : Int)) rfl rfl rfl) rfl (AS rfl rfl (NL ?_)))))))
         obtain ⟨M, hle, hs, H⟩ := H.freezeSCN (gb := gb) (cap := cap) (t := 5) (by repeat first | exact .head | apply Rem.tail) hok ⟨⟨_, (by repeat first | exact kMh | apply kMt)⟩, trivial⟩
         exact WQ.againP m [(3, _), (11, _), (12, _)] ⟨rfl, rfl, rfl, trivial⟩ ⟨1 + 1, cs.set 92 (.slice (some ⟨gb, 0, none⟩) 2 cap), v124, _, rfl, by omega, by omega, H.pick (L' := [.blk b11 (.cells (cs.set 92 (.slice (some ⟨gb, 0, none⟩) 2 cap) ++ [v124]).toArray 157), RowI 9 encS v124 (trk (1 + 1)), .blk bp0 (.cells #[Value.int .u32 0, Value.int .i32 1, Value.int .u32 0, Value.nilIface, vp0] 112)]) (by repeat first | exact kPn | refine kPc (by repeat first | exact .head | apply Rem.tail) ?_), hp0.mono hle, by rw [List.length_set]; exact hcl, tab_step hcl (fun i o ho => by obtain ⟨v, hv, hs⟩ := htb i o ho; exact ⟨v, hv, hs.mono hle⟩) (by decide) (by decide +kernel) (.inr ⟨_, _, _, rfl, rfl, hs⟩)⟩ (Nat.lt_succ_self _)
       · refine WC.seq ?_
         refine SQ (RG (MV rfl rfl (WR.stepF (Ex.geq rfl rfl) (by decide) (Wn.none rfl) rfl rfl (NL (TN (CF rfl (WC.exit (WQ.thenExit (WQ.thenExit (WQ.exitHere ?_))))))))))
         exact WQ.meetN [(11, _)] ⟨rfl, trivial⟩ ⟨cs, vr, _, rfl, H, hcl, htb⟩
      ·
       rintro e w ⟨cs, vr, M, rfl, H, hcl, htb⟩
       refine TN (SQ (RG (ST (Ex.makeIface Tryz.underlying158 rfl) rfl (AS rfl rfl (NL (TN (RT ?_)))))))
       obtain ⟨M, hle, hb, H⟩ := H.freezeVarN (b := b11) (by repeat first | exact .head | apply Rem.tail) ⟨⟨_, (by repeat first | exact kMh | apply kMt)⟩, trivial⟩
       obtain ⟨M, hle2, hs, H⟩ := H.freezeRowN (v := vr) (enc := encS) (t := 9) (by repeat first | exact .head | apply Rem.tail) ⟨⟨_, (by repeat first | exact kMh | apply kMt)⟩, trivial⟩
       exact WQ.retX1 (its := [.blk bp0 (.cells #[Value.int .u32 0, Value.int .i32 1, Value.int .u32 0, Value.nilIface, vp0] 112)]) rfl rfl H (by repeat first | exact kPn | refine kPc (by repeat first | exact .head | apply Rem.tail) ?_) ⟨_, rfl, ⟨cs, vr, hb.mono hle2, hcl, fun i o ho => by obtain ⟨v, hv, hs⟩ := htb i o ho; exact ⟨v, hv, (hs.mono hle).mono hle2⟩, hs⟩, rfl⟩
theorem strings_byteStringReplacer_Replace_ct {p0 : (List (Option (List UInt8)) × List (List UInt8))} {p1 : List UInt8} {bp0 : Nat} {r : List UInt8} (h : strings_byteStringReplacer_Replace p0 p1 = some r) : Ct Tryz.prog 218 [ptr bp0 0, S p1] (fun M => TabO M bp0 157 p0.1 p0.2) (fun v M => v = S r) := by
  refine Ct.of Tryz.func218 (enters Tryz.func218 (by kernel_rfl) rfl) rfl rfl rfl ?_
  intro w0 M0 H hp
  have hp0 := hp
  unfold strings_byteStringReplacer_Replace at h
  refine SQ (RG (AS rfl rfl (NL (TN (SQ (RG (MV rfl rfl (ST (Ex.lenStr Tryz.underlying9 rfl) rfl (AS rfl rfl (NL (TN (SQ (RG (AS rfl rfl (NL (TN (SQ (SQ ?_))))))))))))))))))
  obtain ⟨v21, hc21, hs21⟩ := hp0.tl
  obtain ⟨n1, hxn1, h⟩ := bnd h
  refine RG (MV rfl rfl (ST (Ex.nilCheckP rfl) rfl (ST (Ex.fieldAddr Tryz.underlying157 rfl Tryz.sizeOf75 (by decide) rfl) rfl (ST (Ex.loadM H rfl hc21 Tryz.isAgg75) rfl (ST (Ex.lenSl Tryz.underlying75 hs21 rfl) rfl (ST (Ex.mulC rfl rfl hxn1) rfl (MV rfl rfl (ST (Ex.lenStr Tryz.underlying9 rfl) rfl (ST (Ex.leq rfl rfl) rfl (NL (TN ?_)))))))))))
  obtain ⟨o2, e3, h⟩ := bnd h
  refine WC.cutX (fun e w => ∃ (n4 : Int) (b5 : Bool) (M : Mem), e = [(0, ptr bp0 0), (1, S p1), (5, I n4), (6, Value.bool b5)] ∧ St w0 M0 M [] w ∧ TabO M bp0 157 p0.1 p0.2 ∧ some (n4, b5) = some o2) [] ?_ ?_ (trivial)
  ·
   refine WC.condB rfl (fun hk6 => ?_) (fun hk6 => ?_)
   ·
    replace hk6 : n1 ≤ (p1.length : Int) := of_decide_eq_true hk6
    rw [if_pos hk6] at e3
    refine SQ ?_
    obtain ⟨v30, hc30, hs30⟩ := hp0.tl
    refine RG (MV rfl rfl (ST (Ex.nilCheckP rfl) rfl (ST (Ex.fieldAddr Tryz.underlying157 rfl Tryz.sizeOf75 (by decide) rfl) rfl (ST (Ex.loadM H rfl hc30 Tryz.isAgg75) rfl (ST (Ex.lenSl Tryz.underlying75 hs30 rfl) rfl (MV rfl rfl (NL (TN ?_))))))))
    obtain ⟨o7, e8, e3⟩ := bnd e3
    refine WC.cutX (fun e w => ∃ (n9 : Int) (b10 : Bool) (M : Mem), e = [(0, ptr bp0 0), (1, S p1), (5, I n9), (6, Value.bool b10)] ∧ St w0 M0 M [] w ∧ TabO M bp0 157 p0.1 p0.2 ∧ some (n9, b10) = some o7) [] ?_ ?_ (trivial)
    ·
     refine BL (WC.loopP (fun m e w => ∃ (n11 : Int) (b12 : Bool) (n13 : Int) (M : Mem), e = [(0, ptr bp0 0), (1, S p1), (5, I n11), (6, Value.bool b12), (30, v30), (31, I (p0.2.length : Int)), (32, I n13)] ∧ St w0 M0 M [] w ∧ TabO M bp0 157 p0.1 p0.2 ∧ Sl M encS v30 p0.2 ∧ strings_byteStringReplacer_Replace_L1 p0 p1 m n11 b12 n13 = some o7) FU [(0, _), (1, _), (5, _), (6, _), (30, _), (31, _), (32, _)] ⟨rfl, rfl, rfl, rfl, rfl, rfl, rfl, trivial⟩ ⟨_, _, _, _, rfl, H, hp0, hs30, e8⟩ ?_)
     rintro m14 e w ⟨n11, b12, n13, M, rfl, H, hp0, hs30, e8⟩
     rcases m14 with _ | m14
     · rw [strings_byteStringReplacer_Replace_L1] at e8; cases e8
     rw [strings_byteStringReplacer_Replace_L1] at e8
     refine SQ (RG (ST (Ex.lss rfl rfl) rfl (NL (TN (SQ ?_)))))
     refine WC.condB rfl (fun hk15 => ?_) (fun hk15 => ?_)
     ·
      replace hk15 : n13 < (p0.2.length : Int) := of_decide_eq_true hk15
      rw [if_pos hk15] at e8
      refine SK (TN (SQ (BL (SQ ?_))))
      obtain ⟨a16, hxa16, e8⟩ := bnd e8
      obtain ⟨bk34, o34, ha34, hc34⟩ := hs30.atC hxa16
      refine RG (ST (Ex.idxAt ha34 Tryz.underlying75 Tryz.sizeOf9 rfl rfl) rfl (ST (Ex.loadM H rfl hc34 Tryz.isAgg9) rfl (AS rfl rfl (NL (TN (SQ ?_))))))
      obtain ⟨n17, hx18, e8⟩ := bnd e8
      refine RG (MV rfl rfl (MV rfl rfl (WR.call H (strings_Count_ct hx18) rfl trivial (Wn.none rfl) rfl ?_)))
      intro v38 M w H hle hR
      replace hs30 := hs30.mono hle
      replace hc34 := hc34.mono hle
      replace hp0 := hp0.mono hle
      obtain rfl := hR
      refine AS rfl rfl (NL (TN (SQ (RG (MV rfl rfl (ST (Ex.neqC rfl rfl) rfl (NL (TN ?_))))))))
      refine WC.condB rfl (fun hk19 => ?_) (fun hk19 => ?_)
      ·
       replace hk19 : ¬ (n17 = (0 : Int)) := of_not_decide hk19
       rw [if_neg hk19] at e8
       refine SQ ?_
       obtain ⟨c20, hxc20, e8⟩ := bnd e8
       obtain ⟨q21, hxq21, e8⟩ := bnd e8
       obtain ⟨v48, hc48, ho48⟩ := hp0.at hxq21
       obtain ⟨n22, hxn22, e8⟩ := bnd e8
       obtain ⟨n23, hxn23, e8⟩ := bnd e8
       obtain ⟨n24, hxn24, e8⟩ := bnd e8
       refine WC.draw (m := 14) rfl rfl H ?_
       intro w H
       refine WA.take (i := 0) rfl (by kernel_rfl) (by kernel_rfl) (by kernel_rfl) (fun _ => Ex.move rfl) (Wn.none rfl) rfl rfl (fun _ _ => rfl) (WA.take (i := 1) rfl (by kernel_rfl) (by kernel_rfl) (by kernel_rfl) (fun _ => Ex.move rfl) (Wn.none rfl) rfl rfl (fun _ _ => rfl) (WA.take (i := 2) rfl (by kernel_rfl) (by kernel_rfl) (by kernel_rfl) (fun _ => Ex.move rfl) (Wn.none rfl) rfl rfl (fun _ _ => rfl) (WA.take (i := 3) rfl (by kernel_rfl) (by kernel_rfl) (by kernel_rfl) (fun _ => Ex.move rfl) (Wn.none rfl) rfl rfl (fun _ _ => rfl) (WA.take (i := 4) rfl (by kernel_rfl) (by kernel_rfl) (by kernel_rfl) (fun _ => Ex.idxStrC Tryz.underlying9 rfl rfl hxc20) (Wn.none rfl) rfl rfl (fun _ _ => rfl) (WA.seq (fuel := 0) [5, 6, 7, 8, 9, 10, 11, 12, 13] rfl (by kernel_rfl) (ST (Ex.nilCheckP rfl) rfl (ST (Ex.fieldAddr Tryz.underlying157 rfl Tryz.sizeOf155 (by decide) rfl) rfl (ST (Ex.idxArrO Tryz.underlying155 Tryz.sizeOf93 rfl rfl hxq21) rfl ?_))))))))
       refine ST (Ex.loadM H rfl hc48 Tryz.isAgg93) rfl (ST (Ex.lenSl Tryz.underlying93 ho48.sl rfl) rfl (ST (Ex.subC rfl rfl hxn22) rfl (ST (Ex.mulC rfl rfl hxn23) rfl (ST (Ex.addC rfl rfl hxn24) rfl (AS rfl rfl (NA (WA.done (by kernel_rfl) (TN (RG (AS rfl rfl (NL (IB (TN ?_)))))))))))))
       obtain ⟨n25, hxn25, e8⟩ := bnd e8
       refine RG (ST (Ex.addC rfl rfl hxn25) rfl (MV rfl rfl (NL ?_)))
       exact WQ.againP m14 [(0, _), (1, _), (5, _), (6, _), (30, _), (31, _), (32, _)] ⟨rfl, rfl, rfl, rfl, rfl, rfl, rfl, trivial⟩ ⟨_, _, _, _, rfl, H, hp0, hs30, e8⟩ (Nat.lt_succ_self _)
      ·
       replace hk19 : n17 = (0 : Int) := of_not_decide' hk19
       rw [if_pos hk19] at e8
       refine SK (IB (TN ?_))
       obtain ⟨n26, hxn26, e8⟩ := bnd e8
       refine RG (ST (Ex.addC rfl rfl hxn26) rfl (MV rfl rfl (NL ?_)))
       exact WQ.againP m14 [(0, _), (1, _), (5, _), (6, _), (30, _), (31, _), (32, _)] ⟨rfl, rfl, rfl, rfl, rfl, rfl, rfl, trivial⟩ ⟨_, _, _, _, rfl, H, hp0, hs30, e8⟩ (Nat.lt_succ_self _)
     ·
      replace hk15 : ¬ (n13 < (p0.2.length : Int)) := of_decide_eq_false hk15
      rw [if_neg hk15] at e8
      refine WC.exit (WQ.thenExit (WQ.thenExit (WQ.exitHere ?_)))
      exact WQ.meetN [(0, _), (1, _), (5, _), (6, _)] ⟨rfl, rfl, rfl, rfl, trivial⟩ ⟨_, _, _, rfl, H, hp0, e8⟩
    ·
     rintro e w ⟨n9, b10, M, rfl, H, hp0, q27⟩
     obtain rfl := oI q27
     try dsimp only at e3
     exact WQ.meetN [(0, _), (1, _), (5, _), (6, _)] ⟨rfl, rfl, rfl, rfl, trivial⟩ ⟨_, _, _, rfl, H, hp0, e3⟩
   ·
    replace hk6 : ¬ (n1 ≤ (p1.length : Int)) := of_decide_eq_false hk6
    rw [if_neg hk6] at e3
    refine SQ (RG (AS rfl rfl (NL (TN ?_))))
    obtain ⟨o28, e29, e3⟩ := bnd e3
    refine WC.cutX (fun e w => ∃ (n30 : Int) (b31 : Bool) (M : Mem), e = [(0, ptr bp0 0), (1, S p1), (5, I n30), (6, Value.bool b31)] ∧ St w0 M0 M [] w ∧ TabO M bp0 157 p0.1 p0.2 ∧ some (n30, b31) = some o28) [] ?_ ?_ (trivial)
    ·
     refine BL (WC.loopP (fun m e w => ∃ (n32 : Int) (b33 : Bool) (n34 : Int) (M : Mem), e = [(0, ptr bp0 0), (1, S p1), (5, I n32), (6, Value.bool b33), (10, I n34)] ∧ St w0 M0 M [] w ∧ TabO M bp0 157 p0.1 p0.2 ∧ strings_byteStringReplacer_Replace_L2 p0 p1 m n32 b33 n34 = some o28) FU [(0, _), (1, _), (5, _), (6, _), (10, _)] ⟨rfl, rfl, rfl, rfl, rfl, trivial⟩ ⟨_, _, _, _, rfl, H, hp0, e29⟩ ?_)
     rintro m35 e w ⟨n32, b33, n34, M, rfl, H, hp0, e29⟩
     rcases m35 with _ | m35
     · rw [strings_byteStringReplacer_Replace_L2] at e29; cases e29
     rw [strings_byteStringReplacer_Replace_L2] at e29
     refine SQ (SQ (RG (MV rfl rfl (MV rfl rfl (ST (Ex.lenStr Tryz.underlying9 rfl) rfl (ST (Ex.lss rfl rfl) rfl (NL (TN ?_))))))))
     refine WC.condB rfl (fun hk36 => ?_) (fun hk36 => ?_)
     ·
      replace hk36 : n34 < (p1.length : Int) := of_decide_eq_true hk36
      rw [if_pos hk36] at e29
      refine SK (TN (SQ (BL (SQ ?_))))
      obtain ⟨c37, hxc37, e29⟩ := bnd e29
      refine RG (MV rfl rfl (MV rfl rfl (ST (Ex.idxStrC Tryz.underlying9 rfl rfl hxc37) rfl (AS rfl rfl (NL (TN (SQ ?_)))))))
      obtain ⟨q38, hxq38, e29⟩ := bnd e29
      obtain ⟨v68, hc68, ho68⟩ := hp0.at hxq38
      refine RG (MV rfl rfl (MV rfl rfl (ST (Ex.nilCheckP rfl) rfl (ST (Ex.fieldAddr Tryz.underlying157 rfl Tryz.sizeOf155 (by decide) rfl) rfl (ST (Ex.idxArrO Tryz.underlying155 Tryz.sizeOf93 rfl rfl hxq38) rfl (ST (Ex.loadM H rfl hc68 Tryz.isAgg93) rfl (ST (Ex.neqNilO Tryz.underlying93 ho68 rfl) rfl (NL (TN ?_)))))))))
      refine WC.condB rfl (fun hk39 => ?_) (fun hk39 => ?_)
      ·
       rw [if_pos hk39] at e29
       refine SQ ?_
       obtain ⟨q40, hxq40, e29⟩ := bnd e29
       obtain ⟨v76, hc76, ho76⟩ := hp0.at hxq40
       obtain ⟨n41, hxn41, e29⟩ := bnd e29
       obtain ⟨n42, hxn42, e29⟩ := bnd e29
       refine RG (MV rfl rfl (MV rfl rfl (MV rfl rfl (ST (Ex.nilCheckP rfl) rfl (ST (Ex.fieldAddr Tryz.underlying157 rfl Tryz.sizeOf155 (by decide) rfl) rfl (ST (Ex.idxArrO Tryz.underlying155 Tryz.sizeOf93 rfl rfl hxq40) rfl (ST (Ex.loadM H rfl hc76 Tryz.isAgg93) rfl (ST (Ex.lenSl Tryz.underlying93 ho76.sl rfl) rfl (ST (Ex.subC rfl rfl hxn41) rfl (ST (Ex.addC rfl rfl hxn42) rfl (AS rfl rfl (NL (TN (RG (AS rfl rfl (NL (IB (TN ?_))))))))))))))))))
       obtain ⟨n43, hxn43, e29⟩ := bnd e29
       refine RG (MV rfl rfl (ST (Ex.addC rfl rfl hxn43) rfl (AS rfl rfl (NL ?_))))
       exact WQ.againP m35 [(0, _), (1, _), (5, _), (6, _), (10, _)] ⟨rfl, rfl, rfl, rfl, rfl, trivial⟩ ⟨_, _, _, _, rfl, H, hp0, e29⟩ (Nat.lt_succ_self _)
      ·
       rw [if_neg (by rw [hk39]; exact Bool.false_ne_true)] at e29
       refine SK (IB (TN ?_))
       obtain ⟨n44, hxn44, e29⟩ := bnd e29
       refine RG (MV rfl rfl (ST (Ex.addC rfl rfl hxn44) rfl (AS rfl rfl (NL ?_))))
       exact WQ.againP m35 [(0, _), (1, _), (5, _), (6, _), (10, _)] ⟨rfl, rfl, rfl, rfl, rfl, trivial⟩ ⟨_, _, _, _, rfl, H, hp0, e29⟩ (Nat.lt_succ_self _)
     ·
      replace hk36 : ¬ (n34 < (p1.length : Int)) := of_decide_eq_false hk36
      rw [if_neg hk36] at e29
      refine WC.exit (WQ.thenExit (WQ.thenExit (WQ.exitHere ?_)))
      exact WQ.meetN [(0, _), (1, _), (5, _), (6, _)] ⟨rfl, rfl, rfl, rfl, trivial⟩ ⟨_, _, _, rfl, H, hp0, e29⟩
    ·
     rintro e w ⟨n30, b31, M, rfl, H, hp0, q45⟩
     obtain rfl := oI q45
     try dsimp only at e3
     exact WQ.meetN [(0, _), (1, _), (5, _), (6, _)] ⟨rfl, rfl, rfl, rfl, trivial⟩ ⟨_, _, _, rfl, H, hp0, e3⟩
  ·
   rintro e w ⟨n4, b5, M, rfl, H, hp0, q46⟩
   obtain rfl := oI q46
   try dsimp only at h
   refine TN (SQ (SQ (RG (MV rfl rfl (ST (Ex.not rfl) rfl (NL (TN ?_)))))))
   refine WC.condB rfl (fun hk47 => ?_) (fun hk47 => ?_)
   ·
    replace hk47 : b5 = false := by simpa using hk47
    subst hk47
    rw [if_neg Bool.false_ne_true] at h
    refine SQ (RG (MV rfl rfl (AS rfl rfl (NL (TN (RT ?_))))))
    obtain rfl := oI h
    exact WQ.ret1 rfl rfl H.ext rfl
   ·
    replace hk47 : b5 = true := by simpa using hk47
    subst hk47
    rw [if_pos rfl] at h
    refine SK (TN (SQ ?_))
    obtain ⟨l48, hxl48, h⟩ := bnd h
    refine RG (MV rfl rfl (WR.mkC (enc := encB) (z0 := (0 : UInt8)) xty93 rfl H rfl rfl hxl48 (Wn.none rfl) rfl ?_))
    intro v85 w H
    refine AS rfl rfl (NL (TN (SQ (RG (AS rfl rfl (NL (TN (SQ (SQ (RG (AS rfl rfl (NL (TN ?_)))))))))))))
    obtain ⟨o50, e51, h⟩ := bnd h
    refine WC.cutX (fun e w => ∃ (l52 : List UInt8) (M : Mem), e = [(12, v85)] ∧ St w0 M0 M [RowI 5 encB v85 l52] w ∧ some l52 = some o50) [] ?_ ?_ (trivial)
    ·
     refine BL (WC.loopP (fun m e w => ∃ (l53 : List UInt8) (n54 : Int) (n55 : Int) (M : Mem), e = [(0, ptr bp0 0), (1, S p1), (12, v85), (13, I n54), (14, I n55)] ∧ St w0 M0 M [RowI 5 encB v85 l53] w ∧ TabO M bp0 157 p0.1 p0.2 ∧ strings_byteStringReplacer_Replace_L3 p0 p1 m l53 n54 n55 = some o50) FU [(0, _), (1, _), (12, _), (13, _), (14, _)] ⟨rfl, rfl, rfl, rfl, rfl, trivial⟩ ⟨_, _, _, _, rfl, H, hp0, e51⟩ ?_)
     rintro m56 e w ⟨l53, n54, n55, M, rfl, H, hp0, e51⟩
     rcases m56 with _ | m56
     · rw [strings_byteStringReplacer_Replace_L3] at e51; cases e51
     rw [strings_byteStringReplacer_Replace_L3] at e51
     refine SQ (SQ (RG (MV rfl rfl (MV rfl rfl (ST (Ex.lenStr Tryz.underlying9 rfl) rfl (ST (Ex.lss rfl rfl) rfl (NL (TN ?_))))))))
     refine WC.condB rfl (fun hk57 => ?_) (fun hk57 => ?_)
     ·
      replace hk57 : n55 < (p1.length : Int) := of_decide_eq_true hk57
      rw [if_pos hk57] at e51
      refine SK (TN (SQ (BL (SQ ?_))))
      obtain ⟨c58, hxc58, e51⟩ := bnd e51
      refine RG (MV rfl rfl (MV rfl rfl (ST (Ex.idxStrC Tryz.underlying9 rfl rfl hxc58) rfl (AS rfl rfl (NL (TN (SQ ?_)))))))
      obtain ⟨q59, hxq59, e51⟩ := bnd e51
      obtain ⟨v99, hc99, ho99⟩ := hp0.at hxq59
      refine RG (MV rfl rfl (MV rfl rfl (ST (Ex.nilCheckP rfl) rfl (ST (Ex.fieldAddr Tryz.underlying157 rfl Tryz.sizeOf155 (by decide) rfl) rfl (ST (Ex.idxArrO Tryz.underlying155 Tryz.sizeOf93 rfl rfl hxq59) rfl (ST (Ex.loadM H rfl hc99 Tryz.isAgg93) rfl (ST (Ex.neqNilO Tryz.underlying93 ho99 rfl) rfl (NL (TN ?_)))))))))
      refine WC.condB rfl (fun hk60 => ?_) (fun hk60 => ?_)
      ·
       rw [if_pos hk60] at e51
       obtain ⟨n61, hxn61, e51⟩ := bnd e51
       obtain ⟨q62, hxq62, e51⟩ := bnd e51
       obtain ⟨v110, hc110, ho110⟩ := hp0.at hxq62
       obtain ⟨⟨l63, n64⟩, hx65, e51⟩ := bnd e51
       try dsimp only at e51
       obtain ⟨n66, hxn66, e51⟩ := bnd e51
       refine WC.cutP (fun e w => ∃  (M : Mem), e = [(0, ptr bp0 0), (1, S p1), (12, v85), (13, I n66), (14, I n55)] ∧ St w0 M0 M [RowI 5 encB v85 l63] w ∧ TabO M bp0 157 p0.1 p0.2) ?_ ?_
       ·
        refine WC.draw (m := 13) rfl rfl H ?_
        intro w H
        refine WA.take (i := 0) rfl (by kernel_rfl) (by kernel_rfl) (by kernel_rfl) (fun _ => Ex.move rfl) (Wn.none rfl) rfl rfl (fun _ _ => rfl) (WA.take (i := 1) rfl (by kernel_rfl) (by kernel_rfl) (by kernel_rfl) (fun _ => Ex.move rfl) (Wn.none rfl) rfl rfl (fun _ _ => rfl) (WA.take (i := 2) rfl (by kernel_rfl) (by kernel_rfl) (by kernel_rfl) (fun _ => Ex.move rfl) (Wn.none rfl) rfl rfl (fun _ _ => rfl) (WA.take (i := 4) rfl (by kernel_rfl) (by kernel_rfl) (by kernel_rfl) (fun _ => Ex.move rfl) (Wn.none rfl) rfl rfl (fun _ _ => rfl) (WA.take (i := 5) rfl (by kernel_rfl) (by kernel_rfl) (by kernel_rfl) (fun _ => Ex.move rfl) (Wn.none rfl) rfl rfl (fun _ _ => rfl) (WA.take (i := 6) rfl (by kernel_rfl) (by kernel_rfl) (by kernel_rfl) (fun _ => Ex.nilCheckP rfl) (Wn.none rfl) rfl rfl (fun _ _ => rfl) (WA.take (i := 7) rfl (by kernel_rfl) (by kernel_rfl) (by kernel_rfl) (fun _ => Ex.fieldAddr Tryz.underlying157 rfl Tryz.sizeOf155 (by decide) rfl) (Wn.none rfl) rfl rfl (fun _ _ => rfl) ?_))))))
        refine WA.take (i := 8) rfl (by kernel_rfl) (by kernel_rfl) (by kernel_rfl) (fun _ => Ex.idxArrO Tryz.underlying155 Tryz.sizeOf93 rfl rfl hxq62) (Wn.none rfl) rfl rfl (fun _ _ => rfl) ?_
        refine WA.two (i := 3) (j := 9) (by kernel_rfl) rfl rfl ?_ ?_
        ·
         refine WR.rowFrom (l := l53) Tryz.underlying93 Tryz.sizeOf5 H (by repeat first | exact kMh | apply kMt) hxn61 rfl rfl (Wn.none rfl) rfl ?_
         intro v105 hb105
         refine NA (WA.seq (fuel := 0) [9, 10, 11, 12] rfl (by kernel_rfl) (ST (Ex.loadM H rfl hc110 Tryz.isAgg93) rfl (WR.copyC (l := l53) Tryz.underlying93 xone1_5 (fun _ => rfl) H (fun _ => by repeat first | exact .head | apply Upd.tail) hb105 (ho110.sl) hx65 rfl rfl (Wn.none rfl) rfl ?_)))
         intro w H
         refine ST (Ex.addC rfl rfl hxn66) rfl (AS rfl rfl (NA (WA.done (by kernel_rfl) ?_)))
         exact WQ.meetP [(0, _), (1, _), (12, _), (13, _), (14, _)] ⟨rfl, rfl, rfl, rfl, rfl, trivial⟩ ⟨_, rfl, H, hp0⟩
        ·
         refine ST (Ex.loadM H rfl hc110 Tryz.isAgg93) rfl (NA (WA.seq (fuel := 0) [3, 10, 11, 12] rfl (by kernel_rfl) (WR.rowFrom (l := l53) Tryz.underlying93 Tryz.sizeOf5 H (by repeat first | exact kMh | apply kMt) hxn61 rfl rfl (Wn.none rfl) rfl ?_)))
         intro v105 hb105
         refine WR.copyC (l := l53) Tryz.underlying93 xone1_5 (fun _ => rfl) H (fun _ => by repeat first | exact .head | apply Upd.tail) hb105 (ho110.sl) hx65 rfl rfl (Wn.none rfl) rfl ?_
         intro w H
         refine ST (Ex.addC rfl rfl hxn66) rfl (AS rfl rfl (NA (WA.done (by kernel_rfl) ?_)))
         exact WQ.meetP [(0, _), (1, _), (12, _), (13, _), (14, _)] ⟨rfl, rfl, rfl, rfl, rfl, trivial⟩ ⟨_, rfl, H, hp0⟩
       ·
        rintro e w ⟨M, rfl, H, hp0⟩
        refine IB (TN ?_)
        obtain ⟨n67, hxn67, e51⟩ := bnd e51
        refine RG (MV rfl rfl (ST (Ex.addC rfl rfl hxn67) rfl (AS rfl rfl (NL ?_))))
        exact WQ.againP m56 [(0, _), (1, _), (12, _), (13, _), (14, _)] ⟨rfl, rfl, rfl, rfl, rfl, trivial⟩ ⟨_, _, _, _, rfl, H, hp0, e51⟩ (Nat.lt_succ_self _)
      ·
       rw [if_neg (by rw [hk60]; exact Bool.false_ne_true)] at e51
       refine SQ ?_
       obtain ⟨c68, hxc68, e51⟩ := bnd e51
       obtain ⟨l69, hxl69, e51⟩ := bnd e51
       refine RG (MV rfl rfl (MV rfl rfl (MV rfl rfl (WR.idxRowC (l := l53) H Tryz.underlying93 Tryz.sizeOf5 (by repeat first | exact kMh | apply kMt) rfl rfl hxc68 (Wn.none rfl) rfl ?_))))
       intro g117 hg117
       refine WR.storeRowC (a := c58) H rfl rfl ⟨rfl, rfl⟩ hg117 (fun _ => by repeat first | exact .head | apply Upd.tail) hxl69 Tryz.sizeOf5 (Wn.none rfl) ?_
       intro w H
       refine NL (TN ?_)
       obtain ⟨n70, hxn70, e51⟩ := bnd e51
       refine RG (MV rfl rfl (ST (Ex.addC rfl rfl hxn70) rfl (AS rfl rfl (NL (IB (TN ?_))))))
       obtain ⟨n71, hxn71, e51⟩ := bnd e51
       refine RG (MV rfl rfl (ST (Ex.addC rfl rfl hxn71) rfl (AS rfl rfl (NL ?_))))
       exact WQ.againP m56 [(0, _), (1, _), (12, _), (13, _), (14, _)] ⟨rfl, rfl, rfl, rfl, rfl, trivial⟩ ⟨_, _, _, _, rfl, H, hp0, e51⟩ (Nat.lt_succ_self _)
     ·
      replace hk57 : ¬ (n55 < (p1.length : Int)) := of_decide_eq_false hk57
      rw [if_neg hk57] at e51
      refine WC.exit (WQ.thenExit (WQ.thenExit (WQ.exitHere ?_)))
      exact WQ.meetN [(12, _)] ⟨rfl, trivial⟩ ⟨_, _, rfl, H, e51⟩
    ·
     rintro e w ⟨l52, M, rfl, H, q72⟩
     obtain rfl := oI q72
     refine TN (SQ (RG (MV rfl rfl ?_)))
     obtain ⟨M, hle, hs73, H⟩ := H.freezeRow (v := v85) (enc := encB) (t := 5) (by repeat first | exact .head | apply Rem.tail)
     refine ST (Ex.toStr Tryz.underlying93 Tryz.underlying5 Tryz.underlying9 H (hs73) rfl) rfl (AS rfl rfl (NL (TN (RT ?_))))
     obtain rfl := oI h
     exact WQ.ret1 rfl rfl H.ext rfl
def RplT (M : Mem) (b2 : Nat) : Prop := TabO M b2 157 (tabk 2) (trk 2)
theorem RplT.mono {M M' : Mem} {b2 : Nat} (h : RplT M b2) (hl : M.le M') : RplT M' b2 := TabO.mono h hl
theorem rplBuilt : strings_Replacer_build [[92], [92, 92], [34], [92, 34]] = some ((tabk 2, trk 2), [[92], [92, 92], [34], [92, 34]]) := by decide +kernel
theorem replT_ct {p0 r : List UInt8} {b2 : Nat} (h : strings_Replacer_Replace p0 = some r) : Ct Tryz.prog 218 [ptr b2 0, S p0] (fun M => RplT M b2) (fun v M => v = S r) := strings_byteStringReplacer_Replace_ct (p0 := (tabk 2, trk 2)) h
def RplM (M : Mem) (x : Array Value) : Prop := (∃ v, x = #[Value.int .u32 0, Value.int .i32 0, Value.int .u32 0, Value.nilIface, v] ∧ Sl M encS v [[92], [92, 92], [34], [92, 34]]) ∨ ∃ b2, x = #[Value.int .u32 1, Value.int .i32 0, Value.int .u32 0, Value.iface 158 (ptr b2 0), Value.slice none 0 0] ∧ RplT M b2
theorem RplM.mono {M M' : Mem} {x : Array Value} (h : RplM M x) (hl : M.le M') : RplM M' x := by
  rcases h with ⟨v, h1, h2⟩ | ⟨b2, h1, h2⟩
  · exact .inl ⟨v, h1, h2.mono hl⟩
  · exact .inr ⟨b2, h1, h2.mono hl⟩
theorem buildOnce_ct {b : Nat} {v : Value} : CtX Tryz.prog 69 [ptr b 0] [.blk b (.cells #[Value.int .u32 0, Value.int .i32 1, Value.int .u32 0, Value.nilIface, v] 112)] (fun M => Sl M encS v [[92], [92, 92], [34], [92, 34]]) (fun r M its => r = .tuple #[] ∧ ∃ b2, RplT M b2 ∧ its = [.blk b (.cells #[Value.int .u32 0, Value.int .i32 1, Value.int .u32 0, Value.iface 158 (ptr b2 0), Value.slice none 0 0] 112)]) := by
  refine CtX.of Tryz.func69 (enters Tryz.func69 (by kernel_rfl) rfl) rfl rfl rfl ?_
  intro w0 M0 H hp
  refine SQ (RG (MV rfl rfl (MV rfl rfl (WR.callX (A := [.blk b (.cells #[Value.int .u32 0, Value.int .i32 1, Value.int .u32 0, Value.nilIface, v] 112)]) (B := []) H (strings_Replacer_build_ct rplBuilt) (.left (Spl.all _)) rfl hp (Wn.none rfl) rfl ?_))))
  intro v4 M w its H hle hR
  obtain ⟨b2, rfl, hb2, rfl⟩ := hR
  simp only [List.cons_append, List.nil_append] at H
  refine ST (Ex.nilCheckP rfl) rfl (ST (Ex.fieldAddr Tryz.underlying112 rfl Tryz.sizeOf110 (by decide) rfl) rfl (WR.putV [Value.int .u32 0, Value.int .i32 1, Value.int .u32 0, Value.iface 158 (ptr b2 0), v] H rfl rfl ⟨rfl, rfl⟩ Upd.head rfl Tryz.sizeOf110 (show (3 : Nat) < 5 from by decide) (Wn.none rfl) ?_))
  intro w H
  refine NL (TN (RG (MV rfl rfl (ST (Ex.nilCheckP rfl) rfl (ST (Ex.fieldAddr Tryz.underlying112 rfl Tryz.sizeOf75 (by decide) rfl) rfl (WR.putV [Value.int .u32 0, Value.int .i32 1, Value.int .u32 0, Value.iface 158 (ptr b2 0), Value.slice none 0 0] H rfl rfl ⟨rfl, rfl⟩ Upd.head rfl Tryz.sizeOf75 (show (4 : Nat) < 5 from by decide) (Wn.none rfl) ?_))))))
  intro w H
  refine NL ?_
  exact WQ.endX0 rfl H (by repeat first | exact kPn | refine kPc (by repeat first | exact .head | apply Rem.tail) ?_) ⟨rfl, b2, hb2, rfl⟩
theorem onceDo_ct {b : Nat} {x : Array Value} : CtX Tryz.prog 68 [ptr b 0, .func (.func 69) #[ptr b 0] #[]] [.blk b (.cells x 112)] (fun M => RplM M x) (fun r M its => r = .tuple #[] ∧ ∃ b2, RplT M b2 ∧ its = [.blk b (.cells #[Value.int .u32 1, Value.int .i32 0, Value.int .u32 0, Value.iface 158 (ptr b2 0), Value.slice none 0 0] 112)]) := by
  refine ⟨enters Tryz.func68 (by kernel_rfl) rfl, fun w M H hp => ?_⟩
  rcases hp with ⟨v, rfl, hs⟩ | ⟨b2, rfl, hb2⟩
  · have H1 : StX (feet [.blk b (.cells #[Value.int .u32 0, Value.int .i32 0, Value.int .u32 0, Value.nilIface, v] 112)]) w M M [.blk b (.cells #[Value.int .u32 0, Value.int .i32 1, Value.int .u32 0, Value.nilIface, v] 112)] (w.setCell ⟨b, 1, none⟩ (.int .i32 1)) := H.setC (o := 1) (v := .int .i32 1) Upd.head
    refine (oFirst b w (fun w2 => ∃ M2 b2, StX (feet [.blk b (.cells #[Value.int .u32 0, Value.int .i32 0, Value.int .u32 0, Value.nilIface, v] 112)]) w M M2 [.blk b (.cells #[Value.int .u32 0, Value.int .i32 1, Value.int .u32 0, Value.iface 158 (ptr b2 0), Value.slice none 0 0] 112)] w2 ∧ RplT M2 b2) (H.cellOf (o := 0) (List.Mem.head _) rfl) (H.cellOf (o := 1) (List.Mem.head _) rfl) (H.thawOf (List.Mem.head _)) (H.thawOf (List.Mem.head _)) ?_ ?_).mono ?_
    · refine (buildOnce_ct.calls _ M (H1.hand (Spl.whole _)) hs).mono ?_
      rintro e w2 ⟨r, M2, its, rfl, h2, rfl, b2, hb2, rfl⟩
      exact ⟨rfl, M2, b2, H1.back (Spl.whole _) h2, hb2⟩
    · rintro w2 ⟨M2, b2, h2, _⟩
      exact ⟨h2.cellOf (o := 0) (List.Mem.head _) rfl, h2.cellOf (o := 1) (List.Mem.head _) rfl, h2.thawOf (List.Mem.head _), h2.thawOf (List.Mem.head _)⟩
    · rintro e w' ⟨rfl, w2, ⟨M2, b2, h2, hb2⟩, rfl⟩
      have h3 : StX (feet [.blk b (.cells #[Value.int .u32 0, Value.int .i32 0, Value.int .u32 0, Value.nilIface, v] 112)]) w M M2 [.blk b (.cells #[Value.int .u32 1, Value.int .i32 1, Value.int .u32 0, Value.iface 158 (ptr b2 0), Value.slice none 0 0] 112)] (w2.drew.setCell ⟨b, 0, none⟩ (.int .u32 1)) := h2.drew.setC (o := 0) (v := .int .u32 1) Upd.head
      have h4 : StX (feet [.blk b (.cells #[Value.int .u32 0, Value.int .i32 0, Value.int .u32 0, Value.nilIface, v] 112)]) w M M2 [.blk b (.cells #[Value.int .u32 1, Value.int .i32 0, Value.int .u32 0, Value.iface 158 (ptr b2 0), Value.slice none 0 0] 112)] ((w2.drew.setCell ⟨b, 0, none⟩ (.int .u32 1)).setCell ⟨b, 1, none⟩ (.int .i32 0)) := h3.setC (o := 1) (v := .int .i32 0) Upd.head
      exact ⟨_, M2, _, rfl, h4, rfl, b2, hb2, rfl⟩
  · refine (oAgain ⟨b, 0, none⟩ 1 (by decide) _ w (H.cellOf (o := 0) (List.Mem.head _) rfl)).mono ?_
    rintro e w' ⟨rfl, rfl⟩
    exact ⟨_, M, _, rfl, H, rfl, b2, hb2, rfl⟩
theorem methR (b2 : Nat) : MethAt Tryz.prog 158 (ptr b2 0) "Replace" 218 (ptr b2 0) := fun w => by kernel_rfl
theorem strings_Replacer_Replace_ct {p0 : List UInt8} {b : Nat} {x : Array Value} {r : List UInt8} (h : strings_Replacer_Replace p0 = some r) : CtX Tryz.prog 50 [ptr b 0, S p0] [.blk b (.cells x 112)] (fun M => RplM M x) (fun v M its => ∃ x', v = S r ∧ RplM M x' ∧ its = [.blk b (.cells x' 112)]) := by
  refine CtX.of Tryz.func50 (enters Tryz.func50 (by kernel_rfl) rfl) rfl rfl rfl ?_
  intro w0 M0 H hp
  refine SQ (RG (AS rfl rfl (NL (TN (SQ (RG (MV rfl rfl (ST (Ex.nilCheckP rfl) rfl (ST (Ex.fieldAddr Tryz.underlying112 rfl Tryz.sizeOf108 (by decide) rfl) rfl (MV rfl rfl (ST (Ex.makeFuncF (vs := [ptr b 0]) rfl) rfl (WR.callX (A := [.blk b (.cells x 112)]) (B := []) H (onceDo_ct (b := b) (x := x)) (.left (Spl.all _)) rfl hp (Wn.none rfl) rfl ?_))))))))))))
  intro v10 M w its H hle hR
  obtain ⟨rfl, b2, hb2, rfl⟩ := hR
  simp only [List.cons_append, List.nil_append] at H
  refine NL (TN (SQ (RG (MV rfl rfl (ST (Ex.nilCheckP rfl) rfl (ST (Ex.fieldAddr Tryz.underlying112 rfl Tryz.sizeOf110 (by decide) rfl) rfl (ST (Ex.load1 H rfl (List.Mem.head _) Tryz.isAgg110 (by rfl)) rfl ?_)))))))
  refine MV rfl rfl (WR.callI H (replT_ct h) (methR b2) rfl rfl hb2 (Wn.none rfl) rfl ?_)
  intro v16 M w H hle hR
  obtain rfl := hR
  refine AS rfl rfl (NL (TN (RT ?_)))
  exact WQ.retX1 (its := [.blk b (.cells #[Value.int .u32 1, Value.int .i32 0, Value.int .u32 0, Value.iface 158 (ptr b2 0), Value.slice none 0 0] 112)]) rfl rfl H (by repeat first | exact kPn | refine kPc (by repeat first | exact .head | apply Rem.tail) ?_) ⟨_, rfl, .inr ⟨b2, rfl, hb2.mono hle⟩, rfl⟩
theorem xplacesR : ∀ {fs : Array Field}, Tryz.prog.underlying 112 = some (.struct fs) → ∀ w, (fs.mapM fun f => do pure (f.offset, ← sizeOf f.type) : Sem (Array (Nat × Nat))).run Tryz.prog w = .ok #[(0, 3), (3, 1), (4, 1)] w := by
  intro fs h w
  rw [Tryz.underlying112] at h
  cases h
  simp
theorem strings_NewReplacer_ct {p0 : List (List UInt8)} {vp0 : Value} {r : Unit} (h : strings_NewReplacer p0 = some r) : CtX Tryz.prog 49 [vp0] [] (fun M => Sl M encS vp0 p0) (fun v M its => ∃ b x, v = ptr b 0 ∧ RplM M x ∧ its = [.blk b (.cells x 112)]) := by
  unfold strings_NewReplacer at h
  split at h
  case isFalse => cases h
  rename_i hl
  subst hl
  refine CtX.of Tryz.func49 (enters Tryz.func49 (by kernel_rfl) rfl) rfl rfl rfl ?_
  intro w0 M0 H hp0
  refine SQ (RG (AS rfl rfl (NL (TN (SQ (SQ (RG (MV rfl rfl (ST (Ex.lenSl Tryz.underlying75 hp0 rfl) rfl (ST (Ex.remC (a := 4) (b := 2) (z := 0) rfl rfl rfl) rfl (WR.stepF (Ex.eql rfl rfl) (by decide) (Wn.none rfl) rfl rfl (NL (TN (CF rfl (SK (TN (SQ (RG (MV rfl rfl ?_)))))))))))))))))))
  replace H := H.newRow 9 encS
  refine WR.appC (l := []) xty75 rfl (fun _ => rfl) H rfl (fun _ => by repeat first | exact .head | apply Upd.tail) rfl hp0 (l3 := [[92], [92, 92], [34], [92, 34]]) rfl (Wn.none rfl) rfl ?_
  intro v9 w H
  obtain ⟨M, hle, hs, H1⟩ := H.freezeRowN (v := v9) (enc := encS) (t := 9) (by repeat first | exact .head | apply Rem.tail) trivial
  have hs2 := hs
  obtain ⟨A9, c9, rfl, -⟩ := hs2
  refine ST (Ex.build [Value.int .u32 0, Value.int .i32 0, Value.int .u32 0, Value.nilIface, .slice A9 4 c9] Tryz.underlying112 Tryz.zeroValue112 (xplacesR Tryz.underlying112) rfl (by kernel_rfl)) rfl (WR.box [Value.int .u32 0, Value.int .i32 0, Value.int .u32 0, Value.nilIface, .slice A9 4 c9] H1 rfl rfl (Wn.none rfl) rfl ?_)
  intro b11 w H2
  refine AS rfl rfl (NL (TN (RT ?_)))
  exact WQ.retX1 (its := [.blk b11 (.cells #[Value.int .u32 0, Value.int .i32 0, Value.int .u32 0, Value.nilIface, .slice A9 4 c9] 112)]) rfl rfl H2 (by repeat first | exact kPn | refine kPc (by repeat first | exact .head | apply Rem.tail) ?_) ⟨b11, _, rfl, .inl ⟨_, rfl, hs⟩, rfl⟩
theorem basic_All_ct {p0 : List UInt8} {p1 : (UInt8 → Option Bool)} {vp1 : Value} {r : Bool} (h : basic_All p0 p1 = some r) : Ct Tryz.prog 42 [S p0, vp1] (fun M => FnT62 M vp1 p1) (fun v M => v = Value.bool r) := by
  refine Ct.of Tryz.func42 (enters Tryz.func42 (by kernel_rfl) rfl) rfl rfl rfl ?_
  intro w0 M0 H hp
  have hp1 := hp
  unfold basic_All at h
  refine SQ (RG (AS rfl rfl (NL (TN (SQ (SQ (RG (MV rfl rfl (ST (Ex.lenStr Tryz.underlying9 rfl) rfl (MV rfl rfl (NL (TN ?_))))))))))))
  obtain ⟨o1, e2, h⟩ := bnd h
  refine WC.cutX (fun e w => ∃  (M : Mem), e = [] ∧ St w0 M0 M [] w ∧ some (.inl ()) = some o1) [] ?_ ?_ (trivial)
  ·
   refine BL (WC.loopP (fun m e w => ∃ (n3 : Int) (M : Mem), e = [(0, S p0), (1, vp1), (7, I (p0.length : Int)), (8, I n3)] ∧ St w0 M0 M [] w ∧ FnT62 M vp1 p1 ∧ basic_All_L1 p0 p1 m n3 = some o1) FU [(0, _), (1, _), (7, _), (8, _)] ⟨rfl, rfl, rfl, rfl, trivial⟩ ⟨_, _, rfl, H, hp1, e2⟩ ?_)
   rintro m4 e w ⟨n3, M, rfl, H, hp1, e2⟩
   rcases m4 with _ | m4
   · rw [basic_All_L1] at e2; cases e2
   rw [basic_All_L1] at e2
   refine SQ (RG (ST (Ex.lss rfl rfl) rfl (NL (TN (SQ ?_)))))
   refine WC.condB rfl (fun hk5 => ?_) (fun hk5 => ?_)
   ·
    replace hk5 : n3 < (p0.length : Int) := of_decide_eq_true hk5
    rw [if_pos hk5] at e2
    refine SK (TN (SQ (BL (SQ (RG (MV rfl rfl (AS rfl rfl (NL (TN (SQ ?_))))))))))
    obtain ⟨c6, hxc6, e2⟩ := bnd e2
    obtain ⟨b7, hx8, e2⟩ := bnd e2
    refine RG (MV rfl rfl (MV rfl rfl (MV rfl rfl (ST (Ex.idxStrC Tryz.underlying9 rfl rfl hxc6) rfl (WR.callF H (hp1 _ _ hx8) rfl rfl (Wn.none rfl) rfl ?_)))))
    intro v15 M w H hle hR
    replace hp1 := hp1.mono hle
    obtain rfl := hR
    refine ST (Ex.not rfl) rfl (NL (TN ?_))
    refine WC.condB rfl (fun hk9 => ?_) (fun hk9 => ?_)
    ·
     replace hk9 : b7 = false := by simpa using hk9
     subst hk9
     rw [if_neg Bool.false_ne_true] at e2
     refine SQ (RG (AS rfl rfl (NL (TN (RT ?_)))))
     obtain rfl := oI e2
     try dsimp only at h
     obtain rfl := oI h
     exact WQ.ret1 rfl rfl H.ext rfl
    ·
     replace hk9 : b7 = true := by simpa using hk9
     subst hk9
     rw [if_pos rfl] at e2
     refine SK (IB (TN ?_))
     obtain ⟨n10, hxn10, e2⟩ := bnd e2
     refine RG (ST (Ex.addC rfl rfl hxn10) rfl (MV rfl rfl (NL ?_)))
     exact WQ.againP m4 [(0, _), (1, _), (7, _), (8, _)] ⟨rfl, rfl, rfl, rfl, trivial⟩ ⟨_, _, rfl, H, hp1, e2⟩ (Nat.lt_succ_self _)
   ·
    replace hk5 : ¬ (n3 < (p0.length : Int)) := of_decide_eq_false hk5
    rw [if_neg hk5] at e2
    refine WC.exit (WQ.thenExit (WQ.thenExit (WQ.exitHere ?_)))
    exact WQ.meetN [] trivial ⟨_, rfl, H, e2⟩
  ·
   rintro e w ⟨M, rfl, H, q11⟩
   obtain rfl := oI q11
   try dsimp only at h
   refine TN (SQ (RG (AS rfl rfl (NL (TN (RT ?_))))))
   obtain rfl := oI h
   exact WQ.ret1 rfl rfl H.ext rfl
theorem media_tokenByte_ct {p0 : UInt8} {r : Bool} (h : media_tokenByte p0 = some r) : Ct Tryz.prog 43 [encB p0] (fun M => True) (fun v M => v = Value.bool r) := by
  refine Ct.of Tryz.func43 (enters Tryz.func43 (by kernel_rfl) rfl) rfl rfl rfl ?_
  intro w0 M0 H hp
  unfold media_tokenByte at h
  refine SQ (RG (AS rfl rfl (NL (TN (SQ ?_)))))
  obtain ⟨o1, e2, h⟩ := bnd h
  refine WC.cutX (fun e w => ∃ (b3 : Bool) (M : Mem), e = [(2, Value.bool b3)] ∧ St w0 M0 M [] w ∧ some b3 = some o1) [] ?_ ?_ (trivial)
  ·
   by_cases hk4 : 33 ≤ p0.toNat
   ·
    rw [if_pos hk4] at e2
    refine RG (MV rfl rfl (WR.stepE (v' := .bool true) (Ex.geqB (i := p0.toNat) (j := 33) rfl rfl) (congrArg Value.bool (decide_eq_true hk4)) (Wn.none rfl) rfl rfl ?_))
    by_cases hk5 : p0.toNat ≤ 126
    ·
     rw [if_pos hk5] at e2
     obtain ⟨n6, hx7, e2⟩ := bnd e2
     refine MV rfl rfl (SG (Ex.move rfl) rfl rfl rfl (WR.stepE (v' := .bool true) (Ex.leqB (i := p0.toNat) (j := 126) rfl rfl) (congrArg Value.bool (decide_eq_true hk5)) (Wn.some rfl rfl rfl) rfl rfl (PT rfl rfl rfl (MV rfl rfl (SG (Ex.move rfl) rfl rfl rfl (WR.call H (strings_IndexByte_ct hx7) rfl trivial (Wn.some rfl rfl rfl) rfl ?_))))))
     intro v11 M w H hle hR
     obtain rfl := hR
     refine SG (Ex.lss rfl rfl) rfl rfl rfl (PT rfl rfl rfl (AS rfl rfl (NL ?_)))
     exact WQ.meetN [(2, _)] ⟨rfl, trivial⟩ ⟨_, _, rfl, H, e2⟩
    ·
     rw [if_neg hk5] at e2
     refine MV rfl rfl (SG (Ex.move rfl) rfl rfl rfl (WR.stepE (v' := .bool false) (Ex.leqB (i := p0.toNat) (j := 126) rfl rfl) (congrArg Value.bool (decide_eq_false hk5)) (Wn.some rfl rfl rfl) rfl rfl (PT rfl rfl rfl (MV rfl rfl (WR.skipN 3 rfl rfl (PF rfl rfl rfl (AS rfl rfl (NL ?_))))))))
     exact WQ.meetN [(2, _)] ⟨rfl, trivial⟩ ⟨_, _, rfl, H, e2⟩
   ·
    rw [if_neg hk4] at e2
    refine RG (MV rfl rfl (WR.stepE (v' := .bool false) (Ex.geqB (i := p0.toNat) (j := 33) rfl rfl) (congrArg Value.bool (decide_eq_false hk4)) (Wn.none rfl) rfl rfl (MV rfl rfl (GF rfl rfl rfl (GF rfl rfl rfl (PF rfl rfl rfl (MV rfl rfl (WR.skipN 3 rfl rfl (PF rfl rfl rfl (AS rfl rfl (NL ?_)))))))))))
    exact WQ.meetN [(2, _)] ⟨rfl, trivial⟩ ⟨_, _, rfl, H, e2⟩
  ·
   rintro e w ⟨b3, M, rfl, H, q8⟩
   obtain rfl := oI q8
   refine TN (RT ?_)
   obtain rfl := oI h
   exact WQ.ret1 rfl rfl H.ext rfl
theorem media_token_ct {p0 : List UInt8} {r : Bool} (h : media_token p0 = some r) : Ct Tryz.prog 22 [S p0] (fun M => True) (fun v M => v = Value.bool r) := by
  refine Ct.of Tryz.func22 (enters Tryz.func22 (by kernel_rfl) rfl) rfl rfl rfl ?_
  intro w0 M0 H hp
  unfold media_token at h
  refine SQ (RG (AS rfl rfl (NL (TN (SQ ?_)))))
  obtain ⟨o1, e2, h⟩ := bnd h
  refine WC.cutX (fun e w => ∃ (b3 : Bool) (M : Mem), e = [(2, Value.bool b3)] ∧ St w0 M0 M [] w ∧ some b3 = some o1) [] ?_ ?_ (trivial)
  ·
   by_cases hk4 : p0 = []
   ·
    rw [if_pos hk4] at e2
    refine RG (MV rfl rfl (WR.stepE (v' := .bool false) (Ex.strNeqC rfl rfl) (congrArg Value.bool (by rw [decide_eq_true hk4]; rfl)) (Wn.none rfl) rfl rfl ?_))
    refine MV rfl rfl (WR.skipN 3 rfl rfl (PF rfl rfl rfl (MV rfl rfl (GF rfl rfl rfl (GF rfl rfl rfl (PF rfl rfl rfl (AS rfl rfl (NL ?_))))))))
    exact WQ.meetN [(2, _)] ⟨rfl, trivial⟩ ⟨_, _, rfl, H, e2⟩
   ·
    rw [if_neg hk4] at e2
    refine RG (MV rfl rfl (WR.stepE (v' := .bool true) (Ex.strNeqC rfl rfl) (congrArg Value.bool (by rw [decide_eq_false hk4]; rfl)) (Wn.none rfl) rfl rfl ?_))
    by_cases hk5 : (p0.length : Int) ≤ (60 : Int)
    ·
     rw [if_pos hk5] at e2
     obtain ⟨b6, hx7, e2⟩ := bnd e2
     refine MV rfl rfl (SG (Ex.move rfl) rfl rfl rfl (SG (Ex.lenStr Tryz.underlying9 rfl) rfl rfl rfl (WR.stepE (v' := .bool true) (Ex.leq rfl rfl) (congrArg Value.bool (decide_eq_true hk5)) (Wn.some rfl rfl rfl) rfl rfl (PT rfl rfl rfl (MV rfl rfl (SG (Ex.move rfl) rfl rfl rfl (WR.call H (basic_All_ct hx7) rfl ((fun _ _ h => FnV.of (media_tokenByte_ct h) (fun _ _ => trivial))) (Wn.some rfl rfl rfl) rfl ?_)))))))
     intro v12 M w H hle hR
     obtain rfl := hR
     refine PT rfl rfl rfl (AS rfl rfl (NL ?_))
     exact WQ.meetN [(2, _)] ⟨rfl, trivial⟩ ⟨_, _, rfl, H, e2⟩
    ·
     rw [if_neg hk5] at e2
     refine MV rfl rfl (SG (Ex.move rfl) rfl rfl rfl (SG (Ex.lenStr Tryz.underlying9 rfl) rfl rfl rfl (WR.stepE (v' := .bool false) (Ex.leq rfl rfl) (congrArg Value.bool (decide_eq_false hk5)) (Wn.some rfl rfl rfl) rfl rfl (PT rfl rfl rfl (MV rfl rfl (GF rfl rfl rfl (GF rfl rfl rfl (PF rfl rfl rfl (AS rfl rfl (NL ?_))))))))))
     exact WQ.meetN [(2, _)] ⟨rfl, trivial⟩ ⟨_, _, rfl, H, e2⟩
  ·
   rintro e w ⟨b3, M, rfl, H, q8⟩
   obtain rfl := oI q8
   refine TN (RT ?_)
   obtain rfl := oI h
   exact WQ.ret1 rfl rfl H.ext rfl
theorem basic_Fault_ct {p0 : Int} {p1 : Int} {r : (Int × Int)} (h : basic_Fault p0 p1 = some r) : Ct Tryz.prog 23 [I p0, I p1] (fun M => True) (fun v M => v = Value.agg #[I r.1, I r.2]) := by
  refine Ct.of Tryz.func23 (enters Tryz.func23 (by kernel_rfl) rfl) rfl rfl rfl ?_
  intro w0 M0 H hp
  unfold basic_Fault at h
  refine SQ (RG (WR.alloc [_, _] H Tryz.zeroValue27 rfl (Wn.none rfl) rfl ?_))
  intro bk4 w H
  refine NL (TN (SQ (RG (MV rfl rfl (MV rfl rfl (ST (Ex.build [I p0, I p1] Tryz.underlying27 Tryz.zeroValue27 (xplaces27 Tryz.underlying27) rfl rfl) rfl (WR.store [_, _] H rfl rfl rfl (by repeat first | exact .head | apply Upd.tail) Tryz.sizeOf27 rfl (by rfl) (by rfl) (Wn.none rfl) ?_)))))))
  intro w H
  refine NL (TN (RT ?_))
  obtain rfl := oI h
  exact WQ.ret1 rfl ⟨_, rfl, H.loadAgg (by repeat first | exact kMh | apply kMt) Tryz.isAgg27 Tryz.sizeOf27 (by rfl)⟩ H.ext rfl
theorem slices_IndexFunc_Param_ct {p0 : List (List UInt8 × List UInt8)} {p1 : ((List UInt8 × List UInt8) → Option Bool)} {vp0 : Value} {vp1 : Value} {r : Int} (h : slices_IndexFunc_Param p0 p1 = some r) : Ct Tryz.prog 44 [vp0, vp1] (fun M => SlS M 2 xenc47 vp0 p0 ∧ FnT50 M vp1 p1) (fun v M => v = I r) := by
  refine Ct.of Tryz.func44 (enters Tryz.func44 (by kernel_rfl) rfl) rfl rfl rfl ?_
  intro w0 M0 H hp
  obtain ⟨hp0, hp1⟩ := hp
  unfold slices_IndexFunc_Param at h
  refine SQ (RG (AS rfl rfl (NL (TN (SQ (SQ (RG (MV rfl rfl (ST (Ex.lenSlS Tryz.underlying22 hp0 rfl) rfl (MV rfl rfl (NL (TN ?_))))))))))))
  obtain ⟨o1, e2, h⟩ := bnd h
  refine WC.cutX (fun e w => ∃  (M : Mem), e = [] ∧ St w0 M0 M [] w ∧ some (.inl ()) = some o1) [] ?_ ?_ (trivial)
  ·
   refine BL (WC.loopP (fun m e w => ∃ (n3 : Int) (M : Mem), e = [(0, vp0), (1, vp1), (7, I (p0.length : Int)), (8, I n3)] ∧ St w0 M0 M [] w ∧ SlS M 2 xenc47 vp0 p0 ∧ FnT50 M vp1 p1 ∧ slices_IndexFunc_Param_L1 p0 p1 m n3 = some o1) FU [(0, _), (1, _), (7, _), (8, _)] ⟨rfl, rfl, rfl, rfl, trivial⟩ ⟨_, _, rfl, H, hp0, hp1, e2⟩ ?_)
   rintro m4 e w ⟨n3, M, rfl, H, hp0, hp1, e2⟩
   rcases m4 with _ | m4
   · rw [slices_IndexFunc_Param_L1] at e2; cases e2
   rw [slices_IndexFunc_Param_L1] at e2
   refine SQ (RG (ST (Ex.lss rfl rfl) rfl (NL (TN (SQ ?_)))))
   refine WC.condB rfl (fun hk5 => ?_) (fun hk5 => ?_)
   ·
    replace hk5 : n3 < (p0.length : Int) := of_decide_eq_true hk5
    rw [if_pos hk5] at e2
    refine SK (TN (SQ (BL (SQ (RG (MV rfl rfl (AS rfl rfl (NL (TN (SQ ?_))))))))))
    obtain ⟨a6, hxa6, e2⟩ := bnd e2
    obtain ⟨bk14, o14, ha14, hc14⟩ := hp0.atC hxa6
    obtain ⟨b7, hx8, e2⟩ := bnd e2
    refine RG (MV rfl rfl (MV rfl rfl (MV rfl rfl (ST (Ex.idxAt ha14 Tryz.underlying22 Tryz.sizeOf47 rfl rfl) rfl (ST (Ex.loadAggM H rfl hc14 Tryz.isAgg47 Tryz.sizeOf47 (by rfl)) rfl ?_)))))
    refine WR.callF H (hp1 _ _ hx8) rfl rfl (Wn.none rfl) rfl ?_
    intro v16 M w H hle hR
    replace hp0 := hp0.mono hle
    replace hp1 := hp1.mono hle
    replace hc14 := hc14.mono hle
    obtain rfl := hR
    refine NL (TN ?_)
    refine WC.condB rfl (fun hk9 => ?_) (fun hk9 => ?_)
    ·
     subst hk9
     rw [if_pos rfl] at e2
     refine SQ (RG (MV rfl rfl (AS rfl rfl (NL (TN (RT ?_))))))
     obtain rfl := oI e2
     try dsimp only at h
     obtain rfl := oI h
     exact WQ.ret1 rfl rfl H.ext rfl
    ·
     subst hk9
     rw [if_neg Bool.false_ne_true] at e2
     refine SK (IB (TN ?_))
     obtain ⟨n10, hxn10, e2⟩ := bnd e2
     refine RG (ST (Ex.addC rfl rfl hxn10) rfl (MV rfl rfl (NL ?_)))
     exact WQ.againP m4 [(0, _), (1, _), (7, _), (8, _)] ⟨rfl, rfl, rfl, rfl, trivial⟩ ⟨_, _, rfl, H, hp0, hp1, e2⟩ (Nat.lt_succ_self _)
   ·
    replace hk5 : ¬ (n3 < (p0.length : Int)) := of_decide_eq_false hk5
    rw [if_neg hk5] at e2
    refine WC.exit (WQ.thenExit (WQ.thenExit (WQ.exitHere ?_)))
    exact WQ.meetN [] trivial ⟨_, rfl, H, e2⟩
  ·
   rintro e w ⟨M, rfl, H, q11⟩
   obtain rfl := oI q11
   try dsimp only at h
   refine TN (SQ (RG (AS rfl rfl (NL (TN (RT ?_))))))
   obtain rfl := oI h
   exact WQ.ret1 rfl rfl H.ext rfl
theorem slices_ContainsFunc_Param_ct {p0 : List (List UInt8 × List UInt8)} {p1 : ((List UInt8 × List UInt8) → Option Bool)} {vp0 : Value} {vp1 : Value} {r : Bool} (h : slices_ContainsFunc_Param p0 p1 = some r) : Ct Tryz.prog 24 [vp0, vp1] (fun M => SlS M 2 xenc47 vp0 p0 ∧ FnT50 M vp1 p1) (fun v M => v = Value.bool r) := by
  refine Ct.of Tryz.func24 (enters Tryz.func24 (by kernel_rfl) rfl) rfl rfl rfl ?_
  intro w0 M0 H hp
  obtain ⟨hp0, hp1⟩ := hp
  unfold slices_ContainsFunc_Param at h
  refine SQ (RG (AS rfl rfl (NL (TN (SQ ?_)))))
  obtain ⟨n1, hx2, h⟩ := bnd h
  refine RG (MV rfl rfl (MV rfl rfl (WR.call H (slices_IndexFunc_Param_ct hx2) rfl ⟨hp0, hp1⟩ (Wn.none rfl) rfl ?_)))
  intro v7 M w H hle hR
  replace hp0 := hp0.mono hle
  replace hp1 := hp1.mono hle
  obtain rfl := hR
  refine ST (Ex.geq rfl rfl) rfl (AS rfl rfl (NL (TN (RT ?_))))
  obtain rfl := oI h
  exact WQ.ret1 rfl rfl H.ext rfl
theorem media_Validate_1_ct {p0 : (List UInt8 × List UInt8)} {p1 : (List UInt8 × List UInt8)} {bp1 : Nat} {r : Bool} (h : media_Validate_1 p0 p1 = some r) : Ct Tryz.prog 25 [Value.agg #[S p0.1, S p0.2], ptr bp1 0] (fun M => PtM M bp1 (.cells #[S p1.1, S p1.2] 47)) (fun v M => v = Value.bool r) := by
  refine Ct.of Tryz.func25 (enters Tryz.func25 (by kernel_rfl) rfl) rfl rfl rfl ?_
  intro w0 M0 H hp
  have hp1 := hp
  unfold media_Validate_1 at h
  refine SQ (RG (WR.box [_, _] H rfl rfl (Wn.none rfl) rfl ?_))
  intro bk2 w H
  refine AS rfl rfl (NL (TN (SQ ?_)))
  obtain ⟨b1, hx2, h⟩ := bnd h
  refine RG (ST (Ex.fieldAddr Tryz.underlying47 rfl Tryz.sizeOf9 (by decide) rfl) rfl (ST (Ex.load1 H rfl (by repeat first | exact kMh | apply kMt) Tryz.isAgg9 (by rfl)) rfl ?_))
  refine ST (Ex.fieldAddr Tryz.underlying47 rfl Tryz.sizeOf9 (by decide) rfl) rfl (ST (Ex.loadM H rfl (hp1.cell (j := 0) rfl) Tryz.isAgg9) rfl (WR.call H (basic_Same_ct hx2) rfl trivial (Wn.none rfl) rfl ?_))
  intro v8 M w H hle hR
  replace hp1 := hp1.mono hle
  obtain rfl := hR
  refine AS rfl rfl (NL (TN (RT ?_)))
  obtain rfl := oI h
  exact WQ.ret1 rfl rfl H.ext rfl
theorem basic_None_ct  {r : (Int × Int)} (h : basic_None = some r) : Ct Tryz.prog 28 [] (fun M => True) (fun v M => v = Value.agg #[I r.1, I r.2]) := by
  refine Ct.of Tryz.func28 (enters Tryz.func28 (by kernel_rfl) rfl) rfl rfl rfl ?_
  intro w0 M0 H hp
  unfold basic_None at h
  refine SQ (RG (WR.alloc [_, _] H Tryz.zeroValue27 rfl (Wn.none rfl) rfl ?_))
  intro bk0 w H
  refine NL (TN (SQ (RG (ST (Ex.build [I 0, I 0] Tryz.underlying27 Tryz.zeroValue27 (xplaces27 Tryz.underlying27) rfl rfl) rfl (WR.store [_, _] H rfl rfl rfl (by repeat first | exact .head | apply Upd.tail) Tryz.sizeOf27 rfl (by rfl) (by rfl) (Wn.none rfl) ?_)))))
  intro w H
  refine NL (TN (RT ?_))
  obtain rfl := oI h
  exact WQ.ret1 rfl ⟨_, rfl, H.loadAgg (by repeat first | exact kMh | apply kMt) Tryz.isAgg27 Tryz.sizeOf27 (by rfl)⟩ H.ext rfl
theorem media_Validate_ct {p0 : (List UInt8 × List UInt8 × List (List UInt8 × List UInt8))} {vp0_2 : Value} {r : (Int × Int)} (h : media_Validate p0 = some r) : Ct Tryz.prog 10 [Value.agg #[S p0.1, S p0.2.1, vp0_2]] (fun M => Tabs M ∧ SlS M 2 xenc47 vp0_2 p0.2.2) (fun v M => v = Value.agg #[I r.1, I r.2]) := by
  refine Ct.of Tryz.func10 (enters Tryz.func10 (by kernel_rfl) rfl) rfl rfl rfl ?_
  intro w0 M0 H hp
  obtain ⟨hg_tabs, hp0_2⟩ := hp
  unfold media_Validate at h
  refine SQ (RG (WR.box [_, _, _] H rfl rfl (Wn.none rfl) rfl ?_))
  intro bk1 w H
  refine WR.alloc [_, _] H Tryz.zeroValue27 rfl (Wn.none rfl) rfl ?_
  intro bk2 w H
  refine NL (TN (SQ (SQ ?_)))
  obtain ⟨o1, e2, h⟩ := bnd h
  refine WC.cutX (fun e w => ∃ (b3 : Bool) (M : Mem), e = [(1, ptr bk1 0), (2, ptr bk2 0), (14, Value.bool b3)] ∧ St w0 M0 M [.blk bk1 (.cells #[S p0.1, S p0.2.1, vp0_2] 24), .blk bk2 (.cells #[I 0, I 0] 27)] w ∧ Tabs M ∧ SlS M 2 xenc47 vp0_2 p0.2.2 ∧ some b3 = some o1) [] ?_ ?_ (trivial)
  ·
   obtain ⟨b4, hx5, e2⟩ := bnd e2
   refine RG (ST (Ex.fieldAddr Tryz.underlying24 rfl Tryz.sizeOf9 (by decide) rfl) rfl (ST (Ex.load1 H rfl (by repeat first | exact kMh | apply kMt) Tryz.isAgg9 (by rfl)) rfl ?_))
   refine WR.call H (media_token_ct hx5) rfl trivial (Wn.none rfl) rfl ?_
   intro v7 M w H hle hR
   replace hg_tabs := hg_tabs.mono hle
   replace hp0_2 := hp0_2.mono hle
   obtain rfl := hR
   refine ST (Ex.not rfl) rfl (MV rfl rfl ?_)
   rcases b4 with _ | _
   ·
    rw [if_neg Bool.false_ne_true] at e2
    refine WR.skipN 4 rfl rfl (PT rfl rfl rfl (NL ?_))
    exact WQ.meetN [(1, _), (2, _), (14, _)] ⟨rfl, rfl, rfl, trivial⟩ ⟨_, _, rfl, (H.pick (L' := [.blk bk1 (.cells #[S p0.1, S p0.2.1, vp0_2] 24), .blk bk2 (.cells #[I 0, I 0] 27)]) (by repeat first | exact kPn | refine kPc (by repeat first | exact .head | apply Rem.tail) ?_)), hg_tabs, hp0_2, e2⟩
   ·
    rw [if_pos rfl] at e2
    obtain ⟨b6, hx7, e2⟩ := bnd e2
    refine SG (Ex.fieldAddr Tryz.underlying24 rfl Tryz.sizeOf9 (by decide) rfl) rfl rfl rfl (SG (Ex.load1 H rfl (by repeat first | exact kMh | apply kMt) Tryz.isAgg9 (by rfl)) rfl rfl rfl ?_)
    refine WR.call H (media_token_ct hx7) rfl trivial (Wn.some rfl rfl rfl) rfl ?_
    intro v12 M w H hle hR
    replace hg_tabs := hg_tabs.mono hle
    replace hp0_2 := hp0_2.mono hle
    obtain rfl := hR
    refine SG (Ex.not rfl) rfl rfl rfl (PF rfl rfl rfl (NL ?_))
    exact WQ.meetN [(1, _), (2, _), (14, _)] ⟨rfl, rfl, rfl, trivial⟩ ⟨_, _, rfl, (H.pick (L' := [.blk bk1 (.cells #[S p0.1, S p0.2.1, vp0_2] 24), .blk bk2 (.cells #[I 0, I 0] 27)]) (by repeat first | exact kPn | refine kPc (by repeat first | exact .head | apply Rem.tail) ?_)), hg_tabs, hp0_2, e2⟩
  ·
   rintro e w ⟨b3, M, rfl, H, hg_tabs, hp0_2, q8⟩
   obtain rfl := oI q8
   refine TN ?_
   refine WC.condB rfl (fun hk9 => ?_) (fun hk9 => ?_)
   ·
    subst hk9
    rw [if_pos rfl] at h
    refine SQ ?_
    obtain ⟨⟨n10, n11⟩, hx12, h⟩ := bnd h
    try dsimp only at h
    refine RG (WR.call H (basic_Fault_ct hx12) rfl trivial (Wn.none rfl) rfl ?_)
    intro v15 M w H hle hR
    replace hg_tabs := hg_tabs.mono hle
    replace hp0_2 := hp0_2.mono hle
    try dsimp only at hR
    obtain rfl := hR
    refine WR.store [_, _] H rfl rfl rfl (by repeat first | exact .head | apply Upd.tail) Tryz.sizeOf27 rfl (by rfl) (by rfl) (Wn.none rfl) ?_
    intro w H
    refine NL (TN (RT ?_))
    obtain rfl := oI h
    exact WQ.ret1 rfl ⟨_, rfl, H.loadAgg (by repeat first | exact kMh | apply kMt) Tryz.isAgg27 Tryz.sizeOf27 (by rfl)⟩ H.ext rfl
   ·
    subst hk9
    rw [if_neg Bool.false_ne_true] at h
    refine SK (TN (SQ (SQ (RG (ST (Ex.fieldAddr Tryz.underlying24 rfl Tryz.sizeOf22 (by decide) rfl) rfl (ST (Ex.load1 H rfl (by repeat first | exact kMh | apply kMt) Tryz.isAgg22 (by rfl)) rfl ?_))))))
    refine ST (Ex.lenSlS Tryz.underlying22 hp0_2 rfl) rfl (ST (Ex.gtr rfl rfl) rfl (NL (TN ?_)))
    refine WC.condB rfl (fun hk13 => ?_) (fun hk13 => ?_)
    ·
     replace hk13 : (60 : Int) < (p0.2.2.length : Int) := of_decide_eq_true hk13
     rw [if_pos hk13] at h
     refine SQ ?_
     obtain ⟨⟨n14, n15⟩, hx16, h⟩ := bnd h
     try dsimp only at h
     refine RG (WR.call H (basic_Fault_ct hx16) rfl trivial (Wn.none rfl) rfl ?_)
     intro v20 M w H hle hR
     replace hg_tabs := hg_tabs.mono hle
     replace hp0_2 := hp0_2.mono hle
     try dsimp only at hR
     obtain rfl := hR
     refine WR.store [_, _] H rfl rfl rfl (by repeat first | exact .head | apply Upd.tail) Tryz.sizeOf27 rfl (by rfl) (by rfl) (Wn.none rfl) ?_
     intro w H
     refine NL (TN (RT ?_))
     obtain rfl := oI h
     exact WQ.ret1 rfl ⟨_, rfl, H.loadAgg (by repeat first | exact kMh | apply kMt) Tryz.isAgg27 Tryz.sizeOf27 (by rfl)⟩ H.ext rfl
    ·
     replace hk13 : ¬ ((60 : Int) < (p0.2.2.length : Int)) := of_decide_eq_false hk13
     rw [if_neg hk13] at h
     refine SK (TN (SQ (SQ (RG (ST (Ex.fieldAddr Tryz.underlying24 rfl Tryz.sizeOf22 (by decide) rfl) rfl (ST (Ex.load1 H rfl (by repeat first | exact kMh | apply kMt) Tryz.isAgg22 (by rfl)) rfl ?_))))))
     refine ST (Ex.lenSlS Tryz.underlying22 hp0_2 rfl) rfl (MV rfl rfl (NL (TN ?_)))
     obtain ⟨o17, e18, h⟩ := bnd h
     refine WC.cutX (fun e w => ∃ (n19 : Int) (n20 : Int) (M : Mem), e = [(2, ptr bk2 0)] ∧ St w0 M0 M [.blk bk2 (.cells #[I n19, I n20] 27)] w ∧ Tabs M ∧ some (.inl (n19, n20)) = some o17) [] ?_ ?_ (trivial)
     ·
      refine BL (WC.loopP (fun m e w => ∃ (n21 : Int) (n22 : Int) (n23 : Int) (M : Mem), e = [(1, ptr bk1 0), (2, ptr bk2 0), (22, vp0_2), (23, I (p0.2.2.length : Int)), (24, I n23)] ∧ St w0 M0 M [.blk bk1 (.cells #[S p0.1, S p0.2.1, vp0_2] 24), .blk bk2 (.cells #[I n21, I n22] 27)] w ∧ Tabs M ∧ SlS M 2 xenc47 vp0_2 p0.2.2 ∧ media_Validate_L1 p0 m n21 n22 n23 = some o17) FU [(1, _), (2, _), (22, _), (23, _), (24, _)] ⟨rfl, rfl, rfl, rfl, rfl, trivial⟩ ⟨_, _, _, _, rfl, H, hg_tabs, hp0_2, e18⟩ ?_)
      rintro m24 e w ⟨n21, n22, n23, M, rfl, H, hg_tabs, hp0_2, e18⟩
      rcases m24 with _ | m24
      · rw [media_Validate_L1] at e18; cases e18
      rw [media_Validate_L1] at e18
      refine SQ (RG (ST (Ex.lss rfl rfl) rfl (NL (TN (SQ ?_)))))
      refine WC.condB rfl (fun hk25 => ?_) (fun hk25 => ?_)
      ·
       replace hk25 : n23 < (p0.2.2.length : Int) := of_decide_eq_true hk25
       rw [if_pos hk25] at e18
       refine SK (TN (SQ (BL (SQ ?_))))
       obtain ⟨a26, hxa26, e18⟩ := bnd e18
       obtain ⟨bk27, o27, ha27, hc27⟩ := hp0_2.atC hxa26
       refine RG (MV rfl rfl (ST (Ex.idxAt ha27 Tryz.underlying22 Tryz.sizeOf47 rfl rfl) rfl (ST (Ex.loadAggM H rfl hc27 Tryz.isAgg47 Tryz.sizeOf47 (by rfl)) rfl ?_)))
       refine WR.alloc [_, _] H Tryz.zeroValue47 rfl (Wn.none rfl) rfl ?_
       intro bk4 w H
       refine AS rfl rfl (WR.store [_, _] H rfl rfl rfl (by repeat first | exact .head | apply Upd.tail) Tryz.sizeOf47 rfl (by rfl) (by rfl) (Wn.none rfl) ?_)
       intro w H
       refine NL (TN (BL (SQ ?_)))
       obtain ⟨o27, e28, e18⟩ := bnd e18
       refine WC.cutX (fun e w => ∃ (b29 : Bool) (M : Mem), e = [(1, ptr bk1 0), (2, ptr bk2 0), (3, I n23), (4, ptr bk4 0), (22, vp0_2), (23, I (p0.2.2.length : Int)), (24, I n23), (29, Value.bool b29)] ∧ St w0 M0 M [.blk bk1 (.cells #[S p0.1, S p0.2.1, vp0_2] 24), .blk bk2 (.cells #[I n21, I n22] 27), .blk bk4 (.cells #[S a26.1, S a26.2] 47)] w ∧ Tabs M ∧ SlS M 2 xenc47 vp0_2 p0.2.2 ∧ some b29 = some o27) [] ?_ ?_ (trivial)
       ·
        obtain ⟨b30, hx31, e28⟩ := bnd e28
        refine RG (ST (Ex.fieldAddr Tryz.underlying47 rfl Tryz.sizeOf9 (by decide) rfl) rfl (ST (Ex.load1 H rfl (by repeat first | exact kMh | apply kMt) Tryz.isAgg9 (by rfl)) rfl ?_))
        refine WR.call H (media_token_ct hx31) rfl trivial (Wn.none rfl) rfl ?_
        intro v32 M w H hle hR
        replace hg_tabs := hg_tabs.mono hle
        replace hp0_2 := hp0_2.mono hle
        replace hc27 := hc27.mono hle
        obtain rfl := hR
        refine ST (Ex.not rfl) rfl (MV rfl rfl ?_)
        rcases b30 with _ | _
        ·
         rw [if_neg Bool.false_ne_true] at e28
         refine WR.skipN 4 rfl rfl (PT rfl rfl rfl (AS rfl rfl (NL ?_)))
         exact WQ.meetN [(1, _), (2, _), (3, _), (4, _), (22, _), (23, _), (24, _), (29, _)] ⟨rfl, rfl, rfl, rfl, rfl, rfl, rfl, rfl, trivial⟩ ⟨_, _, rfl, (H.pick (L' := [.blk bk1 (.cells #[S p0.1, S p0.2.1, vp0_2] 24), .blk bk2 (.cells #[I n21, I n22] 27), .blk bk4 (.cells #[S a26.1, S a26.2] 47)]) (by repeat first | exact kPn | refine kPc (by repeat first | exact .head | apply Rem.tail) ?_)), hg_tabs, hp0_2, e28⟩
        ·
         rw [if_pos rfl] at e28
         refine SG (Ex.fieldAddr Tryz.underlying47 rfl Tryz.sizeOf9 (by decide) rfl) rfl rfl rfl (SG (Ex.load1 H rfl (by repeat first | exact kMh | apply kMt) Tryz.isAgg9 (by rfl)) rfl rfl rfl ?_)
         refine SG (Ex.lenStr Tryz.underlying9 rfl) rfl rfl rfl (SG (Ex.gtr rfl rfl) rfl rfl rfl (PF rfl rfl rfl (AS rfl rfl (NL ?_))))
         exact WQ.meetN [(1, _), (2, _), (3, _), (4, _), (22, _), (23, _), (24, _), (29, _)] ⟨rfl, rfl, rfl, rfl, rfl, rfl, rfl, rfl, trivial⟩ ⟨_, _, rfl, (H.pick (L' := [.blk bk1 (.cells #[S p0.1, S p0.2.1, vp0_2] 24), .blk bk2 (.cells #[I n21, I n22] 27), .blk bk4 (.cells #[S a26.1, S a26.2] 47)]) (by repeat first | exact kPn | refine kPc (by repeat first | exact .head | apply Rem.tail) ?_)), hg_tabs, hp0_2, e28⟩
       ·
        rintro e w ⟨b29, M, rfl, H, hg_tabs, hp0_2, q32⟩
        obtain rfl := oI q32
        refine TN ?_
        refine WC.condB rfl (fun hk33 => ?_) (fun hk33 => ?_)
        ·
         subst hk33
         rw [if_pos rfl] at e18
         refine SQ ?_
         obtain ⟨⟨n34, n35⟩, hx36, e18⟩ := bnd e18
         try dsimp only at e18
         refine RG (MV rfl rfl (WR.call H (basic_Fault_ct hx36) rfl trivial (Wn.none rfl) rfl ?_))
         intro v41 M w H hle hR
         replace hg_tabs := hg_tabs.mono hle
         replace hp0_2 := hp0_2.mono hle
         try dsimp only at hR
         obtain rfl := hR
         refine WR.store [_, _] H rfl rfl rfl (by repeat first | exact .head | apply Upd.tail) Tryz.sizeOf27 rfl (by rfl) (by rfl) (Wn.none rfl) ?_
         intro w H
         refine NL (TN (RT ?_))
         obtain rfl := oI e18
         try dsimp only at h
         obtain rfl := oI h
         exact WQ.ret1 rfl ⟨_, rfl, H.loadAgg (by repeat first | exact kMh | apply kMt) Tryz.isAgg27 Tryz.sizeOf27 (by rfl)⟩ H.ext rfl
        ·
         subst hk33
         rw [if_neg Bool.false_ne_true] at e18
         refine SQ ?_
         obtain ⟨l37, hxl37, e18⟩ := bnd e18
         obtain ⟨b39, hx40, e18⟩ := bnd e18
         refine RG (ST (Ex.fieldAddr Tryz.underlying24 rfl Tryz.sizeOf22 (by decide) rfl) rfl (ST (Ex.load1 H rfl (by repeat first | exact kMh | apply kMt) Tryz.isAgg22 (by rfl)) rfl ?_))
         refine MV rfl rfl (WR.sliceSSH Tryz.underlying22 Tryz.sizeOf47 (hp0_2) rfl rfl hxl37 (Wn.none rfl) rfl ?_)
         intro v46 hs46
         obtain ⟨M, hle, hb38, H⟩ := H.freezeVar (b := bk4) (by repeat first | exact .head | apply Rem.tail)
         replace hg_tabs := hg_tabs.mono hle
         replace hp0_2 := hp0_2.mono hle
         replace hs46 := hs46.mono hle
         refine ST (Ex.makeFunc rfl) rfl (WR.call H (slices_ContainsFunc_Param_ct hx40) rfl ⟨hs46, (fun _ _ h => FnV.ofCap [ptr bk4 0] (media_Validate_1_ct h) (fun _ hm => hb38.mono hm))⟩ (Wn.none rfl) rfl ?_)
         intro v48 M w H hle hR
         replace hg_tabs := hg_tabs.mono hle
         replace hp0_2 := hp0_2.mono hle
         replace hs46 := hs46.mono hle
         replace hb38 := hb38.mono hle
         obtain rfl := hR
         refine AS rfl rfl (NL (TN ?_))
         refine WC.condB rfl (fun hk41 => ?_) (fun hk41 => ?_)
         ·
          subst hk41
          rw [if_pos rfl] at e18
          refine SQ ?_
          obtain ⟨⟨n42, n43⟩, hx44, e18⟩ := bnd e18
          try dsimp only at e18
          refine RG (MV rfl rfl (WR.call H (basic_Fault_ct hx44) rfl trivial (Wn.none rfl) rfl ?_))
          intro v50 M w H hle hR
          replace hg_tabs := hg_tabs.mono hle
          replace hp0_2 := hp0_2.mono hle
          replace hs46 := hs46.mono hle
          replace hb38 := hb38.mono hle
          try dsimp only at hR
          obtain rfl := hR
          refine WR.store [_, _] H rfl rfl rfl (by repeat first | exact .head | apply Upd.tail) Tryz.sizeOf27 rfl (by rfl) (by rfl) (Wn.none rfl) ?_
          intro w H
          refine NL (TN (RT ?_))
          obtain rfl := oI e18
          try dsimp only at h
          obtain rfl := oI h
          exact WQ.ret1 rfl ⟨_, rfl, H.loadAgg (by repeat first | exact kMh | apply kMt) Tryz.isAgg27 Tryz.sizeOf27 (by rfl)⟩ H.ext rfl
         ·
          subst hk41
          rw [if_neg Bool.false_ne_true] at e18
          refine SQ (RG (ST (Ex.fieldAddr Tryz.underlying47 rfl Tryz.sizeOf9 (by decide) rfl) rfl (ST (Ex.loadM H rfl (hb38.cell (j := 1) rfl) Tryz.isAgg9) rfl (ST (Ex.lenStr Tryz.underlying9 rfl) rfl (ST (Ex.gtr rfl rfl) rfl (AS rfl rfl (NL (TN ?_))))))))
          refine WC.condB rfl (fun hk45 => ?_) (fun hk45 => ?_)
          ·
           replace hk45 : (500 : Int) < (a26.2.length : Int) := of_decide_eq_true hk45
           rw [if_pos hk45] at e18
           refine SQ ?_
           obtain ⟨⟨n46, n47⟩, hx48, e18⟩ := bnd e18
           try dsimp only at e18
           refine RG (MV rfl rfl (WR.call H (basic_Fault_ct hx48) rfl trivial (Wn.none rfl) rfl ?_))
           intro v57 M w H hle hR
           replace hg_tabs := hg_tabs.mono hle
           replace hp0_2 := hp0_2.mono hle
           replace hs46 := hs46.mono hle
           replace hb38 := hb38.mono hle
           try dsimp only at hR
           obtain rfl := hR
           refine WR.store [_, _] H rfl rfl rfl (by repeat first | exact .head | apply Upd.tail) Tryz.sizeOf27 rfl (by rfl) (by rfl) (Wn.none rfl) ?_
           intro w H
           refine NL (TN (RT ?_))
           obtain rfl := oI e18
           try dsimp only at h
           obtain rfl := oI h
           exact WQ.ret1 rfl ⟨_, rfl, H.loadAgg (by repeat first | exact kMh | apply kMt) Tryz.isAgg27 Tryz.sizeOf27 (by rfl)⟩ H.ext rfl
          ·
           replace hk45 : ¬ ((500 : Int) < (a26.2.length : Int)) := of_decide_eq_false hk45
           rw [if_neg hk45] at e18
           refine SQ ?_
           obtain ⟨b49, hx50, e18⟩ := bnd e18
           refine RG (ST (Ex.fieldAddr Tryz.underlying47 rfl Tryz.sizeOf9 (by decide) rfl) rfl (ST (Ex.loadM H rfl (hb38.cell (j := 1) rfl) Tryz.isAgg9) rfl (WR.call H (utf8_ValidString_ct hx50) rfl (hg_tabs) (Wn.none rfl) rfl ?_)))
           intro v61 M w H hle hR
           replace hg_tabs := hg_tabs.mono hle
           replace hp0_2 := hp0_2.mono hle
           replace hs46 := hs46.mono hle
           replace hb38 := hb38.mono hle
           obtain rfl := hR
           refine ST (Ex.not rfl) rfl (AS rfl rfl (NL (TN ?_)))
           refine WC.condB rfl (fun hk51 => ?_) (fun hk51 => ?_)
           ·
            replace hk51 : b49 = false := by simpa using hk51
            subst hk51
            rw [if_neg Bool.false_ne_true] at e18
            refine SQ ?_
            obtain ⟨⟨n52, n53⟩, hx54, e18⟩ := bnd e18
            try dsimp only at e18
            refine RG (MV rfl rfl (WR.call H (basic_Fault_ct hx54) rfl trivial (Wn.none rfl) rfl ?_))
            intro v64 M w H hle hR
            replace hg_tabs := hg_tabs.mono hle
            replace hp0_2 := hp0_2.mono hle
            replace hs46 := hs46.mono hle
            replace hb38 := hb38.mono hle
            try dsimp only at hR
            obtain rfl := hR
            refine WR.store [_, _] H rfl rfl rfl (by repeat first | exact .head | apply Upd.tail) Tryz.sizeOf27 rfl (by rfl) (by rfl) (Wn.none rfl) ?_
            intro w H
            refine NL (TN (RT ?_))
            obtain rfl := oI e18
            try dsimp only at h
            obtain rfl := oI h
            exact WQ.ret1 rfl ⟨_, rfl, H.loadAgg (by repeat first | exact kMh | apply kMt) Tryz.isAgg27 Tryz.sizeOf27 (by rfl)⟩ H.ext rfl
           ·
            replace hk51 : b49 = true := by simpa using hk51
            subst hk51
            rw [if_pos rfl] at e18
            refine SK (IB (IB (TN ?_)))
            obtain ⟨n55, hxn55, e18⟩ := bnd e18
            refine RG (ST (Ex.addC rfl rfl hxn55) rfl (MV rfl rfl (NL ?_)))
            exact WQ.againP m24 [(1, _), (2, _), (22, _), (23, _), (24, _)] ⟨rfl, rfl, rfl, rfl, rfl, trivial⟩ ⟨_, _, _, _, rfl, H, hg_tabs, hp0_2, e18⟩ (Nat.lt_succ_self _)
      ·
       replace hk25 : ¬ (n23 < (p0.2.2.length : Int)) := of_decide_eq_false hk25
       rw [if_neg hk25] at e18
       refine WC.exit (WQ.thenExit (WQ.thenExit (WQ.exitHere ?_)))
       exact WQ.meetN [(2, _)] ⟨rfl, trivial⟩ ⟨_, _, _, rfl, (H.pick (L' := [.blk bk2 (.cells #[I n21, I n22] 27)]) (by repeat first | exact kPn | refine kPc (by repeat first | exact .head | apply Rem.tail) ?_)), hg_tabs, e18⟩
     ·
      rintro e w ⟨n19, n20, M, rfl, H, hg_tabs, q56⟩
      obtain rfl := oI q56
      try dsimp only at h
      refine TN (SQ ?_)
      obtain ⟨⟨n57, n58⟩, hx59, h⟩ := bnd h
      try dsimp only at h
      refine RG (WR.call H (basic_None_ct hx59) rfl trivial (Wn.none rfl) rfl ?_)
      intro v66 M w H hle hR
      replace hg_tabs := hg_tabs.mono hle
      try dsimp only at hR
      obtain rfl := hR
      refine WR.store [_, _] H rfl rfl rfl (by repeat first | exact .head | apply Upd.tail) Tryz.sizeOf27 rfl (by rfl) (by rfl) (Wn.none rfl) ?_
      intro w H
      refine NL (TN (RT ?_))
      obtain rfl := oI h
      exact WQ.ret1 rfl ⟨_, rfl, H.loadAgg (by repeat first | exact kMh | apply kMt) Tryz.isAgg27 Tryz.sizeOf27 (by rfl)⟩ H.ext rfl
theorem basic_Failed_ct {p0 : (Int × Int)} {r : Bool} (h : basic_Failed p0 = some r) : Ct Tryz.prog 31 [Value.agg #[I p0.1, I p0.2]] (fun M => True) (fun v M => v = Value.bool r) := by
  refine Ct.of Tryz.func31 (enters Tryz.func31 (by kernel_rfl) rfl) rfl rfl rfl ?_
  intro w0 M0 H hp
  unfold basic_Failed at h
  refine SQ (RG (WR.box [_, _] H rfl rfl (Wn.none rfl) rfl ?_))
  intro bk1 w H
  refine AS rfl rfl (NL (TN (SQ (RG (ST (Ex.fieldAddr Tryz.underlying27 rfl Tryz.sizeOf3 (by decide) rfl) rfl (ST (Ex.load1 H rfl (by repeat first | exact kMh | apply kMt) Tryz.isAgg3 (by rfl)) rfl ?_))))))
  refine ST (Ex.neqC rfl rfl) rfl (AS rfl rfl (NL (TN (RT ?_))))
  obtain rfl := oI h
  exact WQ.ret1 rfl rfl H.ext rfl
theorem media_param_1_ct {p0 : UInt8} {r : Bool} (h : media_param_1 p0 = some r) : Ct Tryz.prog 48 [encB p0] (fun M => True) (fun v M => v = Value.bool r) := by
  refine Ct.of Tryz.func48 (enters Tryz.func48 (by kernel_rfl) rfl) rfl rfl rfl ?_
  intro w0 M0 H hp
  unfold media_param_1 at h
  refine SQ (RG (AS rfl rfl (NL (TN (SQ ?_)))))
  obtain ⟨o1, e2, h⟩ := bnd h
  refine WC.cutX (fun e w => ∃ (b3 : Bool) (M : Mem), e = [(2, Value.bool b3)] ∧ St w0 M0 M [] w ∧ some b3 = some o1) [] ?_ ?_ (trivial)
  ·
   by_cases hk4 : 32 ≤ p0.toNat
   ·
    rw [if_pos hk4] at e2
    refine RG (MV rfl rfl (WR.stepE (v' := .bool true) (Ex.geqB (i := p0.toNat) (j := 32) rfl rfl) (congrArg Value.bool (decide_eq_true hk4)) (Wn.none rfl) rfl rfl (MV rfl rfl (SG (Ex.move rfl) rfl rfl rfl (SG (Ex.leqB (i := p0.toNat) (j := 126) rfl rfl) rfl rfl rfl (PT rfl rfl rfl (AS rfl rfl (NL ?_))))))))
    exact WQ.meetN [(2, _)] ⟨rfl, trivial⟩ ⟨_, _, rfl, H, e2⟩
   ·
    rw [if_neg hk4] at e2
    refine RG (MV rfl rfl (WR.stepE (v' := .bool false) (Ex.geqB (i := p0.toNat) (j := 32) rfl rfl) (congrArg Value.bool (decide_eq_false hk4)) (Wn.none rfl) rfl rfl (MV rfl rfl (GF rfl rfl rfl (GF rfl rfl rfl (PF rfl rfl rfl (AS rfl rfl (NL ?_))))))))
    exact WQ.meetN [(2, _)] ⟨rfl, trivial⟩ ⟨_, _, rfl, H, e2⟩
  ·
   rintro e w ⟨b3, M, rfl, H, q5⟩
   obtain rfl := oI q5
   refine TN (RT ?_)
   obtain rfl := oI h
   exact WQ.ret1 rfl rfl H.ext rfl
theorem basic_Digit_ct {p0 : UInt8} {r : UInt8} (h : basic_Digit p0 = some r) : Ct Tryz.prog 70 [encB p0] (fun M => True) (fun v M => v = encB r) := by
  refine Ct.of Tryz.func70 (enters Tryz.func70 (by kernel_rfl) rfl) rfl rfl rfl ?_
  intro w0 M0 H hp
  unfold basic_Digit at h
  refine SQ (RG (AS rfl rfl (NL (TN (SQ ?_)))))
  obtain ⟨c1, hxc1, h⟩ := bnd h
  refine RG (MV rfl rfl (ST (Ex.andB (c := p0) (d := 15) rfl rfl) rfl (ST (Ex.idxStrC Tryz.underlying9 rfl rfl hxc1) rfl (AS rfl rfl (NL (TN (RT ?_)))))))
  obtain rfl := oI h
  exact WQ.ret1 rfl rfl H.ext rfl
theorem media_pieces_ct {p0 : List UInt8} {r : List (List UInt8)} (h : media_pieces p0 = some r) : Ct Tryz.prog 51 [S p0] (fun M => True) (fun v M => Sl M encS v r) := by
  refine Ct.of Tryz.func51 (enters Tryz.func51 (by kernel_rfl) rfl) rfl rfl rfl ?_
  intro w0 M0 H hp
  unfold media_pieces at h
  refine SQ (RG (AS rfl rfl (NL (TN (SQ (RG (WR.litR (enc := encS) xty75 ([[117, 116, 102, 56, 39, 39]] : List (List UInt8)) H rfl (by rfl) (fun _ => rfl) rfl rfl (Wn.none rfl) rfl ?_)))))))
  intro v7 w H
  refine AS rfl rfl (NL (TN (SQ (SQ (RG (MV rfl rfl (ST (Ex.lenStr Tryz.underlying9 rfl) rfl (MV rfl rfl (NL (TN ?_))))))))))
  obtain ⟨o2, e3, h⟩ := bnd h
  refine WC.cutX (fun e w => ∃ (l5 : List (List UInt8)) (v6 : Value) (M : Mem), e = [(3, v6)] ∧ St w0 M0 M [RowI 9 encS v6 l5] w ∧ some l5 = some o2) [] ?_ ?_ (trivial)
  ·
   refine BL (WC.loopP (fun m e w => ∃ (l8 : List (List UInt8)) (v9 : Value) (n10 : Int) (M : Mem), e = [(0, S p0), (3, v9), (9, I (p0.length : Int)), (10, I n10)] ∧ St w0 M0 M [RowI 9 encS v9 l8] w ∧ media_pieces_L1 p0 m l8 n10 = some o2) FU [(0, _), (3, _), (9, _), (10, _)] ⟨rfl, rfl, rfl, rfl, trivial⟩ ⟨_, _, _, _, rfl, H, e3⟩ ?_)
   rintro m11 e w ⟨l8, v9, n10, M, rfl, H, e3⟩
   rcases m11 with _ | m11
   · rw [media_pieces_L1] at e3; cases e3
   rw [media_pieces_L1] at e3
   refine SQ (RG (ST (Ex.lss rfl rfl) rfl (NL (TN (SQ ?_)))))
   refine WC.condB rfl (fun hk12 => ?_) (fun hk12 => ?_)
   ·
    replace hk12 : n10 < (p0.length : Int) := of_decide_eq_true hk12
    rw [if_pos hk12] at e3
    refine SK (TN (SQ (BL (SQ (RG (MV rfl rfl (AS rfl rfl (NL (TN (SQ ?_))))))))))
    obtain ⟨n13, hxn13, e3⟩ := bnd e3
    obtain ⟨s14, hxs14, e3⟩ := bnd e3
    refine RG (MV rfl rfl (MV rfl rfl (MV rfl rfl (ST (Ex.addC rfl rfl hxn13) rfl (ST (Ex.sliceC Tryz.underlying9 rfl rfl rfl hxs14) rfl (AS rfl rfl (NL (TN (SQ (SQ ?_))))))))))
    obtain ⟨c15, hxc15, e3⟩ := bnd e3
    obtain ⟨b16, hx17, e3⟩ := bnd e3
    refine RG (MV rfl rfl (MV rfl rfl (ST (Ex.idxStrC Tryz.underlying9 rfl rfl hxc15) rfl (WR.call H (media_tokenByte_ct hx17) rfl trivial (Wn.none rfl) rfl ?_))))
    intro v21 M w H hle hR
    obtain rfl := hR
    refine ST (Ex.not rfl) rfl (NL (TN ?_))
    obtain ⟨o18, e19, e3⟩ := bnd e3
    refine WC.cutX (fun e w => ∃ (s20 : List UInt8) (M : Mem), e = [(0, S p0), (3, v9), (5, S s20), (9, I (p0.length : Int)), (10, I n10)] ∧ St w0 M0 M [RowI 9 encS v9 l8] w ∧ some s20 = some o18) [] ?_ ?_ (trivial)
    ·
     refine WC.condB rfl (fun hk21 => ?_) (fun hk21 => ?_)
     ·
      replace hk21 : b16 = false := by simpa using hk21
      subst hk21
      rw [if_neg Bool.false_ne_true] at e19
      obtain ⟨c22, hxc22, e19⟩ := bnd e19
      obtain ⟨c23, hx24, e19⟩ := bnd e19
      obtain ⟨c25, hxc25, e19⟩ := bnd e19
      obtain ⟨c26, hx27, e19⟩ := bnd e19
      refine WC.draw (m := 12) rfl rfl H ?_
      intro w H
      refine WA.take (i := 0) rfl (by kernel_rfl) (by kernel_rfl) (by kernel_rfl) (fun _ => Ex.move rfl) (Wn.none rfl) rfl rfl (fun _ _ => rfl) (WA.take (i := 1) rfl (by kernel_rfl) (by kernel_rfl) (by kernel_rfl) (fun _ => Ex.move rfl) (Wn.none rfl) rfl rfl (fun _ _ => rfl) (WA.take (i := 2) rfl (by kernel_rfl) (by kernel_rfl) (by kernel_rfl) (fun _ => Ex.idxStrC Tryz.underlying9 rfl rfl hxc22) (Wn.none rfl) rfl rfl (fun _ _ => rfl) (WA.take (i := 3) rfl (by kernel_rfl) (by kernel_rfl) (by kernel_rfl) (fun _ => Ex.shrB (c := c22) (m := 4) rfl rfl (by decide)) (Wn.none rfl) rfl rfl (fun _ _ => rfl) (WA.take (i := 5) rfl (by kernel_rfl) (by kernel_rfl) (by kernel_rfl) (fun _ => Ex.move rfl) (Wn.none rfl) rfl rfl (fun _ _ => rfl) (WA.take (i := 6) rfl (by kernel_rfl) (by kernel_rfl) (by kernel_rfl) (fun _ => Ex.move rfl) (Wn.none rfl) rfl rfl (fun _ _ => rfl) (WA.take (i := 7) rfl (by kernel_rfl) (by kernel_rfl) (by kernel_rfl) (fun _ => Ex.idxStrC Tryz.underlying9 rfl rfl hxc25) (Wn.none rfl) rfl rfl (fun _ _ => rfl) ?_))))))
      refine WA.seq (fuel := 0) [4, 8, 9, 10, 11] rfl (by kernel_rfl) (WR.call H (basic_Digit_ct hx24) rfl trivial (Wn.none rfl) rfl ?_)
      intro v27 M w H hle hR
      obtain rfl := hR
      refine WR.call H (basic_Digit_ct hx27) rfl trivial (Wn.none rfl) rfl ?_
      intro v31 M w H hle hR
      obtain rfl := hR
      refine WR.lit (enc := encB) xty93 ([37, c23, c26] : List UInt8) H rfl (by rfl) (fun _ => rfl) rfl rfl (Wn.none rfl) rfl ?_
      intro v32 M w H hle hs32
      refine ST (Ex.toStr Tryz.underlying93 Tryz.underlying5 Tryz.underlying9 H (hs32) rfl) rfl (AS rfl rfl (NA (WA.done (by kernel_rfl) ?_)))
      exact WQ.meetN [(0, _), (3, _), (5, _), (9, _), (10, _)] ⟨rfl, rfl, rfl, rfl, rfl, trivial⟩ ⟨_, _, rfl, H, e19⟩
     ·
      replace hk21 : b16 = true := by simpa using hk21
      subst hk21
      rw [if_pos rfl] at e19
      refine SK ?_
      exact WQ.meetN [(0, _), (3, _), (5, _), (9, _), (10, _)] ⟨rfl, rfl, rfl, rfl, rfl, trivial⟩ ⟨_, _, rfl, H, e19⟩
    ·
     rintro e w ⟨s20, M, rfl, H, q28⟩
     obtain rfl := oI q28
     refine TN (SQ ?_)
     obtain ⟨n29, hxn29, e3⟩ := bnd e3
     refine RG (MV rfl rfl (ST (Ex.lenRow (l := l8) Tryz.underlying75 H (by repeat first | exact kMh | apply kMt) rfl) rfl ?_))
     refine ST (Ex.subC rfl rfl hxn29) rfl (AS rfl rfl (NL (TN (SQ ?_))))
     obtain ⟨a30, hxa30, e3⟩ := bnd e3
     obtain ⟨n31, hxn31, e3⟩ := bnd e3
     refine RG (MV rfl rfl (MV rfl rfl (WR.idxRowC (l := l8) H Tryz.underlying75 Tryz.sizeOf9 (by repeat first | exact kMh | apply kMt) rfl rfl hxa30 (Wn.none rfl) rfl ?_)))
     intro g39 hg39
     refine ST (Ex.loadRowC H rfl hg39 (by repeat first | exact kMh | apply kMt) hxa30 Tryz.isAgg9) rfl ?_
     refine ST (Ex.lenStr Tryz.underlying9 rfl) rfl (MV rfl rfl (ST (Ex.lenStr Tryz.underlying9 rfl) rfl (ST (Ex.addC rfl rfl hxn31) rfl (ST (Ex.leq rfl rfl) rfl (NL (TN ?_))))))
     refine WC.condB rfl (fun hk32 => ?_) (fun hk32 => ?_)
     ·
      replace hk32 : n31 ≤ (60 : Int) := of_decide_eq_true hk32
      rw [if_pos hk32] at e3
      obtain ⟨a33, hxa33, e3⟩ := bnd e3
      obtain ⟨s34, hxs34, e3⟩ := bnd e3
      obtain ⟨a35, hxa35, e3⟩ := bnd e3
      obtain ⟨l36, hxl36, e3⟩ := bnd e3
      refine RG (MV rfl rfl (MV rfl rfl (WR.idxRowC (l := l8) H Tryz.underlying75 Tryz.sizeOf9 (by repeat first | exact kMh | apply kMt) rfl rfl hxa33 (Wn.none rfl) rfl ?_)))
      intro g48 hg48
      refine ST (Ex.loadRowC H rfl hg48 (by repeat first | exact kMh | apply kMt) hxa33 Tryz.isAgg9) rfl ?_
      refine MV rfl rfl (ST (Ex.strAddC rfl rfl hxs34) rfl (WR.idxRowC (l := l8) H Tryz.underlying75 Tryz.sizeOf9 (by repeat first | exact kMh | apply kMt) rfl rfl hxa35 (Wn.none rfl) rfl ?_))
      intro g52 hg52
      refine WR.storeRowC (a := s34) H rfl rfl ⟨rfl, rfl⟩ hg52 (fun _ => by repeat first | exact .head | apply Upd.tail) hxl36 Tryz.sizeOf9 (Wn.none rfl) ?_
      intro w H
      refine NL (IB (TN ?_))
      obtain ⟨n37, hxn37, e3⟩ := bnd e3
      refine RG (ST (Ex.addC rfl rfl hxn37) rfl (MV rfl rfl (NL ?_)))
      exact WQ.againP m11 [(0, _), (3, _), (9, _), (10, _)] ⟨rfl, rfl, rfl, rfl, trivial⟩ ⟨_, _, _, _, rfl, H, e3⟩ (Nat.lt_succ_self _)
     ·
      replace hk32 : ¬ (n31 ≤ (60 : Int)) := of_decide_eq_false hk32
      rw [if_neg hk32] at e3
      obtain ⟨l38, hxl38, e3⟩ := bnd e3
      refine RG (MV rfl rfl (MV rfl rfl (WR.lit (enc := encS) xty75 ([s20] : List (List UInt8)) H rfl (by rfl) (fun _ => rfl) rfl rfl (Wn.none rfl) rfl ?_)))
      intro v55 M w H hle hs55
      refine WR.appC (l := l8) xty75 rfl (fun _ => rfl) H rfl (fun _ => by repeat first | exact .head | apply Upd.tail) rfl (hs55) hxl38 (Wn.none rfl) rfl ?_
      intro v56 w H
      refine AS rfl rfl (NL (IB (TN ?_)))
      obtain ⟨n39, hxn39, e3⟩ := bnd e3
      refine RG (ST (Ex.addC rfl rfl hxn39) rfl (MV rfl rfl (NL ?_)))
      exact WQ.againP m11 [(0, _), (3, _), (9, _), (10, _)] ⟨rfl, rfl, rfl, rfl, trivial⟩ ⟨_, _, _, _, rfl, H, e3⟩ (Nat.lt_succ_self _)
   ·
    replace hk12 : ¬ (n10 < (p0.length : Int)) := of_decide_eq_false hk12
    rw [if_neg hk12] at e3
    refine WC.exit (WQ.thenExit (WQ.thenExit (WQ.exitHere ?_)))
    exact WQ.meetN [(3, _)] ⟨rfl, trivial⟩ ⟨_, _, _, rfl, H, e3⟩
  ·
   rintro e w ⟨l5, v6, M, rfl, H, q40⟩
   obtain rfl := oI q40
   refine TN (SQ (RG (MV rfl rfl (AS rfl rfl (NL (TN (RT ?_)))))))
   obtain ⟨M, hle, hs41, H⟩ := H.freezeRow (v := v6) (enc := encS) (t := 9) (by repeat first | exact .head | apply Rem.tail)
   obtain rfl := oI h
   exact WQ.ret1 rfl rfl H.ext hs41
end Go.Proofs.YtegkhjbajijidaaGreatDoor
end
