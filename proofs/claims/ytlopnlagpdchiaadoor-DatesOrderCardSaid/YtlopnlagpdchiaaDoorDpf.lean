/-
  Dates: the program's functions as plain functions, written by wip/tools/ext.py.
-/
import Derived.Test.YtlopnlagpdchiaaDoorLb
import Derived.Test.YtlopnlagpdchiaaDoorChs
set_option linter.unusedVariables false
namespace Go.Ph.Pf
open Go.Ph.Pl
def stringslite_IndexByte (p0 : List UInt8) (p1 : UInt8) : Option Int :=
  some (ixB p0 p1)
def strings_Join (p0 : List (List UInt8)) (p1 : List UInt8) : Option (List UInt8) :=
  if p0.length ≤ 140737488355328 ∧ (jn p1 p0).length ≤ 140737488355328 then some (jn p1 p0) else none
def strconv_Itoa (p0 : Int) : Option (List UInt8) :=
  if -9223372036854775808 ≤ p0 ∧ p0 ≤ 9223372036854775807 then some (itoaP p0) else none
def strings_Repeat (p0 : List UInt8) (p1 : Int) : Option (List UInt8) :=
  if 0 ≤ p1 ∧ p1 ≤ 9223372036854775807 ∧ p0.length * p1.toNat ≤ 140737488355328 then some (Lib.repeatL p0 p1.toNat) else none
def strings_Split (p0 : List UInt8) (p1 : List UInt8) : Option (List (List UInt8)) :=
  if p0.length < 4294967281 ∧ 1 ≤ p1.length then some (Lib.split p0 p1) else none
def strconv_Atoi (p0 : List UInt8) : Option (Int × Bool) :=
  if p0.length ≤ 281474976710656 then some (atoiP p0) else none
def dates_within (p0 : Int) (p1 : Int) (p2 : Int) : Option Bool :=
  ((if p1 ≤ p0 then some (decide (p0 ≤ p2)) else some false)).bind fun b3 => some b3
def dates_leap (p0 : Int) : Option Bool :=
  ((rem p0 4).bind fun n4 => (if n4 = (0 : Int) then (rem p0 100).bind fun n6 => (if n6 = (0 : Int) then (rem p0 400).bind fun n8 => some (decide (n8 = (0 : Int))) else some true) else some false)).bind fun b3 => some b3
def dates_length (p0 : Int) (p1 : Int) : Option Int :=
  (chk (p1 - 1)).bind fun n1 => (idxA 12 ([31, 28, 31, 30, 31, 30, 31, 31, 30, 31, 30, 31] : List Int) n1).bind fun a2 => ((if p1 = (2 : Int) then (dates_leap p0).bind fun b7 => some b7 else some false)).bind fun b5 => (if b5 = true then (chk (a2 + 1)).bind fun n11 => some n11 else some a2)
def basic_Fault (p0 : Int) (p1 : Int) : Option (Int × Int) :=
  some (p0, p1)
def basic_None  : Option (Int × Int) :=
  some (0, 0)
def dates_Validate (p0 : (Int × Int × Int × Int × Int × Int × Int)) : Option (Int × Int) :=
  ((dates_within p0.1 1 4000).bind fun b4 => (if b4 = true then (dates_within p0.2.1 1 12).bind fun b6 => (if b6 = true then (dates_length p0.1 (min (max p0.2.1 1) 12)).bind fun n8 => (dates_within p0.2.2.1 1 n8).bind fun b10 => (if b10 = true then (dates_within p0.2.2.2.1 0 23).bind fun b12 => (if b12 = true then (dates_within p0.2.2.2.2.1 0 59).bind fun b14 => (if b14 = true then (dates_within p0.2.2.2.2.2.1 0 59).bind fun b16 => (if b16 = true then (dates_within p0.2.2.2.2.2.2 (-900) 900).bind fun b18 => some b18 else some false) else some false) else some false) else some false) else some false) else some false)).bind fun b3 => (if b3 = true then (basic_None).bind fun (n25, n26) => some (n25, n26) else (basic_Fault 3 (-3)).bind fun (n22, n23) => some (n22, n23))
def basic_Failed (p0 : (Int × Int)) : Option Bool :=
  some (!decide (p0.1 = (0 : Int)))
def dates_before (p0 : Int) : Option Int :=
  (chk (p0 - 1)).bind fun n1 => (chk ((365 : Int) * n1)).bind fun n2 => (quo n1 4).bind fun n3 => (chk (n2 + n3)).bind fun n4 => (quo n1 100).bind fun n5 => (chk (n4 - n5)).bind fun n6 => (quo n1 400).bind fun n7 => (chk (n6 + n7)).bind fun n8 => some n8
def dates_day_L1 (p0 : Int) (p1 : Int) : Nat → Int → Int → Option Int
  | 0, _, _ => none
  | m13 + 1, n11, n12 => (if n12 < p1 then (dates_length p0 n12).bind fun n15 => (chk (n11 + n15)).bind fun n17 => (chk (n12 + 1)).bind fun n18 => dates_day_L1 p0 p1 m13 n17 n18 else some n11)
def dates_day (p0 : Int) (p1 : Int) (p2 : Int) : Option Int :=
  (dates_before p0).bind fun n1 => (dates_before 1970).bind fun n3 => (chk (n1 - n3)).bind fun n5 => (chk (n5 + p2)).bind fun n6 => (chk (n6 - 1)).bind fun n7 => (dates_day_L1 p0 p1 FU n7 1).bind fun n10 => some n10
def dates_Instant (p0 : (Int × Int × Int × Int × Int × Int × Int)) : Option (Int × (Int × Int)) :=
  (dates_Validate (p0.1, p0.2.1, p0.2.2.1, p0.2.2.2.1, p0.2.2.2.2.1, p0.2.2.2.2.2.1, p0.2.2.2.2.2.2)).bind fun (n1, n2) => (basic_Failed (n1, n2)).bind fun b4 => (if b4 = true then some (0, (n1, n2)) else (dates_day p0.1 p0.2.1 p0.2.2.1).bind fun n7 => (chk (n7 * 86400)).bind fun n9 => (chk (p0.2.2.2.1 * 3600)).bind fun n10 => (chk (n9 + n10)).bind fun n11 => (chk (p0.2.2.2.2.1 - p0.2.2.2.2.2.2)).bind fun n12 => (chk (n12 * 60)).bind fun n13 => (chk (n11 + n13)).bind fun n14 => (chk (n14 + p0.2.2.2.2.2.1)).bind fun n15 => (basic_None).bind fun (n16, n17) => some (n15, (n16, n17)))
def basic_Time (p0 : Int) : Option Bool :=
  ((if (-68719476736) ≤ p0 then some (decide (p0 ≤ (68719476736 : Int))) else some false)).bind fun b3 => some b3
def dates_split (p0 : Int) (p1 : Int) : Option (Int × Int) :=
  (rem p0 p1).bind fun n1 => (chk (n1 + p1)).bind fun n2 => (rem n2 p1).bind fun n3 => (chk (p0 - n3)).bind fun n4 => (quo n4 p1).bind fun n5 => some (n5, n3)
def dates_Civil_L1 (n15 : Int) : Nat → Int → Int → Option Int
  | 0, _, _ => none
  | m36 + 1, n34, n35 => (if (0 : Int) < n35 then ((chk (n34 + n35)).bind fun n41 => (if n41 ≤ (4000 : Int) then (chk (n34 + n35)).bind fun n43 => (dates_day n43 1 1).bind fun n44 => some (decide (n44 ≤ n15)) else some false)).bind fun b40 => (if b40 = true then (chk (n34 + n35)).bind fun n48 => (quo n35 2).bind fun n49 => dates_Civil_L1 n15 m36 n48 n49 else (quo n35 2).bind fun n50 => dates_Civil_L1 n15 m36 n34 n50) else some n34)
def dates_Civil_L2 (n15 : Int) (n33 : Int) : Nat → Int → Option Int
  | 0, _ => none
  | m56 + 1, n55 => (dates_day n33 n55 1).bind fun n57 => (if n15 < n57 then (chk (n55 - 1)).bind fun n60 => dates_Civil_L2 n15 n33 m56 n60 else some n55)
def dates_Civil (p0 : Int) (p1 : Int) : Option ((Int × Int × Int × Int × Int × Int × Int) × (Int × Int)) :=
  (basic_Time p0).bind fun b1 => (if b1 = true then (dates_within p1 (-900) 900).bind fun b7 => (if b7 = true then (chk ((60 : Int) * p1)).bind fun n13 => (chk (p0 + n13)).bind fun n14 => (dates_split n14 86400).bind fun (n15, n16) => ((dates_day 1 1 1).bind fun n21 => (if n15 < n21 then some true else (dates_day 4000 12 31).bind fun n24 => some (decide (n24 < n15)))).bind fun b20 => (if b20 = true then (basic_Fault 3 (-3)).bind fun (n28, n29) => some ((0, 0, 0, 0, 0, 0, 0), (n28, n29)) else (dates_Civil_L1 n15 FU 1 2048).bind fun n33 => (dates_Civil_L2 n15 n33 FU 12).bind fun n54 => (dates_day n33 n54 1).bind fun n62 => (chk (n15 - n62)).bind fun n64 => (chk (n64 + 1)).bind fun n65 => (quo n16 3600).bind fun n66 => (quo n16 60).bind fun n67 => (rem n67 60).bind fun n68 => (rem n16 60).bind fun n69 => (basic_None).bind fun (n70, n71) => some ((n33, n54, n65, n66, n68, n69, p1), (n70, n71))) else (basic_Fault 3 (-4)).bind fun (n10, n11) => some ((0, 0, 0, 0, 0, 0, 0), (n10, n11))) else (basic_Fault 3 (-2)).bind fun (n4, n5) => some ((0, 0, 0, 0, 0, 0, 0), (n4, n5)))
def dates_Weekday (p0 : (Int × Int × Int × Int × Int × Int × Int)) : Option (Int × (Int × Int)) :=
  (dates_Validate (p0.1, p0.2.1, p0.2.2.1, p0.2.2.2.1, p0.2.2.2.2.1, p0.2.2.2.2.2.1, p0.2.2.2.2.2.2)).bind fun (n1, n2) => (basic_Failed (n1, n2)).bind fun b4 => (if b4 = true then some (0, (n1, n2)) else (dates_day p0.1 p0.2.1 p0.2.2.1).bind fun n7 => (chk (n7 + 4)).bind fun n9 => (dates_split n9 7).bind fun (n10, n11) => (basic_None).bind fun (n13, n14) => some (n11, (n13, n14)))
def dates_pad (p0 : Int) (p1 : Int) : Option (List UInt8) :=
  (strconv_Itoa p0).bind fun s1 => (chk (p1 - (s1.length : Int))).bind fun n3 => (strings_Repeat [48] (max 0 n3)).bind fun s4 => (cat s4 s1).bind fun s6 => some s6
def dates_weekdays  : Option (List (List UInt8)) :=
  (chkA 7 (List.replicate 7 [] : List (List UInt8))).bind fun l1 => (chkA 7 ([[83, 117, 110], [77, 111, 110], [84, 117, 101], [87, 101, 100], [84, 104, 117], [70, 114, 105], [83, 97, 116]] : List (List UInt8))).bind fun l2 => (chkA 7 ([[83, 117, 110], [77, 111, 110], [84, 117, 101], [87, 101, 100], [84, 104, 117], [70, 114, 105], [83, 97, 116]] : List (List UInt8))).bind fun l3 => some l3
def dates_months  : Option (List (List UInt8)) :=
  (chkA 12 (List.replicate 12 [] : List (List UInt8))).bind fun l1 => (chkA 12 ([[74, 97, 110], [70, 101, 98], [77, 97, 114], [65, 112, 114], [77, 97, 121], [74, 117, 110], [74, 117, 108], [65, 117, 103], [83, 101, 112], [79, 99, 116], [78, 111, 118], [68, 101, 99]] : List (List UInt8))).bind fun l2 => (chkA 12 ([[74, 97, 110], [70, 101, 98], [77, 97, 114], [65, 112, 114], [77, 97, 121], [74, 117, 110], [74, 117, 108], [65, 117, 103], [83, 101, 112], [79, 99, 116], [78, 111, 118], [68, 101, 99]] : List (List UInt8))).bind fun l3 => some l3
def dates_Print (p0 : (Int × Int × Int × Int × Int × Int × Int)) : Option (List UInt8 × (Int × Int)) :=
  (dates_Weekday (p0.1, p0.2.1, p0.2.2.1, p0.2.2.2.1, p0.2.2.2.2.1, p0.2.2.2.2.2.1, p0.2.2.2.2.2.2)).bind fun (n1, (n2, n3)) => (basic_Failed (n2, n3)).bind fun b5 => (if b5 = true then some ([], (n2, n3)) else ((if p0.2.2.2.2.2.2 < (0 : Int) then (chk (-p0.2.2.2.2.2.2)).bind fun n13 => some ([45], n13) else some ([43], p0.2.2.2.2.2.2))).bind fun (s10, n11) => (quo n11 60).bind fun n15 => (dates_pad n15 2).bind fun s16 => (rem n11 60).bind fun n18 => (dates_pad n18 2).bind fun s19 => (cat s16 s19).bind fun s21 => (cat s10 s21).bind fun s22 => (dates_pad p0.2.2.2.1 2).bind fun s23 => (cat s23 [58]).bind fun s25 => (dates_pad p0.2.2.2.2.1 2).bind fun s26 => (cat s25 s26).bind fun s28 => (cat s28 [58]).bind fun s29 => (dates_pad p0.2.2.2.2.2.1 2).bind fun s30 => (cat s29 s30).bind fun s32 => (dates_weekdays).bind fun n33 => (idxA 7 n33 n1).bind fun a35 => (cat a35 [44]).bind fun s36 => (dates_pad p0.2.2.1 2).bind fun s37 => (dates_months).bind fun n39 => (chk (p0.2.1 - 1)).bind fun n41 => (idxA 12 n39 n41).bind fun a42 => (dates_pad p0.1 4).bind fun s43 => (strings_Join ([s36, s37, a42, s43, s32, s22] : List (List UInt8)) [32]).bind fun s45 => (basic_None).bind fun (n47, n48) => some (s45, (n47, n48)))
def strings_FieldsFunc_L1 (p0 : List UInt8) (p1 : (Int → Option Bool)) : Nat → List (Int × Int) → Int → Nat → Option (List (Int × Int) × Int)
  | 0, _, _, _ => none
  | m14 + 1, l10, n12, ps13 => (if ps13 < p0.length then (p1 ((Utf.dr (p0.drop ps13)).1 : Int)).bind fun b16 => (if b16 = true then (if (0 : Int) ≤ n12 then (app 16 l10 ([(n12, (ps13 : Int))] : List (Int × Int))).bind fun l20 => (chk (-n12 - 1)).bind fun n21 => strings_FieldsFunc_L1 p0 p1 m14 l20 n21 (ps13 + (Utf.dr (p0.drop ps13)).2) else strings_FieldsFunc_L1 p0 p1 m14 l10 n12 (ps13 + (Utf.dr (p0.drop ps13)).2)) else (if n12 < (0 : Int) then strings_FieldsFunc_L1 p0 p1 m14 l10 (ps13 : Int) (ps13 + (Utf.dr (p0.drop ps13)).2) else strings_FieldsFunc_L1 p0 p1 m14 l10 n12 (ps13 + (Utf.dr (p0.drop ps13)).2))) else some (l10, n12))
def strings_FieldsFunc_L2 (p0 : List UInt8) (l27 : List (Int × Int)) : Nat → List (List UInt8) → Int → Option (List (List UInt8))
  | 0, _, _ => none
  | m39 + 1, l37, n38 => (if n38 < (l27.length : Int) then (idx l27 n38).bind fun a41 => (cut p0 a41.1 a41.2).bind fun s42 => (idx l37 n38).bind fun a43 => (put l37 n38 s42).bind fun l44 => (chk (n38 + 1)).bind fun n45 => strings_FieldsFunc_L2 p0 l27 m39 l44 n45 else some l37)
def strings_FieldsFunc (p0 : List UInt8) (p1 : (Int → Option Bool)) : Option (List (List UInt8)) :=
  (mkS 16 0 32 ((0, 0) : (Int × Int))).bind fun l1 => (strings_FieldsFunc_L1 p0 p1 FU l1 (-1) 0).bind fun (l6, n8) => ((if (0 : Int) ≤ n8 then (app 16 l6 ([(n8, (p0.length : Int))] : List (Int × Int))).bind fun l30 => some l30 else some l6)).bind fun l27 => (mkS 16 (l27.length : Int) (l27.length : Int) ([] : List UInt8)).bind fun l32 => (strings_FieldsFunc_L2 p0 l27 FU l32 0).bind fun l36 => some l36
def dates_Parse_1 (p0 : Int) : Option Bool :=
  ((if p0 = (32 : Int) then some true else some (decide (p0 = (9 : Int))))).bind fun b3 => some b3
def stringslite_HasSuffix (p0 : List UInt8) (p1 : List UInt8) : Option Bool :=
  ((if (p1.length : Int) ≤ (p0.length : Int) then (chk ((p0.length : Int) - (p1.length : Int))).bind fun n5 => (cut p0 n5 (p0.length : Int)).bind fun s6 => some (decide (s6 = p1)) else some false)).bind fun b3 => some b3
def strings_HasSuffix (p0 : List UInt8) (p1 : List UInt8) : Option Bool :=
  (stringslite_HasSuffix p0 p1).bind fun b1 => some b1
def stringslite_TrimSuffix (p0 : List UInt8) (p1 : List UInt8) : Option (List UInt8) :=
  (stringslite_HasSuffix p0 p1).bind fun b1 => (if b1 = true then (chk ((p0.length : Int) - (p1.length : Int))).bind fun n4 => (cut p0 0 n4).bind fun s5 => some s5 else some p0)
def strings_TrimSuffix (p0 : List UInt8) (p1 : List UInt8) : Option (List UInt8) :=
  (stringslite_TrimSuffix p0 p1).bind fun s1 => some s1
def slices_Index_string_string_L1 (p0 : List (List UInt8)) (p1 : List UInt8) : Nat → Int → Option (Unit ⊕ Int)
  | 0, _ => none
  | m4 + 1, n3 => (if n3 < (p0.length : Int) then (idx p0 n3).bind fun a6 => (if p1 = a6 then some (.inr n3) else (chk (n3 + 1)).bind fun n8 => slices_Index_string_string_L1 p0 p1 m4 n8) else some (.inl ()))
def slices_Index_string_string (p0 : List (List UInt8)) (p1 : List UInt8) : Option Int :=
  ((slices_Index_string_string_L1 p0 p1 FU 0 : Option (Unit ⊕ Int))).bind fun o11 => (match o11 with | .inl _ => some (-1) | .inr r10 => some r10)
def slices_Contains_string_string (p0 : List (List UInt8)) (p1 : List UInt8) : Option Bool :=
  (slices_Index_string_string p0 p1).bind fun n1 => some (decide ((0 : Int) ≤ n1))
def basic_Digits_L1 (p0 : List UInt8) : Nat → Int → Option (Unit ⊕ Bool)
  | 0, _ => none
  | m4 + 1, n3 => (if n3 < (p0.length : Int) then ((idx p0 n3).bind fun c9 => (if c9.toNat < 48 then some true else (idx p0 n3).bind fun c11 => some (decide (57 < c11.toNat)))).bind fun b8 => (if b8 = true then some (.inr false) else (chk (n3 + 1)).bind fun n14 => basic_Digits_L1 p0 m4 n14) else some (.inl ()))
def basic_Digits (p0 : List UInt8) : Option Bool :=
  ((basic_Digits_L1 p0 FU 0 : Option (Unit ⊕ Bool))).bind fun o17 => (match o17 with | .inl _ => some (!decide (p0 = [])) | .inr r16 => some r16)
def dates_number (p0 : List UInt8) (p1 : Int) : Option (Int × Bool) :=
  (strconv_Atoi p0).bind fun (n1, b2) => ((if b2 = true then (if (p0.length : Int) = p1 then (basic_Digits p0).bind fun b9 => some (n1, b9) else some (n1, false)) else some (n1, false))).bind fun (n6, b7) => some (n6, b7)
def dates_clock (p0 : List UInt8) : Option (Int × Int × Int × Bool) :=
  (strings_Split p0 [58]).bind fun l1 => ((if (l1.length : Int) < (2 : Int) then some true else some (decide ((3 : Int) < (l1.length : Int))))).bind fun b5 => (if b5 = true then some (0, 0, 0, false) else (idx l1 0).bind fun a9 => (dates_number a9 2).bind fun (n10, b11) => (idx l1 1).bind fun a13 => (dates_number a13 2).bind fun (n14, b15) => ((if (l1.length : Int) = (3 : Int) then (idx l1 2).bind fun a22 => (dates_number a22 2).bind fun (n23, b24) => some (n23, b24) else some (0, true))).bind fun (n19, b20) => ((if b11 = true then (if b15 = true then some (n10, n14, n19, b20) else some (n10, n14, n19, false)) else some (n10, n14, n19, false))).bind fun (n29, n30, n31, b32) => some (n29, n30, n31, b32))
def dates_zone (p0 : List UInt8) : Option (Int × Bool) :=
  ((if p0 = [71, 77, 84] then some true else (if p0 = [85, 84] then some true else some (decide (p0 = [90]))))).bind fun b3 => (if b3 = true then some (0, true) else ((if (p0.length : Int) = (5 : Int) then (idx p0 0).bind fun c12 => (if c12 = 43 then some false else (idx p0 0).bind fun c14 => some (!decide (c14 = 45))) else some true)).bind fun b10 => (if b10 = true then some (0, false) else (cut p0 1 3).bind fun s17 => (dates_number s17 2).bind fun (n18, b19) => (cut p0 3 (p0.length : Int)).bind fun s21 => (dates_number s21 2).bind fun (n22, b23) => (chk ((60 : Int) * n18)).bind fun n25 => (chk (n25 + n22)).bind fun n26 => (idx p0 0).bind fun c27 => ((if c27 = 45 then (chk (-n26)).bind fun n32 => some n32 else some n26)).bind fun n30 => ((if b19 = true then (if b23 = true then some (n30, decide (n22 < (60 : Int))) else some (n30, false)) else some (n30, false))).bind fun (n36, b37) => some (n36, b37)))
def dates_read (p0 : List (List UInt8)) : Option ((Int × Int × Int × Int × Int × Int × Int) × Bool) :=
  (dates_weekdays).bind fun n1 => (chkA 7 (List.replicate 7 [] : List (List UInt8))).bind fun l3 => (chkA 7 n1).bind fun l4 => ((if (0 : Int) < (p0.length : Int) then (idx p0 0).bind fun a9 => (strings_HasSuffix a9 [44]).bind fun b10 => some b10 else some false)).bind fun b7 => (((if b7 = true then (chkA 7 n1).bind fun l27 => (idx p0 0).bind fun a28 => (strings_TrimSuffix a28 [44]).bind fun s29 => (slices_Contains_string_string l27 s29).bind fun b31 => (if b31 = true then (cut p0 1 (p0.length : Int)).bind fun l34 => some (.inl (l34, 0, 0, 0, 0, 0, 0, 0)) else some (.inr ((0, 0, 0, 0, 0, 0, 0), false))) else some (.inl (p0, 0, 0, 0, 0, 0, 0, 0))) : Option ((List (List UInt8) × Int × Int × Int × Int × Int × Int × Int) ⊕ ((Int × Int × Int × Int × Int × Int × Int) × Bool)))).bind fun o90 => (match o90 with | .inl (l15, n18, n19, n20, n21, n22, n23, n24) => (if (l15.length : Int) = (5 : Int) then (idx l15 0).bind fun a37 => (idx l15 0).bind fun a38 => (dates_number a37 (min (max (a38.length : Int) 1) 2)).bind fun (n39, b40) => (idxA 4 (List.replicate 4 false : List Bool) 0).bind fun a42 => (putA 4 (List.replicate 4 false : List Bool) 0 b40).bind fun l43 => (dates_months).bind fun n44 => (chkA 12 (List.replicate 12 [] : List (List UInt8))).bind fun l46 => (chkA 12 n44).bind fun l47 => (chkA 12 n44).bind fun l49 => (idx l15 1).bind fun a50 => (slices_Index_string_string l49 a50).bind fun n51 => (chk ((1 : Int) + n51)).bind fun n53 => (idx l15 2).bind fun a54 => (dates_number a54 4).bind fun (n55, b56) => (idxA 4 l43 1).bind fun a58 => (putA 4 l43 1 b56).bind fun l59 => (idx l15 3).bind fun a60 => (dates_clock a60).bind fun (n61, n62, n63, b64) => (idxA 4 l59 2).bind fun a66 => (putA 4 l59 2 b64).bind fun l67 => (idx l15 4).bind fun a68 => (dates_zone a68).bind fun (n69, b70) => (idxA 4 l67 3).bind fun a72 => (putA 4 l67 3 b70).bind fun l73 => ((if (0 : Int) < n53 then (chkA 4 l73).bind fun l85 => (chkA 4 l85).bind fun l86 => (chkA 4 ([true, true, true, true] : List Bool)).bind fun l87 => some (n55, n53, n39, n61, n62, n63, n69, decide (l85 = ([true, true, true, true] : List Bool))) else some (n55, n53, n39, n61, n62, n63, n69, false))).bind fun (n76, n77, n78, n79, n80, n81, n82, b83) => some ((n76, n77, n78, n79, n80, n81, n82), b83) else some ((0, 0, 0, 0, 0, 0, 0), false)) | .inr r89 => some r89)
def dates_Parse (p0 : List UInt8) : Option ((Int × Int × Int × Int × Int × Int × Int) × (Int × Int)) :=
  (if (4000 : Int) < (p0.length : Int) then (basic_Fault 1 (-1)).bind fun (n2, n3) => some ((0, 0, 0, 0, 0, 0, 0), (n2, n3)) else (strings_FieldsFunc p0 dates_Parse_1).bind fun l5 => (dates_read l5).bind fun ((n7, n8, n9, n10, n11, n12, n13), b14) => (if b14 = true then (dates_Validate (n7, n8, n9, n10, n11, n12, n13)).bind fun (n20, n21) => (basic_Failed (n20, n21)).bind fun b23 => (if b23 = true then some ((0, 0, 0, 0, 0, 0, 0), (n20, n21)) else (basic_None).bind fun (n26, n27) => some ((n7, n8, n9, n10, n11, n12, n13), (n26, n27))) else (basic_Fault 11 (-4)).bind fun (n17, n18) => some ((0, 0, 0, 0, 0, 0, 0), (n17, n18))))
def L_datesExample  : Option Bool :=
  (dates_Instant (1970, 1, 2, 0, 0, 0, 60)).bind fun (n1, (n2, n3)) => (dates_Civil 0 0).bind fun ((n5, n6, n7, n8, n9, n10, n11), (n12, n13)) => (dates_Weekday (n5, n6, n7, n8, n9, n10, n11)).bind fun (n15, (n16, n17)) => (dates_Print (1970, 1, 2, 0, 0, 0, 60)).bind fun (s19, (n20, n21)) => (dates_Parse [50, 32, 74, 97, 110, 32, 49, 57, 55, 48, 32, 48, 48, 58, 48, 48, 32, 43, 48, 49, 48, 48]).bind fun ((n23, n24, n25, n26, n27, n28, n29), (n30, n31)) => ((if n2 = (0 : Int) then (if n12 = (0 : Int) then (if n16 = (0 : Int) then (if n20 = (0 : Int) then (if n30 = (0 : Int) then (if n1 = (82800 : Int) then (if n5 = 1970 ∧ n6 = 1 ∧ n7 = 1 ∧ n8 = 0 ∧ n9 = 0 ∧ n10 = 0 ∧ n11 = 0 then (if n15 = (4 : Int) then (if s19 = [70, 114, 105, 44, 32, 48, 50, 32, 74, 97, 110, 32, 49, 57, 55, 48, 32, 48, 48, 58, 48, 48, 58, 48, 48, 32, 43, 48, 49, 48, 48] then some (decide (n23 = 1970 ∧ n24 = 1 ∧ n25 = 2 ∧ n26 = 0 ∧ n27 = 0 ∧ n28 = 0 ∧ n29 = 60)) else some false) else some false) else some false) else some false) else some false) else some false) else some false) else some false) else some false)).bind fun b35 => some b35
def R_In (p0 : Int) (p1 : Int) (p2 : Int) : Option Bool :=
  ((if p1 ≤ p0 then some (decide (p0 ≤ p2)) else some false)).bind fun b3 => some b3
def L_DatesRoundTrip (p0 : (Int × Int × Int × Int × Int × Int × Int)) : Option Bool :=
  (L_datesExample).bind fun b1 => (if b1 = true then (dates_Instant (p0.1, p0.2.1, p0.2.2.1, p0.2.2.2.1, p0.2.2.2.2.1, p0.2.2.2.2.2.1, p0.2.2.2.2.2.2)).bind fun (n4, (n5, n6)) => (if n5 = (0 : Int) then (R_In n4 (-68719476736) 68719476736).bind fun b9 => (if b9 = true then (dates_Civil n4 p0.2.2.2.2.2.2).bind fun ((n12, n13, n14, n15, n16, n17, n18), (n19, n20)) => ((if n19 = (0 : Int) then some (decide (n12 = p0.1 ∧ n13 = p0.2.1 ∧ n14 = p0.2.2.1 ∧ n15 = p0.2.2.2.1 ∧ n16 = p0.2.2.2.2.1 ∧ n17 = p0.2.2.2.2.2.1 ∧ n18 = p0.2.2.2.2.2.2)) else some false)).bind fun b24 => some b24 else some true) else some (decide (n4 = (0 : Int)))) else some false)
def L_DatesOrder_L1 (p0 : (Int × Int × Int × Int × Int × Int × Int)) (p1 : (Int × Int × Int × Int × Int × Int × Int)) : Nat → Bool → Int → Option Bool
  | 0, _, _ => none
  | m32 + 1, b30, n31 => (if (0 : Int) ≤ n31 then ((idx ([p0.1, p0.2.1, p0.2.2.1, p0.2.2.2.1, p0.2.2.2.2.1, p0.2.2.2.2.2.1] : List Int) n31).bind fun a37 => (idx ([p1.1, p1.2.1, p1.2.2.1, p1.2.2.2.1, p1.2.2.2.2.1, p1.2.2.2.2.2.1] : List Int) n31).bind fun a38 => (if a37 < a38 then some true else (idx ([p0.1, p0.2.1, p0.2.2.1, p0.2.2.2.1, p0.2.2.2.2.1, p0.2.2.2.2.2.1] : List Int) n31).bind fun a40 => (idx ([p1.1, p1.2.1, p1.2.2.1, p1.2.2.2.1, p1.2.2.2.2.1, p1.2.2.2.2.2.1] : List Int) n31).bind fun a41 => (if a40 = a41 then some b30 else some false))).bind fun b36 => (chk (n31 - 1)).bind fun n44 => L_DatesOrder_L1 p0 p1 m32 b36 n44 else some b30)
def L_DatesOrder (p0 : (Int × Int × Int × Int × Int × Int × Int)) (p1 : (Int × Int × Int × Int × Int × Int × Int)) : Option Bool :=
  (L_datesExample).bind fun b1 => (if b1 = true then (dates_Instant (p0.1, p0.2.1, p0.2.2.1, p0.2.2.2.1, p0.2.2.2.2.1, p0.2.2.2.2.2.1, p0.2.2.2.2.2.2)).bind fun (n4, (n5, n6)) => (dates_Instant (p1.1, p1.2.1, p1.2.2.1, p1.2.2.2.1, p1.2.2.2.2.1, p1.2.2.2.2.2.1, p1.2.2.2.2.2.2)).bind fun (n8, (n9, n10)) => ((if n5 = (0 : Int) then some (!decide (n9 = (0 : Int))) else some true)).bind fun b14 => (if b14 = true then ((if n5 = (0 : Int) then some true else some (decide (n4 = (0 : Int))))).bind fun b20 => some b20 else (dates_Instant (p1.1, p1.2.1, p1.2.2.1, p1.2.2.2.1, p1.2.2.2.2.1, p1.2.2.2.2.2.1, p0.2.2.2.2.2.2)).bind fun (n23, (n24, n25)) => (L_DatesOrder_L1 p0 p1 FU false 5).bind fun b29 => ((if n24 = (0 : Int) then (if b29 = (decide (n4 < n23)) then some (decide ((decide (n8 < n23)) = (decide (p0.2.2.2.2.2.2 < p1.2.2.2.2.2.2)))) else some false) else some false)).bind fun b48 => some b48) else some false)
end Go.Ph.Pf
