/-
  Wpf, Wpg, Sct1: own texts of this repository (wip/tpl, wip/plans), merged and shaken by wip/tools/pack.py.
-/
import Derived.Test.YtogkmhjnojphiaaGreatDoorProg
import Derived.KernelRfl
import Derived.Test.YtogkmhjnojphiaaGreatDoorE3c
set_option maxRecDepth 100000
section
set_option linter.unusedVariables false
namespace Go.Ph.Pf
open Go.Ph.Pl
def utf8_ValidString (p0 : List UInt8) : Option Bool :=
  if p0.length ≤ 4611686018427387904 then some (Chs.vld p0) else none
def grapheme_Split (p0 : List UInt8) : Option (List (List UInt8)) :=
  if p0.length ≤ 1048576 then some (Gr.pieces p0) else none
def charset_Best (p0 : List UInt8) : Option (List UInt8) :=
  some (Chs.setN.getD (Chs.bestK p0) [])
def charset_Decode (p0 : List UInt8) (p1 : List UInt8) : Option (List UInt8 × (Int × Int)) :=
  if p0.length ≤ 9223372036854775807 ∧ p1.length ≤ 12000 then (match Chs.setOf p0 with | some k => some (Chs.decoded k p1, (0, 0)) | none => some ([], (18, -2))) else none
def charset_Encode (p0 : List UInt8) (p1 : List UInt8) : Option (List UInt8 × (Int × Int)) :=
  if p0.length ≤ 9223372036854775807 ∧ p1.length ≤ 12000 then (match Chs.setOf p0 with | some k => (if Chs.vld p1 = true then (match Chs.encGo (Chs.encK k) (Gr.chars p1) 0 with | .ok b => some (b, (0, 0)) | .error e => some ([], (17, (e : Int)))) else some ([], (5, -3))) | none => some ([], (18, -2))) else none
def base64_Encode (p0 : List UInt8) : Option (List UInt8 × (Int × Int)) :=
  if p0.length ≤ 12000 then some (B64.encode p0, (0, 0)) else none
def base64_Lenient (p0 : List UInt8) : Option (List UInt8 × (Int × Int)) :=
  if p0.length ≤ 24000 then some (B64.lenient p0, (0, 0)) else none
def strings_IndexByte (p0 : List UInt8) (p1 : UInt8) : Option Int :=
  some (ixB p0 p1)
def strings_Join (p0 : List (List UInt8)) (p1 : List UInt8) : Option (List UInt8) :=
  if p0.length ≤ 140737488355328 ∧ (jn p1 p0).length ≤ 140737488355328 then some (jn p1 p0) else none
def strings_SplitN (p0 : List UInt8) (p1 : List UInt8) (p2 : Int) : Option (List (List UInt8)) :=
  if p0.length < 4294967281 ∧ 1 ≤ p1.length ∧ 1 ≤ p2 ∧ p2 ≤ 9223372036854775807 then some (Lib.splitN p0 p1 p2.toNat) else none
def strings_ReplaceAll (p0 : List UInt8) (p1 : List UInt8) (p2 : List UInt8) : Option (List UInt8) :=
  if p0.length < 4294967281 ∧ 1 ≤ p1.length ∧ p0.length + p0.length * p2.length ≤ 140737488355328 then some (Lib.replaceAll p0 p1 p2) else none
def strings_Contains (p0 : List UInt8) (p1 : List UInt8) : Option Bool :=
  if p0.length < 4294967281 then some (Lib.contains p0 p1) else none
def stringslite_Index (p0 : List UInt8) (p1 : List UInt8) : Option Int :=
  if p0.length < 4294967281 then some (Lib.index p0 p1) else none
def basic_Fault (p0 : Int) (p1 : Int) : Option (Int × Int) :=
  some (p0, p1)
def stringslite_HasPrefix (p0 : List UInt8) (p1 : List UInt8) : Option Bool :=
  ((if (p1.length : Int) ≤ (p0.length : Int) then (cut p0 0 (p1.length : Int)).bind fun s5 => some (decide (s5 = p1)) else some false)).bind fun b3 => some b3
def strings_HasPrefix (p0 : List UInt8) (p1 : List UInt8) : Option Bool :=
  (stringslite_HasPrefix p0 p1).bind fun b1 => some b1
def stringslite_HasSuffix (p0 : List UInt8) (p1 : List UInt8) : Option Bool :=
  ((if (p1.length : Int) ≤ (p0.length : Int) then (chk ((p0.length : Int) - (p1.length : Int))).bind fun n5 => (cut p0 n5 (p0.length : Int)).bind fun s6 => some (decide (s6 = p1)) else some false)).bind fun b3 => some b3
def strings_HasSuffix (p0 : List UInt8) (p1 : List UInt8) : Option Bool :=
  (stringslite_HasSuffix p0 p1).bind fun b1 => some b1
def words_plain_L1 (p0 : List UInt8) : Nat → Int → Option (Unit ⊕ Bool)
  | 0, _ => none
  | m4 + 1, n3 => (if n3 < (p0.length : Int) then ((idx p0 n3).bind fun c9 => (if c9.toNat < 32 then some true else (idx p0 n3).bind fun c11 => some (decide (126 < c11.toNat)))).bind fun b8 => (if b8 = true then some (.inr false) else (chk (n3 + 1)).bind fun n14 => words_plain_L1 p0 m4 n14) else some (.inl ()))
def words_plain (p0 : List UInt8) : Option Bool :=
  ((words_plain_L1 p0 FU 0 : Option (Unit ⊕ Bool))).bind fun o27 => (match o27 with | .inl _ => ((strings_HasPrefix p0 [32]).bind fun b19 => (if b19 = true then some false else (strings_HasSuffix p0 [32]).bind fun b21 => (if b21 = true then some false else (strings_Contains p0 [61, 63]).bind fun b23 => some (!b23)))).bind fun b18 => some b18 | .inr r26 => some r26)
def basic_None  : Option (Int × Int) :=
  some (0, 0)
def words_units (p0 : List UInt8) (p1 : List UInt8) : Option (List UInt8 × List UInt8) :=
  some (p1, p0)
def words_flat (p0 : List UInt8) : Option (List UInt8) :=
  (base64_Encode p0).bind fun (l1, (n2, n3)) => (strings_ReplaceAll l1 [13, 10] []).bind fun s5 => some s5
def strings_Builder_WriteByte (p0 : List UInt8) (p1 : UInt8) : Option (Bool × List UInt8) :=
  (app 1 p0 ([p1] : List UInt8)).bind fun l2 => some (true, l2)
def basic_Letter (p0 : UInt8) : Option Bool :=
  ((if 97 ≤ p0.toNat then (if p0.toNat ≤ 122 then some true else (if 65 ≤ p0.toNat then (if p0.toNat ≤ 90 then some true else (if 48 ≤ p0.toNat then some (decide (p0.toNat ≤ 57)) else some false)) else (if 48 ≤ p0.toNat then some (decide (p0.toNat ≤ 57)) else some false))) else (if 65 ≤ p0.toNat then (if p0.toNat ≤ 90 then some true else (if 48 ≤ p0.toNat then some (decide (p0.toNat ≤ 57)) else some false)) else (if 48 ≤ p0.toNat then some (decide (p0.toNat ≤ 57)) else some false)))).bind fun b3 => some b3
def basic_Digit (p0 : UInt8) : Option UInt8 :=
  (idx [48, 49, 50, 51, 52, 53, 54, 55, 56, 57, 65, 66, 67, 68, 69, 70] ((p0 &&& (15 : UInt8)).toNat : Int)).bind fun c1 => some c1
def strings_Builder_Write (p0 : List UInt8) (p1 : List UInt8) : Option (Int × Bool × List UInt8) :=
  (app 1 p0 p1).bind fun l2 => some ((p1.length : Int), true, l2)
def strings_Builder_String (p0 : List UInt8) : Option (List UInt8) :=
  some p0
def words_data_L1 (p0 : List UInt8) : Nat → List UInt8 → Int → Option (List UInt8)
  | 0, _, _ => none
  | m14 + 1, l11, n13 => (if n13 < (p0.length : Int) then (idx p0 n13).bind fun c17 => (if c17 = 32 then (strings_Builder_WriteByte l11 95).bind fun (b19, l20) => (chk (n13 + 1)).bind fun n22 => words_data_L1 p0 m14 l20 n22 else (basic_Letter c17).bind fun b23 => (if b23 = true then (strings_Builder_WriteByte l11 c17).bind fun (b26, l27) => (chk (n13 + 1)).bind fun n29 => words_data_L1 p0 m14 l27 n29 else (basic_Digit (UInt8.ofNat (c17.toNat / 2 ^ 4))).bind fun c30 => (basic_Digit c17).bind fun c32 => (strings_Builder_Write l11 ([61, c30, c32] : List UInt8)).bind fun (n34, b35, l36) => (chk (n13 + 1)).bind fun n38 => words_data_L1 p0 m14 l36 n38)) else some l11)
def words_data (p0 : List UInt8) : Option (List UInt8) :=
  (words_data_L1 p0 FU [] 0).bind fun l6 => (strings_Builder_String l6).bind fun s40 => some s40
def words_word (p0 : List UInt8) (p1 : List UInt8) : Option (List UInt8) :=
  (charset_Encode p0 p1).bind fun (l1, (n2, n3)) => (if p0 = [117, 116, 102, 56] then (cat [61, 63] p0).bind fun s6 => (cat s6 [63, 66, 63]).bind fun s7 => (words_flat l1).bind fun s8 => (cat s7 s8).bind fun s10 => (cat s10 [63, 61]).bind fun s11 => some s11 else (cat [61, 63] p0).bind fun s12 => (cat s12 [63, 81, 63]).bind fun s13 => (words_data l1).bind fun s14 => (cat s13 s14).bind fun s16 => (cat s16 [63, 61]).bind fun s17 => some s17)
def words_units_1_L2 {σ : Type} (Y : σ → (List UInt8) → Option (σ × Bool)) (a10 : List UInt8) : Nat → Nat → σ → Option (σ ⊕ σ)
  | 0, _, _ => none
  | m24 + 1, ps22, s23 => (if ps22 < a10.length then (Y s23 (Chs.utf8 ((Utf.dr (a10.drop ps22)).1 : Int))).bind fun (s26, b27) => (if b27 = true then words_units_1_L2 Y a10 m24 (ps22 + (Utf.dr (a10.drop ps22)).2) s26 else some (.inr s26)) else some (.inl s23))
def words_units_1_L1 {σ : Type} (Y : σ → (List UInt8) → Option (σ × Bool)) (p2 : List UInt8) (l1 : List (List UInt8)) : Nat → Int → σ → Option (σ ⊕ σ)
  | 0, _, _ => none
  | m8 + 1, n6, s7 => (if n6 < (l1.length : Int) then (idx l1 n6).bind fun a10 => (words_word p2 a10).bind fun s11 => (if (s11.length : Int) ≤ (75 : Int) then (Y s7 a10).bind fun (s14, b15) => (if b15 = true then (chk (n6 + 1)).bind fun n18 => words_units_1_L1 Y p2 l1 m8 n18 s14 else some (.inr s14)) else ((words_units_1_L2 Y a10 FU 0 s7 : Option (σ ⊕ σ))).bind fun o33 => (match o33 with | .inl s21 => (chk (n6 + 1)).bind fun n31 => words_units_1_L1 Y p2 l1 m8 n31 s21 | .inr r32 => some (.inr r32))) else some (.inl s7))
def words_units_1 (p1 : List UInt8) (p2 : List UInt8) (σ : Type) (Y : σ → (List UInt8) → Option (σ × Bool)) (s0 : σ) : Option σ :=
  (grapheme_Split p1).bind fun l1 => ((words_units_1_L1 Y p2 l1 FU 0 s0 : Option (σ ⊕ σ))).bind fun o36 => (match o36 with | .inl s5 => some s5 | .inr r35 => some r35)
def words_Encode_Y28 (s17 : List UInt8) (s : (List (List UInt8) × List UInt8)) (x32 : List UInt8) : Option (List (List UInt8) × List UInt8) :=
  match s with
  | (l25, s27) => ((if s27 = [] then some false else (cat s27 x32).bind fun s38 => (words_word s17 s38).bind fun s39 => some (decide ((75 : Int) < (s39.length : Int))))).bind fun b36 => (if b36 = true then (words_word s17 s27).bind fun s43 => (app 16 l25 ([s43] : List (List UInt8))).bind fun l45 => (cat [] x32).bind fun s47 => some (l45, s47) else (cat s27 x32).bind fun s48 => some (l25, s48))
def words_Encode (p0 : List UInt8) : Option (List UInt8 × (Int × Int)) :=
  (if (1000 : Int) < (p0.length : Int) then (basic_Fault 1 (-1)).bind fun (n2, n3) => some ([], (n2, n3)) else (utf8_ValidString p0).bind fun b5 => (if b5 = true then (words_plain p0).bind fun b11 => (if b11 = true then (basic_None).bind fun (n14, n15) => some (p0, (n14, n15)) else (charset_Best p0).bind fun s17 => (words_units s17 p0).bind fun (z19, z21) => (words_units_1 z19 z21 (List (List UInt8) × List UInt8) (stepY goOn (words_Encode_Y28 s17)) ([], [])).bind fun (l25, s27) => (words_word s17 s27).bind fun s49 => (app 16 l25 ([s49] : List (List UInt8))).bind fun l51 => (strings_Join l51 [32]).bind fun s53 => (basic_None).bind fun (n55, n56) => some (s53, (n55, n56))) else (basic_Fault 5 (-2)).bind fun (n8, n9) => some ([], (n8, n9))))
def basic_Hex (p0 : UInt8) : Option (UInt8 × Bool) :=
  ((if 48 ≤ p0.toNat then some (decide (p0.toNat ≤ 57)) else some false)).bind fun b3 => (if b3 = true then some ((p0 - (48 : UInt8)), true) else ((if 65 ≤ p0.toNat then some (decide (p0.toNat ≤ 70)) else some false)).bind fun b9 => (if b9 = true then some (((p0 - (65 : UInt8)) + (10 : UInt8)), true) else ((if 97 ≤ p0.toNat then some (decide (p0.toNat ≤ 102)) else some false)).bind fun b15 => (if b15 = true then some (((p0 - (97 : UInt8)) + (10 : UInt8)), true) else some (0, false))))
def basic_Pair (p0 : List UInt8) : Option (UInt8 × Bool) :=
  (if (p0.length : Int) < (2 : Int) then some (0, false) else (idx p0 0).bind fun c2 => (basic_Hex c2).bind fun (c3, b4) => (idx p0 1).bind fun c6 => (basic_Hex c6).bind fun (c7, b8) => ((if b4 = true then some (((UInt8.ofNat (c3.toNat * 2 ^ 4)) ||| c7), b8) else some (((UInt8.ofNat (c3.toNat * 2 ^ 4)) ||| c7), false))).bind fun (c12, b13) => some (c12, b13))
def words_bytesOf_L1 (p1 : List UInt8) : Nat → List UInt8 → Int → Option (List UInt8 ⊕ (List UInt8 × Bool))
  | 0, _, _ => none
  | m29 + 1, l26, n28 => (if n28 < (p1.length : Int) then (idx p1 n28).bind fun c32 => (if c32 = 95 then (app 1 l26 ([32] : List UInt8)).bind fun l34 => (chk (n28 + 1)).bind fun n35 => words_bytesOf_L1 p1 m29 l34 n35 else (idx p1 n28).bind fun c36 => (if c36 = 61 then (chk (n28 + 1)).bind fun n38 => (cut p1 n38 (p1.length : Int)).bind fun s39 => (basic_Pair s39).bind fun (c40, b41) => (if b41 = true then (app 1 l26 ([c40] : List UInt8)).bind fun l44 => (chk (n28 + 2)).bind fun n45 => (chk (n45 + 1)).bind fun n46 => words_bytesOf_L1 p1 m29 l44 n46 else some (.inr ([], false))) else ((idx p1 n28).bind fun c50 => (if 33 ≤ c50.toNat then (idx p1 n28).bind fun c52 => some (decide (c52.toNat ≤ 126)) else some false)).bind fun b49 => (if b49 = true then (idx p1 n28).bind fun c55 => (app 1 l26 ([c55] : List UInt8)).bind fun l56 => (chk (n28 + 1)).bind fun n57 => words_bytesOf_L1 p1 m29 l56 n57 else some (.inr ([], false))))) else some (.inl l26))
def words_bytesOf (p0 : List UInt8) (p1 : List UInt8) : Option (List UInt8 × Bool) :=
  ((if p0 = [66] then some (decide (p0 = [66])) else some (decide (p0 = [98])))).bind fun b3 => (if b3 = true then (toB p1).bind fun l7 => (base64_Lenient l7).bind fun (l8, (n9, n10)) => (words_flat l8).bind fun s12 => some (l8, decide (s12 = p1)) else ((if p0 = [81] then some (decide (p0 = [81])) else some (decide (p0 = [113])))).bind fun b16 => (if b16 = true then ((words_bytesOf_L1 p1 FU [] 0 : Option (List UInt8 ⊕ (List UInt8 × Bool)))).bind fun o61 => (match o61 with | .inl l23 => some (l23, true) | .inr r60 => some r60) else some ([], false)))
def basic_Failed (p0 : (Int × Int)) : Option Bool :=
  some (!decide (p0.1 = (0 : Int)))
def words_read (p0 : List UInt8) : Option (List UInt8 × Int × Bool) :=
  (strings_HasPrefix p0 [61, 63]).bind fun b1 => (if b1 = true then (cut p0 2 (min (p0.length : Int) 75)).bind fun s4 => (strings_SplitN s4 [63] 4).bind fun l5 => ((if (l5.length : Int) < (4 : Int) then some true else (idx l5 3).bind fun a11 => (strings_HasPrefix a11 [61]).bind fun b12 => some (!b12))).bind fun b9 => (if b9 = true then some ([], 0, false) else (idx l5 1).bind fun a16 => (idx l5 2).bind fun a17 => (words_bytesOf a16 a17).bind fun (l18, b19) => (idx l5 0).bind fun a21 => (charset_Decode a21 l18).bind fun (s22, (n23, n24)) => ((idx l5 0).bind fun a31 => (chk ((2 : Int) + (a31.length : Int))).bind fun n32 => (idx l5 1).bind fun a33 => (chk (n32 + (a33.length : Int))).bind fun n34 => (idx l5 2).bind fun a35 => (chk (n34 + (a35.length : Int))).bind fun n36 => (chk (n36 + 4)).bind fun n37 => (if b19 = true then (basic_Failed (n23, n24)).bind fun b38 => some (s22, n37, !b38) else some (s22, n37, false))).bind fun (s28, n29, b30) => some (s28, n29, b30)) else some ([], 0, false))
def basic_Blank (p0 : UInt8) : Option Bool :=
  ((if p0 = 32 then some true else some (decide (p0 = 9)))).bind fun b3 => some b3
def strings_Builder_WriteString (p0 : List UInt8) (p1 : List UInt8) : Option (Int × Bool × List UInt8) :=
  (app 1 p0 p1).bind fun l2 => some ((p1.length : Int), true, l2)
def words_Decode_L1 (p0 : List UInt8) : Nat → List UInt8 → Int → Int → Option (List UInt8 × Int)
  | 0, _, _, _ => none
  | m20 + 1, l16, n18, n19 => (if n19 < (p0.length : Int) then (cut p0 n19 (p0.length : Int)).bind fun s23 => (words_read s23).bind fun (s24, n25, b26) => (if b26 = true then (strings_Builder_WriteString l16 s24).bind fun (n67, b68, l69) => (chk (n19 + n25)).bind fun n71 => words_Decode_L1 p0 m20 l69 n71 n71 else ((if n18 < (0 : Int) then (idx p0 n19).bind fun c37 => (strings_Builder_WriteByte l16 c37).bind fun (b38, l39) => some l39 else some l16)).bind fun l34 => ((if (0 : Int) ≤ n18 then (idx p0 n19).bind fun c46 => (basic_Blank c46).bind fun b47 => some (!b47) else some false)).bind fun b44 => ((if b44 = true then (chk (n19 + 1)).bind fun n59 => (cut p0 n18 n59).bind fun s60 => (strings_Builder_WriteString l34 s60).bind fun (n61, b62, l63) => some (l63, (-1)) else some (l34, n18))).bind fun (l55, n57) => (chk (n19 + 1)).bind fun n66 => words_Decode_L1 p0 m20 l55 n57 n66) else some (l16, n18))
def words_Decode (p0 : List UInt8) : Option (List UInt8 × (Int × Int)) :=
  (if (4000 : Int) < (p0.length : Int) then (basic_Fault 1 (-1)).bind fun (n2, n3) => some ([], (n2, n3)) else (words_Decode_L1 p0 FU [] (-1) 0).bind fun (l10, n12) => ((if (0 : Int) ≤ n12 then (cut p0 n12 (p0.length : Int)).bind fun s81 => (strings_Builder_WriteString l10 s81).bind fun (n82, b83, l84) => some l84 else some l10)).bind fun l78 => (strings_Builder_String l78).bind fun s87 => (basic_None).bind fun (n89, n90) => some (s87, (n89, n90)))
def L_wordsExample  : Option Bool :=
  (words_Encode [195, 164, 32, 98]).bind fun (s1, (n2, n3)) => (words_Decode [61, 63, 108, 97, 116, 105, 110, 49, 63, 81, 63, 61, 69, 52, 95, 98, 63, 61]).bind fun (s5, (n6, n7)) => ((if n2 = (0 : Int) then (if n6 = (0 : Int) then (if s1 = [61, 63, 108, 97, 116, 105, 110, 49, 63, 81, 63, 61, 69, 52, 95, 98, 63, 61] then some (decide (s5 = [195, 164, 32, 98])) else some false) else some false) else some false)).bind fun b11 => some b11
def R_Blank (p0 : UInt8) : Option Bool :=
  ((if p0 = 32 then some true else some (decide (p0 = 9)))).bind fun b3 => some b3
end Go.Ph.Pf
end
section
set_option linter.unusedVariables false
namespace Go.Ph.Pf
open Go.Ph.Pl
def basic_All_L1 (p0 : List UInt8) (p1 : (UInt8 → Option Bool)) : Nat → Int → Option (Unit ⊕ Bool)
  | 0, _ => none
  | m4 + 1, n3 => (if n3 < (p0.length : Int) then (idx p0 n3).bind fun c6 => (p1 c6).bind fun b7 => (if b7 = true then (chk (n3 + 1)).bind fun n10 => basic_All_L1 p0 p1 m4 n10 else some (.inr false)) else some (.inl ()))
def basic_All (p0 : List UInt8) (p1 : (UInt8 → Option Bool)) : Option Bool :=
  ((basic_All_L1 p0 p1 FU 0 : Option (Unit ⊕ Bool))).bind fun o13 => (match o13 with | .inl _ => some true | .inr r12 => some r12)
def fold_name_1 (p0 : UInt8) : Option Bool :=
  ((if 33 ≤ p0.toNat then (if p0.toNat ≤ 126 then some (!decide (p0 = 58)) else some false) else some false)).bind fun b3 => some b3
def fold_name (p0 : List UInt8) : Option Bool :=
  ((if p0 = [] then some false else (if (p0.length : Int) ≤ (60 : Int) then (basic_All p0 fold_name_1).bind fun b6 => some b6 else some false))).bind fun b3 => some b3
def utf8_ValidRune (p0 : Int) : Option Bool :=
  ((if (0 : Int) ≤ p0 then some (decide (p0 < (55296 : Int))) else some false)).bind fun b3 => (if b3 = true then some true else ((if (57343 : Int) < p0 then some (decide (p0 ≤ (1114111 : Int))) else some false)).bind fun b9 => (if b9 = true then some true else some false))
def strings_IndexRune_L1 (p0 : List UInt8) : Nat → Nat → Option (Unit ⊕ Int)
  | 0, _ => none
  | m13 + 1, ps12 => (if ps12 < p0.length then (if ((Utf.dr (p0.drop ps12)).1 : Int) = (65533 : Int) then some (.inr (ps12 : Int)) else strings_IndexRune_L1 p0 m13 (ps12 + (Utf.dr (p0.drop ps12)).2)) else some (.inl ()))
def strings_IndexRune_L3 (p0 : List UInt8) (p1 : Int) (n22 : Int) (n32 : Int) : Nat → Int → Option Unit
  | 0, _ => none
  | m46 + 1, n45 => (if n45 < ((Chs.utf8 p1).length : Int) then (chk (n32 - n45)).bind fun n48 => (idx p0 n48).bind fun c49 => (chk (n22 - n45)).bind fun n50 => (idx (Chs.utf8 p1) n50).bind fun c51 => (if c49 = c51 then (chk (n45 + 1)).bind fun n53 => strings_IndexRune_L3 p0 p1 n22 n32 m46 n53 else none) else some ())
def strings_IndexRune_L2 (p0 : List UInt8) (p1 : Int) (n22 : Int) : Nat → Int → Option (Unit ⊕ Int)
  | 0, _ => none
  | m26 + 1, n25 => (if n25 < (p0.length : Int) then (idx p0 n25).bind fun c28 => (idx (Chs.utf8 p1) n22).bind fun c29 => (((if c28 = c29 then some (.inl n25) else (chk (n25 + 1)).bind fun n34 => (cut p0 n34 (p0.length : Int)).bind fun s35 => (idx (Chs.utf8 p1) n22).bind fun c36 => (strings_IndexByte s35 c36).bind fun n37 => (if n37 < (0 : Int) then some (.inr (-1)) else (chk (n37 + 1)).bind fun n40 => (chk (n25 + n40)).bind fun n41 => some (.inl n41))) : Option (Int ⊕ Int))).bind fun o57 => (match o57 with | .inl n32 => (strings_IndexRune_L3 p0 p1 n22 n32 FU 1).bind fun _ => (chk (n32 - n22)).bind fun n55 => some (.inr n55) | .inr r56 => some (.inr r56)) else some (.inl ()))
def strings_IndexRune (p0 : List UInt8) (p1 : Int) : Option Int :=
  ((if (0 : Int) ≤ p1 then some (decide (p1 < (128 : Int))) else some false)).bind fun b3 => (if b3 = true then (strings_IndexByte p0 (ub8 p1)).bind fun n7 => some n7 else (if p1 = (65533 : Int) then ((strings_IndexRune_L1 p0 FU 0 : Option (Unit ⊕ Int))).bind fun o18 => (match o18 with | .inl _ => some (-1) | .inr r17 => some r17) else (utf8_ValidRune p1).bind fun b19 => (if b19 = true then (chk (((Chs.utf8 p1).length : Int) - 1)).bind fun n22 => ((strings_IndexRune_L2 p0 p1 n22 FU n22 : Option (Unit ⊕ Int))).bind fun o60 => (match o60 with | .inl _ => some (-1) | .inr r59 => some r59) else some (-1))))
def strings_shouldUseASCIISet (p0 : Int) : Option Bool :=
  some (decide ((8 : Int) < p0))
def strings_makeASCIISet_L1 (p0 : List UInt8) : Nat → List Bool → Int → Option (List Bool ⊕ (List Bool × Bool))
  | 0, _, _ => none
  | m6 + 1, l4, n5 => (if n5 < (p0.length : Int) then (idx p0 n5).bind fun c8 => (if 128 ≤ c8.toNat then (chkA 256 l4).bind fun l10 => (chkA 256 l4).bind fun l11 => (chkA 256 l10).bind fun l12 => (chkA 256 l10).bind fun l13 => some (.inr (l13, false)) else (idxA 256 l4 (c8.toNat : Int)).bind fun a14 => (putA 256 l4 (c8.toNat : Int) true).bind fun l15 => (chk (n5 + 1)).bind fun n16 => strings_makeASCIISet_L1 p0 m6 l15 n16) else some (.inl l4))
def strings_makeASCIISet (p0 : List UInt8) : Option (List Bool × Bool) :=
  ((strings_makeASCIISet_L1 p0 FU (List.replicate 256 false : List Bool) 0 : Option (List Bool ⊕ (List Bool × Bool)))).bind fun o23 => (match o23 with | .inl l3 => (chkA 256 l3).bind fun l18 => (chkA 256 l3).bind fun l19 => (chkA 256 l18).bind fun l20 => (chkA 256 l18).bind fun l21 => some (l21, true) | .inr r22 => some r22)
def strings_asciiSet_contains (p0 : List Bool) (p1 : UInt8) : Option Bool :=
  (idxA 256 p0 (p1.toNat : Int)).bind fun a1 => some a1
def strings_IndexAny_L1 (p0 : List UInt8) (n16 : List Bool) : Nat → Int → Option (Unit ⊕ Int)
  | 0, _ => none
  | m26 + 1, n25 => (if n25 < (p0.length : Int) then (idx p0 n25).bind fun c28 => (strings_asciiSet_contains n16 c28).bind fun b29 => (if b29 = true then some (.inr n25) else (chk (n25 + 1)).bind fun n32 => strings_IndexAny_L1 p0 n16 m26 n32) else some (.inl ()))
def strings_IndexAny_L2 (p0 : List UInt8) (p1 : List UInt8) : Nat → Nat → Option (Unit ⊕ Int)
  | 0, _ => none
  | m40 + 1, ps39 => (if ps39 < p0.length then (strings_IndexRune p1 ((Utf.dr (p0.drop ps39)).1 : Int)).bind fun n42 => (if (0 : Int) ≤ n42 then some (.inr (ps39 : Int)) else strings_IndexAny_L2 p0 p1 m40 (ps39 + (Utf.dr (p0.drop ps39)).2)) else some (.inl ()))
def strings_IndexAny (p0 : List UInt8) (p1 : List UInt8) : Option Int :=
  (if p1 = [] then some (-1) else (if (p1.length : Int) = (1 : Int) then (idx p1 0).bind fun c3 => ((if (128 : Int) ≤ (IntKind.i32.wrap (c3.toNat : Int)) then some 65533 else some (IntKind.i32.wrap (c3.toNat : Int)))).bind fun n6 => (strings_IndexRune p0 n6).bind fun n9 => some n9 else (strings_shouldUseASCIISet (p0.length : Int)).bind fun b11 => (((if b11 = true then (strings_makeASCIISet p1).bind fun (n16, b17) => (chkA 256 (List.replicate 256 false : List Bool)).bind fun l19 => (chkA 256 n16).bind fun l20 => (if b17 = true then ((strings_IndexAny_L1 p0 n16 FU 0 : Option (Unit ⊕ Int))).bind fun o35 => (match o35 with | .inl _ => some (.inr (-1)) | .inr r34 => some (.inr r34)) else some (.inl ())) else some (.inl ())) : Option (Unit ⊕ Int))).bind fun o49 => (match o49 with | .inl _ => ((strings_IndexAny_L2 p0 p1 FU 0 : Option (Unit ⊕ Int))).bind fun o47 => (match o47 with | .inl _ => some (-1) | .inr r46 => some r46) | .inr r48 => some r48)))
def strings_ContainsAny (p0 : List UInt8) (p1 : List UInt8) : Option Bool :=
  (strings_IndexAny p0 p1).bind fun n1 => some (decide ((0 : Int) ≤ n1))
def fold_ends (p0 : List UInt8) : Option Bool :=
  (strings_ContainsAny p0 [13, 10, 0]).bind fun b1 => some b1
def fold_value (p0 : List UInt8) : Option Bool :=
  ((fold_ends p0).bind fun b4 => (if b4 = true then some false else (if p0 = [] then some true else (idx p0 0).bind fun c7 => (basic_Blank c7).bind fun b8 => (if b8 = true then some false else (chk ((p0.length : Int) - 1)).bind fun n10 => (idx p0 n10).bind fun c11 => (basic_Blank c11).bind fun b12 => some (!b12))))).bind fun b3 => some b3
def fold_point_L1 (p0 : List UInt8) : Nat → Int → Int → Option Int
  | 0, _, _ => none
  | m6 + 1, n4, n5 => (if n5 < (p0.length : Int) then ((idx p0 n5).bind fun c11 => (basic_Blank c11).bind fun b12 => (if b12 = true then (chk (n5 - 1)).bind fun n14 => (idx p0 n14).bind fun c15 => (basic_Blank c15).bind fun b16 => some b16 else some true)).bind fun b10 => (if b10 = true then (chk (n5 + 1)).bind fun n20 => fold_point_L1 p0 m6 n4 n20 else ((if (0 : Int) < n4 then some (decide ((78 : Int) < n5)) else some false)).bind fun b23 => (if b23 = true then some n4 else (chk (n5 + 1)).bind fun n27 => fold_point_L1 p0 m6 n5 n27)) else some n4)
def fold_point (p0 : List UInt8) (p1 : Int) : Option Int :=
  (fold_point_L1 p0 FU 0 (max p1 1)).bind fun n3 => some n3
def fold_Fold_L1  : Nat → List UInt8 → Int → List (List UInt8) → Option (List UInt8 × List (List UInt8))
  | 0, _, _, _ => none
  | m31 + 1, s26, n27, l29 => (if (78 : Int) < (s26.length : Int) then (fold_point s26 n27).bind fun n34 => (if n34 = (0 : Int) then some (s26, l29) else (cut s26 0 n34).bind fun s37 => (app 16 l29 ([s37] : List (List UInt8))).bind fun l38 => (cut s26 n34 (s26.length : Int)).bind fun s39 => fold_Fold_L1  m31 s39 0 l38) else some (s26, l29))
def fold_Fold_L2 (l41 : List (List UInt8)) : Nat → Int → Int → Int → Option ((Int × Int) ⊕ (List (List UInt8) × (Int × Int)))
  | 0, _, _, _ => none
  | m49 + 1, n46, n47, n48 => (if n48 < (l41.length : Int) then (idx l41 n48).bind fun a51 => (if (998 : Int) < (a51.length : Int) then (basic_Fault 1 n48).bind fun (n53, n54) => some (.inr ([], (n53, n54))) else (chk (n48 + 1)).bind fun n56 => fold_Fold_L2 l41 m49 n46 n47 n56) else some (.inl (n46, n47)))
def fold_Fold (p0 : List UInt8) (p1 : List UInt8) : Option (List (List UInt8) × (Int × Int)) :=
  (fold_name p0).bind fun b1 => (if b1 = true then (if (4000 : Int) < (p1.length : Int) then (basic_Fault 1 (-1)).bind fun (n8, n9) => some ([], (n8, n9)) else (fold_value p1).bind fun b11 => (if b11 = true then (cat p0 [58, 32]).bind fun s17 => (cat s17 p1).bind fun s18 => (chk ((p0.length : Int) + 2)).bind fun n19 => (fold_Fold_L1  FU s18 n19 []).bind fun (s22, l24) => (app 16 l24 ([s22] : List (List UInt8))).bind fun l41 => ((fold_Fold_L2 l41 FU 0 0 0 : Option ((Int × Int) ⊕ (List (List UInt8) × (Int × Int))))).bind fun o63 => (match o63 with | .inl (n44, n45) => (basic_None).bind fun (n58, n59) => some (l41, (n58, n59)) | .inr r62 => some r62) else (basic_Fault 11 (-1)).bind fun (n14, n15) => some ([], (n14, n15)))) else (basic_Fault 10 (-1)).bind fun (n4, n5) => some ([], (n4, n5)))
def stringslite_Cut (p0 : List UInt8) (p1 : List UInt8) : Option (List UInt8 × List UInt8 × Bool) :=
  (stringslite_Index p0 p1).bind fun n1 => (if (0 : Int) ≤ n1 then (cut p0 0 n1).bind fun s4 => (chk (n1 + (p1.length : Int))).bind fun n5 => (cut p0 n5 (p0.length : Int)).bind fun s6 => some (s4, s6, true) else some (p0, [], false))
def strings_Cut (p0 : List UInt8) (p1 : List UInt8) : Option (List UInt8 × List UInt8 × Bool) :=
  (stringslite_Cut p0 p1).bind fun (s1, s2, b3) => some (s1, s2, b3)
def strings_trimRightByte_L1 (p1 : UInt8) : Nat → List UInt8 → Option (List UInt8)
  | 0, _ => none
  | m5 + 1, s4 => ((if (0 : Int) < (s4.length : Int) then (chk ((s4.length : Int) - 1)).bind fun n10 => (idx s4 n10).bind fun c11 => some (decide (c11 = p1)) else some false)).bind fun b8 => (if b8 = true then (chk ((s4.length : Int) - 1)).bind fun n14 => (cut s4 0 n14).bind fun s15 => strings_trimRightByte_L1 p1 m5 s15 else some s4)
def strings_trimRightByte (p0 : List UInt8) (p1 : UInt8) : Option (List UInt8) :=
  (strings_trimRightByte_L1 p1 FU p0).bind fun s3 => some s3
def strings_trimLeftByte_L1 (p1 : UInt8) : Nat → List UInt8 → Option (List UInt8)
  | 0, _ => none
  | m5 + 1, s4 => ((if (0 : Int) < (s4.length : Int) then (idx s4 0).bind fun c10 => some (decide (c10 = p1)) else some false)).bind fun b8 => (if b8 = true then (cut s4 1 (s4.length : Int)).bind fun s13 => strings_trimLeftByte_L1 p1 m5 s13 else some s4)
def strings_trimLeftByte (p0 : List UInt8) (p1 : UInt8) : Option (List UInt8) :=
  (strings_trimLeftByte_L1 p1 FU p0).bind fun s3 => some s3
def strings_trimRightASCII_L1 (p1 : List Bool) : Nat → List UInt8 → Option (List UInt8)
  | 0, _ => none
  | m5 + 1, s4 => (if (0 : Int) < (s4.length : Int) then (chk ((s4.length : Int) - 1)).bind fun n7 => (idx s4 n7).bind fun c8 => (strings_asciiSet_contains p1 c8).bind fun b9 => (if b9 = true then (chk ((s4.length : Int) - 1)).bind fun n12 => (cut s4 0 n12).bind fun s13 => strings_trimRightASCII_L1 p1 m5 s13 else some s4) else some s4)
def strings_trimRightASCII (p0 : List UInt8) (p1 : List Bool) : Option (List UInt8) :=
  (strings_trimRightASCII_L1 p1 FU p0).bind fun s3 => some s3
def strings_trimLeftASCII_L1 (p1 : List Bool) : Nat → List UInt8 → Option (List UInt8)
  | 0, _ => none
  | m5 + 1, s4 => (if (0 : Int) < (s4.length : Int) then (idx s4 0).bind fun c7 => (strings_asciiSet_contains p1 c7).bind fun b8 => (if b8 = true then (cut s4 1 (s4.length : Int)).bind fun s11 => strings_trimLeftASCII_L1 p1 m5 s11 else some s4) else some s4)
def strings_trimLeftASCII (p0 : List UInt8) (p1 : List Bool) : Option (List UInt8) :=
  (strings_trimLeftASCII_L1 p1 FU p0).bind fun s3 => some s3
def strings_Trim (p0 : List UInt8) (p1 : List UInt8) : Option (List UInt8) :=
  ((if p0 = [] then some true else some (decide (p1 = [])))).bind fun b3 => (if b3 = true then some p0 else ((if (p1.length : Int) = (1 : Int) then (idx p1 0).bind fun c11 => some (decide (c11.toNat < 128)) else some false)).bind fun b9 => (if b9 = true then (idx p1 0).bind fun c14 => (strings_trimRightByte p0 c14).bind fun s15 => (idx p1 0).bind fun c17 => (strings_trimLeftByte s15 c17).bind fun s18 => some s18 else (strings_makeASCIISet p1).bind fun (n20, b21) => (chkA 256 (List.replicate 256 false : List Bool)).bind fun l23 => (chkA 256 n20).bind fun l24 => (if b21 = true then (strings_trimRightASCII p0 n20).bind fun s27 => (strings_trimLeftASCII s27 n20).bind fun s29 => some s29 else none)))
def fold_Unfold_L1 (p0 : List (List UInt8)) : Nat → Int → Int → Int → Int → Option ((Int × Int × Int) ⊕ (List UInt8 × List UInt8 × (Int × Int)))
  | 0, _, _, _, _ => none
  | m14 + 1, n10, n11, n12, n13 => (if n13 < (p0.length : Int) then (idx p0 n13).bind fun a16 => ((fold_ends a16).bind fun b20 => (if b20 = true then some true else (if (0 : Int) < n13 then (if a16 = [] then some true else (idx a16 0).bind fun c24 => (basic_Blank c24).bind fun b25 => some (!b25)) else some false))).bind fun b19 => (if b19 = true then (basic_Fault 11 n13).bind fun (n29, n30) => some (.inr ([], [], (n29, n30))) else (chk (n12 + (a16.length : Int))).bind fun n32 => (chk (n13 + 1)).bind fun n33 => fold_Unfold_L1 p0 m14 n10 n11 n32 n33) else some (.inl (n10, n11, n12)))
def fold_Unfold (p0 : List (List UInt8)) : Option (List UInt8 × List UInt8 × (Int × Int)) :=
  (if (300 : Int) < (p0.length : Int) then (basic_Fault 2 (-1)).bind fun (n2, n3) => some ([], [], (n2, n3)) else ((fold_Unfold_L1 p0 FU 0 0 0 0 : Option ((Int × Int × Int) ⊕ (List UInt8 × List UInt8 × (Int × Int))))).bind fun o65 => (match o65 with | .inl (n7, n8, n9) => (if (8000 : Int) < n9 then (basic_Fault 1 (-1)).bind fun (n36, n37) => some ([], [], (n36, n37)) else (strings_Join p0 []).bind fun s39 => (strings_Cut s39 [58]).bind fun (s41, s42, b43) => ((if b43 = true then (fold_name s41).bind fun b48 => some (!b48) else some true)).bind fun b47 => (if b47 = true then (basic_Fault 11 (-2)).bind fun (n52, n53) => some ([], [], (n52, n53)) else (strings_Trim s42 [32, 9]).bind fun s55 => (if (4000 : Int) < (s55.length : Int) then (basic_Fault 1 (-1)).bind fun (n58, n59) => some ([], [], (n58, n59)) else (basic_None).bind fun (n61, n62) => some (s41, s55, (n61, n62))))) | .inr r64 => some r64))
def L_WordsSurviveFolding (p0 : List UInt8) : Option Bool :=
  (L_wordsExample).bind fun b1 => (if b1 = true then (words_Encode p0).bind fun (s4, (n5, n6)) => (if n5 = (0 : Int) then (fold_Fold [83, 117, 98, 106, 101, 99, 116] s4).bind fun (l9, (n10, n11)) => (if n10 = (0 : Int) then (fold_Unfold l9).bind fun (s14, s15, (n16, n17)) => (words_Decode s15).bind fun (s19, (n20, n21)) => ((if n16 = (0 : Int) then (if n20 = (0 : Int) then (if s14 = [83, 117, 98, 106, 101, 99, 116] then some (decide (s19 = p0)) else some false) else some false) else some false)).bind fun b25 => some b25 else some (decide ((l9.length : Int) = (0 : Int)))) else some (decide (s4 = []))) else some false)
end Go.Ph.Pf
end
section
set_option maxRecDepth 100000
set_option linter.unusedVariables false
set_option linter.unusedSimpArgs false
namespace Go.Proofs.YtogkmhjnojphiaaGreatDoor
open Go Go.RowKit Go.Ph Go.Ph.Pl Go.Ph.Pf
theorem xplaces24 : ∀ {fs : Array Field}, Tryz.prog.underlying 24 = some (.struct fs) → ∀ w, (fs.mapM fun f => do pure (f.offset, ← sizeOf f.type) : Sem (Array (Nat × Nat))).run Tryz.prog w = .ok #[(0, 1), (1, 1)] w := by
  intro fs h w
  rw [Tryz.underlying24] at h
  cases h
  simp
theorem xty30 : ElemTy Tryz.prog 30 5 (.int .u8 0) 1 1 := ElemTy.mk' Tryz.underlying30 (by kernel_rfl) rfl (by decide)
theorem xty43 : ElemTy Tryz.prog 43 9 (.string ⟨#[]⟩) 1 16 := ElemTy.mk' Tryz.underlying43 (by kernel_rfl) rfl (by decide)
def FnT76 (M : Mem) (v : Value) (g : (UInt8 → Option Bool)) : Prop := ∀ (a0 : UInt8) (r : Bool), g a0 = some r → FnV Tryz.prog M v [encB a0] (fun v M => v = Value.bool r)
theorem FnT76.mono {M M' : Mem} {v : Value} {g : (UInt8 → Option Bool)} (h : FnT76 M v g) (hl : M.le M') : FnT76 M' v g := fun a0 r hr => (h a0 r hr).mono hl
theorem indexByte_ixB (l : List UInt8) (c : UInt8) : Lib.indexByte l c = ixB l c := by
  unfold ixB
  induction l with
  | nil => simp [Lib.indexByte]
  | cons b l ih =>
    simp only [Lib.indexByte, List.idxOf_cons, List.length_cons]
    by_cases h : b = c
    · subst h; simp
    · have h' : (b == c) = false := by simpa using h
      rw [h', ih]
      simp only [Bool.false_eq_true, if_false, cond_false]
      by_cases hl : l.idxOf c < l.length
      · have h1 : l.idxOf c + 1 < l.length + 1 := by omega
        have h2 : ¬ (((l.idxOf c : Int) == -1) = true) := by simp only [beq_iff_eq]; omega
        simp only [hl, h1, if_true, h2, if_false, Bool.false_eq_true]
        omega
      · have h1 : ¬ (l.idxOf c + 1 < l.length + 1) := by omega
        simp only [hl, h1, if_false]
        rfl
theorem join_jn (sep : List UInt8) : ∀ l : List (List UInt8), Lib.join l sep = jn sep l
  | [] => rfl
  | [x] => Lib.join_one x sep
  | x :: y :: r => by
    have h := join_jn sep (y :: r)
    rw [Lib.join_cons] at h ⊢
    rw [jn, ← h]
    simp [Lib.joinTail]
theorem utf8_ValidString_ct {p0 : List UInt8} {r : Bool} (h : utf8_ValidString p0 = some r) : Ct Tryz.prog 38 [S p0] (fun M => Tabs M) (fun v M => v = Value.bool r) := by
  unfold utf8_ValidString at h
  split at h
  case isFalse => cases h
  rename_i hb
  cases h
  exact validString_spec p0 hb
theorem grapheme_Split_ct {p0 : List UInt8} {r : List (List UInt8)} (h : grapheme_Split p0 = some r) : Ct Tryz.prog 83 [S p0] (fun M => Tabs M) (fun v M => Sl M encS v r) := by
  unfold grapheme_Split at h
  split at h
  case isFalse => cases h
  rename_i hb
  cases h
  exact split_spec p0 hb
theorem charset_Best_ct {p0 : List UInt8} {r : List UInt8} (h : charset_Best p0 = some r) : Ct Tryz.prog 41 [S p0] (fun M => True) (fun v M => v = S r) := by
  unfold charset_Best at h
  cases h
  exact best_spec p0
theorem charset_Decode_ct {p0 : List UInt8} {p1 : List UInt8} {vp1 : Value} {r : (List UInt8 × (Int × Int))} (h : charset_Decode p0 p1 = some r) : Ct Tryz.prog 97 [S p0, vp1] (fun M => Sl M encB vp1 p1) (fun v M => v = Value.tuple #[S r.1, Value.agg #[I r.2.1, I r.2.2]]) := by
  unfold charset_Decode at h
  split at h
  case isFalse => cases h
  rename_i hb
  split at h
  · rename_i k hk; cases h; exact decode_spec_k p0 vp1 p1 hb.1 hb.2 k hk
  · rename_i hk; cases h; exact decode_unk p0 vp1 p1 hb.1 hb.2 hk
theorem charset_Encode_ct {p0 : List UInt8} {p1 : List UInt8} {r : (List UInt8 × (Int × Int))} (h : charset_Encode p0 p1 = some r) : Ct Tryz.prog 84 [S p0, S p1] (fun M => Tabs M) (fun v M => ∃ x0, v = Value.tuple #[x0, Value.agg #[I r.2.1, I r.2.2]] ∧ Sl M encB x0 r.1) := by
  unfold charset_Encode at h
  split at h
  case isFalse => cases h
  rename_i hb
  split at h
  · rename_i k hk
    split at h
    · rename_i hv
      split at h
      · rename_i b he; cases h; exact encode_ok hb.1 hb.2 hk hv he
      · rename_i e he; cases h; exact (encode_err hb.1 hb.2 hk hv he).mono fun v M hv => ⟨_, hv, Sl.nil _ _⟩
    · rename_i hv; cases h; exact (encode_mal p0 p1 hb.1 hb.2 k hk (by simpa using hv)).mono fun v M hv => ⟨_, hv, Sl.nil _ _⟩
  · rename_i hk; cases h; exact (encode_unk p0 p1 hb.1 hb.2 hk).mono fun v M hv => ⟨_, hv, Sl.nil _ _⟩
theorem base64_Encode_ct {p0 : List UInt8} {vp0 : Value} {r : (List UInt8 × (Int × Int))} (h : base64_Encode p0 = some r) : Ct Tryz.prog 127 [vp0] (fun M => Sl M encB vp0 p0) (fun v M => ∃ x0, v = Value.tuple #[x0, Value.agg #[I r.2.1, I r.2.2]] ∧ Sl M encB x0 r.1) := by
  unfold base64_Encode at h
  split at h
  case isFalse => cases h
  rename_i hb
  cases h
  exact encode_spec vp0 p0 hb
theorem base64_Lenient_ct {p0 : List UInt8} {vp0 : Value} {r : (List UInt8 × (Int × Int))} (h : base64_Lenient p0 = some r) : Ct Tryz.prog 138 [vp0] (fun M => Sl M encB vp0 p0) (fun v M => ∃ x0, v = Value.tuple #[x0, Value.agg #[I r.2.1, I r.2.2]] ∧ Sl M encB x0 r.1) := by
  unfold base64_Lenient at h
  split at h
  case isFalse => cases h
  rename_i hb
  cases h
  exact lenient_spec vp0 p0 hb
theorem strings_IndexByte_ct {p0 : List UInt8} {p1 : UInt8} {r : Int} (h : strings_IndexByte p0 p1 = some r) : Ct Tryz.prog 193 [S p0, encB p1] (fun M => True) (fun v M => v = I r) := by
  cases h
  refine ⟨enters Tryz.func193 (by kernel_rfl) rfl, fun w M ha hp => ?_⟩
  exact (Tryz.strings_IndexByte ⟨p0.toArray⟩ (p1.toNat : Int) w).mono fun e w' ⟨he, hw⟩ => ⟨_, M, he, by subst hw; exact Ext.refl ha, by rw [← indexByte_ixB]; simp⟩
theorem strings_Join_ct {p0 : List (List UInt8)} {p1 : List UInt8} {vp0 : Value} {r : List UInt8} (h : strings_Join p0 p1 = some r) : Ct Tryz.prog 44 [vp0, S p1] (fun M => Sl M encS vp0 p0) (fun v M => v = S r) := by
  unfold strings_Join at h
  split at h
  case isFalse => cases h
  rename_i hb
  cases h
  refine ⟨enters Tryz.func44 (by kernel_rfl) rfl, fun w M ha hp => ?_⟩
  obtain ⟨A, cp, rfl, hc, hn⟩ := Sl.cells hp ha
  rcases Nat.eq_zero_or_pos p0.length with h0 | h0
  · obtain rfl := List.eq_nil_of_length_eq_zero h0
    exact (Tryz.strings_Join_none A cp ⟨p1.toArray⟩ w).mono fun e w' ⟨he, hw⟩ => ⟨_, M, he, by subst hw; exact Ext.refl ha, rfl⟩
  · cases A with
    | none => obtain ⟨rfl, _⟩ := hn rfl; simp at h0
    | some ad =>
      obtain ⟨A', c', he', h1, ⟨h2, h3⟩, h4⟩ := hp
      cases he'
      obtain ⟨b, o, cs, t0, fz, e1, e2, e3⟩ := h4 (fun h => by rw [h] at h0; simp at h0)
      cases e1
      have hmap : (p0.map (fun l => (⟨l.toArray⟩ : ByteArray))).map (·.data.toList) = p0 := by
        rw [List.map_map]
        conv => rhs; rw [← List.map_id p0]
        exact List.map_congr_left (fun l _ => rfl)
      have hcall := Tryz.strings_Join b o cp (p0.map (fun l => (⟨l.toArray⟩ : ByteArray))) ⟨p1.toArray⟩ w (fun j x hx => by
        rw [List.getElem?_map] at hx
        obtain ⟨y, hy, rfl⟩ := Option.map_eq_some_iff.1 hx
        have := hc ⟨b, o, none⟩ rfl j (encS y) (by rw [List.getElem?_map, hy]; rfl)
        simpa [Addr.add_lit] using this) (ha.lt e2) (by simpa using hb.1) (by simpa using h1) (by rw [hmap, join_jn]; simpa using hb.2)
      rw [hmap, join_jn] at hcall
      simp only [List.length_map] at hcall
      exact hcall.mono fun e w' ⟨he, hw⟩ => ⟨_, M, he, ⟨BelowX.of hw _, Mem.le.refl M, fun b' o' hb' => by rw [hw.block b' (ha.lt hb')]; exact ha b' o' hb', fun b' hb' => rfl⟩, by simp⟩
theorem strings_SplitN_ct {p0 : List UInt8} {p1 : List UInt8} {p2 : Int} {r : List (List UInt8)} (h : strings_SplitN p0 p1 p2 = some r) : Ct Tryz.prog 95 [S p0, S p1, I p2] (fun M => GlF (fun w => ∃ m, w.cell? ⟨2, 0, none⟩ = some (.int .i64 m)) M) (fun v M => Sl M encS v r) := by
  unfold strings_SplitN at h
  split at h
  case isFalse => cases h
  rename_i hb
  cases h
  refine ⟨enters Tryz.func95 (by kernel_rfl) rfl, fun w M ha hp => ?_⟩
  obtain ⟨m, hm⟩ := hp w ha
  obtain ⟨n, rfl⟩ := Int.eq_ofNat_of_zero_le (Int.le_trans (by decide) hb.2.2.1)
  have hs : (⟨p0.toArray⟩ : ByteArray).size = p0.length := by simp [ByteArray.size]
  have hd : (Lib.splitB ⟨p1.toArray⟩ 0 (min n ((⟨p0.toArray⟩ : ByteArray).size + 1) - 1) ⟨p0.toArray⟩).map (·.data.toList) = Lib.splitN p0 p1 ((n : Int).toNat) := by rw [Lib.splitB_data, hs]; rfl
  have hl := Lib.splitB_length_le ⟨p1.toArray⟩ 0 (min n ((⟨p0.toArray⟩ : ByteArray).size + 1) - 1) ⟨p0.toArray⟩
  have hlen := congrArg List.length hd
  rw [List.length_map] at hlen
  refine (Tryz.strings_SplitN ⟨p0.toArray⟩ ⟨p1.toArray⟩ n m w (by omega) hm (by simpa [ByteArray.size] using hb.2.1) (by omega) (by omega)).mono fun e w' ⟨he, hw⟩ => ⟨_, M.set w.heap.size _, he, by subst hw; exact Ext.ofAlloc ha _, ?_⟩
  rw [hlen]
  exact Sl.splitN (t := 9) (fz := (0, 0)) hd (by omega) (by omega) (by simp [Mem.set])
theorem strings_ReplaceAll_ct {p0 : List UInt8} {p1 : List UInt8} {p2 : List UInt8} {r : List UInt8} (h : strings_ReplaceAll p0 p1 p2 = some r) : Ct Tryz.prog 128 [S p0, S p1, S p2] (fun M => GlF (fun w => ∃ m, w.cell? ⟨2, 0, none⟩ = some (.int .i64 m)) M) (fun v M => v = S r) := by
  unfold strings_ReplaceAll at h
  split at h
  case isFalse => cases h
  rename_i hb
  cases h
  refine ⟨enters Tryz.func128 (by kernel_rfl) rfl, fun w M ha hp => ?_⟩
  obtain ⟨m, hm⟩ := hp w ha
  have hs : (⟨p0.toArray⟩ : ByteArray).size = p0.length := by simp [ByteArray.size]
  have hc : Lib.countB ⟨p0.toArray⟩ ⟨p1.toArray⟩ ≤ p0.length := by simpa [ByteArray.size] using Lib.countB_le ⟨p1.toArray⟩ (by simpa [ByteArray.size] using hb.2.1) _ ⟨p0.toArray⟩ (Nat.le_refl _)
  have hc2 := Nat.mul_le_mul_right p2.length hc
  exact (Tryz.strings_ReplaceAll ⟨p0.toArray⟩ ⟨p1.toArray⟩ ⟨p2.toArray⟩ m w (by omega) hm (by simpa [ByteArray.size] using hb.2.1) (by simp only [ByteArray.size, List.size_toArray]; omega)).mono fun e w' ⟨he, hw⟩ => ⟨_, M, he, Ext.ofBelow ha hw, rfl⟩
theorem strings_Contains_ct {p0 : List UInt8} {p1 : List UInt8} {r : Bool} (h : strings_Contains p0 p1 = some r) : Ct Tryz.prog 81 [S p0, S p1] (fun M => GlF (fun w => ∃ m, w.cell? ⟨2, 0, none⟩ = some (.int .i64 m)) M) (fun v M => v = Value.bool r) := by
  unfold strings_Contains at h
  split at h
  case isFalse => cases h
  rename_i hb
  cases h
  refine ⟨enters Tryz.func81 (by kernel_rfl) rfl, fun w M ha hp => ?_⟩
  obtain ⟨m, hm⟩ := hp w ha
  exact (Tryz.strings_Contains ⟨p0.toArray⟩ ⟨p1.toArray⟩ m w (by simpa [ByteArray.size] using hb) hm).mono fun e w' ⟨he, hw⟩ => ⟨_, M, he, by subst hw; exact Ext.refl ha, rfl⟩
theorem stringslite_Index_ct {p0 : List UInt8} {p1 : List UInt8} {r : Int} (h : stringslite_Index p0 p1 = some r) : Ct Tryz.prog 153 [S p0, S p1] (fun M => GlF (fun w => ∃ m, w.cell? ⟨2, 0, none⟩ = some (.int .i64 m)) M) (fun v M => v = I r) := by
  unfold stringslite_Index at h
  split at h
  case isFalse => cases h
  rename_i hb
  cases h
  refine ⟨enters Tryz.func153 (by kernel_rfl) rfl, fun w M ha hp => ?_⟩
  obtain ⟨m, hm⟩ := hp w ha
  exact (Tryz.stringslite_Index ⟨p0.toArray⟩ ⟨p1.toArray⟩ m w (by simpa [ByteArray.size] using hb) hm).mono fun e w' ⟨he, hw⟩ => ⟨_, M, he, by subst hw; exact Ext.refl ha, rfl⟩
theorem copyCheck_ct {b : Nat} {p v : Value} {M0 : Mem} (hb : BPM M0 b p) : CtX Tryz.prog 98 [ptr b 0] [.blk b (.cells #[p, v] 70)] (fun _ => True) (fun r _ its => r = .tuple #[] ∧ its = [.blk b (.cells #[ptr b 0, v] 70)]) := by
  refine CtX.of Tryz.func98 (enters Tryz.func98 (by kernel_rfl) rfl) rfl rfl rfl ?_
  intro w M H _
  obtain ⟨j, hj, hjs⟩ := Option.map_eq_some_iff.1 (show (Tryz.prog.info? 70).map (·.size) = some 2 by kernel_rfl)
  have hl : liesAt Tryz.prog Tryz.prog.depth 70 (2 / Tryz.prog.cellsOf 70) 0 70 1 = true := by kernel_rfl
  have hbk := H.blk (List.Mem.head _)
  refine WC.seq (WC.region ?_)
  refine MV rfl rfl (ST (Ex.nilCheckP rfl) rfl (ST (Ex.fieldAddr Tryz.underlying70 rfl Tryz.sizeOf68 (by decide) rfl) rfl (ST (Ex.load1 H rfl (by repeat (first | exact List.Mem.head _ | apply List.Mem.tail)) Tryz.isAgg68 (by rfl)) rfl ?_)))
  rcases hb with rfl | rfl
  · refine WR.step (Ex.ptrNil Tryz.underlying68 rfl) (Wn.none rfl) rfl rfl ?_
    refine WR.nil (WQ.then (WC.condT rfl (WC.region ?_)))
    refine MV rfl rfl (MV rfl rfl (ST (Ex.toUnsafe Tryz.underlying68 Tryz.underlying171 hj (by rw [hjs]; decide) (T := 70) (cells := 2) (a := ⟨b, 0, none⟩) (by simp [World.shape?, hbk]) (by show (0 : Nat) < 2; decide) rfl) rfl ?_))
    refine ST (Ex.noEscape Tryz.func140 (by kernel_rfl) (by kernel_rfl) (by kernel_rfl) (by kernel_rfl) rfl) rfl (ST (Ex.fromUnsafe Tryz.underlying171 Tryz.underlying68 hj (T := 70) (cells := 2) (a := ⟨b, 0, none⟩) (by simp [World.shape?, hbk]) hl rfl) rfl ?_)
    refine ST (Ex.nilCheckP rfl) rfl (ST (Ex.fieldAddr Tryz.underlying70 rfl Tryz.sizeOf68 (by decide) rfl) rfl (WR.putV [_, _] H rfl rfl ⟨rfl, rfl⟩ (by repeat first | exact .head | apply Upd.tail) (by rfl) Tryz.sizeOf68 (by first | decide | (simp; done) | (simp; omega)) (Wn.none rfl) ?_))
    intro w H
    refine NL ?_
    exact WQ.endX0 rfl H (by repeat (first | exact Pick.nil | refine Pick.cons (by repeat first | exact .head | apply Rem.tail) ?_)) ⟨rfl, rfl⟩
  · refine WR.step (Ex.ptrNil Tryz.underlying68 rfl) (Wn.none rfl) rfl rfl ?_
    refine WR.nil (WQ.then (WC.condF rfl (WC.seq (WC.region ?_))))
    refine MV rfl rfl (ST (Ex.nilCheckP rfl) rfl (ST (Ex.fieldAddr Tryz.underlying70 rfl Tryz.sizeOf68 (by decide) rfl) rfl (ST (Ex.load1 H rfl (by repeat (first | exact List.Mem.head _ | apply List.Mem.tail)) Tryz.isAgg68 (by rfl)) rfl ?_)))
    refine MV rfl rfl (ST (Ex.ptrNeqSame Tryz.underlying68 hj rfl rfl) rfl ?_)
    refine WR.nil (WQ.then (WC.condF rfl (WC.skip ?_)))
    exact WQ.endX0 rfl H (by repeat (first | exact Pick.nil | refine Pick.cons (by repeat first | exact .head | apply Rem.tail) ?_)) ⟨rfl, rfl⟩
theorem basic_Fault_ct {p0 : Int} {p1 : Int} {r : (Int × Int)} (h : basic_Fault p0 p1 = some r) : Ct Tryz.prog 37 [I p0, I p1] (fun M => True) (fun v M => v = Value.agg #[I r.1, I r.2]) := by
  refine Ct.of Tryz.func37 (enters Tryz.func37 (by kernel_rfl) rfl) rfl rfl rfl ?_
  intro w0 M0 H hp
  unfold basic_Fault at h
  refine SQ (RG (WR.alloc [_, _] H Tryz.zeroValue24 rfl (Wn.none rfl) rfl ?_))
  intro b4 w H
  refine NL (TN (SQ (RG (MV rfl rfl (MV rfl rfl (ST (Ex.build [I p0, I p1] Tryz.underlying24 Tryz.zeroValue24 (xplaces24 Tryz.underlying24) rfl rfl) rfl (WR.store [_, _] H rfl rfl rfl (by repeat first | exact .head | apply Upd.tail) Tryz.sizeOf24 rfl (by rfl) (by rfl) (Wn.none rfl) ?_)))))))
  intro w H
  refine NL (TN (RT ?_))
  obtain rfl := Option.some.inj h
  exact WQ.ret1 rfl ⟨_, rfl, H.loadAgg (by repeat (first | exact List.Mem.head _ | apply List.Mem.tail)) Tryz.isAgg24 Tryz.sizeOf24 (by rfl)⟩ H.ext rfl
theorem stringslite_HasPrefix_ct {p0 : List UInt8} {p1 : List UInt8} {r : Bool} (h : stringslite_HasPrefix p0 p1 = some r) : Ct Tryz.prog 122 [S p0, S p1] (fun M => True) (fun v M => v = Value.bool r) := by
  refine Ct.of Tryz.func122 (enters Tryz.func122 (by kernel_rfl) rfl) rfl rfl rfl ?_
  intro w0 M0 H hp
  unfold stringslite_HasPrefix at h
  refine SQ (RG (AS rfl rfl (NL (TN (SQ ?_)))))
  obtain ⟨o1, e2, h⟩ := bnd h
  refine WC.cutX (fun e w => ∃ (b3 : Bool) (M : Mem), e = [(4, Value.bool b3)] ∧ St w0 M0 M [] w ∧ some b3 = some o1) [] ?_ ?_ (trivial)
  ·
   refine RG (MV rfl rfl (ST (Ex.lenStr Tryz.underlying9 rfl) rfl (MV rfl rfl (ST (Ex.lenStr Tryz.underlying9 rfl) rfl ?_))))
   by_cases hk4 : (p1.length : Int) ≤ (p0.length : Int)
   ·
    rw [if_pos hk4] at e2
    obtain ⟨s5, hxs5, e2⟩ := bnd e2
    refine WR.stepE (v' := .bool true) (Ex.geq rfl rfl) (congrArg Value.bool (decide_eq_true hk4)) (Wn.none rfl) rfl rfl (MV rfl rfl (SG (Ex.move rfl) rfl rfl rfl (SG (Ex.move rfl) rfl rfl rfl (SG (Ex.lenStr Tryz.underlying9 rfl) rfl rfl rfl (SG (Ex.sliceH Tryz.underlying9 rfl rfl hxs5) rfl rfl rfl (SG (Ex.move rfl) rfl rfl rfl (SG (Ex.strEql rfl rfl) rfl rfl rfl (PT rfl rfl rfl (AS rfl rfl (NL ?_))))))))))
    exact WQ.meetN [(4, _)] ⟨rfl, trivial⟩ ⟨_, _, rfl, H, e2⟩
   ·
    rw [if_neg hk4] at e2
    refine WR.stepE (v' := .bool false) (Ex.geq rfl rfl) (congrArg Value.bool (decide_eq_false hk4)) (Wn.none rfl) rfl rfl (MV rfl rfl (WR.skipN 6 rfl rfl (PF rfl rfl rfl (AS rfl rfl (NL ?_)))))
    exact WQ.meetN [(4, _)] ⟨rfl, trivial⟩ ⟨_, _, rfl, H, e2⟩
  ·
   rintro e w ⟨b3, M, rfl, H, q6⟩
   obtain rfl := Option.some.inj q6
   refine TN (RT ?_)
   obtain rfl := Option.some.inj h
   exact WQ.ret1 rfl rfl H.ext rfl
theorem strings_HasPrefix_ct {p0 : List UInt8} {p1 : List UInt8} {r : Bool} (h : strings_HasPrefix p0 p1 = some r) : Ct Tryz.prog 79 [S p0, S p1] (fun M => True) (fun v M => v = Value.bool r) := by
  refine Ct.of Tryz.func79 (enters Tryz.func79 (by kernel_rfl) rfl) rfl rfl rfl ?_
  intro w0 M0 H hp
  unfold strings_HasPrefix at h
  refine SQ (RG (AS rfl rfl (NL (TN (SQ ?_)))))
  obtain ⟨b1, hx2, h⟩ := bnd h
  refine RG (MV rfl rfl (MV rfl rfl (WR.call H (stringslite_HasPrefix_ct hx2) rfl trivial (Wn.none rfl) rfl ?_)))
  intro v7 M w H hle hR
  obtain rfl := hR
  refine AS rfl rfl (NL (TN (RT ?_)))
  obtain rfl := Option.some.inj h
  exact WQ.ret1 rfl rfl H.ext rfl
theorem stringslite_HasSuffix_ct {p0 : List UInt8} {p1 : List UInt8} {r : Bool} (h : stringslite_HasSuffix p0 p1 = some r) : Ct Tryz.prog 123 [S p0, S p1] (fun M => True) (fun v M => v = Value.bool r) := by
  refine Ct.of Tryz.func123 (enters Tryz.func123 (by kernel_rfl) rfl) rfl rfl rfl ?_
  intro w0 M0 H hp
  unfold stringslite_HasSuffix at h
  refine SQ (RG (AS rfl rfl (NL (TN (SQ ?_)))))
  obtain ⟨o1, e2, h⟩ := bnd h
  refine WC.cutX (fun e w => ∃ (b3 : Bool) (M : Mem), e = [(4, Value.bool b3)] ∧ St w0 M0 M [] w ∧ some b3 = some o1) [] ?_ ?_ (trivial)
  ·
   refine RG (MV rfl rfl (ST (Ex.lenStr Tryz.underlying9 rfl) rfl (MV rfl rfl (ST (Ex.lenStr Tryz.underlying9 rfl) rfl ?_))))
   by_cases hk4 : (p1.length : Int) ≤ (p0.length : Int)
   ·
    rw [if_pos hk4] at e2
    obtain ⟨n5, hxn5, e2⟩ := bnd e2
    obtain ⟨s6, hxs6, e2⟩ := bnd e2
    refine WR.stepE (v' := .bool true) (Ex.geq rfl rfl) (congrArg Value.bool (decide_eq_true hk4)) (Wn.none rfl) rfl rfl (MV rfl rfl (SG (Ex.move rfl) rfl rfl rfl (SG (Ex.move rfl) rfl rfl rfl (SG (Ex.lenStr Tryz.underlying9 rfl) rfl rfl rfl (SG (Ex.move rfl) rfl rfl rfl (SG (Ex.lenStr Tryz.underlying9 rfl) rfl rfl rfl (SG (Ex.subC rfl rfl hxn5) rfl rfl rfl (SG (Ex.sliceL Tryz.underlying9 rfl rfl hxs6) rfl rfl rfl (SG (Ex.move rfl) rfl rfl rfl (SG (Ex.strEql rfl rfl) rfl rfl rfl (PT rfl rfl rfl (AS rfl rfl (NL ?_)))))))))))))
    exact WQ.meetN [(4, _)] ⟨rfl, trivial⟩ ⟨_, _, rfl, H, e2⟩
   ·
    rw [if_neg hk4] at e2
    refine WR.stepE (v' := .bool false) (Ex.geq rfl rfl) (congrArg Value.bool (decide_eq_false hk4)) (Wn.none rfl) rfl rfl (MV rfl rfl (WR.skipN 9 rfl rfl (PF rfl rfl rfl (AS rfl rfl (NL ?_)))))
    exact WQ.meetN [(4, _)] ⟨rfl, trivial⟩ ⟨_, _, rfl, H, e2⟩
  ·
   rintro e w ⟨b3, M, rfl, H, q7⟩
   obtain rfl := Option.some.inj q7
   refine TN (RT ?_)
   obtain rfl := Option.some.inj h
   exact WQ.ret1 rfl rfl H.ext rfl
theorem strings_HasSuffix_ct {p0 : List UInt8} {p1 : List UInt8} {r : Bool} (h : strings_HasSuffix p0 p1 = some r) : Ct Tryz.prog 80 [S p0, S p1] (fun M => True) (fun v M => v = Value.bool r) := by
  refine Ct.of Tryz.func80 (enters Tryz.func80 (by kernel_rfl) rfl) rfl rfl rfl ?_
  intro w0 M0 H hp
  unfold strings_HasSuffix at h
  refine SQ (RG (AS rfl rfl (NL (TN (SQ ?_)))))
  obtain ⟨b1, hx2, h⟩ := bnd h
  refine RG (MV rfl rfl (MV rfl rfl (WR.call H (stringslite_HasSuffix_ct hx2) rfl trivial (Wn.none rfl) rfl ?_)))
  intro v7 M w H hle hR
  obtain rfl := hR
  refine AS rfl rfl (NL (TN (RT ?_)))
  obtain rfl := Option.some.inj h
  exact WQ.ret1 rfl rfl H.ext rfl
theorem words_plain_ct {p0 : List UInt8} {r : Bool} (h : words_plain p0 = some r) : Ct Tryz.prog 39 [S p0] (fun M => GlF (fun w => ∃ m, w.cell? ⟨2, 0, none⟩ = some (.int .i64 m)) M) (fun v M => v = Value.bool r) := by
  refine Ct.of Tryz.func39 (enters Tryz.func39 (by kernel_rfl) rfl) rfl rfl rfl ?_
  intro w0 M0 H hp
  have hg_maxl := hp
  unfold words_plain at h
  refine SQ (RG (AS rfl rfl (NL (TN (SQ (SQ (RG (MV rfl rfl (ST (Ex.lenStr Tryz.underlying9 rfl) rfl (MV rfl rfl (NL (TN ?_))))))))))))
  obtain ⟨o1, e2, h⟩ := bnd h
  refine WC.cutX (fun e w => ∃  (M : Mem), e = [(0, S p0)] ∧ St w0 M0 M [] w ∧ GlF (fun w => ∃ m, w.cell? ⟨2, 0, none⟩ = some (.int .i64 m)) M ∧ some (.inl ()) = some o1) [] ?_ ?_ (trivial)
  ·
   refine BL (WC.loopP (fun m e w => ∃ (n3 : Int) (M : Mem), e = [(0, S p0), (5, I (p0.length : Int)), (6, I n3)] ∧ St w0 M0 M [] w ∧ GlF (fun w => ∃ m, w.cell? ⟨2, 0, none⟩ = some (.int .i64 m)) M ∧ words_plain_L1 p0 m n3 = some o1) FU [(0, _), (5, _), (6, _)] ⟨rfl, rfl, rfl, trivial⟩ ⟨_, _, rfl, H, hg_maxl, e2⟩ ?_)
   rintro m4 e w ⟨n3, M, rfl, H, hg_maxl, e2⟩
   rcases m4 with _ | m4
   · rw [words_plain_L1] at e2; cases e2
   rw [words_plain_L1] at e2
   refine SQ (RG (ST (Ex.lss rfl rfl) rfl (NL (TN (SQ ?_)))))
   refine WC.condB rfl (fun hk5 => ?_) (fun hk5 => ?_)
   ·
    replace hk5 : n3 < (p0.length : Int) := of_decide_eq_true hk5
    rw [if_pos hk5] at e2
    refine SK (TN (SQ (BL (SQ (RG (MV rfl rfl (AS rfl rfl (NL (TN (SQ ?_))))))))))
    obtain ⟨o6, e7, e2⟩ := bnd e2
    refine WC.cutX (fun e w => ∃ (b8 : Bool) (M : Mem), e = [(0, S p0), (5, I (p0.length : Int)), (6, I n3), (18, Value.bool b8)] ∧ St w0 M0 M [] w ∧ GlF (fun w => ∃ m, w.cell? ⟨2, 0, none⟩ = some (.int .i64 m)) M ∧ some b8 = some o6) [] ?_ ?_ (trivial)
    ·
     obtain ⟨c9, hxc9, e7⟩ := bnd e7
     refine RG (MV rfl rfl (MV rfl rfl (ST (Ex.idxStrC Tryz.underlying9 rfl rfl hxc9) rfl ?_)))
     by_cases hk10 : c9.toNat < 32
     ·
      rw [if_pos hk10] at e7
      refine WR.stepE (v' := .bool true) (Ex.lssB (i := c9.toNat) (j := 32) rfl rfl) (congrArg Value.bool (decide_eq_true hk10)) (Wn.none rfl) rfl rfl (MV rfl rfl (WR.skipN 4 rfl rfl (PT rfl rfl rfl (NL ?_))))
      exact WQ.meetN [(0, _), (5, _), (6, _), (18, _)] ⟨rfl, rfl, rfl, rfl, trivial⟩ ⟨_, _, rfl, H, hg_maxl, e7⟩
     ·
      rw [if_neg hk10] at e7
      obtain ⟨c11, hxc11, e7⟩ := bnd e7
      refine WR.stepE (v' := .bool false) (Ex.lssB (i := c9.toNat) (j := 32) rfl rfl) (congrArg Value.bool (decide_eq_false hk10)) (Wn.none rfl) rfl rfl (MV rfl rfl (SG (Ex.move rfl) rfl rfl rfl (SG (Ex.move rfl) rfl rfl rfl (SG (Ex.idxStrC Tryz.underlying9 rfl rfl hxc11) rfl rfl rfl (SG (Ex.gtrB (i := c11.toNat) (j := 126) rfl rfl) rfl rfl rfl (PF rfl rfl rfl (NL ?_)))))))
      exact WQ.meetN [(0, _), (5, _), (6, _), (18, _)] ⟨rfl, rfl, rfl, rfl, trivial⟩ ⟨_, _, rfl, H, hg_maxl, e7⟩
    ·
     rintro e w ⟨b8, M, rfl, H, hg_maxl, q12⟩
     obtain rfl := Option.some.inj q12
     refine TN ?_
     refine WC.condB rfl (fun hk13 => ?_) (fun hk13 => ?_)
     ·
      subst hk13
      rw [if_pos rfl] at e2
      refine SQ (RG (AS rfl rfl (NL (TN (RT ?_)))))
      obtain rfl := Option.some.inj e2
      try dsimp only at h
      obtain rfl := Option.some.inj h
      exact WQ.ret1 rfl rfl H.ext rfl
     ·
      subst hk13
      rw [if_neg Bool.false_ne_true] at e2
      refine SK (IB (TN ?_))
      obtain ⟨n14, hxn14, e2⟩ := bnd e2
      refine RG (ST (Ex.addC rfl rfl hxn14) rfl (MV rfl rfl (NL ?_)))
      exact WQ.againP m4 [(0, _), (5, _), (6, _)] ⟨rfl, rfl, rfl, trivial⟩ ⟨_, _, rfl, H, hg_maxl, e2⟩ (Nat.lt_succ_self _)
   ·
    replace hk5 : ¬ (n3 < (p0.length : Int)) := of_decide_eq_false hk5
    rw [if_neg hk5] at e2
    refine WC.exit (WQ.thenExit (WQ.thenExit (WQ.exitHere ?_)))
    exact WQ.meetN [(0, _)] ⟨rfl, trivial⟩ ⟨_, rfl, H, hg_maxl, e2⟩
  ·
   rintro e w ⟨M, rfl, H, hg_maxl, q15⟩
   obtain rfl := Option.some.inj q15
   try dsimp only at h
   refine TN (SQ ?_)
   obtain ⟨o16, e17, h⟩ := bnd h
   refine WC.cutX (fun e w => ∃ (b18 : Bool) (M : Mem), e = [(2, Value.bool b18)] ∧ St w0 M0 M [] w ∧ GlF (fun w => ∃ m, w.cell? ⟨2, 0, none⟩ = some (.int .i64 m)) M ∧ some b18 = some o16) [] ?_ ?_ (trivial)
   ·
    obtain ⟨b19, hx20, e17⟩ := bnd e17
    refine RG (MV rfl rfl (WR.call H (strings_HasPrefix_ct hx20) rfl trivial (Wn.none rfl) rfl ?_))
    intro v21 M w H hle hR
    replace hg_maxl := hg_maxl.mono hle
    obtain rfl := hR
    refine ST (Ex.not rfl) rfl (MV rfl rfl ?_)
    rcases b19 with _ | _
    ·
     rw [if_neg Bool.false_ne_true] at e17
     obtain ⟨b21, hx22, e17⟩ := bnd e17
     refine SG (Ex.move rfl) rfl rfl rfl (WR.call H (strings_HasSuffix_ct hx22) rfl trivial (Wn.some rfl rfl rfl) rfl ?_)
     intro v25 M w H hle hR
     replace hg_maxl := hg_maxl.mono hle
     obtain rfl := hR
     refine SG (Ex.not rfl) rfl rfl rfl (PT rfl rfl rfl (MV rfl rfl ?_))
     rcases b21 with _ | _
     ·
      rw [if_neg Bool.false_ne_true] at e17
      obtain ⟨b23, hx24, e17⟩ := bnd e17
      refine SG (Ex.move rfl) rfl rfl rfl (WR.call H (strings_Contains_ct hx24) rfl (hg_maxl) (Wn.some rfl rfl rfl) rfl ?_)
      intro v30 M w H hle hR
      replace hg_maxl := hg_maxl.mono hle
      obtain rfl := hR
      refine SG (Ex.not rfl) rfl rfl rfl (PT rfl rfl rfl (AS rfl rfl (NL ?_)))
      exact WQ.meetN [(2, _)] ⟨rfl, trivial⟩ ⟨_, _, rfl, H, hg_maxl, e17⟩
     ·
      rw [if_pos rfl] at e17
      refine WR.skipN 3 rfl rfl (PF rfl rfl rfl (AS rfl rfl (NL ?_)))
      exact WQ.meetN [(2, _)] ⟨rfl, trivial⟩ ⟨_, _, rfl, H, hg_maxl, e17⟩
    ·
     rw [if_pos rfl] at e17
     refine WR.skipN 3 rfl rfl (PF rfl rfl rfl (MV rfl rfl (WR.skipN 3 rfl rfl (PF rfl rfl rfl (AS rfl rfl (NL ?_))))))
     exact WQ.meetN [(2, _)] ⟨rfl, trivial⟩ ⟨_, _, rfl, H, hg_maxl, e17⟩
   ·
    rintro e w ⟨b18, M, rfl, H, hg_maxl, q25⟩
    obtain rfl := Option.some.inj q25
    refine TN (RT ?_)
    obtain rfl := Option.some.inj h
    exact WQ.ret1 rfl rfl H.ext rfl
theorem basic_None_ct  {r : (Int × Int)} (h : basic_None = some r) : Ct Tryz.prog 40 [] (fun M => True) (fun v M => v = Value.agg #[I r.1, I r.2]) := by
  refine Ct.of Tryz.func40 (enters Tryz.func40 (by kernel_rfl) rfl) rfl rfl rfl ?_
  intro w0 M0 H hp
  unfold basic_None at h
  refine SQ (RG (WR.alloc [_, _] H Tryz.zeroValue24 rfl (Wn.none rfl) rfl ?_))
  intro b0 w H
  refine NL (TN (SQ (RG (ST (Ex.build [I 0, I 0] Tryz.underlying24 Tryz.zeroValue24 (xplaces24 Tryz.underlying24) rfl rfl) rfl (WR.store [_, _] H rfl rfl rfl (by repeat first | exact .head | apply Upd.tail) Tryz.sizeOf24 rfl (by rfl) (by rfl) (Wn.none rfl) ?_)))))
  intro w H
  refine NL (TN (RT ?_))
  obtain rfl := Option.some.inj h
  exact WQ.ret1 rfl ⟨_, rfl, H.loadAgg (by repeat (first | exact List.Mem.head _ | apply List.Mem.tail)) Tryz.isAgg24 Tryz.sizeOf24 (by rfl)⟩ H.ext rfl
theorem words_units_ct {p0 : List UInt8} {p1 : List UInt8} {r : (List UInt8 × List UInt8)} (h : words_units p0 p1 = some r) : Ct Tryz.prog 42 [S p0, S p1] (fun M => True) (fun v M => ∃ b0_0 b0_1, v = (Value.func (.func 82) #[] #[ptr b0_0 0, ptr b0_1 0]) ∧ PtM M b0_0 (.cells #[S r.1] 9) ∧ PtM M b0_1 (.cells #[S r.2] 9)) := by
  refine Ct.of Tryz.func42 (enters Tryz.func42 (by kernel_rfl) rfl) rfl rfl rfl ?_
  intro w0 M0 H hp
  unfold words_units at h
  refine SQ (RG (WR.box [_] H rfl rfl (Wn.none rfl) rfl ?_))
  intro b2 w H
  refine WR.box [_] H rfl rfl (Wn.none rfl) rfl ?_
  intro b3 w H
  refine AS rfl rfl (NL (TN (SQ (RG ?_))))
  obtain ⟨M, hle, hb1, H⟩ := H.freezeVar (b := b3) (by repeat first | exact .head | apply Rem.tail)
  obtain ⟨M, hle, hb2, H⟩ := H.freezeVar (b := b2) (by repeat first | exact .head | apply Rem.tail)
  replace hb1 := hb1.mono hle
  refine ST (Ex.makeFunc rfl) rfl (AS rfl rfl (NL (TN (RT ?_))))
  obtain rfl := Option.some.inj h
  exact WQ.ret1 rfl rfl H.ext (⟨_, _, rfl, hb1, hb2⟩)
theorem words_flat_ct {p0 : List UInt8} {vp0 : Value} {r : List UInt8} (h : words_flat p0 = some r) : Ct Tryz.prog 85 [vp0] (fun M => GlF (fun w => ∃ m, w.cell? ⟨2, 0, none⟩ = some (.int .i64 m)) M ∧ Sl M encB vp0 p0) (fun v M => v = S r) := by
  refine Ct.of Tryz.func85 (enters Tryz.func85 (by kernel_rfl) rfl) rfl rfl rfl ?_
  intro w0 M0 H hp
  obtain ⟨hg_maxl, hp0⟩ := hp
  unfold words_flat at h
  refine SQ (RG (AS rfl rfl (NL (TN (SQ ?_)))))
  obtain ⟨⟨l1, ⟨n2, n3⟩⟩, hx4, h⟩ := bnd h
  try dsimp only at h
  refine RG (MV rfl rfl (WR.call H (base64_Encode_ct hx4) rfl (hp0) (Wn.none rfl) rfl ?_))
  intro v7 M w H hle hR
  replace hg_maxl := hg_maxl.mono hle
  replace hp0 := hp0.mono hle
  try dsimp only at hR
  obtain ⟨x7_0, rfl, f7_0⟩ := hR
  refine MV rfl rfl (ST (Ex.extract rfl rfl) rfl (ST (Ex.extract rfl rfl) rfl (WR.alloc [_, _] H Tryz.zeroValue24 rfl (Wn.none rfl) rfl ?_)))
  intro b4 w H
  refine AS rfl rfl (WR.store [_, _] H rfl rfl rfl (by repeat first | exact .head | apply Upd.tail) Tryz.sizeOf24 rfl (by rfl) (by rfl) (Wn.none rfl) ?_)
  intro w H
  refine NL (TN (SQ ?_))
  obtain ⟨s5, hx6, h⟩ := bnd h
  refine RG (MV rfl rfl (ST (Ex.toStr Tryz.underlying30 Tryz.underlying5 Tryz.underlying9 H (f7_0) rfl) rfl (WR.call H (strings_ReplaceAll_ct hx6) rfl (hg_maxl) (Wn.none rfl) rfl ?_)))
  intro v12 M w H hle hR
  replace hg_maxl := hg_maxl.mono hle
  replace hp0 := hp0.mono hle
  replace f7_0 := f7_0.mono hle
  obtain rfl := hR
  refine AS rfl rfl (NL (TN (RT ?_)))
  obtain rfl := Option.some.inj h
  exact WQ.ret1 rfl rfl H.ext rfl
theorem strings_Builder_WriteByte_ct {p0 : List UInt8} {p1 : UInt8} {bp0 : Nat} {pp0 : Value} {vp0 : Value} {r : (Bool × List UInt8)} (h : strings_Builder_WriteByte p0 p1 = some r) : CtX Tryz.prog 51 [ptr bp0 0, encB p1] [.blk bp0 (.cells #[pp0, vp0] 70), RowI 5 encB vp0 p0] (fun M => BPM M bp0 pp0) (fun v M its => ∃ x0 qp0 up0, v = x0 ∧ NilB M x0 r.1 ∧ BPM M bp0 qp0 ∧ its = [.blk bp0 (.cells #[qp0, up0] 70), RowI 5 encB up0 r.2]) := by
  refine CtX.of Tryz.func51 (enters Tryz.func51 (by kernel_rfl) rfl) rfl rfl rfl ?_
  intro w0 M0 H hp
  have hp0 := hp
  unfold strings_Builder_WriteByte at h
  refine SQ (RG (AS rfl rfl (NL (TN (SQ (RG (MV rfl rfl ?_)))))))
  refine WR.callX (A := [.blk bp0 (.cells #[pp0, vp0] 70)]) (B := [RowI 5 encB vp0 p0]) (H.pick (L' := [.blk bp0 (.cells #[pp0, vp0] 70), RowI 5 encB vp0 p0]) (by repeat (first | exact Pick.nil | refine Pick.cons (by repeat first | exact .head | apply Rem.tail) ?_))) (copyCheck_ct hp0) (.left (Spl.all _)) rfl trivial (Wn.none rfl) rfl ?_
  intro v6 M w its H hle hR
  replace hp0 := hp0.mono hle
  obtain ⟨rfl, rfl⟩ := hR
  simp only [List.cons_append, List.nil_append] at H
  refine NL (TN (SQ ?_))
  obtain ⟨l2, hxl2, h⟩ := bnd h
  refine RG (MV rfl rfl (MV rfl rfl (ST (Ex.nilCheckP rfl) rfl (ST (Ex.fieldAddr Tryz.underlying70 rfl Tryz.sizeOf30 (by decide) rfl) rfl (ST (Ex.load1 H rfl (by repeat (first | exact List.Mem.head _ | apply List.Mem.tail)) Tryz.isAgg30 (by rfl)) rfl ?_)))))
  refine MV rfl rfl (WR.lit (enc := encB) xty30 ([p1] : List UInt8) H rfl (by rfl) (fun _ => rfl) rfl rfl (Wn.none rfl) rfl ?_)
  intro v13 M w H hle hs13
  refine WR.appC (l := p0) xty30 rfl (fun _ => rfl) H rfl (fun _ => by repeat first | exact .head | apply Upd.tail) rfl (hs13) hxl2 (Wn.none rfl) rfl ?_
  intro v14 w H
  refine ST (Ex.nilCheckP rfl) rfl (ST (Ex.fieldAddr Tryz.underlying70 rfl Tryz.sizeOf30 (by decide) rfl) rfl (WR.putV [_, _] H rfl rfl (H.rowOne (by repeat (first | exact List.Mem.head _ | apply List.Mem.tail))) (by repeat first | exact .head | apply Upd.tail) (by rfl) Tryz.sizeOf30 (by first | decide | (simp; done) | (simp; omega)) (Wn.none rfl) ?_))
  intro w H
  refine NL (TN (SQ (RG (AS rfl rfl (NL (TN (RT ?_)))))))
  obtain rfl := Option.some.inj h
  exact WQ.retX1 (its := [.blk bp0 (.cells #[(ptr bp0 0), v14] 70), RowI 5 encB v14 l2]) rfl rfl H (by repeat (first | exact Pick.nil | refine Pick.cons (by repeat first | exact .head | apply Rem.tail) ?_)) ⟨_, _, _, rfl, (.inl ⟨rfl, rfl⟩), BPM.self, rfl⟩
theorem basic_Letter_ct {p0 : UInt8} {r : Bool} (h : basic_Letter p0 = some r) : Ct Tryz.prog 129 [encB p0] (fun M => True) (fun v M => v = Value.bool r) := by
  refine Ct.of Tryz.func129 (enters Tryz.func129 (by kernel_rfl) rfl) rfl rfl rfl ?_
  intro w0 M0 H hp
  unfold basic_Letter at h
  refine SQ (RG (AS rfl rfl (NL (TN (SQ ?_)))))
  obtain ⟨o1, e2, h⟩ := bnd h
  refine WC.cutX (fun e w => ∃ (b3 : Bool) (M : Mem), e = [(2, Value.bool b3)] ∧ St w0 M0 M [] w ∧ some b3 = some o1) [] ?_ ?_ (trivial)
  ·
   by_cases hk4 : 97 ≤ p0.toNat
   ·
    rw [if_pos hk4] at e2
    refine RG (MV rfl rfl (WR.stepE (v' := .bool true) (Ex.geqB (i := p0.toNat) (j := 97) rfl rfl) (congrArg Value.bool (decide_eq_true hk4)) (Wn.none rfl) rfl rfl ?_))
    by_cases hk5 : p0.toNat ≤ 122
    ·
     rw [if_pos hk5] at e2
     refine MV rfl rfl (SG (Ex.move rfl) rfl rfl rfl (WR.stepE (v' := .bool true) (Ex.leqB (i := p0.toNat) (j := 122) rfl rfl) (congrArg Value.bool (decide_eq_true hk5)) (Wn.some rfl rfl rfl) rfl rfl (PT rfl rfl rfl (MV rfl rfl (WR.skipN 6 rfl rfl (PT rfl rfl rfl (MV rfl rfl (WR.skipN 6 rfl rfl (PT rfl rfl rfl (AS rfl rfl (NL ?_)))))))))))
     exact WQ.meetN [(2, _)] ⟨rfl, trivial⟩ ⟨_, _, rfl, H, e2⟩
    ·
     rw [if_neg hk5] at e2
     by_cases hk6 : 65 ≤ p0.toNat
     ·
      rw [if_pos hk6] at e2
      by_cases hk7 : p0.toNat ≤ 90
      ·
       rw [if_pos hk7] at e2
       refine MV rfl rfl (SG (Ex.move rfl) rfl rfl rfl (WR.stepE (v' := .bool false) (Ex.leqB (i := p0.toNat) (j := 122) rfl rfl) (congrArg Value.bool (decide_eq_false hk5)) (Wn.some rfl rfl rfl) rfl rfl (PT rfl rfl rfl (MV rfl rfl (SG (Ex.move rfl) rfl rfl rfl (WR.stepE (v' := .bool true) (Ex.geqB (i := p0.toNat) (j := 65) rfl rfl) (congrArg Value.bool (decide_eq_true hk6)) (Wn.some rfl rfl rfl) rfl rfl (SG (Ex.move rfl) rfl rfl rfl (SG (Ex.move rfl) rfl rfl rfl (WR.stepE (v' := .bool true) (Ex.leqB (i := p0.toNat) (j := 90) rfl rfl) (congrArg Value.bool (decide_eq_true hk7)) (Wn.some rfl rfl rfl) rfl rfl (SG (Ex.pickT rfl rfl) rfl rfl rfl (PF rfl rfl rfl (MV rfl rfl (WR.skipN 6 rfl rfl (PT rfl rfl rfl (AS rfl rfl (NL ?_))))))))))))))))
       exact WQ.meetN [(2, _)] ⟨rfl, trivial⟩ ⟨_, _, rfl, H, e2⟩
      ·
       rw [if_neg hk7] at e2
       by_cases hk8 : 48 ≤ p0.toNat
       ·
        rw [if_pos hk8] at e2
        refine MV rfl rfl (SG (Ex.move rfl) rfl rfl rfl (WR.stepE (v' := .bool false) (Ex.leqB (i := p0.toNat) (j := 122) rfl rfl) (congrArg Value.bool (decide_eq_false hk5)) (Wn.some rfl rfl rfl) rfl rfl (PT rfl rfl rfl (MV rfl rfl (SG (Ex.move rfl) rfl rfl rfl (WR.stepE (v' := .bool true) (Ex.geqB (i := p0.toNat) (j := 65) rfl rfl) (congrArg Value.bool (decide_eq_true hk6)) (Wn.some rfl rfl rfl) rfl rfl (SG (Ex.move rfl) rfl rfl rfl (SG (Ex.move rfl) rfl rfl rfl (WR.stepE (v' := .bool false) (Ex.leqB (i := p0.toNat) (j := 90) rfl rfl) (congrArg Value.bool (decide_eq_false hk7)) (Wn.some rfl rfl rfl) rfl rfl (SG (Ex.pickT rfl rfl) rfl rfl rfl (PF rfl rfl rfl (MV rfl rfl (SG (Ex.move rfl) rfl rfl rfl (WR.stepE (v' := .bool true) (Ex.geqB (i := p0.toNat) (j := 48) rfl rfl) (congrArg Value.bool (decide_eq_true hk8)) (Wn.some rfl rfl rfl) rfl rfl (SG (Ex.move rfl) rfl rfl rfl (SG (Ex.move rfl) rfl rfl rfl ?_))))))))))))))))
        refine SG (Ex.leqB (i := p0.toNat) (j := 57) rfl rfl) rfl rfl rfl (SG (Ex.pickT rfl rfl) rfl rfl rfl (PF rfl rfl rfl (AS rfl rfl (NL ?_))))
        exact WQ.meetN [(2, _)] ⟨rfl, trivial⟩ ⟨_, _, rfl, H, e2⟩
       ·
        rw [if_neg hk8] at e2
        refine MV rfl rfl (SG (Ex.move rfl) rfl rfl rfl (WR.stepE (v' := .bool false) (Ex.leqB (i := p0.toNat) (j := 122) rfl rfl) (congrArg Value.bool (decide_eq_false hk5)) (Wn.some rfl rfl rfl) rfl rfl (PT rfl rfl rfl (MV rfl rfl (SG (Ex.move rfl) rfl rfl rfl (WR.stepE (v' := .bool true) (Ex.geqB (i := p0.toNat) (j := 65) rfl rfl) (congrArg Value.bool (decide_eq_true hk6)) (Wn.some rfl rfl rfl) rfl rfl (SG (Ex.move rfl) rfl rfl rfl (SG (Ex.move rfl) rfl rfl rfl (WR.stepE (v' := .bool false) (Ex.leqB (i := p0.toNat) (j := 90) rfl rfl) (congrArg Value.bool (decide_eq_false hk7)) (Wn.some rfl rfl rfl) rfl rfl (SG (Ex.pickT rfl rfl) rfl rfl rfl (PF rfl rfl rfl (MV rfl rfl (SG (Ex.move rfl) rfl rfl rfl (WR.stepE (v' := .bool false) (Ex.geqB (i := p0.toNat) (j := 48) rfl rfl) (congrArg Value.bool (decide_eq_false hk8)) (Wn.some rfl rfl rfl) rfl rfl (SG (Ex.move rfl) rfl rfl rfl (GF rfl rfl rfl ?_))))))))))))))))
        refine GF rfl rfl rfl (SG (Ex.pickF rfl rfl) rfl rfl rfl (PF rfl rfl rfl (AS rfl rfl (NL ?_))))
        exact WQ.meetN [(2, _)] ⟨rfl, trivial⟩ ⟨_, _, rfl, H, e2⟩
     ·
      rw [if_neg hk6] at e2
      by_cases hk9 : 48 ≤ p0.toNat
      ·
       rw [if_pos hk9] at e2
       refine MV rfl rfl (SG (Ex.move rfl) rfl rfl rfl (WR.stepE (v' := .bool false) (Ex.leqB (i := p0.toNat) (j := 122) rfl rfl) (congrArg Value.bool (decide_eq_false hk5)) (Wn.some rfl rfl rfl) rfl rfl (PT rfl rfl rfl (MV rfl rfl (SG (Ex.move rfl) rfl rfl rfl (WR.stepE (v' := .bool false) (Ex.geqB (i := p0.toNat) (j := 65) rfl rfl) (congrArg Value.bool (decide_eq_false hk6)) (Wn.some rfl rfl rfl) rfl rfl (SG (Ex.move rfl) rfl rfl rfl (GF rfl rfl rfl (GF rfl rfl rfl (SG (Ex.pickF rfl rfl) rfl rfl rfl (PF rfl rfl rfl (MV rfl rfl (SG (Ex.move rfl) rfl rfl rfl (WR.stepE (v' := .bool true) (Ex.geqB (i := p0.toNat) (j := 48) rfl rfl) (congrArg Value.bool (decide_eq_true hk9)) (Wn.some rfl rfl rfl) rfl rfl (SG (Ex.move rfl) rfl rfl rfl (SG (Ex.move rfl) rfl rfl rfl (SG (Ex.leqB (i := p0.toNat) (j := 57) rfl rfl) rfl rfl rfl (SG (Ex.pickT rfl rfl) rfl rfl rfl (PF rfl rfl rfl (AS rfl rfl (NL ?_)))))))))))))))))))))
       exact WQ.meetN [(2, _)] ⟨rfl, trivial⟩ ⟨_, _, rfl, H, e2⟩
      ·
       rw [if_neg hk9] at e2
       refine MV rfl rfl (SG (Ex.move rfl) rfl rfl rfl (WR.stepE (v' := .bool false) (Ex.leqB (i := p0.toNat) (j := 122) rfl rfl) (congrArg Value.bool (decide_eq_false hk5)) (Wn.some rfl rfl rfl) rfl rfl (PT rfl rfl rfl (MV rfl rfl (SG (Ex.move rfl) rfl rfl rfl (WR.stepE (v' := .bool false) (Ex.geqB (i := p0.toNat) (j := 65) rfl rfl) (congrArg Value.bool (decide_eq_false hk6)) (Wn.some rfl rfl rfl) rfl rfl (SG (Ex.move rfl) rfl rfl rfl (GF rfl rfl rfl (GF rfl rfl rfl (SG (Ex.pickF rfl rfl) rfl rfl rfl (PF rfl rfl rfl (MV rfl rfl (SG (Ex.move rfl) rfl rfl rfl (WR.stepE (v' := .bool false) (Ex.geqB (i := p0.toNat) (j := 48) rfl rfl) (congrArg Value.bool (decide_eq_false hk9)) (Wn.some rfl rfl rfl) rfl rfl (SG (Ex.move rfl) rfl rfl rfl (GF rfl rfl rfl (GF rfl rfl rfl (SG (Ex.pickF rfl rfl) rfl rfl rfl (PF rfl rfl rfl (AS rfl rfl (NL ?_)))))))))))))))))))))
       exact WQ.meetN [(2, _)] ⟨rfl, trivial⟩ ⟨_, _, rfl, H, e2⟩
   ·
    rw [if_neg hk4] at e2
    refine RG (MV rfl rfl (WR.stepE (v' := .bool false) (Ex.geqB (i := p0.toNat) (j := 97) rfl rfl) (congrArg Value.bool (decide_eq_false hk4)) (Wn.none rfl) rfl rfl ?_))
    by_cases hk10 : 65 ≤ p0.toNat
    ·
     rw [if_pos hk10] at e2
     by_cases hk11 : p0.toNat ≤ 90
     ·
      rw [if_pos hk11] at e2
      refine MV rfl rfl (GF rfl rfl rfl (GF rfl rfl rfl (PF rfl rfl rfl (MV rfl rfl (SG (Ex.move rfl) rfl rfl rfl (WR.stepE (v' := .bool true) (Ex.geqB (i := p0.toNat) (j := 65) rfl rfl) (congrArg Value.bool (decide_eq_true hk10)) (Wn.some rfl rfl rfl) rfl rfl (SG (Ex.move rfl) rfl rfl rfl (SG (Ex.move rfl) rfl rfl rfl (WR.stepE (v' := .bool true) (Ex.leqB (i := p0.toNat) (j := 90) rfl rfl) (congrArg Value.bool (decide_eq_true hk11)) (Wn.some rfl rfl rfl) rfl rfl (SG (Ex.pickT rfl rfl) rfl rfl rfl (PF rfl rfl rfl (MV rfl rfl (WR.skipN 6 rfl rfl (PT rfl rfl rfl (AS rfl rfl (NL ?_))))))))))))))))
      exact WQ.meetN [(2, _)] ⟨rfl, trivial⟩ ⟨_, _, rfl, H, e2⟩
     ·
      rw [if_neg hk11] at e2
      by_cases hk12 : 48 ≤ p0.toNat
      ·
       rw [if_pos hk12] at e2
       refine MV rfl rfl (GF rfl rfl rfl (GF rfl rfl rfl (PF rfl rfl rfl (MV rfl rfl (SG (Ex.move rfl) rfl rfl rfl (WR.stepE (v' := .bool true) (Ex.geqB (i := p0.toNat) (j := 65) rfl rfl) (congrArg Value.bool (decide_eq_true hk10)) (Wn.some rfl rfl rfl) rfl rfl (SG (Ex.move rfl) rfl rfl rfl (SG (Ex.move rfl) rfl rfl rfl (WR.stepE (v' := .bool false) (Ex.leqB (i := p0.toNat) (j := 90) rfl rfl) (congrArg Value.bool (decide_eq_false hk11)) (Wn.some rfl rfl rfl) rfl rfl (SG (Ex.pickT rfl rfl) rfl rfl rfl (PF rfl rfl rfl (MV rfl rfl (SG (Ex.move rfl) rfl rfl rfl (WR.stepE (v' := .bool true) (Ex.geqB (i := p0.toNat) (j := 48) rfl rfl) (congrArg Value.bool (decide_eq_true hk12)) (Wn.some rfl rfl rfl) rfl rfl (SG (Ex.move rfl) rfl rfl rfl (SG (Ex.move rfl) rfl rfl rfl (SG (Ex.leqB (i := p0.toNat) (j := 57) rfl rfl) rfl rfl rfl (SG (Ex.pickT rfl rfl) rfl rfl rfl (PF rfl rfl rfl (AS rfl rfl (NL ?_)))))))))))))))))))))
       exact WQ.meetN [(2, _)] ⟨rfl, trivial⟩ ⟨_, _, rfl, H, e2⟩
      ·
       rw [if_neg hk12] at e2
       refine MV rfl rfl (GF rfl rfl rfl (GF rfl rfl rfl (PF rfl rfl rfl (MV rfl rfl (SG (Ex.move rfl) rfl rfl rfl (WR.stepE (v' := .bool true) (Ex.geqB (i := p0.toNat) (j := 65) rfl rfl) (congrArg Value.bool (decide_eq_true hk10)) (Wn.some rfl rfl rfl) rfl rfl (SG (Ex.move rfl) rfl rfl rfl (SG (Ex.move rfl) rfl rfl rfl (WR.stepE (v' := .bool false) (Ex.leqB (i := p0.toNat) (j := 90) rfl rfl) (congrArg Value.bool (decide_eq_false hk11)) (Wn.some rfl rfl rfl) rfl rfl (SG (Ex.pickT rfl rfl) rfl rfl rfl (PF rfl rfl rfl (MV rfl rfl (SG (Ex.move rfl) rfl rfl rfl (WR.stepE (v' := .bool false) (Ex.geqB (i := p0.toNat) (j := 48) rfl rfl) (congrArg Value.bool (decide_eq_false hk12)) (Wn.some rfl rfl rfl) rfl rfl (SG (Ex.move rfl) rfl rfl rfl (GF rfl rfl rfl (GF rfl rfl rfl (SG (Ex.pickF rfl rfl) rfl rfl rfl (PF rfl rfl rfl (AS rfl rfl (NL ?_)))))))))))))))))))))
       exact WQ.meetN [(2, _)] ⟨rfl, trivial⟩ ⟨_, _, rfl, H, e2⟩
    ·
     rw [if_neg hk10] at e2
     by_cases hk13 : 48 ≤ p0.toNat
     ·
      rw [if_pos hk13] at e2
      refine MV rfl rfl (GF rfl rfl rfl (GF rfl rfl rfl (PF rfl rfl rfl (MV rfl rfl (SG (Ex.move rfl) rfl rfl rfl (WR.stepE (v' := .bool false) (Ex.geqB (i := p0.toNat) (j := 65) rfl rfl) (congrArg Value.bool (decide_eq_false hk10)) (Wn.some rfl rfl rfl) rfl rfl (SG (Ex.move rfl) rfl rfl rfl (GF rfl rfl rfl (GF rfl rfl rfl (SG (Ex.pickF rfl rfl) rfl rfl rfl (PF rfl rfl rfl (MV rfl rfl (SG (Ex.move rfl) rfl rfl rfl (WR.stepE (v' := .bool true) (Ex.geqB (i := p0.toNat) (j := 48) rfl rfl) (congrArg Value.bool (decide_eq_true hk13)) (Wn.some rfl rfl rfl) rfl rfl (SG (Ex.move rfl) rfl rfl rfl (SG (Ex.move rfl) rfl rfl rfl (SG (Ex.leqB (i := p0.toNat) (j := 57) rfl rfl) rfl rfl rfl (SG (Ex.pickT rfl rfl) rfl rfl rfl (PF rfl rfl rfl (AS rfl rfl (NL ?_)))))))))))))))))))))
      exact WQ.meetN [(2, _)] ⟨rfl, trivial⟩ ⟨_, _, rfl, H, e2⟩
     ·
      rw [if_neg hk13] at e2
      refine MV rfl rfl (GF rfl rfl rfl (GF rfl rfl rfl (PF rfl rfl rfl (MV rfl rfl (SG (Ex.move rfl) rfl rfl rfl (WR.stepE (v' := .bool false) (Ex.geqB (i := p0.toNat) (j := 65) rfl rfl) (congrArg Value.bool (decide_eq_false hk10)) (Wn.some rfl rfl rfl) rfl rfl (SG (Ex.move rfl) rfl rfl rfl (GF rfl rfl rfl (GF rfl rfl rfl (SG (Ex.pickF rfl rfl) rfl rfl rfl (PF rfl rfl rfl (MV rfl rfl (SG (Ex.move rfl) rfl rfl rfl (WR.stepE (v' := .bool false) (Ex.geqB (i := p0.toNat) (j := 48) rfl rfl) (congrArg Value.bool (decide_eq_false hk13)) (Wn.some rfl rfl rfl) rfl rfl (SG (Ex.move rfl) rfl rfl rfl (GF rfl rfl rfl (GF rfl rfl rfl (SG (Ex.pickF rfl rfl) rfl rfl rfl (PF rfl rfl rfl (AS rfl rfl (NL ?_)))))))))))))))))))))
      exact WQ.meetN [(2, _)] ⟨rfl, trivial⟩ ⟨_, _, rfl, H, e2⟩
  ·
   rintro e w ⟨b3, M, rfl, H, q14⟩
   obtain rfl := Option.some.inj q14
   refine TN (RT ?_)
   obtain rfl := Option.some.inj h
   exact WQ.ret1 rfl rfl H.ext rfl
theorem basic_Digit_ct {p0 : UInt8} {r : UInt8} (h : basic_Digit p0 = some r) : Ct Tryz.prog 131 [encB p0] (fun M => True) (fun v M => v = encB r) := by
  refine Ct.of Tryz.func131 (enters Tryz.func131 (by kernel_rfl) rfl) rfl rfl rfl ?_
  intro w0 M0 H hp
  unfold basic_Digit at h
  refine SQ (RG (AS rfl rfl (NL (TN (SQ ?_)))))
  obtain ⟨c1, hxc1, h⟩ := bnd h
  refine RG (MV rfl rfl (ST (Ex.andB (c := p0) (d := 15) rfl rfl) rfl (ST (Ex.idxStrC Tryz.underlying9 rfl rfl hxc1) rfl (AS rfl rfl (NL (TN (RT ?_)))))))
  obtain rfl := Option.some.inj h
  exact WQ.ret1 rfl rfl H.ext rfl
theorem strings_Builder_Write_ct {p0 : List UInt8} {p1 : List UInt8} {bp0 : Nat} {pp0 : Value} {vp0 : Value} {vp1 : Value} {r : (Int × Bool × List UInt8)} (h : strings_Builder_Write p0 p1 = some r) : CtX Tryz.prog 130 [ptr bp0 0, vp1] [.blk bp0 (.cells #[pp0, vp0] 70), RowI 5 encB vp0 p0] (fun M => BPM M bp0 pp0 ∧ Sl M encB vp1 p1) (fun v M its => ∃ x1 qp0 up0, v = Value.tuple #[I r.1, x1] ∧ NilB M x1 r.2.1 ∧ BPM M bp0 qp0 ∧ its = [.blk bp0 (.cells #[qp0, up0] 70), RowI 5 encB up0 r.2.2]) := by
  refine CtX.of Tryz.func130 (enters Tryz.func130 (by kernel_rfl) rfl) rfl rfl rfl ?_
  intro w0 M0 H hp
  obtain ⟨hp0, hp1⟩ := hp
  unfold strings_Builder_Write at h
  refine SQ (RG (AS rfl rfl (AS rfl rfl (NL (TN (SQ (RG (MV rfl rfl ?_))))))))
  refine WR.callX (A := [.blk bp0 (.cells #[pp0, vp0] 70)]) (B := [RowI 5 encB vp0 p0]) (H.pick (L' := [.blk bp0 (.cells #[pp0, vp0] 70), RowI 5 encB vp0 p0]) (by repeat (first | exact Pick.nil | refine Pick.cons (by repeat first | exact .head | apply Rem.tail) ?_))) (copyCheck_ct hp0) (.left (Spl.all _)) rfl trivial (Wn.none rfl) rfl ?_
  intro v7 M w its H hle hR
  replace hp1 := hp1.mono hle
  replace hp0 := hp0.mono hle
  obtain ⟨rfl, rfl⟩ := hR
  simp only [List.cons_append, List.nil_append] at H
  refine NL (TN (SQ ?_))
  obtain ⟨l2, hxl2, h⟩ := bnd h
  refine RG (MV rfl rfl (MV rfl rfl (ST (Ex.nilCheckP rfl) rfl (ST (Ex.fieldAddr Tryz.underlying70 rfl Tryz.sizeOf30 (by decide) rfl) rfl (ST (Ex.load1 H rfl (by repeat (first | exact List.Mem.head _ | apply List.Mem.tail)) Tryz.isAgg30 (by rfl)) rfl ?_)))))
  refine MV rfl rfl (WR.appC (l := p0) xty30 rfl (fun _ => rfl) H rfl (fun _ => by repeat first | exact .head | apply Upd.tail) rfl (hp1) hxl2 (Wn.none rfl) rfl ?_)
  intro v14 w H
  refine ST (Ex.nilCheckP rfl) rfl (ST (Ex.fieldAddr Tryz.underlying70 rfl Tryz.sizeOf30 (by decide) rfl) rfl (WR.putV [_, _] H rfl rfl (H.rowOne (by repeat (first | exact List.Mem.head _ | apply List.Mem.tail))) (by repeat first | exact .head | apply Upd.tail) (by rfl) Tryz.sizeOf30 (by first | decide | (simp; done) | (simp; omega)) (Wn.none rfl) ?_))
  intro w H
  refine NL (TN (SQ (RG (MV rfl rfl (ST (Ex.lenSl Tryz.underlying30 hp1 rfl) rfl (AS rfl rfl (AS rfl rfl (NL (TN (RT ?_))))))))))
  obtain rfl := Option.some.inj h
  exact WQ.retX2 (its := [.blk bp0 (.cells #[(ptr bp0 0), v14] 70), RowI 5 encB v14 l2]) rfl rfl rfl H (by repeat (first | exact Pick.nil | refine Pick.cons (by repeat first | exact .head | apply Rem.tail) ?_)) ⟨_, _, _, rfl, (.inl ⟨rfl, rfl⟩), BPM.self, rfl⟩
theorem strings_Builder_String_ct {p0 : List UInt8} {bp0 : Nat} {pp0 : Value} {vp0 : Value} {r : List UInt8} (h : strings_Builder_String p0 = some r) : CtX Tryz.prog 54 [ptr bp0 0] [.blk bp0 (.cells #[pp0, vp0] 70), RowI 5 encB vp0 p0] (fun M => BPM M bp0 pp0) (fun v M its => v = S r ∧ its = []) := by
  refine CtX.of Tryz.func54 (enters Tryz.func54 (by kernel_rfl) rfl) rfl rfl rfl ?_
  intro w0 M0 H hp
  have hp0 := hp
  unfold strings_Builder_String at h
  refine SQ (RG (AS rfl rfl (NL (TN (SQ ?_)))))
  refine WC.cutP (fun e w => ∃  (M : Mem), e = [(2, S p0)] ∧ StX (feet [.blk bp0 (.cells #[pp0, vp0] 70), RowI 5 encB vp0 p0]) w0 M0 M [.blk bp0 (.cells #[pp0, vp0] 70)] w) ?_ ?_
  ·
   refine WC.draw (m := 12) rfl rfl H ?_
   intro w H
   refine WA.take (i := 0) rfl (by kernel_rfl) (by kernel_rfl) (by kernel_rfl) (fun _ => Ex.move rfl) (Wn.none rfl) rfl rfl (fun _ _ => rfl) (WA.take (i := 1) rfl (by kernel_rfl) (by kernel_rfl) (by kernel_rfl) (fun _ => Ex.nilCheckP rfl) (Wn.none rfl) rfl rfl (fun _ _ => rfl) (WA.take (i := 2) rfl (by kernel_rfl) (by kernel_rfl) (by kernel_rfl) (fun _ => Ex.fieldAddr Tryz.underlying70 rfl Tryz.sizeOf30 (by decide) rfl) (Wn.none rfl) rfl rfl (fun _ _ => rfl) (WA.take (i := 5) rfl (by kernel_rfl) (by kernel_rfl) (by kernel_rfl) (fun _ => Ex.move rfl) (Wn.none rfl) rfl rfl (fun _ _ => rfl) (WA.take (i := 6) rfl (by kernel_rfl) (by kernel_rfl) (by kernel_rfl) (fun _ => Ex.nilCheckP rfl) (Wn.none rfl) rfl rfl (fun _ _ => rfl) (WA.take (i := 7) rfl (by kernel_rfl) (by kernel_rfl) (by kernel_rfl) (fun _ => Ex.fieldAddr Tryz.underlying70 rfl Tryz.sizeOf30 (by decide) rfl) (Wn.none rfl) rfl rfl (fun _ _ => rfl) ?_)))))
   refine WA.two (i := 3) (j := 8) (by kernel_rfl) rfl rfl ?_ ?_
   ·
    refine ST (Ex.load1 H rfl (by repeat (first | exact List.Mem.head _ | apply List.Mem.tail)) Tryz.isAgg30 (by rfl)) rfl ?_
    refine NA ?_
    refine WA.two (i := 4) (j := 8) (by kernel_rfl) rfl rfl ?_ ?_
    ·
     refine WR.sliceData Tryz.underlying118 H (by repeat (first | exact List.Mem.head _ | apply List.Mem.tail)) rfl (Wn.none rfl) rfl ?_
     intro q7 w H hq7
     refine NA (WA.seq (fuel := 0) [8, 9, 10, 11] rfl (by kernel_rfl) (ST (Ex.load1 H rfl (by repeat (first | exact List.Mem.head _ | apply List.Mem.tail)) Tryz.isAgg30 (by rfl)) rfl ?_))
     refine ST (Ex.lenRow (l := p0) Tryz.underlying30 H (by repeat (first | exact List.Mem.head _ | apply List.Mem.tail)) rfl) rfl ?_
     refine WR.unsafeStr Tryz.underlying118 (by kernel_rfl) H (by repeat first | exact .head | apply Rem.tail) hq7 rfl rfl (Wn.none rfl) rfl ?_
     intro w H
     refine AS rfl rfl (NA (WA.done (by kernel_rfl) ?_))
     exact WQ.meetP [(2, _)] ⟨rfl, trivial⟩ ⟨_, rfl, H⟩
    ·
     refine ST (Ex.load1 H rfl (by repeat (first | exact List.Mem.head _ | apply List.Mem.tail)) Tryz.isAgg30 (by rfl)) rfl ?_
     refine NA ?_
     refine WA.two (i := 4) (j := 9) (by kernel_rfl) rfl rfl ?_ ?_
     ·
      refine WR.sliceData Tryz.underlying118 H (by repeat (first | exact List.Mem.head _ | apply List.Mem.tail)) rfl (Wn.none rfl) rfl ?_
      intro q7 w H hq7
      refine NA (WA.seq (fuel := 0) [9, 10, 11] rfl (by kernel_rfl) (ST (Ex.lenRow (l := p0) Tryz.underlying30 H (by repeat (first | exact List.Mem.head _ | apply List.Mem.tail)) rfl) rfl ?_))
      refine WR.unsafeStr Tryz.underlying118 (by kernel_rfl) H (by repeat first | exact .head | apply Rem.tail) hq7 rfl rfl (Wn.none rfl) rfl ?_
      intro w H
      refine AS rfl rfl (NA (WA.done (by kernel_rfl) ?_))
      exact WQ.meetP [(2, _)] ⟨rfl, trivial⟩ ⟨_, rfl, H⟩
     ·
      refine ST (Ex.lenRow (l := p0) Tryz.underlying30 H (by repeat (first | exact List.Mem.head _ | apply List.Mem.tail)) rfl) rfl ?_
      refine NA (WA.seq (fuel := 0) [4, 10, 11] rfl (by kernel_rfl) (WR.sliceData Tryz.underlying118 H (by repeat (first | exact List.Mem.head _ | apply List.Mem.tail)) rfl (Wn.none rfl) rfl ?_))
      intro q7 w H hq7
      refine WR.unsafeStr Tryz.underlying118 (by kernel_rfl) H (by repeat first | exact .head | apply Rem.tail) hq7 rfl rfl (Wn.none rfl) rfl ?_
      intro w H
      refine AS rfl rfl (NA (WA.done (by kernel_rfl) ?_))
      exact WQ.meetP [(2, _)] ⟨rfl, trivial⟩ ⟨_, rfl, H⟩
   ·
    refine ST (Ex.load1 H rfl (by repeat (first | exact List.Mem.head _ | apply List.Mem.tail)) Tryz.isAgg30 (by rfl)) rfl ?_
    refine NA ?_
    refine WA.two (i := 3) (j := 9) (by kernel_rfl) rfl rfl ?_ ?_
    ·
     refine ST (Ex.load1 H rfl (by repeat (first | exact List.Mem.head _ | apply List.Mem.tail)) Tryz.isAgg30 (by rfl)) rfl ?_
     refine NA ?_
     refine WA.two (i := 4) (j := 9) (by kernel_rfl) rfl rfl ?_ ?_
     ·
      refine WR.sliceData Tryz.underlying118 H (by repeat (first | exact List.Mem.head _ | apply List.Mem.tail)) rfl (Wn.none rfl) rfl ?_
      intro q7 w H hq7
      refine NA (WA.seq (fuel := 0) [9, 10, 11] rfl (by kernel_rfl) (ST (Ex.lenRow (l := p0) Tryz.underlying30 H (by repeat (first | exact List.Mem.head _ | apply List.Mem.tail)) rfl) rfl ?_))
      refine WR.unsafeStr Tryz.underlying118 (by kernel_rfl) H (by repeat first | exact .head | apply Rem.tail) hq7 rfl rfl (Wn.none rfl) rfl ?_
      intro w H
      refine AS rfl rfl (NA (WA.done (by kernel_rfl) ?_))
      exact WQ.meetP [(2, _)] ⟨rfl, trivial⟩ ⟨_, rfl, H⟩
     ·
      refine ST (Ex.lenRow (l := p0) Tryz.underlying30 H (by repeat (first | exact List.Mem.head _ | apply List.Mem.tail)) rfl) rfl ?_
      refine NA (WA.seq (fuel := 0) [4, 10, 11] rfl (by kernel_rfl) (WR.sliceData Tryz.underlying118 H (by repeat (first | exact List.Mem.head _ | apply List.Mem.tail)) rfl (Wn.none rfl) rfl ?_))
      intro q7 w H hq7
      refine WR.unsafeStr Tryz.underlying118 (by kernel_rfl) H (by repeat first | exact .head | apply Rem.tail) hq7 rfl rfl (Wn.none rfl) rfl ?_
      intro w H
      refine AS rfl rfl (NA (WA.done (by kernel_rfl) ?_))
      exact WQ.meetP [(2, _)] ⟨rfl, trivial⟩ ⟨_, rfl, H⟩
    ·
     refine ST (Ex.lenRow (l := p0) Tryz.underlying30 H (by repeat (first | exact List.Mem.head _ | apply List.Mem.tail)) rfl) rfl ?_
     refine NA (WA.seq (fuel := 0) [3, 4, 10, 11] rfl (by kernel_rfl) (ST (Ex.load1 H rfl (by repeat (first | exact List.Mem.head _ | apply List.Mem.tail)) Tryz.isAgg30 (by rfl)) rfl ?_))
     refine WR.sliceData Tryz.underlying118 H (by repeat (first | exact List.Mem.head _ | apply List.Mem.tail)) rfl (Wn.none rfl) rfl ?_
     intro q7 w H hq7
     refine WR.unsafeStr Tryz.underlying118 (by kernel_rfl) H (by repeat first | exact .head | apply Rem.tail) hq7 rfl rfl (Wn.none rfl) rfl ?_
     intro w H
     refine AS rfl rfl (NA (WA.done (by kernel_rfl) ?_))
     exact WQ.meetP [(2, _)] ⟨rfl, trivial⟩ ⟨_, rfl, H⟩
  ·
   rintro e w ⟨M, rfl, H⟩
   refine TN (RT ?_)
   obtain rfl := Option.some.inj h
   exact WQ.retX1 (its := []) rfl rfl H (by repeat (first | exact Pick.nil | refine Pick.cons (by repeat first | exact .head | apply Rem.tail) ?_)) ⟨rfl, rfl⟩
theorem words_data_ct {p0 : List UInt8} {vp0 : Value} {r : List UInt8} (h : words_data p0 = some r) : Ct Tryz.prog 86 [vp0] (fun M => Sl M encB vp0 p0) (fun v M => v = S r) := by
  refine Ct.of Tryz.func86 (enters Tryz.func86 (by kernel_rfl) rfl) rfl rfl rfl ?_
  intro w0 M0 H hp
  have hp0 := hp
  unfold words_data at h
  refine SQ (RG (AS rfl rfl (NL (TN (SQ (RG (WR.alloc [_, _] H Tryz.zeroValue70 rfl (Wn.none rfl) rfl ?_)))))))
  intro b3 w H
  refine NL (TN (SQ (SQ (RG (MV rfl rfl (ST (Ex.lenSl Tryz.underlying30 hp0 rfl) rfl (MV rfl rfl (NL (TN ?_)))))))))
  obtain ⟨o1, e2, h⟩ := bnd h
  refine WC.cutX (fun e w => ∃ (v3 : Value) (l6 : List UInt8) (v7 : Value) (M : Mem), e = [(3, ptr b3 0)] ∧ St w0 M0 M [.blk b3 (.cells #[v3, v7] 70), RowI 5 encB v7 l6] w ∧ BPM M b3 v3 ∧ some l6 = some o1) [] ?_ ?_ (trivial)
  ·
   refine BL ?_
   replace H := H.newRow 5 encB
   refine WC.loopP (fun m e w => ∃ (v8 : Value) (l11 : List UInt8) (v12 : Value) (n13 : Int) (M : Mem), e = [(3, ptr b3 0), (6, vp0), (7, I (p0.length : Int)), (8, I n13)] ∧ St w0 M0 M [.blk b3 (.cells #[v8, v12] 70), RowI 5 encB v12 l11] w ∧ BPM M b3 v8 ∧ Sl M encB vp0 p0 ∧ words_data_L1 p0 m l11 n13 = some o1) FU [(3, _), (6, _), (7, _), (8, _)] ⟨rfl, rfl, rfl, rfl, trivial⟩ ⟨_, _, _, _, _, rfl, (H.pick (L' := [.blk b3 (.cells #[(Value.pointer none), (Value.slice none 0 0)] 70), RowI 5 encB (Value.slice none 0 0) []]) (by repeat (first | exact Pick.nil | refine Pick.cons (by repeat first | exact .head | apply Rem.tail) ?_))), BPM.nil, hp0, e2⟩ ?_
   rintro m14 e w ⟨v8, l11, v12, n13, M, rfl, H, hs9, hp0, e2⟩
   rcases m14 with _ | m14
   · rw [words_data_L1] at e2; cases e2
   rw [words_data_L1] at e2
   refine SQ (RG (ST (Ex.lss rfl rfl) rfl (NL (TN (SQ ?_)))))
   refine WC.condB rfl (fun hk16 => ?_) (fun hk16 => ?_)
   ·
    replace hk16 : n13 < (p0.length : Int) := of_decide_eq_true hk16
    rw [if_pos hk16] at e2
    refine SK (TN (SQ (BL (SQ ?_))))
    obtain ⟨c17, hxc17, e2⟩ := bnd e2
    obtain ⟨b10, o10, ha10, hc10⟩ := hp0.atC hxc17
    refine RG (ST (Ex.idxAt ha10 Tryz.underlying30 Tryz.sizeOf5 rfl rfl) rfl (ST (Ex.loadM H rfl hc10 Tryz.isAgg5) rfl (AS rfl rfl (NL (TN (BL (SQ (RG (MV rfl rfl (ST (Ex.eqlB (c := c17) (d := 32) rfl rfl) rfl (AS rfl rfl (NL (TN ?_)))))))))))))
    refine WC.condB rfl (fun hk18 => ?_) (fun hk18 => ?_)
    ·
     replace hk18 : c17 = 32 := of_decide_eq_true hk18
     rw [if_pos hk18] at e2
     obtain ⟨⟨b19, l20⟩, hx21, e2⟩ := bnd e2
     try dsimp only at e2
     refine RG ?_
     refine WR.callX (A := [.blk b3 (.cells #[v8, v12] 70), RowI 5 encB v12 l11]) (B := []) (H.pick (L' := [.blk b3 (.cells #[v8, v12] 70), RowI 5 encB v12 l11]) (by repeat (first | exact Pick.nil | refine Pick.cons (by repeat first | exact .head | apply Rem.tail) ?_))) (strings_Builder_WriteByte_ct hx21) (.left (.left (Spl.all _))) rfl (hs9) (Wn.none rfl) rfl ?_
     intro v22 M w its H hle hR
     replace hp0 := hp0.mono hle
     replace hc10 := hc10.mono hle
     replace hs9 := hs9.mono hle
     try dsimp only at hR
     obtain ⟨x22_0, q22_0, u22_0, rfl, f22_0, hq22_0, rfl⟩ := hR
     simp only [List.cons_append, List.nil_append] at H
     refine NL (IB (IB (TN ?_)))
     obtain ⟨n22, hxn22, e2⟩ := bnd e2
     refine RG (ST (Ex.addC rfl rfl hxn22) rfl (MV rfl rfl (NL ?_)))
     exact WQ.againP m14 [(3, _), (6, _), (7, _), (8, _)] ⟨rfl, rfl, rfl, rfl, trivial⟩ ⟨_, _, _, _, _, rfl, H, hq22_0, hp0, e2⟩ (Nat.lt_succ_self _)
    ·
     replace hk18 : ¬ (c17 = 32) := of_decide_eq_false hk18
     rw [if_neg hk18] at e2
     refine SQ ?_
     obtain ⟨b23, hx24, e2⟩ := bnd e2
     refine RG (MV rfl rfl (WR.call H (basic_Letter_ct hx24) rfl trivial (Wn.none rfl) rfl ?_))
     intro v25 M w H hle hR
     replace hp0 := hp0.mono hle
     replace hc10 := hc10.mono hle
     replace hs9 := hs9.mono hle
     obtain rfl := hR
     refine AS rfl rfl (NL (TN ?_))
     refine WC.condB rfl (fun hk25 => ?_) (fun hk25 => ?_)
     ·
      subst hk25
      rw [if_pos rfl] at e2
      obtain ⟨⟨b26, l27⟩, hx28, e2⟩ := bnd e2
      try dsimp only at e2
      refine RG (MV rfl rfl ?_)
      refine WR.callX (A := [.blk b3 (.cells #[v8, v12] 70), RowI 5 encB v12 l11]) (B := []) (H.pick (L' := [.blk b3 (.cells #[v8, v12] 70), RowI 5 encB v12 l11]) (by repeat (first | exact Pick.nil | refine Pick.cons (by repeat first | exact .head | apply Rem.tail) ?_))) (strings_Builder_WriteByte_ct hx28) (.left (.left (Spl.all _))) rfl (hs9) (Wn.none rfl) rfl ?_
      intro v27 M w its H hle hR
      replace hp0 := hp0.mono hle
      replace hc10 := hc10.mono hle
      replace hs9 := hs9.mono hle
      try dsimp only at hR
      obtain ⟨x27_0, q27_0, u27_0, rfl, f27_0, hq27_0, rfl⟩ := hR
      simp only [List.cons_append, List.nil_append] at H
      refine NL (IB (IB (TN ?_)))
      obtain ⟨n29, hxn29, e2⟩ := bnd e2
      refine RG (ST (Ex.addC rfl rfl hxn29) rfl (MV rfl rfl (NL ?_)))
      exact WQ.againP m14 [(3, _), (6, _), (7, _), (8, _)] ⟨rfl, rfl, rfl, rfl, trivial⟩ ⟨_, _, _, _, _, rfl, H, hq27_0, hp0, e2⟩ (Nat.lt_succ_self _)
     ·
      subst hk25
      rw [if_neg Bool.false_ne_true] at e2
      obtain ⟨c30, hx31, e2⟩ := bnd e2
      obtain ⟨c32, hx33, e2⟩ := bnd e2
      obtain ⟨⟨n34, b35, l36⟩, hx37, e2⟩ := bnd e2
      try dsimp only at e2
      refine RG (MV rfl rfl (ST (Ex.shrB (c := c17) (m := 4) rfl rfl (by decide)) rfl (WR.call H (basic_Digit_ct hx31) rfl trivial (Wn.none rfl) rfl ?_)))
      intro v14 M w H hle hR
      replace hp0 := hp0.mono hle
      replace hc10 := hc10.mono hle
      replace hs9 := hs9.mono hle
      obtain rfl := hR
      refine MV rfl rfl (WR.call H (basic_Digit_ct hx33) rfl trivial (Wn.none rfl) rfl ?_)
      intro v16 M w H hle hR
      replace hp0 := hp0.mono hle
      replace hc10 := hc10.mono hle
      replace hs9 := hs9.mono hle
      obtain rfl := hR
      refine WR.lit (enc := encB) xty30 ([61, c30, c32] : List UInt8) H rfl (by rfl) (fun _ => rfl) rfl rfl (Wn.none rfl) rfl ?_
      intro v17 M w H hle hs17
      replace hp0 := hp0.mono hle
      replace hc10 := hc10.mono hle
      replace hs9 := hs9.mono hle
      refine WR.callX (A := [.blk b3 (.cells #[v8, v12] 70), RowI 5 encB v12 l11]) (B := []) (H.pick (L' := [.blk b3 (.cells #[v8, v12] 70), RowI 5 encB v12 l11]) (by repeat (first | exact Pick.nil | refine Pick.cons (by repeat first | exact .head | apply Rem.tail) ?_))) (strings_Builder_Write_ct hx37) (.left (.left (Spl.all _))) rfl ⟨hs9, hs17⟩ (Wn.none rfl) rfl ?_
      intro v18 M w its H hle hR
      replace hp0 := hp0.mono hle
      replace hc10 := hc10.mono hle
      replace hs9 := hs9.mono hle
      replace hs17 := hs17.mono hle
      try dsimp only at hR
      obtain ⟨x18_1, q18_0, u18_0, rfl, f18_1, hq18_0, rfl⟩ := hR
      simp only [List.cons_append, List.nil_append] at H
      refine NL (IB (IB (TN ?_)))
      obtain ⟨n38, hxn38, e2⟩ := bnd e2
      refine RG (ST (Ex.addC rfl rfl hxn38) rfl (MV rfl rfl (NL ?_)))
      exact WQ.againP m14 [(3, _), (6, _), (7, _), (8, _)] ⟨rfl, rfl, rfl, rfl, trivial⟩ ⟨_, _, _, _, _, rfl, H, hq18_0, hp0, e2⟩ (Nat.lt_succ_self _)
   ·
    replace hk16 : ¬ (n13 < (p0.length : Int)) := of_decide_eq_false hk16
    rw [if_neg hk16] at e2
    refine WC.exit (WQ.thenExit (WQ.thenExit (WQ.exitHere ?_)))
    exact WQ.meetN [(3, _)] ⟨rfl, trivial⟩ ⟨_, _, _, _, rfl, H, hs9, e2⟩
  ·
   rintro e w ⟨v3, l6, v7, M, rfl, H, hs4, q39⟩
   obtain rfl := Option.some.inj q39
   refine TN (SQ ?_)
   obtain ⟨s40, hx41, h⟩ := bnd h
   refine RG ?_
   refine WR.callX (A := [.blk b3 (.cells #[v3, v7] 70), RowI 5 encB v7 l6]) (B := []) (H.pick (L' := [.blk b3 (.cells #[v3, v7] 70), RowI 5 encB v7 l6]) (by repeat (first | exact Pick.nil | refine Pick.cons (by repeat first | exact .head | apply Rem.tail) ?_))) (strings_Builder_String_ct hx41) (.left (.left (Spl.all _))) rfl (hs4) (Wn.none rfl) rfl ?_
   intro v29 M w its H hle hR
   replace hs4 := hs4.mono hle
   obtain ⟨rfl, rfl⟩ := hR
   simp only [List.cons_append, List.nil_append] at H
   refine AS rfl rfl (NL (TN (RT ?_)))
   obtain rfl := Option.some.inj h
   exact WQ.ret1 rfl rfl H.ext rfl
theorem words_word_ct {p0 : List UInt8} {p1 : List UInt8} {r : List UInt8} (h : words_word p0 p1 = some r) : Ct Tryz.prog 43 [S p0, S p1] (fun M => GlF (fun w => ∃ m, w.cell? ⟨2, 0, none⟩ = some (.int .i64 m)) M ∧ Tabs M) (fun v M => v = S r) := by
  refine Ct.of Tryz.func43 (enters Tryz.func43 (by kernel_rfl) rfl) rfl rfl rfl ?_
  intro w0 M0 H hp
  obtain ⟨hg_maxl, hg_tabs⟩ := hp
  unfold words_word at h
  refine SQ (RG (AS rfl rfl (NL (TN (SQ ?_)))))
  obtain ⟨⟨l1, ⟨n2, n3⟩⟩, hx4, h⟩ := bnd h
  try dsimp only at h
  refine RG (MV rfl rfl (MV rfl rfl (WR.call H (charset_Encode_ct hx4) rfl (hg_tabs) (Wn.none rfl) rfl ?_)))
  intro v10 M w H hle hR
  replace hg_maxl := hg_maxl.mono hle
  replace hg_tabs := hg_tabs.mono hle
  try dsimp only at hR
  obtain ⟨x10_0, rfl, f10_0⟩ := hR
  refine MV rfl rfl (ST (Ex.extract rfl rfl) rfl (ST (Ex.extract rfl rfl) rfl (WR.alloc [_, _] H Tryz.zeroValue24 rfl (Wn.none rfl) rfl ?_)))
  intro b6 w H
  refine AS rfl rfl (WR.store [_, _] H rfl rfl rfl (by repeat first | exact .head | apply Upd.tail) Tryz.sizeOf24 rfl (by rfl) (by rfl) (Wn.none rfl) ?_)
  intro w H
  refine NL (TN (SQ (SQ (RG (MV rfl rfl (ST (Ex.strEql rfl rfl) rfl (NL (TN ?_))))))))
  refine WC.condB rfl (fun hk5 => ?_) (fun hk5 => ?_)
  ·
   replace hk5 : p0 = [117, 116, 102, 56] := of_decide_eq_true hk5
   rw [if_pos hk5] at h
   refine SQ ?_
   obtain ⟨s6, hxs6, h⟩ := bnd h
   obtain ⟨s7, hxs7, h⟩ := bnd h
   obtain ⟨s8, hx9, h⟩ := bnd h
   obtain ⟨s10, hxs10, h⟩ := bnd h
   obtain ⟨s11, hxs11, h⟩ := bnd h
   refine RG (MV rfl rfl (ST (Ex.strAddC rfl rfl hxs6) rfl (ST (Ex.strAddC rfl rfl hxs7) rfl (MV rfl rfl (WR.call H (words_flat_ct hx9) rfl ⟨hg_maxl, f10_0⟩ (Wn.none rfl) rfl ?_)))))
   intro v19 M w H hle hR
   replace hg_maxl := hg_maxl.mono hle
   replace hg_tabs := hg_tabs.mono hle
   replace f10_0 := f10_0.mono hle
   obtain rfl := hR
   refine ST (Ex.strAddC rfl rfl hxs10) rfl (ST (Ex.strAddC rfl rfl hxs11) rfl (AS rfl rfl (NL (TN (RT ?_)))))
   obtain rfl := Option.some.inj h
   exact WQ.ret1 rfl rfl H.ext rfl
  ·
   replace hk5 : ¬ (p0 = [117, 116, 102, 56]) := of_decide_eq_false hk5
   rw [if_neg hk5] at h
   refine SK (TN (SQ ?_))
   obtain ⟨s12, hxs12, h⟩ := bnd h
   obtain ⟨s13, hxs13, h⟩ := bnd h
   obtain ⟨s14, hx15, h⟩ := bnd h
   obtain ⟨s16, hxs16, h⟩ := bnd h
   obtain ⟨s17, hxs17, h⟩ := bnd h
   refine RG (MV rfl rfl (ST (Ex.strAddC rfl rfl hxs12) rfl (ST (Ex.strAddC rfl rfl hxs13) rfl (MV rfl rfl (WR.call H (words_data_ct hx15) rfl (f10_0) (Wn.none rfl) rfl ?_)))))
   intro v26 M w H hle hR
   replace hg_maxl := hg_maxl.mono hle
   replace hg_tabs := hg_tabs.mono hle
   replace f10_0 := f10_0.mono hle
   obtain rfl := hR
   refine ST (Ex.strAddC rfl rfl hxs16) rfl (ST (Ex.strAddC rfl rfl hxs17) rfl (AS rfl rfl (NL (TN (RT ?_)))))
   obtain rfl := Option.some.inj h
   exact WQ.ret1 rfl rfl H.ext rfl
theorem words_units_1_ct {p1 : List UInt8} {p2 : List UInt8} {bp1 : Nat} {bp2 : Nat} : ItS Tryz.prog 82 [ptr bp1 0, ptr bp2 0] [] (fun M => GlF (fun w => ∃ m, w.cell? ⟨2, 0, none⟩ = some (.int .i64 m)) M ∧ Tabs M ∧ PtM M bp1 (.cells #[S p1] 9) ∧ PtM M bp2 (.cells #[S p2] 9)) encS (words_units_1 p1 p2) := by
  refine ItS.of Tryz.func82 (enters Tryz.func82 (by kernel_rfl) rfl) rfl rfl rfl ?_
  intro lid σ Y Z C hY s0 r L0 w0 M0 h hzz H hp
  simp only [List.cons_append, List.nil_append] at H
  obtain ⟨hg_maxl, hg_tabs, hp1, hp2⟩ := hp
  unfold words_units_1 at h
  refine SQ ?_
  obtain ⟨l1, hx2, h⟩ := bnd h
  refine RG (ST (Ex.loadM H rfl (hp1.cell (j := 0) rfl) Tryz.isAgg9) rfl (WR.call H (grapheme_Split_ct hx2) rfl (hg_tabs) (Wn.none rfl) rfl ?_))
  intro v9 M w H hle hR
  replace hg_maxl := hg_maxl.mono hle
  replace hg_tabs := hg_tabs.mono hle
  replace hzz := hzz.mono hle
  replace hp1 := hp1.mono hle
  replace hp2 := hp2.mono hle
  have f9_0 := hR
  refine ST (Ex.lenSl Tryz.underlying43 f9_0 rfl) rfl (MV rfl rfl (NL (TN ?_)))
  obtain ⟨o3, e4, h⟩ := bnd h
  refine WC.cutX (fun e w => ∃ (s5 : σ) (Lc : List Ph.Item) (M : Mem), e = [] ∧ StX C w0 M0 M (Lc) w ∧ GlF (fun w => ∃ m, w.cell? ⟨2, 0, none⟩ = some (.int .i64 m)) M ∧ Tabs M ∧ ZH Z s5 Lc M ∧ some (.inl s5) = some o3) [] ?_ ?_ (trivial)
  ·
   refine BL (WC.loopP (fun m e w => ∃ (n6 : Int) (s7 : σ) (Lc : List Ph.Item) (M : Mem), e = [(0, (yv lid)), (2, ptr bp2 0), (9, v9), (10, I (l1.length : Int)), (11, I n6)] ∧ StX C w0 M0 M (Lc) w ∧ GlF (fun w => ∃ m, w.cell? ⟨2, 0, none⟩ = some (.int .i64 m)) M ∧ Tabs M ∧ PtM M bp2 (.cells #[S p2] 9) ∧ Sl M encS v9 l1 ∧ ZH Z s7 Lc M ∧ words_units_1_L1 Y p2 l1 m n6 s7 = some o3) FU [(0, _), (2, _), (9, _), (10, _), (11, _)] ⟨rfl, rfl, rfl, rfl, rfl, trivial⟩ ⟨_, _, _, _, rfl, H, hg_maxl, hg_tabs, hp2, f9_0, hzz, e4⟩ ?_)
   rintro m8 e w ⟨n6, s7, Lc, M, rfl, H, hg_maxl, hg_tabs, hp2, f9_0, hzz, e4⟩
   rcases m8 with _ | m8
   · rw [words_units_1_L1] at e4; cases e4
   rw [words_units_1_L1] at e4
   refine SQ (RG (ST (Ex.lss rfl rfl) rfl (NL (TN (SQ ?_)))))
   refine WC.condB rfl (fun hk9 => ?_) (fun hk9 => ?_)
   ·
    replace hk9 : n6 < (l1.length : Int) := of_decide_eq_true hk9
    rw [if_pos hk9] at e4
    refine SK (TN (SQ (BL (SQ ?_))))
    obtain ⟨a10, hxa10, e4⟩ := bnd e4
    obtain ⟨b13, o13, ha13, hc13⟩ := f9_0.atC hxa10
    refine RG (ST (Ex.idxAt ha13 Tryz.underlying43 Tryz.sizeOf9 rfl rfl) rfl (ST (Ex.loadM H rfl hc13 Tryz.isAgg9) rfl (AS rfl rfl (NL (TN (SQ (SQ ?_)))))))
    obtain ⟨s11, hx12, e4⟩ := bnd e4
    refine RG (ST (Ex.loadM H rfl (hp2.cell (j := 0) rfl) Tryz.isAgg9) rfl (MV rfl rfl (WR.call H (words_word_ct hx12) rfl ⟨hg_maxl, hg_tabs⟩ (Wn.none rfl) rfl ?_)))
    intro v17 M w H hle hR
    replace hg_maxl := hg_maxl.mono hle
    replace hg_tabs := hg_tabs.mono hle
    replace hzz := hzz.mono hle
    replace f9_0 := f9_0.mono hle
    replace hc13 := hc13.mono hle
    replace hp2 := hp2.mono hle
    obtain rfl := hR
    refine ST (Ex.lenStr Tryz.underlying9 rfl) rfl (ST (Ex.leq rfl rfl) rfl (NL (TN ?_)))
    refine WC.condB rfl (fun hk13 => ?_) (fun hk13 => ?_)
    ·
     replace hk13 : (s11.length : Int) ≤ (75 : Int) := of_decide_eq_true hk13
     rw [if_pos hk13] at e4
     refine SQ (SQ ?_)
     obtain ⟨⟨s14, b15⟩, hx16, e4⟩ := bnd e4
     try dsimp only at e4
     refine RG (MV rfl rfl (MV rfl rfl (WR.yieldS H (Spl.whole _) hY hzz hx16 rfl rfl (Wn.none rfl) rfl ?_)))
     intro w M Lc H hle hzz
     simp only [List.cons_append, List.nil_append] at H
     replace hg_maxl := hg_maxl.mono hle
     replace hg_tabs := hg_tabs.mono hle
     replace f9_0 := f9_0.mono hle
     replace hc13 := hc13.mono hle
     replace hp2 := hp2.mono hle
     refine ST (Ex.not rfl) rfl (NL (TN ?_))
     refine WC.condB rfl (fun hk17 => ?_) (fun hk17 => ?_)
     ·
      replace hk17 : b15 = false := by simpa using hk17
      subst hk17
      rw [if_neg Bool.false_ne_true] at e4
      refine RT ?_
      obtain rfl := Option.some.inj e4
      try dsimp only at h
      obtain rfl := Option.some.inj h
      exact WQ.retZ rfl H (by repeat (first | exact List.Sublist.refl _ | apply List.Sublist.cons)) hzz rfl
     ·
      replace hk17 : b15 = true := by simpa using hk17
      subst hk17
      rw [if_pos rfl] at e4
      refine SK (TN (WC.exit (WQ.thenExit (WQ.exitHere (TN ?_)))))
      obtain ⟨n18, hxn18, e4⟩ := bnd e4
      refine RG (ST (Ex.addC rfl rfl hxn18) rfl (MV rfl rfl (NL ?_)))
      exact WQ.againP m8 [(0, _), (2, _), (9, _), (10, _), (11, _)] ⟨rfl, rfl, rfl, rfl, rfl, trivial⟩ ⟨_, _, _, _, rfl, H, hg_maxl, hg_tabs, hp2, f9_0, hzz, e4⟩ (Nat.lt_succ_self _)
    ·
     replace hk13 : ¬ ((s11.length : Int) ≤ (75 : Int)) := of_decide_eq_false hk13
     rw [if_neg hk13] at e4
     refine SK (TN (SQ (RG (MV rfl rfl (WR.rangeStr H Tryz.underlying9 rfl (Wn.none rfl) rfl ?_)))))
     intro b25 w H
     refine NL (TN ?_)
     obtain ⟨o19, e20, e4⟩ := bnd e4
     refine WC.cutX (fun e w => ∃ (s21 : σ) (Lc : List Ph.Item) (M : Mem), e = [(0, (yv lid)), (2, ptr bp2 0), (9, v9), (10, I (l1.length : Int)), (11, I n6)] ∧ StX C w0 M0 M (Lc) w ∧ GlF (fun w => ∃ m, w.cell? ⟨2, 0, none⟩ = some (.int .i64 m)) M ∧ Tabs M ∧ PtM M bp2 (.cells #[S p2] 9) ∧ Sl M encS v9 l1 ∧ ZH Z s21 Lc M ∧ some (.inl s21) = some o19) [] ?_ ?_ (trivial)
     ·
      refine BL (WC.loopP (fun m e w => ∃ (ps22 : Nat) (s23 : σ) (Lc : List Ph.Item) (M : Mem), e = [(0, (yv lid)), (2, ptr bp2 0), (9, v9), (10, I (l1.length : Int)), (11, I n6), (25, ptr b25 0)] ∧ StX C w0 M0 M (.blk b25 (.stringIter ⟨((a10) : List UInt8).toArray⟩ ps22) :: Lc) w ∧ GlF (fun w => ∃ m, w.cell? ⟨2, 0, none⟩ = some (.int .i64 m)) M ∧ Tabs M ∧ PtM M bp2 (.cells #[S p2] 9) ∧ Sl M encS v9 l1 ∧ ZH Z s23 Lc M ∧ words_units_1_L2 Y a10 m ps22 s23 = some o19) FU [(0, _), (2, _), (9, _), (10, _), (11, _), (25, _)] ⟨rfl, rfl, rfl, rfl, rfl, rfl, trivial⟩ ⟨_, _, _, _, rfl, H, hg_maxl, hg_tabs, hp2, f9_0, hzz, e20⟩ ?_)
      rintro m24 e w ⟨ps22, s23, Lc, M, rfl, H, hg_maxl, hg_tabs, hp2, f9_0, hzz, e20⟩
      rcases m24 with _ | m24
      · rw [words_units_1_L2] at e20; cases e20
      rw [words_units_1_L2] at e20
      refine SQ ?_
      by_cases hk25 : ps22 < a10.length
      ·
       rw [if_pos hk25] at e20
       refine RG (WR.nextT H hk25 rfl (by repeat first | exact .head | apply Upd.tail) (Wn.none rfl) rfl ?_)
       intro w H
       refine ST (Ex.extract rfl rfl) rfl (NL (TN (SQ (CT rfl (SK (TN (BL (SQ (RG (ST (Ex.extract rfl rfl) rfl (AS rfl rfl (NL (TN (SQ ?_))))))))))))))
       obtain ⟨⟨s26, b27⟩, hx28, e20⟩ := bnd e20
       try dsimp only at e20
       refine RG (MV rfl rfl (MV rfl rfl (ST (Ex.runeStr Tryz.underlying21 Tryz.underlying9 rfl) rfl (WR.yieldS H (.right (Spl.whole _)) hY hzz hx28 rfl rfl (Wn.none rfl) rfl ?_))))
       intro w M Lc H hle hzz
       simp only [List.cons_append, List.nil_append] at H
       replace hg_maxl := hg_maxl.mono hle
       replace hg_tabs := hg_tabs.mono hle
       replace f9_0 := f9_0.mono hle
       replace hp2 := hp2.mono hle
       refine ST (Ex.not rfl) rfl (NL (TN ?_))
       refine WC.condB rfl (fun hk29 => ?_) (fun hk29 => ?_)
       ·
        replace hk29 : b27 = false := by simpa using hk29
        subst hk29
        rw [if_neg Bool.false_ne_true] at e20
        refine RT ?_
        obtain rfl := Option.some.inj e20
        try dsimp only at e4
        obtain rfl := Option.some.inj e4
        try dsimp only at h
        obtain rfl := Option.some.inj h
        exact WQ.retZ rfl H (by repeat (first | exact List.Sublist.refl _ | apply List.Sublist.cons)) hzz rfl
       ·
        replace hk29 : b27 = true := by simpa using hk29
        subst hk29
        rw [if_pos rfl] at e20
        refine SK (IB ?_)
        exact WQ.againP m24 [(0, _), (2, _), (9, _), (10, _), (11, _), (25, _)] ⟨rfl, rfl, rfl, rfl, rfl, rfl, trivial⟩ ⟨_, _, _, _, rfl, H, hg_maxl, hg_tabs, hp2, f9_0, hzz, e20⟩ (Nat.lt_succ_self _)
      ·
       rw [if_neg hk25] at e20
       refine RG (WR.nextF H (Nat.le_of_not_lt hk25) rfl (by repeat (first | exact List.Mem.head _ | apply List.Mem.tail)) (Wn.none rfl) rfl ?_)
       refine ST (Ex.extract rfl rfl) rfl (NL (TN (SQ (CF rfl (WC.exit (WQ.thenExit (WQ.thenExit (WQ.exitHere ?_))))))))
       exact WQ.meetN [(0, _), (2, _), (9, _), (10, _), (11, _)] ⟨rfl, rfl, rfl, rfl, rfl, trivial⟩ ⟨_, _, _, rfl, (H.pick (L' := (Lc)) (by repeat (first | exact Pick.ofSub (by repeat (first | exact List.Sublist.refl _ | apply List.Sublist.cons)) | refine Pick.cons (by repeat first | exact .head | apply Rem.tail) ?_))), hg_maxl, hg_tabs, hp2, f9_0, hzz, e20⟩
     ·
      rintro e w ⟨s21, Lc, M, rfl, H, hg_maxl, hg_tabs, hp2, f9_0, hzz, q30⟩
      obtain rfl := Option.some.inj q30
      try dsimp only at e4
      refine IB (TN ?_)
      obtain ⟨n31, hxn31, e4⟩ := bnd e4
      refine RG (ST (Ex.addC rfl rfl hxn31) rfl (MV rfl rfl (NL ?_)))
      exact WQ.againP m8 [(0, _), (2, _), (9, _), (10, _), (11, _)] ⟨rfl, rfl, rfl, rfl, rfl, trivial⟩ ⟨_, _, _, _, rfl, H, hg_maxl, hg_tabs, hp2, f9_0, hzz, e4⟩ (Nat.lt_succ_self _)
   ·
    replace hk9 : ¬ (n6 < (l1.length : Int)) := of_decide_eq_false hk9
    rw [if_neg hk9] at e4
    refine WC.exit (WQ.thenExit (WQ.thenExit (WQ.exitHere ?_)))
    exact WQ.meetN [] trivial ⟨_, _, _, rfl, H, hg_maxl, hg_tabs, hzz, e4⟩
  ·
   rintro e w ⟨s5, Lc, M, rfl, H, hg_maxl, hg_tabs, hzz, q34⟩
   obtain rfl := Option.some.inj q34
   try dsimp only at h
   obtain rfl := Option.some.inj h
   exact WQ.endZ rfl H (by repeat (first | exact List.Sublist.refl _ | apply List.Sublist.cons)) hzz rfl
set_option maxHeartbeats 4000000 in
theorem words_Encode_ct {p0 : List UInt8} {r : (List UInt8 × (Int × Int))} (h : words_Encode p0 = some r) : Ct Tryz.prog 13 [S p0] (fun M => GlF (fun w => ∃ m, w.cell? ⟨2, 0, none⟩ = some (.int .i64 m)) M ∧ Tabs M) (fun v M => v = Value.tuple #[S r.1, Value.agg #[I r.2.1, I r.2.2]]) := by
  refine Ct.ofM Tryz.func13 (enters Tryz.func13 (by kernel_rfl) rfl) rfl rfl rfl ?_
  intro w0 M0 H hp
  obtain ⟨hg_maxl, hg_tabs⟩ := hp
  unfold words_Encode at h
  refine SQ (RG (AS rfl rfl (WR.alloc [_, _] H Tryz.zeroValue24 rfl (Wn.none rfl) rfl ?_)))
  intro b3 w H
  refine NL (TN (SQ (SQ (RG (MV rfl rfl (ST (Ex.lenStr Tryz.underlying9 rfl) rfl (ST (Ex.gtr rfl rfl) rfl (NL (TN ?_)))))))))
  refine WC.condB rfl (fun hk1 => ?_) (fun hk1 => ?_)
  ·
   replace hk1 : (1000 : Int) < (p0.length : Int) := of_decide_eq_true hk1
   rw [if_pos hk1] at h
   refine SQ ?_
   obtain ⟨⟨n2, n3⟩, hx4, h⟩ := bnd h
   try dsimp only at h
   refine RG (WR.call H (basic_Fault_ct hx4) rfl trivial (Wn.none rfl) rfl ?_)
   intro v11 M w H hle hR
   replace hg_maxl := hg_maxl.mono hle
   replace hg_tabs := hg_tabs.mono hle
   try dsimp only at hR
   obtain rfl := hR
   refine AS rfl rfl (WR.store [_, _] H rfl rfl rfl (by repeat first | exact .head | apply Upd.tail) Tryz.sizeOf24 rfl (by rfl) (by rfl) (Wn.none rfl) ?_)
   intro w H
   refine NL (TN (RT ?_))
   obtain rfl := Option.some.inj h
   exact WQ.mret2 rfl rfl ⟨_, rfl, H.loadAgg (by repeat (first | exact List.Mem.head _ | apply List.Mem.tail)) Tryz.isAgg24 Tryz.sizeOf24 (by rfl)⟩ H.ext rfl
  ·
   replace hk1 : ¬ ((1000 : Int) < (p0.length : Int)) := of_decide_eq_false hk1
   rw [if_neg hk1] at h
   refine SK (TN (SQ (SQ ?_)))
   obtain ⟨b5, hx6, h⟩ := bnd h
   refine RG (MV rfl rfl (WR.call H (utf8_ValidString_ct hx6) rfl (hg_tabs) (Wn.none rfl) rfl ?_))
   intro v13 M w H hle hR
   replace hg_maxl := hg_maxl.mono hle
   replace hg_tabs := hg_tabs.mono hle
   obtain rfl := hR
   refine ST (Ex.not rfl) rfl (NL (TN ?_))
   refine WC.condB rfl (fun hk7 => ?_) (fun hk7 => ?_)
   ·
    replace hk7 : b5 = false := by simpa using hk7
    subst hk7
    rw [if_neg Bool.false_ne_true] at h
    refine SQ ?_
    obtain ⟨⟨n8, n9⟩, hx10, h⟩ := bnd h
    try dsimp only at h
    refine RG (WR.call H (basic_Fault_ct hx10) rfl trivial (Wn.none rfl) rfl ?_)
    intro v15 M w H hle hR
    replace hg_maxl := hg_maxl.mono hle
    replace hg_tabs := hg_tabs.mono hle
    try dsimp only at hR
    obtain rfl := hR
    refine AS rfl rfl (WR.store [_, _] H rfl rfl rfl (by repeat first | exact .head | apply Upd.tail) Tryz.sizeOf24 rfl (by rfl) (by rfl) (Wn.none rfl) ?_)
    intro w H
    refine NL (TN (RT ?_))
    obtain rfl := Option.some.inj h
    exact WQ.mret2 rfl rfl ⟨_, rfl, H.loadAgg (by repeat (first | exact List.Mem.head _ | apply List.Mem.tail)) Tryz.isAgg24 Tryz.sizeOf24 (by rfl)⟩ H.ext rfl
   ·
    replace hk7 : b5 = true := by simpa using hk7
    subst hk7
    rw [if_pos rfl] at h
    refine SK (TN (SQ (SQ ?_)))
    obtain ⟨b11, hx12, h⟩ := bnd h
    refine RG (MV rfl rfl (WR.call H (words_plain_ct hx12) rfl (hg_maxl) (Wn.none rfl) rfl ?_))
    intro v17 M w H hle hR
    replace hg_maxl := hg_maxl.mono hle
    replace hg_tabs := hg_tabs.mono hle
    obtain rfl := hR
    refine NL (TN ?_)
    refine WC.condB rfl (fun hk13 => ?_) (fun hk13 => ?_)
    ·
     subst hk13
     rw [if_pos rfl] at h
     refine SQ ?_
     obtain ⟨⟨n14, n15⟩, hx16, h⟩ := bnd h
     try dsimp only at h
     refine RG (MV rfl rfl (WR.call H (basic_None_ct hx16) rfl trivial (Wn.none rfl) rfl ?_))
     intro v19 M w H hle hR
     replace hg_maxl := hg_maxl.mono hle
     replace hg_tabs := hg_tabs.mono hle
     try dsimp only at hR
     obtain rfl := hR
     refine AS rfl rfl (WR.store [_, _] H rfl rfl rfl (by repeat first | exact .head | apply Upd.tail) Tryz.sizeOf24 rfl (by rfl) (by rfl) (Wn.none rfl) ?_)
     intro w H
     refine NL (TN (RT ?_))
     obtain rfl := Option.some.inj h
     exact WQ.mret2 rfl rfl ⟨_, rfl, H.loadAgg (by repeat (first | exact List.Mem.head _ | apply List.Mem.tail)) Tryz.isAgg24 Tryz.sizeOf24 (by rfl)⟩ H.ext rfl
    ·
     subst hk13
     rw [if_neg Bool.false_ne_true] at h
     refine SK (TN (SQ ?_))
     obtain ⟨s17, hx18, h⟩ := bnd h
     refine RG (MV rfl rfl (WR.call H (charset_Best_ct hx18) rfl trivial (Wn.none rfl) rfl ?_))
     intro v21 M w H hle hR
     replace hg_maxl := hg_maxl.mono hle
     replace hg_tabs := hg_tabs.mono hle
     obtain rfl := hR
     refine WR.alloc [_] H Tryz.zeroValue9 rfl (Wn.none rfl) rfl ?_
     intro b4 w H
     refine WR.store [_] H rfl rfl rfl (by repeat first | exact .head | apply Upd.tail) Tryz.sizeOf9 rfl (by rfl) (by rfl) (Wn.none rfl) ?_
     intro w H
     refine NL (TN (SQ (RG (WR.alloc [_] H Tryz.zeroValue43 rfl (Wn.none rfl) rfl ?_))))
     intro b5 w H
     refine NL (TN (SQ (RG (WR.alloc [_] H Tryz.zeroValue9 rfl (Wn.none rfl) rfl ?_))))
     intro b6 w H
     refine WR.store [_] H rfl rfl rfl (by repeat first | exact .head | apply Upd.tail) Tryz.sizeOf9 rfl (by rfl) (by rfl) (Wn.none rfl) ?_
     intro w H
     refine NL (TN (SQ (SQ ?_)))
     obtain ⟨⟨z19, z21⟩, hx23, h⟩ := bnd h
     try dsimp only at h
     refine RG (ST (Ex.load1 H rfl (by repeat (first | exact List.Mem.head _ | apply List.Mem.tail)) Tryz.isAgg9 (by rfl)) rfl ?_)
     refine MV rfl rfl (WR.call H (words_units_ct hx23) rfl trivial (Wn.none rfl) rfl ?_)
     intro v24 M w H hle hR
     replace hg_maxl := hg_maxl.mono hle
     replace hg_tabs := hg_tabs.mono hle
     try dsimp only at hR
     obtain ⟨b24_0_0, b24_0_1, rfl, f24_0_0, f24_0_1⟩ := hR
     refine NL (TN (BL ?_))
     replace H := H.newRow 9 encS
     obtain ⟨o30, e31, h⟩ := bnd h
     refine WC.rangeS (A := []) (L := [.blk b3 (.cells #[I 0, I 0] 24), .blk b4 (.cells #[S s17] 9), .blk b5 (.cells #[(Value.slice none 0 0)] 43), RowI 9 encS (Value.slice none 0 0) [], .blk b6 (.cells #[S []] 9)]) (B := []) (H.pick (L' := [.blk b3 (.cells #[I 0, I 0] 24), .blk b4 (.cells #[S s17] 9), .blk b5 (.cells #[(Value.slice none 0 0)] 43), RowI 9 encS (Value.slice none 0 0) [], .blk b6 (.cells #[S []] 9)]) (by repeat (first | exact Pick.nil | refine Pick.cons (by repeat first | exact .head | apply Rem.tail) ?_))) rfl words_units_1_ct (.left (.left (.left (.left (.left (Spl.all _)))))) ⟨hg_maxl, hg_tabs, f24_0_0, f24_0_1⟩ rfl (fun s L M => ∃ (l25 : List (List UInt8)) (v26 : Value) (s27 : List UInt8), s = (l25, s27) ∧ L = [.blk b3 (.cells #[I 0, I 0] 24), .blk b4 (.cells #[S s17] 9), .blk b5 (.cells #[v26] 43), RowI 9 encS v26 l25, .blk b6 (.cells #[S s27] 9)] ∧ GlF (fun w => ∃ m, w.cell? ⟨2, 0, none⟩ = some (.int .i64 m)) M ∧ Tabs M) (fun _ => none) goOn (fun _ => rfl) (words_Encode_Y28 s17) ([], []) o30 e31 (by rintro s L M M' ⟨l25, v26, s27, rfl, rfl, hg_maxl, hg_tabs⟩ hle; exact ⟨_, _, _, rfl, rfl, hg_maxl.mono hle, hg_tabs.mono hle⟩) rfl ⟨_, _, _, rfl, rfl, hg_maxl, hg_tabs⟩ ?_ ?_ ?_
     ·
      rintro lid28 rc28 hrc28 s x32 sx28 L wb28 Mb28 hE e33 ⟨l25, v26, s27, rfl, rfl, hg_maxl, hg_tabs⟩ H
      unfold words_Encode_Y28 at e33
      try dsimp only at e33
      refine RG (AS rfl rfl (NL (WQ.begin hrc28 H (by repeat first | exact .head | apply Upd.tail) ?_)))
      intro w H
      refine BL (SQ (SQ ?_))
      obtain ⟨o34, e35, e33⟩ := bnd e33
      refine WC.cutX (fun e w => ∃ (b36 : Bool) (M : Mem), e = [(3, ptr b3 0), (4, ptr b4 0), (5, ptr b5 0), (6, ptr b6 0), (7, S x32), (36, Value.bool b36)] ∧ StX (feet (.blk lid28 (.loop (rc28 .ready none)) :: [.blk b3 (.cells #[I 0, I 0] 24), .blk b4 (.cells #[S s17] 9), .blk b5 (.cells #[v26] 43), RowI 9 encS v26 l25, .blk b6 (.cells #[S s27] 9)])) wb28 Mb28 M [.blk b3 (.cells #[I 0, I 0] 24), .blk b4 (.cells #[S s17] 9), .blk b5 (.cells #[v26] 43), RowI 9 encS v26 l25, .blk b6 (.cells #[S s27] 9), .blk lid28 (.loop (rc28 .busy none))] w ∧ GlF (fun w => ∃ m, w.cell? ⟨2, 0, none⟩ = some (.int .i64 m)) M ∧ Tabs M ∧ some b36 = some o34) [] ?_ ?_ (trivial)
      ·
       by_cases hk37 : s27 = []
       ·
        rw [if_pos hk37] at e35
        refine RG (ST (Ex.load1 H rfl (by repeat (first | exact List.Mem.head _ | apply List.Mem.tail)) Tryz.isAgg9 (by rfl)) rfl ?_)
        refine WR.stepE (v' := .bool false) (Ex.strNeqC rfl rfl) (congrArg Value.bool (by rw [decide_eq_true hk37]; rfl)) (Wn.none rfl) rfl rfl ?_
        refine MV rfl rfl (WR.skipN 7 rfl rfl (PF rfl rfl rfl (NL ?_)))
        exact WQ.meetN [(3, _), (4, _), (5, _), (6, _), (7, _), (36, _)] ⟨rfl, rfl, rfl, rfl, rfl, rfl, trivial⟩ ⟨_, _, rfl, (H.pick (L' := [.blk b3 (.cells #[I 0, I 0] 24), .blk b4 (.cells #[S s17] 9), .blk b5 (.cells #[v26] 43), RowI 9 encS v26 l25, .blk b6 (.cells #[S s27] 9), .blk lid28 (.loop (rc28 .busy none))]) (by repeat (first | exact Pick.nil | refine Pick.cons (by repeat first | exact .head | apply Rem.tail) ?_))), hg_maxl, hg_tabs, e35⟩
       ·
        rw [if_neg hk37] at e35
        obtain ⟨s38, hxs38, e35⟩ := bnd e35
        obtain ⟨s39, hx40, e35⟩ := bnd e35
        refine RG (ST (Ex.load1 H rfl (by repeat (first | exact List.Mem.head _ | apply List.Mem.tail)) Tryz.isAgg9 (by rfl)) rfl ?_)
        refine WR.stepE (v' := .bool true) (Ex.strNeqC rfl rfl) (congrArg Value.bool (by rw [decide_eq_false hk37]; rfl)) (Wn.none rfl) rfl rfl ?_
        refine MV rfl rfl (SG (Ex.load1 H rfl (by repeat (first | exact List.Mem.head _ | apply List.Mem.tail)) Tryz.isAgg9 (by rfl)) rfl rfl rfl ?_)
        refine SG (Ex.load1 H rfl (by repeat (first | exact List.Mem.head _ | apply List.Mem.tail)) Tryz.isAgg9 (by rfl)) rfl rfl rfl ?_
        refine SG (Ex.move rfl) rfl rfl rfl (SG (Ex.strAddC rfl rfl hxs38) rfl rfl rfl (WR.call H (words_word_ct hx40) rfl ⟨hg_maxl, hg_tabs⟩ (Wn.some rfl rfl rfl) rfl ?_))
        intro v33 M w H hle hR
        replace hg_maxl := hg_maxl.mono hle
        replace hg_tabs := hg_tabs.mono hle
        obtain rfl := hR
        refine SG (Ex.lenStr Tryz.underlying9 rfl) rfl rfl rfl (SG (Ex.gtr rfl rfl) rfl rfl rfl (PT rfl rfl rfl (NL ?_)))
        exact WQ.meetN [(3, _), (4, _), (5, _), (6, _), (7, _), (36, _)] ⟨rfl, rfl, rfl, rfl, rfl, rfl, trivial⟩ ⟨_, _, rfl, (H.pick (L' := [.blk b3 (.cells #[I 0, I 0] 24), .blk b4 (.cells #[S s17] 9), .blk b5 (.cells #[v26] 43), RowI 9 encS v26 l25, .blk b6 (.cells #[S s27] 9), .blk lid28 (.loop (rc28 .busy none))]) (by repeat (first | exact Pick.nil | refine Pick.cons (by repeat first | exact .head | apply Rem.tail) ?_))), hg_maxl, hg_tabs, e35⟩
      ·
       rintro e w ⟨b36, M, rfl, H, hg_maxl, hg_tabs, q41⟩
       obtain rfl := Option.some.inj q41
       refine TN ?_
       refine WC.condB rfl (fun hk42 => ?_) (fun hk42 => ?_)
       ·
        subst hk42
        rw [if_pos rfl] at e33
        refine SQ ?_
        obtain ⟨s43, hx44, e33⟩ := bnd e33
        obtain ⟨l45, hxl45, e33⟩ := bnd e33
        refine WC.cutP (fun e w => ∃ (v46 : Value) (M : Mem), e = [(3, ptr b3 0), (4, ptr b4 0), (5, ptr b5 0), (6, ptr b6 0), (7, S x32)] ∧ StX (feet (.blk lid28 (.loop (rc28 .ready none)) :: [.blk b3 (.cells #[I 0, I 0] 24), .blk b4 (.cells #[S s17] 9), .blk b5 (.cells #[v26] 43), RowI 9 encS v26 l25, .blk b6 (.cells #[S s27] 9)])) wb28 Mb28 M [.blk b3 (.cells #[I 0, I 0] 24), .blk b4 (.cells #[S s17] 9), .blk b5 (.cells #[v46] 43), RowI 9 encS v46 l45, .blk b6 (.cells #[S s27] 9), .blk lid28 (.loop (rc28 .busy none))] w ∧ GlF (fun w => ∃ m, w.cell? ⟨2, 0, none⟩ = some (.int .i64 m)) M ∧ Tabs M) ?_ ?_
        ·
         refine WC.draw (m := 7) rfl rfl H ?_
         intro w H
         refine WA.three (i := 0) (j := 1) (k := 2) (by kernel_rfl) rfl rfl rfl ?_ ?_ ?_
         ·
          refine ST (Ex.load1 H rfl (by repeat (first | exact List.Mem.head _ | apply List.Mem.tail)) Tryz.isAgg43 (by rfl)) rfl ?_
          refine NA ?_
          refine WA.two (i := 1) (j := 2) (by kernel_rfl) rfl rfl ?_ ?_
          ·
           refine ST (Ex.load1 H rfl (by repeat (first | exact List.Mem.head _ | apply List.Mem.tail)) Tryz.isAgg9 (by rfl)) rfl ?_
           refine NA (WA.seq (fuel := 0) [2, 3, 4, 5, 6] rfl (by kernel_rfl) (ST (Ex.load1 H rfl (by repeat (first | exact List.Mem.head _ | apply List.Mem.tail)) Tryz.isAgg9 (by rfl)) rfl ?_))
           refine WR.call H (words_word_ct hx44) rfl ⟨hg_maxl, hg_tabs⟩ (Wn.none rfl) rfl ?_
           intro v40 M w H hle hR
           replace hg_maxl := hg_maxl.mono hle
           replace hg_tabs := hg_tabs.mono hle
           obtain rfl := hR
           refine WR.lit (enc := encS) xty43 ([s43] : List (List UInt8)) H rfl (by rfl) (fun _ => rfl) rfl rfl (Wn.none rfl) rfl ?_
           intro v41 M w H hle hs41
           replace hg_maxl := hg_maxl.mono hle
           replace hg_tabs := hg_tabs.mono hle
           refine WR.appC (l := l25) xty43 rfl (fun _ => rfl) H rfl (fun _ => by repeat first | exact .head | apply Upd.tail) rfl (hs41) hxl45 (Wn.none rfl) rfl ?_
           intro v42 w H
           refine WR.putV [_] H rfl rfl (H.rowOne (by repeat (first | exact List.Mem.head _ | apply List.Mem.tail))) (by repeat first | exact .head | apply Upd.tail) (by rfl) Tryz.sizeOf43 (by first | decide | (simp; done) | (simp; omega)) (Wn.none rfl) ?_
           intro w H
           refine NA (WA.done (by kernel_rfl) ?_)
           exact WQ.meetP [(3, _), (4, _), (5, _), (6, _), (7, _)] ⟨rfl, rfl, rfl, rfl, rfl, trivial⟩ ⟨_, _, rfl, H, hg_maxl, hg_tabs⟩
          ·
           refine ST (Ex.load1 H rfl (by repeat (first | exact List.Mem.head _ | apply List.Mem.tail)) Tryz.isAgg9 (by rfl)) rfl ?_
           refine NA (WA.seq (fuel := 0) [1, 3, 4, 5, 6] rfl (by kernel_rfl) (ST (Ex.load1 H rfl (by repeat (first | exact List.Mem.head _ | apply List.Mem.tail)) Tryz.isAgg9 (by rfl)) rfl ?_))
           refine WR.call H (words_word_ct hx44) rfl ⟨hg_maxl, hg_tabs⟩ (Wn.none rfl) rfl ?_
           intro v40 M w H hle hR
           replace hg_maxl := hg_maxl.mono hle
           replace hg_tabs := hg_tabs.mono hle
           obtain rfl := hR
           refine WR.lit (enc := encS) xty43 ([s43] : List (List UInt8)) H rfl (by rfl) (fun _ => rfl) rfl rfl (Wn.none rfl) rfl ?_
           intro v41 M w H hle hs41
           replace hg_maxl := hg_maxl.mono hle
           replace hg_tabs := hg_tabs.mono hle
           refine WR.appC (l := l25) xty43 rfl (fun _ => rfl) H rfl (fun _ => by repeat first | exact .head | apply Upd.tail) rfl (hs41) hxl45 (Wn.none rfl) rfl ?_
           intro v42 w H
           refine WR.putV [_] H rfl rfl (H.rowOne (by repeat (first | exact List.Mem.head _ | apply List.Mem.tail))) (by repeat first | exact .head | apply Upd.tail) (by rfl) Tryz.sizeOf43 (by first | decide | (simp; done) | (simp; omega)) (Wn.none rfl) ?_
           intro w H
           refine NA (WA.done (by kernel_rfl) ?_)
           exact WQ.meetP [(3, _), (4, _), (5, _), (6, _), (7, _)] ⟨rfl, rfl, rfl, rfl, rfl, trivial⟩ ⟨_, _, rfl, H, hg_maxl, hg_tabs⟩
         ·
          refine ST (Ex.load1 H rfl (by repeat (first | exact List.Mem.head _ | apply List.Mem.tail)) Tryz.isAgg9 (by rfl)) rfl ?_
          refine NA ?_
          refine WA.two (i := 0) (j := 2) (by kernel_rfl) rfl rfl ?_ ?_
          ·
           refine ST (Ex.load1 H rfl (by repeat (first | exact List.Mem.head _ | apply List.Mem.tail)) Tryz.isAgg43 (by rfl)) rfl ?_
           refine NA (WA.seq (fuel := 0) [2, 3, 4, 5, 6] rfl (by kernel_rfl) (ST (Ex.load1 H rfl (by repeat (first | exact List.Mem.head _ | apply List.Mem.tail)) Tryz.isAgg9 (by rfl)) rfl ?_))
           refine WR.call H (words_word_ct hx44) rfl ⟨hg_maxl, hg_tabs⟩ (Wn.none rfl) rfl ?_
           intro v40 M w H hle hR
           replace hg_maxl := hg_maxl.mono hle
           replace hg_tabs := hg_tabs.mono hle
           obtain rfl := hR
           refine WR.lit (enc := encS) xty43 ([s43] : List (List UInt8)) H rfl (by rfl) (fun _ => rfl) rfl rfl (Wn.none rfl) rfl ?_
           intro v41 M w H hle hs41
           replace hg_maxl := hg_maxl.mono hle
           replace hg_tabs := hg_tabs.mono hle
           refine WR.appC (l := l25) xty43 rfl (fun _ => rfl) H rfl (fun _ => by repeat first | exact .head | apply Upd.tail) rfl (hs41) hxl45 (Wn.none rfl) rfl ?_
           intro v42 w H
           refine WR.putV [_] H rfl rfl (H.rowOne (by repeat (first | exact List.Mem.head _ | apply List.Mem.tail))) (by repeat first | exact .head | apply Upd.tail) (by rfl) Tryz.sizeOf43 (by first | decide | (simp; done) | (simp; omega)) (Wn.none rfl) ?_
           intro w H
           refine NA (WA.done (by kernel_rfl) ?_)
           exact WQ.meetP [(3, _), (4, _), (5, _), (6, _), (7, _)] ⟨rfl, rfl, rfl, rfl, rfl, trivial⟩ ⟨_, _, rfl, H, hg_maxl, hg_tabs⟩
          ·
           refine ST (Ex.load1 H rfl (by repeat (first | exact List.Mem.head _ | apply List.Mem.tail)) Tryz.isAgg9 (by rfl)) rfl ?_
           refine NA ?_
           refine WA.two (i := 0) (j := 3) (by kernel_rfl) rfl rfl ?_ ?_
           ·
            refine ST (Ex.load1 H rfl (by repeat (first | exact List.Mem.head _ | apply List.Mem.tail)) Tryz.isAgg43 (by rfl)) rfl ?_
            refine NA (WA.seq (fuel := 0) [3, 4, 5, 6] rfl (by kernel_rfl) (WR.call H (words_word_ct hx44) rfl ⟨hg_maxl, hg_tabs⟩ (Wn.none rfl) rfl ?_))
            intro v40 M w H hle hR
            replace hg_maxl := hg_maxl.mono hle
            replace hg_tabs := hg_tabs.mono hle
            obtain rfl := hR
            refine WR.lit (enc := encS) xty43 ([s43] : List (List UInt8)) H rfl (by rfl) (fun _ => rfl) rfl rfl (Wn.none rfl) rfl ?_
            intro v41 M w H hle hs41
            replace hg_maxl := hg_maxl.mono hle
            replace hg_tabs := hg_tabs.mono hle
            refine WR.appC (l := l25) xty43 rfl (fun _ => rfl) H rfl (fun _ => by repeat first | exact .head | apply Upd.tail) rfl (hs41) hxl45 (Wn.none rfl) rfl ?_
            intro v42 w H
            refine WR.putV [_] H rfl rfl (H.rowOne (by repeat (first | exact List.Mem.head _ | apply List.Mem.tail))) (by repeat first | exact .head | apply Upd.tail) (by rfl) Tryz.sizeOf43 (by first | decide | (simp; done) | (simp; omega)) (Wn.none rfl) ?_
            intro w H
            refine NA (WA.done (by kernel_rfl) ?_)
            exact WQ.meetP [(3, _), (4, _), (5, _), (6, _), (7, _)] ⟨rfl, rfl, rfl, rfl, rfl, trivial⟩ ⟨_, _, rfl, H, hg_maxl, hg_tabs⟩
           ·
            refine WR.call H (words_word_ct hx44) rfl ⟨hg_maxl, hg_tabs⟩ (Wn.none rfl) rfl ?_
            intro v40 M w H hle hR
            replace hg_maxl := hg_maxl.mono hle
            replace hg_tabs := hg_tabs.mono hle
            obtain rfl := hR
            refine NA ?_
            refine WA.two (i := 0) (j := 4) (by kernel_rfl) rfl rfl ?_ ?_
            ·
             refine ST (Ex.load1 H rfl (by repeat (first | exact List.Mem.head _ | apply List.Mem.tail)) Tryz.isAgg43 (by rfl)) rfl ?_
             refine NA (WA.seq (fuel := 0) [4, 5, 6] rfl (by kernel_rfl) (WR.lit (enc := encS) xty43 ([s43] : List (List UInt8)) H rfl (by rfl) (fun _ => rfl) rfl rfl (Wn.none rfl) rfl ?_))
             intro v41 M w H hle hs41
             replace hg_maxl := hg_maxl.mono hle
             replace hg_tabs := hg_tabs.mono hle
             refine WR.appC (l := l25) xty43 rfl (fun _ => rfl) H rfl (fun _ => by repeat first | exact .head | apply Upd.tail) rfl (hs41) hxl45 (Wn.none rfl) rfl ?_
             intro v42 w H
             refine WR.putV [_] H rfl rfl (H.rowOne (by repeat (first | exact List.Mem.head _ | apply List.Mem.tail))) (by repeat first | exact .head | apply Upd.tail) (by rfl) Tryz.sizeOf43 (by first | decide | (simp; done) | (simp; omega)) (Wn.none rfl) ?_
             intro w H
             refine NA (WA.done (by kernel_rfl) ?_)
             exact WQ.meetP [(3, _), (4, _), (5, _), (6, _), (7, _)] ⟨rfl, rfl, rfl, rfl, rfl, trivial⟩ ⟨_, _, rfl, H, hg_maxl, hg_tabs⟩
            ·
             refine WR.lit (enc := encS) xty43 ([s43] : List (List UInt8)) H rfl (by rfl) (fun _ => rfl) rfl rfl (Wn.none rfl) rfl ?_
             intro v41 M w H hle hs41
             replace hg_maxl := hg_maxl.mono hle
             replace hg_tabs := hg_tabs.mono hle
             refine NA (WA.seq (fuel := 0) [0, 5, 6] rfl (by kernel_rfl) (ST (Ex.load1 H rfl (by repeat (first | exact List.Mem.head _ | apply List.Mem.tail)) Tryz.isAgg43 (by rfl)) rfl ?_))
             refine WR.appC (l := l25) xty43 rfl (fun _ => rfl) H rfl (fun _ => by repeat first | exact .head | apply Upd.tail) rfl (hs41) hxl45 (Wn.none rfl) rfl ?_
             intro v42 w H
             refine WR.putV [_] H rfl rfl (H.rowOne (by repeat (first | exact List.Mem.head _ | apply List.Mem.tail))) (by repeat first | exact .head | apply Upd.tail) (by rfl) Tryz.sizeOf43 (by first | decide | (simp; done) | (simp; omega)) (Wn.none rfl) ?_
             intro w H
             refine NA (WA.done (by kernel_rfl) ?_)
             exact WQ.meetP [(3, _), (4, _), (5, _), (6, _), (7, _)] ⟨rfl, rfl, rfl, rfl, rfl, trivial⟩ ⟨_, _, rfl, H, hg_maxl, hg_tabs⟩
         ·
          refine ST (Ex.load1 H rfl (by repeat (first | exact List.Mem.head _ | apply List.Mem.tail)) Tryz.isAgg9 (by rfl)) rfl ?_
          refine NA ?_
          refine WA.two (i := 0) (j := 1) (by kernel_rfl) rfl rfl ?_ ?_
          ·
           refine ST (Ex.load1 H rfl (by repeat (first | exact List.Mem.head _ | apply List.Mem.tail)) Tryz.isAgg43 (by rfl)) rfl ?_
           refine NA (WA.seq (fuel := 0) [1, 3, 4, 5, 6] rfl (by kernel_rfl) (ST (Ex.load1 H rfl (by repeat (first | exact List.Mem.head _ | apply List.Mem.tail)) Tryz.isAgg9 (by rfl)) rfl ?_))
           refine WR.call H (words_word_ct hx44) rfl ⟨hg_maxl, hg_tabs⟩ (Wn.none rfl) rfl ?_
           intro v40 M w H hle hR
           replace hg_maxl := hg_maxl.mono hle
           replace hg_tabs := hg_tabs.mono hle
           obtain rfl := hR
           refine WR.lit (enc := encS) xty43 ([s43] : List (List UInt8)) H rfl (by rfl) (fun _ => rfl) rfl rfl (Wn.none rfl) rfl ?_
           intro v41 M w H hle hs41
           replace hg_maxl := hg_maxl.mono hle
           replace hg_tabs := hg_tabs.mono hle
           refine WR.appC (l := l25) xty43 rfl (fun _ => rfl) H rfl (fun _ => by repeat first | exact .head | apply Upd.tail) rfl (hs41) hxl45 (Wn.none rfl) rfl ?_
           intro v42 w H
           refine WR.putV [_] H rfl rfl (H.rowOne (by repeat (first | exact List.Mem.head _ | apply List.Mem.tail))) (by repeat first | exact .head | apply Upd.tail) (by rfl) Tryz.sizeOf43 (by first | decide | (simp; done) | (simp; omega)) (Wn.none rfl) ?_
           intro w H
           refine NA (WA.done (by kernel_rfl) ?_)
           exact WQ.meetP [(3, _), (4, _), (5, _), (6, _), (7, _)] ⟨rfl, rfl, rfl, rfl, rfl, trivial⟩ ⟨_, _, rfl, H, hg_maxl, hg_tabs⟩
          ·
           refine ST (Ex.load1 H rfl (by repeat (first | exact List.Mem.head _ | apply List.Mem.tail)) Tryz.isAgg9 (by rfl)) rfl ?_
           refine NA ?_
           refine WA.two (i := 0) (j := 3) (by kernel_rfl) rfl rfl ?_ ?_
           ·
            refine ST (Ex.load1 H rfl (by repeat (first | exact List.Mem.head _ | apply List.Mem.tail)) Tryz.isAgg43 (by rfl)) rfl ?_
            refine NA (WA.seq (fuel := 0) [3, 4, 5, 6] rfl (by kernel_rfl) (WR.call H (words_word_ct hx44) rfl ⟨hg_maxl, hg_tabs⟩ (Wn.none rfl) rfl ?_))
            intro v40 M w H hle hR
            replace hg_maxl := hg_maxl.mono hle
            replace hg_tabs := hg_tabs.mono hle
            obtain rfl := hR
            refine WR.lit (enc := encS) xty43 ([s43] : List (List UInt8)) H rfl (by rfl) (fun _ => rfl) rfl rfl (Wn.none rfl) rfl ?_
            intro v41 M w H hle hs41
            replace hg_maxl := hg_maxl.mono hle
            replace hg_tabs := hg_tabs.mono hle
            refine WR.appC (l := l25) xty43 rfl (fun _ => rfl) H rfl (fun _ => by repeat first | exact .head | apply Upd.tail) rfl (hs41) hxl45 (Wn.none rfl) rfl ?_
            intro v42 w H
            refine WR.putV [_] H rfl rfl (H.rowOne (by repeat (first | exact List.Mem.head _ | apply List.Mem.tail))) (by repeat first | exact .head | apply Upd.tail) (by rfl) Tryz.sizeOf43 (by first | decide | (simp; done) | (simp; omega)) (Wn.none rfl) ?_
            intro w H
            refine NA (WA.done (by kernel_rfl) ?_)
            exact WQ.meetP [(3, _), (4, _), (5, _), (6, _), (7, _)] ⟨rfl, rfl, rfl, rfl, rfl, trivial⟩ ⟨_, _, rfl, H, hg_maxl, hg_tabs⟩
           ·
            refine WR.call H (words_word_ct hx44) rfl ⟨hg_maxl, hg_tabs⟩ (Wn.none rfl) rfl ?_
            intro v40 M w H hle hR
            replace hg_maxl := hg_maxl.mono hle
            replace hg_tabs := hg_tabs.mono hle
            obtain rfl := hR
            refine NA ?_
            refine WA.two (i := 0) (j := 4) (by kernel_rfl) rfl rfl ?_ ?_
            ·
             refine ST (Ex.load1 H rfl (by repeat (first | exact List.Mem.head _ | apply List.Mem.tail)) Tryz.isAgg43 (by rfl)) rfl ?_
             refine NA (WA.seq (fuel := 0) [4, 5, 6] rfl (by kernel_rfl) (WR.lit (enc := encS) xty43 ([s43] : List (List UInt8)) H rfl (by rfl) (fun _ => rfl) rfl rfl (Wn.none rfl) rfl ?_))
             intro v41 M w H hle hs41
             replace hg_maxl := hg_maxl.mono hle
             replace hg_tabs := hg_tabs.mono hle
             refine WR.appC (l := l25) xty43 rfl (fun _ => rfl) H rfl (fun _ => by repeat first | exact .head | apply Upd.tail) rfl (hs41) hxl45 (Wn.none rfl) rfl ?_
             intro v42 w H
             refine WR.putV [_] H rfl rfl (H.rowOne (by repeat (first | exact List.Mem.head _ | apply List.Mem.tail))) (by repeat first | exact .head | apply Upd.tail) (by rfl) Tryz.sizeOf43 (by first | decide | (simp; done) | (simp; omega)) (Wn.none rfl) ?_
             intro w H
             refine NA (WA.done (by kernel_rfl) ?_)
             exact WQ.meetP [(3, _), (4, _), (5, _), (6, _), (7, _)] ⟨rfl, rfl, rfl, rfl, rfl, trivial⟩ ⟨_, _, rfl, H, hg_maxl, hg_tabs⟩
            ·
             refine WR.lit (enc := encS) xty43 ([s43] : List (List UInt8)) H rfl (by rfl) (fun _ => rfl) rfl rfl (Wn.none rfl) rfl ?_
             intro v41 M w H hle hs41
             replace hg_maxl := hg_maxl.mono hle
             replace hg_tabs := hg_tabs.mono hle
             refine NA (WA.seq (fuel := 0) [0, 5, 6] rfl (by kernel_rfl) (ST (Ex.load1 H rfl (by repeat (first | exact List.Mem.head _ | apply List.Mem.tail)) Tryz.isAgg43 (by rfl)) rfl ?_))
             refine WR.appC (l := l25) xty43 rfl (fun _ => rfl) H rfl (fun _ => by repeat first | exact .head | apply Upd.tail) rfl (hs41) hxl45 (Wn.none rfl) rfl ?_
             intro v42 w H
             refine WR.putV [_] H rfl rfl (H.rowOne (by repeat (first | exact List.Mem.head _ | apply List.Mem.tail))) (by repeat first | exact .head | apply Upd.tail) (by rfl) Tryz.sizeOf43 (by first | decide | (simp; done) | (simp; omega)) (Wn.none rfl) ?_
             intro w H
             refine NA (WA.done (by kernel_rfl) ?_)
             exact WQ.meetP [(3, _), (4, _), (5, _), (6, _), (7, _)] ⟨rfl, rfl, rfl, rfl, rfl, trivial⟩ ⟨_, _, rfl, H, hg_maxl, hg_tabs⟩
        ·
         rintro e w ⟨v46, M, rfl, H, hg_maxl, hg_tabs⟩
         refine TN (RG (WR.store [_] H rfl rfl rfl (by repeat first | exact .head | apply Upd.tail) Tryz.sizeOf9 rfl (by rfl) (by rfl) (Wn.none rfl) ?_))
         intro w H
         refine NL (TN ?_)
         obtain ⟨s47, hxs47, e33⟩ := bnd e33
         refine RG (ST (Ex.load1 H rfl (by repeat (first | exact List.Mem.head _ | apply List.Mem.tail)) Tryz.isAgg9 (by rfl)) rfl ?_)
         refine MV rfl rfl (ST (Ex.strAddC rfl rfl hxs47) rfl (WR.store [_] H rfl rfl rfl (by repeat first | exact .head | apply Upd.tail) Tryz.sizeOf9 rfl (by rfl) (by rfl) (Wn.none rfl) ?_))
         intro w H
         refine NL (IB ?_)
         obtain rfl := Option.some.inj e33
         exact WQ.rsOn hrc28 (H.pick (L' := [.blk lid28 (.loop (rc28 .busy none)), .blk b3 (.cells #[I 0, I 0] 24), .blk b4 (.cells #[S s17] 9), .blk b5 (.cells #[v46] 43), RowI 9 encS v46 l45, .blk b6 (.cells #[S s47] 9)]) (by repeat (first | exact Pick.nil | refine Pick.cons (by repeat first | exact .head | apply Rem.tail) ?_))) rfl ⟨_, _, _, rfl, rfl, hg_maxl, hg_tabs⟩
       ·
        subst hk42
        rw [if_neg Bool.false_ne_true] at e33
        refine SK (TN ?_)
        obtain ⟨s48, hxs48, e33⟩ := bnd e33
        refine RG (ST (Ex.load1 H rfl (by repeat (first | exact List.Mem.head _ | apply List.Mem.tail)) Tryz.isAgg9 (by rfl)) rfl ?_)
        refine MV rfl rfl (ST (Ex.strAddC rfl rfl hxs48) rfl (WR.store [_] H rfl rfl rfl (by repeat first | exact .head | apply Upd.tail) Tryz.sizeOf9 rfl (by rfl) (by rfl) (Wn.none rfl) ?_))
        intro w H
        refine NL (IB ?_)
        obtain rfl := Option.some.inj e33
        exact WQ.rsOn hrc28 (H.pick (L' := [.blk lid28 (.loop (rc28 .busy none)), .blk b3 (.cells #[I 0, I 0] 24), .blk b4 (.cells #[S s17] 9), .blk b5 (.cells #[v26] 43), RowI 9 encS v26 l25, .blk b6 (.cells #[S s48] 9)]) (by repeat (first | exact Pick.nil | refine Pick.cons (by repeat first | exact .head | apply Rem.tail) ?_))) rfl ⟨_, _, _, rfl, rfl, hg_maxl, hg_tabs⟩
     ·
      rintro Dm28 w M L H hle hE ⟨l25, v26, s27, rfl, rfl, hg_maxl, hg_tabs⟩
      simp only [List.cons_append, List.nil_append, List.append_nil] at H
      try dsimp only at h
      refine IB (TN (SQ ?_))
      obtain ⟨s49, hx50, h⟩ := bnd h
      obtain ⟨l51, hxl51, h⟩ := bnd h
      obtain ⟨s53, hx54, h⟩ := bnd h
      obtain ⟨⟨n55, n56⟩, hx57, h⟩ := bnd h
      try dsimp only at h
      refine WC.cutP (fun e w => ∃  (M : Mem), e = [(2, S s53), (3, ptr b3 0)] ∧ St w0 M0 M [.blk b3 (.cells #[I n55, I n56] 24), .blk Dm28 (.deferred (some []))] w ∧ GlF (fun w => ∃ m, w.cell? ⟨2, 0, none⟩ = some (.int .i64 m)) M ∧ Tabs M) ?_ ?_
      ·
       refine WC.draw (m := 10) rfl rfl H ?_
       intro w H
       refine WA.takeM (i := 1) [0, 2] rfl (by kernel_rfl) (by kernel_rfl) (by kernel_rfl) (Ex.load1 H rfl (by repeat (first | exact List.Mem.head _ | apply List.Mem.tail)) Tryz.isAgg9 (by rfl)) (Wn.none rfl) rfl rfl (fun _ _ => rfl) ?_
       refine WA.takeM (i := 2) [0] rfl (by kernel_rfl) (by kernel_rfl) (by kernel_rfl) (Ex.load1 H rfl (by repeat (first | exact List.Mem.head _ | apply List.Mem.tail)) Tryz.isAgg9 (by rfl)) (Wn.none rfl) rfl rfl (fun _ _ => rfl) ?_
       refine WA.two (i := 0) (j := 3) (by kernel_rfl) rfl rfl ?_ ?_
       ·
        refine ST (Ex.load1 H rfl (by repeat (first | exact List.Mem.head _ | apply List.Mem.tail)) Tryz.isAgg43 (by rfl)) rfl ?_
        refine NA (WA.seq (fuel := 0) [3, 4, 5, 6, 7, 8, 9] rfl (by kernel_rfl) (WR.call H (words_word_ct hx50) rfl ⟨hg_maxl, hg_tabs⟩ (Wn.none rfl) rfl ?_))
        intro v49 M w H hle hR
        replace hg_maxl := hg_maxl.mono hle
        replace hg_tabs := hg_tabs.mono hle
        obtain rfl := hR
        refine WR.lit (enc := encS) xty43 ([s49] : List (List UInt8)) H rfl (by rfl) (fun _ => rfl) rfl rfl (Wn.none rfl) rfl ?_
        intro v50 M w H hle hs50
        replace hg_maxl := hg_maxl.mono hle
        replace hg_tabs := hg_tabs.mono hle
        refine WR.appC (l := l25) xty43 rfl (fun _ => rfl) H rfl (fun _ => by repeat first | exact .head | apply Upd.tail) rfl (hs50) hxl51 (Wn.none rfl) rfl ?_
        intro v51 w H
        obtain ⟨M, hle, hs52, H⟩ := H.freezeRow (v := v51) (enc := encS) (t := 9) (by repeat first | exact .head | apply Rem.tail)
        replace hg_maxl := hg_maxl.mono hle
        replace hg_tabs := hg_tabs.mono hle
        replace hs50 := hs50.mono hle
        refine WR.call H (strings_Join_ct hx54) rfl (hs52) (Wn.none rfl) rfl ?_
        intro v52 M w H hle hR
        replace hg_maxl := hg_maxl.mono hle
        replace hg_tabs := hg_tabs.mono hle
        replace hs50 := hs50.mono hle
        replace hs52 := hs52.mono hle
        obtain rfl := hR
        refine WR.call H (basic_None_ct hx57) rfl trivial (Wn.none rfl) rfl ?_
        intro v53 M w H hle hR
        replace hg_maxl := hg_maxl.mono hle
        replace hg_tabs := hg_tabs.mono hle
        replace hs50 := hs50.mono hle
        replace hs52 := hs52.mono hle
        try dsimp only at hR
        obtain rfl := hR
        refine AS rfl rfl (WR.store [_, _] H rfl rfl rfl (by repeat first | exact .head | apply Upd.tail) Tryz.sizeOf24 rfl (by rfl) (by rfl) (Wn.none rfl) ?_)
        intro w H
        refine NA (WA.done (by kernel_rfl) ?_)
        exact WQ.meetP [(2, _), (3, _)] ⟨rfl, rfl, trivial⟩ ⟨_, rfl, (H.pick (L' := [.blk b3 (.cells #[I n55, I n56] 24), .blk Dm28 (.deferred (some []))]) (by repeat (first | exact Pick.nil | refine Pick.cons (by repeat first | exact .head | apply Rem.tail) ?_))), hg_maxl, hg_tabs⟩
       ·
        refine WR.call H (words_word_ct hx50) rfl ⟨hg_maxl, hg_tabs⟩ (Wn.none rfl) rfl ?_
        intro v49 M w H hle hR
        replace hg_maxl := hg_maxl.mono hle
        replace hg_tabs := hg_tabs.mono hle
        obtain rfl := hR
        refine NA ?_
        refine WA.two (i := 0) (j := 4) (by kernel_rfl) rfl rfl ?_ ?_
        ·
         refine ST (Ex.load1 H rfl (by repeat (first | exact List.Mem.head _ | apply List.Mem.tail)) Tryz.isAgg43 (by rfl)) rfl ?_
         refine NA (WA.seq (fuel := 0) [4, 5, 6, 7, 8, 9] rfl (by kernel_rfl) (WR.lit (enc := encS) xty43 ([s49] : List (List UInt8)) H rfl (by rfl) (fun _ => rfl) rfl rfl (Wn.none rfl) rfl ?_))
         intro v50 M w H hle hs50
         replace hg_maxl := hg_maxl.mono hle
         replace hg_tabs := hg_tabs.mono hle
         refine WR.appC (l := l25) xty43 rfl (fun _ => rfl) H rfl (fun _ => by repeat first | exact .head | apply Upd.tail) rfl (hs50) hxl51 (Wn.none rfl) rfl ?_
         intro v51 w H
         obtain ⟨M, hle, hs52, H⟩ := H.freezeRow (v := v51) (enc := encS) (t := 9) (by repeat first | exact .head | apply Rem.tail)
         replace hg_maxl := hg_maxl.mono hle
         replace hg_tabs := hg_tabs.mono hle
         replace hs50 := hs50.mono hle
         refine WR.call H (strings_Join_ct hx54) rfl (hs52) (Wn.none rfl) rfl ?_
         intro v52 M w H hle hR
         replace hg_maxl := hg_maxl.mono hle
         replace hg_tabs := hg_tabs.mono hle
         replace hs50 := hs50.mono hle
         replace hs52 := hs52.mono hle
         obtain rfl := hR
         refine WR.call H (basic_None_ct hx57) rfl trivial (Wn.none rfl) rfl ?_
         intro v53 M w H hle hR
         replace hg_maxl := hg_maxl.mono hle
         replace hg_tabs := hg_tabs.mono hle
         replace hs50 := hs50.mono hle
         replace hs52 := hs52.mono hle
         try dsimp only at hR
         obtain rfl := hR
         refine AS rfl rfl (WR.store [_, _] H rfl rfl rfl (by repeat first | exact .head | apply Upd.tail) Tryz.sizeOf24 rfl (by rfl) (by rfl) (Wn.none rfl) ?_)
         intro w H
         refine NA (WA.done (by kernel_rfl) ?_)
         exact WQ.meetP [(2, _), (3, _)] ⟨rfl, rfl, trivial⟩ ⟨_, rfl, (H.pick (L' := [.blk b3 (.cells #[I n55, I n56] 24), .blk Dm28 (.deferred (some []))]) (by repeat (first | exact Pick.nil | refine Pick.cons (by repeat first | exact .head | apply Rem.tail) ?_))), hg_maxl, hg_tabs⟩
        ·
         refine WR.lit (enc := encS) xty43 ([s49] : List (List UInt8)) H rfl (by rfl) (fun _ => rfl) rfl rfl (Wn.none rfl) rfl ?_
         intro v50 M w H hle hs50
         replace hg_maxl := hg_maxl.mono hle
         replace hg_tabs := hg_tabs.mono hle
         refine NA (WA.seq (fuel := 0) [0, 5, 6, 7, 8, 9] rfl (by kernel_rfl) (ST (Ex.load1 H rfl (by repeat (first | exact List.Mem.head _ | apply List.Mem.tail)) Tryz.isAgg43 (by rfl)) rfl ?_))
         refine WR.appC (l := l25) xty43 rfl (fun _ => rfl) H rfl (fun _ => by repeat first | exact .head | apply Upd.tail) rfl (hs50) hxl51 (Wn.none rfl) rfl ?_
         intro v51 w H
         obtain ⟨M, hle, hs52, H⟩ := H.freezeRow (v := v51) (enc := encS) (t := 9) (by repeat first | exact .head | apply Rem.tail)
         replace hg_maxl := hg_maxl.mono hle
         replace hg_tabs := hg_tabs.mono hle
         replace hs50 := hs50.mono hle
         refine WR.call H (strings_Join_ct hx54) rfl (hs52) (Wn.none rfl) rfl ?_
         intro v52 M w H hle hR
         replace hg_maxl := hg_maxl.mono hle
         replace hg_tabs := hg_tabs.mono hle
         replace hs50 := hs50.mono hle
         replace hs52 := hs52.mono hle
         obtain rfl := hR
         refine WR.call H (basic_None_ct hx57) rfl trivial (Wn.none rfl) rfl ?_
         intro v53 M w H hle hR
         replace hg_maxl := hg_maxl.mono hle
         replace hg_tabs := hg_tabs.mono hle
         replace hs50 := hs50.mono hle
         replace hs52 := hs52.mono hle
         try dsimp only at hR
         obtain rfl := hR
         refine AS rfl rfl (WR.store [_, _] H rfl rfl rfl (by repeat first | exact .head | apply Upd.tail) Tryz.sizeOf24 rfl (by rfl) (by rfl) (Wn.none rfl) ?_)
         intro w H
         refine NA (WA.done (by kernel_rfl) ?_)
         exact WQ.meetP [(2, _), (3, _)] ⟨rfl, rfl, trivial⟩ ⟨_, rfl, (H.pick (L' := [.blk b3 (.cells #[I n55, I n56] 24), .blk Dm28 (.deferred (some []))]) (by repeat (first | exact Pick.nil | refine Pick.cons (by repeat first | exact .head | apply Rem.tail) ?_))), hg_maxl, hg_tabs⟩
      ·
       rintro e w ⟨M, rfl, H, hg_maxl, hg_tabs⟩
       refine TN (RT ?_)
       obtain rfl := Option.some.inj h
       exact WQ.nret2 rfl H (by repeat first | exact .head | apply Rem.tail) (fun w H => ⟨rfl, ⟨_, rfl, H.loadAgg (by repeat (first | exact List.Mem.head _ | apply List.Mem.tail)) Tryz.isAgg24 Tryz.sizeOf24 (by rfl)⟩⟩) rfl
     ·
      intro Dm w M L c H hle hE; cases hE
theorem basic_Hex_ct {p0 : UInt8} {r : (UInt8 × Bool)} (h : basic_Hex p0 = some r) : Ct Tryz.prog 168 [encB p0] (fun M => True) (fun v M => v = Value.tuple #[encB r.1, Value.bool r.2]) := by
  refine Ct.of Tryz.func168 (enters Tryz.func168 (by kernel_rfl) rfl) rfl rfl rfl ?_
  intro w0 M0 H hp
  unfold basic_Hex at h
  refine SQ (RG (AS rfl rfl (AS rfl rfl (NL (TN (SQ (BL (SQ ?_))))))))
  obtain ⟨o1, e2, h⟩ := bnd h
  refine WC.cutX (fun e w => ∃ (b3 : Bool) (M : Mem), e = [(0, encB p0), (4, Value.bool b3)] ∧ St w0 M0 M [] w ∧ some b3 = some o1) [] ?_ ?_ (trivial)
  ·
   by_cases hk4 : 48 ≤ p0.toNat
   ·
    rw [if_pos hk4] at e2
    refine RG (MV rfl rfl (WR.stepE (v' := .bool true) (Ex.geqB (i := p0.toNat) (j := 48) rfl rfl) (congrArg Value.bool (decide_eq_true hk4)) (Wn.none rfl) rfl rfl (MV rfl rfl (SG (Ex.move rfl) rfl rfl rfl (SG (Ex.leqB (i := p0.toNat) (j := 57) rfl rfl) rfl rfl rfl (PT rfl rfl rfl (AS rfl rfl (NL ?_))))))))
    exact WQ.meetN [(0, _), (4, _)] ⟨rfl, rfl, trivial⟩ ⟨_, _, rfl, H, e2⟩
   ·
    rw [if_neg hk4] at e2
    refine RG (MV rfl rfl (WR.stepE (v' := .bool false) (Ex.geqB (i := p0.toNat) (j := 48) rfl rfl) (congrArg Value.bool (decide_eq_false hk4)) (Wn.none rfl) rfl rfl (MV rfl rfl (GF rfl rfl rfl (GF rfl rfl rfl (PF rfl rfl rfl (AS rfl rfl (NL ?_))))))))
    exact WQ.meetN [(0, _), (4, _)] ⟨rfl, rfl, trivial⟩ ⟨_, _, rfl, H, e2⟩
  ·
   rintro e w ⟨b3, M, rfl, H, q5⟩
   obtain rfl := Option.some.inj q5
   refine TN ?_
   refine WC.condB rfl (fun hk6 => ?_) (fun hk6 => ?_)
   ·
    subst hk6
    rw [if_pos rfl] at h
    refine SQ (RG (MV rfl rfl (ST (Ex.subB (c := p0) (d := 48) rfl rfl) rfl (AS rfl rfl (AS rfl rfl (NL (TN (RT ?_))))))))
    obtain rfl := Option.some.inj h
    exact WQ.ret2 rfl rfl rfl H.ext rfl
   ·
    subst hk6
    rw [if_neg Bool.false_ne_true] at h
    refine SQ ?_
    obtain ⟨o7, e8, h⟩ := bnd h
    refine WC.cutX (fun e w => ∃ (b9 : Bool) (M : Mem), e = [(0, encB p0), (13, Value.bool b9)] ∧ St w0 M0 M [] w ∧ some b9 = some o7) [] ?_ ?_ (trivial)
    ·
     by_cases hk10 : 65 ≤ p0.toNat
     ·
      rw [if_pos hk10] at e8
      refine RG (MV rfl rfl (WR.stepE (v' := .bool true) (Ex.geqB (i := p0.toNat) (j := 65) rfl rfl) (congrArg Value.bool (decide_eq_true hk10)) (Wn.none rfl) rfl rfl (MV rfl rfl (SG (Ex.move rfl) rfl rfl rfl (SG (Ex.leqB (i := p0.toNat) (j := 70) rfl rfl) rfl rfl rfl (PT rfl rfl rfl (AS rfl rfl (NL ?_))))))))
      exact WQ.meetN [(0, _), (13, _)] ⟨rfl, rfl, trivial⟩ ⟨_, _, rfl, H, e8⟩
     ·
      rw [if_neg hk10] at e8
      refine RG (MV rfl rfl (WR.stepE (v' := .bool false) (Ex.geqB (i := p0.toNat) (j := 65) rfl rfl) (congrArg Value.bool (decide_eq_false hk10)) (Wn.none rfl) rfl rfl (MV rfl rfl (GF rfl rfl rfl (GF rfl rfl rfl (PF rfl rfl rfl (AS rfl rfl (NL ?_))))))))
      exact WQ.meetN [(0, _), (13, _)] ⟨rfl, rfl, trivial⟩ ⟨_, _, rfl, H, e8⟩
    ·
     rintro e w ⟨b9, M, rfl, H, q11⟩
     obtain rfl := Option.some.inj q11
     refine TN ?_
     refine WC.condB rfl (fun hk12 => ?_) (fun hk12 => ?_)
     ·
      subst hk12
      rw [if_pos rfl] at h
      refine SQ (RG (MV rfl rfl (ST (Ex.subB (c := p0) (d := 65) rfl rfl) rfl (ST (Ex.addB (c := (p0 - (65 : UInt8))) (d := 10) rfl rfl) rfl (AS rfl rfl (AS rfl rfl (NL (TN (RT ?_)))))))))
      obtain rfl := Option.some.inj h
      exact WQ.ret2 rfl rfl rfl H.ext rfl
     ·
      subst hk12
      rw [if_neg Bool.false_ne_true] at h
      refine SQ ?_
      obtain ⟨o13, e14, h⟩ := bnd h
      refine WC.cutX (fun e w => ∃ (b15 : Bool) (M : Mem), e = [(0, encB p0), (23, Value.bool b15)] ∧ St w0 M0 M [] w ∧ some b15 = some o13) [] ?_ ?_ (trivial)
      ·
       by_cases hk16 : 97 ≤ p0.toNat
       ·
        rw [if_pos hk16] at e14
        refine RG (MV rfl rfl (WR.stepE (v' := .bool true) (Ex.geqB (i := p0.toNat) (j := 97) rfl rfl) (congrArg Value.bool (decide_eq_true hk16)) (Wn.none rfl) rfl rfl (MV rfl rfl (SG (Ex.move rfl) rfl rfl rfl (SG (Ex.leqB (i := p0.toNat) (j := 102) rfl rfl) rfl rfl rfl (PT rfl rfl rfl (AS rfl rfl (NL ?_))))))))
        exact WQ.meetN [(0, _), (23, _)] ⟨rfl, rfl, trivial⟩ ⟨_, _, rfl, H, e14⟩
       ·
        rw [if_neg hk16] at e14
        refine RG (MV rfl rfl (WR.stepE (v' := .bool false) (Ex.geqB (i := p0.toNat) (j := 97) rfl rfl) (congrArg Value.bool (decide_eq_false hk16)) (Wn.none rfl) rfl rfl (MV rfl rfl (GF rfl rfl rfl (GF rfl rfl rfl (PF rfl rfl rfl (AS rfl rfl (NL ?_))))))))
        exact WQ.meetN [(0, _), (23, _)] ⟨rfl, rfl, trivial⟩ ⟨_, _, rfl, H, e14⟩
      ·
       rintro e w ⟨b15, M, rfl, H, q17⟩
       obtain rfl := Option.some.inj q17
       refine TN ?_
       refine WC.condB rfl (fun hk18 => ?_) (fun hk18 => ?_)
       ·
        subst hk18
        rw [if_pos rfl] at h
        refine SQ (RG (MV rfl rfl (ST (Ex.subB (c := p0) (d := 97) rfl rfl) rfl (ST (Ex.addB (c := (p0 - (97 : UInt8))) (d := 10) rfl rfl) rfl (AS rfl rfl (AS rfl rfl (NL (TN (RT ?_)))))))))
        obtain rfl := Option.some.inj h
        exact WQ.ret2 rfl rfl rfl H.ext rfl
       ·
        subst hk18
        rw [if_neg Bool.false_ne_true] at h
        refine SK (IB (TN (SQ (RG (AS rfl rfl (AS rfl rfl (NL (TN (RT ?_)))))))))
        obtain rfl := Option.some.inj h
        exact WQ.ret2 rfl rfl rfl H.ext rfl
theorem basic_Pair_ct {p0 : List UInt8} {r : (UInt8 × Bool)} (h : basic_Pair p0 = some r) : Ct Tryz.prog 139 [S p0] (fun M => True) (fun v M => v = Value.tuple #[encB r.1, Value.bool r.2]) := by
  refine Ct.of Tryz.func139 (enters Tryz.func139 (by kernel_rfl) rfl) rfl rfl rfl ?_
  intro w0 M0 H hp
  unfold basic_Pair at h
  refine SQ (RG (AS rfl rfl (AS rfl rfl (NL (TN (SQ (SQ (RG (MV rfl rfl (ST (Ex.lenStr Tryz.underlying9 rfl) rfl (ST (Ex.lss rfl rfl) rfl (NL (TN ?_)))))))))))))
  refine WC.condB rfl (fun hk1 => ?_) (fun hk1 => ?_)
  ·
   replace hk1 : (p0.length : Int) < (2 : Int) := of_decide_eq_true hk1
   rw [if_pos hk1] at h
   refine SQ (RG (AS rfl rfl (AS rfl rfl (NL (TN (RT ?_))))))
   obtain rfl := Option.some.inj h
   exact WQ.ret2 rfl rfl rfl H.ext rfl
  ·
   replace hk1 : ¬ ((p0.length : Int) < (2 : Int)) := of_decide_eq_false hk1
   rw [if_neg hk1] at h
   refine SK (TN (SQ ?_))
   obtain ⟨c2, hxc2, h⟩ := bnd h
   obtain ⟨⟨c3, b4⟩, hx5, h⟩ := bnd h
   try dsimp only at h
   refine RG (MV rfl rfl (ST (Ex.idxStrC Tryz.underlying9 rfl rfl hxc2) rfl (WR.call H (basic_Hex_ct hx5) rfl trivial (Wn.none rfl) rfl ?_)))
   intro v14 M w H hle hR
   try dsimp only at hR
   obtain rfl := hR
   refine MV rfl rfl (ST (Ex.extract rfl rfl) rfl (ST (Ex.extract rfl rfl) rfl (AS rfl rfl (AS rfl rfl (NL (TN (SQ ?_)))))))
   obtain ⟨c6, hxc6, h⟩ := bnd h
   obtain ⟨⟨c7, b8⟩, hx9, h⟩ := bnd h
   try dsimp only at h
   refine RG (MV rfl rfl (ST (Ex.idxStrC Tryz.underlying9 rfl rfl hxc6) rfl (WR.call H (basic_Hex_ct hx9) rfl trivial (Wn.none rfl) rfl ?_)))
   intro v20 M w H hle hR
   try dsimp only at hR
   obtain rfl := hR
   refine MV rfl rfl (ST (Ex.extract rfl rfl) rfl (ST (Ex.extract rfl rfl) rfl (AS rfl rfl (AS rfl rfl (NL (TN (SQ ?_)))))))
   obtain ⟨o10, e11, h⟩ := bnd h
   refine WC.cutX (fun e w => ∃ (c12 : UInt8) (b13 : Bool) (M : Mem), e = [(2, encB c12), (3, Value.bool b13)] ∧ St w0 M0 M [] w ∧ some (c12, b13) = some o10) [] ?_ ?_ (trivial)
   ·
    refine RG (MV rfl rfl (ST (Ex.shlB (c := c3) (m := 4) rfl rfl (by decide)) rfl (MV rfl rfl (ST (Ex.orB (c := (UInt8.ofNat (c3.toNat * 2 ^ 4))) (d := c7) rfl rfl) rfl (MV rfl rfl (MV rfl rfl ?_))))))
    rcases b4 with _ | _
    ·
     rw [if_neg Bool.false_ne_true] at e11
     refine GF rfl rfl rfl (PF rfl rfl rfl (AS rfl rfl (AS rfl rfl (NL ?_))))
     exact WQ.meetN [(2, _), (3, _)] ⟨rfl, rfl, trivial⟩ ⟨_, _, _, rfl, H, e11⟩
    ·
     rw [if_pos rfl] at e11
     refine SG (Ex.move rfl) rfl rfl rfl (PT rfl rfl rfl (AS rfl rfl (AS rfl rfl (NL ?_))))
     exact WQ.meetN [(2, _), (3, _)] ⟨rfl, rfl, trivial⟩ ⟨_, _, _, rfl, H, e11⟩
   ·
    rintro e w ⟨c12, b13, M, rfl, H, q14⟩
    obtain rfl := Option.some.inj q14
    try dsimp only at h
    refine TN (RT ?_)
    obtain rfl := Option.some.inj h
    exact WQ.ret2 rfl rfl rfl H.ext rfl
theorem words_bytesOf_ct {p0 : List UInt8} {p1 : List UInt8} {r : (List UInt8 × Bool)} (h : words_bytesOf p0 p1 = some r) : Ct Tryz.prog 96 [S p0, S p1] (fun M => GlF (fun w => ∃ m, w.cell? ⟨2, 0, none⟩ = some (.int .i64 m)) M) (fun v M => ∃ x0, v = Value.tuple #[x0, Value.bool r.2] ∧ Sl M encB x0 r.1) := by
  refine Ct.of Tryz.func96 (enters Tryz.func96 (by kernel_rfl) rfl) rfl rfl rfl ?_
  intro w0 M0 H hp
  have hg_maxl := hp
  unfold words_bytesOf at h
  refine SQ (RG (AS rfl rfl (AS rfl rfl (NL (TN (SQ (SQ (RG (MV rfl rfl (NL (TN (BL (SQ (SQ (RG (ST (Ex.strEql rfl rfl) rfl (AS rfl rfl (NL (TN ?_)))))))))))))))))))
  obtain ⟨o1, e2, h⟩ := bnd h
  refine WC.cutX (fun e w => ∃ (b3 : Bool) (M : Mem), e = [(1, S p1), (12, S p0), (13, Value.bool b3)] ∧ St w0 M0 M [] w ∧ GlF (fun w => ∃ m, w.cell? ⟨2, 0, none⟩ = some (.int .i64 m)) M ∧ some b3 = some o1) [] ?_ ?_ (trivial)
  ·
   refine WC.condB rfl (fun hk4 => ?_) (fun hk4 => ?_)
   ·
    replace hk4 : p0 = [66] := of_decide_eq_true hk4
    rw [if_pos hk4] at e2
    refine SK ?_
    exact WQ.meetN [(1, _), (12, _), (13, _)] ⟨rfl, rfl, rfl, trivial⟩ ⟨_, _, rfl, H, hg_maxl, e2⟩
   ·
    replace hk4 : ¬ (p0 = [66]) := of_decide_eq_false hk4
    rw [if_neg hk4] at e2
    refine RG (ST (Ex.strEql rfl rfl) rfl (AS rfl rfl (NL ?_)))
    exact WQ.meetN [(1, _), (12, _), (13, _)] ⟨rfl, rfl, rfl, trivial⟩ ⟨_, _, rfl, H, hg_maxl, e2⟩
  ·
   rintro e w ⟨b3, M, rfl, H, hg_maxl, q5⟩
   obtain rfl := Option.some.inj q5
   refine TN ?_
   refine WC.condB rfl (fun hk6 => ?_) (fun hk6 => ?_)
   ·
    subst hk6
    rw [if_pos rfl] at h
    refine SQ ?_
    obtain ⟨l7, hxl7, h⟩ := bnd h
    obtain ⟨⟨l8, ⟨n9, n10⟩⟩, hx11, h⟩ := bnd h
    try dsimp only at h
    refine RG (MV rfl rfl (WR.bytesC H Tryz.underlying9 Tryz.underlying30 Tryz.underlying5 rfl hxl7 (Wn.none rfl) rfl ?_))
    intro v18 M w H hle hs18
    replace hg_maxl := hg_maxl.mono hle
    refine WR.call H (base64_Lenient_ct hx11) rfl (hs18) (Wn.none rfl) rfl ?_
    intro v19 M w H hle hR
    replace hg_maxl := hg_maxl.mono hle
    replace hs18 := hs18.mono hle
    try dsimp only at hR
    obtain ⟨x19_0, rfl, f19_0⟩ := hR
    refine MV rfl rfl (ST (Ex.extract rfl rfl) rfl (ST (Ex.extract rfl rfl) rfl (WR.alloc [_, _] H Tryz.zeroValue24 rfl (Wn.none rfl) rfl ?_)))
    intro b7 w H
    refine AS rfl rfl (WR.store [_, _] H rfl rfl rfl (by repeat first | exact .head | apply Upd.tail) Tryz.sizeOf24 rfl (by rfl) (by rfl) (Wn.none rfl) ?_)
    intro w H
    refine NL (TN (SQ ?_))
    obtain ⟨s12, hx13, h⟩ := bnd h
    refine RG (MV rfl rfl (MV rfl rfl (WR.call H (words_flat_ct hx13) rfl ⟨hg_maxl, f19_0⟩ (Wn.none rfl) rfl ?_)))
    intro v24 M w H hle hR
    replace hg_maxl := hg_maxl.mono hle
    replace hs18 := hs18.mono hle
    replace f19_0 := f19_0.mono hle
    obtain rfl := hR
    refine MV rfl rfl (ST (Ex.strEql rfl rfl) rfl (AS rfl rfl (AS rfl rfl (NL (TN (RT ?_))))))
    obtain rfl := Option.some.inj h
    exact WQ.ret2 rfl rfl rfl H.ext (⟨_, rfl, f19_0⟩)
   ·
    subst hk6
    rw [if_neg Bool.false_ne_true] at h
    refine SQ (SQ (RG (ST (Ex.strEql rfl rfl) rfl (AS rfl rfl (NL (TN ?_))))))
    obtain ⟨o14, e15, h⟩ := bnd h
    refine WC.cutX (fun e w => ∃ (b16 : Bool) (M : Mem), e = [(1, S p1), (27, Value.bool b16)] ∧ St w0 M0 M [] w ∧ GlF (fun w => ∃ m, w.cell? ⟨2, 0, none⟩ = some (.int .i64 m)) M ∧ some b16 = some o14) [] ?_ ?_ (trivial)
    ·
     refine WC.condB rfl (fun hk17 => ?_) (fun hk17 => ?_)
     ·
      replace hk17 : p0 = [81] := of_decide_eq_true hk17
      rw [if_pos hk17] at e15
      refine SK ?_
      exact WQ.meetN [(1, _), (27, _)] ⟨rfl, rfl, trivial⟩ ⟨_, _, rfl, H, hg_maxl, e15⟩
     ·
      replace hk17 : ¬ (p0 = [81]) := of_decide_eq_false hk17
      rw [if_neg hk17] at e15
      refine RG (ST (Ex.strEql rfl rfl) rfl (AS rfl rfl (NL ?_)))
      exact WQ.meetN [(1, _), (27, _)] ⟨rfl, rfl, trivial⟩ ⟨_, _, rfl, H, hg_maxl, e15⟩
    ·
     rintro e w ⟨b16, M, rfl, H, hg_maxl, q18⟩
     obtain rfl := Option.some.inj q18
     refine TN ?_
     refine WC.condB rfl (fun hk19 => ?_) (fun hk19 => ?_)
     ·
      subst hk19
      rw [if_pos rfl] at h
      refine SQ (RG (AS rfl rfl (NL (TN (SQ (SQ (RG (AS rfl rfl (NL (TN ?_))))))))))
      obtain ⟨o20, e21, h⟩ := bnd h
      refine WC.cutX (fun e w => ∃ (l23 : List UInt8) (v24 : Value) (M : Mem), e = [(8, v24)] ∧ St w0 M0 M [RowI 5 encB v24 l23] w ∧ GlF (fun w => ∃ m, w.cell? ⟨2, 0, none⟩ = some (.int .i64 m)) M ∧ some (.inl l23) = some o20) [] ?_ ?_ (trivial)
      ·
       refine BL ?_
       replace H := H.newRow 5 encB
       refine WC.loopP (fun m e w => ∃ (l26 : List UInt8) (v27 : Value) (n28 : Int) (M : Mem), e = [(1, S p1), (8, v27), (9, I n28)] ∧ St w0 M0 M [RowI 5 encB v27 l26] w ∧ GlF (fun w => ∃ m, w.cell? ⟨2, 0, none⟩ = some (.int .i64 m)) M ∧ words_bytesOf_L1 p1 m l26 n28 = some o20) FU [(1, _), (8, _), (9, _)] ⟨rfl, rfl, rfl, trivial⟩ ⟨_, _, _, _, rfl, H, hg_maxl, e21⟩ ?_
       rintro m29 e w ⟨l26, v27, n28, M, rfl, H, hg_maxl, e21⟩
       rcases m29 with _ | m29
       · rw [words_bytesOf_L1] at e21; cases e21
       rw [words_bytesOf_L1] at e21
       refine SQ (SQ (RG (MV rfl rfl (MV rfl rfl (ST (Ex.lenStr Tryz.underlying9 rfl) rfl (ST (Ex.lss rfl rfl) rfl (NL (TN ?_))))))))
       refine WC.condB rfl (fun hk31 => ?_) (fun hk31 => ?_)
       ·
        replace hk31 : n28 < (p1.length : Int) := of_decide_eq_true hk31
        rw [if_pos hk31] at e21
        refine SK (TN (SQ (BL (BL (SQ ?_)))))
        obtain ⟨c32, hxc32, e21⟩ := bnd e21
        refine RG (MV rfl rfl (MV rfl rfl (ST (Ex.idxStrC Tryz.underlying9 rfl rfl hxc32) rfl (ST (Ex.eqlB (c := c32) (d := 95) rfl rfl) rfl (AS rfl rfl (NL (TN ?_)))))))
        refine WC.condB rfl (fun hk33 => ?_) (fun hk33 => ?_)
        ·
         replace hk33 : c32 = 95 := of_decide_eq_true hk33
         rw [if_pos hk33] at e21
         obtain ⟨l34, hxl34, e21⟩ := bnd e21
         refine RG (MV rfl rfl (WR.lit (enc := encB) xty30 ([32] : List UInt8) H rfl (by rfl) (fun _ => rfl) rfl rfl (Wn.none rfl) rfl ?_))
         intro v42 M w H hle hs42
         replace hg_maxl := hg_maxl.mono hle
         refine WR.appC (l := l26) xty30 rfl (fun _ => rfl) H rfl (fun _ => by repeat first | exact .head | apply Upd.tail) rfl (hs42) hxl34 (Wn.none rfl) rfl ?_
         intro v43 w H
         refine AS rfl rfl (NL (IB (IB (TN ?_))))
         obtain ⟨n35, hxn35, e21⟩ := bnd e21
         refine RG (MV rfl rfl (ST (Ex.addC rfl rfl hxn35) rfl (AS rfl rfl (NL ?_))))
         exact WQ.againP m29 [(1, _), (8, _), (9, _)] ⟨rfl, rfl, rfl, trivial⟩ ⟨_, _, _, _, rfl, H, hg_maxl, e21⟩ (Nat.lt_succ_self _)
        ·
         replace hk33 : ¬ (c32 = 95) := of_decide_eq_false hk33
         rw [if_neg hk33] at e21
         refine SQ ?_
         obtain ⟨c36, hxc36, e21⟩ := bnd e21
         refine RG (MV rfl rfl (MV rfl rfl (ST (Ex.idxStrC Tryz.underlying9 rfl rfl hxc36) rfl (ST (Ex.eqlB (c := c36) (d := 61) rfl rfl) rfl (AS rfl rfl (NL (TN ?_)))))))
         refine WC.condB rfl (fun hk37 => ?_) (fun hk37 => ?_)
         ·
          replace hk37 : c36 = 61 := of_decide_eq_true hk37
          rw [if_pos hk37] at e21
          refine SQ ?_
          obtain ⟨n38, hxn38, e21⟩ := bnd e21
          obtain ⟨s39, hxs39, e21⟩ := bnd e21
          obtain ⟨⟨c40, b41⟩, hx42, e21⟩ := bnd e21
          try dsimp only at e21
          refine RG (MV rfl rfl (MV rfl rfl (ST (Ex.addC rfl rfl hxn38) rfl (ST (Ex.sliceL Tryz.underlying9 rfl rfl hxs39) rfl (WR.call H (basic_Pair_ct hx42) rfl trivial (Wn.none rfl) rfl ?_)))))
          intro v54 M w H hle hR
          replace hg_maxl := hg_maxl.mono hle
          try dsimp only at hR
          obtain rfl := hR
          refine MV rfl rfl (ST (Ex.extract rfl rfl) rfl (ST (Ex.extract rfl rfl) rfl (AS rfl rfl (AS rfl rfl (NL (TN (SQ (SQ (RG (MV rfl rfl (ST (Ex.not rfl) rfl (NL (TN ?_)))))))))))))
          refine WC.condB rfl (fun hk43 => ?_) (fun hk43 => ?_)
          ·
           replace hk43 : b41 = false := by simpa using hk43
           subst hk43
           rw [if_neg Bool.false_ne_true] at e21
           refine SQ (RG (AS rfl rfl (AS rfl rfl (NL (TN (RT ?_))))))
           obtain rfl := Option.some.inj e21
           try dsimp only at h
           obtain rfl := Option.some.inj h
           exact WQ.ret2 rfl rfl rfl H.ext (⟨_, rfl, Sl.nil _ _⟩)
          ·
           replace hk43 : b41 = true := by simpa using hk43
           subst hk43
           rw [if_pos rfl] at e21
           refine SK (TN (SQ ?_))
           obtain ⟨l44, hxl44, e21⟩ := bnd e21
           refine RG (MV rfl rfl (MV rfl rfl (WR.lit (enc := encB) xty30 ([c40] : List UInt8) H rfl (by rfl) (fun _ => rfl) rfl rfl (Wn.none rfl) rfl ?_)))
           intro v61 M w H hle hs61
           replace hg_maxl := hg_maxl.mono hle
           refine WR.appC (l := l26) xty30 rfl (fun _ => rfl) H rfl (fun _ => by repeat first | exact .head | apply Upd.tail) rfl (hs61) hxl44 (Wn.none rfl) rfl ?_
           intro v62 w H
           refine AS rfl rfl (NL (TN ?_))
           obtain ⟨n45, hxn45, e21⟩ := bnd e21
           refine RG (MV rfl rfl (ST (Ex.addC rfl rfl hxn45) rfl (AS rfl rfl (NL (IB (IB (TN ?_)))))))
           obtain ⟨n46, hxn46, e21⟩ := bnd e21
           refine RG (MV rfl rfl (ST (Ex.addC rfl rfl hxn46) rfl (AS rfl rfl (NL ?_))))
           exact WQ.againP m29 [(1, _), (8, _), (9, _)] ⟨rfl, rfl, rfl, trivial⟩ ⟨_, _, _, _, rfl, H, hg_maxl, e21⟩ (Nat.lt_succ_self _)
         ·
          replace hk37 : ¬ (c36 = 61) := of_decide_eq_false hk37
          rw [if_neg hk37] at e21
          refine SQ ?_
          obtain ⟨o47, e48, e21⟩ := bnd e21
          refine WC.cutX (fun e w => ∃ (b49 : Bool) (M : Mem), e = [(1, S p1), (8, v27), (9, I n28), (65, Value.bool b49)] ∧ St w0 M0 M [RowI 5 encB v27 l26] w ∧ GlF (fun w => ∃ m, w.cell? ⟨2, 0, none⟩ = some (.int .i64 m)) M ∧ some b49 = some o47) [] ?_ ?_ (trivial)
          ·
           obtain ⟨c50, hxc50, e48⟩ := bnd e48
           refine RG (MV rfl rfl (MV rfl rfl (ST (Ex.idxStrC Tryz.underlying9 rfl rfl hxc50) rfl ?_)))
           by_cases hk51 : 33 ≤ c50.toNat
           ·
            rw [if_pos hk51] at e48
            obtain ⟨c52, hxc52, e48⟩ := bnd e48
            refine WR.stepE (v' := .bool true) (Ex.geqB (i := c50.toNat) (j := 33) rfl rfl) (congrArg Value.bool (decide_eq_true hk51)) (Wn.none rfl) rfl rfl (MV rfl rfl (SG (Ex.move rfl) rfl rfl rfl (SG (Ex.move rfl) rfl rfl rfl (SG (Ex.idxStrC Tryz.underlying9 rfl rfl hxc52) rfl rfl rfl (SG (Ex.leqB (i := c52.toNat) (j := 126) rfl rfl) rfl rfl rfl (PT rfl rfl rfl (AS rfl rfl (NL ?_))))))))
            exact WQ.meetN [(1, _), (8, _), (9, _), (65, _)] ⟨rfl, rfl, rfl, rfl, trivial⟩ ⟨_, _, rfl, H, hg_maxl, e48⟩
           ·
            rw [if_neg hk51] at e48
            refine WR.stepE (v' := .bool false) (Ex.geqB (i := c50.toNat) (j := 33) rfl rfl) (congrArg Value.bool (decide_eq_false hk51)) (Wn.none rfl) rfl rfl (MV rfl rfl (WR.skipN 4 rfl rfl (PF rfl rfl rfl (AS rfl rfl (NL ?_)))))
            exact WQ.meetN [(1, _), (8, _), (9, _), (65, _)] ⟨rfl, rfl, rfl, rfl, trivial⟩ ⟨_, _, rfl, H, hg_maxl, e48⟩
          ·
           rintro e w ⟨b49, M, rfl, H, hg_maxl, q53⟩
           obtain rfl := Option.some.inj q53
           refine TN ?_
           refine WC.condB rfl (fun hk54 => ?_) (fun hk54 => ?_)
           ·
            subst hk54
            rw [if_pos rfl] at e21
            obtain ⟨c55, hxc55, e21⟩ := bnd e21
            obtain ⟨l56, hxl56, e21⟩ := bnd e21
            refine RG (MV rfl rfl (MV rfl rfl (MV rfl rfl (ST (Ex.idxStrC Tryz.underlying9 rfl rfl hxc55) rfl (WR.lit (enc := encB) xty30 ([c55] : List UInt8) H rfl (by rfl) (fun _ => rfl) rfl rfl (Wn.none rfl) rfl ?_)))))
            intro v80 M w H hle hs80
            replace hg_maxl := hg_maxl.mono hle
            refine WR.appC (l := l26) xty30 rfl (fun _ => rfl) H rfl (fun _ => by repeat first | exact .head | apply Upd.tail) rfl (hs80) hxl56 (Wn.none rfl) rfl ?_
            intro v81 w H
            refine AS rfl rfl (NL (IB (IB (TN ?_))))
            obtain ⟨n57, hxn57, e21⟩ := bnd e21
            refine RG (MV rfl rfl (ST (Ex.addC rfl rfl hxn57) rfl (AS rfl rfl (NL ?_))))
            exact WQ.againP m29 [(1, _), (8, _), (9, _)] ⟨rfl, rfl, rfl, trivial⟩ ⟨_, _, _, _, rfl, H, hg_maxl, e21⟩ (Nat.lt_succ_self _)
           ·
            subst hk54
            rw [if_neg Bool.false_ne_true] at e21
            refine SQ (RG (AS rfl rfl (AS rfl rfl (NL (TN (RT ?_))))))
            obtain rfl := Option.some.inj e21
            try dsimp only at h
            obtain rfl := Option.some.inj h
            exact WQ.ret2 rfl rfl rfl H.ext (⟨_, rfl, Sl.nil _ _⟩)
       ·
        replace hk31 : ¬ (n28 < (p1.length : Int)) := of_decide_eq_false hk31
        rw [if_neg hk31] at e21
        refine WC.exit (WQ.thenExit (WQ.thenExit (WQ.exitHere ?_)))
        exact WQ.meetN [(8, _)] ⟨rfl, trivial⟩ ⟨_, _, _, rfl, H, hg_maxl, e21⟩
      ·
       rintro e w ⟨l23, v24, M, rfl, H, hg_maxl, q58⟩
       obtain rfl := Option.some.inj q58
       try dsimp only at h
       refine TN (SQ (RG (MV rfl rfl (AS rfl rfl (AS rfl rfl (NL (TN (RT ?_))))))))
       obtain ⟨M, hle, hs59, H⟩ := H.freezeRow (v := v24) (enc := encB) (t := 5) (by repeat first | exact .head | apply Rem.tail)
       replace hg_maxl := hg_maxl.mono hle
       obtain rfl := Option.some.inj h
       exact WQ.ret2 rfl rfl rfl H.ext (⟨_, rfl, hs59⟩)
     ·
      subst hk19
      rw [if_neg Bool.false_ne_true] at h
      refine SK (IB (TN (SQ (RG (AS rfl rfl (AS rfl rfl (NL (TN (RT ?_)))))))))
      obtain rfl := Option.some.inj h
      exact WQ.ret2 rfl rfl rfl H.ext (⟨_, rfl, Sl.nil _ _⟩)
theorem basic_Failed_ct {p0 : (Int × Int)} {r : Bool} (h : basic_Failed p0 = some r) : Ct Tryz.prog 64 [Value.agg #[I p0.1, I p0.2]] (fun M => True) (fun v M => v = Value.bool r) := by
  refine Ct.of Tryz.func64 (enters Tryz.func64 (by kernel_rfl) rfl) rfl rfl rfl ?_
  intro w0 M0 H hp
  unfold basic_Failed at h
  refine SQ (RG (WR.box [_, _] H rfl rfl (Wn.none rfl) rfl ?_))
  intro b1 w H
  refine AS rfl rfl (NL (TN (SQ (RG (ST (Ex.fieldAddr Tryz.underlying24 rfl Tryz.sizeOf3 (by decide) rfl) rfl (ST (Ex.load1 H rfl (by repeat (first | exact List.Mem.head _ | apply List.Mem.tail)) Tryz.isAgg3 (by rfl)) rfl ?_))))))
  refine ST (Ex.neqC rfl rfl) rfl (AS rfl rfl (NL (TN (RT ?_))))
  obtain rfl := Option.some.inj h
  exact WQ.ret1 rfl rfl H.ext rfl
end Go.Proofs.YtogkmhjnojphiaaGreatDoor
end
