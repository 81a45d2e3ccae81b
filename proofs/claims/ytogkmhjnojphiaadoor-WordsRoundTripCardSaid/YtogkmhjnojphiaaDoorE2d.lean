/-
  Wpf, Wct1, Wct2, Lp, B64Law, Wa, Wb, Wc: own texts of this repository (wip/tpl, wip/plans), merged and shaken by wip/tools/pack.py.
-/
import Derived.Test.YtogkmhjnojphiaaDoorProg
import Derived.KernelRfl
import Derived.Lib.CountLaws
import Derived.Test.YtogkmhjnojphiaaDoorE2c
set_option maxRecDepth 100000
section
set_option linter.unusedVariables false
namespace Go.Ph.Pf
open Go.Ph.Pl
def utf8_ValidString (p0 : List UInt8) : Option Bool :=
  if p0.length ≤ 4611686018427387904 then some (Chs.vld p0) else none
def grapheme_Split (p0 : List UInt8) : Option (List (List UInt8)) :=
  if p0.length ≤ 1048576 then some (Gr.pieces p0) else none
def charset_Best (p0 : List UInt8) : Option (List UInt8) :=
  some (Chs.setN.getD (Chs.bestK p0) [])
def charset_Decode (p0 : List UInt8) (p1 : List UInt8) : Option (List UInt8 × (Int × Int)) :=
  if p0.length ≤ 9223372036854775807 ∧ p1.length ≤ 12000 then (match Chs.setOf p0 with | some k => some (Chs.decoded k p1, (0, 0)) | none => some ([], (18, -2))) else none
def charset_Encode (p0 : List UInt8) (p1 : List UInt8) : Option (List UInt8 × (Int × Int)) :=
  if p0.length ≤ 9223372036854775807 ∧ p1.length ≤ 12000 then (match Chs.setOf p0 with | some k => (if Chs.vld p1 = true then (match Chs.encGo (Chs.encK k) (Gr.chars p1) 0 with | .ok b => some (b, (0, 0)) | .error e => some ([], (17, (e : Int)))) else some ([], (5, -3))) | none => some ([], (18, -2))) else none
def base64_Encode (p0 : List UInt8) : Option (List UInt8 × (Int × Int)) :=
  if p0.length ≤ 12000 then some (B64.encode p0, (0, 0)) else none
def base64_Lenient (p0 : List UInt8) : Option (List UInt8 × (Int × Int)) :=
  if p0.length ≤ 24000 then some (B64.lenient p0, (0, 0)) else none
def strings_Join (p0 : List (List UInt8)) (p1 : List UInt8) : Option (List UInt8) :=
  if p0.length ≤ 140737488355328 ∧ (jn p1 p0).length ≤ 140737488355328 then some (jn p1 p0) else none
def strings_SplitN (p0 : List UInt8) (p1 : List UInt8) (p2 : Int) : Option (List (List UInt8)) :=
  if p0.length < 4294967281 ∧ 1 ≤ p1.length ∧ 1 ≤ p2 ∧ p2 ≤ 9223372036854775807 then some (Lib.splitN p0 p1 p2.toNat) else none
def strings_ReplaceAll (p0 : List UInt8) (p1 : List UInt8) (p2 : List UInt8) : Option (List UInt8) :=
  if p0.length < 4294967281 ∧ 1 ≤ p1.length ∧ p0.length + p0.length * p2.length ≤ 140737488355328 then some (Lib.replaceAll p0 p1 p2) else none
def strings_Contains (p0 : List UInt8) (p1 : List UInt8) : Option Bool :=
  if p0.length < 4294967281 then some (Lib.contains p0 p1) else none
def basic_Fault (p0 : Int) (p1 : Int) : Option (Int × Int) :=
  some (p0, p1)
def stringslite_HasPrefix (p0 : List UInt8) (p1 : List UInt8) : Option Bool :=
  ((if (p1.length : Int) ≤ (p0.length : Int) then (cut p0 0 (p1.length : Int)).bind fun s5 => some (decide (s5 = p1)) else some false)).bind fun b3 => some b3
def strings_HasPrefix (p0 : List UInt8) (p1 : List UInt8) : Option Bool :=
  (stringslite_HasPrefix p0 p1).bind fun b1 => some b1
def stringslite_HasSuffix (p0 : List UInt8) (p1 : List UInt8) : Option Bool :=
  ((if (p1.length : Int) ≤ (p0.length : Int) then (chk ((p0.length : Int) - (p1.length : Int))).bind fun n5 => (cut p0 n5 (p0.length : Int)).bind fun s6 => some (decide (s6 = p1)) else some false)).bind fun b3 => some b3
def strings_HasSuffix (p0 : List UInt8) (p1 : List UInt8) : Option Bool :=
  (stringslite_HasSuffix p0 p1).bind fun b1 => some b1
def words_plain_L1 (p0 : List UInt8) : Nat → Int → Option (Unit ⊕ Bool)
  | 0, _ => none
  | m4 + 1, n3 => (if n3 < (p0.length : Int) then ((idx p0 n3).bind fun c9 => (if c9.toNat < 32 then some true else (idx p0 n3).bind fun c11 => some (decide (126 < c11.toNat)))).bind fun b8 => (if b8 = true then some (.inr false) else (chk (n3 + 1)).bind fun n14 => words_plain_L1 p0 m4 n14) else some (.inl ()))
def words_plain (p0 : List UInt8) : Option Bool :=
  ((words_plain_L1 p0 FU 0 : Option (Unit ⊕ Bool))).bind fun o27 => (match o27 with | .inl _ => ((strings_HasPrefix p0 [32]).bind fun b19 => (if b19 = true then some false else (strings_HasSuffix p0 [32]).bind fun b21 => (if b21 = true then some false else (strings_Contains p0 [61, 63]).bind fun b23 => some (!b23)))).bind fun b18 => some b18 | .inr r26 => some r26)
def basic_None  : Option (Int × Int) :=
  some (0, 0)
def words_units (p0 : List UInt8) (p1 : List UInt8) : Option (List UInt8 × List UInt8) :=
  some (p1, p0)
def words_flat (p0 : List UInt8) : Option (List UInt8) :=
  (base64_Encode p0).bind fun (l1, (n2, n3)) => (strings_ReplaceAll l1 [13, 10] []).bind fun s5 => some s5
def strings_Builder_WriteByte (p0 : List UInt8) (p1 : UInt8) : Option (Bool × List UInt8) :=
  (app 1 p0 ([p1] : List UInt8)).bind fun l2 => some (true, l2)
def basic_Letter (p0 : UInt8) : Option Bool :=
  ((if 97 ≤ p0.toNat then (if p0.toNat ≤ 122 then some true else (if 65 ≤ p0.toNat then (if p0.toNat ≤ 90 then some true else (if 48 ≤ p0.toNat then some (decide (p0.toNat ≤ 57)) else some false)) else (if 48 ≤ p0.toNat then some (decide (p0.toNat ≤ 57)) else some false))) else (if 65 ≤ p0.toNat then (if p0.toNat ≤ 90 then some true else (if 48 ≤ p0.toNat then some (decide (p0.toNat ≤ 57)) else some false)) else (if 48 ≤ p0.toNat then some (decide (p0.toNat ≤ 57)) else some false)))).bind fun b3 => some b3
def basic_Digit (p0 : UInt8) : Option UInt8 :=
  (idx [48, 49, 50, 51, 52, 53, 54, 55, 56, 57, 65, 66, 67, 68, 69, 70] ((p0 &&& (15 : UInt8)).toNat : Int)).bind fun c1 => some c1
def strings_Builder_Write (p0 : List UInt8) (p1 : List UInt8) : Option (Int × Bool × List UInt8) :=
  (app 1 p0 p1).bind fun l2 => some ((p1.length : Int), true, l2)
def strings_Builder_String (p0 : List UInt8) : Option (List UInt8) :=
  some p0
def words_data_L1 (p0 : List UInt8) : Nat → List UInt8 → Int → Option (List UInt8)
  | 0, _, _ => none
  | m14 + 1, l11, n13 => (if n13 < (p0.length : Int) then (idx p0 n13).bind fun c17 => (if c17 = 32 then (strings_Builder_WriteByte l11 95).bind fun (b19, l20) => (chk (n13 + 1)).bind fun n22 => words_data_L1 p0 m14 l20 n22 else (basic_Letter c17).bind fun b23 => (if b23 = true then (strings_Builder_WriteByte l11 c17).bind fun (b26, l27) => (chk (n13 + 1)).bind fun n29 => words_data_L1 p0 m14 l27 n29 else (basic_Digit (UInt8.ofNat (c17.toNat / 2 ^ 4))).bind fun c30 => (basic_Digit c17).bind fun c32 => (strings_Builder_Write l11 ([61, c30, c32] : List UInt8)).bind fun (n34, b35, l36) => (chk (n13 + 1)).bind fun n38 => words_data_L1 p0 m14 l36 n38)) else some l11)
def words_data (p0 : List UInt8) : Option (List UInt8) :=
  (words_data_L1 p0 FU [] 0).bind fun l6 => (strings_Builder_String l6).bind fun s40 => some s40
def words_word (p0 : List UInt8) (p1 : List UInt8) : Option (List UInt8) :=
  (charset_Encode p0 p1).bind fun (l1, (n2, n3)) => (if p0 = [117, 116, 102, 56] then (cat [61, 63] p0).bind fun s6 => (cat s6 [63, 66, 63]).bind fun s7 => (words_flat l1).bind fun s8 => (cat s7 s8).bind fun s10 => (cat s10 [63, 61]).bind fun s11 => some s11 else (cat [61, 63] p0).bind fun s12 => (cat s12 [63, 81, 63]).bind fun s13 => (words_data l1).bind fun s14 => (cat s13 s14).bind fun s16 => (cat s16 [63, 61]).bind fun s17 => some s17)
def words_units_1_L2 {σ : Type} (Y : σ → (List UInt8) → Option (σ × Bool)) (a10 : List UInt8) : Nat → Nat → σ → Option (σ ⊕ σ)
  | 0, _, _ => none
  | m24 + 1, ps22, s23 => (if ps22 < a10.length then (Y s23 (Chs.utf8 ((Utf.dr (a10.drop ps22)).1 : Int))).bind fun (s26, b27) => (if b27 = true then words_units_1_L2 Y a10 m24 (ps22 + (Utf.dr (a10.drop ps22)).2) s26 else some (.inr s26)) else some (.inl s23))
def words_units_1_L1 {σ : Type} (Y : σ → (List UInt8) → Option (σ × Bool)) (p2 : List UInt8) (l1 : List (List UInt8)) : Nat → Int → σ → Option (σ ⊕ σ)
  | 0, _, _ => none
  | m8 + 1, n6, s7 => (if n6 < (l1.length : Int) then (idx l1 n6).bind fun a10 => (words_word p2 a10).bind fun s11 => (if (s11.length : Int) ≤ (75 : Int) then (Y s7 a10).bind fun (s14, b15) => (if b15 = true then (chk (n6 + 1)).bind fun n18 => words_units_1_L1 Y p2 l1 m8 n18 s14 else some (.inr s14)) else ((words_units_1_L2 Y a10 FU 0 s7 : Option (σ ⊕ σ))).bind fun o33 => (match o33 with | .inl s21 => (chk (n6 + 1)).bind fun n31 => words_units_1_L1 Y p2 l1 m8 n31 s21 | .inr r32 => some (.inr r32))) else some (.inl s7))
def words_units_1 (p1 : List UInt8) (p2 : List UInt8) (σ : Type) (Y : σ → (List UInt8) → Option (σ × Bool)) (s0 : σ) : Option σ :=
  (grapheme_Split p1).bind fun l1 => ((words_units_1_L1 Y p2 l1 FU 0 s0 : Option (σ ⊕ σ))).bind fun o36 => (match o36 with | .inl s5 => some s5 | .inr r35 => some r35)
def words_Encode_Y28 (s17 : List UInt8) (s : (List (List UInt8) × List UInt8)) (x32 : List UInt8) : Option (List (List UInt8) × List UInt8) :=
  match s with
  | (l25, s27) => ((if s27 = [] then some false else (cat s27 x32).bind fun s38 => (words_word s17 s38).bind fun s39 => some (decide ((75 : Int) < (s39.length : Int))))).bind fun b36 => (if b36 = true then (words_word s17 s27).bind fun s43 => (app 16 l25 ([s43] : List (List UInt8))).bind fun l45 => (cat [] x32).bind fun s47 => some (l45, s47) else (cat s27 x32).bind fun s48 => some (l25, s48))
def words_Encode (p0 : List UInt8) : Option (List UInt8 × (Int × Int)) :=
  (if (1000 : Int) < (p0.length : Int) then (basic_Fault 1 (-1)).bind fun (n2, n3) => some ([], (n2, n3)) else (utf8_ValidString p0).bind fun b5 => (if b5 = true then (words_plain p0).bind fun b11 => (if b11 = true then (basic_None).bind fun (n14, n15) => some (p0, (n14, n15)) else (charset_Best p0).bind fun s17 => (words_units s17 p0).bind fun (z19, z21) => (words_units_1 z19 z21 (List (List UInt8) × List UInt8) (stepY goOn (words_Encode_Y28 s17)) ([], [])).bind fun (l25, s27) => (words_word s17 s27).bind fun s49 => (app 16 l25 ([s49] : List (List UInt8))).bind fun l51 => (strings_Join l51 [32]).bind fun s53 => (basic_None).bind fun (n55, n56) => some (s53, (n55, n56))) else (basic_Fault 5 (-2)).bind fun (n8, n9) => some ([], (n8, n9))))
def basic_Hex (p0 : UInt8) : Option (UInt8 × Bool) :=
  ((if 48 ≤ p0.toNat then some (decide (p0.toNat ≤ 57)) else some false)).bind fun b3 => (if b3 = true then some ((p0 - (48 : UInt8)), true) else ((if 65 ≤ p0.toNat then some (decide (p0.toNat ≤ 70)) else some false)).bind fun b9 => (if b9 = true then some (((p0 - (65 : UInt8)) + (10 : UInt8)), true) else ((if 97 ≤ p0.toNat then some (decide (p0.toNat ≤ 102)) else some false)).bind fun b15 => (if b15 = true then some (((p0 - (97 : UInt8)) + (10 : UInt8)), true) else some (0, false))))
def basic_Pair (p0 : List UInt8) : Option (UInt8 × Bool) :=
  (if (p0.length : Int) < (2 : Int) then some (0, false) else (idx p0 0).bind fun c2 => (basic_Hex c2).bind fun (c3, b4) => (idx p0 1).bind fun c6 => (basic_Hex c6).bind fun (c7, b8) => ((if b4 = true then some (((UInt8.ofNat (c3.toNat * 2 ^ 4)) ||| c7), b8) else some (((UInt8.ofNat (c3.toNat * 2 ^ 4)) ||| c7), false))).bind fun (c12, b13) => some (c12, b13))
def words_bytesOf_L1 (p1 : List UInt8) : Nat → List UInt8 → Int → Option (List UInt8 ⊕ (List UInt8 × Bool))
  | 0, _, _ => none
  | m29 + 1, l26, n28 => (if n28 < (p1.length : Int) then (idx p1 n28).bind fun c32 => (if c32 = 95 then (app 1 l26 ([32] : List UInt8)).bind fun l34 => (chk (n28 + 1)).bind fun n35 => words_bytesOf_L1 p1 m29 l34 n35 else (idx p1 n28).bind fun c36 => (if c36 = 61 then (chk (n28 + 1)).bind fun n38 => (cut p1 n38 (p1.length : Int)).bind fun s39 => (basic_Pair s39).bind fun (c40, b41) => (if b41 = true then (app 1 l26 ([c40] : List UInt8)).bind fun l44 => (chk (n28 + 2)).bind fun n45 => (chk (n45 + 1)).bind fun n46 => words_bytesOf_L1 p1 m29 l44 n46 else some (.inr ([], false))) else ((idx p1 n28).bind fun c50 => (if 33 ≤ c50.toNat then (idx p1 n28).bind fun c52 => some (decide (c52.toNat ≤ 126)) else some false)).bind fun b49 => (if b49 = true then (idx p1 n28).bind fun c55 => (app 1 l26 ([c55] : List UInt8)).bind fun l56 => (chk (n28 + 1)).bind fun n57 => words_bytesOf_L1 p1 m29 l56 n57 else some (.inr ([], false))))) else some (.inl l26))
def words_bytesOf (p0 : List UInt8) (p1 : List UInt8) : Option (List UInt8 × Bool) :=
  ((if p0 = [66] then some (decide (p0 = [66])) else some (decide (p0 = [98])))).bind fun b3 => (if b3 = true then (toB p1).bind fun l7 => (base64_Lenient l7).bind fun (l8, (n9, n10)) => (words_flat l8).bind fun s12 => some (l8, decide (s12 = p1)) else ((if p0 = [81] then some (decide (p0 = [81])) else some (decide (p0 = [113])))).bind fun b16 => (if b16 = true then ((words_bytesOf_L1 p1 FU [] 0 : Option (List UInt8 ⊕ (List UInt8 × Bool)))).bind fun o61 => (match o61 with | .inl l23 => some (l23, true) | .inr r60 => some r60) else some ([], false)))
def basic_Failed (p0 : (Int × Int)) : Option Bool :=
  some (!decide (p0.1 = (0 : Int)))
def words_read (p0 : List UInt8) : Option (List UInt8 × Int × Bool) :=
  (strings_HasPrefix p0 [61, 63]).bind fun b1 => (if b1 = true then (cut p0 2 (min (p0.length : Int) 75)).bind fun s4 => (strings_SplitN s4 [63] 4).bind fun l5 => ((if (l5.length : Int) < (4 : Int) then some true else (idx l5 3).bind fun a11 => (strings_HasPrefix a11 [61]).bind fun b12 => some (!b12))).bind fun b9 => (if b9 = true then some ([], 0, false) else (idx l5 1).bind fun a16 => (idx l5 2).bind fun a17 => (words_bytesOf a16 a17).bind fun (l18, b19) => (idx l5 0).bind fun a21 => (charset_Decode a21 l18).bind fun (s22, (n23, n24)) => ((idx l5 0).bind fun a31 => (chk ((2 : Int) + (a31.length : Int))).bind fun n32 => (idx l5 1).bind fun a33 => (chk (n32 + (a33.length : Int))).bind fun n34 => (idx l5 2).bind fun a35 => (chk (n34 + (a35.length : Int))).bind fun n36 => (chk (n36 + 4)).bind fun n37 => (if b19 = true then (basic_Failed (n23, n24)).bind fun b38 => some (s22, n37, !b38) else some (s22, n37, false))).bind fun (s28, n29, b30) => some (s28, n29, b30)) else some ([], 0, false))
def basic_Blank (p0 : UInt8) : Option Bool :=
  ((if p0 = 32 then some true else some (decide (p0 = 9)))).bind fun b3 => some b3
def strings_Builder_WriteString (p0 : List UInt8) (p1 : List UInt8) : Option (Int × Bool × List UInt8) :=
  (app 1 p0 p1).bind fun l2 => some ((p1.length : Int), true, l2)
def words_Decode_L1 (p0 : List UInt8) : Nat → List UInt8 → Int → Int → Option (List UInt8 × Int)
  | 0, _, _, _ => none
  | m20 + 1, l16, n18, n19 => (if n19 < (p0.length : Int) then (cut p0 n19 (p0.length : Int)).bind fun s23 => (words_read s23).bind fun (s24, n25, b26) => (if b26 = true then (strings_Builder_WriteString l16 s24).bind fun (n67, b68, l69) => (chk (n19 + n25)).bind fun n71 => words_Decode_L1 p0 m20 l69 n71 n71 else ((if n18 < (0 : Int) then (idx p0 n19).bind fun c37 => (strings_Builder_WriteByte l16 c37).bind fun (b38, l39) => some l39 else some l16)).bind fun l34 => ((if (0 : Int) ≤ n18 then (idx p0 n19).bind fun c46 => (basic_Blank c46).bind fun b47 => some (!b47) else some false)).bind fun b44 => ((if b44 = true then (chk (n19 + 1)).bind fun n59 => (cut p0 n18 n59).bind fun s60 => (strings_Builder_WriteString l34 s60).bind fun (n61, b62, l63) => some (l63, (-1)) else some (l34, n18))).bind fun (l55, n57) => (chk (n19 + 1)).bind fun n66 => words_Decode_L1 p0 m20 l55 n57 n66) else some (l16, n18))
def words_Decode (p0 : List UInt8) : Option (List UInt8 × (Int × Int)) :=
  (if (4000 : Int) < (p0.length : Int) then (basic_Fault 1 (-1)).bind fun (n2, n3) => some ([], (n2, n3)) else (words_Decode_L1 p0 FU [] (-1) 0).bind fun (l10, n12) => ((if (0 : Int) ≤ n12 then (cut p0 n12 (p0.length : Int)).bind fun s81 => (strings_Builder_WriteString l10 s81).bind fun (n82, b83, l84) => some l84 else some l10)).bind fun l78 => (strings_Builder_String l78).bind fun s87 => (basic_None).bind fun (n89, n90) => some (s87, (n89, n90)))
def L_wordsExample  : Option Bool :=
  (words_Encode [195, 164, 32, 98]).bind fun (s1, (n2, n3)) => (words_Decode [61, 63, 108, 97, 116, 105, 110, 49, 63, 81, 63, 61, 69, 52, 95, 98, 63, 61]).bind fun (s5, (n6, n7)) => ((if n2 = (0 : Int) then (if n6 = (0 : Int) then (if s1 = [61, 63, 108, 97, 116, 105, 110, 49, 63, 81, 63, 61, 69, 52, 95, 98, 63, 61] then some (decide (s5 = [195, 164, 32, 98])) else some false) else some false) else some false)).bind fun b11 => some b11
def L_WordsRoundTrip (p0 : List UInt8) : Option Bool :=
  (L_wordsExample).bind fun b1 => (if b1 = true then (words_Encode p0).bind fun (s4, (n5, n6)) => (if n5 = (0 : Int) then (words_Decode s4).bind fun (s9, (n10, n11)) => ((if n10 = (0 : Int) then some (decide (s9 = p0)) else some false)).bind fun b15 => some b15 else some (decide (s4 = []))) else some false)
end Go.Ph.Pf
end
section
set_option maxRecDepth 100000
set_option linter.unusedVariables false
set_option linter.unusedSimpArgs false
namespace Go.Proofs.YtogkmhjnojphiaaDoor
open Go Go.RowKit Go.Ph Go.Ph.Pl Go.Ph.Pf
theorem xplaces24 : ∀ {fs : Array Field}, Tryd.prog.underlying 24 = some (.struct fs) → ∀ w, (fs.mapM fun f => do pure (f.offset, ← sizeOf f.type) : Sem (Array (Nat × Nat))).run Tryd.prog w = .ok #[(0, 1), (1, 1)] w := by
  intro fs h w
  rw [Tryd.underlying24] at h
  cases h
  simp
theorem xty39 : ElemTy Tryd.prog 39 5 (.int .u8 0) 1 1 := ElemTy.mk' Tryd.underlying39 (by kernel_rfl) rfl (by decide)
theorem xty32 : ElemTy Tryd.prog 32 9 (.string ⟨#[]⟩) 1 16 := ElemTy.mk' Tryd.underlying32 (by kernel_rfl) rfl (by decide)
theorem join_jn (sep : List UInt8) : ∀ l : List (List UInt8), Lib.join l sep = jn sep l
  | [] => rfl
  | [x] => Lib.join_one x sep
  | x :: y :: r => by
    have h := join_jn sep (y :: r)
    rw [Lib.join_cons] at h ⊢
    rw [jn, ← h]
    simp [Lib.joinTail]
theorem utf8_ValidString_ct {p0 : List UInt8} {r : Bool} (h : utf8_ValidString p0 = some r) : Ct Tryd.prog 10 [S p0] (fun M => Tabs M) (fun v M => v = Value.bool r) := by
  unfold utf8_ValidString at h
  split at h
  case isFalse => cases h
  rename_i hb
  cases h
  exact validString_spec p0 hb
theorem grapheme_Split_ct {p0 : List UInt8} {r : List (List UInt8)} (h : grapheme_Split p0 = some r) : Ct Tryd.prog 27 [S p0] (fun M => Tabs M) (fun v M => Sl M encS v r) := by
  unfold grapheme_Split at h
  split at h
  case isFalse => cases h
  rename_i hb
  cases h
  exact split_spec p0 hb
theorem charset_Best_ct {p0 : List UInt8} {r : List UInt8} (h : charset_Best p0 = some r) : Ct Tryd.prog 13 [S p0] (fun M => True) (fun v M => v = S r) := by
  unfold charset_Best at h
  cases h
  exact best_spec p0
theorem charset_Decode_ct {p0 : List UInt8} {p1 : List UInt8} {vp1 : Value} {r : (List UInt8 × (Int × Int))} (h : charset_Decode p0 p1 = some r) : Ct Tryd.prog 34 [S p0, vp1] (fun M => Sl M encB vp1 p1) (fun v M => v = Value.tuple #[S r.1, Value.agg #[I r.2.1, I r.2.2]]) := by
  unfold charset_Decode at h
  split at h
  case isFalse => cases h
  rename_i hb
  split at h
  · rename_i k hk; cases h; exact decode_spec_k p0 vp1 p1 hb.1 hb.2 k hk
  · rename_i hk; cases h; exact decode_unk p0 vp1 p1 hb.1 hb.2 hk
theorem charset_Encode_ct {p0 : List UInt8} {p1 : List UInt8} {r : (List UInt8 × (Int × Int))} (h : charset_Encode p0 p1 = some r) : Ct Tryd.prog 28 [S p0, S p1] (fun M => Tabs M) (fun v M => ∃ x0, v = Value.tuple #[x0, Value.agg #[I r.2.1, I r.2.2]] ∧ Sl M encB x0 r.1) := by
  unfold charset_Encode at h
  split at h
  case isFalse => cases h
  rename_i hb
  split at h
  · rename_i k hk
    split at h
    · rename_i hv
      split at h
      · rename_i b he; cases h; exact encode_ok hb.1 hb.2 hk hv he
      · rename_i e he; cases h; exact (encode_err hb.1 hb.2 hk hv he).mono fun v M hv => ⟨_, hv, Sl.nil _ _⟩
    · rename_i hv; cases h; exact (encode_mal p0 p1 hb.1 hb.2 k hk (by simpa using hv)).mono fun v M hv => ⟨_, hv, Sl.nil _ _⟩
  · rename_i hk; cases h; exact (encode_unk p0 p1 hb.1 hb.2 hk).mono fun v M hv => ⟨_, hv, Sl.nil _ _⟩
theorem base64_Encode_ct {p0 : List UInt8} {vp0 : Value} {r : (List UInt8 × (Int × Int))} (h : base64_Encode p0 = some r) : Ct Tryd.prog 42 [vp0] (fun M => Sl M encB vp0 p0) (fun v M => ∃ x0, v = Value.tuple #[x0, Value.agg #[I r.2.1, I r.2.2]] ∧ Sl M encB x0 r.1) := by
  unfold base64_Encode at h
  split at h
  case isFalse => cases h
  rename_i hb
  cases h
  exact encode_spec vp0 p0 hb
theorem base64_Lenient_ct {p0 : List UInt8} {vp0 : Value} {r : (List UInt8 × (Int × Int))} (h : base64_Lenient p0 = some r) : Ct Tryd.prog 49 [vp0] (fun M => Sl M encB vp0 p0) (fun v M => ∃ x0, v = Value.tuple #[x0, Value.agg #[I r.2.1, I r.2.2]] ∧ Sl M encB x0 r.1) := by
  unfold base64_Lenient at h
  split at h
  case isFalse => cases h
  rename_i hb
  cases h
  exact lenient_spec vp0 p0 hb
theorem strings_Join_ct {p0 : List (List UInt8)} {p1 : List UInt8} {vp0 : Value} {r : List UInt8} (h : strings_Join p0 p1 = some r) : Ct Tryd.prog 16 [vp0, S p1] (fun M => Sl M encS vp0 p0) (fun v M => v = S r) := by
  unfold strings_Join at h
  split at h
  case isFalse => cases h
  rename_i hb
  cases h
  refine ⟨enters Tryd.func16 (by kernel_rfl) rfl, fun w M ha hp => ?_⟩
  obtain ⟨A, cp, rfl, hc, hn⟩ := Sl.cells hp ha
  rcases Nat.eq_zero_or_pos p0.length with h0 | h0
  · obtain rfl := List.eq_nil_of_length_eq_zero h0
    exact (Tryd.strings_Join_none A cp ⟨p1.toArray⟩ w).mono fun e w' ⟨he, hw⟩ => ⟨_, M, he, by subst hw; exact Ext.refl ha, rfl⟩
  · cases A with
    | none => obtain ⟨rfl, _⟩ := hn rfl; simp at h0
    | some ad =>
      obtain ⟨A', c', he', h1, ⟨h2, h3⟩, h4⟩ := hp
      cases he'
      obtain ⟨b, o, cs, t0, fz, e1, e2, e3⟩ := h4 (fun h => by rw [h] at h0; simp at h0)
      cases e1
      have hmap : (p0.map (fun l => (⟨l.toArray⟩ : ByteArray))).map (·.data.toList) = p0 := by
        rw [List.map_map]
        conv => rhs; rw [← List.map_id p0]
        exact List.map_congr_left (fun l _ => rfl)
      have hcall := Tryd.strings_Join b o cp (p0.map (fun l => (⟨l.toArray⟩ : ByteArray))) ⟨p1.toArray⟩ w (fun j x hx => by
        rw [List.getElem?_map] at hx
        obtain ⟨y, hy, rfl⟩ := Option.map_eq_some_iff.1 hx
        have := hc ⟨b, o, none⟩ rfl j (encS y) (by rw [List.getElem?_map, hy]; rfl)
        simpa [Addr.add_lit] using this) (ha.lt e2) (by simpa using hb.1) (by simpa using h1) (by rw [hmap, join_jn]; simpa using hb.2)
      rw [hmap, join_jn] at hcall
      simp only [List.length_map] at hcall
      exact hcall.mono fun e w' ⟨he, hw⟩ => ⟨_, M, he, ⟨BelowX.of hw _, Mem.le.refl M, fun b' o' hb' => by rw [hw.block b' (ha.lt hb')]; exact ha b' o' hb', fun b' hb' => rfl⟩, by simp⟩
theorem strings_SplitN_ct {p0 : List UInt8} {p1 : List UInt8} {p2 : Int} {r : List (List UInt8)} (h : strings_SplitN p0 p1 p2 = some r) : Ct Tryd.prog 32 [S p0, S p1, I p2] (fun M => GlF (fun w => ∃ m, w.cell? ⟨2, 0, none⟩ = some (.int .i64 m)) M) (fun v M => Sl M encS v r) := by
  unfold strings_SplitN at h
  split at h
  case isFalse => cases h
  rename_i hb
  cases h
  refine ⟨enters Tryd.func32 (by kernel_rfl) rfl, fun w M ha hp => ?_⟩
  obtain ⟨m, hm⟩ := hp w ha
  obtain ⟨n, rfl⟩ := Int.eq_ofNat_of_zero_le (Int.le_trans (by decide) hb.2.2.1)
  have hs : (⟨p0.toArray⟩ : ByteArray).size = p0.length := by simp [ByteArray.size]
  have hd : (Lib.splitB ⟨p1.toArray⟩ 0 (min n ((⟨p0.toArray⟩ : ByteArray).size + 1) - 1) ⟨p0.toArray⟩).map (·.data.toList) = Lib.splitN p0 p1 ((n : Int).toNat) := by rw [Lib.splitB_data, hs]; rfl
  have hl := Lib.splitB_length_le ⟨p1.toArray⟩ 0 (min n ((⟨p0.toArray⟩ : ByteArray).size + 1) - 1) ⟨p0.toArray⟩
  have hlen := congrArg List.length hd
  rw [List.length_map] at hlen
  refine (Tryd.strings_SplitN ⟨p0.toArray⟩ ⟨p1.toArray⟩ n m w (by omega) hm (by simpa [ByteArray.size] using hb.2.1) (by omega) (by omega)).mono fun e w' ⟨he, hw⟩ => ⟨_, M.set w.heap.size _, he, by subst hw; exact Ext.ofAlloc ha _, ?_⟩
  rw [hlen]
  exact Sl.splitN (t := 9) (fz := (0, 0)) hd (by omega) (by omega) (by simp [Mem.set])
theorem strings_ReplaceAll_ct {p0 : List UInt8} {p1 : List UInt8} {p2 : List UInt8} {r : List UInt8} (h : strings_ReplaceAll p0 p1 p2 = some r) : Ct Tryd.prog 43 [S p0, S p1, S p2] (fun M => GlF (fun w => ∃ m, w.cell? ⟨2, 0, none⟩ = some (.int .i64 m)) M) (fun v M => v = S r) := by
  unfold strings_ReplaceAll at h
  split at h
  case isFalse => cases h
  rename_i hb
  cases h
  refine ⟨enters Tryd.func43 (by kernel_rfl) rfl, fun w M ha hp => ?_⟩
  obtain ⟨m, hm⟩ := hp w ha
  have hs : (⟨p0.toArray⟩ : ByteArray).size = p0.length := by simp [ByteArray.size]
  have hc : Lib.countB ⟨p0.toArray⟩ ⟨p1.toArray⟩ ≤ p0.length := by simpa [ByteArray.size] using Lib.countB_le ⟨p1.toArray⟩ (by simpa [ByteArray.size] using hb.2.1) _ ⟨p0.toArray⟩ (Nat.le_refl _)
  have hc2 := Nat.mul_le_mul_right p2.length hc
  exact (Tryd.strings_ReplaceAll ⟨p0.toArray⟩ ⟨p1.toArray⟩ ⟨p2.toArray⟩ m w (by omega) hm (by simpa [ByteArray.size] using hb.2.1) (by simp only [ByteArray.size, List.size_toArray]; omega)).mono fun e w' ⟨he, hw⟩ => ⟨_, M, he, Ext.ofBelow ha hw, rfl⟩
theorem strings_Contains_ct {p0 : List UInt8} {p1 : List UInt8} {r : Bool} (h : strings_Contains p0 p1 = some r) : Ct Tryd.prog 25 [S p0, S p1] (fun M => GlF (fun w => ∃ m, w.cell? ⟨2, 0, none⟩ = some (.int .i64 m)) M) (fun v M => v = Value.bool r) := by
  unfold strings_Contains at h
  split at h
  case isFalse => cases h
  rename_i hb
  cases h
  refine ⟨enters Tryd.func25 (by kernel_rfl) rfl, fun w M ha hp => ?_⟩
  obtain ⟨m, hm⟩ := hp w ha
  exact (Tryd.strings_Contains ⟨p0.toArray⟩ ⟨p1.toArray⟩ m w (by simpa [ByteArray.size] using hb) hm).mono fun e w' ⟨he, hw⟩ => ⟨_, M, he, by subst hw; exact Ext.refl ha, rfl⟩
theorem copyCheck_ct {b : Nat} {p v : Value} {M0 : Mem} (hb : BPM M0 b p) : CtX Tryd.prog 36 [ptr b 0] [.blk b (.cells #[p, v] 41)] (fun _ => True) (fun r _ its => r = .tuple #[] ∧ its = [.blk b (.cells #[ptr b 0, v] 41)]) := by
  refine CtX.of Tryd.func36 (enters Tryd.func36 (by kernel_rfl) rfl) rfl rfl rfl ?_
  intro w M H _
  obtain ⟨j, hj, hjs⟩ := Option.map_eq_some_iff.1 (show (Tryd.prog.info? 41).map (·.size) = some 2 by kernel_rfl)
  have hl : liesAt Tryd.prog Tryd.prog.depth 41 (2 / Tryd.prog.cellsOf 41) 0 41 1 = true := by kernel_rfl
  have hbk := H.blk (List.Mem.head _)
  refine WC.seq (WC.region ?_)
  refine MV rfl rfl (ST (Ex.nilCheckP rfl) rfl (ST (Ex.fieldAddr Tryd.underlying41 rfl Tryd.sizeOf38 (by decide) rfl) rfl (ST (Ex.load1 H rfl (by repeat (first | exact List.Mem.head _ | apply List.Mem.tail)) Tryd.isAgg38 (by rfl)) rfl ?_)))
  rcases hb with rfl | rfl
  · refine WR.step (Ex.ptrNil Tryd.underlying38 rfl) (Wn.none rfl) rfl rfl ?_
    refine WR.nil (WQ.then (WC.condT rfl (WC.region ?_)))
    refine MV rfl rfl (MV rfl rfl (ST (Ex.toUnsafe Tryd.underlying38 Tryd.underlying86 hj (by rw [hjs]; decide) (T := 41) (cells := 2) (a := ⟨b, 0, none⟩) (by simp [World.shape?, hbk]) (by show (0 : Nat) < 2; decide) rfl) rfl ?_))
    refine ST (Ex.noEscape Tryd.func51 (by kernel_rfl) (by kernel_rfl) (by kernel_rfl) (by kernel_rfl) rfl) rfl (ST (Ex.fromUnsafe Tryd.underlying86 Tryd.underlying38 hj (T := 41) (cells := 2) (a := ⟨b, 0, none⟩) (by simp [World.shape?, hbk]) hl rfl) rfl ?_)
    refine ST (Ex.nilCheckP rfl) rfl (ST (Ex.fieldAddr Tryd.underlying41 rfl Tryd.sizeOf38 (by decide) rfl) rfl (WR.putV [_, _] H rfl rfl ⟨rfl, rfl⟩ (by repeat first | exact .head | apply Upd.tail) (by rfl) Tryd.sizeOf38 (by first | decide | (simp; done) | (simp; omega)) (Wn.none rfl) ?_))
    intro w H
    refine NL ?_
    exact WQ.endX0 rfl H (by repeat (first | exact Pick.nil | refine Pick.cons (by repeat first | exact .head | apply Rem.tail) ?_)) ⟨rfl, rfl⟩
  · refine WR.step (Ex.ptrNil Tryd.underlying38 rfl) (Wn.none rfl) rfl rfl ?_
    refine WR.nil (WQ.then (WC.condF rfl (WC.seq (WC.region ?_))))
    refine MV rfl rfl (ST (Ex.nilCheckP rfl) rfl (ST (Ex.fieldAddr Tryd.underlying41 rfl Tryd.sizeOf38 (by decide) rfl) rfl (ST (Ex.load1 H rfl (by repeat (first | exact List.Mem.head _ | apply List.Mem.tail)) Tryd.isAgg38 (by rfl)) rfl ?_)))
    refine MV rfl rfl (ST (Ex.ptrNeqSame Tryd.underlying38 hj rfl rfl) rfl ?_)
    refine WR.nil (WQ.then (WC.condF rfl (WC.skip ?_)))
    exact WQ.endX0 rfl H (by repeat (first | exact Pick.nil | refine Pick.cons (by repeat first | exact .head | apply Rem.tail) ?_)) ⟨rfl, rfl⟩
theorem basic_Fault_ct {p0 : Int} {p1 : Int} {r : (Int × Int)} (h : basic_Fault p0 p1 = some r) : Ct Tryd.prog 9 [I p0, I p1] (fun M => True) (fun v M => v = Value.agg #[I r.1, I r.2]) := by
  refine Ct.of Tryd.func9 (enters Tryd.func9 (by kernel_rfl) rfl) rfl rfl rfl ?_
  intro w0 M0 H hp
  unfold basic_Fault at h
  refine SQ (RG (WR.alloc [_, _] H Tryd.zeroValue24 rfl (Wn.none rfl) rfl ?_))
  intro b4 w H
  refine NL (TN (SQ (RG (MV rfl rfl (MV rfl rfl (ST (Ex.build [I p0, I p1] Tryd.underlying24 Tryd.zeroValue24 (xplaces24 Tryd.underlying24) rfl rfl) rfl (WR.store [_, _] H rfl rfl rfl (by repeat first | exact .head | apply Upd.tail) Tryd.sizeOf24 rfl (by rfl) (by rfl) (Wn.none rfl) ?_)))))))
  intro w H
  refine NL (TN (RT ?_))
  obtain rfl := Option.some.inj h
  exact WQ.ret1 rfl ⟨_, rfl, H.loadAgg (by repeat (first | exact List.Mem.head _ | apply List.Mem.tail)) Tryd.isAgg24 Tryd.sizeOf24 (by rfl)⟩ H.ext rfl
theorem stringslite_HasPrefix_ct {p0 : List UInt8} {p1 : List UInt8} {r : Bool} (h : stringslite_HasPrefix p0 p1 = some r) : Ct Tryd.prog 37 [S p0, S p1] (fun M => True) (fun v M => v = Value.bool r) := by
  refine Ct.of Tryd.func37 (enters Tryd.func37 (by kernel_rfl) rfl) rfl rfl rfl ?_
  intro w0 M0 H hp
  unfold stringslite_HasPrefix at h
  refine SQ (RG (AS rfl rfl (NL (TN (SQ ?_)))))
  obtain ⟨o1, e2, h⟩ := bnd h
  refine WC.cutX (fun e w => ∃ (b3 : Bool) (M : Mem), e = [(4, Value.bool b3)] ∧ St w0 M0 M [] w ∧ some b3 = some o1) [] ?_ ?_ (trivial)
  ·
   refine RG (MV rfl rfl (ST (Ex.lenStr Tryd.underlying9 rfl) rfl (MV rfl rfl (ST (Ex.lenStr Tryd.underlying9 rfl) rfl ?_))))
   by_cases hk4 : (p1.length : Int) ≤ (p0.length : Int)
   ·
    rw [if_pos hk4] at e2
    obtain ⟨s5, hxs5, e2⟩ := bnd e2
    refine WR.stepE (v' := .bool true) (Ex.geq rfl rfl) (congrArg Value.bool (decide_eq_true hk4)) (Wn.none rfl) rfl rfl (MV rfl rfl (SG (Ex.move rfl) rfl rfl rfl (SG (Ex.move rfl) rfl rfl rfl (SG (Ex.lenStr Tryd.underlying9 rfl) rfl rfl rfl (SG (Ex.sliceH Tryd.underlying9 rfl rfl hxs5) rfl rfl rfl (SG (Ex.move rfl) rfl rfl rfl (SG (Ex.strEql rfl rfl) rfl rfl rfl (PT rfl rfl rfl (AS rfl rfl (NL ?_))))))))))
    exact WQ.meetN [(4, _)] ⟨rfl, trivial⟩ ⟨_, _, rfl, H, e2⟩
   ·
    rw [if_neg hk4] at e2
    refine WR.stepE (v' := .bool false) (Ex.geq rfl rfl) (congrArg Value.bool (decide_eq_false hk4)) (Wn.none rfl) rfl rfl (MV rfl rfl (WR.skipN 6 rfl rfl (PF rfl rfl rfl (AS rfl rfl (NL ?_)))))
    exact WQ.meetN [(4, _)] ⟨rfl, trivial⟩ ⟨_, _, rfl, H, e2⟩
  ·
   rintro e w ⟨b3, M, rfl, H, q6⟩
   obtain rfl := Option.some.inj q6
   refine TN (RT ?_)
   obtain rfl := Option.some.inj h
   exact WQ.ret1 rfl rfl H.ext rfl
theorem strings_HasPrefix_ct {p0 : List UInt8} {p1 : List UInt8} {r : Bool} (h : strings_HasPrefix p0 p1 = some r) : Ct Tryd.prog 23 [S p0, S p1] (fun M => True) (fun v M => v = Value.bool r) := by
  refine Ct.of Tryd.func23 (enters Tryd.func23 (by kernel_rfl) rfl) rfl rfl rfl ?_
  intro w0 M0 H hp
  unfold strings_HasPrefix at h
  refine SQ (RG (AS rfl rfl (NL (TN (SQ ?_)))))
  obtain ⟨b1, hx2, h⟩ := bnd h
  refine RG (MV rfl rfl (MV rfl rfl (WR.call H (stringslite_HasPrefix_ct hx2) rfl trivial (Wn.none rfl) rfl ?_)))
  intro v7 M w H hle hR
  obtain rfl := hR
  refine AS rfl rfl (NL (TN (RT ?_)))
  obtain rfl := Option.some.inj h
  exact WQ.ret1 rfl rfl H.ext rfl
theorem stringslite_HasSuffix_ct {p0 : List UInt8} {p1 : List UInt8} {r : Bool} (h : stringslite_HasSuffix p0 p1 = some r) : Ct Tryd.prog 38 [S p0, S p1] (fun M => True) (fun v M => v = Value.bool r) := by
  refine Ct.of Tryd.func38 (enters Tryd.func38 (by kernel_rfl) rfl) rfl rfl rfl ?_
  intro w0 M0 H hp
  unfold stringslite_HasSuffix at h
  refine SQ (RG (AS rfl rfl (NL (TN (SQ ?_)))))
  obtain ⟨o1, e2, h⟩ := bnd h
  refine WC.cutX (fun e w => ∃ (b3 : Bool) (M : Mem), e = [(4, Value.bool b3)] ∧ St w0 M0 M [] w ∧ some b3 = some o1) [] ?_ ?_ (trivial)
  ·
   refine RG (MV rfl rfl (ST (Ex.lenStr Tryd.underlying9 rfl) rfl (MV rfl rfl (ST (Ex.lenStr Tryd.underlying9 rfl) rfl ?_))))
   by_cases hk4 : (p1.length : Int) ≤ (p0.length : Int)
   ·
    rw [if_pos hk4] at e2
    obtain ⟨n5, hxn5, e2⟩ := bnd e2
    obtain ⟨s6, hxs6, e2⟩ := bnd e2
    refine WR.stepE (v' := .bool true) (Ex.geq rfl rfl) (congrArg Value.bool (decide_eq_true hk4)) (Wn.none rfl) rfl rfl (MV rfl rfl (SG (Ex.move rfl) rfl rfl rfl (SG (Ex.move rfl) rfl rfl rfl (SG (Ex.lenStr Tryd.underlying9 rfl) rfl rfl rfl (SG (Ex.move rfl) rfl rfl rfl (SG (Ex.lenStr Tryd.underlying9 rfl) rfl rfl rfl (SG (Ex.subC rfl rfl hxn5) rfl rfl rfl (SG (Ex.sliceL Tryd.underlying9 rfl rfl hxs6) rfl rfl rfl (SG (Ex.move rfl) rfl rfl rfl (SG (Ex.strEql rfl rfl) rfl rfl rfl (PT rfl rfl rfl (AS rfl rfl (NL ?_)))))))))))))
    exact WQ.meetN [(4, _)] ⟨rfl, trivial⟩ ⟨_, _, rfl, H, e2⟩
   ·
    rw [if_neg hk4] at e2
    refine WR.stepE (v' := .bool false) (Ex.geq rfl rfl) (congrArg Value.bool (decide_eq_false hk4)) (Wn.none rfl) rfl rfl (MV rfl rfl (WR.skipN 9 rfl rfl (PF rfl rfl rfl (AS rfl rfl (NL ?_)))))
    exact WQ.meetN [(4, _)] ⟨rfl, trivial⟩ ⟨_, _, rfl, H, e2⟩
  ·
   rintro e w ⟨b3, M, rfl, H, q7⟩
   obtain rfl := Option.some.inj q7
   refine TN (RT ?_)
   obtain rfl := Option.some.inj h
   exact WQ.ret1 rfl rfl H.ext rfl
theorem strings_HasSuffix_ct {p0 : List UInt8} {p1 : List UInt8} {r : Bool} (h : strings_HasSuffix p0 p1 = some r) : Ct Tryd.prog 24 [S p0, S p1] (fun M => True) (fun v M => v = Value.bool r) := by
  refine Ct.of Tryd.func24 (enters Tryd.func24 (by kernel_rfl) rfl) rfl rfl rfl ?_
  intro w0 M0 H hp
  unfold strings_HasSuffix at h
  refine SQ (RG (AS rfl rfl (NL (TN (SQ ?_)))))
  obtain ⟨b1, hx2, h⟩ := bnd h
  refine RG (MV rfl rfl (MV rfl rfl (WR.call H (stringslite_HasSuffix_ct hx2) rfl trivial (Wn.none rfl) rfl ?_)))
  intro v7 M w H hle hR
  obtain rfl := hR
  refine AS rfl rfl (NL (TN (RT ?_)))
  obtain rfl := Option.some.inj h
  exact WQ.ret1 rfl rfl H.ext rfl
theorem words_plain_ct {p0 : List UInt8} {r : Bool} (h : words_plain p0 = some r) : Ct Tryd.prog 11 [S p0] (fun M => GlF (fun w => ∃ m, w.cell? ⟨2, 0, none⟩ = some (.int .i64 m)) M) (fun v M => v = Value.bool r) := by
  refine Ct.of Tryd.func11 (enters Tryd.func11 (by kernel_rfl) rfl) rfl rfl rfl ?_
  intro w0 M0 H hp
  have hg_maxl := hp
  unfold words_plain at h
  refine SQ (RG (AS rfl rfl (NL (TN (SQ (SQ (RG (MV rfl rfl (ST (Ex.lenStr Tryd.underlying9 rfl) rfl (MV rfl rfl (NL (TN ?_))))))))))))
  obtain ⟨o1, e2, h⟩ := bnd h
  refine WC.cutX (fun e w => ∃  (M : Mem), e = [(0, S p0)] ∧ St w0 M0 M [] w ∧ GlF (fun w => ∃ m, w.cell? ⟨2, 0, none⟩ = some (.int .i64 m)) M ∧ some (.inl ()) = some o1) [] ?_ ?_ (trivial)
  ·
   refine BL (WC.loopP (fun m e w => ∃ (n3 : Int) (M : Mem), e = [(0, S p0), (5, I (p0.length : Int)), (6, I n3)] ∧ St w0 M0 M [] w ∧ GlF (fun w => ∃ m, w.cell? ⟨2, 0, none⟩ = some (.int .i64 m)) M ∧ words_plain_L1 p0 m n3 = some o1) FU [(0, _), (5, _), (6, _)] ⟨rfl, rfl, rfl, trivial⟩ ⟨_, _, rfl, H, hg_maxl, e2⟩ ?_)
   rintro m4 e w ⟨n3, M, rfl, H, hg_maxl, e2⟩
   rcases m4 with _ | m4
   · rw [words_plain_L1] at e2; cases e2
   rw [words_plain_L1] at e2
   refine SQ (RG (ST (Ex.lss rfl rfl) rfl (NL (TN (SQ ?_)))))
   refine WC.condB rfl (fun hk5 => ?_) (fun hk5 => ?_)
   ·
    replace hk5 : n3 < (p0.length : Int) := of_decide_eq_true hk5
    rw [if_pos hk5] at e2
    refine SK (TN (SQ (BL (SQ (RG (MV rfl rfl (AS rfl rfl (NL (TN (SQ ?_))))))))))
    obtain ⟨o6, e7, e2⟩ := bnd e2
    refine WC.cutX (fun e w => ∃ (b8 : Bool) (M : Mem), e = [(0, S p0), (5, I (p0.length : Int)), (6, I n3), (18, Value.bool b8)] ∧ St w0 M0 M [] w ∧ GlF (fun w => ∃ m, w.cell? ⟨2, 0, none⟩ = some (.int .i64 m)) M ∧ some b8 = some o6) [] ?_ ?_ (trivial)
    ·
     obtain ⟨c9, hxc9, e7⟩ := bnd e7
     refine RG (MV rfl rfl (MV rfl rfl (ST (Ex.idxStrC Tryd.underlying9 rfl rfl hxc9) rfl ?_)))
     by_cases hk10 : c9.toNat < 32
     ·
      rw [if_pos hk10] at e7
      refine WR.stepE (v' := .bool true) (Ex.lssB (i := c9.toNat) (j := 32) rfl rfl) (congrArg Value.bool (decide_eq_true hk10)) (Wn.none rfl) rfl rfl (MV rfl rfl (WR.skipN 4 rfl rfl (PT rfl rfl rfl (NL ?_))))
      exact WQ.meetN [(0, _), (5, _), (6, _), (18, _)] ⟨rfl, rfl, rfl, rfl, trivial⟩ ⟨_, _, rfl, H, hg_maxl, e7⟩
     ·
      rw [if_neg hk10] at e7
      obtain ⟨c11, hxc11, e7⟩ := bnd e7
      refine WR.stepE (v' := .bool false) (Ex.lssB (i := c9.toNat) (j := 32) rfl rfl) (congrArg Value.bool (decide_eq_false hk10)) (Wn.none rfl) rfl rfl (MV rfl rfl (SG (Ex.move rfl) rfl rfl rfl (SG (Ex.move rfl) rfl rfl rfl (SG (Ex.idxStrC Tryd.underlying9 rfl rfl hxc11) rfl rfl rfl (SG (Ex.gtrB (i := c11.toNat) (j := 126) rfl rfl) rfl rfl rfl (PF rfl rfl rfl (NL ?_)))))))
      exact WQ.meetN [(0, _), (5, _), (6, _), (18, _)] ⟨rfl, rfl, rfl, rfl, trivial⟩ ⟨_, _, rfl, H, hg_maxl, e7⟩
    ·
     rintro e w ⟨b8, M, rfl, H, hg_maxl, q12⟩
     obtain rfl := Option.some.inj q12
     refine TN ?_
     refine WC.condB rfl (fun hk13 => ?_) (fun hk13 => ?_)
     ·
      subst hk13
      rw [if_pos rfl] at e2
      refine SQ (RG (AS rfl rfl (NL (TN (RT ?_)))))
      obtain rfl := Option.some.inj e2
      try dsimp only at h
      obtain rfl := Option.some.inj h
      exact WQ.ret1 rfl rfl H.ext rfl
     ·
      subst hk13
      rw [if_neg Bool.false_ne_true] at e2
      refine SK (IB (TN ?_))
      obtain ⟨n14, hxn14, e2⟩ := bnd e2
      refine RG (ST (Ex.addC rfl rfl hxn14) rfl (MV rfl rfl (NL ?_)))
      exact WQ.againP m4 [(0, _), (5, _), (6, _)] ⟨rfl, rfl, rfl, trivial⟩ ⟨_, _, rfl, H, hg_maxl, e2⟩ (Nat.lt_succ_self _)
   ·
    replace hk5 : ¬ (n3 < (p0.length : Int)) := of_decide_eq_false hk5
    rw [if_neg hk5] at e2
    refine WC.exit (WQ.thenExit (WQ.thenExit (WQ.exitHere ?_)))
    exact WQ.meetN [(0, _)] ⟨rfl, trivial⟩ ⟨_, rfl, H, hg_maxl, e2⟩
  ·
   rintro e w ⟨M, rfl, H, hg_maxl, q15⟩
   obtain rfl := Option.some.inj q15
   try dsimp only at h
   refine TN (SQ ?_)
   obtain ⟨o16, e17, h⟩ := bnd h
   refine WC.cutX (fun e w => ∃ (b18 : Bool) (M : Mem), e = [(2, Value.bool b18)] ∧ St w0 M0 M [] w ∧ GlF (fun w => ∃ m, w.cell? ⟨2, 0, none⟩ = some (.int .i64 m)) M ∧ some b18 = some o16) [] ?_ ?_ (trivial)
   ·
    obtain ⟨b19, hx20, e17⟩ := bnd e17
    refine RG (MV rfl rfl (WR.call H (strings_HasPrefix_ct hx20) rfl trivial (Wn.none rfl) rfl ?_))
    intro v21 M w H hle hR
    replace hg_maxl := hg_maxl.mono hle
    obtain rfl := hR
    refine ST (Ex.not rfl) rfl (MV rfl rfl ?_)
    rcases b19 with _ | _
    ·
     rw [if_neg Bool.false_ne_true] at e17
     obtain ⟨b21, hx22, e17⟩ := bnd e17
     refine SG (Ex.move rfl) rfl rfl rfl (WR.call H (strings_HasSuffix_ct hx22) rfl trivial (Wn.some rfl rfl rfl) rfl ?_)
     intro v25 M w H hle hR
     replace hg_maxl := hg_maxl.mono hle
     obtain rfl := hR
     refine SG (Ex.not rfl) rfl rfl rfl (PT rfl rfl rfl (MV rfl rfl ?_))
     rcases b21 with _ | _
     ·
      rw [if_neg Bool.false_ne_true] at e17
      obtain ⟨b23, hx24, e17⟩ := bnd e17
      refine SG (Ex.move rfl) rfl rfl rfl (WR.call H (strings_Contains_ct hx24) rfl (hg_maxl) (Wn.some rfl rfl rfl) rfl ?_)
      intro v30 M w H hle hR
      replace hg_maxl := hg_maxl.mono hle
      obtain rfl := hR
      refine SG (Ex.not rfl) rfl rfl rfl (PT rfl rfl rfl (AS rfl rfl (NL ?_)))
      exact WQ.meetN [(2, _)] ⟨rfl, trivial⟩ ⟨_, _, rfl, H, hg_maxl, e17⟩
     ·
      rw [if_pos rfl] at e17
      refine WR.skipN 3 rfl rfl (PF rfl rfl rfl (AS rfl rfl (NL ?_)))
      exact WQ.meetN [(2, _)] ⟨rfl, trivial⟩ ⟨_, _, rfl, H, hg_maxl, e17⟩
    ·
     rw [if_pos rfl] at e17
     refine WR.skipN 3 rfl rfl (PF rfl rfl rfl (MV rfl rfl (WR.skipN 3 rfl rfl (PF rfl rfl rfl (AS rfl rfl (NL ?_))))))
     exact WQ.meetN [(2, _)] ⟨rfl, trivial⟩ ⟨_, _, rfl, H, hg_maxl, e17⟩
   ·
    rintro e w ⟨b18, M, rfl, H, hg_maxl, q25⟩
    obtain rfl := Option.some.inj q25
    refine TN (RT ?_)
    obtain rfl := Option.some.inj h
    exact WQ.ret1 rfl rfl H.ext rfl
theorem basic_None_ct  {r : (Int × Int)} (h : basic_None = some r) : Ct Tryd.prog 12 [] (fun M => True) (fun v M => v = Value.agg #[I r.1, I r.2]) := by
  refine Ct.of Tryd.func12 (enters Tryd.func12 (by kernel_rfl) rfl) rfl rfl rfl ?_
  intro w0 M0 H hp
  unfold basic_None at h
  refine SQ (RG (WR.alloc [_, _] H Tryd.zeroValue24 rfl (Wn.none rfl) rfl ?_))
  intro b0 w H
  refine NL (TN (SQ (RG (ST (Ex.build [I 0, I 0] Tryd.underlying24 Tryd.zeroValue24 (xplaces24 Tryd.underlying24) rfl rfl) rfl (WR.store [_, _] H rfl rfl rfl (by repeat first | exact .head | apply Upd.tail) Tryd.sizeOf24 rfl (by rfl) (by rfl) (Wn.none rfl) ?_)))))
  intro w H
  refine NL (TN (RT ?_))
  obtain rfl := Option.some.inj h
  exact WQ.ret1 rfl ⟨_, rfl, H.loadAgg (by repeat (first | exact List.Mem.head _ | apply List.Mem.tail)) Tryd.isAgg24 Tryd.sizeOf24 (by rfl)⟩ H.ext rfl
theorem words_units_ct {p0 : List UInt8} {p1 : List UInt8} {r : (List UInt8 × List UInt8)} (h : words_units p0 p1 = some r) : Ct Tryd.prog 14 [S p0, S p1] (fun M => True) (fun v M => ∃ b0_0 b0_1, v = (Value.func (.func 26) #[] #[ptr b0_0 0, ptr b0_1 0]) ∧ PtM M b0_0 (.cells #[S r.1] 9) ∧ PtM M b0_1 (.cells #[S r.2] 9)) := by
  refine Ct.of Tryd.func14 (enters Tryd.func14 (by kernel_rfl) rfl) rfl rfl rfl ?_
  intro w0 M0 H hp
  unfold words_units at h
  refine SQ (RG (WR.box [_] H rfl rfl (Wn.none rfl) rfl ?_))
  intro b2 w H
  refine WR.box [_] H rfl rfl (Wn.none rfl) rfl ?_
  intro b3 w H
  refine AS rfl rfl (NL (TN (SQ (RG ?_))))
  obtain ⟨M, hle, hb1, H⟩ := H.freezeVar (b := b3) (by repeat first | exact .head | apply Rem.tail)
  obtain ⟨M, hle, hb2, H⟩ := H.freezeVar (b := b2) (by repeat first | exact .head | apply Rem.tail)
  replace hb1 := hb1.mono hle
  refine ST (Ex.makeFunc rfl) rfl (AS rfl rfl (NL (TN (RT ?_))))
  obtain rfl := Option.some.inj h
  exact WQ.ret1 rfl rfl H.ext (⟨_, _, rfl, hb1, hb2⟩)
theorem words_flat_ct {p0 : List UInt8} {vp0 : Value} {r : List UInt8} (h : words_flat p0 = some r) : Ct Tryd.prog 29 [vp0] (fun M => GlF (fun w => ∃ m, w.cell? ⟨2, 0, none⟩ = some (.int .i64 m)) M ∧ Sl M encB vp0 p0) (fun v M => v = S r) := by
  refine Ct.of Tryd.func29 (enters Tryd.func29 (by kernel_rfl) rfl) rfl rfl rfl ?_
  intro w0 M0 H hp
  obtain ⟨hg_maxl, hp0⟩ := hp
  unfold words_flat at h
  refine SQ (RG (AS rfl rfl (NL (TN (SQ ?_)))))
  obtain ⟨⟨l1, ⟨n2, n3⟩⟩, hx4, h⟩ := bnd h
  try dsimp only at h
  refine RG (MV rfl rfl (WR.call H (base64_Encode_ct hx4) rfl (hp0) (Wn.none rfl) rfl ?_))
  intro v7 M w H hle hR
  replace hg_maxl := hg_maxl.mono hle
  replace hp0 := hp0.mono hle
  try dsimp only at hR
  obtain ⟨x7_0, rfl, f7_0⟩ := hR
  refine MV rfl rfl (ST (Ex.extract rfl rfl) rfl (ST (Ex.extract rfl rfl) rfl (WR.alloc [_, _] H Tryd.zeroValue24 rfl (Wn.none rfl) rfl ?_)))
  intro b4 w H
  refine AS rfl rfl (WR.store [_, _] H rfl rfl rfl (by repeat first | exact .head | apply Upd.tail) Tryd.sizeOf24 rfl (by rfl) (by rfl) (Wn.none rfl) ?_)
  intro w H
  refine NL (TN (SQ ?_))
  obtain ⟨s5, hx6, h⟩ := bnd h
  refine RG (MV rfl rfl (ST (Ex.toStr Tryd.underlying39 Tryd.underlying5 Tryd.underlying9 H (f7_0) rfl) rfl (WR.call H (strings_ReplaceAll_ct hx6) rfl (hg_maxl) (Wn.none rfl) rfl ?_)))
  intro v12 M w H hle hR
  replace hg_maxl := hg_maxl.mono hle
  replace hp0 := hp0.mono hle
  replace f7_0 := f7_0.mono hle
  obtain rfl := hR
  refine AS rfl rfl (NL (TN (RT ?_)))
  obtain rfl := Option.some.inj h
  exact WQ.ret1 rfl rfl H.ext rfl
theorem strings_Builder_WriteByte_ct {p0 : List UInt8} {p1 : UInt8} {bp0 : Nat} {pp0 : Value} {vp0 : Value} {r : (Bool × List UInt8)} (h : strings_Builder_WriteByte p0 p1 = some r) : CtX Tryd.prog 18 [ptr bp0 0, encB p1] [.blk bp0 (.cells #[pp0, vp0] 41), RowI 5 encB vp0 p0] (fun M => BPM M bp0 pp0) (fun v M its => ∃ x0 qp0 up0, v = x0 ∧ NilB M x0 r.1 ∧ BPM M bp0 qp0 ∧ its = [.blk bp0 (.cells #[qp0, up0] 41), RowI 5 encB up0 r.2]) := by
  refine CtX.of Tryd.func18 (enters Tryd.func18 (by kernel_rfl) rfl) rfl rfl rfl ?_
  intro w0 M0 H hp
  have hp0 := hp
  unfold strings_Builder_WriteByte at h
  refine SQ (RG (AS rfl rfl (NL (TN (SQ (RG (MV rfl rfl ?_)))))))
  refine WR.callX (A := [.blk bp0 (.cells #[pp0, vp0] 41)]) (B := [RowI 5 encB vp0 p0]) (H.pick (L' := [.blk bp0 (.cells #[pp0, vp0] 41), RowI 5 encB vp0 p0]) (by repeat (first | exact Pick.nil | refine Pick.cons (by repeat first | exact .head | apply Rem.tail) ?_))) (copyCheck_ct hp0) (.left (Spl.all _)) rfl trivial (Wn.none rfl) rfl ?_
  intro v6 M w its H hle hR
  replace hp0 := hp0.mono hle
  obtain ⟨rfl, rfl⟩ := hR
  simp only [List.cons_append, List.nil_append] at H
  refine NL (TN (SQ ?_))
  obtain ⟨l2, hxl2, h⟩ := bnd h
  refine RG (MV rfl rfl (MV rfl rfl (ST (Ex.nilCheckP rfl) rfl (ST (Ex.fieldAddr Tryd.underlying41 rfl Tryd.sizeOf39 (by decide) rfl) rfl (ST (Ex.load1 H rfl (by repeat (first | exact List.Mem.head _ | apply List.Mem.tail)) Tryd.isAgg39 (by rfl)) rfl ?_)))))
  refine MV rfl rfl (WR.lit (enc := encB) xty39 ([p1] : List UInt8) H rfl (by rfl) (fun _ => rfl) rfl rfl (Wn.none rfl) rfl ?_)
  intro v13 M w H hle hs13
  refine WR.appC (l := p0) xty39 rfl (fun _ => rfl) H rfl (fun _ => by repeat first | exact .head | apply Upd.tail) rfl (hs13) hxl2 (Wn.none rfl) rfl ?_
  intro v14 w H
  refine ST (Ex.nilCheckP rfl) rfl (ST (Ex.fieldAddr Tryd.underlying41 rfl Tryd.sizeOf39 (by decide) rfl) rfl (WR.putV [_, _] H rfl rfl (H.rowOne (by repeat (first | exact List.Mem.head _ | apply List.Mem.tail))) (by repeat first | exact .head | apply Upd.tail) (by rfl) Tryd.sizeOf39 (by first | decide | (simp; done) | (simp; omega)) (Wn.none rfl) ?_))
  intro w H
  refine NL (TN (SQ (RG (AS rfl rfl (NL (TN (RT ?_)))))))
  obtain rfl := Option.some.inj h
  exact WQ.retX1 (its := [.blk bp0 (.cells #[(ptr bp0 0), v14] 41), RowI 5 encB v14 l2]) rfl rfl H (by repeat (first | exact Pick.nil | refine Pick.cons (by repeat first | exact .head | apply Rem.tail) ?_)) ⟨_, _, _, rfl, (.inl ⟨rfl, rfl⟩), BPM.self, rfl⟩
theorem basic_Letter_ct {p0 : UInt8} {r : Bool} (h : basic_Letter p0 = some r) : Ct Tryd.prog 44 [encB p0] (fun M => True) (fun v M => v = Value.bool r) := by
  refine Ct.of Tryd.func44 (enters Tryd.func44 (by kernel_rfl) rfl) rfl rfl rfl ?_
  intro w0 M0 H hp
  unfold basic_Letter at h
  refine SQ (RG (AS rfl rfl (NL (TN (SQ ?_)))))
  obtain ⟨o1, e2, h⟩ := bnd h
  refine WC.cutX (fun e w => ∃ (b3 : Bool) (M : Mem), e = [(2, Value.bool b3)] ∧ St w0 M0 M [] w ∧ some b3 = some o1) [] ?_ ?_ (trivial)
  ·
   by_cases hk4 : 97 ≤ p0.toNat
   ·
    rw [if_pos hk4] at e2
    refine RG (MV rfl rfl (WR.stepE (v' := .bool true) (Ex.geqB (i := p0.toNat) (j := 97) rfl rfl) (congrArg Value.bool (decide_eq_true hk4)) (Wn.none rfl) rfl rfl ?_))
    by_cases hk5 : p0.toNat ≤ 122
    ·
     rw [if_pos hk5] at e2
     refine MV rfl rfl (SG (Ex.move rfl) rfl rfl rfl (WR.stepE (v' := .bool true) (Ex.leqB (i := p0.toNat) (j := 122) rfl rfl) (congrArg Value.bool (decide_eq_true hk5)) (Wn.some rfl rfl rfl) rfl rfl (PT rfl rfl rfl (MV rfl rfl (WR.skipN 6 rfl rfl (PT rfl rfl rfl (MV rfl rfl (WR.skipN 6 rfl rfl (PT rfl rfl rfl (AS rfl rfl (NL ?_)))))))))))
     exact WQ.meetN [(2, _)] ⟨rfl, trivial⟩ ⟨_, _, rfl, H, e2⟩
    ·
     rw [if_neg hk5] at e2
     by_cases hk6 : 65 ≤ p0.toNat
     ·
      rw [if_pos hk6] at e2
      by_cases hk7 : p0.toNat ≤ 90
      ·
       rw [if_pos hk7] at e2
       refine MV rfl rfl (SG (Ex.move rfl) rfl rfl rfl (WR.stepE (v' := .bool false) (Ex.leqB (i := p0.toNat) (j := 122) rfl rfl) (congrArg Value.bool (decide_eq_false hk5)) (Wn.some rfl rfl rfl) rfl rfl (PT rfl rfl rfl (MV rfl rfl (SG (Ex.move rfl) rfl rfl rfl (WR.stepE (v' := .bool true) (Ex.geqB (i := p0.toNat) (j := 65) rfl rfl) (congrArg Value.bool (decide_eq_true hk6)) (Wn.some rfl rfl rfl) rfl rfl (SG (Ex.move rfl) rfl rfl rfl (SG (Ex.move rfl) rfl rfl rfl (WR.stepE (v' := .bool true) (Ex.leqB (i := p0.toNat) (j := 90) rfl rfl) (congrArg Value.bool (decide_eq_true hk7)) (Wn.some rfl rfl rfl) rfl rfl (SG (Ex.pickT rfl rfl) rfl rfl rfl (PF rfl rfl rfl (MV rfl rfl (WR.skipN 6 rfl rfl (PT rfl rfl rfl (AS rfl rfl (NL ?_))))))))))))))))
       exact WQ.meetN [(2, _)] ⟨rfl, trivial⟩ ⟨_, _, rfl, H, e2⟩
      ·
       rw [if_neg hk7] at e2
       by_cases hk8 : 48 ≤ p0.toNat
       ·
        rw [if_pos hk8] at e2
        refine MV rfl rfl (SG (Ex.move rfl) rfl rfl rfl (WR.stepE (v' := .bool false) (Ex.leqB (i := p0.toNat) (j := 122) rfl rfl) (congrArg Value.bool (decide_eq_false hk5)) (Wn.some rfl rfl rfl) rfl rfl (PT rfl rfl rfl (MV rfl rfl (SG (Ex.move rfl) rfl rfl rfl (WR.stepE (v' := .bool true) (Ex.geqB (i := p0.toNat) (j := 65) rfl rfl) (congrArg Value.bool (decide_eq_true hk6)) (Wn.some rfl rfl rfl) rfl rfl (SG (Ex.move rfl) rfl rfl rfl (SG (Ex.move rfl) rfl rfl rfl (WR.stepE (v' := .bool false) (Ex.leqB (i := p0.toNat) (j := 90) rfl rfl) (congrArg Value.bool (decide_eq_false hk7)) (Wn.some rfl rfl rfl) rfl rfl (SG (Ex.pickT rfl rfl) rfl rfl rfl (PF rfl rfl rfl (MV rfl rfl (SG (Ex.move rfl) rfl rfl rfl (WR.stepE (v' := .bool true) (Ex.geqB (i := p0.toNat) (j := 48) rfl rfl) (congrArg Value.bool (decide_eq_true hk8)) (Wn.some rfl rfl rfl) rfl rfl (SG (Ex.move rfl) rfl rfl rfl (SG (Ex.move rfl) rfl rfl rfl ?_))))))))))))))))
        refine SG (Ex.leqB (i := p0.toNat) (j := 57) rfl rfl) rfl rfl rfl (SG (Ex.pickT rfl rfl) rfl rfl rfl (PF rfl rfl rfl (AS rfl rfl (NL ?_))))
        exact WQ.meetN [(2, _)] ⟨rfl, trivial⟩ ⟨_, _, rfl, H, e2⟩
       ·
        rw [if_neg hk8] at e2
        refine MV rfl rfl (SG (Ex.move rfl) rfl rfl rfl (WR.stepE (v' := .bool false) (Ex.leqB (i := p0.toNat) (j := 122) rfl rfl) (congrArg Value.bool (decide_eq_false hk5)) (Wn.some rfl rfl rfl) rfl rfl (PT rfl rfl rfl (MV rfl rfl (SG (Ex.move rfl) rfl rfl rfl (WR.stepE (v' := .bool true) (Ex.geqB (i := p0.toNat) (j := 65) rfl rfl) (congrArg Value.bool (decide_eq_true hk6)) (Wn.some rfl rfl rfl) rfl rfl (SG (Ex.move rfl) rfl rfl rfl (SG (Ex.move rfl) rfl rfl rfl (WR.stepE (v' := .bool false) (Ex.leqB (i := p0.toNat) (j := 90) rfl rfl) (congrArg Value.bool (decide_eq_false hk7)) (Wn.some rfl rfl rfl) rfl rfl (SG (Ex.pickT rfl rfl) rfl rfl rfl (PF rfl rfl rfl (MV rfl rfl (SG (Ex.move rfl) rfl rfl rfl (WR.stepE (v' := .bool false) (Ex.geqB (i := p0.toNat) (j := 48) rfl rfl) (congrArg Value.bool (decide_eq_false hk8)) (Wn.some rfl rfl rfl) rfl rfl (SG (Ex.move rfl) rfl rfl rfl (GF rfl rfl rfl ?_))))))))))))))))
        refine GF rfl rfl rfl (SG (Ex.pickF rfl rfl) rfl rfl rfl (PF rfl rfl rfl (AS rfl rfl (NL ?_))))
        exact WQ.meetN [(2, _)] ⟨rfl, trivial⟩ ⟨_, _, rfl, H, e2⟩
     ·
      rw [if_neg hk6] at e2
      by_cases hk9 : 48 ≤ p0.toNat
      ·
       rw [if_pos hk9] at e2
       refine MV rfl rfl (SG (Ex.move rfl) rfl rfl rfl (WR.stepE (v' := .bool false) (Ex.leqB (i := p0.toNat) (j := 122) rfl rfl) (congrArg Value.bool (decide_eq_false hk5)) (Wn.some rfl rfl rfl) rfl rfl (PT rfl rfl rfl (MV rfl rfl (SG (Ex.move rfl) rfl rfl rfl (WR.stepE (v' := .bool false) (Ex.geqB (i := p0.toNat) (j := 65) rfl rfl) (congrArg Value.bool (decide_eq_false hk6)) (Wn.some rfl rfl rfl) rfl rfl (SG (Ex.move rfl) rfl rfl rfl (GF rfl rfl rfl (GF rfl rfl rfl (SG (Ex.pickF rfl rfl) rfl rfl rfl (PF rfl rfl rfl (MV rfl rfl (SG (Ex.move rfl) rfl rfl rfl (WR.stepE (v' := .bool true) (Ex.geqB (i := p0.toNat) (j := 48) rfl rfl) (congrArg Value.bool (decide_eq_true hk9)) (Wn.some rfl rfl rfl) rfl rfl (SG (Ex.move rfl) rfl rfl rfl (SG (Ex.move rfl) rfl rfl rfl (SG (Ex.leqB (i := p0.toNat) (j := 57) rfl rfl) rfl rfl rfl (SG (Ex.pickT rfl rfl) rfl rfl rfl (PF rfl rfl rfl (AS rfl rfl (NL ?_)))))))))))))))))))))
       exact WQ.meetN [(2, _)] ⟨rfl, trivial⟩ ⟨_, _, rfl, H, e2⟩
      ·
       rw [if_neg hk9] at e2
       refine MV rfl rfl (SG (Ex.move rfl) rfl rfl rfl (WR.stepE (v' := .bool false) (Ex.leqB (i := p0.toNat) (j := 122) rfl rfl) (congrArg Value.bool (decide_eq_false hk5)) (Wn.some rfl rfl rfl) rfl rfl (PT rfl rfl rfl (MV rfl rfl (SG (Ex.move rfl) rfl rfl rfl (WR.stepE (v' := .bool false) (Ex.geqB (i := p0.toNat) (j := 65) rfl rfl) (congrArg Value.bool (decide_eq_false hk6)) (Wn.some rfl rfl rfl) rfl rfl (SG (Ex.move rfl) rfl rfl rfl (GF rfl rfl rfl (GF rfl rfl rfl (SG (Ex.pickF rfl rfl) rfl rfl rfl (PF rfl rfl rfl (MV rfl rfl (SG (Ex.move rfl) rfl rfl rfl (WR.stepE (v' := .bool false) (Ex.geqB (i := p0.toNat) (j := 48) rfl rfl) (congrArg Value.bool (decide_eq_false hk9)) (Wn.some rfl rfl rfl) rfl rfl (SG (Ex.move rfl) rfl rfl rfl (GF rfl rfl rfl (GF rfl rfl rfl (SG (Ex.pickF rfl rfl) rfl rfl rfl (PF rfl rfl rfl (AS rfl rfl (NL ?_)))))))))))))))))))))
       exact WQ.meetN [(2, _)] ⟨rfl, trivial⟩ ⟨_, _, rfl, H, e2⟩
   ·
    rw [if_neg hk4] at e2
    refine RG (MV rfl rfl (WR.stepE (v' := .bool false) (Ex.geqB (i := p0.toNat) (j := 97) rfl rfl) (congrArg Value.bool (decide_eq_false hk4)) (Wn.none rfl) rfl rfl ?_))
    by_cases hk10 : 65 ≤ p0.toNat
    ·
     rw [if_pos hk10] at e2
     by_cases hk11 : p0.toNat ≤ 90
     ·
      rw [if_pos hk11] at e2
      refine MV rfl rfl (GF rfl rfl rfl (GF rfl rfl rfl (PF rfl rfl rfl (MV rfl rfl (SG (Ex.move rfl) rfl rfl rfl (WR.stepE (v' := .bool true) (Ex.geqB (i := p0.toNat) (j := 65) rfl rfl) (congrArg Value.bool (decide_eq_true hk10)) (Wn.some rfl rfl rfl) rfl rfl (SG (Ex.move rfl) rfl rfl rfl (SG (Ex.move rfl) rfl rfl rfl (WR.stepE (v' := .bool true) (Ex.leqB (i := p0.toNat) (j := 90) rfl rfl) (congrArg Value.bool (decide_eq_true hk11)) (Wn.some rfl rfl rfl) rfl rfl (SG (Ex.pickT rfl rfl) rfl rfl rfl (PF rfl rfl rfl (MV rfl rfl (WR.skipN 6 rfl rfl (PT rfl rfl rfl (AS rfl rfl (NL ?_))))))))))))))))
      exact WQ.meetN [(2, _)] ⟨rfl, trivial⟩ ⟨_, _, rfl, H, e2⟩
     ·
      rw [if_neg hk11] at e2
      by_cases hk12 : 48 ≤ p0.toNat
      ·
       rw [if_pos hk12] at e2
       refine MV rfl rfl (GF rfl rfl rfl (GF rfl rfl rfl (PF rfl rfl rfl (MV rfl rfl (SG (Ex.move rfl) rfl rfl rfl (WR.stepE (v' := .bool true) (Ex.geqB (i := p0.toNat) (j := 65) rfl rfl) (congrArg Value.bool (decide_eq_true hk10)) (Wn.some rfl rfl rfl) rfl rfl (SG (Ex.move rfl) rfl rfl rfl (SG (Ex.move rfl) rfl rfl rfl (WR.stepE (v' := .bool false) (Ex.leqB (i := p0.toNat) (j := 90) rfl rfl) (congrArg Value.bool (decide_eq_false hk11)) (Wn.some rfl rfl rfl) rfl rfl (SG (Ex.pickT rfl rfl) rfl rfl rfl (PF rfl rfl rfl (MV rfl rfl (SG (Ex.move rfl) rfl rfl rfl (WR.stepE (v' := .bool true) (Ex.geqB (i := p0.toNat) (j := 48) rfl rfl) (congrArg Value.bool (decide_eq_true hk12)) (Wn.some rfl rfl rfl) rfl rfl (SG (Ex.move rfl) rfl rfl rfl (SG (Ex.move rfl) rfl rfl rfl (SG (Ex.leqB (i := p0.toNat) (j := 57) rfl rfl) rfl rfl rfl (SG (Ex.pickT rfl rfl) rfl rfl rfl (PF rfl rfl rfl (AS rfl rfl (NL ?_)))))))))))))))))))))
       exact WQ.meetN [(2, _)] ⟨rfl, trivial⟩ ⟨_, _, rfl, H, e2⟩
      ·
       rw [if_neg hk12] at e2
       refine MV rfl rfl (GF rfl rfl rfl (GF rfl rfl rfl (PF rfl rfl rfl (MV rfl rfl (SG (Ex.move rfl) rfl rfl rfl (WR.stepE (v' := .bool true) (Ex.geqB (i := p0.toNat) (j := 65) rfl rfl) (congrArg Value.bool (decide_eq_true hk10)) (Wn.some rfl rfl rfl) rfl rfl (SG (Ex.move rfl) rfl rfl rfl (SG (Ex.move rfl) rfl rfl rfl (WR.stepE (v' := .bool false) (Ex.leqB (i := p0.toNat) (j := 90) rfl rfl) (congrArg Value.bool (decide_eq_false hk11)) (Wn.some rfl rfl rfl) rfl rfl (SG (Ex.pickT rfl rfl) rfl rfl rfl (PF rfl rfl rfl (MV rfl rfl (SG (Ex.move rfl) rfl rfl rfl (WR.stepE (v' := .bool false) (Ex.geqB (i := p0.toNat) (j := 48) rfl rfl) (congrArg Value.bool (decide_eq_false hk12)) (Wn.some rfl rfl rfl) rfl rfl (SG (Ex.move rfl) rfl rfl rfl (GF rfl rfl rfl (GF rfl rfl rfl (SG (Ex.pickF rfl rfl) rfl rfl rfl (PF rfl rfl rfl (AS rfl rfl (NL ?_)))))))))))))))))))))
       exact WQ.meetN [(2, _)] ⟨rfl, trivial⟩ ⟨_, _, rfl, H, e2⟩
    ·
     rw [if_neg hk10] at e2
     by_cases hk13 : 48 ≤ p0.toNat
     ·
      rw [if_pos hk13] at e2
      refine MV rfl rfl (GF rfl rfl rfl (GF rfl rfl rfl (PF rfl rfl rfl (MV rfl rfl (SG (Ex.move rfl) rfl rfl rfl (WR.stepE (v' := .bool false) (Ex.geqB (i := p0.toNat) (j := 65) rfl rfl) (congrArg Value.bool (decide_eq_false hk10)) (Wn.some rfl rfl rfl) rfl rfl (SG (Ex.move rfl) rfl rfl rfl (GF rfl rfl rfl (GF rfl rfl rfl (SG (Ex.pickF rfl rfl) rfl rfl rfl (PF rfl rfl rfl (MV rfl rfl (SG (Ex.move rfl) rfl rfl rfl (WR.stepE (v' := .bool true) (Ex.geqB (i := p0.toNat) (j := 48) rfl rfl) (congrArg Value.bool (decide_eq_true hk13)) (Wn.some rfl rfl rfl) rfl rfl (SG (Ex.move rfl) rfl rfl rfl (SG (Ex.move rfl) rfl rfl rfl (SG (Ex.leqB (i := p0.toNat) (j := 57) rfl rfl) rfl rfl rfl (SG (Ex.pickT rfl rfl) rfl rfl rfl (PF rfl rfl rfl (AS rfl rfl (NL ?_)))))))))))))))))))))
      exact WQ.meetN [(2, _)] ⟨rfl, trivial⟩ ⟨_, _, rfl, H, e2⟩
     ·
      rw [if_neg hk13] at e2
      refine MV rfl rfl (GF rfl rfl rfl (GF rfl rfl rfl (PF rfl rfl rfl (MV rfl rfl (SG (Ex.move rfl) rfl rfl rfl (WR.stepE (v' := .bool false) (Ex.geqB (i := p0.toNat) (j := 65) rfl rfl) (congrArg Value.bool (decide_eq_false hk10)) (Wn.some rfl rfl rfl) rfl rfl (SG (Ex.move rfl) rfl rfl rfl (GF rfl rfl rfl (GF rfl rfl rfl (SG (Ex.pickF rfl rfl) rfl rfl rfl (PF rfl rfl rfl (MV rfl rfl (SG (Ex.move rfl) rfl rfl rfl (WR.stepE (v' := .bool false) (Ex.geqB (i := p0.toNat) (j := 48) rfl rfl) (congrArg Value.bool (decide_eq_false hk13)) (Wn.some rfl rfl rfl) rfl rfl (SG (Ex.move rfl) rfl rfl rfl (GF rfl rfl rfl (GF rfl rfl rfl (SG (Ex.pickF rfl rfl) rfl rfl rfl (PF rfl rfl rfl (AS rfl rfl (NL ?_)))))))))))))))))))))
      exact WQ.meetN [(2, _)] ⟨rfl, trivial⟩ ⟨_, _, rfl, H, e2⟩
  ·
   rintro e w ⟨b3, M, rfl, H, q14⟩
   obtain rfl := Option.some.inj q14
   refine TN (RT ?_)
   obtain rfl := Option.some.inj h
   exact WQ.ret1 rfl rfl H.ext rfl
theorem basic_Digit_ct {p0 : UInt8} {r : UInt8} (h : basic_Digit p0 = some r) : Ct Tryd.prog 46 [encB p0] (fun M => True) (fun v M => v = encB r) := by
  refine Ct.of Tryd.func46 (enters Tryd.func46 (by kernel_rfl) rfl) rfl rfl rfl ?_
  intro w0 M0 H hp
  unfold basic_Digit at h
  refine SQ (RG (AS rfl rfl (NL (TN (SQ ?_)))))
  obtain ⟨c1, hxc1, h⟩ := bnd h
  refine RG (MV rfl rfl (ST (Ex.andB (c := p0) (d := 15) rfl rfl) rfl (ST (Ex.idxStrC Tryd.underlying9 rfl rfl hxc1) rfl (AS rfl rfl (NL (TN (RT ?_)))))))
  obtain rfl := Option.some.inj h
  exact WQ.ret1 rfl rfl H.ext rfl
theorem strings_Builder_Write_ct {p0 : List UInt8} {p1 : List UInt8} {bp0 : Nat} {pp0 : Value} {vp0 : Value} {vp1 : Value} {r : (Int × Bool × List UInt8)} (h : strings_Builder_Write p0 p1 = some r) : CtX Tryd.prog 45 [ptr bp0 0, vp1] [.blk bp0 (.cells #[pp0, vp0] 41), RowI 5 encB vp0 p0] (fun M => BPM M bp0 pp0 ∧ Sl M encB vp1 p1) (fun v M its => ∃ x1 qp0 up0, v = Value.tuple #[I r.1, x1] ∧ NilB M x1 r.2.1 ∧ BPM M bp0 qp0 ∧ its = [.blk bp0 (.cells #[qp0, up0] 41), RowI 5 encB up0 r.2.2]) := by
  refine CtX.of Tryd.func45 (enters Tryd.func45 (by kernel_rfl) rfl) rfl rfl rfl ?_
  intro w0 M0 H hp
  obtain ⟨hp0, hp1⟩ := hp
  unfold strings_Builder_Write at h
  refine SQ (RG (AS rfl rfl (AS rfl rfl (NL (TN (SQ (RG (MV rfl rfl ?_))))))))
  refine WR.callX (A := [.blk bp0 (.cells #[pp0, vp0] 41)]) (B := [RowI 5 encB vp0 p0]) (H.pick (L' := [.blk bp0 (.cells #[pp0, vp0] 41), RowI 5 encB vp0 p0]) (by repeat (first | exact Pick.nil | refine Pick.cons (by repeat first | exact .head | apply Rem.tail) ?_))) (copyCheck_ct hp0) (.left (Spl.all _)) rfl trivial (Wn.none rfl) rfl ?_
  intro v7 M w its H hle hR
  replace hp1 := hp1.mono hle
  replace hp0 := hp0.mono hle
  obtain ⟨rfl, rfl⟩ := hR
  simp only [List.cons_append, List.nil_append] at H
  refine NL (TN (SQ ?_))
  obtain ⟨l2, hxl2, h⟩ := bnd h
  refine RG (MV rfl rfl (MV rfl rfl (ST (Ex.nilCheckP rfl) rfl (ST (Ex.fieldAddr Tryd.underlying41 rfl Tryd.sizeOf39 (by decide) rfl) rfl (ST (Ex.load1 H rfl (by repeat (first | exact List.Mem.head _ | apply List.Mem.tail)) Tryd.isAgg39 (by rfl)) rfl ?_)))))
  refine MV rfl rfl (WR.appC (l := p0) xty39 rfl (fun _ => rfl) H rfl (fun _ => by repeat first | exact .head | apply Upd.tail) rfl (hp1) hxl2 (Wn.none rfl) rfl ?_)
  intro v14 w H
  refine ST (Ex.nilCheckP rfl) rfl (ST (Ex.fieldAddr Tryd.underlying41 rfl Tryd.sizeOf39 (by decide) rfl) rfl (WR.putV [_, _] H rfl rfl (H.rowOne (by repeat (first | exact List.Mem.head _ | apply List.Mem.tail))) (by repeat first | exact .head | apply Upd.tail) (by rfl) Tryd.sizeOf39 (by first | decide | (simp; done) | (simp; omega)) (Wn.none rfl) ?_))
  intro w H
  refine NL (TN (SQ (RG (MV rfl rfl (ST (Ex.lenSl Tryd.underlying39 hp1 rfl) rfl (AS rfl rfl (AS rfl rfl (NL (TN (RT ?_))))))))))
  obtain rfl := Option.some.inj h
  exact WQ.retX2 (its := [.blk bp0 (.cells #[(ptr bp0 0), v14] 41), RowI 5 encB v14 l2]) rfl rfl rfl H (by repeat (first | exact Pick.nil | refine Pick.cons (by repeat first | exact .head | apply Rem.tail) ?_)) ⟨_, _, _, rfl, (.inl ⟨rfl, rfl⟩), BPM.self, rfl⟩
theorem strings_Builder_String_ct {p0 : List UInt8} {bp0 : Nat} {pp0 : Value} {vp0 : Value} {r : List UInt8} (h : strings_Builder_String p0 = some r) : CtX Tryd.prog 21 [ptr bp0 0] [.blk bp0 (.cells #[pp0, vp0] 41), RowI 5 encB vp0 p0] (fun M => BPM M bp0 pp0) (fun v M its => v = S r ∧ its = []) := by
  refine CtX.of Tryd.func21 (enters Tryd.func21 (by kernel_rfl) rfl) rfl rfl rfl ?_
  intro w0 M0 H hp
  have hp0 := hp
  unfold strings_Builder_String at h
  refine SQ (RG (AS rfl rfl (NL (TN (SQ ?_)))))
  refine WC.cutP (fun e w => ∃  (M : Mem), e = [(2, S p0)] ∧ StX (feet [.blk bp0 (.cells #[pp0, vp0] 41), RowI 5 encB vp0 p0]) w0 M0 M [.blk bp0 (.cells #[pp0, vp0] 41)] w) ?_ ?_
  ·
   refine WC.draw (m := 12) rfl rfl H ?_
   intro w H
   refine WA.take (i := 0) rfl (by kernel_rfl) (by kernel_rfl) (by kernel_rfl) (fun _ => Ex.move rfl) (Wn.none rfl) rfl rfl (fun _ _ => rfl) (WA.take (i := 1) rfl (by kernel_rfl) (by kernel_rfl) (by kernel_rfl) (fun _ => Ex.nilCheckP rfl) (Wn.none rfl) rfl rfl (fun _ _ => rfl) (WA.take (i := 2) rfl (by kernel_rfl) (by kernel_rfl) (by kernel_rfl) (fun _ => Ex.fieldAddr Tryd.underlying41 rfl Tryd.sizeOf39 (by decide) rfl) (Wn.none rfl) rfl rfl (fun _ _ => rfl) (WA.take (i := 5) rfl (by kernel_rfl) (by kernel_rfl) (by kernel_rfl) (fun _ => Ex.move rfl) (Wn.none rfl) rfl rfl (fun _ _ => rfl) (WA.take (i := 6) rfl (by kernel_rfl) (by kernel_rfl) (by kernel_rfl) (fun _ => Ex.nilCheckP rfl) (Wn.none rfl) rfl rfl (fun _ _ => rfl) (WA.take (i := 7) rfl (by kernel_rfl) (by kernel_rfl) (by kernel_rfl) (fun _ => Ex.fieldAddr Tryd.underlying41 rfl Tryd.sizeOf39 (by decide) rfl) (Wn.none rfl) rfl rfl (fun _ _ => rfl) ?_)))))
   refine WA.two (i := 3) (j := 8) (by kernel_rfl) rfl rfl ?_ ?_
   ·
    refine ST (Ex.load1 H rfl (by repeat (first | exact List.Mem.head _ | apply List.Mem.tail)) Tryd.isAgg39 (by rfl)) rfl ?_
    refine NA ?_
    refine WA.two (i := 4) (j := 8) (by kernel_rfl) rfl rfl ?_ ?_
    ·
     refine WR.sliceData Tryd.underlying68 H (by repeat (first | exact List.Mem.head _ | apply List.Mem.tail)) rfl (Wn.none rfl) rfl ?_
     intro q7 w H hq7
     refine NA (WA.seq (fuel := 0) [8, 9, 10, 11] rfl (by kernel_rfl) (ST (Ex.load1 H rfl (by repeat (first | exact List.Mem.head _ | apply List.Mem.tail)) Tryd.isAgg39 (by rfl)) rfl ?_))
     refine ST (Ex.lenRow (l := p0) Tryd.underlying39 H (by repeat (first | exact List.Mem.head _ | apply List.Mem.tail)) rfl) rfl ?_
     refine WR.unsafeStr Tryd.underlying68 (by kernel_rfl) H (by repeat first | exact .head | apply Rem.tail) hq7 rfl rfl (Wn.none rfl) rfl ?_
     intro w H
     refine AS rfl rfl (NA (WA.done (by kernel_rfl) ?_))
     exact WQ.meetP [(2, _)] ⟨rfl, trivial⟩ ⟨_, rfl, H⟩
    ·
     refine ST (Ex.load1 H rfl (by repeat (first | exact List.Mem.head _ | apply List.Mem.tail)) Tryd.isAgg39 (by rfl)) rfl ?_
     refine NA ?_
     refine WA.two (i := 4) (j := 9) (by kernel_rfl) rfl rfl ?_ ?_
     ·
      refine WR.sliceData Tryd.underlying68 H (by repeat (first | exact List.Mem.head _ | apply List.Mem.tail)) rfl (Wn.none rfl) rfl ?_
      intro q7 w H hq7
      refine NA (WA.seq (fuel := 0) [9, 10, 11] rfl (by kernel_rfl) (ST (Ex.lenRow (l := p0) Tryd.underlying39 H (by repeat (first | exact List.Mem.head _ | apply List.Mem.tail)) rfl) rfl ?_))
      refine WR.unsafeStr Tryd.underlying68 (by kernel_rfl) H (by repeat first | exact .head | apply Rem.tail) hq7 rfl rfl (Wn.none rfl) rfl ?_
      intro w H
      refine AS rfl rfl (NA (WA.done (by kernel_rfl) ?_))
      exact WQ.meetP [(2, _)] ⟨rfl, trivial⟩ ⟨_, rfl, H⟩
     ·
      refine ST (Ex.lenRow (l := p0) Tryd.underlying39 H (by repeat (first | exact List.Mem.head _ | apply List.Mem.tail)) rfl) rfl ?_
      refine NA (WA.seq (fuel := 0) [4, 10, 11] rfl (by kernel_rfl) (WR.sliceData Tryd.underlying68 H (by repeat (first | exact List.Mem.head _ | apply List.Mem.tail)) rfl (Wn.none rfl) rfl ?_))
      intro q7 w H hq7
      refine WR.unsafeStr Tryd.underlying68 (by kernel_rfl) H (by repeat first | exact .head | apply Rem.tail) hq7 rfl rfl (Wn.none rfl) rfl ?_
      intro w H
      refine AS rfl rfl (NA (WA.done (by kernel_rfl) ?_))
      exact WQ.meetP [(2, _)] ⟨rfl, trivial⟩ ⟨_, rfl, H⟩
   ·
    refine ST (Ex.load1 H rfl (by repeat (first | exact List.Mem.head _ | apply List.Mem.tail)) Tryd.isAgg39 (by rfl)) rfl ?_
    refine NA ?_
    refine WA.two (i := 3) (j := 9) (by kernel_rfl) rfl rfl ?_ ?_
    ·
     refine ST (Ex.load1 H rfl (by repeat (first | exact List.Mem.head _ | apply List.Mem.tail)) Tryd.isAgg39 (by rfl)) rfl ?_
     refine NA ?_
     refine WA.two (i := 4) (j := 9) (by kernel_rfl) rfl rfl ?_ ?_
     ·
      refine WR.sliceData Tryd.underlying68 H (by repeat (first | exact List.Mem.head _ | apply List.Mem.tail)) rfl (Wn.none rfl) rfl ?_
      intro q7 w H hq7
      refine NA (WA.seq (fuel := 0) [9, 10, 11] rfl (by kernel_rfl) (ST (Ex.lenRow (l := p0) Tryd.underlying39 H (by repeat (first | exact List.Mem.head _ | apply List.Mem.tail)) rfl) rfl ?_))
      refine WR.unsafeStr Tryd.underlying68 (by kernel_rfl) H (by repeat first | exact .head | apply Rem.tail) hq7 rfl rfl (Wn.none rfl) rfl ?_
      intro w H
      refine AS rfl rfl (NA (WA.done (by kernel_rfl) ?_))
      exact WQ.meetP [(2, _)] ⟨rfl, trivial⟩ ⟨_, rfl, H⟩
     ·
      refine ST (Ex.lenRow (l := p0) Tryd.underlying39 H (by repeat (first | exact List.Mem.head _ | apply List.Mem.tail)) rfl) rfl ?_
      refine NA (WA.seq (fuel := 0) [4, 10, 11] rfl (by kernel_rfl) (WR.sliceData Tryd.underlying68 H (by repeat (first | exact List.Mem.head _ | apply List.Mem.tail)) rfl (Wn.none rfl) rfl ?_))
      intro q7 w H hq7
      refine WR.unsafeStr Tryd.underlying68 (by kernel_rfl) H (by repeat first | exact .head | apply Rem.tail) hq7 rfl rfl (Wn.none rfl) rfl ?_
      intro w H
      refine AS rfl rfl (NA (WA.done (by kernel_rfl) ?_))
      exact WQ.meetP [(2, _)] ⟨rfl, trivial⟩ ⟨_, rfl, H⟩
    ·
     refine ST (Ex.lenRow (l := p0) Tryd.underlying39 H (by repeat (first | exact List.Mem.head _ | apply List.Mem.tail)) rfl) rfl ?_
     refine NA (WA.seq (fuel := 0) [3, 4, 10, 11] rfl (by kernel_rfl) (ST (Ex.load1 H rfl (by repeat (first | exact List.Mem.head _ | apply List.Mem.tail)) Tryd.isAgg39 (by rfl)) rfl ?_))
     refine WR.sliceData Tryd.underlying68 H (by repeat (first | exact List.Mem.head _ | apply List.Mem.tail)) rfl (Wn.none rfl) rfl ?_
     intro q7 w H hq7
     refine WR.unsafeStr Tryd.underlying68 (by kernel_rfl) H (by repeat first | exact .head | apply Rem.tail) hq7 rfl rfl (Wn.none rfl) rfl ?_
     intro w H
     refine AS rfl rfl (NA (WA.done (by kernel_rfl) ?_))
     exact WQ.meetP [(2, _)] ⟨rfl, trivial⟩ ⟨_, rfl, H⟩
  ·
   rintro e w ⟨M, rfl, H⟩
   refine TN (RT ?_)
   obtain rfl := Option.some.inj h
   exact WQ.retX1 (its := []) rfl rfl H (by repeat (first | exact Pick.nil | refine Pick.cons (by repeat first | exact .head | apply Rem.tail) ?_)) ⟨rfl, rfl⟩
theorem words_data_ct {p0 : List UInt8} {vp0 : Value} {r : List UInt8} (h : words_data p0 = some r) : Ct Tryd.prog 30 [vp0] (fun M => Sl M encB vp0 p0) (fun v M => v = S r) := by
  refine Ct.of Tryd.func30 (enters Tryd.func30 (by kernel_rfl) rfl) rfl rfl rfl ?_
  intro w0 M0 H hp
  have hp0 := hp
  unfold words_data at h
  refine SQ (RG (AS rfl rfl (NL (TN (SQ (RG (WR.alloc [_, _] H Tryd.zeroValue41 rfl (Wn.none rfl) rfl ?_)))))))
  intro b3 w H
  refine NL (TN (SQ (SQ (RG (MV rfl rfl (ST (Ex.lenSl Tryd.underlying39 hp0 rfl) rfl (MV rfl rfl (NL (TN ?_)))))))))
  obtain ⟨o1, e2, h⟩ := bnd h
  refine WC.cutX (fun e w => ∃ (v3 : Value) (l6 : List UInt8) (v7 : Value) (M : Mem), e = [(3, ptr b3 0)] ∧ St w0 M0 M [.blk b3 (.cells #[v3, v7] 41), RowI 5 encB v7 l6] w ∧ BPM M b3 v3 ∧ some l6 = some o1) [] ?_ ?_ (trivial)
  ·
   refine BL ?_
   replace H := H.newRow 5 encB
   refine WC.loopP (fun m e w => ∃ (v8 : Value) (l11 : List UInt8) (v12 : Value) (n13 : Int) (M : Mem), e = [(3, ptr b3 0), (6, vp0), (7, I (p0.length : Int)), (8, I n13)] ∧ St w0 M0 M [.blk b3 (.cells #[v8, v12] 41), RowI 5 encB v12 l11] w ∧ BPM M b3 v8 ∧ Sl M encB vp0 p0 ∧ words_data_L1 p0 m l11 n13 = some o1) FU [(3, _), (6, _), (7, _), (8, _)] ⟨rfl, rfl, rfl, rfl, trivial⟩ ⟨_, _, _, _, _, rfl, (H.pick (L' := [.blk b3 (.cells #[(Value.pointer none), (Value.slice none 0 0)] 41), RowI 5 encB (Value.slice none 0 0) []]) (by repeat (first | exact Pick.nil | refine Pick.cons (by repeat first | exact .head | apply Rem.tail) ?_))), BPM.nil, hp0, e2⟩ ?_
   rintro m14 e w ⟨v8, l11, v12, n13, M, rfl, H, hs9, hp0, e2⟩
   rcases m14 with _ | m14
   · rw [words_data_L1] at e2; cases e2
   rw [words_data_L1] at e2
   refine SQ (RG (ST (Ex.lss rfl rfl) rfl (NL (TN (SQ ?_)))))
   refine WC.condB rfl (fun hk16 => ?_) (fun hk16 => ?_)
   ·
    replace hk16 : n13 < (p0.length : Int) := of_decide_eq_true hk16
    rw [if_pos hk16] at e2
    refine SK (TN (SQ (BL (SQ ?_))))
    obtain ⟨c17, hxc17, e2⟩ := bnd e2
    obtain ⟨b10, o10, ha10, hc10⟩ := hp0.atC hxc17
    refine RG (ST (Ex.idxAt ha10 Tryd.underlying39 Tryd.sizeOf5 rfl rfl) rfl (ST (Ex.loadM H rfl hc10 Tryd.isAgg5) rfl (AS rfl rfl (NL (TN (BL (SQ (RG (MV rfl rfl (ST (Ex.eqlB (c := c17) (d := 32) rfl rfl) rfl (AS rfl rfl (NL (TN ?_)))))))))))))
    refine WC.condB rfl (fun hk18 => ?_) (fun hk18 => ?_)
    ·
     replace hk18 : c17 = 32 := of_decide_eq_true hk18
     rw [if_pos hk18] at e2
     obtain ⟨⟨b19, l20⟩, hx21, e2⟩ := bnd e2
     try dsimp only at e2
     refine RG ?_
     refine WR.callX (A := [.blk b3 (.cells #[v8, v12] 41), RowI 5 encB v12 l11]) (B := []) (H.pick (L' := [.blk b3 (.cells #[v8, v12] 41), RowI 5 encB v12 l11]) (by repeat (first | exact Pick.nil | refine Pick.cons (by repeat first | exact .head | apply Rem.tail) ?_))) (strings_Builder_WriteByte_ct hx21) (.left (.left (Spl.all _))) rfl (hs9) (Wn.none rfl) rfl ?_
     intro v22 M w its H hle hR
     replace hp0 := hp0.mono hle
     replace hc10 := hc10.mono hle
     replace hs9 := hs9.mono hle
     try dsimp only at hR
     obtain ⟨x22_0, q22_0, u22_0, rfl, f22_0, hq22_0, rfl⟩ := hR
     simp only [List.cons_append, List.nil_append] at H
     refine NL (IB (IB (TN ?_)))
     obtain ⟨n22, hxn22, e2⟩ := bnd e2
     refine RG (ST (Ex.addC rfl rfl hxn22) rfl (MV rfl rfl (NL ?_)))
     exact WQ.againP m14 [(3, _), (6, _), (7, _), (8, _)] ⟨rfl, rfl, rfl, rfl, trivial⟩ ⟨_, _, _, _, _, rfl, H, hq22_0, hp0, e2⟩ (Nat.lt_succ_self _)
    ·
     replace hk18 : ¬ (c17 = 32) := of_decide_eq_false hk18
     rw [if_neg hk18] at e2
     refine SQ ?_
     obtain ⟨b23, hx24, e2⟩ := bnd e2
     refine RG (MV rfl rfl (WR.call H (basic_Letter_ct hx24) rfl trivial (Wn.none rfl) rfl ?_))
     intro v25 M w H hle hR
     replace hp0 := hp0.mono hle
     replace hc10 := hc10.mono hle
     replace hs9 := hs9.mono hle
     obtain rfl := hR
     refine AS rfl rfl (NL (TN ?_))
     refine WC.condB rfl (fun hk25 => ?_) (fun hk25 => ?_)
     ·
      subst hk25
      rw [if_pos rfl] at e2
      obtain ⟨⟨b26, l27⟩, hx28, e2⟩ := bnd e2
      try dsimp only at e2
      refine RG (MV rfl rfl ?_)
      refine WR.callX (A := [.blk b3 (.cells #[v8, v12] 41), RowI 5 encB v12 l11]) (B := []) (H.pick (L' := [.blk b3 (.cells #[v8, v12] 41), RowI 5 encB v12 l11]) (by repeat (first | exact Pick.nil | refine Pick.cons (by repeat first | exact .head | apply Rem.tail) ?_))) (strings_Builder_WriteByte_ct hx28) (.left (.left (Spl.all _))) rfl (hs9) (Wn.none rfl) rfl ?_
      intro v27 M w its H hle hR
      replace hp0 := hp0.mono hle
      replace hc10 := hc10.mono hle
      replace hs9 := hs9.mono hle
      try dsimp only at hR
      obtain ⟨x27_0, q27_0, u27_0, rfl, f27_0, hq27_0, rfl⟩ := hR
      simp only [List.cons_append, List.nil_append] at H
      refine NL (IB (IB (TN ?_)))
      obtain ⟨n29, hxn29, e2⟩ := bnd e2
      refine RG (ST (Ex.addC rfl rfl hxn29) rfl (MV rfl rfl (NL ?_)))
      exact WQ.againP m14 [(3, _), (6, _), (7, _), (8, _)] ⟨rfl, rfl, rfl, rfl, trivial⟩ ⟨_, _, _, _, _, rfl, H, hq27_0, hp0, e2⟩ (Nat.lt_succ_self _)
     ·
      subst hk25
      rw [if_neg Bool.false_ne_true] at e2
      obtain ⟨c30, hx31, e2⟩ := bnd e2
      obtain ⟨c32, hx33, e2⟩ := bnd e2
      obtain ⟨⟨n34, b35, l36⟩, hx37, e2⟩ := bnd e2
      try dsimp only at e2
      refine RG (MV rfl rfl (ST (Ex.shrB (c := c17) (m := 4) rfl rfl (by decide)) rfl (WR.call H (basic_Digit_ct hx31) rfl trivial (Wn.none rfl) rfl ?_)))
      intro v14 M w H hle hR
      replace hp0 := hp0.mono hle
      replace hc10 := hc10.mono hle
      replace hs9 := hs9.mono hle
      obtain rfl := hR
      refine MV rfl rfl (WR.call H (basic_Digit_ct hx33) rfl trivial (Wn.none rfl) rfl ?_)
      intro v16 M w H hle hR
      replace hp0 := hp0.mono hle
      replace hc10 := hc10.mono hle
      replace hs9 := hs9.mono hle
      obtain rfl := hR
      refine WR.lit (enc := encB) xty39 ([61, c30, c32] : List UInt8) H rfl (by rfl) (fun _ => rfl) rfl rfl (Wn.none rfl) rfl ?_
      intro v17 M w H hle hs17
      replace hp0 := hp0.mono hle
      replace hc10 := hc10.mono hle
      replace hs9 := hs9.mono hle
      refine WR.callX (A := [.blk b3 (.cells #[v8, v12] 41), RowI 5 encB v12 l11]) (B := []) (H.pick (L' := [.blk b3 (.cells #[v8, v12] 41), RowI 5 encB v12 l11]) (by repeat (first | exact Pick.nil | refine Pick.cons (by repeat first | exact .head | apply Rem.tail) ?_))) (strings_Builder_Write_ct hx37) (.left (.left (Spl.all _))) rfl ⟨hs9, hs17⟩ (Wn.none rfl) rfl ?_
      intro v18 M w its H hle hR
      replace hp0 := hp0.mono hle
      replace hc10 := hc10.mono hle
      replace hs9 := hs9.mono hle
      replace hs17 := hs17.mono hle
      try dsimp only at hR
      obtain ⟨x18_1, q18_0, u18_0, rfl, f18_1, hq18_0, rfl⟩ := hR
      simp only [List.cons_append, List.nil_append] at H
      refine NL (IB (IB (TN ?_)))
      obtain ⟨n38, hxn38, e2⟩ := bnd e2
      refine RG (ST (Ex.addC rfl rfl hxn38) rfl (MV rfl rfl (NL ?_)))
      exact WQ.againP m14 [(3, _), (6, _), (7, _), (8, _)] ⟨rfl, rfl, rfl, rfl, trivial⟩ ⟨_, _, _, _, _, rfl, H, hq18_0, hp0, e2⟩ (Nat.lt_succ_self _)
   ·
    replace hk16 : ¬ (n13 < (p0.length : Int)) := of_decide_eq_false hk16
    rw [if_neg hk16] at e2
    refine WC.exit (WQ.thenExit (WQ.thenExit (WQ.exitHere ?_)))
    exact WQ.meetN [(3, _)] ⟨rfl, trivial⟩ ⟨_, _, _, _, rfl, H, hs9, e2⟩
  ·
   rintro e w ⟨v3, l6, v7, M, rfl, H, hs4, q39⟩
   obtain rfl := Option.some.inj q39
   refine TN (SQ ?_)
   obtain ⟨s40, hx41, h⟩ := bnd h
   refine RG ?_
   refine WR.callX (A := [.blk b3 (.cells #[v3, v7] 41), RowI 5 encB v7 l6]) (B := []) (H.pick (L' := [.blk b3 (.cells #[v3, v7] 41), RowI 5 encB v7 l6]) (by repeat (first | exact Pick.nil | refine Pick.cons (by repeat first | exact .head | apply Rem.tail) ?_))) (strings_Builder_String_ct hx41) (.left (.left (Spl.all _))) rfl (hs4) (Wn.none rfl) rfl ?_
   intro v29 M w its H hle hR
   replace hs4 := hs4.mono hle
   obtain ⟨rfl, rfl⟩ := hR
   simp only [List.cons_append, List.nil_append] at H
   refine AS rfl rfl (NL (TN (RT ?_)))
   obtain rfl := Option.some.inj h
   exact WQ.ret1 rfl rfl H.ext rfl
theorem words_word_ct {p0 : List UInt8} {p1 : List UInt8} {r : List UInt8} (h : words_word p0 p1 = some r) : Ct Tryd.prog 15 [S p0, S p1] (fun M => GlF (fun w => ∃ m, w.cell? ⟨2, 0, none⟩ = some (.int .i64 m)) M ∧ Tabs M) (fun v M => v = S r) := by
  refine Ct.of Tryd.func15 (enters Tryd.func15 (by kernel_rfl) rfl) rfl rfl rfl ?_
  intro w0 M0 H hp
  obtain ⟨hg_maxl, hg_tabs⟩ := hp
  unfold words_word at h
  refine SQ (RG (AS rfl rfl (NL (TN (SQ ?_)))))
  obtain ⟨⟨l1, ⟨n2, n3⟩⟩, hx4, h⟩ := bnd h
  try dsimp only at h
  refine RG (MV rfl rfl (MV rfl rfl (WR.call H (charset_Encode_ct hx4) rfl (hg_tabs) (Wn.none rfl) rfl ?_)))
  intro v10 M w H hle hR
  replace hg_maxl := hg_maxl.mono hle
  replace hg_tabs := hg_tabs.mono hle
  try dsimp only at hR
  obtain ⟨x10_0, rfl, f10_0⟩ := hR
  refine MV rfl rfl (ST (Ex.extract rfl rfl) rfl (ST (Ex.extract rfl rfl) rfl (WR.alloc [_, _] H Tryd.zeroValue24 rfl (Wn.none rfl) rfl ?_)))
  intro b6 w H
  refine AS rfl rfl (WR.store [_, _] H rfl rfl rfl (by repeat first | exact .head | apply Upd.tail) Tryd.sizeOf24 rfl (by rfl) (by rfl) (Wn.none rfl) ?_)
  intro w H
  refine NL (TN (SQ (SQ (RG (MV rfl rfl (ST (Ex.strEql rfl rfl) rfl (NL (TN ?_))))))))
  refine WC.condB rfl (fun hk5 => ?_) (fun hk5 => ?_)
  ·
   replace hk5 : p0 = [117, 116, 102, 56] := of_decide_eq_true hk5
   rw [if_pos hk5] at h
   refine SQ ?_
   obtain ⟨s6, hxs6, h⟩ := bnd h
   obtain ⟨s7, hxs7, h⟩ := bnd h
   obtain ⟨s8, hx9, h⟩ := bnd h
   obtain ⟨s10, hxs10, h⟩ := bnd h
   obtain ⟨s11, hxs11, h⟩ := bnd h
   refine RG (MV rfl rfl (ST (Ex.strAddC rfl rfl hxs6) rfl (ST (Ex.strAddC rfl rfl hxs7) rfl (MV rfl rfl (WR.call H (words_flat_ct hx9) rfl ⟨hg_maxl, f10_0⟩ (Wn.none rfl) rfl ?_)))))
   intro v19 M w H hle hR
   replace hg_maxl := hg_maxl.mono hle
   replace hg_tabs := hg_tabs.mono hle
   replace f10_0 := f10_0.mono hle
   obtain rfl := hR
   refine ST (Ex.strAddC rfl rfl hxs10) rfl (ST (Ex.strAddC rfl rfl hxs11) rfl (AS rfl rfl (NL (TN (RT ?_)))))
   obtain rfl := Option.some.inj h
   exact WQ.ret1 rfl rfl H.ext rfl
  ·
   replace hk5 : ¬ (p0 = [117, 116, 102, 56]) := of_decide_eq_false hk5
   rw [if_neg hk5] at h
   refine SK (TN (SQ ?_))
   obtain ⟨s12, hxs12, h⟩ := bnd h
   obtain ⟨s13, hxs13, h⟩ := bnd h
   obtain ⟨s14, hx15, h⟩ := bnd h
   obtain ⟨s16, hxs16, h⟩ := bnd h
   obtain ⟨s17, hxs17, h⟩ := bnd h
   refine RG (MV rfl rfl (ST (Ex.strAddC rfl rfl hxs12) rfl (ST (Ex.strAddC rfl rfl hxs13) rfl (MV rfl rfl (WR.call H (words_data_ct hx15) rfl (f10_0) (Wn.none rfl) rfl ?_)))))
   intro v26 M w H hle hR
   replace hg_maxl := hg_maxl.mono hle
   replace hg_tabs := hg_tabs.mono hle
   replace f10_0 := f10_0.mono hle
   obtain rfl := hR
   refine ST (Ex.strAddC rfl rfl hxs16) rfl (ST (Ex.strAddC rfl rfl hxs17) rfl (AS rfl rfl (NL (TN (RT ?_)))))
   obtain rfl := Option.some.inj h
   exact WQ.ret1 rfl rfl H.ext rfl
theorem words_units_1_ct {p1 : List UInt8} {p2 : List UInt8} {bp1 : Nat} {bp2 : Nat} : ItS Tryd.prog 26 [ptr bp1 0, ptr bp2 0] [] (fun M => GlF (fun w => ∃ m, w.cell? ⟨2, 0, none⟩ = some (.int .i64 m)) M ∧ Tabs M ∧ PtM M bp1 (.cells #[S p1] 9) ∧ PtM M bp2 (.cells #[S p2] 9)) encS (words_units_1 p1 p2) := by
  refine ItS.of Tryd.func26 (enters Tryd.func26 (by kernel_rfl) rfl) rfl rfl rfl ?_
  intro lid σ Y Z C hY s0 r L0 w0 M0 h hzz H hp
  simp only [List.cons_append, List.nil_append] at H
  obtain ⟨hg_maxl, hg_tabs, hp1, hp2⟩ := hp
  unfold words_units_1 at h
  refine SQ ?_
  obtain ⟨l1, hx2, h⟩ := bnd h
  refine RG (ST (Ex.loadM H rfl (hp1.cell (j := 0) rfl) Tryd.isAgg9) rfl (WR.call H (grapheme_Split_ct hx2) rfl (hg_tabs) (Wn.none rfl) rfl ?_))
  intro v9 M w H hle hR
  replace hg_maxl := hg_maxl.mono hle
  replace hg_tabs := hg_tabs.mono hle
  replace hzz := hzz.mono hle
  replace hp1 := hp1.mono hle
  replace hp2 := hp2.mono hle
  have f9_0 := hR
  refine ST (Ex.lenSl Tryd.underlying32 f9_0 rfl) rfl (MV rfl rfl (NL (TN ?_)))
  obtain ⟨o3, e4, h⟩ := bnd h
  refine WC.cutX (fun e w => ∃ (s5 : σ) (Lc : List Ph.Item) (M : Mem), e = [] ∧ StX C w0 M0 M (Lc) w ∧ GlF (fun w => ∃ m, w.cell? ⟨2, 0, none⟩ = some (.int .i64 m)) M ∧ Tabs M ∧ ZH Z s5 Lc M ∧ some (.inl s5) = some o3) [] ?_ ?_ (trivial)
  ·
   refine BL (WC.loopP (fun m e w => ∃ (n6 : Int) (s7 : σ) (Lc : List Ph.Item) (M : Mem), e = [(0, (yv lid)), (2, ptr bp2 0), (9, v9), (10, I (l1.length : Int)), (11, I n6)] ∧ StX C w0 M0 M (Lc) w ∧ GlF (fun w => ∃ m, w.cell? ⟨2, 0, none⟩ = some (.int .i64 m)) M ∧ Tabs M ∧ PtM M bp2 (.cells #[S p2] 9) ∧ Sl M encS v9 l1 ∧ ZH Z s7 Lc M ∧ words_units_1_L1 Y p2 l1 m n6 s7 = some o3) FU [(0, _), (2, _), (9, _), (10, _), (11, _)] ⟨rfl, rfl, rfl, rfl, rfl, trivial⟩ ⟨_, _, _, _, rfl, H, hg_maxl, hg_tabs, hp2, f9_0, hzz, e4⟩ ?_)
   rintro m8 e w ⟨n6, s7, Lc, M, rfl, H, hg_maxl, hg_tabs, hp2, f9_0, hzz, e4⟩
   rcases m8 with _ | m8
   · rw [words_units_1_L1] at e4; cases e4
   rw [words_units_1_L1] at e4
   refine SQ (RG (ST (Ex.lss rfl rfl) rfl (NL (TN (SQ ?_)))))
   refine WC.condB rfl (fun hk9 => ?_) (fun hk9 => ?_)
   ·
    replace hk9 : n6 < (l1.length : Int) := of_decide_eq_true hk9
    rw [if_pos hk9] at e4
    refine SK (TN (SQ (BL (SQ ?_))))
    obtain ⟨a10, hxa10, e4⟩ := bnd e4
    obtain ⟨b13, o13, ha13, hc13⟩ := f9_0.atC hxa10
    refine RG (ST (Ex.idxAt ha13 Tryd.underlying32 Tryd.sizeOf9 rfl rfl) rfl (ST (Ex.loadM H rfl hc13 Tryd.isAgg9) rfl (AS rfl rfl (NL (TN (SQ (SQ ?_)))))))
    obtain ⟨s11, hx12, e4⟩ := bnd e4
    refine RG (ST (Ex.loadM H rfl (hp2.cell (j := 0) rfl) Tryd.isAgg9) rfl (MV rfl rfl (WR.call H (words_word_ct hx12) rfl ⟨hg_maxl, hg_tabs⟩ (Wn.none rfl) rfl ?_)))
    intro v17 M w H hle hR
    replace hg_maxl := hg_maxl.mono hle
    replace hg_tabs := hg_tabs.mono hle
    replace hzz := hzz.mono hle
    replace f9_0 := f9_0.mono hle
    replace hc13 := hc13.mono hle
    replace hp2 := hp2.mono hle
    obtain rfl := hR
    refine ST (Ex.lenStr Tryd.underlying9 rfl) rfl (ST (Ex.leq rfl rfl) rfl (NL (TN ?_)))
    refine WC.condB rfl (fun hk13 => ?_) (fun hk13 => ?_)
    ·
     replace hk13 : (s11.length : Int) ≤ (75 : Int) := of_decide_eq_true hk13
     rw [if_pos hk13] at e4
     refine SQ (SQ ?_)
     obtain ⟨⟨s14, b15⟩, hx16, e4⟩ := bnd e4
     try dsimp only at e4
     refine RG (MV rfl rfl (MV rfl rfl (WR.yieldS H (Spl.whole _) hY hzz hx16 rfl rfl (Wn.none rfl) rfl ?_)))
     intro w M Lc H hle hzz
     simp only [List.cons_append, List.nil_append] at H
     replace hg_maxl := hg_maxl.mono hle
     replace hg_tabs := hg_tabs.mono hle
     replace f9_0 := f9_0.mono hle
     replace hc13 := hc13.mono hle
     replace hp2 := hp2.mono hle
     refine ST (Ex.not rfl) rfl (NL (TN ?_))
     refine WC.condB rfl (fun hk17 => ?_) (fun hk17 => ?_)
     ·
      replace hk17 : b15 = false := by simpa using hk17
      subst hk17
      rw [if_neg Bool.false_ne_true] at e4
      refine RT ?_
      obtain rfl := Option.some.inj e4
      try dsimp only at h
      obtain rfl := Option.some.inj h
      exact WQ.retZ rfl H (by repeat (first | exact List.Sublist.refl _ | apply List.Sublist.cons)) hzz rfl
     ·
      replace hk17 : b15 = true := by simpa using hk17
      subst hk17
      rw [if_pos rfl] at e4
      refine SK (TN (WC.exit (WQ.thenExit (WQ.exitHere (TN ?_)))))
      obtain ⟨n18, hxn18, e4⟩ := bnd e4
      refine RG (ST (Ex.addC rfl rfl hxn18) rfl (MV rfl rfl (NL ?_)))
      exact WQ.againP m8 [(0, _), (2, _), (9, _), (10, _), (11, _)] ⟨rfl, rfl, rfl, rfl, rfl, trivial⟩ ⟨_, _, _, _, rfl, H, hg_maxl, hg_tabs, hp2, f9_0, hzz, e4⟩ (Nat.lt_succ_self _)
    ·
     replace hk13 : ¬ ((s11.length : Int) ≤ (75 : Int)) := of_decide_eq_false hk13
     rw [if_neg hk13] at e4
     refine SK (TN (SQ (RG (MV rfl rfl (WR.rangeStr H Tryd.underlying9 rfl (Wn.none rfl) rfl ?_)))))
     intro b25 w H
     refine NL (TN ?_)
     obtain ⟨o19, e20, e4⟩ := bnd e4
     refine WC.cutX (fun e w => ∃ (s21 : σ) (Lc : List Ph.Item) (M : Mem), e = [(0, (yv lid)), (2, ptr bp2 0), (9, v9), (10, I (l1.length : Int)), (11, I n6)] ∧ StX C w0 M0 M (Lc) w ∧ GlF (fun w => ∃ m, w.cell? ⟨2, 0, none⟩ = some (.int .i64 m)) M ∧ Tabs M ∧ PtM M bp2 (.cells #[S p2] 9) ∧ Sl M encS v9 l1 ∧ ZH Z s21 Lc M ∧ some (.inl s21) = some o19) [] ?_ ?_ (trivial)
     ·
      refine BL (WC.loopP (fun m e w => ∃ (ps22 : Nat) (s23 : σ) (Lc : List Ph.Item) (M : Mem), e = [(0, (yv lid)), (2, ptr bp2 0), (9, v9), (10, I (l1.length : Int)), (11, I n6), (25, ptr b25 0)] ∧ StX C w0 M0 M (.blk b25 (.stringIter ⟨((a10) : List UInt8).toArray⟩ ps22) :: Lc) w ∧ GlF (fun w => ∃ m, w.cell? ⟨2, 0, none⟩ = some (.int .i64 m)) M ∧ Tabs M ∧ PtM M bp2 (.cells #[S p2] 9) ∧ Sl M encS v9 l1 ∧ ZH Z s23 Lc M ∧ words_units_1_L2 Y a10 m ps22 s23 = some o19) FU [(0, _), (2, _), (9, _), (10, _), (11, _), (25, _)] ⟨rfl, rfl, rfl, rfl, rfl, rfl, trivial⟩ ⟨_, _, _, _, rfl, H, hg_maxl, hg_tabs, hp2, f9_0, hzz, e20⟩ ?_)
      rintro m24 e w ⟨ps22, s23, Lc, M, rfl, H, hg_maxl, hg_tabs, hp2, f9_0, hzz, e20⟩
      rcases m24 with _ | m24
      · rw [words_units_1_L2] at e20; cases e20
      rw [words_units_1_L2] at e20
      refine SQ ?_
      by_cases hk25 : ps22 < a10.length
      ·
       rw [if_pos hk25] at e20
       refine RG (WR.nextT H hk25 rfl (by repeat first | exact .head | apply Upd.tail) (Wn.none rfl) rfl ?_)
       intro w H
       refine ST (Ex.extract rfl rfl) rfl (NL (TN (SQ (CT rfl (SK (TN (BL (SQ (RG (ST (Ex.extract rfl rfl) rfl (AS rfl rfl (NL (TN (SQ ?_))))))))))))))
       obtain ⟨⟨s26, b27⟩, hx28, e20⟩ := bnd e20
       try dsimp only at e20
       refine RG (MV rfl rfl (MV rfl rfl (ST (Ex.runeStr Tryd.underlying21 Tryd.underlying9 rfl) rfl (WR.yieldS H (.right (Spl.whole _)) hY hzz hx28 rfl rfl (Wn.none rfl) rfl ?_))))
       intro w M Lc H hle hzz
       simp only [List.cons_append, List.nil_append] at H
       replace hg_maxl := hg_maxl.mono hle
       replace hg_tabs := hg_tabs.mono hle
       replace f9_0 := f9_0.mono hle
       replace hp2 := hp2.mono hle
       refine ST (Ex.not rfl) rfl (NL (TN ?_))
       refine WC.condB rfl (fun hk29 => ?_) (fun hk29 => ?_)
       ·
        replace hk29 : b27 = false := by simpa using hk29
        subst hk29
        rw [if_neg Bool.false_ne_true] at e20
        refine RT ?_
        obtain rfl := Option.some.inj e20
        try dsimp only at e4
        obtain rfl := Option.some.inj e4
        try dsimp only at h
        obtain rfl := Option.some.inj h
        exact WQ.retZ rfl H (by repeat (first | exact List.Sublist.refl _ | apply List.Sublist.cons)) hzz rfl
       ·
        replace hk29 : b27 = true := by simpa using hk29
        subst hk29
        rw [if_pos rfl] at e20
        refine SK (IB ?_)
        exact WQ.againP m24 [(0, _), (2, _), (9, _), (10, _), (11, _), (25, _)] ⟨rfl, rfl, rfl, rfl, rfl, rfl, trivial⟩ ⟨_, _, _, _, rfl, H, hg_maxl, hg_tabs, hp2, f9_0, hzz, e20⟩ (Nat.lt_succ_self _)
      ·
       rw [if_neg hk25] at e20
       refine RG (WR.nextF H (Nat.le_of_not_lt hk25) rfl (by repeat (first | exact List.Mem.head _ | apply List.Mem.tail)) (Wn.none rfl) rfl ?_)
       refine ST (Ex.extract rfl rfl) rfl (NL (TN (SQ (CF rfl (WC.exit (WQ.thenExit (WQ.thenExit (WQ.exitHere ?_))))))))
       exact WQ.meetN [(0, _), (2, _), (9, _), (10, _), (11, _)] ⟨rfl, rfl, rfl, rfl, rfl, trivial⟩ ⟨_, _, _, rfl, (H.pick (L' := (Lc)) (by repeat (first | exact Pick.ofSub (by repeat (first | exact List.Sublist.refl _ | apply List.Sublist.cons)) | refine Pick.cons (by repeat first | exact .head | apply Rem.tail) ?_))), hg_maxl, hg_tabs, hp2, f9_0, hzz, e20⟩
     ·
      rintro e w ⟨s21, Lc, M, rfl, H, hg_maxl, hg_tabs, hp2, f9_0, hzz, q30⟩
      obtain rfl := Option.some.inj q30
      try dsimp only at e4
      refine IB (TN ?_)
      obtain ⟨n31, hxn31, e4⟩ := bnd e4
      refine RG (ST (Ex.addC rfl rfl hxn31) rfl (MV rfl rfl (NL ?_)))
      exact WQ.againP m8 [(0, _), (2, _), (9, _), (10, _), (11, _)] ⟨rfl, rfl, rfl, rfl, rfl, trivial⟩ ⟨_, _, _, _, rfl, H, hg_maxl, hg_tabs, hp2, f9_0, hzz, e4⟩ (Nat.lt_succ_self _)
   ·
    replace hk9 : ¬ (n6 < (l1.length : Int)) := of_decide_eq_false hk9
    rw [if_neg hk9] at e4
    refine WC.exit (WQ.thenExit (WQ.thenExit (WQ.exitHere ?_)))
    exact WQ.meetN [] trivial ⟨_, _, _, rfl, H, hg_maxl, hg_tabs, hzz, e4⟩
  ·
   rintro e w ⟨s5, Lc, M, rfl, H, hg_maxl, hg_tabs, hzz, q34⟩
   obtain rfl := Option.some.inj q34
   try dsimp only at h
   obtain rfl := Option.some.inj h
   exact WQ.endZ rfl H (by repeat (first | exact List.Sublist.refl _ | apply List.Sublist.cons)) hzz rfl
set_option maxHeartbeats 4000000 in
theorem words_Encode_ct {p0 : List UInt8} {r : (List UInt8 × (Int × Int))} (h : words_Encode p0 = some r) : Ct Tryd.prog 6 [S p0] (fun M => GlF (fun w => ∃ m, w.cell? ⟨2, 0, none⟩ = some (.int .i64 m)) M ∧ Tabs M) (fun v M => v = Value.tuple #[S r.1, Value.agg #[I r.2.1, I r.2.2]]) := by
  refine Ct.ofM Tryd.func6 (enters Tryd.func6 (by kernel_rfl) rfl) rfl rfl rfl ?_
  intro w0 M0 H hp
  obtain ⟨hg_maxl, hg_tabs⟩ := hp
  unfold words_Encode at h
  refine SQ (RG (AS rfl rfl (WR.alloc [_, _] H Tryd.zeroValue24 rfl (Wn.none rfl) rfl ?_)))
  intro b3 w H
  refine NL (TN (SQ (SQ (RG (MV rfl rfl (ST (Ex.lenStr Tryd.underlying9 rfl) rfl (ST (Ex.gtr rfl rfl) rfl (NL (TN ?_)))))))))
  refine WC.condB rfl (fun hk1 => ?_) (fun hk1 => ?_)
  ·
   replace hk1 : (1000 : Int) < (p0.length : Int) := of_decide_eq_true hk1
   rw [if_pos hk1] at h
   refine SQ ?_
   obtain ⟨⟨n2, n3⟩, hx4, h⟩ := bnd h
   try dsimp only at h
   refine RG (WR.call H (basic_Fault_ct hx4) rfl trivial (Wn.none rfl) rfl ?_)
   intro v11 M w H hle hR
   replace hg_maxl := hg_maxl.mono hle
   replace hg_tabs := hg_tabs.mono hle
   try dsimp only at hR
   obtain rfl := hR
   refine AS rfl rfl (WR.store [_, _] H rfl rfl rfl (by repeat first | exact .head | apply Upd.tail) Tryd.sizeOf24 rfl (by rfl) (by rfl) (Wn.none rfl) ?_)
   intro w H
   refine NL (TN (RT ?_))
   obtain rfl := Option.some.inj h
   exact WQ.mret2 rfl rfl ⟨_, rfl, H.loadAgg (by repeat (first | exact List.Mem.head _ | apply List.Mem.tail)) Tryd.isAgg24 Tryd.sizeOf24 (by rfl)⟩ H.ext rfl
  ·
   replace hk1 : ¬ ((1000 : Int) < (p0.length : Int)) := of_decide_eq_false hk1
   rw [if_neg hk1] at h
   refine SK (TN (SQ (SQ ?_)))
   obtain ⟨b5, hx6, h⟩ := bnd h
   refine RG (MV rfl rfl (WR.call H (utf8_ValidString_ct hx6) rfl (hg_tabs) (Wn.none rfl) rfl ?_))
   intro v13 M w H hle hR
   replace hg_maxl := hg_maxl.mono hle
   replace hg_tabs := hg_tabs.mono hle
   obtain rfl := hR
   refine ST (Ex.not rfl) rfl (NL (TN ?_))
   refine WC.condB rfl (fun hk7 => ?_) (fun hk7 => ?_)
   ·
    replace hk7 : b5 = false := by simpa using hk7
    subst hk7
    rw [if_neg Bool.false_ne_true] at h
    refine SQ ?_
    obtain ⟨⟨n8, n9⟩, hx10, h⟩ := bnd h
    try dsimp only at h
    refine RG (WR.call H (basic_Fault_ct hx10) rfl trivial (Wn.none rfl) rfl ?_)
    intro v15 M w H hle hR
    replace hg_maxl := hg_maxl.mono hle
    replace hg_tabs := hg_tabs.mono hle
    try dsimp only at hR
    obtain rfl := hR
    refine AS rfl rfl (WR.store [_, _] H rfl rfl rfl (by repeat first | exact .head | apply Upd.tail) Tryd.sizeOf24 rfl (by rfl) (by rfl) (Wn.none rfl) ?_)
    intro w H
    refine NL (TN (RT ?_))
    obtain rfl := Option.some.inj h
    exact WQ.mret2 rfl rfl ⟨_, rfl, H.loadAgg (by repeat (first | exact List.Mem.head _ | apply List.Mem.tail)) Tryd.isAgg24 Tryd.sizeOf24 (by rfl)⟩ H.ext rfl
   ·
    replace hk7 : b5 = true := by simpa using hk7
    subst hk7
    rw [if_pos rfl] at h
    refine SK (TN (SQ (SQ ?_)))
    obtain ⟨b11, hx12, h⟩ := bnd h
    refine RG (MV rfl rfl (WR.call H (words_plain_ct hx12) rfl (hg_maxl) (Wn.none rfl) rfl ?_))
    intro v17 M w H hle hR
    replace hg_maxl := hg_maxl.mono hle
    replace hg_tabs := hg_tabs.mono hle
    obtain rfl := hR
    refine NL (TN ?_)
    refine WC.condB rfl (fun hk13 => ?_) (fun hk13 => ?_)
    ·
     subst hk13
     rw [if_pos rfl] at h
     refine SQ ?_
     obtain ⟨⟨n14, n15⟩, hx16, h⟩ := bnd h
     try dsimp only at h
     refine RG (MV rfl rfl (WR.call H (basic_None_ct hx16) rfl trivial (Wn.none rfl) rfl ?_))
     intro v19 M w H hle hR
     replace hg_maxl := hg_maxl.mono hle
     replace hg_tabs := hg_tabs.mono hle
     try dsimp only at hR
     obtain rfl := hR
     refine AS rfl rfl (WR.store [_, _] H rfl rfl rfl (by repeat first | exact .head | apply Upd.tail) Tryd.sizeOf24 rfl (by rfl) (by rfl) (Wn.none rfl) ?_)
     intro w H
     refine NL (TN (RT ?_))
     obtain rfl := Option.some.inj h
     exact WQ.mret2 rfl rfl ⟨_, rfl, H.loadAgg (by repeat (first | exact List.Mem.head _ | apply List.Mem.tail)) Tryd.isAgg24 Tryd.sizeOf24 (by rfl)⟩ H.ext rfl
    ·
     subst hk13
     rw [if_neg Bool.false_ne_true] at h
     refine SK (TN (SQ ?_))
     obtain ⟨s17, hx18, h⟩ := bnd h
     refine RG (MV rfl rfl (WR.call H (charset_Best_ct hx18) rfl trivial (Wn.none rfl) rfl ?_))
     intro v21 M w H hle hR
     replace hg_maxl := hg_maxl.mono hle
     replace hg_tabs := hg_tabs.mono hle
     obtain rfl := hR
     refine WR.alloc [_] H Tryd.zeroValue9 rfl (Wn.none rfl) rfl ?_
     intro b4 w H
     refine WR.store [_] H rfl rfl rfl (by repeat first | exact .head | apply Upd.tail) Tryd.sizeOf9 rfl (by rfl) (by rfl) (Wn.none rfl) ?_
     intro w H
     refine NL (TN (SQ (RG (WR.alloc [_] H Tryd.zeroValue32 rfl (Wn.none rfl) rfl ?_))))
     intro b5 w H
     refine NL (TN (SQ (RG (WR.alloc [_] H Tryd.zeroValue9 rfl (Wn.none rfl) rfl ?_))))
     intro b6 w H
     refine WR.store [_] H rfl rfl rfl (by repeat first | exact .head | apply Upd.tail) Tryd.sizeOf9 rfl (by rfl) (by rfl) (Wn.none rfl) ?_
     intro w H
     refine NL (TN (SQ (SQ ?_)))
     obtain ⟨⟨z19, z21⟩, hx23, h⟩ := bnd h
     try dsimp only at h
     refine RG (ST (Ex.load1 H rfl (by repeat (first | exact List.Mem.head _ | apply List.Mem.tail)) Tryd.isAgg9 (by rfl)) rfl ?_)
     refine MV rfl rfl (WR.call H (words_units_ct hx23) rfl trivial (Wn.none rfl) rfl ?_)
     intro v24 M w H hle hR
     replace hg_maxl := hg_maxl.mono hle
     replace hg_tabs := hg_tabs.mono hle
     try dsimp only at hR
     obtain ⟨b24_0_0, b24_0_1, rfl, f24_0_0, f24_0_1⟩ := hR
     refine NL (TN (BL ?_))
     replace H := H.newRow 9 encS
     obtain ⟨o30, e31, h⟩ := bnd h
     refine WC.rangeS (A := []) (L := [.blk b3 (.cells #[I 0, I 0] 24), .blk b4 (.cells #[S s17] 9), .blk b5 (.cells #[(Value.slice none 0 0)] 32), RowI 9 encS (Value.slice none 0 0) [], .blk b6 (.cells #[S []] 9)]) (B := []) (H.pick (L' := [.blk b3 (.cells #[I 0, I 0] 24), .blk b4 (.cells #[S s17] 9), .blk b5 (.cells #[(Value.slice none 0 0)] 32), RowI 9 encS (Value.slice none 0 0) [], .blk b6 (.cells #[S []] 9)]) (by repeat (first | exact Pick.nil | refine Pick.cons (by repeat first | exact .head | apply Rem.tail) ?_))) rfl words_units_1_ct (.left (.left (.left (.left (.left (Spl.all _)))))) ⟨hg_maxl, hg_tabs, f24_0_0, f24_0_1⟩ rfl (fun s L M => ∃ (l25 : List (List UInt8)) (v26 : Value) (s27 : List UInt8), s = (l25, s27) ∧ L = [.blk b3 (.cells #[I 0, I 0] 24), .blk b4 (.cells #[S s17] 9), .blk b5 (.cells #[v26] 32), RowI 9 encS v26 l25, .blk b6 (.cells #[S s27] 9)] ∧ GlF (fun w => ∃ m, w.cell? ⟨2, 0, none⟩ = some (.int .i64 m)) M ∧ Tabs M) (fun _ => none) goOn (fun _ => rfl) (words_Encode_Y28 s17) ([], []) o30 e31 (by rintro s L M M' ⟨l25, v26, s27, rfl, rfl, hg_maxl, hg_tabs⟩ hle; exact ⟨_, _, _, rfl, rfl, hg_maxl.mono hle, hg_tabs.mono hle⟩) rfl ⟨_, _, _, rfl, rfl, hg_maxl, hg_tabs⟩ ?_ ?_ ?_
     ·
      rintro lid28 rc28 hrc28 s x32 sx28 L wb28 Mb28 hE e33 ⟨l25, v26, s27, rfl, rfl, hg_maxl, hg_tabs⟩ H
      unfold words_Encode_Y28 at e33
      try dsimp only at e33
      refine RG (AS rfl rfl (NL (WQ.begin hrc28 H (by repeat first | exact .head | apply Upd.tail) ?_)))
      intro w H
      refine BL (SQ (SQ ?_))
      obtain ⟨o34, e35, e33⟩ := bnd e33
      refine WC.cutX (fun e w => ∃ (b36 : Bool) (M : Mem), e = [(3, ptr b3 0), (4, ptr b4 0), (5, ptr b5 0), (6, ptr b6 0), (7, S x32), (36, Value.bool b36)] ∧ StX (feet (.blk lid28 (.loop (rc28 .ready none)) :: [.blk b3 (.cells #[I 0, I 0] 24), .blk b4 (.cells #[S s17] 9), .blk b5 (.cells #[v26] 32), RowI 9 encS v26 l25, .blk b6 (.cells #[S s27] 9)])) wb28 Mb28 M [.blk b3 (.cells #[I 0, I 0] 24), .blk b4 (.cells #[S s17] 9), .blk b5 (.cells #[v26] 32), RowI 9 encS v26 l25, .blk b6 (.cells #[S s27] 9), .blk lid28 (.loop (rc28 .busy none))] w ∧ GlF (fun w => ∃ m, w.cell? ⟨2, 0, none⟩ = some (.int .i64 m)) M ∧ Tabs M ∧ some b36 = some o34) [] ?_ ?_ (trivial)
      ·
       by_cases hk37 : s27 = []
       ·
        rw [if_pos hk37] at e35
        refine RG (ST (Ex.load1 H rfl (by repeat (first | exact List.Mem.head _ | apply List.Mem.tail)) Tryd.isAgg9 (by rfl)) rfl ?_)
        refine WR.stepE (v' := .bool false) (Ex.strNeqC rfl rfl) (congrArg Value.bool (by rw [decide_eq_true hk37]; rfl)) (Wn.none rfl) rfl rfl ?_
        refine MV rfl rfl (WR.skipN 7 rfl rfl (PF rfl rfl rfl (NL ?_)))
        exact WQ.meetN [(3, _), (4, _), (5, _), (6, _), (7, _), (36, _)] ⟨rfl, rfl, rfl, rfl, rfl, rfl, trivial⟩ ⟨_, _, rfl, (H.pick (L' := [.blk b3 (.cells #[I 0, I 0] 24), .blk b4 (.cells #[S s17] 9), .blk b5 (.cells #[v26] 32), RowI 9 encS v26 l25, .blk b6 (.cells #[S s27] 9), .blk lid28 (.loop (rc28 .busy none))]) (by repeat (first | exact Pick.nil | refine Pick.cons (by repeat first | exact .head | apply Rem.tail) ?_))), hg_maxl, hg_tabs, e35⟩
       ·
        rw [if_neg hk37] at e35
        obtain ⟨s38, hxs38, e35⟩ := bnd e35
        obtain ⟨s39, hx40, e35⟩ := bnd e35
        refine RG (ST (Ex.load1 H rfl (by repeat (first | exact List.Mem.head _ | apply List.Mem.tail)) Tryd.isAgg9 (by rfl)) rfl ?_)
        refine WR.stepE (v' := .bool true) (Ex.strNeqC rfl rfl) (congrArg Value.bool (by rw [decide_eq_false hk37]; rfl)) (Wn.none rfl) rfl rfl ?_
        refine MV rfl rfl (SG (Ex.load1 H rfl (by repeat (first | exact List.Mem.head _ | apply List.Mem.tail)) Tryd.isAgg9 (by rfl)) rfl rfl rfl ?_)
        refine SG (Ex.load1 H rfl (by repeat (first | exact List.Mem.head _ | apply List.Mem.tail)) Tryd.isAgg9 (by rfl)) rfl rfl rfl ?_
        refine SG (Ex.move rfl) rfl rfl rfl (SG (Ex.strAddC rfl rfl hxs38) rfl rfl rfl (WR.call H (words_word_ct hx40) rfl ⟨hg_maxl, hg_tabs⟩ (Wn.some rfl rfl rfl) rfl ?_))
        intro v33 M w H hle hR
        replace hg_maxl := hg_maxl.mono hle
        replace hg_tabs := hg_tabs.mono hle
        obtain rfl := hR
        refine SG (Ex.lenStr Tryd.underlying9 rfl) rfl rfl rfl (SG (Ex.gtr rfl rfl) rfl rfl rfl (PT rfl rfl rfl (NL ?_)))
        exact WQ.meetN [(3, _), (4, _), (5, _), (6, _), (7, _), (36, _)] ⟨rfl, rfl, rfl, rfl, rfl, rfl, trivial⟩ ⟨_, _, rfl, (H.pick (L' := [.blk b3 (.cells #[I 0, I 0] 24), .blk b4 (.cells #[S s17] 9), .blk b5 (.cells #[v26] 32), RowI 9 encS v26 l25, .blk b6 (.cells #[S s27] 9), .blk lid28 (.loop (rc28 .busy none))]) (by repeat (first | exact Pick.nil | refine Pick.cons (by repeat first | exact .head | apply Rem.tail) ?_))), hg_maxl, hg_tabs, e35⟩
      ·
       rintro e w ⟨b36, M, rfl, H, hg_maxl, hg_tabs, q41⟩
       obtain rfl := Option.some.inj q41
       refine TN ?_
       refine WC.condB rfl (fun hk42 => ?_) (fun hk42 => ?_)
       ·
        subst hk42
        rw [if_pos rfl] at e33
        refine SQ ?_
        obtain ⟨s43, hx44, e33⟩ := bnd e33
        obtain ⟨l45, hxl45, e33⟩ := bnd e33
        refine WC.cutP (fun e w => ∃ (v46 : Value) (M : Mem), e = [(3, ptr b3 0), (4, ptr b4 0), (5, ptr b5 0), (6, ptr b6 0), (7, S x32)] ∧ StX (feet (.blk lid28 (.loop (rc28 .ready none)) :: [.blk b3 (.cells #[I 0, I 0] 24), .blk b4 (.cells #[S s17] 9), .blk b5 (.cells #[v26] 32), RowI 9 encS v26 l25, .blk b6 (.cells #[S s27] 9)])) wb28 Mb28 M [.blk b3 (.cells #[I 0, I 0] 24), .blk b4 (.cells #[S s17] 9), .blk b5 (.cells #[v46] 32), RowI 9 encS v46 l45, .blk b6 (.cells #[S s27] 9), .blk lid28 (.loop (rc28 .busy none))] w ∧ GlF (fun w => ∃ m, w.cell? ⟨2, 0, none⟩ = some (.int .i64 m)) M ∧ Tabs M) ?_ ?_
        ·
         refine WC.draw (m := 7) rfl rfl H ?_
         intro w H
         refine WA.three (i := 0) (j := 1) (k := 2) (by kernel_rfl) rfl rfl rfl ?_ ?_ ?_
         ·
          refine ST (Ex.load1 H rfl (by repeat (first | exact List.Mem.head _ | apply List.Mem.tail)) Tryd.isAgg32 (by rfl)) rfl ?_
          refine NA ?_
          refine WA.two (i := 1) (j := 2) (by kernel_rfl) rfl rfl ?_ ?_
          ·
           refine ST (Ex.load1 H rfl (by repeat (first | exact List.Mem.head _ | apply List.Mem.tail)) Tryd.isAgg9 (by rfl)) rfl ?_
           refine NA (WA.seq (fuel := 0) [2, 3, 4, 5, 6] rfl (by kernel_rfl) (ST (Ex.load1 H rfl (by repeat (first | exact List.Mem.head _ | apply List.Mem.tail)) Tryd.isAgg9 (by rfl)) rfl ?_))
           refine WR.call H (words_word_ct hx44) rfl ⟨hg_maxl, hg_tabs⟩ (Wn.none rfl) rfl ?_
           intro v40 M w H hle hR
           replace hg_maxl := hg_maxl.mono hle
           replace hg_tabs := hg_tabs.mono hle
           obtain rfl := hR
           refine WR.lit (enc := encS) xty32 ([s43] : List (List UInt8)) H rfl (by rfl) (fun _ => rfl) rfl rfl (Wn.none rfl) rfl ?_
           intro v41 M w H hle hs41
           replace hg_maxl := hg_maxl.mono hle
           replace hg_tabs := hg_tabs.mono hle
           refine WR.appC (l := l25) xty32 rfl (fun _ => rfl) H rfl (fun _ => by repeat first | exact .head | apply Upd.tail) rfl (hs41) hxl45 (Wn.none rfl) rfl ?_
           intro v42 w H
           refine WR.putV [_] H rfl rfl (H.rowOne (by repeat (first | exact List.Mem.head _ | apply List.Mem.tail))) (by repeat first | exact .head | apply Upd.tail) (by rfl) Tryd.sizeOf32 (by first | decide | (simp; done) | (simp; omega)) (Wn.none rfl) ?_
           intro w H
           refine NA (WA.done (by kernel_rfl) ?_)
           exact WQ.meetP [(3, _), (4, _), (5, _), (6, _), (7, _)] ⟨rfl, rfl, rfl, rfl, rfl, trivial⟩ ⟨_, _, rfl, H, hg_maxl, hg_tabs⟩
          ·
           refine ST (Ex.load1 H rfl (by repeat (first | exact List.Mem.head _ | apply List.Mem.tail)) Tryd.isAgg9 (by rfl)) rfl ?_
           refine NA (WA.seq (fuel := 0) [1, 3, 4, 5, 6] rfl (by kernel_rfl) (ST (Ex.load1 H rfl (by repeat (first | exact List.Mem.head _ | apply List.Mem.tail)) Tryd.isAgg9 (by rfl)) rfl ?_))
           refine WR.call H (words_word_ct hx44) rfl ⟨hg_maxl, hg_tabs⟩ (Wn.none rfl) rfl ?_
           intro v40 M w H hle hR
           replace hg_maxl := hg_maxl.mono hle
           replace hg_tabs := hg_tabs.mono hle
           obtain rfl := hR
           refine WR.lit (enc := encS) xty32 ([s43] : List (List UInt8)) H rfl (by rfl) (fun _ => rfl) rfl rfl (Wn.none rfl) rfl ?_
           intro v41 M w H hle hs41
           replace hg_maxl := hg_maxl.mono hle
           replace hg_tabs := hg_tabs.mono hle
           refine WR.appC (l := l25) xty32 rfl (fun _ => rfl) H rfl (fun _ => by repeat first | exact .head | apply Upd.tail) rfl (hs41) hxl45 (Wn.none rfl) rfl ?_
           intro v42 w H
           refine WR.putV [_] H rfl rfl (H.rowOne (by repeat (first | exact List.Mem.head _ | apply List.Mem.tail))) (by repeat first | exact .head | apply Upd.tail) (by rfl) Tryd.sizeOf32 (by first | decide | (simp; done) | (simp; omega)) (Wn.none rfl) ?_
           intro w H
           refine NA (WA.done (by kernel_rfl) ?_)
           exact WQ.meetP [(3, _), (4, _), (5, _), (6, _), (7, _)] ⟨rfl, rfl, rfl, rfl, rfl, trivial⟩ ⟨_, _, rfl, H, hg_maxl, hg_tabs⟩
         ·
          refine ST (Ex.load1 H rfl (by repeat (first | exact List.Mem.head _ | apply List.Mem.tail)) Tryd.isAgg9 (by rfl)) rfl ?_
          refine NA ?_
          refine WA.two (i := 0) (j := 2) (by kernel_rfl) rfl rfl ?_ ?_
          ·
           refine ST (Ex.load1 H rfl (by repeat (first | exact List.Mem.head _ | apply List.Mem.tail)) Tryd.isAgg32 (by rfl)) rfl ?_
           refine NA (WA.seq (fuel := 0) [2, 3, 4, 5, 6] rfl (by kernel_rfl) (ST (Ex.load1 H rfl (by repeat (first | exact List.Mem.head _ | apply List.Mem.tail)) Tryd.isAgg9 (by rfl)) rfl ?_))
           refine WR.call H (words_word_ct hx44) rfl ⟨hg_maxl, hg_tabs⟩ (Wn.none rfl) rfl ?_
           intro v40 M w H hle hR
           replace hg_maxl := hg_maxl.mono hle
           replace hg_tabs := hg_tabs.mono hle
           obtain rfl := hR
           refine WR.lit (enc := encS) xty32 ([s43] : List (List UInt8)) H rfl (by rfl) (fun _ => rfl) rfl rfl (Wn.none rfl) rfl ?_
           intro v41 M w H hle hs41
           replace hg_maxl := hg_maxl.mono hle
           replace hg_tabs := hg_tabs.mono hle
           refine WR.appC (l := l25) xty32 rfl (fun _ => rfl) H rfl (fun _ => by repeat first | exact .head | apply Upd.tail) rfl (hs41) hxl45 (Wn.none rfl) rfl ?_
           intro v42 w H
           refine WR.putV [_] H rfl rfl (H.rowOne (by repeat (first | exact List.Mem.head _ | apply List.Mem.tail))) (by repeat first | exact .head | apply Upd.tail) (by rfl) Tryd.sizeOf32 (by first | decide | (simp; done) | (simp; omega)) (Wn.none rfl) ?_
           intro w H
           refine NA (WA.done (by kernel_rfl) ?_)
           exact WQ.meetP [(3, _), (4, _), (5, _), (6, _), (7, _)] ⟨rfl, rfl, rfl, rfl, rfl, trivial⟩ ⟨_, _, rfl, H, hg_maxl, hg_tabs⟩
          ·
           refine ST (Ex.load1 H rfl (by repeat (first | exact List.Mem.head _ | apply List.Mem.tail)) Tryd.isAgg9 (by rfl)) rfl ?_
           refine NA ?_
           refine WA.two (i := 0) (j := 3) (by kernel_rfl) rfl rfl ?_ ?_
           ·
            refine ST (Ex.load1 H rfl (by repeat (first | exact List.Mem.head _ | apply List.Mem.tail)) Tryd.isAgg32 (by rfl)) rfl ?_
            refine NA (WA.seq (fuel := 0) [3, 4, 5, 6] rfl (by kernel_rfl) (WR.call H (words_word_ct hx44) rfl ⟨hg_maxl, hg_tabs⟩ (Wn.none rfl) rfl ?_))
            intro v40 M w H hle hR
            replace hg_maxl := hg_maxl.mono hle
            replace hg_tabs := hg_tabs.mono hle
            obtain rfl := hR
            refine WR.lit (enc := encS) xty32 ([s43] : List (List UInt8)) H rfl (by rfl) (fun _ => rfl) rfl rfl (Wn.none rfl) rfl ?_
            intro v41 M w H hle hs41
            replace hg_maxl := hg_maxl.mono hle
            replace hg_tabs := hg_tabs.mono hle
            refine WR.appC (l := l25) xty32 rfl (fun _ => rfl) H rfl (fun _ => by repeat first | exact .head | apply Upd.tail) rfl (hs41) hxl45 (Wn.none rfl) rfl ?_
            intro v42 w H
            refine WR.putV [_] H rfl rfl (H.rowOne (by repeat (first | exact List.Mem.head _ | apply List.Mem.tail))) (by repeat first | exact .head | apply Upd.tail) (by rfl) Tryd.sizeOf32 (by first | decide | (simp; done) | (simp; omega)) (Wn.none rfl) ?_
            intro w H
            refine NA (WA.done (by kernel_rfl) ?_)
            exact WQ.meetP [(3, _), (4, _), (5, _), (6, _), (7, _)] ⟨rfl, rfl, rfl, rfl, rfl, trivial⟩ ⟨_, _, rfl, H, hg_maxl, hg_tabs⟩
           ·
            refine WR.call H (words_word_ct hx44) rfl ⟨hg_maxl, hg_tabs⟩ (Wn.none rfl) rfl ?_
            intro v40 M w H hle hR
            replace hg_maxl := hg_maxl.mono hle
            replace hg_tabs := hg_tabs.mono hle
            obtain rfl := hR
            refine NA ?_
            refine WA.two (i := 0) (j := 4) (by kernel_rfl) rfl rfl ?_ ?_
            ·
             refine ST (Ex.load1 H rfl (by repeat (first | exact List.Mem.head _ | apply List.Mem.tail)) Tryd.isAgg32 (by rfl)) rfl ?_
             refine NA (WA.seq (fuel := 0) [4, 5, 6] rfl (by kernel_rfl) (WR.lit (enc := encS) xty32 ([s43] : List (List UInt8)) H rfl (by rfl) (fun _ => rfl) rfl rfl (Wn.none rfl) rfl ?_))
             intro v41 M w H hle hs41
             replace hg_maxl := hg_maxl.mono hle
             replace hg_tabs := hg_tabs.mono hle
             refine WR.appC (l := l25) xty32 rfl (fun _ => rfl) H rfl (fun _ => by repeat first | exact .head | apply Upd.tail) rfl (hs41) hxl45 (Wn.none rfl) rfl ?_
             intro v42 w H
             refine WR.putV [_] H rfl rfl (H.rowOne (by repeat (first | exact List.Mem.head _ | apply List.Mem.tail))) (by repeat first | exact .head | apply Upd.tail) (by rfl) Tryd.sizeOf32 (by first | decide | (simp; done) | (simp; omega)) (Wn.none rfl) ?_
             intro w H
             refine NA (WA.done (by kernel_rfl) ?_)
             exact WQ.meetP [(3, _), (4, _), (5, _), (6, _), (7, _)] ⟨rfl, rfl, rfl, rfl, rfl, trivial⟩ ⟨_, _, rfl, H, hg_maxl, hg_tabs⟩
            ·
             refine WR.lit (enc := encS) xty32 ([s43] : List (List UInt8)) H rfl (by rfl) (fun _ => rfl) rfl rfl (Wn.none rfl) rfl ?_
             intro v41 M w H hle hs41
             replace hg_maxl := hg_maxl.mono hle
             replace hg_tabs := hg_tabs.mono hle
             refine NA (WA.seq (fuel := 0) [0, 5, 6] rfl (by kernel_rfl) (ST (Ex.load1 H rfl (by repeat (first | exact List.Mem.head _ | apply List.Mem.tail)) Tryd.isAgg32 (by rfl)) rfl ?_))
             refine WR.appC (l := l25) xty32 rfl (fun _ => rfl) H rfl (fun _ => by repeat first | exact .head | apply Upd.tail) rfl (hs41) hxl45 (Wn.none rfl) rfl ?_
             intro v42 w H
             refine WR.putV [_] H rfl rfl (H.rowOne (by repeat (first | exact List.Mem.head _ | apply List.Mem.tail))) (by repeat first | exact .head | apply Upd.tail) (by rfl) Tryd.sizeOf32 (by first | decide | (simp; done) | (simp; omega)) (Wn.none rfl) ?_
             intro w H
             refine NA (WA.done (by kernel_rfl) ?_)
             exact WQ.meetP [(3, _), (4, _), (5, _), (6, _), (7, _)] ⟨rfl, rfl, rfl, rfl, rfl, trivial⟩ ⟨_, _, rfl, H, hg_maxl, hg_tabs⟩
         ·
          refine ST (Ex.load1 H rfl (by repeat (first | exact List.Mem.head _ | apply List.Mem.tail)) Tryd.isAgg9 (by rfl)) rfl ?_
          refine NA ?_
          refine WA.two (i := 0) (j := 1) (by kernel_rfl) rfl rfl ?_ ?_
          ·
           refine ST (Ex.load1 H rfl (by repeat (first | exact List.Mem.head _ | apply List.Mem.tail)) Tryd.isAgg32 (by rfl)) rfl ?_
           refine NA (WA.seq (fuel := 0) [1, 3, 4, 5, 6] rfl (by kernel_rfl) (ST (Ex.load1 H rfl (by repeat (first | exact List.Mem.head _ | apply List.Mem.tail)) Tryd.isAgg9 (by rfl)) rfl ?_))
           refine WR.call H (words_word_ct hx44) rfl ⟨hg_maxl, hg_tabs⟩ (Wn.none rfl) rfl ?_
           intro v40 M w H hle hR
           replace hg_maxl := hg_maxl.mono hle
           replace hg_tabs := hg_tabs.mono hle
           obtain rfl := hR
           refine WR.lit (enc := encS) xty32 ([s43] : List (List UInt8)) H rfl (by rfl) (fun _ => rfl) rfl rfl (Wn.none rfl) rfl ?_
           intro v41 M w H hle hs41
           replace hg_maxl := hg_maxl.mono hle
           replace hg_tabs := hg_tabs.mono hle
           refine WR.appC (l := l25) xty32 rfl (fun _ => rfl) H rfl (fun _ => by repeat first | exact .head | apply Upd.tail) rfl (hs41) hxl45 (Wn.none rfl) rfl ?_
           intro v42 w H
           refine WR.putV [_] H rfl rfl (H.rowOne (by repeat (first | exact List.Mem.head _ | apply List.Mem.tail))) (by repeat first | exact .head | apply Upd.tail) (by rfl) Tryd.sizeOf32 (by first | decide | (simp; done) | (simp; omega)) (Wn.none rfl) ?_
           intro w H
           refine NA (WA.done (by kernel_rfl) ?_)
           exact WQ.meetP [(3, _), (4, _), (5, _), (6, _), (7, _)] ⟨rfl, rfl, rfl, rfl, rfl, trivial⟩ ⟨_, _, rfl, H, hg_maxl, hg_tabs⟩
          ·
           refine ST (Ex.load1 H rfl (by repeat (first | exact List.Mem.head _ | apply List.Mem.tail)) Tryd.isAgg9 (by rfl)) rfl ?_
           refine NA ?_
           refine WA.two (i := 0) (j := 3) (by kernel_rfl) rfl rfl ?_ ?_
           ·
            refine ST (Ex.load1 H rfl (by repeat (first | exact List.Mem.head _ | apply List.Mem.tail)) Tryd.isAgg32 (by rfl)) rfl ?_
            refine NA (WA.seq (fuel := 0) [3, 4, 5, 6] rfl (by kernel_rfl) (WR.call H (words_word_ct hx44) rfl ⟨hg_maxl, hg_tabs⟩ (Wn.none rfl) rfl ?_))
            intro v40 M w H hle hR
            replace hg_maxl := hg_maxl.mono hle
            replace hg_tabs := hg_tabs.mono hle
            obtain rfl := hR
            refine WR.lit (enc := encS) xty32 ([s43] : List (List UInt8)) H rfl (by rfl) (fun _ => rfl) rfl rfl (Wn.none rfl) rfl ?_
            intro v41 M w H hle hs41
            replace hg_maxl := hg_maxl.mono hle
            replace hg_tabs := hg_tabs.mono hle
            refine WR.appC (l := l25) xty32 rfl (fun _ => rfl) H rfl (fun _ => by repeat first | exact .head | apply Upd.tail) rfl (hs41) hxl45 (Wn.none rfl) rfl ?_
            intro v42 w H
            refine WR.putV [_] H rfl rfl (H.rowOne (by repeat (first | exact List.Mem.head _ | apply List.Mem.tail))) (by repeat first | exact .head | apply Upd.tail) (by rfl) Tryd.sizeOf32 (by first | decide | (simp; done) | (simp; omega)) (Wn.none rfl) ?_
            intro w H
            refine NA (WA.done (by kernel_rfl) ?_)
            exact WQ.meetP [(3, _), (4, _), (5, _), (6, _), (7, _)] ⟨rfl, rfl, rfl, rfl, rfl, trivial⟩ ⟨_, _, rfl, H, hg_maxl, hg_tabs⟩
           ·
            refine WR.call H (words_word_ct hx44) rfl ⟨hg_maxl, hg_tabs⟩ (Wn.none rfl) rfl ?_
            intro v40 M w H hle hR
            replace hg_maxl := hg_maxl.mono hle
            replace hg_tabs := hg_tabs.mono hle
            obtain rfl := hR
            refine NA ?_
            refine WA.two (i := 0) (j := 4) (by kernel_rfl) rfl rfl ?_ ?_
            ·
             refine ST (Ex.load1 H rfl (by repeat (first | exact List.Mem.head _ | apply List.Mem.tail)) Tryd.isAgg32 (by rfl)) rfl ?_
             refine NA (WA.seq (fuel := 0) [4, 5, 6] rfl (by kernel_rfl) (WR.lit (enc := encS) xty32 ([s43] : List (List UInt8)) H rfl (by rfl) (fun _ => rfl) rfl rfl (Wn.none rfl) rfl ?_))
             intro v41 M w H hle hs41
             replace hg_maxl := hg_maxl.mono hle
             replace hg_tabs := hg_tabs.mono hle
             refine WR.appC (l := l25) xty32 rfl (fun _ => rfl) H rfl (fun _ => by repeat first | exact .head | apply Upd.tail) rfl (hs41) hxl45 (Wn.none rfl) rfl ?_
             intro v42 w H
             refine WR.putV [_] H rfl rfl (H.rowOne (by repeat (first | exact List.Mem.head _ | apply List.Mem.tail))) (by repeat first | exact .head | apply Upd.tail) (by rfl) Tryd.sizeOf32 (by first | decide | (simp; done) | (simp; omega)) (Wn.none rfl) ?_
             intro w H
             refine NA (WA.done (by kernel_rfl) ?_)
             exact WQ.meetP [(3, _), (4, _), (5, _), (6, _), (7, _)] ⟨rfl, rfl, rfl, rfl, rfl, trivial⟩ ⟨_, _, rfl, H, hg_maxl, hg_tabs⟩
            ·
             refine WR.lit (enc := encS) xty32 ([s43] : List (List UInt8)) H rfl (by rfl) (fun _ => rfl) rfl rfl (Wn.none rfl) rfl ?_
             intro v41 M w H hle hs41
             replace hg_maxl := hg_maxl.mono hle
             replace hg_tabs := hg_tabs.mono hle
             refine NA (WA.seq (fuel := 0) [0, 5, 6] rfl (by kernel_rfl) (ST (Ex.load1 H rfl (by repeat (first | exact List.Mem.head _ | apply List.Mem.tail)) Tryd.isAgg32 (by rfl)) rfl ?_))
             refine WR.appC (l := l25) xty32 rfl (fun _ => rfl) H rfl (fun _ => by repeat first | exact .head | apply Upd.tail) rfl (hs41) hxl45 (Wn.none rfl) rfl ?_
             intro v42 w H
             refine WR.putV [_] H rfl rfl (H.rowOne (by repeat (first | exact List.Mem.head _ | apply List.Mem.tail))) (by repeat first | exact .head | apply Upd.tail) (by rfl) Tryd.sizeOf32 (by first | decide | (simp; done) | (simp; omega)) (Wn.none rfl) ?_
             intro w H
             refine NA (WA.done (by kernel_rfl) ?_)
             exact WQ.meetP [(3, _), (4, _), (5, _), (6, _), (7, _)] ⟨rfl, rfl, rfl, rfl, rfl, trivial⟩ ⟨_, _, rfl, H, hg_maxl, hg_tabs⟩
        ·
         rintro e w ⟨v46, M, rfl, H, hg_maxl, hg_tabs⟩
         refine TN (RG (WR.store [_] H rfl rfl rfl (by repeat first | exact .head | apply Upd.tail) Tryd.sizeOf9 rfl (by rfl) (by rfl) (Wn.none rfl) ?_))
         intro w H
         refine NL (TN ?_)
         obtain ⟨s47, hxs47, e33⟩ := bnd e33
         refine RG (ST (Ex.load1 H rfl (by repeat (first | exact List.Mem.head _ | apply List.Mem.tail)) Tryd.isAgg9 (by rfl)) rfl ?_)
         refine MV rfl rfl (ST (Ex.strAddC rfl rfl hxs47) rfl (WR.store [_] H rfl rfl rfl (by repeat first | exact .head | apply Upd.tail) Tryd.sizeOf9 rfl (by rfl) (by rfl) (Wn.none rfl) ?_))
         intro w H
         refine NL (IB ?_)
         obtain rfl := Option.some.inj e33
         exact WQ.rsOn hrc28 (H.pick (L' := [.blk lid28 (.loop (rc28 .busy none)), .blk b3 (.cells #[I 0, I 0] 24), .blk b4 (.cells #[S s17] 9), .blk b5 (.cells #[v46] 32), RowI 9 encS v46 l45, .blk b6 (.cells #[S s47] 9)]) (by repeat (first | exact Pick.nil | refine Pick.cons (by repeat first | exact .head | apply Rem.tail) ?_))) rfl ⟨_, _, _, rfl, rfl, hg_maxl, hg_tabs⟩
       ·
        subst hk42
        rw [if_neg Bool.false_ne_true] at e33
        refine SK (TN ?_)
        obtain ⟨s48, hxs48, e33⟩ := bnd e33
        refine RG (ST (Ex.load1 H rfl (by repeat (first | exact List.Mem.head _ | apply List.Mem.tail)) Tryd.isAgg9 (by rfl)) rfl ?_)
        refine MV rfl rfl (ST (Ex.strAddC rfl rfl hxs48) rfl (WR.store [_] H rfl rfl rfl (by repeat first | exact .head | apply Upd.tail) Tryd.sizeOf9 rfl (by rfl) (by rfl) (Wn.none rfl) ?_))
        intro w H
        refine NL (IB ?_)
        obtain rfl := Option.some.inj e33
        exact WQ.rsOn hrc28 (H.pick (L' := [.blk lid28 (.loop (rc28 .busy none)), .blk b3 (.cells #[I 0, I 0] 24), .blk b4 (.cells #[S s17] 9), .blk b5 (.cells #[v26] 32), RowI 9 encS v26 l25, .blk b6 (.cells #[S s48] 9)]) (by repeat (first | exact Pick.nil | refine Pick.cons (by repeat first | exact .head | apply Rem.tail) ?_))) rfl ⟨_, _, _, rfl, rfl, hg_maxl, hg_tabs⟩
     ·
      rintro Dm28 w M L H hle hE ⟨l25, v26, s27, rfl, rfl, hg_maxl, hg_tabs⟩
      simp only [List.cons_append, List.nil_append, List.append_nil] at H
      try dsimp only at h
      refine IB (TN (SQ ?_))
      obtain ⟨s49, hx50, h⟩ := bnd h
      obtain ⟨l51, hxl51, h⟩ := bnd h
      obtain ⟨s53, hx54, h⟩ := bnd h
      obtain ⟨⟨n55, n56⟩, hx57, h⟩ := bnd h
      try dsimp only at h
      refine WC.cutP (fun e w => ∃  (M : Mem), e = [(2, S s53), (3, ptr b3 0)] ∧ St w0 M0 M [.blk b3 (.cells #[I n55, I n56] 24), .blk Dm28 (.deferred (some []))] w ∧ GlF (fun w => ∃ m, w.cell? ⟨2, 0, none⟩ = some (.int .i64 m)) M ∧ Tabs M) ?_ ?_
      ·
       refine WC.draw (m := 10) rfl rfl H ?_
       intro w H
       refine WA.takeM (i := 1) [0, 2] rfl (by kernel_rfl) (by kernel_rfl) (by kernel_rfl) (Ex.load1 H rfl (by repeat (first | exact List.Mem.head _ | apply List.Mem.tail)) Tryd.isAgg9 (by rfl)) (Wn.none rfl) rfl rfl (fun _ _ => rfl) ?_
       refine WA.takeM (i := 2) [0] rfl (by kernel_rfl) (by kernel_rfl) (by kernel_rfl) (Ex.load1 H rfl (by repeat (first | exact List.Mem.head _ | apply List.Mem.tail)) Tryd.isAgg9 (by rfl)) (Wn.none rfl) rfl rfl (fun _ _ => rfl) ?_
       refine WA.two (i := 0) (j := 3) (by kernel_rfl) rfl rfl ?_ ?_
       ·
        refine ST (Ex.load1 H rfl (by repeat (first | exact List.Mem.head _ | apply List.Mem.tail)) Tryd.isAgg32 (by rfl)) rfl ?_
        refine NA (WA.seq (fuel := 0) [3, 4, 5, 6, 7, 8, 9] rfl (by kernel_rfl) (WR.call H (words_word_ct hx50) rfl ⟨hg_maxl, hg_tabs⟩ (Wn.none rfl) rfl ?_))
        intro v49 M w H hle hR
        replace hg_maxl := hg_maxl.mono hle
        replace hg_tabs := hg_tabs.mono hle
        obtain rfl := hR
        refine WR.lit (enc := encS) xty32 ([s49] : List (List UInt8)) H rfl (by rfl) (fun _ => rfl) rfl rfl (Wn.none rfl) rfl ?_
        intro v50 M w H hle hs50
        replace hg_maxl := hg_maxl.mono hle
        replace hg_tabs := hg_tabs.mono hle
        refine WR.appC (l := l25) xty32 rfl (fun _ => rfl) H rfl (fun _ => by repeat first | exact .head | apply Upd.tail) rfl (hs50) hxl51 (Wn.none rfl) rfl ?_
        intro v51 w H
        obtain ⟨M, hle, hs52, H⟩ := H.freezeRow (v := v51) (enc := encS) (t := 9) (by repeat first | exact .head | apply Rem.tail)
        replace hg_maxl := hg_maxl.mono hle
        replace hg_tabs := hg_tabs.mono hle
        replace hs50 := hs50.mono hle
        refine WR.call H (strings_Join_ct hx54) rfl (hs52) (Wn.none rfl) rfl ?_
        intro v52 M w H hle hR
        replace hg_maxl := hg_maxl.mono hle
        replace hg_tabs := hg_tabs.mono hle
        replace hs50 := hs50.mono hle
        replace hs52 := hs52.mono hle
        obtain rfl := hR
        refine WR.call H (basic_None_ct hx57) rfl trivial (Wn.none rfl) rfl ?_
        intro v53 M w H hle hR
        replace hg_maxl := hg_maxl.mono hle
        replace hg_tabs := hg_tabs.mono hle
        replace hs50 := hs50.mono hle
        replace hs52 := hs52.mono hle
        try dsimp only at hR
        obtain rfl := hR
        refine AS rfl rfl (WR.store [_, _] H rfl rfl rfl (by repeat first | exact .head | apply Upd.tail) Tryd.sizeOf24 rfl (by rfl) (by rfl) (Wn.none rfl) ?_)
        intro w H
        refine NA (WA.done (by kernel_rfl) ?_)
        exact WQ.meetP [(2, _), (3, _)] ⟨rfl, rfl, trivial⟩ ⟨_, rfl, (H.pick (L' := [.blk b3 (.cells #[I n55, I n56] 24), .blk Dm28 (.deferred (some []))]) (by repeat (first | exact Pick.nil | refine Pick.cons (by repeat first | exact .head | apply Rem.tail) ?_))), hg_maxl, hg_tabs⟩
       ·
        refine WR.call H (words_word_ct hx50) rfl ⟨hg_maxl, hg_tabs⟩ (Wn.none rfl) rfl ?_
        intro v49 M w H hle hR
        replace hg_maxl := hg_maxl.mono hle
        replace hg_tabs := hg_tabs.mono hle
        obtain rfl := hR
        refine NA ?_
        refine WA.two (i := 0) (j := 4) (by kernel_rfl) rfl rfl ?_ ?_
        ·
         refine ST (Ex.load1 H rfl (by repeat (first | exact List.Mem.head _ | apply List.Mem.tail)) Tryd.isAgg32 (by rfl)) rfl ?_
         refine NA (WA.seq (fuel := 0) [4, 5, 6, 7, 8, 9] rfl (by kernel_rfl) (WR.lit (enc := encS) xty32 ([s49] : List (List UInt8)) H rfl (by rfl) (fun _ => rfl) rfl rfl (Wn.none rfl) rfl ?_))
         intro v50 M w H hle hs50
         replace hg_maxl := hg_maxl.mono hle
         replace hg_tabs := hg_tabs.mono hle
         refine WR.appC (l := l25) xty32 rfl (fun _ => rfl) H rfl (fun _ => by repeat first | exact .head | apply Upd.tail) rfl (hs50) hxl51 (Wn.none rfl) rfl ?_
         intro v51 w H
         obtain ⟨M, hle, hs52, H⟩ := H.freezeRow (v := v51) (enc := encS) (t := 9) (by repeat first | exact .head | apply Rem.tail)
         replace hg_maxl := hg_maxl.mono hle
         replace hg_tabs := hg_tabs.mono hle
         replace hs50 := hs50.mono hle
         refine WR.call H (strings_Join_ct hx54) rfl (hs52) (Wn.none rfl) rfl ?_
         intro v52 M w H hle hR
         replace hg_maxl := hg_maxl.mono hle
         replace hg_tabs := hg_tabs.mono hle
         replace hs50 := hs50.mono hle
         replace hs52 := hs52.mono hle
         obtain rfl := hR
         refine WR.call H (basic_None_ct hx57) rfl trivial (Wn.none rfl) rfl ?_
         intro v53 M w H hle hR
         replace hg_maxl := hg_maxl.mono hle
         replace hg_tabs := hg_tabs.mono hle
         replace hs50 := hs50.mono hle
         replace hs52 := hs52.mono hle
         try dsimp only at hR
         obtain rfl := hR
         refine AS rfl rfl (WR.store [_, _] H rfl rfl rfl (by repeat first | exact .head | apply Upd.tail) Tryd.sizeOf24 rfl (by rfl) (by rfl) (Wn.none rfl) ?_)
         intro w H
         refine NA (WA.done (by kernel_rfl) ?_)
         exact WQ.meetP [(2, _), (3, _)] ⟨rfl, rfl, trivial⟩ ⟨_, rfl, (H.pick (L' := [.blk b3 (.cells #[I n55, I n56] 24), .blk Dm28 (.deferred (some []))]) (by repeat (first | exact Pick.nil | refine Pick.cons (by repeat first | exact .head | apply Rem.tail) ?_))), hg_maxl, hg_tabs⟩
        ·
         refine WR.lit (enc := encS) xty32 ([s49] : List (List UInt8)) H rfl (by rfl) (fun _ => rfl) rfl rfl (Wn.none rfl) rfl ?_
         intro v50 M w H hle hs50
         replace hg_maxl := hg_maxl.mono hle
         replace hg_tabs := hg_tabs.mono hle
         refine NA (WA.seq (fuel := 0) [0, 5, 6, 7, 8, 9] rfl (by kernel_rfl) (ST (Ex.load1 H rfl (by repeat (first | exact List.Mem.head _ | apply List.Mem.tail)) Tryd.isAgg32 (by rfl)) rfl ?_))
         refine WR.appC (l := l25) xty32 rfl (fun _ => rfl) H rfl (fun _ => by repeat first | exact .head | apply Upd.tail) rfl (hs50) hxl51 (Wn.none rfl) rfl ?_
         intro v51 w H
         obtain ⟨M, hle, hs52, H⟩ := H.freezeRow (v := v51) (enc := encS) (t := 9) (by repeat first | exact .head | apply Rem.tail)
         replace hg_maxl := hg_maxl.mono hle
         replace hg_tabs := hg_tabs.mono hle
         replace hs50 := hs50.mono hle
         refine WR.call H (strings_Join_ct hx54) rfl (hs52) (Wn.none rfl) rfl ?_
         intro v52 M w H hle hR
         replace hg_maxl := hg_maxl.mono hle
         replace hg_tabs := hg_tabs.mono hle
         replace hs50 := hs50.mono hle
         replace hs52 := hs52.mono hle
         obtain rfl := hR
         refine WR.call H (basic_None_ct hx57) rfl trivial (Wn.none rfl) rfl ?_
         intro v53 M w H hle hR
         replace hg_maxl := hg_maxl.mono hle
         replace hg_tabs := hg_tabs.mono hle
         replace hs50 := hs50.mono hle
         replace hs52 := hs52.mono hle
         try dsimp only at hR
         obtain rfl := hR
         refine AS rfl rfl (WR.store [_, _] H rfl rfl rfl (by repeat first | exact .head | apply Upd.tail) Tryd.sizeOf24 rfl (by rfl) (by rfl) (Wn.none rfl) ?_)
         intro w H
         refine NA (WA.done (by kernel_rfl) ?_)
         exact WQ.meetP [(2, _), (3, _)] ⟨rfl, rfl, trivial⟩ ⟨_, rfl, (H.pick (L' := [.blk b3 (.cells #[I n55, I n56] 24), .blk Dm28 (.deferred (some []))]) (by repeat (first | exact Pick.nil | refine Pick.cons (by repeat first | exact .head | apply Rem.tail) ?_))), hg_maxl, hg_tabs⟩
      ·
       rintro e w ⟨M, rfl, H, hg_maxl, hg_tabs⟩
       refine TN (RT ?_)
       obtain rfl := Option.some.inj h
       exact WQ.nret2 rfl H (by repeat first | exact .head | apply Rem.tail) (fun w H => ⟨rfl, ⟨_, rfl, H.loadAgg (by repeat (first | exact List.Mem.head _ | apply List.Mem.tail)) Tryd.isAgg24 Tryd.sizeOf24 (by rfl)⟩⟩) rfl
     ·
      intro Dm w M L c H hle hE; cases hE
theorem basic_Hex_ct {p0 : UInt8} {r : (UInt8 × Bool)} (h : basic_Hex p0 = some r) : Ct Tryd.prog 69 [encB p0] (fun M => True) (fun v M => v = Value.tuple #[encB r.1, Value.bool r.2]) := by
  refine Ct.of Tryd.func69 (enters Tryd.func69 (by kernel_rfl) rfl) rfl rfl rfl ?_
  intro w0 M0 H hp
  unfold basic_Hex at h
  refine SQ (RG (AS rfl rfl (AS rfl rfl (NL (TN (SQ (BL (SQ ?_))))))))
  obtain ⟨o1, e2, h⟩ := bnd h
  refine WC.cutX (fun e w => ∃ (b3 : Bool) (M : Mem), e = [(0, encB p0), (4, Value.bool b3)] ∧ St w0 M0 M [] w ∧ some b3 = some o1) [] ?_ ?_ (trivial)
  ·
   by_cases hk4 : 48 ≤ p0.toNat
   ·
    rw [if_pos hk4] at e2
    refine RG (MV rfl rfl (WR.stepE (v' := .bool true) (Ex.geqB (i := p0.toNat) (j := 48) rfl rfl) (congrArg Value.bool (decide_eq_true hk4)) (Wn.none rfl) rfl rfl (MV rfl rfl (SG (Ex.move rfl) rfl rfl rfl (SG (Ex.leqB (i := p0.toNat) (j := 57) rfl rfl) rfl rfl rfl (PT rfl rfl rfl (AS rfl rfl (NL ?_))))))))
    exact WQ.meetN [(0, _), (4, _)] ⟨rfl, rfl, trivial⟩ ⟨_, _, rfl, H, e2⟩
   ·
    rw [if_neg hk4] at e2
    refine RG (MV rfl rfl (WR.stepE (v' := .bool false) (Ex.geqB (i := p0.toNat) (j := 48) rfl rfl) (congrArg Value.bool (decide_eq_false hk4)) (Wn.none rfl) rfl rfl (MV rfl rfl (GF rfl rfl rfl (GF rfl rfl rfl (PF rfl rfl rfl (AS rfl rfl (NL ?_))))))))
    exact WQ.meetN [(0, _), (4, _)] ⟨rfl, rfl, trivial⟩ ⟨_, _, rfl, H, e2⟩
  ·
   rintro e w ⟨b3, M, rfl, H, q5⟩
   obtain rfl := Option.some.inj q5
   refine TN ?_
   refine WC.condB rfl (fun hk6 => ?_) (fun hk6 => ?_)
   ·
    subst hk6
    rw [if_pos rfl] at h
    refine SQ (RG (MV rfl rfl (ST (Ex.subB (c := p0) (d := 48) rfl rfl) rfl (AS rfl rfl (AS rfl rfl (NL (TN (RT ?_))))))))
    obtain rfl := Option.some.inj h
    exact WQ.ret2 rfl rfl rfl H.ext rfl
   ·
    subst hk6
    rw [if_neg Bool.false_ne_true] at h
    refine SQ ?_
    obtain ⟨o7, e8, h⟩ := bnd h
    refine WC.cutX (fun e w => ∃ (b9 : Bool) (M : Mem), e = [(0, encB p0), (13, Value.bool b9)] ∧ St w0 M0 M [] w ∧ some b9 = some o7) [] ?_ ?_ (trivial)
    ·
     by_cases hk10 : 65 ≤ p0.toNat
     ·
      rw [if_pos hk10] at e8
      refine RG (MV rfl rfl (WR.stepE (v' := .bool true) (Ex.geqB (i := p0.toNat) (j := 65) rfl rfl) (congrArg Value.bool (decide_eq_true hk10)) (Wn.none rfl) rfl rfl (MV rfl rfl (SG (Ex.move rfl) rfl rfl rfl (SG (Ex.leqB (i := p0.toNat) (j := 70) rfl rfl) rfl rfl rfl (PT rfl rfl rfl (AS rfl rfl (NL ?_))))))))
      exact WQ.meetN [(0, _), (13, _)] ⟨rfl, rfl, trivial⟩ ⟨_, _, rfl, H, e8⟩
     ·
      rw [if_neg hk10] at e8
      refine RG (MV rfl rfl (WR.stepE (v' := .bool false) (Ex.geqB (i := p0.toNat) (j := 65) rfl rfl) (congrArg Value.bool (decide_eq_false hk10)) (Wn.none rfl) rfl rfl (MV rfl rfl (GF rfl rfl rfl (GF rfl rfl rfl (PF rfl rfl rfl (AS rfl rfl (NL ?_))))))))
      exact WQ.meetN [(0, _), (13, _)] ⟨rfl, rfl, trivial⟩ ⟨_, _, rfl, H, e8⟩
    ·
     rintro e w ⟨b9, M, rfl, H, q11⟩
     obtain rfl := Option.some.inj q11
     refine TN ?_
     refine WC.condB rfl (fun hk12 => ?_) (fun hk12 => ?_)
     ·
      subst hk12
      rw [if_pos rfl] at h
      refine SQ (RG (MV rfl rfl (ST (Ex.subB (c := p0) (d := 65) rfl rfl) rfl (ST (Ex.addB (c := (p0 - (65 : UInt8))) (d := 10) rfl rfl) rfl (AS rfl rfl (AS rfl rfl (NL (TN (RT ?_)))))))))
      obtain rfl := Option.some.inj h
      exact WQ.ret2 rfl rfl rfl H.ext rfl
     ·
      subst hk12
      rw [if_neg Bool.false_ne_true] at h
      refine SQ ?_
      obtain ⟨o13, e14, h⟩ := bnd h
      refine WC.cutX (fun e w => ∃ (b15 : Bool) (M : Mem), e = [(0, encB p0), (23, Value.bool b15)] ∧ St w0 M0 M [] w ∧ some b15 = some o13) [] ?_ ?_ (trivial)
      ·
       by_cases hk16 : 97 ≤ p0.toNat
       ·
        rw [if_pos hk16] at e14
        refine RG (MV rfl rfl (WR.stepE (v' := .bool true) (Ex.geqB (i := p0.toNat) (j := 97) rfl rfl) (congrArg Value.bool (decide_eq_true hk16)) (Wn.none rfl) rfl rfl (MV rfl rfl (SG (Ex.move rfl) rfl rfl rfl (SG (Ex.leqB (i := p0.toNat) (j := 102) rfl rfl) rfl rfl rfl (PT rfl rfl rfl (AS rfl rfl (NL ?_))))))))
        exact WQ.meetN [(0, _), (23, _)] ⟨rfl, rfl, trivial⟩ ⟨_, _, rfl, H, e14⟩
       ·
        rw [if_neg hk16] at e14
        refine RG (MV rfl rfl (WR.stepE (v' := .bool false) (Ex.geqB (i := p0.toNat) (j := 97) rfl rfl) (congrArg Value.bool (decide_eq_false hk16)) (Wn.none rfl) rfl rfl (MV rfl rfl (GF rfl rfl rfl (GF rfl rfl rfl (PF rfl rfl rfl (AS rfl rfl (NL ?_))))))))
        exact WQ.meetN [(0, _), (23, _)] ⟨rfl, rfl, trivial⟩ ⟨_, _, rfl, H, e14⟩
      ·
       rintro e w ⟨b15, M, rfl, H, q17⟩
       obtain rfl := Option.some.inj q17
       refine TN ?_
       refine WC.condB rfl (fun hk18 => ?_) (fun hk18 => ?_)
       ·
        subst hk18
        rw [if_pos rfl] at h
        refine SQ (RG (MV rfl rfl (ST (Ex.subB (c := p0) (d := 97) rfl rfl) rfl (ST (Ex.addB (c := (p0 - (97 : UInt8))) (d := 10) rfl rfl) rfl (AS rfl rfl (AS rfl rfl (NL (TN (RT ?_)))))))))
        obtain rfl := Option.some.inj h
        exact WQ.ret2 rfl rfl rfl H.ext rfl
       ·
        subst hk18
        rw [if_neg Bool.false_ne_true] at h
        refine SK (IB (TN (SQ (RG (AS rfl rfl (AS rfl rfl (NL (TN (RT ?_)))))))))
        obtain rfl := Option.some.inj h
        exact WQ.ret2 rfl rfl rfl H.ext rfl
theorem basic_Pair_ct {p0 : List UInt8} {r : (UInt8 × Bool)} (h : basic_Pair p0 = some r) : Ct Tryd.prog 50 [S p0] (fun M => True) (fun v M => v = Value.tuple #[encB r.1, Value.bool r.2]) := by
  refine Ct.of Tryd.func50 (enters Tryd.func50 (by kernel_rfl) rfl) rfl rfl rfl ?_
  intro w0 M0 H hp
  unfold basic_Pair at h
  refine SQ (RG (AS rfl rfl (AS rfl rfl (NL (TN (SQ (SQ (RG (MV rfl rfl (ST (Ex.lenStr Tryd.underlying9 rfl) rfl (ST (Ex.lss rfl rfl) rfl (NL (TN ?_)))))))))))))
  refine WC.condB rfl (fun hk1 => ?_) (fun hk1 => ?_)
  ·
   replace hk1 : (p0.length : Int) < (2 : Int) := of_decide_eq_true hk1
   rw [if_pos hk1] at h
   refine SQ (RG (AS rfl rfl (AS rfl rfl (NL (TN (RT ?_))))))
   obtain rfl := Option.some.inj h
   exact WQ.ret2 rfl rfl rfl H.ext rfl
  ·
   replace hk1 : ¬ ((p0.length : Int) < (2 : Int)) := of_decide_eq_false hk1
   rw [if_neg hk1] at h
   refine SK (TN (SQ ?_))
   obtain ⟨c2, hxc2, h⟩ := bnd h
   obtain ⟨⟨c3, b4⟩, hx5, h⟩ := bnd h
   try dsimp only at h
   refine RG (MV rfl rfl (ST (Ex.idxStrC Tryd.underlying9 rfl rfl hxc2) rfl (WR.call H (basic_Hex_ct hx5) rfl trivial (Wn.none rfl) rfl ?_)))
   intro v14 M w H hle hR
   try dsimp only at hR
   obtain rfl := hR
   refine MV rfl rfl (ST (Ex.extract rfl rfl) rfl (ST (Ex.extract rfl rfl) rfl (AS rfl rfl (AS rfl rfl (NL (TN (SQ ?_)))))))
   obtain ⟨c6, hxc6, h⟩ := bnd h
   obtain ⟨⟨c7, b8⟩, hx9, h⟩ := bnd h
   try dsimp only at h
   refine RG (MV rfl rfl (ST (Ex.idxStrC Tryd.underlying9 rfl rfl hxc6) rfl (WR.call H (basic_Hex_ct hx9) rfl trivial (Wn.none rfl) rfl ?_)))
   intro v20 M w H hle hR
   try dsimp only at hR
   obtain rfl := hR
   refine MV rfl rfl (ST (Ex.extract rfl rfl) rfl (ST (Ex.extract rfl rfl) rfl (AS rfl rfl (AS rfl rfl (NL (TN (SQ ?_)))))))
   obtain ⟨o10, e11, h⟩ := bnd h
   refine WC.cutX (fun e w => ∃ (c12 : UInt8) (b13 : Bool) (M : Mem), e = [(2, encB c12), (3, Value.bool b13)] ∧ St w0 M0 M [] w ∧ some (c12, b13) = some o10) [] ?_ ?_ (trivial)
   ·
    refine RG (MV rfl rfl (ST (Ex.shlB (c := c3) (m := 4) rfl rfl (by decide)) rfl (MV rfl rfl (ST (Ex.orB (c := (UInt8.ofNat (c3.toNat * 2 ^ 4))) (d := c7) rfl rfl) rfl (MV rfl rfl (MV rfl rfl ?_))))))
    rcases b4 with _ | _
    ·
     rw [if_neg Bool.false_ne_true] at e11
     refine GF rfl rfl rfl (PF rfl rfl rfl (AS rfl rfl (AS rfl rfl (NL ?_))))
     exact WQ.meetN [(2, _), (3, _)] ⟨rfl, rfl, trivial⟩ ⟨_, _, _, rfl, H, e11⟩
    ·
     rw [if_pos rfl] at e11
     refine SG (Ex.move rfl) rfl rfl rfl (PT rfl rfl rfl (AS rfl rfl (AS rfl rfl (NL ?_))))
     exact WQ.meetN [(2, _), (3, _)] ⟨rfl, rfl, trivial⟩ ⟨_, _, _, rfl, H, e11⟩
   ·
    rintro e w ⟨c12, b13, M, rfl, H, q14⟩
    obtain rfl := Option.some.inj q14
    try dsimp only at h
    refine TN (RT ?_)
    obtain rfl := Option.some.inj h
    exact WQ.ret2 rfl rfl rfl H.ext rfl
theorem words_bytesOf_ct {p0 : List UInt8} {p1 : List UInt8} {r : (List UInt8 × Bool)} (h : words_bytesOf p0 p1 = some r) : Ct Tryd.prog 33 [S p0, S p1] (fun M => GlF (fun w => ∃ m, w.cell? ⟨2, 0, none⟩ = some (.int .i64 m)) M) (fun v M => ∃ x0, v = Value.tuple #[x0, Value.bool r.2] ∧ Sl M encB x0 r.1) := by
  refine Ct.of Tryd.func33 (enters Tryd.func33 (by kernel_rfl) rfl) rfl rfl rfl ?_
  intro w0 M0 H hp
  have hg_maxl := hp
  unfold words_bytesOf at h
  refine SQ (RG (AS rfl rfl (AS rfl rfl (NL (TN (SQ (SQ (RG (MV rfl rfl (NL (TN (BL (SQ (SQ (RG (ST (Ex.strEql rfl rfl) rfl (AS rfl rfl (NL (TN ?_)))))))))))))))))))
  obtain ⟨o1, e2, h⟩ := bnd h
  refine WC.cutX (fun e w => ∃ (b3 : Bool) (M : Mem), e = [(1, S p1), (12, S p0), (13, Value.bool b3)] ∧ St w0 M0 M [] w ∧ GlF (fun w => ∃ m, w.cell? ⟨2, 0, none⟩ = some (.int .i64 m)) M ∧ some b3 = some o1) [] ?_ ?_ (trivial)
  ·
   refine WC.condB rfl (fun hk4 => ?_) (fun hk4 => ?_)
   ·
    replace hk4 : p0 = [66] := of_decide_eq_true hk4
    rw [if_pos hk4] at e2
    refine SK ?_
    exact WQ.meetN [(1, _), (12, _), (13, _)] ⟨rfl, rfl, rfl, trivial⟩ ⟨_, _, rfl, H, hg_maxl, e2⟩
   ·
    replace hk4 : ¬ (p0 = [66]) := of_decide_eq_false hk4
    rw [if_neg hk4] at e2
    refine RG (ST (Ex.strEql rfl rfl) rfl (AS rfl rfl (NL ?_)))
    exact WQ.meetN [(1, _), (12, _), (13, _)] ⟨rfl, rfl, rfl, trivial⟩ ⟨_, _, rfl, H, hg_maxl, e2⟩
  ·
   rintro e w ⟨b3, M, rfl, H, hg_maxl, q5⟩
   obtain rfl := Option.some.inj q5
   refine TN ?_
   refine WC.condB rfl (fun hk6 => ?_) (fun hk6 => ?_)
   ·
    subst hk6
    rw [if_pos rfl] at h
    refine SQ ?_
    obtain ⟨l7, hxl7, h⟩ := bnd h
    obtain ⟨⟨l8, ⟨n9, n10⟩⟩, hx11, h⟩ := bnd h
    try dsimp only at h
    refine RG (MV rfl rfl (WR.bytesC H Tryd.underlying9 Tryd.underlying39 Tryd.underlying5 rfl hxl7 (Wn.none rfl) rfl ?_))
    intro v18 M w H hle hs18
    replace hg_maxl := hg_maxl.mono hle
    refine WR.call H (base64_Lenient_ct hx11) rfl (hs18) (Wn.none rfl) rfl ?_
    intro v19 M w H hle hR
    replace hg_maxl := hg_maxl.mono hle
    replace hs18 := hs18.mono hle
    try dsimp only at hR
    obtain ⟨x19_0, rfl, f19_0⟩ := hR
    refine MV rfl rfl (ST (Ex.extract rfl rfl) rfl (ST (Ex.extract rfl rfl) rfl (WR.alloc [_, _] H Tryd.zeroValue24 rfl (Wn.none rfl) rfl ?_)))
    intro b7 w H
    refine AS rfl rfl (WR.store [_, _] H rfl rfl rfl (by repeat first | exact .head | apply Upd.tail) Tryd.sizeOf24 rfl (by rfl) (by rfl) (Wn.none rfl) ?_)
    intro w H
    refine NL (TN (SQ ?_))
    obtain ⟨s12, hx13, h⟩ := bnd h
    refine RG (MV rfl rfl (MV rfl rfl (WR.call H (words_flat_ct hx13) rfl ⟨hg_maxl, f19_0⟩ (Wn.none rfl) rfl ?_)))
    intro v24 M w H hle hR
    replace hg_maxl := hg_maxl.mono hle
    replace hs18 := hs18.mono hle
    replace f19_0 := f19_0.mono hle
    obtain rfl := hR
    refine MV rfl rfl (ST (Ex.strEql rfl rfl) rfl (AS rfl rfl (AS rfl rfl (NL (TN (RT ?_))))))
    obtain rfl := Option.some.inj h
    exact WQ.ret2 rfl rfl rfl H.ext (⟨_, rfl, f19_0⟩)
   ·
    subst hk6
    rw [if_neg Bool.false_ne_true] at h
    refine SQ (SQ (RG (ST (Ex.strEql rfl rfl) rfl (AS rfl rfl (NL (TN ?_))))))
    obtain ⟨o14, e15, h⟩ := bnd h
    refine WC.cutX (fun e w => ∃ (b16 : Bool) (M : Mem), e = [(1, S p1), (27, Value.bool b16)] ∧ St w0 M0 M [] w ∧ GlF (fun w => ∃ m, w.cell? ⟨2, 0, none⟩ = some (.int .i64 m)) M ∧ some b16 = some o14) [] ?_ ?_ (trivial)
    ·
     refine WC.condB rfl (fun hk17 => ?_) (fun hk17 => ?_)
     ·
      replace hk17 : p0 = [81] := of_decide_eq_true hk17
      rw [if_pos hk17] at e15
      refine SK ?_
      exact WQ.meetN [(1, _), (27, _)] ⟨rfl, rfl, trivial⟩ ⟨_, _, rfl, H, hg_maxl, e15⟩
     ·
      replace hk17 : ¬ (p0 = [81]) := of_decide_eq_false hk17
      rw [if_neg hk17] at e15
      refine RG (ST (Ex.strEql rfl rfl) rfl (AS rfl rfl (NL ?_)))
      exact WQ.meetN [(1, _), (27, _)] ⟨rfl, rfl, trivial⟩ ⟨_, _, rfl, H, hg_maxl, e15⟩
    ·
     rintro e w ⟨b16, M, rfl, H, hg_maxl, q18⟩
     obtain rfl := Option.some.inj q18
     refine TN ?_
     refine WC.condB rfl (fun hk19 => ?_) (fun hk19 => ?_)
     ·
      subst hk19
      rw [if_pos rfl] at h
      refine SQ (RG (AS rfl rfl (NL (TN (SQ (SQ (RG (AS rfl rfl (NL (TN ?_))))))))))
      obtain ⟨o20, e21, h⟩ := bnd h
      refine WC.cutX (fun e w => ∃ (l23 : List UInt8) (v24 : Value) (M : Mem), e = [(8, v24)] ∧ St w0 M0 M [RowI 5 encB v24 l23] w ∧ GlF (fun w => ∃ m, w.cell? ⟨2, 0, none⟩ = some (.int .i64 m)) M ∧ some (.inl l23) = some o20) [] ?_ ?_ (trivial)
      ·
       refine BL ?_
       replace H := H.newRow 5 encB
       refine WC.loopP (fun m e w => ∃ (l26 : List UInt8) (v27 : Value) (n28 : Int) (M : Mem), e = [(1, S p1), (8, v27), (9, I n28)] ∧ St w0 M0 M [RowI 5 encB v27 l26] w ∧ GlF (fun w => ∃ m, w.cell? ⟨2, 0, none⟩ = some (.int .i64 m)) M ∧ words_bytesOf_L1 p1 m l26 n28 = some o20) FU [(1, _), (8, _), (9, _)] ⟨rfl, rfl, rfl, trivial⟩ ⟨_, _, _, _, rfl, H, hg_maxl, e21⟩ ?_
       rintro m29 e w ⟨l26, v27, n28, M, rfl, H, hg_maxl, e21⟩
       rcases m29 with _ | m29
       · rw [words_bytesOf_L1] at e21; cases e21
       rw [words_bytesOf_L1] at e21
       refine SQ (SQ (RG (MV rfl rfl (MV rfl rfl (ST (Ex.lenStr Tryd.underlying9 rfl) rfl (ST (Ex.lss rfl rfl) rfl (NL (TN ?_))))))))
       refine WC.condB rfl (fun hk31 => ?_) (fun hk31 => ?_)
       ·
        replace hk31 : n28 < (p1.length : Int) := of_decide_eq_true hk31
        rw [if_pos hk31] at e21
        refine SK (TN (SQ (BL (BL (SQ ?_)))))
        obtain ⟨c32, hxc32, e21⟩ := bnd e21
        refine RG (MV rfl rfl (MV rfl rfl (ST (Ex.idxStrC Tryd.underlying9 rfl rfl hxc32) rfl (ST (Ex.eqlB (c := c32) (d := 95) rfl rfl) rfl (AS rfl rfl (NL (TN ?_)))))))
        refine WC.condB rfl (fun hk33 => ?_) (fun hk33 => ?_)
        ·
         replace hk33 : c32 = 95 := of_decide_eq_true hk33
         rw [if_pos hk33] at e21
         obtain ⟨l34, hxl34, e21⟩ := bnd e21
         refine RG (MV rfl rfl (WR.lit (enc := encB) xty39 ([32] : List UInt8) H rfl (by rfl) (fun _ => rfl) rfl rfl (Wn.none rfl) rfl ?_))
         intro v42 M w H hle hs42
         replace hg_maxl := hg_maxl.mono hle
         refine WR.appC (l := l26) xty39 rfl (fun _ => rfl) H rfl (fun _ => by repeat first | exact .head | apply Upd.tail) rfl (hs42) hxl34 (Wn.none rfl) rfl ?_
         intro v43 w H
         refine AS rfl rfl (NL (IB (IB (TN ?_))))
         obtain ⟨n35, hxn35, e21⟩ := bnd e21
         refine RG (MV rfl rfl (ST (Ex.addC rfl rfl hxn35) rfl (AS rfl rfl (NL ?_))))
         exact WQ.againP m29 [(1, _), (8, _), (9, _)] ⟨rfl, rfl, rfl, trivial⟩ ⟨_, _, _, _, rfl, H, hg_maxl, e21⟩ (Nat.lt_succ_self _)
        ·
         replace hk33 : ¬ (c32 = 95) := of_decide_eq_false hk33
         rw [if_neg hk33] at e21
         refine SQ ?_
         obtain ⟨c36, hxc36, e21⟩ := bnd e21
         refine RG (MV rfl rfl (MV rfl rfl (ST (Ex.idxStrC Tryd.underlying9 rfl rfl hxc36) rfl (ST (Ex.eqlB (c := c36) (d := 61) rfl rfl) rfl (AS rfl rfl (NL (TN ?_)))))))
         refine WC.condB rfl (fun hk37 => ?_) (fun hk37 => ?_)
         ·
          replace hk37 : c36 = 61 := of_decide_eq_true hk37
          rw [if_pos hk37] at e21
          refine SQ ?_
          obtain ⟨n38, hxn38, e21⟩ := bnd e21
          obtain ⟨s39, hxs39, e21⟩ := bnd e21
          obtain ⟨⟨c40, b41⟩, hx42, e21⟩ := bnd e21
          try dsimp only at e21
          refine RG (MV rfl rfl (MV rfl rfl (ST (Ex.addC rfl rfl hxn38) rfl (ST (Ex.sliceL Tryd.underlying9 rfl rfl hxs39) rfl (WR.call H (basic_Pair_ct hx42) rfl trivial (Wn.none rfl) rfl ?_)))))
          intro v54 M w H hle hR
          replace hg_maxl := hg_maxl.mono hle
          try dsimp only at hR
          obtain rfl := hR
          refine MV rfl rfl (ST (Ex.extract rfl rfl) rfl (ST (Ex.extract rfl rfl) rfl (AS rfl rfl (AS rfl rfl (NL (TN (SQ (SQ (RG (MV rfl rfl (ST (Ex.not rfl) rfl (NL (TN ?_)))))))))))))
          refine WC.condB rfl (fun hk43 => ?_) (fun hk43 => ?_)
          ·
           replace hk43 : b41 = false := by simpa using hk43
           subst hk43
           rw [if_neg Bool.false_ne_true] at e21
           refine SQ (RG (AS rfl rfl (AS rfl rfl (NL (TN (RT ?_))))))
           obtain rfl := Option.some.inj e21
           try dsimp only at h
           obtain rfl := Option.some.inj h
           exact WQ.ret2 rfl rfl rfl H.ext (⟨_, rfl, Sl.nil _ _⟩)
          ·
           replace hk43 : b41 = true := by simpa using hk43
           subst hk43
           rw [if_pos rfl] at e21
           refine SK (TN (SQ ?_))
           obtain ⟨l44, hxl44, e21⟩ := bnd e21
           refine RG (MV rfl rfl (MV rfl rfl (WR.lit (enc := encB) xty39 ([c40] : List UInt8) H rfl (by rfl) (fun _ => rfl) rfl rfl (Wn.none rfl) rfl ?_)))
           intro v61 M w H hle hs61
           replace hg_maxl := hg_maxl.mono hle
           refine WR.appC (l := l26) xty39 rfl (fun _ => rfl) H rfl (fun _ => by repeat first | exact .head | apply Upd.tail) rfl (hs61) hxl44 (Wn.none rfl) rfl ?_
           intro v62 w H
           refine AS rfl rfl (NL (TN ?_))
           obtain ⟨n45, hxn45, e21⟩ := bnd e21
           refine RG (MV rfl rfl (ST (Ex.addC rfl rfl hxn45) rfl (AS rfl rfl (NL (IB (IB (TN ?_)))))))
           obtain ⟨n46, hxn46, e21⟩ := bnd e21
           refine RG (MV rfl rfl (ST (Ex.addC rfl rfl hxn46) rfl (AS rfl rfl (NL ?_))))
           exact WQ.againP m29 [(1, _), (8, _), (9, _)] ⟨rfl, rfl, rfl, trivial⟩ ⟨_, _, _, _, rfl, H, hg_maxl, e21⟩ (Nat.lt_succ_self _)
         ·
          replace hk37 : ¬ (c36 = 61) := of_decide_eq_false hk37
          rw [if_neg hk37] at e21
          refine SQ ?_
          obtain ⟨o47, e48, e21⟩ := bnd e21
          refine WC.cutX (fun e w => ∃ (b49 : Bool) (M : Mem), e = [(1, S p1), (8, v27), (9, I n28), (65, Value.bool b49)] ∧ St w0 M0 M [RowI 5 encB v27 l26] w ∧ GlF (fun w => ∃ m, w.cell? ⟨2, 0, none⟩ = some (.int .i64 m)) M ∧ some b49 = some o47) [] ?_ ?_ (trivial)
          ·
           obtain ⟨c50, hxc50, e48⟩ := bnd e48
           refine RG (MV rfl rfl (MV rfl rfl (ST (Ex.idxStrC Tryd.underlying9 rfl rfl hxc50) rfl ?_)))
           by_cases hk51 : 33 ≤ c50.toNat
           ·
            rw [if_pos hk51] at e48
            obtain ⟨c52, hxc52, e48⟩ := bnd e48
            refine WR.stepE (v' := .bool true) (Ex.geqB (i := c50.toNat) (j := 33) rfl rfl) (congrArg Value.bool (decide_eq_true hk51)) (Wn.none rfl) rfl rfl (MV rfl rfl (SG (Ex.move rfl) rfl rfl rfl (SG (Ex.move rfl) rfl rfl rfl (SG (Ex.idxStrC Tryd.underlying9 rfl rfl hxc52) rfl rfl rfl (SG (Ex.leqB (i := c52.toNat) (j := 126) rfl rfl) rfl rfl rfl (PT rfl rfl rfl (AS rfl rfl (NL ?_))))))))
            exact WQ.meetN [(1, _), (8, _), (9, _), (65, _)] ⟨rfl, rfl, rfl, rfl, trivial⟩ ⟨_, _, rfl, H, hg_maxl, e48⟩
           ·
            rw [if_neg hk51] at e48
            refine WR.stepE (v' := .bool false) (Ex.geqB (i := c50.toNat) (j := 33) rfl rfl) (congrArg Value.bool (decide_eq_false hk51)) (Wn.none rfl) rfl rfl (MV rfl rfl (WR.skipN 4 rfl rfl (PF rfl rfl rfl (AS rfl rfl (NL ?_)))))
            exact WQ.meetN [(1, _), (8, _), (9, _), (65, _)] ⟨rfl, rfl, rfl, rfl, trivial⟩ ⟨_, _, rfl, H, hg_maxl, e48⟩
          ·
           rintro e w ⟨b49, M, rfl, H, hg_maxl, q53⟩
           obtain rfl := Option.some.inj q53
           refine TN ?_
           refine WC.condB rfl (fun hk54 => ?_) (fun hk54 => ?_)
           ·
            subst hk54
            rw [if_pos rfl] at e21
            obtain ⟨c55, hxc55, e21⟩ := bnd e21
            obtain ⟨l56, hxl56, e21⟩ := bnd e21
            refine RG (MV rfl rfl (MV rfl rfl (MV rfl rfl (ST (Ex.idxStrC Tryd.underlying9 rfl rfl hxc55) rfl (WR.lit (enc := encB) xty39 ([c55] : List UInt8) H rfl (by rfl) (fun _ => rfl) rfl rfl (Wn.none rfl) rfl ?_)))))
            intro v80 M w H hle hs80
            replace hg_maxl := hg_maxl.mono hle
            refine WR.appC (l := l26) xty39 rfl (fun _ => rfl) H rfl (fun _ => by repeat first | exact .head | apply Upd.tail) rfl (hs80) hxl56 (Wn.none rfl) rfl ?_
            intro v81 w H
            refine AS rfl rfl (NL (IB (IB (TN ?_))))
            obtain ⟨n57, hxn57, e21⟩ := bnd e21
            refine RG (MV rfl rfl (ST (Ex.addC rfl rfl hxn57) rfl (AS rfl rfl (NL ?_))))
            exact WQ.againP m29 [(1, _), (8, _), (9, _)] ⟨rfl, rfl, rfl, trivial⟩ ⟨_, _, _, _, rfl, H, hg_maxl, e21⟩ (Nat.lt_succ_self _)
           ·
            subst hk54
            rw [if_neg Bool.false_ne_true] at e21
            refine SQ (RG (AS rfl rfl (AS rfl rfl (NL (TN (RT ?_))))))
            obtain rfl := Option.some.inj e21
            try dsimp only at h
            obtain rfl := Option.some.inj h
            exact WQ.ret2 rfl rfl rfl H.ext (⟨_, rfl, Sl.nil _ _⟩)
       ·
        replace hk31 : ¬ (n28 < (p1.length : Int)) := of_decide_eq_false hk31
        rw [if_neg hk31] at e21
        refine WC.exit (WQ.thenExit (WQ.thenExit (WQ.exitHere ?_)))
        exact WQ.meetN [(8, _)] ⟨rfl, trivial⟩ ⟨_, _, _, rfl, H, hg_maxl, e21⟩
      ·
       rintro e w ⟨l23, v24, M, rfl, H, hg_maxl, q58⟩
       obtain rfl := Option.some.inj q58
       try dsimp only at h
       refine TN (SQ (RG (MV rfl rfl (AS rfl rfl (AS rfl rfl (NL (TN (RT ?_))))))))
       obtain ⟨M, hle, hs59, H⟩ := H.freezeRow (v := v24) (enc := encB) (t := 5) (by repeat first | exact .head | apply Rem.tail)
       replace hg_maxl := hg_maxl.mono hle
       obtain rfl := Option.some.inj h
       exact WQ.ret2 rfl rfl rfl H.ext (⟨_, rfl, hs59⟩)
     ·
      subst hk19
      rw [if_neg Bool.false_ne_true] at h
      refine SK (IB (TN (SQ (RG (AS rfl rfl (AS rfl rfl (NL (TN (RT ?_)))))))))
      obtain rfl := Option.some.inj h
      exact WQ.ret2 rfl rfl rfl H.ext (⟨_, rfl, Sl.nil _ _⟩)
theorem basic_Failed_ct {p0 : (Int × Int)} {r : Bool} (h : basic_Failed p0 = some r) : Ct Tryd.prog 35 [Value.agg #[I p0.1, I p0.2]] (fun M => True) (fun v M => v = Value.bool r) := by
  refine Ct.of Tryd.func35 (enters Tryd.func35 (by kernel_rfl) rfl) rfl rfl rfl ?_
  intro w0 M0 H hp
  unfold basic_Failed at h
  refine SQ (RG (WR.box [_, _] H rfl rfl (Wn.none rfl) rfl ?_))
  intro b1 w H
  refine AS rfl rfl (NL (TN (SQ (RG (ST (Ex.fieldAddr Tryd.underlying24 rfl Tryd.sizeOf3 (by decide) rfl) rfl (ST (Ex.load1 H rfl (by repeat (first | exact List.Mem.head _ | apply List.Mem.tail)) Tryd.isAgg3 (by rfl)) rfl ?_))))))
  refine ST (Ex.neqC rfl rfl) rfl (AS rfl rfl (NL (TN (RT ?_))))
  obtain rfl := Option.some.inj h
  exact WQ.ret1 rfl rfl H.ext rfl
end Go.Proofs.YtogkmhjnojphiaaDoor
end
section
set_option maxRecDepth 100000
set_option linter.unusedVariables false
set_option linter.unusedSimpArgs false
namespace Go.Proofs.YtogkmhjnojphiaaDoor
open Go Go.RowKit Go.Ph Go.Ph.Pl Go.Ph.Pf
set_option maxHeartbeats 4000000 in
theorem words_read_ct {p0 : List UInt8} {r : (List UInt8 × Int × Bool)} (h : words_read p0 = some r) : Ct Tryd.prog 17 [S p0] (fun M => GlF (fun w => ∃ m, w.cell? ⟨2, 0, none⟩ = some (.int .i64 m)) M) (fun v M => v = Value.tuple #[S r.1, I r.2.1, Value.bool r.2.2]) := by
  refine Ct.of Tryd.func17 (enters Tryd.func17 (by kernel_rfl) rfl) rfl rfl rfl ?_
  intro w0 M0 H hp
  have hg_maxl := hp
  unfold words_read at h
  refine SQ (RG (AS rfl rfl (AS rfl rfl (AS rfl rfl (NL (TN (SQ (SQ ?_))))))))
  obtain ⟨b1, hx2, h⟩ := bnd h
  refine RG (MV rfl rfl (WR.call H (strings_HasPrefix_ct hx2) rfl trivial (Wn.none rfl) rfl ?_))
  intro v11 M w H hle hR
  replace hg_maxl := hg_maxl.mono hle
  obtain rfl := hR
  refine ST (Ex.not rfl) rfl (NL (TN ?_))
  refine WC.condB rfl (fun hk3 => ?_) (fun hk3 => ?_)
  ·
   replace hk3 : b1 = false := by simpa using hk3
   subst hk3
   rw [if_neg Bool.false_ne_true] at h
   refine SQ (RG (AS rfl rfl (AS rfl rfl (AS rfl rfl (NL (TN (RT ?_)))))))
   obtain rfl := Option.some.inj h
   exact WQ.ret3 rfl rfl rfl rfl H.ext rfl
  ·
   replace hk3 : b1 = true := by simpa using hk3
   subst hk3
   rw [if_pos rfl] at h
   refine SK (TN (SQ ?_))
   obtain ⟨s4, hxs4, h⟩ := bnd h
   obtain ⟨l5, hx6, h⟩ := bnd h
   refine RG (MV rfl rfl (MV rfl rfl (ST (Ex.lenStr Tryd.underlying9 rfl) rfl (ST (Ex.min2 rfl rfl) rfl (ST (Ex.sliceC Tryd.underlying9 rfl rfl rfl hxs4) rfl (WR.call H (strings_SplitN_ct hx6) rfl (hg_maxl) (Wn.none rfl) rfl ?_))))))
   intro v18 M w H hle hR
   replace hg_maxl := hg_maxl.mono hle
   have f18_0 := hR
   refine AS rfl rfl (NL (TN (SQ (SQ ?_))))
   obtain ⟨o7, e8, h⟩ := bnd h
   refine WC.cutX (fun e w => ∃ (b9 : Bool) (M : Mem), e = [(5, v18), (28, Value.bool b9)] ∧ St w0 M0 M [] w ∧ GlF (fun w => ∃ m, w.cell? ⟨2, 0, none⟩ = some (.int .i64 m)) M ∧ Sl M encS v18 l5 ∧ some b9 = some o7) [] ?_ ?_ (trivial)
   ·
    refine RG (MV rfl rfl (ST (Ex.lenSl Tryd.underlying32 f18_0 rfl) rfl ?_))
    by_cases hk10 : (l5.length : Int) < (4 : Int)
    ·
     rw [if_pos hk10] at e8
     refine WR.stepE (v' := .bool true) (Ex.lss rfl rfl) (congrArg Value.bool (decide_eq_true hk10)) (Wn.none rfl) rfl rfl (MV rfl rfl (WR.skipN 5 rfl rfl (PT rfl rfl rfl (NL ?_))))
     exact WQ.meetN [(5, _), (28, _)] ⟨rfl, rfl, trivial⟩ ⟨_, _, rfl, H, hg_maxl, f18_0, e8⟩
    ·
     rw [if_neg hk10] at e8
     obtain ⟨a11, hxa11, e8⟩ := bnd e8
     obtain ⟨b24, o24, ha24, hc24⟩ := f18_0.atC hxa11
     obtain ⟨b12, hx13, e8⟩ := bnd e8
     refine WR.stepE (v' := .bool false) (Ex.lss rfl rfl) (congrArg Value.bool (decide_eq_false hk10)) (Wn.none rfl) rfl rfl (MV rfl rfl (SG (Ex.move rfl) rfl rfl rfl (SG (Ex.idxAt ha24 Tryd.underlying32 Tryd.sizeOf9 rfl rfl) rfl rfl rfl (SG (Ex.loadM H rfl hc24 Tryd.isAgg9) rfl rfl rfl (WR.call H (strings_HasPrefix_ct hx13) rfl trivial (Wn.some rfl rfl rfl) rfl ?_)))))
     intro v26 M w H hle hR
     replace hg_maxl := hg_maxl.mono hle
     replace f18_0 := f18_0.mono hle
     replace hc24 := hc24.mono hle
     obtain rfl := hR
     refine SG (Ex.not rfl) rfl rfl rfl (PF rfl rfl rfl (NL ?_))
     exact WQ.meetN [(5, _), (28, _)] ⟨rfl, rfl, trivial⟩ ⟨_, _, rfl, H, hg_maxl, f18_0, e8⟩
   ·
    rintro e w ⟨b9, M, rfl, H, hg_maxl, f18_0, q14⟩
    obtain rfl := Option.some.inj q14
    refine TN ?_
    refine WC.condB rfl (fun hk15 => ?_) (fun hk15 => ?_)
    ·
     subst hk15
     rw [if_pos rfl] at h
     refine SQ (RG (AS rfl rfl (AS rfl rfl (AS rfl rfl (NL (TN (RT ?_)))))))
     obtain rfl := Option.some.inj h
     exact WQ.ret3 rfl rfl rfl rfl H.ext rfl
    ·
     subst hk15
     rw [if_neg Bool.false_ne_true] at h
     refine SK (TN (SQ ?_))
     obtain ⟨a16, hxa16, h⟩ := bnd h
     obtain ⟨b31, o31, ha31, hc31⟩ := f18_0.atC hxa16
     obtain ⟨a17, hxa17, h⟩ := bnd h
     obtain ⟨b34, o34, ha34, hc34⟩ := f18_0.atC hxa17
     obtain ⟨⟨l18, b19⟩, hx20, h⟩ := bnd h
     try dsimp only at h
     refine WC.draw (m := 12) rfl rfl H ?_
     intro w H
     refine WA.take (i := 0) rfl (by kernel_rfl) (by kernel_rfl) (by kernel_rfl) (fun _ => Ex.move rfl) (Wn.none rfl) rfl rfl (fun _ _ => rfl) (WA.take (i := 1) rfl (by kernel_rfl) (by kernel_rfl) (by kernel_rfl) (fun _ => Ex.idxAt ha31 Tryd.underlying32 Tryd.sizeOf9 rfl rfl) (Wn.none rfl) rfl rfl (fun _ _ => rfl) (WA.take (i := 3) rfl (by kernel_rfl) (by kernel_rfl) (by kernel_rfl) (fun _ => Ex.move rfl) (Wn.none rfl) rfl rfl (fun _ _ => rfl) (WA.take (i := 4) rfl (by kernel_rfl) (by kernel_rfl) (by kernel_rfl) (fun _ => Ex.idxAt ha34 Tryd.underlying32 Tryd.sizeOf9 rfl rfl) (Wn.none rfl) rfl rfl (fun _ _ => rfl) (WA.takeM (i := 2) [5] rfl (by kernel_rfl) (by kernel_rfl) (by kernel_rfl) (Ex.loadM H rfl hc31 Tryd.isAgg9) (Wn.none rfl) rfl rfl (fun _ _ => rfl) (WA.seq (fuel := 4) [5, 6, 7] rfl (by kernel_rfl) (ST (Ex.loadM H rfl hc34 Tryd.isAgg9) rfl (WR.call H (words_bytesOf_ct hx20) rfl (hg_maxl) (Wn.none rfl) rfl ?_)))))))
     intro v36 M w H hle hR
     replace hg_maxl := hg_maxl.mono hle
     replace f18_0 := f18_0.mono hle
     replace hc31 := hc31.mono hle
     replace hc34 := hc34.mono hle
     try dsimp only at hR
     obtain ⟨x36_0, rfl, f36_0⟩ := hR
     refine MV rfl rfl (NA (WA.take (i := 8) rfl (by kernel_rfl) (by kernel_rfl) (by kernel_rfl) (fun _ => Ex.extract rfl rfl) (Wn.none rfl) rfl rfl (fun _ _ => rfl) (WA.take (i := 9) rfl (by kernel_rfl) (by kernel_rfl) (by kernel_rfl) (fun _ => Ex.extract rfl rfl) (Wn.none rfl) rfl rfl (fun _ _ => rfl) (WA.seq (fuel := 0) [10, 11] rfl (by kernel_rfl) (AS rfl rfl (AS rfl rfl (NA (WA.done (by kernel_rfl) (TN (SQ ?_))))))))))
     obtain ⟨a21, hxa21, h⟩ := bnd h
     obtain ⟨b41, o41, ha41, hc41⟩ := f18_0.atC hxa21
     obtain ⟨⟨s22, ⟨n23, n24⟩⟩, hx25, h⟩ := bnd h
     try dsimp only at h
     refine RG (MV rfl rfl (ST (Ex.idxAt ha41 Tryd.underlying32 Tryd.sizeOf9 rfl rfl) rfl (ST (Ex.loadM H rfl hc41 Tryd.isAgg9) rfl (MV rfl rfl (WR.call H (charset_Decode_ct hx25) rfl (f36_0) (Wn.none rfl) rfl ?_)))))
     intro v44 M w H hle hR
     replace hg_maxl := hg_maxl.mono hle
     replace f18_0 := f18_0.mono hle
     replace hc31 := hc31.mono hle
     replace hc34 := hc34.mono hle
     replace f36_0 := f36_0.mono hle
     replace hc41 := hc41.mono hle
     try dsimp only at hR
     obtain rfl := hR
     refine MV rfl rfl (ST (Ex.extract rfl rfl) rfl (ST (Ex.extract rfl rfl) rfl (WR.alloc [_, _] H Tryd.zeroValue24 rfl (Wn.none rfl) rfl ?_)))
     intro b9 w H
     refine AS rfl rfl (WR.store [_, _] H rfl rfl rfl (by repeat first | exact .head | apply Upd.tail) Tryd.sizeOf24 rfl (by rfl) (by rfl) (Wn.none rfl) ?_)
     intro w H
     refine NL (TN (SQ ?_))
     obtain ⟨o26, e27, h⟩ := bnd h
     refine WC.cutX (fun e w => ∃ (s28 : List UInt8) (n29 : Int) (b30 : Bool) (M : Mem), e = [(2, S s28), (3, I n29), (4, Value.bool b30)] ∧ St w0 M0 M [] w ∧ GlF (fun w => ∃ m, w.cell? ⟨2, 0, none⟩ = some (.int .i64 m)) M ∧ some (s28, n29, b30) = some o26) [] ?_ ?_ (trivial)
     ·
      obtain ⟨a31, hxa31, e27⟩ := bnd e27
      obtain ⟨b49, o49, ha49, hc49⟩ := f18_0.atC hxa31
      obtain ⟨n32, hxn32, e27⟩ := bnd e27
      obtain ⟨a33, hxa33, e27⟩ := bnd e27
      obtain ⟨b54, o54, ha54, hc54⟩ := f18_0.atC hxa33
      obtain ⟨n34, hxn34, e27⟩ := bnd e27
      obtain ⟨a35, hxa35, e27⟩ := bnd e27
      obtain ⟨b59, o59, ha59, hc59⟩ := f18_0.atC hxa35
      obtain ⟨n36, hxn36, e27⟩ := bnd e27
      obtain ⟨n37, hxn37, e27⟩ := bnd e27
      rcases b19 with _ | _
      ·
       rw [if_neg Bool.false_ne_true] at e27
       refine WC.sub (e' := [(5, _), (7, _), (8, _), (9, _)]) ⟨rfl, rfl, rfl, rfl, trivial⟩ (WC.draw (m := 26) rfl rfl H ?_)
       intro w H
       refine WA.conf (c := 26) [(47, S s22, []), (48, v18, []), (49, ptr b49 o49, [1]), (50, S a31, [2]), (51, I (a31.length : Int), [3]), (52, I n32, [4]), (53, v18, []), (54, ptr b54 o54, [6]), (55, S a33, [7]), (56, I (a33.length : Int), [8]), (57, I n34, [5, 9]), (58, v18, []), (59, ptr b59 o59, [11]), (60, S a35, [12]), (61, I (a35.length : Int), [13]), (62, I n36, [10, 14]), (63, I n37, [15]), (64, Value.bool false, []), (65, Value.bool false, [17]), (66, undef, [18]), (67, undef, [18]), (68, undef, [18]), (69, Value.bool false, [18, 21]), (2, S s22, [0]), (3, I n37, [16]), (4, Value.bool false, [22])] rfl rfl (by kernel_rfl) rfl rfl H ⟨⟨_, rfl, fun E w M H hle Qk kk => ?_⟩, ⟨_, rfl, fun E w M H hle Qk kk => ?_⟩, ⟨_, rfl, fun E w M H hle Qk kk => ?_⟩, ⟨_, rfl, fun E w M H hle Qk kk => ?_⟩, ⟨_, rfl, fun E w M H hle Qk kk => ?_⟩, ⟨_, rfl, fun E w M H hle Qk kk => ?_⟩, ⟨_, rfl, fun E w M H hle Qk kk => ?_⟩, ⟨_, rfl, fun E w M H hle Qk kk => ?_⟩, ⟨_, rfl, fun E w M H hle Qk kk => ?_⟩, ⟨_, rfl, fun E w M H hle Qk kk => ?_⟩, ⟨_, rfl, fun E w M H hle Qk kk => ?_⟩, ⟨_, rfl, fun E w M H hle Qk kk => ?_⟩, ⟨_, rfl, fun E w M H hle Qk kk => ?_⟩, ⟨_, rfl, fun E w M H hle Qk kk => ?_⟩, ⟨_, rfl, fun E w M H hle Qk kk => ?_⟩, ⟨_, rfl, fun E w M H hle Qk kk => ?_⟩, ⟨_, rfl, fun E w M H hle Qk kk => ?_⟩, ⟨_, rfl, fun E w M H hle Qk kk => ?_⟩, ⟨_, rfl, fun E w M H hle Qk kk => ?_⟩, ⟨_, rfl, fun E w M H hle Qk kk => ?_⟩, ⟨_, rfl, fun E w M H hle Qk kk => ?_⟩, ⟨_, rfl, fun E w M H hle Qk kk => ?_⟩, ⟨_, rfl, fun E w M H hle Qk kk => ?_⟩, ⟨_, rfl, fun E w M H hle Qk kk => ?_⟩, ⟨_, rfl, fun E w M H hle Qk kk => ?_⟩, ⟨_, rfl, fun E w M H hle Qk kk => ?_⟩, trivial⟩ ?_
       ·
        have hg_maxl := hg_maxl.mono hle
        have f18_0 := f18_0.mono hle
        have hc31 := hc31.mono hle
        have hc34 := hc34.mono hle
        have f36_0 := f36_0.mono hle
        have hc41 := hc41.mono hle
        have hc49 := hc49.mono hle
        have hc54 := hc54.mono hle
        have hc59 := hc59.mono hle
        refine MV rfl rfl ?_
        exact WR.nil (kk _ _ H (Mem.le.refl _))
       ·
        have hg_maxl := hg_maxl.mono hle
        have f18_0 := f18_0.mono hle
        have hc31 := hc31.mono hle
        have hc34 := hc34.mono hle
        have f36_0 := f36_0.mono hle
        have hc41 := hc41.mono hle
        have hc49 := hc49.mono hle
        have hc54 := hc54.mono hle
        have hc59 := hc59.mono hle
        refine MV rfl rfl ?_
        exact WR.nil (kk _ _ H (Mem.le.refl _))
       ·
        have hg_maxl := hg_maxl.mono hle
        have f18_0 := f18_0.mono hle
        have hc31 := hc31.mono hle
        have hc34 := hc34.mono hle
        have f36_0 := f36_0.mono hle
        have hc41 := hc41.mono hle
        have hc49 := hc49.mono hle
        have hc54 := hc54.mono hle
        have hc59 := hc59.mono hle
        refine ST (Ex.idxAt ha49 Tryd.underlying32 Tryd.sizeOf9 rfl rfl) rfl ?_
        exact WR.nil (kk _ _ H (Mem.le.refl _))
       ·
        have hg_maxl := hg_maxl.mono hle
        have f18_0 := f18_0.mono hle
        have hc31 := hc31.mono hle
        have hc34 := hc34.mono hle
        have f36_0 := f36_0.mono hle
        have hc41 := hc41.mono hle
        have hc49 := hc49.mono hle
        have hc54 := hc54.mono hle
        have hc59 := hc59.mono hle
        refine ST (Ex.loadM H rfl hc49 Tryd.isAgg9) rfl ?_
        exact WR.nil (kk _ _ H (Mem.le.refl _))
       ·
        have hg_maxl := hg_maxl.mono hle
        have f18_0 := f18_0.mono hle
        have hc31 := hc31.mono hle
        have hc34 := hc34.mono hle
        have f36_0 := f36_0.mono hle
        have hc41 := hc41.mono hle
        have hc49 := hc49.mono hle
        have hc54 := hc54.mono hle
        have hc59 := hc59.mono hle
        refine ST (Ex.lenStr Tryd.underlying9 rfl) rfl ?_
        exact WR.nil (kk _ _ H (Mem.le.refl _))
       ·
        have hg_maxl := hg_maxl.mono hle
        have f18_0 := f18_0.mono hle
        have hc31 := hc31.mono hle
        have hc34 := hc34.mono hle
        have f36_0 := f36_0.mono hle
        have hc41 := hc41.mono hle
        have hc49 := hc49.mono hle
        have hc54 := hc54.mono hle
        have hc59 := hc59.mono hle
        refine ST (Ex.addC rfl rfl hxn32) rfl ?_
        exact WR.nil (kk _ _ H (Mem.le.refl _))
       ·
        have hg_maxl := hg_maxl.mono hle
        have f18_0 := f18_0.mono hle
        have hc31 := hc31.mono hle
        have hc34 := hc34.mono hle
        have f36_0 := f36_0.mono hle
        have hc41 := hc41.mono hle
        have hc49 := hc49.mono hle
        have hc54 := hc54.mono hle
        have hc59 := hc59.mono hle
        refine MV rfl rfl ?_
        exact WR.nil (kk _ _ H (Mem.le.refl _))
       ·
        have hg_maxl := hg_maxl.mono hle
        have f18_0 := f18_0.mono hle
        have hc31 := hc31.mono hle
        have hc34 := hc34.mono hle
        have f36_0 := f36_0.mono hle
        have hc41 := hc41.mono hle
        have hc49 := hc49.mono hle
        have hc54 := hc54.mono hle
        have hc59 := hc59.mono hle
        refine ST (Ex.idxAt ha54 Tryd.underlying32 Tryd.sizeOf9 rfl rfl) rfl ?_
        exact WR.nil (kk _ _ H (Mem.le.refl _))
       ·
        have hg_maxl := hg_maxl.mono hle
        have f18_0 := f18_0.mono hle
        have hc31 := hc31.mono hle
        have hc34 := hc34.mono hle
        have f36_0 := f36_0.mono hle
        have hc41 := hc41.mono hle
        have hc49 := hc49.mono hle
        have hc54 := hc54.mono hle
        have hc59 := hc59.mono hle
        refine ST (Ex.loadM H rfl hc54 Tryd.isAgg9) rfl ?_
        exact WR.nil (kk _ _ H (Mem.le.refl _))
       ·
        have hg_maxl := hg_maxl.mono hle
        have f18_0 := f18_0.mono hle
        have hc31 := hc31.mono hle
        have hc34 := hc34.mono hle
        have f36_0 := f36_0.mono hle
        have hc41 := hc41.mono hle
        have hc49 := hc49.mono hle
        have hc54 := hc54.mono hle
        have hc59 := hc59.mono hle
        refine ST (Ex.lenStr Tryd.underlying9 rfl) rfl ?_
        exact WR.nil (kk _ _ H (Mem.le.refl _))
       ·
        have hg_maxl := hg_maxl.mono hle
        have f18_0 := f18_0.mono hle
        have hc31 := hc31.mono hle
        have hc34 := hc34.mono hle
        have f36_0 := f36_0.mono hle
        have hc41 := hc41.mono hle
        have hc49 := hc49.mono hle
        have hc54 := hc54.mono hle
        have hc59 := hc59.mono hle
        refine ST (Ex.addC rfl rfl hxn34) rfl ?_
        exact WR.nil (kk _ _ H (Mem.le.refl _))
       ·
        have hg_maxl := hg_maxl.mono hle
        have f18_0 := f18_0.mono hle
        have hc31 := hc31.mono hle
        have hc34 := hc34.mono hle
        have f36_0 := f36_0.mono hle
        have hc41 := hc41.mono hle
        have hc49 := hc49.mono hle
        have hc54 := hc54.mono hle
        have hc59 := hc59.mono hle
        refine MV rfl rfl ?_
        exact WR.nil (kk _ _ H (Mem.le.refl _))
       ·
        have hg_maxl := hg_maxl.mono hle
        have f18_0 := f18_0.mono hle
        have hc31 := hc31.mono hle
        have hc34 := hc34.mono hle
        have f36_0 := f36_0.mono hle
        have hc41 := hc41.mono hle
        have hc49 := hc49.mono hle
        have hc54 := hc54.mono hle
        have hc59 := hc59.mono hle
        refine ST (Ex.idxAt ha59 Tryd.underlying32 Tryd.sizeOf9 rfl rfl) rfl ?_
        exact WR.nil (kk _ _ H (Mem.le.refl _))
       ·
        have hg_maxl := hg_maxl.mono hle
        have f18_0 := f18_0.mono hle
        have hc31 := hc31.mono hle
        have hc34 := hc34.mono hle
        have f36_0 := f36_0.mono hle
        have hc41 := hc41.mono hle
        have hc49 := hc49.mono hle
        have hc54 := hc54.mono hle
        have hc59 := hc59.mono hle
        refine ST (Ex.loadM H rfl hc59 Tryd.isAgg9) rfl ?_
        exact WR.nil (kk _ _ H (Mem.le.refl _))
       ·
        have hg_maxl := hg_maxl.mono hle
        have f18_0 := f18_0.mono hle
        have hc31 := hc31.mono hle
        have hc34 := hc34.mono hle
        have f36_0 := f36_0.mono hle
        have hc41 := hc41.mono hle
        have hc49 := hc49.mono hle
        have hc54 := hc54.mono hle
        have hc59 := hc59.mono hle
        refine ST (Ex.lenStr Tryd.underlying9 rfl) rfl ?_
        exact WR.nil (kk _ _ H (Mem.le.refl _))
       ·
        have hg_maxl := hg_maxl.mono hle
        have f18_0 := f18_0.mono hle
        have hc31 := hc31.mono hle
        have hc34 := hc34.mono hle
        have f36_0 := f36_0.mono hle
        have hc41 := hc41.mono hle
        have hc49 := hc49.mono hle
        have hc54 := hc54.mono hle
        have hc59 := hc59.mono hle
        refine ST (Ex.addC rfl rfl hxn36) rfl ?_
        exact WR.nil (kk _ _ H (Mem.le.refl _))
       ·
        have hg_maxl := hg_maxl.mono hle
        have f18_0 := f18_0.mono hle
        have hc31 := hc31.mono hle
        have hc34 := hc34.mono hle
        have f36_0 := f36_0.mono hle
        have hc41 := hc41.mono hle
        have hc49 := hc49.mono hle
        have hc54 := hc54.mono hle
        have hc59 := hc59.mono hle
        refine ST (Ex.addC rfl rfl hxn37) rfl ?_
        exact WR.nil (kk _ _ H (Mem.le.refl _))
       ·
        have hg_maxl := hg_maxl.mono hle
        have f18_0 := f18_0.mono hle
        have hc31 := hc31.mono hle
        have hc34 := hc34.mono hle
        have f36_0 := f36_0.mono hle
        have hc41 := hc41.mono hle
        have hc49 := hc49.mono hle
        have hc54 := hc54.mono hle
        have hc59 := hc59.mono hle
        refine MV rfl rfl ?_
        exact WR.nil (kk _ _ H (Mem.le.refl _))
       ·
        have hg_maxl := hg_maxl.mono hle
        have f18_0 := f18_0.mono hle
        have hc31 := hc31.mono hle
        have hc34 := hc34.mono hle
        have f36_0 := f36_0.mono hle
        have hc41 := hc41.mono hle
        have hc49 := hc49.mono hle
        have hc54 := hc54.mono hle
        have hc59 := hc59.mono hle
        refine MV rfl rfl ?_
        exact WR.nil (kk _ _ H (Mem.le.refl _))
       ·
        have hg_maxl := hg_maxl.mono hle
        have f18_0 := f18_0.mono hle
        have hc31 := hc31.mono hle
        have hc34 := hc34.mono hle
        have f36_0 := f36_0.mono hle
        have hc41 := hc41.mono hle
        have hc49 := hc49.mono hle
        have hc54 := hc54.mono hle
        have hc59 := hc59.mono hle
        refine GF rfl rfl rfl ?_
        exact WR.nil (kk _ _ H (Mem.le.refl _))
       ·
        have hg_maxl := hg_maxl.mono hle
        have f18_0 := f18_0.mono hle
        have hc31 := hc31.mono hle
        have hc34 := hc34.mono hle
        have f36_0 := f36_0.mono hle
        have hc41 := hc41.mono hle
        have hc49 := hc49.mono hle
        have hc54 := hc54.mono hle
        have hc59 := hc59.mono hle
        refine GF rfl rfl rfl ?_
        exact WR.nil (kk _ _ H (Mem.le.refl _))
       ·
        have hg_maxl := hg_maxl.mono hle
        have f18_0 := f18_0.mono hle
        have hc31 := hc31.mono hle
        have hc34 := hc34.mono hle
        have f36_0 := f36_0.mono hle
        have hc41 := hc41.mono hle
        have hc49 := hc49.mono hle
        have hc54 := hc54.mono hle
        have hc59 := hc59.mono hle
        refine GF rfl rfl rfl ?_
        exact WR.nil (kk _ _ H (Mem.le.refl _))
       ·
        have hg_maxl := hg_maxl.mono hle
        have f18_0 := f18_0.mono hle
        have hc31 := hc31.mono hle
        have hc34 := hc34.mono hle
        have f36_0 := f36_0.mono hle
        have hc41 := hc41.mono hle
        have hc49 := hc49.mono hle
        have hc54 := hc54.mono hle
        have hc59 := hc59.mono hle
        refine PF rfl rfl rfl ?_
        exact WR.nil (kk _ _ H (Mem.le.refl _))
       ·
        have hg_maxl := hg_maxl.mono hle
        have f18_0 := f18_0.mono hle
        have hc31 := hc31.mono hle
        have hc34 := hc34.mono hle
        have f36_0 := f36_0.mono hle
        have hc41 := hc41.mono hle
        have hc49 := hc49.mono hle
        have hc54 := hc54.mono hle
        have hc59 := hc59.mono hle
        refine AS rfl rfl ?_
        exact WR.nil (kk _ _ H (Mem.le.refl _))
       ·
        have hg_maxl := hg_maxl.mono hle
        have f18_0 := f18_0.mono hle
        have hc31 := hc31.mono hle
        have hc34 := hc34.mono hle
        have f36_0 := f36_0.mono hle
        have hc41 := hc41.mono hle
        have hc49 := hc49.mono hle
        have hc54 := hc54.mono hle
        have hc59 := hc59.mono hle
        refine AS rfl rfl ?_
        exact WR.nil (kk _ _ H (Mem.le.refl _))
       ·
        have hg_maxl := hg_maxl.mono hle
        have f18_0 := f18_0.mono hle
        have hc31 := hc31.mono hle
        have hc34 := hc34.mono hle
        have f36_0 := f36_0.mono hle
        have hc41 := hc41.mono hle
        have hc49 := hc49.mono hle
        have hc54 := hc54.mono hle
        have hc59 := hc59.mono hle
        refine AS rfl rfl ?_
        exact WR.nil (kk _ _ H (Mem.le.refl _))
       ·
        intro w M H hle
        replace hg_maxl := hg_maxl.mono hle
        replace f18_0 := f18_0.mono hle
        replace hc31 := hc31.mono hle
        replace hc34 := hc34.mono hle
        replace f36_0 := f36_0.mono hle
        replace hc41 := hc41.mono hle
        replace hc49 := hc49.mono hle
        replace hc54 := hc54.mono hle
        replace hc59 := hc59.mono hle
        refine WA.done (by kernel_rfl) ?_
        exact WQ.meetN [(2, _), (3, _), (4, _)] ⟨rfl, rfl, rfl, trivial⟩ ⟨_, _, _, _, rfl, (H.pick (L' := []) (by repeat (first | exact Pick.nil | refine Pick.cons (by repeat first | exact .head | apply Rem.tail) ?_))), hg_maxl, e27⟩
      ·
       rw [if_pos rfl] at e27
       obtain ⟨b38, hx39, e27⟩ := bnd e27
       refine WC.sub (e' := [(5, _), (7, _), (8, _), (9, _)]) ⟨rfl, rfl, rfl, rfl, trivial⟩ (WC.draw (m := 26) rfl rfl H ?_)
       intro w H
       refine WA.conf (c := 26) [(47, S s22, []), (48, v18, []), (49, ptr b49 o49, [1]), (50, S a31, [2]), (51, I (a31.length : Int), [3]), (52, I n32, [4]), (53, v18, []), (54, ptr b54 o54, [6]), (55, S a33, [7]), (56, I (a33.length : Int), [8]), (57, I n34, [5, 9]), (58, v18, []), (59, ptr b59 o59, [11]), (60, S a35, [12]), (61, I (a35.length : Int), [13]), (62, I n36, [10, 14]), (63, I n37, [15]), (64, Value.bool true, []), (65, Value.bool true, [17]), (66, Value.agg #[I n23, I n24], [18]), (67, Value.bool b38, [18, 19]), (68, Value.bool (!b38), [18, 20]), (69, Value.bool (!b38), [18, 21]), (2, S s22, [0]), (3, I n37, [16]), (4, Value.bool (!b38), [22])] rfl rfl (by kernel_rfl) rfl rfl H ⟨⟨_, rfl, fun E w M H hle Qk kk => ?_⟩, ⟨_, rfl, fun E w M H hle Qk kk => ?_⟩, ⟨_, rfl, fun E w M H hle Qk kk => ?_⟩, ⟨_, rfl, fun E w M H hle Qk kk => ?_⟩, ⟨_, rfl, fun E w M H hle Qk kk => ?_⟩, ⟨_, rfl, fun E w M H hle Qk kk => ?_⟩, ⟨_, rfl, fun E w M H hle Qk kk => ?_⟩, ⟨_, rfl, fun E w M H hle Qk kk => ?_⟩, ⟨_, rfl, fun E w M H hle Qk kk => ?_⟩, ⟨_, rfl, fun E w M H hle Qk kk => ?_⟩, ⟨_, rfl, fun E w M H hle Qk kk => ?_⟩, ⟨_, rfl, fun E w M H hle Qk kk => ?_⟩, ⟨_, rfl, fun E w M H hle Qk kk => ?_⟩, ⟨_, rfl, fun E w M H hle Qk kk => ?_⟩, ⟨_, rfl, fun E w M H hle Qk kk => ?_⟩, ⟨_, rfl, fun E w M H hle Qk kk => ?_⟩, ⟨_, rfl, fun E w M H hle Qk kk => ?_⟩, ⟨_, rfl, fun E w M H hle Qk kk => ?_⟩, ⟨_, rfl, fun E w M H hle Qk kk => ?_⟩, ⟨_, rfl, fun E w M H hle Qk kk => ?_⟩, ⟨_, rfl, fun E w M H hle Qk kk => ?_⟩, ⟨_, rfl, fun E w M H hle Qk kk => ?_⟩, ⟨_, rfl, fun E w M H hle Qk kk => ?_⟩, ⟨_, rfl, fun E w M H hle Qk kk => ?_⟩, ⟨_, rfl, fun E w M H hle Qk kk => ?_⟩, ⟨_, rfl, fun E w M H hle Qk kk => ?_⟩, trivial⟩ ?_
       ·
        have hg_maxl := hg_maxl.mono hle
        have f18_0 := f18_0.mono hle
        have hc31 := hc31.mono hle
        have hc34 := hc34.mono hle
        have f36_0 := f36_0.mono hle
        have hc41 := hc41.mono hle
        have hc49 := hc49.mono hle
        have hc54 := hc54.mono hle
        have hc59 := hc59.mono hle
        refine MV rfl rfl ?_
        exact WR.nil (kk _ _ H (Mem.le.refl _))
       ·
        have hg_maxl := hg_maxl.mono hle
        have f18_0 := f18_0.mono hle
        have hc31 := hc31.mono hle
        have hc34 := hc34.mono hle
        have f36_0 := f36_0.mono hle
        have hc41 := hc41.mono hle
        have hc49 := hc49.mono hle
        have hc54 := hc54.mono hle
        have hc59 := hc59.mono hle
        refine MV rfl rfl ?_
        exact WR.nil (kk _ _ H (Mem.le.refl _))
       ·
        have hg_maxl := hg_maxl.mono hle
        have f18_0 := f18_0.mono hle
        have hc31 := hc31.mono hle
        have hc34 := hc34.mono hle
        have f36_0 := f36_0.mono hle
        have hc41 := hc41.mono hle
        have hc49 := hc49.mono hle
        have hc54 := hc54.mono hle
        have hc59 := hc59.mono hle
        refine ST (Ex.idxAt ha49 Tryd.underlying32 Tryd.sizeOf9 rfl rfl) rfl ?_
        exact WR.nil (kk _ _ H (Mem.le.refl _))
       ·
        have hg_maxl := hg_maxl.mono hle
        have f18_0 := f18_0.mono hle
        have hc31 := hc31.mono hle
        have hc34 := hc34.mono hle
        have f36_0 := f36_0.mono hle
        have hc41 := hc41.mono hle
        have hc49 := hc49.mono hle
        have hc54 := hc54.mono hle
        have hc59 := hc59.mono hle
        refine ST (Ex.loadM H rfl hc49 Tryd.isAgg9) rfl ?_
        exact WR.nil (kk _ _ H (Mem.le.refl _))
       ·
        have hg_maxl := hg_maxl.mono hle
        have f18_0 := f18_0.mono hle
        have hc31 := hc31.mono hle
        have hc34 := hc34.mono hle
        have f36_0 := f36_0.mono hle
        have hc41 := hc41.mono hle
        have hc49 := hc49.mono hle
        have hc54 := hc54.mono hle
        have hc59 := hc59.mono hle
        refine ST (Ex.lenStr Tryd.underlying9 rfl) rfl ?_
        exact WR.nil (kk _ _ H (Mem.le.refl _))
       ·
        have hg_maxl := hg_maxl.mono hle
        have f18_0 := f18_0.mono hle
        have hc31 := hc31.mono hle
        have hc34 := hc34.mono hle
        have f36_0 := f36_0.mono hle
        have hc41 := hc41.mono hle
        have hc49 := hc49.mono hle
        have hc54 := hc54.mono hle
        have hc59 := hc59.mono hle
        refine ST (Ex.addC rfl rfl hxn32) rfl ?_
        exact WR.nil (kk _ _ H (Mem.le.refl _))
       ·
        have hg_maxl := hg_maxl.mono hle
        have f18_0 := f18_0.mono hle
        have hc31 := hc31.mono hle
        have hc34 := hc34.mono hle
        have f36_0 := f36_0.mono hle
        have hc41 := hc41.mono hle
        have hc49 := hc49.mono hle
        have hc54 := hc54.mono hle
        have hc59 := hc59.mono hle
        refine MV rfl rfl ?_
        exact WR.nil (kk _ _ H (Mem.le.refl _))
       ·
        have hg_maxl := hg_maxl.mono hle
        have f18_0 := f18_0.mono hle
        have hc31 := hc31.mono hle
        have hc34 := hc34.mono hle
        have f36_0 := f36_0.mono hle
        have hc41 := hc41.mono hle
        have hc49 := hc49.mono hle
        have hc54 := hc54.mono hle
        have hc59 := hc59.mono hle
        refine ST (Ex.idxAt ha54 Tryd.underlying32 Tryd.sizeOf9 rfl rfl) rfl ?_
        exact WR.nil (kk _ _ H (Mem.le.refl _))
       ·
        have hg_maxl := hg_maxl.mono hle
        have f18_0 := f18_0.mono hle
        have hc31 := hc31.mono hle
        have hc34 := hc34.mono hle
        have f36_0 := f36_0.mono hle
        have hc41 := hc41.mono hle
        have hc49 := hc49.mono hle
        have hc54 := hc54.mono hle
        have hc59 := hc59.mono hle
        refine ST (Ex.loadM H rfl hc54 Tryd.isAgg9) rfl ?_
        exact WR.nil (kk _ _ H (Mem.le.refl _))
       ·
        have hg_maxl := hg_maxl.mono hle
        have f18_0 := f18_0.mono hle
        have hc31 := hc31.mono hle
        have hc34 := hc34.mono hle
        have f36_0 := f36_0.mono hle
        have hc41 := hc41.mono hle
        have hc49 := hc49.mono hle
        have hc54 := hc54.mono hle
        have hc59 := hc59.mono hle
        refine ST (Ex.lenStr Tryd.underlying9 rfl) rfl ?_
        exact WR.nil (kk _ _ H (Mem.le.refl _))
       ·
        have hg_maxl := hg_maxl.mono hle
        have f18_0 := f18_0.mono hle
        have hc31 := hc31.mono hle
        have hc34 := hc34.mono hle
        have f36_0 := f36_0.mono hle
        have hc41 := hc41.mono hle
        have hc49 := hc49.mono hle
        have hc54 := hc54.mono hle
        have hc59 := hc59.mono hle
        refine ST (Ex.addC rfl rfl hxn34) rfl ?_
        exact WR.nil (kk _ _ H (Mem.le.refl _))
       ·
        have hg_maxl := hg_maxl.mono hle
        have f18_0 := f18_0.mono hle
        have hc31 := hc31.mono hle
        have hc34 := hc34.mono hle
        have f36_0 := f36_0.mono hle
        have hc41 := hc41.mono hle
        have hc49 := hc49.mono hle
        have hc54 := hc54.mono hle
        have hc59 := hc59.mono hle
        refine MV rfl rfl ?_
        exact WR.nil (kk _ _ H (Mem.le.refl _))
       ·
        have hg_maxl := hg_maxl.mono hle
        have f18_0 := f18_0.mono hle
        have hc31 := hc31.mono hle
        have hc34 := hc34.mono hle
        have f36_0 := f36_0.mono hle
        have hc41 := hc41.mono hle
        have hc49 := hc49.mono hle
        have hc54 := hc54.mono hle
        have hc59 := hc59.mono hle
        refine ST (Ex.idxAt ha59 Tryd.underlying32 Tryd.sizeOf9 rfl rfl) rfl ?_
        exact WR.nil (kk _ _ H (Mem.le.refl _))
       ·
        have hg_maxl := hg_maxl.mono hle
        have f18_0 := f18_0.mono hle
        have hc31 := hc31.mono hle
        have hc34 := hc34.mono hle
        have f36_0 := f36_0.mono hle
        have hc41 := hc41.mono hle
        have hc49 := hc49.mono hle
        have hc54 := hc54.mono hle
        have hc59 := hc59.mono hle
        refine ST (Ex.loadM H rfl hc59 Tryd.isAgg9) rfl ?_
        exact WR.nil (kk _ _ H (Mem.le.refl _))
       ·
        have hg_maxl := hg_maxl.mono hle
        have f18_0 := f18_0.mono hle
        have hc31 := hc31.mono hle
        have hc34 := hc34.mono hle
        have f36_0 := f36_0.mono hle
        have hc41 := hc41.mono hle
        have hc49 := hc49.mono hle
        have hc54 := hc54.mono hle
        have hc59 := hc59.mono hle
        refine ST (Ex.lenStr Tryd.underlying9 rfl) rfl ?_
        exact WR.nil (kk _ _ H (Mem.le.refl _))
       ·
        have hg_maxl := hg_maxl.mono hle
        have f18_0 := f18_0.mono hle
        have hc31 := hc31.mono hle
        have hc34 := hc34.mono hle
        have f36_0 := f36_0.mono hle
        have hc41 := hc41.mono hle
        have hc49 := hc49.mono hle
        have hc54 := hc54.mono hle
        have hc59 := hc59.mono hle
        refine ST (Ex.addC rfl rfl hxn36) rfl ?_
        exact WR.nil (kk _ _ H (Mem.le.refl _))
       ·
        have hg_maxl := hg_maxl.mono hle
        have f18_0 := f18_0.mono hle
        have hc31 := hc31.mono hle
        have hc34 := hc34.mono hle
        have f36_0 := f36_0.mono hle
        have hc41 := hc41.mono hle
        have hc49 := hc49.mono hle
        have hc54 := hc54.mono hle
        have hc59 := hc59.mono hle
        refine ST (Ex.addC rfl rfl hxn37) rfl ?_
        exact WR.nil (kk _ _ H (Mem.le.refl _))
       ·
        have hg_maxl := hg_maxl.mono hle
        have f18_0 := f18_0.mono hle
        have hc31 := hc31.mono hle
        have hc34 := hc34.mono hle
        have f36_0 := f36_0.mono hle
        have hc41 := hc41.mono hle
        have hc49 := hc49.mono hle
        have hc54 := hc54.mono hle
        have hc59 := hc59.mono hle
        refine MV rfl rfl ?_
        exact WR.nil (kk _ _ H (Mem.le.refl _))
       ·
        have hg_maxl := hg_maxl.mono hle
        have f18_0 := f18_0.mono hle
        have hc31 := hc31.mono hle
        have hc34 := hc34.mono hle
        have f36_0 := f36_0.mono hle
        have hc41 := hc41.mono hle
        have hc49 := hc49.mono hle
        have hc54 := hc54.mono hle
        have hc59 := hc59.mono hle
        refine MV rfl rfl ?_
        exact WR.nil (kk _ _ H (Mem.le.refl _))
       ·
        have hg_maxl := hg_maxl.mono hle
        have f18_0 := f18_0.mono hle
        have hc31 := hc31.mono hle
        have hc34 := hc34.mono hle
        have f36_0 := f36_0.mono hle
        have hc41 := hc41.mono hle
        have hc49 := hc49.mono hle
        have hc54 := hc54.mono hle
        have hc59 := hc59.mono hle
        refine SG (Ex.loadAgg H rfl (by repeat (first | exact List.Mem.head _ | apply List.Mem.tail)) Tryd.isAgg24 Tryd.sizeOf24 (by rfl)) rfl rfl rfl ?_
        exact WR.nil (kk _ _ H (Mem.le.refl _))
       ·
        have hg_maxl := hg_maxl.mono hle
        have f18_0 := f18_0.mono hle
        have hc31 := hc31.mono hle
        have hc34 := hc34.mono hle
        have f36_0 := f36_0.mono hle
        have hc41 := hc41.mono hle
        have hc49 := hc49.mono hle
        have hc54 := hc54.mono hle
        have hc59 := hc59.mono hle
        refine WR.call H (basic_Failed_ct hx39) rfl trivial (Wn.some rfl rfl rfl) rfl ?_
        intro v67 M w H hle hR
        replace hg_maxl := hg_maxl.mono hle
        replace f18_0 := f18_0.mono hle
        replace hc31 := hc31.mono hle
        replace hc34 := hc34.mono hle
        replace f36_0 := f36_0.mono hle
        replace hc41 := hc41.mono hle
        replace hc49 := hc49.mono hle
        replace hc54 := hc54.mono hle
        replace hc59 := hc59.mono hle
        obtain rfl := hR
        exact WR.nil (kk _ _ H hle)
       ·
        have hg_maxl := hg_maxl.mono hle
        have f18_0 := f18_0.mono hle
        have hc31 := hc31.mono hle
        have hc34 := hc34.mono hle
        have f36_0 := f36_0.mono hle
        have hc41 := hc41.mono hle
        have hc49 := hc49.mono hle
        have hc54 := hc54.mono hle
        have hc59 := hc59.mono hle
        refine SG (Ex.not rfl) rfl rfl rfl ?_
        exact WR.nil (kk _ _ H (Mem.le.refl _))
       ·
        have hg_maxl := hg_maxl.mono hle
        have f18_0 := f18_0.mono hle
        have hc31 := hc31.mono hle
        have hc34 := hc34.mono hle
        have f36_0 := f36_0.mono hle
        have hc41 := hc41.mono hle
        have hc49 := hc49.mono hle
        have hc54 := hc54.mono hle
        have hc59 := hc59.mono hle
        refine PT rfl rfl rfl ?_
        exact WR.nil (kk _ _ H (Mem.le.refl _))
       ·
        have hg_maxl := hg_maxl.mono hle
        have f18_0 := f18_0.mono hle
        have hc31 := hc31.mono hle
        have hc34 := hc34.mono hle
        have f36_0 := f36_0.mono hle
        have hc41 := hc41.mono hle
        have hc49 := hc49.mono hle
        have hc54 := hc54.mono hle
        have hc59 := hc59.mono hle
        refine AS rfl rfl ?_
        exact WR.nil (kk _ _ H (Mem.le.refl _))
       ·
        have hg_maxl := hg_maxl.mono hle
        have f18_0 := f18_0.mono hle
        have hc31 := hc31.mono hle
        have hc34 := hc34.mono hle
        have f36_0 := f36_0.mono hle
        have hc41 := hc41.mono hle
        have hc49 := hc49.mono hle
        have hc54 := hc54.mono hle
        have hc59 := hc59.mono hle
        refine AS rfl rfl ?_
        exact WR.nil (kk _ _ H (Mem.le.refl _))
       ·
        have hg_maxl := hg_maxl.mono hle
        have f18_0 := f18_0.mono hle
        have hc31 := hc31.mono hle
        have hc34 := hc34.mono hle
        have f36_0 := f36_0.mono hle
        have hc41 := hc41.mono hle
        have hc49 := hc49.mono hle
        have hc54 := hc54.mono hle
        have hc59 := hc59.mono hle
        refine AS rfl rfl ?_
        exact WR.nil (kk _ _ H (Mem.le.refl _))
       ·
        intro w M H hle
        replace hg_maxl := hg_maxl.mono hle
        replace f18_0 := f18_0.mono hle
        replace hc31 := hc31.mono hle
        replace hc34 := hc34.mono hle
        replace f36_0 := f36_0.mono hle
        replace hc41 := hc41.mono hle
        replace hc49 := hc49.mono hle
        replace hc54 := hc54.mono hle
        replace hc59 := hc59.mono hle
        refine WA.done (by kernel_rfl) ?_
        exact WQ.meetN [(2, _), (3, _), (4, _)] ⟨rfl, rfl, rfl, trivial⟩ ⟨_, _, _, _, rfl, (H.pick (L' := []) (by repeat (first | exact Pick.nil | refine Pick.cons (by repeat first | exact .head | apply Rem.tail) ?_))), hg_maxl, e27⟩
     ·
      rintro e w ⟨s28, n29, b30, M, rfl, H, hg_maxl, q40⟩
      obtain rfl := Option.some.inj q40
      try dsimp only at h
      refine TN (RT ?_)
      obtain rfl := Option.some.inj h
      exact WQ.ret3 rfl rfl rfl rfl H.ext rfl
theorem basic_Blank_ct {p0 : UInt8} {r : Bool} (h : basic_Blank p0 = some r) : Ct Tryd.prog 19 [encB p0] (fun M => True) (fun v M => v = Value.bool r) := by
  refine Ct.of Tryd.func19 (enters Tryd.func19 (by kernel_rfl) rfl) rfl rfl rfl ?_
  intro w0 M0 H hp
  unfold basic_Blank at h
  refine SQ (RG (AS rfl rfl (NL (TN (SQ ?_)))))
  obtain ⟨o1, e2, h⟩ := bnd h
  refine WC.cutX (fun e w => ∃ (b3 : Bool) (M : Mem), e = [(2, Value.bool b3)] ∧ St w0 M0 M [] w ∧ some b3 = some o1) [] ?_ ?_ (trivial)
  ·
   by_cases hk4 : p0 = 32
   ·
    rw [if_pos hk4] at e2
    refine RG (MV rfl rfl (WR.stepE (v' := .bool true) (Ex.eqlB (c := p0) (d := 32) rfl rfl) (congrArg Value.bool (decide_eq_true hk4)) (Wn.none rfl) rfl rfl (MV rfl rfl (GT rfl rfl rfl (GT rfl rfl rfl (PT rfl rfl rfl (AS rfl rfl (NL ?_))))))))
    exact WQ.meetN [(2, _)] ⟨rfl, trivial⟩ ⟨_, _, rfl, H, e2⟩
   ·
    rw [if_neg hk4] at e2
    refine RG (MV rfl rfl (WR.stepE (v' := .bool false) (Ex.eqlB (c := p0) (d := 32) rfl rfl) (congrArg Value.bool (decide_eq_false hk4)) (Wn.none rfl) rfl rfl (MV rfl rfl (SG (Ex.move rfl) rfl rfl rfl (SG (Ex.eqlB (c := p0) (d := 9) rfl rfl) rfl rfl rfl (PF rfl rfl rfl (AS rfl rfl (NL ?_))))))))
    exact WQ.meetN [(2, _)] ⟨rfl, trivial⟩ ⟨_, _, rfl, H, e2⟩
  ·
   rintro e w ⟨b3, M, rfl, H, q5⟩
   obtain rfl := Option.some.inj q5
   refine TN (RT ?_)
   obtain rfl := Option.some.inj h
   exact WQ.ret1 rfl rfl H.ext rfl
theorem strings_Builder_WriteString_ct {p0 : List UInt8} {p1 : List UInt8} {bp0 : Nat} {pp0 : Value} {vp0 : Value} {r : (Int × Bool × List UInt8)} (h : strings_Builder_WriteString p0 p1 = some r) : CtX Tryd.prog 20 [ptr bp0 0, S p1] [.blk bp0 (.cells #[pp0, vp0] 41), RowI 5 encB vp0 p0] (fun M => BPM M bp0 pp0) (fun v M its => ∃ x1 qp0 up0, v = Value.tuple #[I r.1, x1] ∧ NilB M x1 r.2.1 ∧ BPM M bp0 qp0 ∧ its = [.blk bp0 (.cells #[qp0, up0] 41), RowI 5 encB up0 r.2.2]) := by
  refine CtX.of Tryd.func20 (enters Tryd.func20 (by kernel_rfl) rfl) rfl rfl rfl ?_
  intro w0 M0 H hp
  have hp0 := hp
  unfold strings_Builder_WriteString at h
  refine SQ (RG (AS rfl rfl (AS rfl rfl (NL (TN (SQ (RG (MV rfl rfl ?_))))))))
  refine WR.callX (A := [.blk bp0 (.cells #[pp0, vp0] 41)]) (B := [RowI 5 encB vp0 p0]) (H.pick (L' := [.blk bp0 (.cells #[pp0, vp0] 41), RowI 5 encB vp0 p0]) (by repeat (first | exact Pick.nil | refine Pick.cons (by repeat first | exact .head | apply Rem.tail) ?_))) (copyCheck_ct hp0) (.left (Spl.all _)) rfl trivial (Wn.none rfl) rfl ?_
  intro v7 M w its H hle hR
  replace hp0 := hp0.mono hle
  obtain ⟨rfl, rfl⟩ := hR
  simp only [List.cons_append, List.nil_append] at H
  refine NL (TN (SQ ?_))
  obtain ⟨l2, hxl2, h⟩ := bnd h
  refine RG (MV rfl rfl (MV rfl rfl (ST (Ex.nilCheckP rfl) rfl (ST (Ex.fieldAddr Tryd.underlying41 rfl Tryd.sizeOf39 (by decide) rfl) rfl (ST (Ex.load1 H rfl (by repeat (first | exact List.Mem.head _ | apply List.Mem.tail)) Tryd.isAgg39 (by rfl)) rfl ?_)))))
  refine MV rfl rfl (WR.appStrC (l := p0) xty39 Tryd.underlying9 H rfl (fun _ => by repeat first | exact .head | apply Upd.tail) rfl hxl2 (Wn.none rfl) rfl ?_)
  intro v14 w H
  refine ST (Ex.nilCheckP rfl) rfl (ST (Ex.fieldAddr Tryd.underlying41 rfl Tryd.sizeOf39 (by decide) rfl) rfl (WR.putV [_, _] H rfl rfl (H.rowOne (by repeat (first | exact List.Mem.head _ | apply List.Mem.tail))) (by repeat first | exact .head | apply Upd.tail) (by rfl) Tryd.sizeOf39 (by first | decide | (simp; done) | (simp; omega)) (Wn.none rfl) ?_))
  intro w H
  refine NL (TN (SQ (RG (MV rfl rfl (ST (Ex.lenStr Tryd.underlying9 rfl) rfl (AS rfl rfl (AS rfl rfl (NL (TN (RT ?_))))))))))
  obtain rfl := Option.some.inj h
  exact WQ.retX2 (its := [.blk bp0 (.cells #[(ptr bp0 0), v14] 41), RowI 5 encB v14 l2]) rfl rfl rfl H (by repeat (first | exact Pick.nil | refine Pick.cons (by repeat first | exact .head | apply Rem.tail) ?_)) ⟨_, _, _, rfl, (.inl ⟨rfl, rfl⟩), BPM.self, rfl⟩
theorem words_Decode_ct {p0 : List UInt8} {r : (List UInt8 × (Int × Int))} (h : words_Decode p0 = some r) : Ct Tryd.prog 7 [S p0] (fun M => GlF (fun w => ∃ m, w.cell? ⟨2, 0, none⟩ = some (.int .i64 m)) M) (fun v M => v = Value.tuple #[S r.1, Value.agg #[I r.2.1, I r.2.2]]) := by
  refine Ct.of Tryd.func7 (enters Tryd.func7 (by kernel_rfl) rfl) rfl rfl rfl ?_
  intro w0 M0 H hp
  have hg_maxl := hp
  unfold words_Decode at h
  refine SQ (RG (AS rfl rfl (WR.alloc [_, _] H Tryd.zeroValue24 rfl (Wn.none rfl) rfl ?_)))
  intro b3 w H
  refine NL (TN (SQ (SQ (RG (MV rfl rfl (ST (Ex.lenStr Tryd.underlying9 rfl) rfl (ST (Ex.gtr rfl rfl) rfl (NL (TN ?_)))))))))
  refine WC.condB rfl (fun hk1 => ?_) (fun hk1 => ?_)
  ·
   replace hk1 : (4000 : Int) < (p0.length : Int) := of_decide_eq_true hk1
   rw [if_pos hk1] at h
   refine SQ ?_
   obtain ⟨⟨n2, n3⟩, hx4, h⟩ := bnd h
   try dsimp only at h
   refine RG (WR.call H (basic_Fault_ct hx4) rfl trivial (Wn.none rfl) rfl ?_)
   intro v13 M w H hle hR
   replace hg_maxl := hg_maxl.mono hle
   try dsimp only at hR
   obtain rfl := hR
   refine AS rfl rfl (WR.store [_, _] H rfl rfl rfl (by repeat first | exact .head | apply Upd.tail) Tryd.sizeOf24 rfl (by rfl) (by rfl) (Wn.none rfl) ?_)
   intro w H
   refine NL (TN (RT ?_))
   obtain rfl := Option.some.inj h
   exact WQ.ret2 rfl rfl ⟨_, rfl, H.loadAgg (by repeat (first | exact List.Mem.head _ | apply List.Mem.tail)) Tryd.isAgg24 Tryd.sizeOf24 (by rfl)⟩ H.ext rfl
  ·
   replace hk1 : ¬ ((4000 : Int) < (p0.length : Int)) := of_decide_eq_false hk1
   rw [if_neg hk1] at h
   refine SK (TN (SQ (RG (WR.alloc [_, _] H Tryd.zeroValue41 rfl (Wn.none rfl) rfl ?_))))
   intro b4 w H
   refine NL (TN (SQ (RG (AS rfl rfl (NL (TN (SQ (SQ (RG (AS rfl rfl (NL (TN ?_))))))))))))
   obtain ⟨o5, e6, h⟩ := bnd h
   refine WC.cutX (fun e w => ∃ (v7 : Value) (l10 : List UInt8) (v11 : Value) (n12 : Int) (M : Mem), e = [(0, S p0), (3, ptr b3 0), (4, ptr b4 0), (5, I n12)] ∧ St w0 M0 M [.blk b3 (.cells #[I 0, I 0] 24), .blk b4 (.cells #[v7, v11] 41), RowI 5 encB v11 l10] w ∧ GlF (fun w => ∃ m, w.cell? ⟨2, 0, none⟩ = some (.int .i64 m)) M ∧ BPM M b4 v7 ∧ some (l10, n12) = some o5) [] ?_ ?_ (trivial)
   ·
    refine BL ?_
    replace H := H.newRow 5 encB
    refine WC.loopP (fun m e w => ∃ (v13 : Value) (l16 : List UInt8) (v17 : Value) (n18 : Int) (n19 : Int) (M : Mem), e = [(0, S p0), (3, ptr b3 0), (4, ptr b4 0), (5, I n18), (6, I n19)] ∧ St w0 M0 M [.blk b3 (.cells #[I 0, I 0] 24), .blk b4 (.cells #[v13, v17] 41), RowI 5 encB v17 l16] w ∧ GlF (fun w => ∃ m, w.cell? ⟨2, 0, none⟩ = some (.int .i64 m)) M ∧ BPM M b4 v13 ∧ words_Decode_L1 p0 m l16 n18 n19 = some o5) FU [(0, _), (3, _), (4, _), (5, _), (6, _)] ⟨rfl, rfl, rfl, rfl, rfl, trivial⟩ ⟨_, _, _, _, _, _, rfl, (H.pick (L' := [.blk b3 (.cells #[I 0, I 0] 24), .blk b4 (.cells #[(Value.pointer none), (Value.slice none 0 0)] 41), RowI 5 encB (Value.slice none 0 0) []]) (by repeat (first | exact Pick.nil | refine Pick.cons (by repeat first | exact .head | apply Rem.tail) ?_))), hg_maxl, BPM.nil, e6⟩ ?_
    rintro m20 e w ⟨v13, l16, v17, n18, n19, M, rfl, H, hg_maxl, hs14, e6⟩
    rcases m20 with _ | m20
    · rw [words_Decode_L1] at e6; cases e6
    rw [words_Decode_L1] at e6
    refine SQ (SQ (RG (MV rfl rfl (MV rfl rfl (ST (Ex.lenStr Tryd.underlying9 rfl) rfl (ST (Ex.lss rfl rfl) rfl (NL (TN ?_))))))))
    refine WC.condB rfl (fun hk22 => ?_) (fun hk22 => ?_)
    ·
     replace hk22 : n19 < (p0.length : Int) := of_decide_eq_true hk22
     rw [if_pos hk22] at e6
     refine SK (TN (BL (SQ ?_)))
     obtain ⟨s23, hxs23, e6⟩ := bnd e6
     obtain ⟨⟨s24, n25, b26⟩, hx27, e6⟩ := bnd e6
     try dsimp only at e6
     refine RG (MV rfl rfl (MV rfl rfl (ST (Ex.sliceL Tryd.underlying9 rfl rfl hxs23) rfl (WR.call H (words_read_ct hx27) rfl (hg_maxl) (Wn.none rfl) rfl ?_))))
     intro v22 M w H hle hR
     replace hg_maxl := hg_maxl.mono hle
     replace hs14 := hs14.mono hle
     try dsimp only at hR
     obtain rfl := hR
     refine MV rfl rfl (ST (Ex.extract rfl rfl) rfl (ST (Ex.extract rfl rfl) rfl (ST (Ex.extract rfl rfl) rfl (AS rfl rfl (AS rfl rfl (AS rfl rfl (NL (TN (SQ (SQ (RG (MV rfl rfl (ST (Ex.not rfl) rfl (NL (TN ?_)))))))))))))))
     refine WC.condB rfl (fun hk28 => ?_) (fun hk28 => ?_)
     ·
      replace hk28 : b26 = false := by simpa using hk28
      subst hk28
      rw [if_neg Bool.false_ne_true] at e6
      refine SQ (SQ (RG (MV rfl rfl (ST (Ex.lss rfl rfl) rfl (NL (TN ?_))))))
      obtain ⟨o29, e30, e6⟩ := bnd e6
      refine WC.cutX (fun e w => ∃ (v31 : Value) (l34 : List UInt8) (v35 : Value) (M : Mem), e = [(0, S p0), (3, ptr b3 0), (4, ptr b4 0), (5, I n18), (6, I n19)] ∧ St w0 M0 M [.blk b3 (.cells #[I 0, I 0] 24), .blk b4 (.cells #[v31, v35] 41), RowI 5 encB v35 l34] w ∧ GlF (fun w => ∃ m, w.cell? ⟨2, 0, none⟩ = some (.int .i64 m)) M ∧ BPM M b4 v31 ∧ some l34 = some o29) [] ?_ ?_ (trivial)
      ·
       refine WC.condB rfl (fun hk36 => ?_) (fun hk36 => ?_)
       ·
        replace hk36 : n18 < (0 : Int) := of_decide_eq_true hk36
        rw [if_pos hk36] at e30
        obtain ⟨c37, hxc37, e30⟩ := bnd e30
        obtain ⟨⟨b38, l39⟩, hx40, e30⟩ := bnd e30
        try dsimp only at e30
        refine RG (MV rfl rfl (MV rfl rfl (ST (Ex.idxStrC Tryd.underlying9 rfl rfl hxc37) rfl ?_)))
        refine WR.callX (A := [.blk b4 (.cells #[v13, v17] 41), RowI 5 encB v17 l16]) (B := [.blk b3 (.cells #[I 0, I 0] 24)]) (H.pick (L' := [.blk b4 (.cells #[v13, v17] 41), RowI 5 encB v17 l16, .blk b3 (.cells #[I 0, I 0] 24)]) (by repeat (first | exact Pick.nil | refine Pick.cons (by repeat first | exact .head | apply Rem.tail) ?_))) (strings_Builder_WriteByte_ct hx40) (.left (.left (Spl.all _))) rfl (hs14) (Wn.none rfl) rfl ?_
        intro v33 M w its H hle hR
        replace hg_maxl := hg_maxl.mono hle
        replace hs14 := hs14.mono hle
        try dsimp only at hR
        obtain ⟨x33_0, q33_0, u33_0, rfl, f33_0, hq33_0, rfl⟩ := hR
        simp only [List.cons_append, List.nil_append] at H
        refine NL ?_
        exact WQ.meetN [(0, _), (3, _), (4, _), (5, _), (6, _)] ⟨rfl, rfl, rfl, rfl, rfl, trivial⟩ ⟨_, _, _, _, rfl, (H.pick (L' := [.blk b3 (.cells #[I 0, I 0] 24), .blk b4 (.cells #[q33_0, u33_0] 41), RowI 5 encB u33_0 l39]) (by repeat (first | exact Pick.nil | refine Pick.cons (by repeat first | exact .head | apply Rem.tail) ?_))), hg_maxl, hq33_0, e30⟩
       ·
        replace hk36 : ¬ (n18 < (0 : Int)) := of_decide_eq_false hk36
        rw [if_neg hk36] at e30
        refine SK ?_
        exact WQ.meetN [(0, _), (3, _), (4, _), (5, _), (6, _)] ⟨rfl, rfl, rfl, rfl, rfl, trivial⟩ ⟨_, _, _, _, rfl, H, hg_maxl, hs14, e30⟩
      ·
       rintro e w ⟨v31, l34, v35, M, rfl, H, hg_maxl, hs32, q41⟩
       obtain rfl := Option.some.inj q41
       refine TN (SQ (SQ ?_))
       obtain ⟨o42, e43, e6⟩ := bnd e6
       refine WC.cutX (fun e w => ∃ (b44 : Bool) (M : Mem), e = [(0, S p0), (3, ptr b3 0), (4, ptr b4 0), (5, I n18), (6, I n19), (42, Value.bool b44)] ∧ St w0 M0 M [.blk b3 (.cells #[I 0, I 0] 24), .blk b4 (.cells #[v31, v35] 41), RowI 5 encB v35 l34] w ∧ GlF (fun w => ∃ m, w.cell? ⟨2, 0, none⟩ = some (.int .i64 m)) M ∧ BPM M b4 v31 ∧ some b44 = some o42) [] ?_ ?_ (trivial)
       ·
        by_cases hk45 : (0 : Int) ≤ n18
        ·
         rw [if_pos hk45] at e43
         obtain ⟨c46, hxc46, e43⟩ := bnd e43
         obtain ⟨b47, hx48, e43⟩ := bnd e43
         refine RG (MV rfl rfl (WR.stepE (v' := .bool true) (Ex.geq rfl rfl) (congrArg Value.bool (decide_eq_true hk45)) (Wn.none rfl) rfl rfl (MV rfl rfl (SG (Ex.move rfl) rfl rfl rfl (SG (Ex.move rfl) rfl rfl rfl (SG (Ex.idxStrC Tryd.underlying9 rfl rfl hxc46) rfl rfl rfl (WR.call H (basic_Blank_ct hx48) rfl trivial (Wn.some rfl rfl rfl) rfl ?_)))))))
         intro v40 M w H hle hR
         replace hg_maxl := hg_maxl.mono hle
         replace hs32 := hs32.mono hle
         obtain rfl := hR
         refine SG (Ex.not rfl) rfl rfl rfl (PT rfl rfl rfl (NL ?_))
         exact WQ.meetN [(0, _), (3, _), (4, _), (5, _), (6, _), (42, _)] ⟨rfl, rfl, rfl, rfl, rfl, rfl, trivial⟩ ⟨_, _, rfl, H, hg_maxl, hs32, e43⟩
        ·
         rw [if_neg hk45] at e43
         refine RG (MV rfl rfl (WR.stepE (v' := .bool false) (Ex.geq rfl rfl) (congrArg Value.bool (decide_eq_false hk45)) (Wn.none rfl) rfl rfl (MV rfl rfl (WR.skipN 5 rfl rfl (PF rfl rfl rfl (NL ?_))))))
         exact WQ.meetN [(0, _), (3, _), (4, _), (5, _), (6, _), (42, _)] ⟨rfl, rfl, rfl, rfl, rfl, rfl, trivial⟩ ⟨_, _, rfl, H, hg_maxl, hs32, e43⟩
       ·
        rintro e w ⟨b44, M, rfl, H, hg_maxl, hs32, q49⟩
        obtain rfl := Option.some.inj q49
        refine TN ?_
        obtain ⟨o50, e51, e6⟩ := bnd e6
        refine WC.cutX (fun e w => ∃ (v52 : Value) (l55 : List UInt8) (v56 : Value) (n57 : Int) (M : Mem), e = [(0, S p0), (3, ptr b3 0), (4, ptr b4 0), (5, I n57), (6, I n19)] ∧ St w0 M0 M [.blk b3 (.cells #[I 0, I 0] 24), .blk b4 (.cells #[v52, v56] 41), RowI 5 encB v56 l55] w ∧ GlF (fun w => ∃ m, w.cell? ⟨2, 0, none⟩ = some (.int .i64 m)) M ∧ BPM M b4 v52 ∧ some (l55, n57) = some o50) [] ?_ ?_ (trivial)
        ·
         refine WC.condB rfl (fun hk58 => ?_) (fun hk58 => ?_)
         ·
          subst hk58
          rw [if_pos rfl] at e51
          refine SQ ?_
          obtain ⟨n59, hxn59, e51⟩ := bnd e51
          obtain ⟨s60, hxs60, e51⟩ := bnd e51
          obtain ⟨⟨n61, b62, l63⟩, hx64, e51⟩ := bnd e51
          try dsimp only at e51
          refine RG (MV rfl rfl (MV rfl rfl (MV rfl rfl (ST (Ex.addC rfl rfl hxn59) rfl (ST (Ex.sliceC Tryd.underlying9 rfl rfl rfl hxs60) rfl ?_)))))
          refine WR.callX (A := [.blk b4 (.cells #[v31, v35] 41), RowI 5 encB v35 l34]) (B := [.blk b3 (.cells #[I 0, I 0] 24)]) (H.pick (L' := [.blk b4 (.cells #[v31, v35] 41), RowI 5 encB v35 l34, .blk b3 (.cells #[I 0, I 0] 24)]) (by repeat (first | exact Pick.nil | refine Pick.cons (by repeat first | exact .head | apply Rem.tail) ?_))) (strings_Builder_WriteString_ct hx64) (.left (.left (Spl.all _))) rfl (hs32) (Wn.none rfl) rfl ?_
          intro v48 M w its H hle hR
          replace hg_maxl := hg_maxl.mono hle
          replace hs32 := hs32.mono hle
          try dsimp only at hR
          obtain ⟨x48_1, q48_0, u48_0, rfl, f48_1, hq48_0, rfl⟩ := hR
          simp only [List.cons_append, List.nil_append] at H
          refine NL (TN (RG (AS rfl rfl (NL ?_))))
          exact WQ.meetN [(0, _), (3, _), (4, _), (5, _), (6, _)] ⟨rfl, rfl, rfl, rfl, rfl, trivial⟩ ⟨_, _, _, _, _, rfl, (H.pick (L' := [.blk b3 (.cells #[I 0, I 0] 24), .blk b4 (.cells #[q48_0, u48_0] 41), RowI 5 encB u48_0 l63]) (by repeat (first | exact Pick.nil | refine Pick.cons (by repeat first | exact .head | apply Rem.tail) ?_))), hg_maxl, hq48_0, e51⟩
         ·
          subst hk58
          rw [if_neg Bool.false_ne_true] at e51
          refine SK ?_
          exact WQ.meetN [(0, _), (3, _), (4, _), (5, _), (6, _)] ⟨rfl, rfl, rfl, rfl, rfl, trivial⟩ ⟨_, _, _, _, _, rfl, H, hg_maxl, hs32, e51⟩
        ·
         rintro e w ⟨v52, l55, v56, n57, M, rfl, H, hg_maxl, hs53, q65⟩
         obtain rfl := Option.some.inj q65
         try dsimp only at e6
         refine TN (SQ ?_)
         obtain ⟨n66, hxn66, e6⟩ := bnd e6
         refine RG (MV rfl rfl (ST (Ex.addC rfl rfl hxn66) rfl (AS rfl rfl (NL (TN (WC.exit (WQ.thenExit (WQ.exitHere ?_))))))))
         exact WQ.againP m20 [(0, _), (3, _), (4, _), (5, _), (6, _)] ⟨rfl, rfl, rfl, rfl, rfl, trivial⟩ ⟨_, _, _, _, _, _, rfl, H, hg_maxl, hs53, e6⟩ (Nat.lt_succ_self _)
     ·
      replace hk28 : b26 = true := by simpa using hk28
      subst hk28
      rw [if_pos rfl] at e6
      refine SK (TN (SQ ?_))
      obtain ⟨⟨n67, b68, l69⟩, hx70, e6⟩ := bnd e6
      try dsimp only at e6
      refine RG (MV rfl rfl ?_)
      refine WR.callX (A := [.blk b4 (.cells #[v13, v17] 41), RowI 5 encB v17 l16]) (B := [.blk b3 (.cells #[I 0, I 0] 24)]) (H.pick (L' := [.blk b4 (.cells #[v13, v17] 41), RowI 5 encB v17 l16, .blk b3 (.cells #[I 0, I 0] 24)]) (by repeat (first | exact Pick.nil | refine Pick.cons (by repeat first | exact .head | apply Rem.tail) ?_))) (strings_Builder_WriteString_ct hx70) (.left (.left (Spl.all _))) rfl (hs14) (Wn.none rfl) rfl ?_
      intro v52 M w its H hle hR
      replace hg_maxl := hg_maxl.mono hle
      replace hs14 := hs14.mono hle
      try dsimp only at hR
      obtain ⟨x52_1, q52_0, u52_0, rfl, f52_1, hq52_0, rfl⟩ := hR
      simp only [List.cons_append, List.nil_append] at H
      refine NL (TN (SQ ?_))
      obtain ⟨n71, hxn71, e6⟩ := bnd e6
      refine RG (MV rfl rfl (MV rfl rfl (ST (Ex.addC rfl rfl hxn71) rfl (AS rfl rfl (NL (TN (RG (MV rfl rfl (AS rfl rfl (NL (IB ?_)))))))))))
      exact WQ.againP m20 [(0, _), (3, _), (4, _), (5, _), (6, _)] ⟨rfl, rfl, rfl, rfl, rfl, trivial⟩ ⟨_, _, _, _, _, _, rfl, (H.pick (L' := [.blk b3 (.cells #[I 0, I 0] 24), .blk b4 (.cells #[q52_0, u52_0] 41), RowI 5 encB u52_0 l69]) (by repeat (first | exact Pick.nil | refine Pick.cons (by repeat first | exact .head | apply Rem.tail) ?_))), hg_maxl, hq52_0, e6⟩ (Nat.lt_succ_self _)
    ·
     replace hk22 : ¬ (n19 < (p0.length : Int)) := of_decide_eq_false hk22
     rw [if_neg hk22] at e6
     refine WC.exit (WQ.thenExit (WQ.thenExit (WQ.exitHere ?_)))
     exact WQ.meetN [(0, _), (3, _), (4, _), (5, _)] ⟨rfl, rfl, rfl, rfl, trivial⟩ ⟨_, _, _, _, _, rfl, H, hg_maxl, hs14, e6⟩
   ·
    rintro e w ⟨v7, l10, v11, n12, M, rfl, H, hg_maxl, hs8, q72⟩
    obtain rfl := Option.some.inj q72
    try dsimp only at h
    refine TN (SQ (SQ (RG (MV rfl rfl (ST (Ex.geq rfl rfl) rfl (NL (TN ?_)))))))
    obtain ⟨o73, e74, h⟩ := bnd h
    refine WC.cutX (fun e w => ∃ (v75 : Value) (l78 : List UInt8) (v79 : Value) (M : Mem), e = [(3, ptr b3 0), (4, ptr b4 0)] ∧ St w0 M0 M [.blk b3 (.cells #[I 0, I 0] 24), .blk b4 (.cells #[v75, v79] 41), RowI 5 encB v79 l78] w ∧ GlF (fun w => ∃ m, w.cell? ⟨2, 0, none⟩ = some (.int .i64 m)) M ∧ BPM M b4 v75 ∧ some l78 = some o73) [] ?_ ?_ (trivial)
    ·
     refine WC.condB rfl (fun hk80 => ?_) (fun hk80 => ?_)
     ·
      replace hk80 : (0 : Int) ≤ n12 := of_decide_eq_true hk80
      rw [if_pos hk80] at e74
      obtain ⟨s81, hxs81, e74⟩ := bnd e74
      obtain ⟨⟨n82, b83, l84⟩, hx85, e74⟩ := bnd e74
      try dsimp only at e74
      refine RG (MV rfl rfl (MV rfl rfl (ST (Ex.sliceL Tryd.underlying9 rfl rfl hxs81) rfl ?_)))
      refine WR.callX (A := [.blk b4 (.cells #[v7, v11] 41), RowI 5 encB v11 l10]) (B := [.blk b3 (.cells #[I 0, I 0] 24)]) (H.pick (L' := [.blk b4 (.cells #[v7, v11] 41), RowI 5 encB v11 l10, .blk b3 (.cells #[I 0, I 0] 24)]) (by repeat (first | exact Pick.nil | refine Pick.cons (by repeat first | exact .head | apply Rem.tail) ?_))) (strings_Builder_WriteString_ct hx85) (.left (.left (Spl.all _))) rfl (hs8) (Wn.none rfl) rfl ?_
      intro v62 M w its H hle hR
      replace hg_maxl := hg_maxl.mono hle
      replace hs8 := hs8.mono hle
      try dsimp only at hR
      obtain ⟨x62_1, q62_0, u62_0, rfl, f62_1, hq62_0, rfl⟩ := hR
      simp only [List.cons_append, List.nil_append] at H
      refine NL ?_
      exact WQ.meetN [(3, _), (4, _)] ⟨rfl, rfl, trivial⟩ ⟨_, _, _, _, rfl, (H.pick (L' := [.blk b3 (.cells #[I 0, I 0] 24), .blk b4 (.cells #[q62_0, u62_0] 41), RowI 5 encB u62_0 l84]) (by repeat (first | exact Pick.nil | refine Pick.cons (by repeat first | exact .head | apply Rem.tail) ?_))), hg_maxl, hq62_0, e74⟩
     ·
      replace hk80 : ¬ ((0 : Int) ≤ n12) := of_decide_eq_false hk80
      rw [if_neg hk80] at e74
      refine SK ?_
      exact WQ.meetN [(3, _), (4, _)] ⟨rfl, rfl, trivial⟩ ⟨_, _, _, _, rfl, H, hg_maxl, hs8, e74⟩
    ·
     rintro e w ⟨v75, l78, v79, M, rfl, H, hg_maxl, hs76, q86⟩
     obtain rfl := Option.some.inj q86
     refine TN (SQ ?_)
     obtain ⟨s87, hx88, h⟩ := bnd h
     obtain ⟨⟨n89, n90⟩, hx91, h⟩ := bnd h
     try dsimp only at h
     refine RG ?_
     refine WR.callX (A := [.blk b4 (.cells #[v75, v79] 41), RowI 5 encB v79 l78]) (B := [.blk b3 (.cells #[I 0, I 0] 24)]) (H.pick (L' := [.blk b4 (.cells #[v75, v79] 41), RowI 5 encB v79 l78, .blk b3 (.cells #[I 0, I 0] 24)]) (by repeat (first | exact Pick.nil | refine Pick.cons (by repeat first | exact .head | apply Rem.tail) ?_))) (strings_Builder_String_ct hx88) (.left (.left (Spl.all _))) rfl (hs76) (Wn.none rfl) rfl ?_
     intro v63 M w its H hle hR
     replace hg_maxl := hg_maxl.mono hle
     replace hs76 := hs76.mono hle
     obtain ⟨rfl, rfl⟩ := hR
     simp only [List.cons_append, List.nil_append] at H
     refine WR.call H (basic_None_ct hx91) rfl trivial (Wn.none rfl) rfl ?_
     intro v64 M w H hle hR
     replace hg_maxl := hg_maxl.mono hle
     replace hs76 := hs76.mono hle
     try dsimp only at hR
     obtain rfl := hR
     refine AS rfl rfl (WR.store [_, _] H rfl rfl rfl (by repeat first | exact .head | apply Upd.tail) Tryd.sizeOf24 rfl (by rfl) (by rfl) (Wn.none rfl) ?_)
     intro w H
     refine NL (TN (RT ?_))
     obtain rfl := Option.some.inj h
     exact WQ.ret2 rfl rfl ⟨_, rfl, H.loadAgg (by repeat (first | exact List.Mem.head _ | apply List.Mem.tail)) Tryd.isAgg24 Tryd.sizeOf24 (by rfl)⟩ H.ext rfl
theorem L_wordsExample_ct  {r : Bool} (h : L_wordsExample = some r) : Ct Tryd.prog 5 [] (fun M => GlF (fun w => ∃ m, w.cell? ⟨2, 0, none⟩ = some (.int .i64 m)) M ∧ Tabs M) (fun v M => v = Value.bool r) := by
  refine Ct.of Tryd.func5 (enters Tryd.func5 (by kernel_rfl) rfl) rfl rfl rfl ?_
  intro w0 M0 H hp
  obtain ⟨hg_maxl, hg_tabs⟩ := hp
  unfold L_wordsExample at h
  refine SQ (RG (AS rfl rfl (NL (TN (SQ ?_)))))
  obtain ⟨⟨s1, ⟨n2, n3⟩⟩, hx4, h⟩ := bnd h
  try dsimp only at h
  refine RG (WR.call H (words_Encode_ct hx4) rfl ⟨hg_maxl, hg_tabs⟩ (Wn.none rfl) rfl ?_)
  intro v6 M w H hle hR
  replace hg_maxl := hg_maxl.mono hle
  replace hg_tabs := hg_tabs.mono hle
  try dsimp only at hR
  obtain rfl := hR
  refine MV rfl rfl (ST (Ex.extract rfl rfl) rfl (ST (Ex.extract rfl rfl) rfl (WR.alloc [_, _] H Tryd.zeroValue24 rfl (Wn.none rfl) rfl ?_)))
  intro b2 w H
  refine AS rfl rfl (WR.store [_, _] H rfl rfl rfl (by repeat first | exact .head | apply Upd.tail) Tryd.sizeOf24 rfl (by rfl) (by rfl) (Wn.none rfl) ?_)
  intro w H
  refine NL (TN (SQ ?_))
  obtain ⟨⟨s5, ⟨n6, n7⟩⟩, hx8, h⟩ := bnd h
  try dsimp only at h
  refine RG (WR.call H (words_Decode_ct hx8) rfl (hg_maxl) (Wn.none rfl) rfl ?_)
  intro v10 M w H hle hR
  replace hg_maxl := hg_maxl.mono hle
  replace hg_tabs := hg_tabs.mono hle
  try dsimp only at hR
  obtain rfl := hR
  refine MV rfl rfl (ST (Ex.extract rfl rfl) rfl (ST (Ex.extract rfl rfl) rfl (WR.alloc [_, _] H Tryd.zeroValue24 rfl (Wn.none rfl) rfl ?_)))
  intro b4 w H
  refine AS rfl rfl (WR.store [_, _] H rfl rfl rfl (by repeat first | exact .head | apply Upd.tail) Tryd.sizeOf24 rfl (by rfl) (by rfl) (Wn.none rfl) ?_)
  intro w H
  refine NL (TN (SQ ?_))
  obtain ⟨o9, e10, h⟩ := bnd h
  refine WC.cutX (fun e w => ∃ (b11 : Bool) (M : Mem), e = [(0, Value.bool b11)] ∧ St w0 M0 M [] w ∧ GlF (fun w => ∃ m, w.cell? ⟨2, 0, none⟩ = some (.int .i64 m)) M ∧ Tabs M ∧ some b11 = some o9) [] ?_ ?_ (trivial)
  ·
   refine RG (ST (Ex.fieldAddr Tryd.underlying24 rfl Tryd.sizeOf3 (by decide) rfl) rfl (ST (Ex.load1 H rfl (by repeat (first | exact List.Mem.head _ | apply List.Mem.tail)) Tryd.isAgg3 (by rfl)) rfl ?_))
   by_cases hk12 : n2 = (0 : Int)
   ·
    rw [if_pos hk12] at e10
    by_cases hk13 : n6 = (0 : Int)
    ·
     rw [if_pos hk13] at e10
     by_cases hk14 : s1 = [61, 63, 108, 97, 116, 105, 110, 49, 63, 81, 63, 61, 69, 52, 95, 98, 63, 61]
     ·
      rw [if_pos hk14] at e10
      refine WR.stepE (v' := .bool true) (Ex.eql rfl rfl) (congrArg Value.bool (decide_eq_true hk12)) (Wn.none rfl) rfl rfl (MV rfl rfl (SG (Ex.fieldAddr Tryd.underlying24 rfl Tryd.sizeOf3 (by decide) rfl) rfl rfl rfl (SG (Ex.load1 H rfl (by repeat (first | exact List.Mem.head _ | apply List.Mem.tail)) Tryd.isAgg3 (by rfl)) rfl rfl rfl ?_)))
      refine WR.stepE (v' := .bool true) (Ex.eql rfl rfl) (congrArg Value.bool (decide_eq_true hk13)) (Wn.some rfl rfl rfl) rfl rfl (PT rfl rfl rfl (MV rfl rfl (SG (Ex.move rfl) rfl rfl rfl (WR.stepE (v' := .bool true) (Ex.strEql rfl rfl) (congrArg Value.bool (decide_eq_true hk14)) (Wn.some rfl rfl rfl) rfl rfl (PT rfl rfl rfl (MV rfl rfl (SG (Ex.move rfl) rfl rfl rfl (SG (Ex.strEql rfl rfl) rfl rfl rfl (PT rfl rfl rfl (AS rfl rfl (NL ?_)))))))))))
      exact WQ.meetN [(0, _)] ⟨rfl, trivial⟩ ⟨_, _, rfl, (H.pick (L' := []) (by repeat (first | exact Pick.nil | refine Pick.cons (by repeat first | exact .head | apply Rem.tail) ?_))), hg_maxl, hg_tabs, e10⟩
     ·
      rw [if_neg hk14] at e10
      refine WR.stepE (v' := .bool true) (Ex.eql rfl rfl) (congrArg Value.bool (decide_eq_true hk12)) (Wn.none rfl) rfl rfl (MV rfl rfl (SG (Ex.fieldAddr Tryd.underlying24 rfl Tryd.sizeOf3 (by decide) rfl) rfl rfl rfl (SG (Ex.load1 H rfl (by repeat (first | exact List.Mem.head _ | apply List.Mem.tail)) Tryd.isAgg3 (by rfl)) rfl rfl rfl ?_)))
      refine WR.stepE (v' := .bool true) (Ex.eql rfl rfl) (congrArg Value.bool (decide_eq_true hk13)) (Wn.some rfl rfl rfl) rfl rfl (PT rfl rfl rfl (MV rfl rfl (SG (Ex.move rfl) rfl rfl rfl (WR.stepE (v' := .bool false) (Ex.strEql rfl rfl) (congrArg Value.bool (decide_eq_false hk14)) (Wn.some rfl rfl rfl) rfl rfl (PT rfl rfl rfl (MV rfl rfl (GF rfl rfl rfl (GF rfl rfl rfl (PF rfl rfl rfl (AS rfl rfl (NL ?_)))))))))))
      exact WQ.meetN [(0, _)] ⟨rfl, trivial⟩ ⟨_, _, rfl, (H.pick (L' := []) (by repeat (first | exact Pick.nil | refine Pick.cons (by repeat first | exact .head | apply Rem.tail) ?_))), hg_maxl, hg_tabs, e10⟩
    ·
     rw [if_neg hk13] at e10
     refine WR.stepE (v' := .bool true) (Ex.eql rfl rfl) (congrArg Value.bool (decide_eq_true hk12)) (Wn.none rfl) rfl rfl (MV rfl rfl (SG (Ex.fieldAddr Tryd.underlying24 rfl Tryd.sizeOf3 (by decide) rfl) rfl rfl rfl (SG (Ex.load1 H rfl (by repeat (first | exact List.Mem.head _ | apply List.Mem.tail)) Tryd.isAgg3 (by rfl)) rfl rfl rfl ?_)))
     refine WR.stepE (v' := .bool false) (Ex.eql rfl rfl) (congrArg Value.bool (decide_eq_false hk13)) (Wn.some rfl rfl rfl) rfl rfl (PT rfl rfl rfl (MV rfl rfl (GF rfl rfl rfl (GF rfl rfl rfl (PF rfl rfl rfl (MV rfl rfl (GF rfl rfl rfl (GF rfl rfl rfl (PF rfl rfl rfl (AS rfl rfl (NL ?_)))))))))))
     exact WQ.meetN [(0, _)] ⟨rfl, trivial⟩ ⟨_, _, rfl, (H.pick (L' := []) (by repeat (first | exact Pick.nil | refine Pick.cons (by repeat first | exact .head | apply Rem.tail) ?_))), hg_maxl, hg_tabs, e10⟩
   ·
    rw [if_neg hk12] at e10
    refine WR.stepE (v' := .bool false) (Ex.eql rfl rfl) (congrArg Value.bool (decide_eq_false hk12)) (Wn.none rfl) rfl rfl (MV rfl rfl (WR.skipN 3 rfl rfl (PF rfl rfl rfl (MV rfl rfl (GF rfl rfl rfl (GF rfl rfl rfl (PF rfl rfl rfl (MV rfl rfl (GF rfl rfl rfl (GF rfl rfl rfl (PF rfl rfl rfl (AS rfl rfl (NL ?_)))))))))))))
    exact WQ.meetN [(0, _)] ⟨rfl, trivial⟩ ⟨_, _, rfl, (H.pick (L' := []) (by repeat (first | exact Pick.nil | refine Pick.cons (by repeat first | exact .head | apply Rem.tail) ?_))), hg_maxl, hg_tabs, e10⟩
  ·
   rintro e w ⟨b11, M, rfl, H, hg_maxl, hg_tabs, q15⟩
   obtain rfl := Option.some.inj q15
   refine TN (RT ?_)
   obtain rfl := Option.some.inj h
   exact WQ.ret1 rfl rfl H.ext rfl
theorem L_WordsRoundTrip_ct {p0 : List UInt8} {r : Bool} (h : L_WordsRoundTrip p0 = some r) : Ct Tryd.prog 3 [S p0] (fun M => GlF (fun w => ∃ m, w.cell? ⟨2, 0, none⟩ = some (.int .i64 m)) M ∧ Tabs M) (fun v M => v = Value.bool r) := by
  refine Ct.of Tryd.func3 (enters Tryd.func3 (by kernel_rfl) rfl) rfl rfl rfl ?_
  intro w0 M0 H hp
  obtain ⟨hg_maxl, hg_tabs⟩ := hp
  unfold L_WordsRoundTrip at h
  refine SQ (RG (AS rfl rfl (NL (TN (SQ (SQ ?_))))))
  obtain ⟨b1, hx2, h⟩ := bnd h
  refine RG (WR.call H (L_wordsExample_ct hx2) rfl ⟨hg_maxl, hg_tabs⟩ (Wn.none rfl) rfl ?_)
  intro v7 M w H hle hR
  replace hg_maxl := hg_maxl.mono hle
  replace hg_tabs := hg_tabs.mono hle
  obtain rfl := hR
  refine ST (Ex.not rfl) rfl (NL (TN ?_))
  refine WC.condB rfl (fun hk3 => ?_) (fun hk3 => ?_)
  ·
   replace hk3 : b1 = false := by simpa using hk3
   subst hk3
   rw [if_neg Bool.false_ne_true] at h
   refine SQ (RG (AS rfl rfl (NL (TN (RT ?_)))))
   obtain rfl := Option.some.inj h
   exact WQ.ret1 rfl rfl H.ext rfl
  ·
   replace hk3 : b1 = true := by simpa using hk3
   subst hk3
   rw [if_pos rfl] at h
   refine SK (TN (SQ ?_))
   obtain ⟨⟨s4, ⟨n5, n6⟩⟩, hx7, h⟩ := bnd h
   try dsimp only at h
   refine RG (MV rfl rfl (WR.call H (words_Encode_ct hx7) rfl ⟨hg_maxl, hg_tabs⟩ (Wn.none rfl) rfl ?_))
   intro v11 M w H hle hR
   replace hg_maxl := hg_maxl.mono hle
   replace hg_tabs := hg_tabs.mono hle
   try dsimp only at hR
   obtain rfl := hR
   refine MV rfl rfl (ST (Ex.extract rfl rfl) rfl (ST (Ex.extract rfl rfl) rfl (WR.alloc [_, _] H Tryd.zeroValue24 rfl (Wn.none rfl) rfl ?_)))
   intro b4 w H
   refine AS rfl rfl (WR.store [_, _] H rfl rfl rfl (by repeat first | exact .head | apply Upd.tail) Tryd.sizeOf24 rfl (by rfl) (by rfl) (Wn.none rfl) ?_)
   intro w H
   refine NL (TN (SQ (SQ (RG (ST (Ex.fieldAddr Tryd.underlying24 rfl Tryd.sizeOf3 (by decide) rfl) rfl (ST (Ex.load1 H rfl (by repeat (first | exact List.Mem.head _ | apply List.Mem.tail)) Tryd.isAgg3 (by rfl)) rfl ?_))))))
   refine ST (Ex.neqC rfl rfl) rfl (NL (TN ?_))
   refine WC.condB rfl (fun hk8 => ?_) (fun hk8 => ?_)
   ·
    replace hk8 : ¬ (n5 = (0 : Int)) := of_not_decide hk8
    rw [if_neg hk8] at h
    refine SQ (RG (MV rfl rfl (ST (Ex.strEql rfl rfl) rfl (AS rfl rfl (NL (TN (RT ?_)))))))
    obtain rfl := Option.some.inj h
    exact WQ.ret1 rfl rfl H.ext rfl
   ·
    replace hk8 : n5 = (0 : Int) := of_not_decide' hk8
    rw [if_pos hk8] at h
    refine SK (TN (SQ ?_))
    obtain ⟨⟨s9, ⟨n10, n11⟩⟩, hx12, h⟩ := bnd h
    try dsimp only at h
    refine RG (MV rfl rfl (WR.call H (words_Decode_ct hx12) rfl (hg_maxl) (Wn.none rfl) rfl ?_))
    intro v21 M w H hle hR
    replace hg_maxl := hg_maxl.mono hle
    replace hg_tabs := hg_tabs.mono hle
    try dsimp only at hR
    obtain rfl := hR
    refine MV rfl rfl (ST (Ex.extract rfl rfl) rfl (ST (Ex.extract rfl rfl) rfl (WR.alloc [_, _] H Tryd.zeroValue24 rfl (Wn.none rfl) rfl ?_)))
    intro b6 w H
    refine AS rfl rfl (WR.store [_, _] H rfl rfl rfl (by repeat first | exact .head | apply Upd.tail) Tryd.sizeOf24 rfl (by rfl) (by rfl) (Wn.none rfl) ?_)
    intro w H
    refine NL (TN (SQ ?_))
    obtain ⟨o13, e14, h⟩ := bnd h
    refine WC.cutX (fun e w => ∃ (b15 : Bool) (M : Mem), e = [(2, Value.bool b15)] ∧ St w0 M0 M [] w ∧ GlF (fun w => ∃ m, w.cell? ⟨2, 0, none⟩ = some (.int .i64 m)) M ∧ Tabs M ∧ some b15 = some o13) [] ?_ ?_ (trivial)
    ·
     refine RG (ST (Ex.fieldAddr Tryd.underlying24 rfl Tryd.sizeOf3 (by decide) rfl) rfl (ST (Ex.load1 H rfl (by repeat (first | exact List.Mem.head _ | apply List.Mem.tail)) Tryd.isAgg3 (by rfl)) rfl ?_))
     by_cases hk16 : n10 = (0 : Int)
     ·
      rw [if_pos hk16] at e14
      refine WR.stepE (v' := .bool true) (Ex.eql rfl rfl) (congrArg Value.bool (decide_eq_true hk16)) (Wn.none rfl) rfl rfl (MV rfl rfl (SG (Ex.move rfl) rfl rfl rfl (SG (Ex.move rfl) rfl rfl rfl (SG (Ex.strEql rfl rfl) rfl rfl rfl (PT rfl rfl rfl (AS rfl rfl (NL ?_)))))))
      exact WQ.meetN [(2, _)] ⟨rfl, trivial⟩ ⟨_, _, rfl, (H.pick (L' := []) (by repeat (first | exact Pick.nil | refine Pick.cons (by repeat first | exact .head | apply Rem.tail) ?_))), hg_maxl, hg_tabs, e14⟩
     ·
      rw [if_neg hk16] at e14
      refine WR.stepE (v' := .bool false) (Ex.eql rfl rfl) (congrArg Value.bool (decide_eq_false hk16)) (Wn.none rfl) rfl rfl (MV rfl rfl (WR.skipN 3 rfl rfl (PF rfl rfl rfl (AS rfl rfl (NL ?_)))))
      exact WQ.meetN [(2, _)] ⟨rfl, trivial⟩ ⟨_, _, rfl, (H.pick (L' := []) (by repeat (first | exact Pick.nil | refine Pick.cons (by repeat first | exact .head | apply Rem.tail) ?_))), hg_maxl, hg_tabs, e14⟩
    ·
     rintro e w ⟨b15, M, rfl, H, hg_maxl, hg_tabs, q17⟩
     obtain rfl := Option.some.inj q17
     refine TN (RT ?_)
     obtain rfl := Option.some.inj h
     exact WQ.ret1 rfl rfl H.ext rfl
end Go.Proofs.YtogkmhjnojphiaaDoor
end
section
set_option linter.unusedVariables false
set_option linter.unusedSimpArgs false
namespace Go.Ph.Pl
theorem drop_cons {α : Type} {l : List α} {i : Nat} (h : i < l.length) : l.drop i = l[i] :: l.drop (i + 1) := List.drop_eq_getElem_cons h
theorem scanL {α β : Type} (L : Nat → Int → Option β) (l : List α) (p : α → Bool) (stop r : β) (hend : ∀ m, L (m + 1) (l.length : Int) = some stop)
    (hstep : ∀ m i (h : i < l.length), L (m + 1) (i : Int) = if p l[i] = true then some r else L m ((i + 1 : Nat) : Int)) :
    ∀ (k i m : Nat), l.length - i ≤ k → k < m → i ≤ l.length → L m (i : Int) = some (if (l.drop i).any p = true then r else stop)
  | 0, i, m, h1, h2, h3 => by
    obtain ⟨m, rfl⟩ : ∃ k, m = k + 1 := ⟨m - 1, by omega⟩
    obtain rfl : i = l.length := by omega
    rw [hend, List.drop_length]; rfl
  | k + 1, i, m, h1, h2, h3 => by
    obtain ⟨m, rfl⟩ : ∃ k, m = k + 1 := ⟨m - 1, by omega⟩
    by_cases hi : i < l.length
    · rw [hstep m i hi, drop_cons hi, List.any_cons]
      by_cases hp : p l[i] = true
      · rw [if_pos hp, hp]; rfl
      · rw [if_neg hp, scanL L l p stop r hend hstep k (i + 1) m (by omega) (by omega) (by omega)]
        have : p l[i] = false := by simpa using hp
        rw [this]; rfl
    · obtain rfl : i = l.length := by omega
      rw [hend, List.drop_length]; rfl
theorem scan0 {α β : Type} {L : Nat → Int → Option β} {l : List α} {p : α → Bool} {stop r : β} {m : Nat} (hm : l.length < m) (hend : ∀ m, L (m + 1) (l.length : Int) = some stop)
    (hstep : ∀ m i (h : i < l.length), L (m + 1) (i : Int) = if p l[i] = true then some r else L m ((i + 1 : Nat) : Int)) : L m 0 = some (if l.any p = true then r else stop) := by
  have := scanL L l p stop r hend hstep l.length 0 m (by omega) hm (by omega)
  simpa using this
theorem FU_gt {n : Nat} (h : n ≤ 9223372036854775807) : n < FU := by rw [FU_eq]; omega
end Go.Ph.Pl
end
section
set_option linter.unusedVariables false
set_option linter.unusedSimpArgs false
namespace Go.Ph.B64
theorem byThree {P : List UInt8 → Prop} (h0 : P []) (h1 : ∀ a, P [a]) (h2 : ∀ a b, P [a, b]) (h3 : ∀ a b c l, P l → P (a :: b :: c :: l)) : ∀ l, P l
  | [] => h0
  | [a] => h1 a
  | [a, b] => h2 a b
  | a :: b :: c :: l => h3 a b c l (byThree h0 h1 h2 h3 l)
abbrev A (k : Nat) : UInt8 := alpha.getD k 0
theorem outp_eq (l : List UInt8) : outp l 4 = [ch l 0, ch l 1, ch l 2, ch l 3] := rfl
theorem ch_of (l : List UInt8) (i : Nat) (h : i ≤ min 3 l.length) : ch l i = A (accN l 3 / 2 ^ (18 - 6 * i) % 64) := by
  unfold ch; rw [if_neg (by omega)]
theorem acc3 (l : List UInt8) : accN l 3 = (l.getD 0 0).toNat * 65536 + (l.getD 1 0).toNat * 256 + (l.getD 2 0).toNat := by
  simp only [accN]; omega
theorem grp3 (a b c : UInt8) (l : List UInt8) : outp (a :: b :: c :: l) 4 = [A (a.toNat / 4), A (a.toNat % 4 * 16 + b.toNat / 16), A (b.toNat % 16 * 4 + c.toNat / 64), A (c.toNat % 64)] := by
  have ha := a.toNat_lt
  have hb := b.toNat_lt
  have hc := c.toNat_lt
  have h := acc3 (a :: b :: c :: l)
  simp only [List.getD_cons_zero, List.getD_cons_succ] at h
  rw [outp_eq, ch_of _ _ (by simp), ch_of _ _ (by simp), ch_of _ _ (by simp), ch_of _ _ (by simp), h]
  congr 2
  · simp only [Nat.mul_zero, Nat.sub_zero]; omega
  congr 2
  · simp only [Nat.mul_one]; omega
  congr 2
  · omega
  rw [show (a.toNat * 65536 + b.toNat * 256 + c.toNat) / 2 ^ (18 - 6 * 3) % 64 = c.toNat % 64 by rw [show 2 ^ (18 - 6 * 3) = 1 from rfl, Nat.div_one]; omega]
theorem grp1 (a : UInt8) : outp [a] 4 = [A (a.toNat / 4), A (a.toNat % 4 * 16), 61, 61] := by
  have ha := a.toNat_lt
  have h := acc3 [a]
  simp only [List.getD_cons_zero, List.getD_cons_succ, List.getD_nil] at h
  rw [outp_eq, ch_of _ _ (by simp), ch_of _ _ (by simp), h]
  congr 2
  · simp; omega
  congr 2
  simp; omega
theorem grp2 (a b : UInt8) : outp [a, b] 4 = [A (a.toNat / 4), A (a.toNat % 4 * 16 + b.toNat / 16), A (b.toNat % 16 * 4), 61] := by
  have ha := a.toNat_lt
  have hb := b.toNat_lt
  have h := acc3 [a, b]
  simp only [List.getD_cons_zero, List.getD_cons_succ, List.getD_nil] at h
  rw [outp_eq, ch_of _ _ (by simp), ch_of _ _ (by simp), ch_of _ _ (by simp), h]
  congr 2
  · simp; omega
  congr 2
  · simp; omega
  congr 2
  simp; omega
theorem grps_three (a b c : UInt8) (l : List UInt8) : grps (a :: b :: c :: l) = outp (a :: b :: c :: l) 4 :: grps l := by
  unfold grps
  have h1 : ((a :: b :: c :: l).length + 2) / 3 = (l.length + 2) / 3 + 1 := by simp only [List.length_cons]; omega
  rw [h1]
  unfold grpsTo
  rw [List.range_succ_eq_map, List.map_cons, List.map_map]
  congr 1
theorem grps_one (a : UInt8) : grps [a] = [outp [a] 4] := by
  unfold grps
  rw [show ([a].length + 2) / 3 = 1 by simp]
  simp [grpsTo, grpAt, List.range_succ]
theorem grps_two (a b : UInt8) : grps [a, b] = [outp [a, b] 4] := by
  unfold grps
  rw [show ([a, b].length + 2) / 3 = 1 by simp]
  simp [grpsTo, grpAt, List.range_succ]
theorem sumN6 (x y z u v w : Nat) : sumN [x, y, z, u, v, w] = 32 * x + 16 * y + 8 * z + 4 * u + 2 * v + w := by simp [sumN]; omega
theorem sumN8 (u : Nat) (h : u < 256) : sumN (bits8 u) = u := by simp [sumN, bits8]; omega
theorem six_add (x bits : List Nat) (m q : Nat) (hx : x.length = 6 * m) : six (x ++ bits) (m + q) = six bits q := by
  unfold six
  congr 1
  rw [List.drop_take, List.drop_take]
  rw [show 6 * (m + q) = x.length + 6 * q by omega, List.drop_length_add_append]
  congr 1
  omega
theorem sext_add (x bits : List Nat) (m : Nat) (hx : x.length = 6 * m) (q : Nat) : sext (x ++ bits) (m + q) = sext (x ++ bits) m ++ sext bits q := by
  induction q with
  | zero => simp [sext]
  | succ q ih => rw [← Nat.add_assoc, sext, sext, ih, six_add x bits m q hx, List.append_assoc]
theorem padBits_three (a b c : UInt8) (l : List UInt8) : padBits (a :: b :: c :: l) = (bits8 a.toNat ++ bits8 b.toNat ++ bits8 c.toNat) ++ padBits l := by
  unfold padBits bitsOf
  simp only [List.flatMap_cons, List.append_assoc, List.length_cons]
  rw [show (6 - 8 * (l.length + 1 + 1 + 1) % 6) % 6 = (6 - 8 * l.length % 6) % 6 by omega]
theorem sext_lit (x : List Nat) (bits : List Nat) (n1 n2 n3 n4 : Nat) (h1 : six (x ++ bits) 0 = n1) (h2 : six (x ++ bits) 1 = n2) (h3 : six (x ++ bits) 2 = n3) (h4 : six (x ++ bits) 3 = n4) (l1 : n1 < 64) (l2 : n2 < 64) (l3 : n3 < 64) (l4 : n4 < 64) :
    sext (x ++ bits) 4 = [A n1, A n2, A n3, A n4] := by
  simp only [sext, h1, h2, h3, h4, alpha_one _ l1, alpha_one _ l2, alpha_one _ l3, alpha_one _ l4]
  rfl
theorem chars_three (a b c : UInt8) (l : List UInt8) : chars64 (a :: b :: c :: l) = outp (a :: b :: c :: l) 4 ++ chars64 l := by
  have ha := a.toNat_lt
  have hb := b.toNat_lt
  have hc := c.toNat_lt
  have hlen : (padBits (a :: b :: c :: l)).length / 6 = 4 + (padBits l).length / 6 := by
    rw [padBits_three, List.length_append]
    simp only [List.length_append, bits8_len]
    omega
  have h4 : sext (padBits (a :: b :: c :: l)) 4 = outp (a :: b :: c :: l) 4 := by
    rw [grp3, padBits_three]
    refine sext_lit _ _ _ _ _ _ ?_ ?_ ?_ ?_ (by omega) (by omega) (by omega) (by omega)
    · simp only [six, bits8, List.cons_append, List.nil_append, List.take_succ_cons, List.take_zero, List.drop_zero, Nat.mul_zero, Nat.zero_add, sumN6]; omega
    · simp only [six, bits8, List.cons_append, List.nil_append, List.take_succ_cons, List.take_zero, List.drop_succ_cons, List.drop_zero, Nat.mul_one, sumN6]; omega
    · simp only [six, bits8, List.cons_append, List.nil_append, List.take_succ_cons, List.take_zero, List.drop_succ_cons, List.drop_zero, sumN6]; omega
    · simp only [six, bits8, List.cons_append, List.nil_append, List.take_succ_cons, List.take_zero, List.drop_succ_cons, List.drop_zero, sumN6]; omega
  have hs : sext (padBits (a :: b :: c :: l)) ((padBits (a :: b :: c :: l)).length / 6) = outp (a :: b :: c :: l) 4 ++ sext (padBits l) ((padBits l).length / 6) := by
    rw [hlen, ← h4, padBits_three]
    exact sext_add _ _ 4 (by simp [bits8_len]) _
  unfold chars64
  simp only [hs, List.append_assoc, List.length_append]
  congr 3
  rw [show (outp (a :: b :: c :: l) 4).length = 4 from rfl]
  omega
theorem padBits_one (a : UInt8) : padBits [a] = bits8 a.toNat ++ [0, 0, 0, 0] := by simp [padBits, bitsOf, List.replicate]
theorem padBits_two (a b : UInt8) : padBits [a, b] = bits8 a.toNat ++ bits8 b.toNat ++ [0, 0] := by simp [padBits, bitsOf, List.replicate]
theorem chars_of {l : List UInt8} {q : Nat} {s : List UInt8} (hq : (padBits l).length / 6 = q) (h : sext (padBits l) q = s) : chars64 l = s ++ List.replicate ((4 - s.length % 4) % 4) 61 := by
  unfold chars64; rw [hq, h]
theorem chars_one (a : UInt8) : chars64 [a] = outp [a] 4 := by
  have ha := a.toNat_lt
  rw [grp1]
  have h : sext (padBits [a]) 2 = [A (a.toNat / 4), A (a.toNat % 4 * 16)] := by
    rw [padBits_one]
    have h1 : six (bits8 a.toNat ++ [0, 0, 0, 0]) 0 = a.toNat / 4 := by
      simp only [six, bits8, List.cons_append, List.nil_append, List.take_succ_cons, List.take_zero, List.drop_zero, Nat.mul_zero, Nat.zero_add, sumN6]; omega
    have h2 : six (bits8 a.toNat ++ [0, 0, 0, 0]) 1 = a.toNat % 4 * 16 := by
      simp only [six, bits8, List.cons_append, List.nil_append, List.take_succ_cons, List.take_zero, List.drop_succ_cons, List.drop_zero, Nat.mul_one, sumN6]; omega
    simp only [sext, h1, h2, alpha_one _ (show a.toNat / 4 < 64 by omega), alpha_one _ (show a.toNat % 4 * 16 < 64 by omega)]
    rfl
  rw [chars_of (by rw [padBits_one]; simp [bits8_len]) h]; rfl
theorem chars_two (a b : UInt8) : chars64 [a, b] = outp [a, b] 4 := by
  have ha := a.toNat_lt
  have hb := b.toNat_lt
  rw [grp2]
  have h : sext (padBits [a, b]) 3 = [A (a.toNat / 4), A (a.toNat % 4 * 16 + b.toNat / 16), A (b.toNat % 16 * 4)] := by
    rw [padBits_two]
    have h1 : six (bits8 a.toNat ++ bits8 b.toNat ++ [0, 0]) 0 = a.toNat / 4 := by
      simp only [six, bits8, List.cons_append, List.nil_append, List.take_succ_cons, List.take_zero, List.drop_zero, Nat.mul_zero, Nat.zero_add, sumN6]; omega
    have h2 : six (bits8 a.toNat ++ bits8 b.toNat ++ [0, 0]) 1 = a.toNat % 4 * 16 + b.toNat / 16 := by
      simp only [six, bits8, List.cons_append, List.nil_append, List.take_succ_cons, List.take_zero, List.drop_succ_cons, List.drop_zero, Nat.mul_one, sumN6]; omega
    have h3 : six (bits8 a.toNat ++ bits8 b.toNat ++ [0, 0]) 2 = b.toNat % 16 * 4 := by
      simp only [six, bits8, List.cons_append, List.nil_append, List.take_succ_cons, List.take_zero, List.drop_succ_cons, List.drop_zero, sumN6]; omega
    simp only [sext, h1, h2, h3, alpha_one _ (show a.toNat / 4 < 64 by omega), alpha_one _ (show a.toNat % 4 * 16 + b.toNat / 16 < 64 by omega), alpha_one _ (show b.toNat % 16 * 4 < 64 by omega)]
    rfl
  rw [chars_of (by rw [padBits_two]; simp [bits8_len]) h]; rfl
theorem chars_grps (l : List UInt8) : chars64 l = (grps l).flatten := by
  induction l using byThree with
  | h0 => rfl
  | h1 a => rw [chars_one, grps_one]; simp
  | h2 a b => rw [chars_two, grps_two]; simp
  | h3 a b c l ih => rw [chars_three, grps_three, List.flatten_cons, ih]
theorem flat_len (gs : List (List UInt8)) (h : ∀ g ∈ gs, g.length = 4) : gs.flatten.length = 4 * gs.length := by
  induction gs with
  | nil => rfl
  | cons g gs ih =>
    rw [List.flatten_cons, List.length_append, h g List.mem_cons_self, ih (fun x hx => h x (List.mem_cons_of_mem _ hx)), List.length_cons]
    omega
theorem wrapTo_app (cs t : List UInt8) (m : Nat) (h : 76 * m ≤ cs.length) : wrapTo (cs ++ t) m = wrapTo cs m := by
  induction m with
  | zero => rfl
  | succ m ih =>
    rw [wrapTo, wrapTo, ih (by omega)]
    congr 2
    rw [List.drop_append_of_le_length (by omega), List.take_append_of_le_length (by rw [List.length_drop]; omega)]
theorem encRun_wrap (gs : List (List UInt8)) (h : ∀ g ∈ gs, g.length = 4) : ∃ k, k = (gs.flatten.length - 1) / 76 ∧ (encRun gs).1 = wrapTo gs.flatten k ++ gs.flatten.drop (76 * k) ∧ (encRun gs).2 = gs.flatten.length - 76 * k := by
  have key : ∀ (n : Nat) (gs : List (List UInt8)), gs.length = n → (∀ g ∈ gs, g.length = 4) → ∃ k, k = (gs.flatten.length - 1) / 76 ∧ (encRun gs).1 = wrapTo gs.flatten k ++ gs.flatten.drop (76 * k) ∧ (encRun gs).2 = gs.flatten.length - 76 * k := by
    intro n
    induction n with
    | zero =>
      intro gs hn _
      obtain rfl := List.eq_nil_of_length_eq_zero hn
      exact ⟨0, rfl, rfl, rfl⟩
    | succ n ih =>
      intro gs hn hg
      obtain ⟨g0, g, rfl⟩ : ∃ g0 g, gs = g0 ++ [g] := ⟨gs.dropLast, gs.getLast (by rintro rfl; cases hn), (List.dropLast_concat_getLast _).symm⟩
      have hl0 : g0.length = n := by simpa using hn
      have hg0 : ∀ x ∈ g0, x.length = 4 := fun x hx => hg x (List.mem_append_left _ hx)
      have hg4 : g.length = 4 := hg g (List.mem_append_right _ (List.mem_singleton.2 rfl))
      obtain ⟨k, hk, h1, h2⟩ := ih g0 hl0 hg0
      have hfl := flat_len g0 hg0
      have hflat : (g0 ++ [g]).flatten = g0.flatten ++ g := by simp
      rw [hflat, encRun_next, encStep, h1, h2, List.length_append, hg4]
      generalize g0.flatten = cs at *
      by_cases hf : cs.length - 76 * k = 76
      · rw [if_pos hf]
        refine ⟨k + 1, by omega, ?_, by simp only []; omega⟩
        have e0 : cs.length = 76 * (k + 1) := by omega
        have e1 : (cs ++ g).drop (76 * (k + 1)) = g := by rw [← e0]; exact List.drop_left
        have e2 : ((cs ++ g).drop (76 * k)).take 76 = cs.drop (76 * k) := by
          have e3 : (cs.drop (76 * k)).length = 76 := by rw [List.length_drop]; omega
          rw [List.drop_append_of_le_length (by omega)]
          exact List.take_left' e3
        rw [wrapTo, wrapTo_app _ _ _ (by omega), e1, e2]
      · rw [if_neg hf]
        refine ⟨k, by omega, ?_, by simp only []; omega⟩
        simp only []
        rw [wrapTo_app _ _ _ (by omega), List.drop_append_of_le_length (by omega), List.append_assoc]
  exact key _ gs rfl h
theorem encode_lines (l : List UInt8) : encode l = lines64 (chars64 l) := by
  obtain ⟨k, hk, h1, h2⟩ := encRun_wrap (grps l) (grps_all l)
  rw [chars_grps]
  unfold encode lines64
  rw [h1, h2, ← hk]
  generalize (grps l).flatten = cs at *
  by_cases hc : cs.drop (76 * k) = []
  · have : cs.length ≤ 76 * k := List.drop_eq_nil_iff.1 hc
    rw [if_neg (by omega), if_pos hc, hc]
  · have : 76 * k < cs.length := by
      rcases Nat.lt_or_ge (76 * k) cs.length with h | h
      · exact h
      · exact absurd (List.drop_eq_nil_of_le h) hc
    rw [if_pos (by omega), if_neg hc, List.append_assoc]
theorem encode_len (l : List UInt8) : (encode l).length ≤ 4 * ((l.length + 2) / 3) + 2 * (4 * ((l.length + 2) / 3) / 76) + 2 := by
  obtain ⟨k, hk, h1, h2⟩ := encRun_wrap (grps l) (grps_all l)
  have hfl := flat_len (grps l) (grps_all l)
  rw [grps_len] at hfl
  have hw : ∀ (cs : List UInt8) (m : Nat), 76 * m ≤ cs.length → (wrapTo cs m).length = 78 * m := by
    intro cs m
    induction m with
    | zero => intro _; rfl
    | succ m ih => intro h; simp only [wrapTo, List.length_append, List.length_take, List.length_drop, List.length_cons, List.length_nil, ih (by omega)]; omega
  have h3 : (encRun (grps l)).1.length = 78 * k + ((grps l).flatten.length - 76 * k) := by
    rw [h1, List.length_append, hw _ _ (by omega), List.length_drop]
  unfold encode
  split
  · rw [List.length_append, h3]; simp only [List.length_cons, List.length_nil]; omega
  · rw [h3]; omega
theorem chars_len (l : List UInt8) : (chars64 l).length = 4 * ((l.length + 2) / 3) := by
  rw [chars_grps, flat_len _ (grps_all l), grps_len]
def low (n y : Nat) : List Nat := (List.range n).map fun i => y / 2 ^ (n - 1 - i) % 2
theorem low_len (n y : Nat) : (low n y).length = n := by simp [low]
theorem lrun_bits (m : List UInt8) : vbits m = bitsOf (lrun m).1 ++ low (lrun m).2.2 (lrun m).2.1 := by
  have key : ∀ (m : List UInt8) (s : List UInt8 × Nat × Nat) (pre : List Nat), ((s.2.2 ≤ 6 ∧ s.2.2 % 2 = 0) ∧ s.2.1 < 2 ^ s.2.2) → pre = bitsOf s.1 ++ low s.2.2 s.2.1 → pre ++ vbits m = bitsOf (m.foldl lstep s).1 ++ low (m.foldl lstep s).2.2 (m.foldl lstep s).2.1 := by
    intro m
    induction m with
    | nil => intro s pre _ h; simpa [vbits] using h
    | cons c m ih =>
      intro s pre hi h
      have hn := lstep_inv s c hi.1 hi.2
      have : pre ++ vb c = bitsOf (lstep s c).1 ++ low (lstep s c).2.2 (lstep s c).2.1 := by
        unfold vb lstep
        by_cases hv : val64 c < 0
        · rw [if_pos hv, if_pos hv]; simpa using h
        · rw [if_neg hv, if_neg hv]
          obtain ⟨e1, e2⟩ := val64_idx (c := c) (by omega)
          rw [e1, Int.toNat_natCast, h]
          obtain ⟨o, x, b⟩ := s
          simp only [] at hi ⊢
          obtain hb | hb | hb | hb : b = 0 ∨ b = 2 ∨ b = 4 ∨ b = 6 := by omega
          · subst hb
            simp only [Nat.pow_zero] at hi
            have hx : x = 0 := by omega
            subst hx
            simp [low, List.range_succ, bits6]
          all_goals
            subst hb
            simp only [show ¬ (2 + 6 < 8) by omega, show ¬ (4 + 6 < 8) by omega, show ¬ (6 + 6 < 8) by omega, if_false]
            have hx := hi.2
            simp only [Nat.reducePow] at hx
            unfold bitsOf
            rw [List.flatMap_append, List.append_assoc, List.append_assoc]
            congr 1
            simp only [List.flatMap_cons, List.flatMap_nil, List.append_nil, bits8, low, bits6, List.range_succ, List.range_zero, List.nil_append, List.cons_append, List.map_cons, List.map_nil, UInt8.toNat_ofNat', Nat.reduceAdd, Nat.reduceSub, Nat.reducePow]
            simp only [List.cons.injEq, and_true]
            omega
      have h2 := ih (lstep s c) (pre ++ vb c) hn this
      rw [List.foldl_cons, ← h2]
      simp [vbits]
  have := key m ([], 0, 0) [] (by simp) rfl
  simpa [lrun] using this
theorem eight_add (x bits : List Nat) (q : Nat) (hx : x.length = 8) : eight (x ++ bits) (q + 1) = eight bits q := by
  unfold eight
  congr 1
  rw [List.drop_take, List.drop_take, show 8 * (q + 1) = x.length + 8 * q by omega, List.drop_length_add_append]
  congr 1
  omega
theorem octs_cons (u : UInt8) (bits : List Nat) (q : Nat) : octs (bits8 u.toNat ++ bits) (q + 1) = u :: octs bits q := by
  induction q with
  | zero =>
    have : eight (bits8 u.toNat ++ bits) 0 = u.toNat := by
      unfold eight
      rw [show (List.take (8 * 0 + 8) (bits8 u.toNat ++ bits)).drop (8 * 0) = bits8 u.toNat by simp [bits8]]
      exact sumN8 _ u.toNat_lt
    simp [octs, this]
  | succ q ih => rw [octs, ih, eight_add _ _ _ (bits8_len _), octs, List.cons_append]
theorem octs_bits (o : List UInt8) (t : List Nat) : octs (bitsOf o ++ t) o.length = o := by
  induction o with
  | nil => rfl
  | cons u o ih =>
    have : bitsOf (u :: o) ++ t = bits8 u.toNat ++ (bitsOf o ++ t) := by simp [bitsOf]
    rw [this, List.length_cons, octs_cons, ih]
theorem lenient_loose (l : List UInt8) : lenient l = loose64 l := by
  unfold lenient loose64
  have h := lrun_bits (upto61 l)
  have hi := lrun_inv (upto61 l)
  have hl : (vbits (upto61 l)).length / 8 = (lrun (upto61 l)).1.length := by
    rw [h, List.length_append, bitsOf_len, low_len]; omega
  rw [hl, h, octs_bits]
def vis (l : List UInt8) : List Nat := vbits (upto61 l)
theorem upto61_not {a : List UInt8} (b : List UInt8) (h : 61 ∉ a) : upto61 (a ++ b) = a ++ upto61 b := by
  induction a with
  | nil => rfl
  | cons u a ih =>
    have hu : u ≠ 61 := fun e => h (by rw [e]; exact List.mem_cons_self)
    unfold upto61 at *
    rw [List.cons_append, List.takeWhile_cons_of_pos (by simpa using hu), ih (fun hm => h (List.mem_cons_of_mem _ hm)), List.cons_append]
theorem vbits_app (a b : List UInt8) : vbits (a ++ b) = vbits a ++ vbits b := by simp [vbits]
theorem vis_not (a b : List UInt8) (h : 61 ∉ a) : vis (a ++ b) = vbits a ++ vis b := by unfold vis; rw [upto61_not _ h, vbits_app]
theorem A_val (k : Nat) (h : k < 64) : val64 (A k) = (k : Int) ∧ A k ≠ 61 := by
  have key : ∀ k, k < 64 → val64 (A k) = (k : Int) ∧ A k ≠ 61 := by decide
  exact key k h
theorem vb_A (k : Nat) (h : k < 64) : vb (A k) = bits6 k := by
  unfold vb; rw [(A_val k h).1, if_neg (by omega), Int.toNat_natCast]
theorem vis_chars (l : List UInt8) : ∃ z, vis (grps l).flatten = bitsOf l ++ z ∧ z.length < 8 := by
  induction l using byThree with
  | h0 => exact ⟨[], rfl, by simp⟩
  | h1 a =>
    have ha := a.toNat_lt
    refine ⟨[0, 0, 0, 0], ?_, by simp⟩
    rw [grps_one, grp1, List.flatten_cons, List.flatten_nil, List.append_nil]
    have h1 := A_val (a.toNat / 4) (by omega)
    have h2 := A_val (a.toNat % 4 * 16) (by omega)
    rw [show [A (a.toNat / 4), A (a.toNat % 4 * 16), 61, 61] = [A (a.toNat / 4), A (a.toNat % 4 * 16)] ++ [61, 61] from rfl, vis_not _ _ (by simp only [List.mem_cons, List.not_mem_nil, or_false, not_or]; exact ⟨Ne.symm h1.2, Ne.symm h2.2⟩)]
    simp only [vbits, List.flatMap_cons, List.flatMap_nil, List.append_nil, vb_A _ (show a.toNat / 4 < 64 by omega), vb_A _ (show a.toNat % 4 * 16 < 64 by omega), bitsOf, bits6, bits8, List.cons_append, List.nil_append, vis, upto61, List.takeWhile_cons]
    simp
    omega
  | h2 a b =>
    have ha := a.toNat_lt
    have hb := b.toNat_lt
    refine ⟨[0, 0], ?_, by simp⟩
    rw [grps_two, grp2, List.flatten_cons, List.flatten_nil, List.append_nil]
    have h1 := A_val (a.toNat / 4) (by omega)
    have h2 := A_val (a.toNat % 4 * 16 + b.toNat / 16) (by omega)
    have h3 := A_val (b.toNat % 16 * 4) (by omega)
    rw [show [A (a.toNat / 4), A (a.toNat % 4 * 16 + b.toNat / 16), A (b.toNat % 16 * 4), 61] = [A (a.toNat / 4), A (a.toNat % 4 * 16 + b.toNat / 16), A (b.toNat % 16 * 4)] ++ [61] from rfl, vis_not _ _ (by simp only [List.mem_cons, List.not_mem_nil, or_false, not_or]; exact ⟨Ne.symm h1.2, Ne.symm h2.2, Ne.symm h3.2⟩)]
    simp only [vbits, List.flatMap_cons, List.flatMap_nil, List.append_nil, vb_A _ (show a.toNat / 4 < 64 by omega), vb_A _ (show a.toNat % 4 * 16 + b.toNat / 16 < 64 by omega), vb_A _ (show b.toNat % 16 * 4 < 64 by omega), bitsOf, bits6, bits8, List.cons_append, List.nil_append, vis, upto61, List.takeWhile_cons]
    simp
    omega
  | h3 a b c l ih =>
    have ha := a.toNat_lt
    have hb := b.toNat_lt
    have hc := c.toNat_lt
    obtain ⟨z, hz, hl⟩ := ih
    refine ⟨z, ?_, hl⟩
    rw [grps_three, grp3, List.flatten_cons]
    have h1 := A_val (a.toNat / 4) (by omega)
    have h2 := A_val (a.toNat % 4 * 16 + b.toNat / 16) (by omega)
    have h3 := A_val (b.toNat % 16 * 4 + c.toNat / 64) (by omega)
    have h4 := A_val (c.toNat % 64) (by omega)
    rw [vis_not _ _ (by simp only [List.mem_cons, List.not_mem_nil, or_false, not_or]; exact ⟨Ne.symm h1.2, Ne.symm h2.2, Ne.symm h3.2, Ne.symm h4.2⟩), hz]
    have h5 : bitsOf (a :: b :: c :: l) = (bits8 a.toNat ++ bits8 b.toNat ++ bits8 c.toNat) ++ bitsOf l := by simp [bitsOf]
    rw [h5, List.append_assoc _ (bitsOf l)]
    congr 1
    simp only [vbits, List.flatMap_cons, List.flatMap_nil, List.append_nil, vb_A _ (show a.toNat / 4 < 64 by omega), vb_A _ (show a.toNat % 4 * 16 + b.toNat / 16 < 64 by omega), vb_A _ (show b.toNat % 16 * 4 + c.toNat / 64 < 64 by omega), vb_A _ (show c.toNat % 64 < 64 by omega), bits6, bits8, List.cons_append, List.nil_append, List.cons.injEq, and_true]
    omega
theorem lenient_of_vis (m l : List UInt8) (h : vis m = vis (grps l).flatten) : lenient m = l := by
  obtain ⟨z, hz, hl⟩ := vis_chars l
  rw [lenient_loose]
  unfold loose64
  rw [show vbits (upto61 m) = bitsOf l ++ z from h.trans hz, List.length_append, bitsOf_len, show (8 * l.length + z.length) / 8 = l.length by omega, octs_bits]
end Go.Ph.B64
end
section
set_option linter.unusedVariables false
set_option linter.unusedSimpArgs false
namespace Go.Ph.Wd
open Go.Ph.Pl Go.Ph.Pf
open Go.Ph.Gr (chars Ch pieces byts)
open Go.Ph.Chs (vld setN setOf encK encGo decoded utf8 bestK)
theorem foldI {α σ γ : Type} {L : Nat → σ → Int → Option γ} (l : List α) (F : σ → α → σ) (fin : σ → γ) (I : Nat → σ → Prop)
    (hend : ∀ m s, I l.length s → L (m + 1) s (l.length : Int) = some (fin s))
    (hstep : ∀ m s i a, l[i]? = some a → I i s → I (i + 1) (F s a) ∧ L (m + 1) s (i : Int) = L m (F s a) ((i + 1 : Nat) : Int)) :
    ∀ (d i : Nat) (s : σ) (m : Nat), l.length - i = d → i ≤ l.length → d < m → I i s → L m s (i : Int) = some (fin ((l.drop i).foldl F s)) := by
  intro d
  induction d with
  | zero =>
    intro i s m h1 h2 h3 hI
    obtain ⟨m, rfl⟩ : ∃ k, m = k + 1 := ⟨m - 1, by omega⟩
    obtain rfl : i = l.length := by omega
    rw [hend m s hI, List.drop_length]; rfl
  | succ d ih =>
    intro i s m h1 h2 h3 hI
    obtain ⟨m, rfl⟩ : ∃ k, m = k + 1 := ⟨m - 1, by omega⟩
    have hi : i < l.length := by omega
    obtain ⟨hI', hL⟩ := hstep m s i l[i] (List.getElem?_eq_getElem hi) hI
    rw [hL, ih (i + 1) _ m (by omega) (by omega) (by omega) hI', List.drop_eq_getElem_cons hi]; rfl
theorem foldI0 {α σ γ : Type} {L : Nat → σ → Int → Option γ} (l : List α) (F : σ → α → σ) (fin : σ → γ) (I : Nat → σ → Prop) (hl : l.length ≤ 9223372036854775807)
    (hend : ∀ m s, I l.length s → L (m + 1) s (l.length : Int) = some (fin s))
    (hstep : ∀ m s i a, l[i]? = some a → I i s → I (i + 1) (F s a) ∧ L (m + 1) s (i : Int) = L m (F s a) ((i + 1 : Nat) : Int)) (s : σ) (h0 : I 0 s) : L FU s 0 = some (fin (l.foldl F s)) := by
  have := foldI l F fin I hend hstep l.length 0 s FU (by omega) (by omega) (FU_gt hl) h0
  simpa using this
theorem foldl_app {α β : Type} (f : α → List β) : ∀ (l : List α) (o : List β), l.foldl (fun o a => o ++ f a) o = o ++ l.flatMap f
  | [], o => by simp
  | a :: l, o => by rw [List.foldl_cons, foldl_app f l]; simp
def hexd : List UInt8 := [48, 49, 50, 51, 52, 53, 54, 55, 56, 57, 65, 66, 67, 68, 69, 70]
def alnum (c : UInt8) : Bool := decide (97 ≤ c.toNat ∧ c.toNat ≤ 122) || (decide (65 ≤ c.toNat ∧ c.toNat ≤ 90) || decide (48 ≤ c.toNat ∧ c.toNat ≤ 57))
def hx (n : Nat) : UInt8 := hexd.getD n 0
theorem allB {p : UInt8 → Prop} (h : ∀ n, n < 256 → p (UInt8.ofNat n)) (c : UInt8) : p c := by
  have := h c.toNat c.toNat_lt
  rwa [UInt8.ofNat_toNat] at this
theorem letter_eq (c : UInt8) : basic_Letter c = some (alnum c) := by
  refine allB (p := fun c => basic_Letter c = some (alnum c)) ?_ c
  decide +kernel
theorem digit_hi (c : UInt8) : basic_Digit (UInt8.ofNat (c.toNat / 2 ^ 4)) = some (hx (c.toNat / 16)) := by
  refine allB (p := fun c => basic_Digit (UInt8.ofNat (c.toNat / 2 ^ 4)) = some (hx (c.toNat / 16))) ?_ c
  decide +kernel
theorem digit_lo (c : UInt8) : basic_Digit c = some (hx (c.toNat % 16)) := by
  refine allB (p := fun c => basic_Digit c = some (hx (c.toNat % 16))) ?_ c
  decide +kernel
def dq1 (c : UInt8) : List UInt8 := if c = 32 then [95] else if alnum c = true then [c] else [61, hx (c.toNat / 16), hx (c.toNat % 16)]
def dq (b : List UInt8) : List UInt8 := b.flatMap dq1
theorem dq1_len (c : UInt8) : 1 ≤ (dq1 c).length ∧ (dq1 c).length ≤ 3 := by unfold dq1; split; · simp
                                                                            split <;> simp
theorem dq_len (b : List UInt8) : (dq b).length ≤ 3 * b.length := by
  unfold dq
  induction b with
  | nil => simp
  | cons c b ih => have := dq1_len c; simp only [List.flatMap_cons, List.length_append, List.length_cons]; omega
theorem data_eq (b : List UInt8) (hb : b.length ≤ 1000000) : words_data b = some (dq b) := by
  unfold words_data
  rw [foldI0 (L := fun m s i => words_data_L1 b m s i) b (fun o c => o ++ dq1 c) id (fun i s => s.length ≤ 3 * i) (by omega) ?_ ?_ [] (by simp), foldl_app, bsome]
  · rfl
  · intro m s hs
    rw [words_data_L1, if_neg (by omega)]; rfl
  · intro m s i a ha hs
    have hi := (List.getElem?_eq_some_iff.1 ha).1
    have hl := dq1_len a
    refine ⟨by rw [List.length_append]; omega, ?_⟩
    rw [words_data_L1, if_pos (by omega), idx_nat, ha, bsome]
    unfold dq1 strings_Builder_WriteByte strings_Builder_Write
    by_cases h1 : a = 32
    · rw [if_pos h1, if_pos h1, app_ok (by simp; omega), bsome]
      dsimp only
      rw [bsome, chk_succ (by omega), bsome]
    · rw [if_neg h1, if_neg h1, letter_eq, bsome]
      by_cases h2 : alnum a = true
      · rw [if_pos h2, if_pos h2, app_ok (by simp; omega), bsome]
        dsimp only
        rw [bsome, chk_succ (by omega), bsome]
      · rw [if_neg h2, if_neg h2, digit_hi, bsome, digit_lo, bsome, app_ok (by simp; omega), bsome]
        dsimp only
        rw [bsome, chk_succ (by omega), bsome]
inductive Good : List UInt8 → Prop
  | nil : Good []
  | one {c : UInt8} {t : List UInt8} (h1 : c ≠ 13) (h2 : c ≠ 10) (h : Good t) : Good (c :: t)
  | crlf {t : List UInt8} (h : Good t) : Good (13 :: 10 :: t)
theorem Good.app {a b : List UInt8} (h : Good a) (k : Good b) : Good (a ++ b) := by
  induction h with
  | nil => exact k
  | one h1 h2 _ ih => exact .one h1 h2 ih
  | crlf _ ih => exact .crlf ih
def fre (l : List UInt8) : Prop := ∀ c ∈ l, c ≠ 13 ∧ c ≠ 10
theorem Good.of {a : List UInt8} (h : fre a) : Good a := by
  induction a with
  | nil => exact .nil
  | cons c a ih => exact .one (h c (by simp)).1 (h c (by simp)).2 (ih fun x hx => h x (by simp [hx]))
def keep (c : UInt8) : Bool := decide (c ≠ 13 ∧ c ≠ 10)
theorem keep_fre {a : List UInt8} (h : fre a) : a.filter keep = a := by
  rw [List.filter_eq_self]; intro c hc; exact decide_eq_true (h c hc)
theorem Good.index {s : List UInt8} (h : Good s) : (Lib.index s [13, 10] = -1 ∧ fre s) ∨ ∃ i : Nat, Lib.index s [13, 10] = (i : Int) ∧ fre (s.take i) ∧ Good (s.drop (i + 2)) ∧ i + 2 ≤ s.length ∧ s.filter keep = s.take i ++ (s.drop (i + 2)).filter keep := by
  induction h with
  | nil => exact .inl ⟨rfl, fun c hc => by cases hc⟩
  | @one c t h1 h2 h ih =>
    have hp : ([13, 10] : List UInt8).isPrefixOf (c :: t) = false := by simp [List.isPrefixOf, Ne.symm h1]
    have hk : keep c = true := decide_eq_true ⟨h1, h2⟩
    rcases ih with ⟨e1, e2⟩ | ⟨i, e1, e2, e3, e4, e5⟩
    · refine .inl ⟨by rw [Lib.index, hp, e1]; rfl, fun x hx => ?_⟩
      rcases List.mem_cons.1 hx with rfl | hx
      · exact ⟨h1, h2⟩
      · exact e2 x hx
    · refine .inr ⟨i + 1, ?_, fun x hx => ?_, ?_, by rw [List.length_cons]; omega, ?_⟩
      · rw [Lib.index, hp, e1]
        have : ((i : Int) == -1) = false := by simp
        rw [this]; simp
      · rw [List.take_succ_cons] at hx
        rcases List.mem_cons.1 hx with rfl | hx
        · exact ⟨h1, h2⟩
        · exact e2 x hx
      · rw [show i + 1 + 2 = (i + 2) + 1 by omega, List.drop_succ_cons]; exact e3
      · rw [List.filter_cons_of_pos hk, e5, List.take_succ_cons, show i + 1 + 2 = (i + 2) + 1 by omega, List.drop_succ_cons]; rfl
  | @crlf t h ih =>
    refine .inr ⟨0, by rw [Lib.index]; simp [List.isPrefixOf], fun x hx => (by cases hx), h, by simp, ?_⟩
    rw [List.take_zero, List.drop_succ_cons, List.drop_succ_cons, List.drop_zero, List.filter_cons_of_neg (by decide), List.filter_cons_of_neg (by decide)]; rfl
theorem replK : ∀ (n : Nat) (s : List UInt8), s.length ≤ n → Good s → Lib.replaceK [13, 10] [] (Lib.count s [13, 10]) s = s.filter keep
  | n, s, hn, h => by
    rcases h.index with ⟨e1, e2⟩ | ⟨i, e1, e2, e3, e4, e5⟩
    · rw [Lib.count_miss e1, keep_fre e2]; rfl
    · obtain ⟨n, rfl⟩ : ∃ k, n = k + 1 := ⟨n - 1, by omega⟩
      rw [Lib.count_hit (by simp) e1, Nat.add_comm, Lib.replaceK_hit _ _ _ _ _ e1, e5, List.append_nil]
      show _ ++ Lib.replaceK [13, 10] [] (Lib.count (s.drop (i + 2)) [13, 10]) (s.drop (i + 2)) = _
      rw [replK n (s.drop (i + 2)) (by rw [List.length_drop]; omega) e3]
theorem repl_good {s : List UInt8} (h : Good s) : Lib.replaceAll s [13, 10] [] = s.filter keep := by
  unfold Lib.replaceAll Lib.replace Lib.replaceNum
  rw [if_neg (by decide), if_pos (.inl (by decide))]
  exact replK _ _ (Nat.le_refl _) h
theorem alpha_fre : ∀ c ∈ (61 :: B64.alpha), c ≠ 13 ∧ c ≠ 10 := by decide
theorem alpha_at (k : Nat) : B64.alpha.getD k 0 ∈ (61 :: B64.alpha) ∨ B64.alpha.getD k 0 = 0 := by
  by_cases h : k < B64.alpha.length
  · rw [B64.getD_in _ _ _ h]; exact .inl (List.mem_cons_of_mem _ (List.getElem_mem h))
  · rw [B64.getD_out _ _ _ (by omega)]; exact .inr rfl
theorem outp_fre (l : List UInt8) : fre (B64.outp l 4) := fun c hc => by
  rw [B64.outp_eq] at hc
  have hch : ∀ i, B64.ch l i ≠ 13 ∧ B64.ch l i ≠ 10 := fun i => by
    unfold B64.ch
    split
    · decide
    · rcases alpha_at (B64.accN l 3 / 2 ^ (18 - 6 * i) % 64) with h | h
      · exact alpha_fre _ h
      · rw [h]; decide
  simp only [List.mem_cons, List.not_mem_nil, or_false] at hc
  rcases hc with rfl | rfl | rfl | rfl <;> exact hch _
theorem chars64_fre (l : List UInt8) : fre (B64.chars64 l) := fun c hc => by
  rw [B64.chars_grps] at hc
  obtain ⟨g, hg, hc⟩ := List.mem_flatten.1 hc
  unfold B64.grps B64.grpsTo at hg
  obtain ⟨k, _, rfl⟩ := List.mem_map.1 hg
  exact outp_fre _ c hc
theorem fre_sub {a b : List UInt8} (h : fre b) (hs : ∀ c ∈ a, c ∈ b) : fre a := fun c hc => h c (hs c hc)
theorem wrapTo_good {cs : List UInt8} (h : fre cs) : ∀ m, Good (B64.wrapTo cs m) ∧ (B64.wrapTo cs m).filter keep = cs.take (76 * m)
  | 0 => ⟨.nil, rfl⟩
  | m + 1 => by
    obtain ⟨h1, h2⟩ := wrapTo_good h m
    have hf : fre ((cs.drop (76 * m)).take 76) := fre_sub h fun c hc => List.mem_of_mem_drop (List.mem_of_mem_take hc)
    rw [B64.wrapTo]
    refine ⟨(h1.app (.of hf)).app (.crlf .nil), ?_⟩
    rw [List.filter_append, List.filter_append, h2, keep_fre hf, show ([13, 10] : List UInt8).filter keep = [] by decide, List.append_nil]
    rw [show 76 * (m + 1) = 76 * m + 76 by omega, List.take_add]
theorem lines_good {cs : List UInt8} (h : fre cs) : Good (B64.lines64 cs) ∧ (B64.lines64 cs).filter keep = cs := by
  obtain ⟨h1, h2⟩ := wrapTo_good h ((cs.length - 1) / 76)
  have hf : fre (cs.drop (76 * ((cs.length - 1) / 76))) := fre_sub h fun c hc => List.mem_of_mem_drop hc
  unfold B64.lines64
  split
  · rename_i hd
    refine ⟨h1.app .nil, ?_⟩
    rw [List.append_nil, h2]
    have := List.take_append_drop (76 * ((cs.length - 1) / 76)) cs
    rw [hd, List.append_nil] at this; exact this
  · refine ⟨h1.app ((Good.of hf).app (.crlf .nil)), ?_⟩
    rw [List.filter_append, List.filter_append, h2, keep_fre hf, show ([13, 10] : List UInt8).filter keep = [] by decide, List.append_nil, List.take_append_drop]
theorem flat_eq (b : List UInt8) (hb : b.length ≤ 12000) : words_flat b = some (B64.chars64 b) := by
  unfold words_flat base64_Encode strings_ReplaceAll
  have hl := B64.encode_len b
  rw [if_pos hb, bsome]
  dsimp only
  rw [if_pos ⟨by omega, by decide, by simp; omega⟩, bsome, B64.encode_lines]
  obtain ⟨h1, h2⟩ := lines_good (chars64_fre b)
  rw [repl_good h1, h2]
abbrev nam (k : Nat) : List UInt8 := setN.getD k []
theorem setOf_nam : ∀ k, k < 4 → setOf (nam k) = some k := by decide
theorem nam_len : ∀ k, k < 4 → (nam k).length ≤ 7 := by decide
theorem nam_utf8 : ∀ k, k < 4 → (nam k = [117, 116, 102, 56] ↔ k = 2) := by decide
def enc (k : Nat) (l : List UInt8) : List UInt8 := (chars l).flatMap fun c => (encK k c.1).getD []
structure okE (k : Nat) (l : List UInt8) : Prop where
  v : vld l = true
  e : ∀ c ∈ chars l, ∃ b, encK k c.1 = some b
theorem enc_go {k : Nat} {l : List UInt8} (h : okE k l) : encGo (encK k) (chars l) 0 = .ok (enc k l) := by
  obtain ⟨b, hb⟩ := Chs.encGo_all (chars l) 0 h.e
  rw [hb]
  obtain ⟨bs, h1, h2⟩ := Chs.encGo_ok _ _ _ hb
  have : enc k l = (bs.map some).flatMap (fun o => o.getD []) := by
    rw [← h1]; unfold enc; rw [List.flatMap_map]
  rw [this, h2, List.flatMap_map]
  simp
theorem chars_len (l : List UInt8) : (chars l).length ≤ l.length := by
  have h := Gr.flat_le ((chars l).map (·.2)) (fun p hp => by
    obtain ⟨c, hc, rfl⟩ := List.mem_map.1 hp
    exact Gr.chars_ne l c hc)
  rw [Gr.chars_flat, List.length_map] at h
  exact h
theorem flatMap_len {α β : Type} (f : α → List β) (n : Nat) : ∀ (l : List α), (∀ a ∈ l, (f a).length ≤ n) → (l.flatMap f).length ≤ n * l.length
  | [], _ => by simp
  | a :: l, h => by
    have h1 := h a (by simp)
    have h2 := flatMap_len f n l (fun x hx => h x (by simp [hx]))
    simp only [List.flatMap_cons, List.length_append, List.length_cons, Nat.mul_succ]
    omega
theorem enc_len (k : Nat) (l : List UInt8) : (enc k l).length ≤ 4 * l.length := by
  have h := flatMap_len (fun c : Ch => (encK k c.1).getD []) 4 (chars l) (fun c _ => by
    cases he : encK k c.1 with
    | none => simp
    | some b => exact Chs.encK_len he)
  have h2 := chars_len l
  unfold enc
  omega
def wrap (k : Nat) (b : List UInt8) : List UInt8 := [61, 63] ++ nam k ++ (if k = 2 then [63, 66, 63] ++ B64.chars64 b else [63, 81, 63] ++ dq b) ++ [63, 61]
def W (k : Nat) (l : List UInt8) : List UInt8 := wrap k (enc k l)
theorem charset_enc {k : Nat} {l : List UInt8} (hk : k < 4) (hl : l.length ≤ 12000) (h : okE k l) : charset_Encode (nam k) l = some (enc k l, (0, 0)) := by
  unfold charset_Encode
  have hn := nam_len k hk
  rw [if_pos ⟨by omega, hl⟩, setOf_nam k hk]
  dsimp only
  rw [if_pos h.v, enc_go h]
theorem word_eq {k : Nat} {l : List UInt8} (hk : k < 3) (hl : l.length ≤ 3000) (h : okE k l) : words_word (nam k) l = some (W k l) := by
  have hn := nam_len k (by omega)
  have he := enc_len k l
  have hd := dq_len (enc k l)
  have hc := B64.chars_len (enc k l)
  have hu := nam_utf8 k (by omega)
  unfold words_word W wrap
  rw [charset_enc (by omega) (by omega) h, bsome]
  dsimp only
  by_cases h2 : k = 2
  · rw [if_pos (hu.2 h2), if_pos h2, cat_ok (by simp only [List.length_cons, List.length_nil]; omega), bsome, cat_ok (by simp only [List.length_append, List.length_cons, List.length_nil]; omega), bsome, flat_eq _ (by omega), bsome,
      cat_ok (by simp only [List.length_append, List.length_cons, List.length_nil]; omega), bsome, cat_ok (by simp only [List.length_append, List.length_cons, List.length_nil]; omega), bsome]
    simp only [List.append_assoc]
  · rw [if_neg (fun e => h2 (hu.1 e)), if_neg h2, cat_ok (by simp only [List.length_cons, List.length_nil]; omega), bsome, cat_ok (by simp only [List.length_append, List.length_cons, List.length_nil]; omega), bsome, data_eq _ (by omega), bsome,
      cat_ok (by simp only [List.length_append, List.length_cons, List.length_nil]; omega), bsome, cat_ok (by simp only [List.length_append, List.length_cons, List.length_nil]; omega), bsome]
    simp only [List.append_assoc]
end Go.Ph.Wd
end
section
set_option linter.unusedVariables false
set_option linter.unusedSimpArgs false
namespace Go.Ph.Wd
open Go.Ph.Pl Go.Ph.Pf
open Go.Ph.Gr (chars Ch pieces byts segs)
open Go.Ph.Chs (vld setN setOf encK encGo decoded utf8 bestK)
open Go.Ph.Utf (rune dr)
theorem chars_mid {l : List UInt8} {A g B : List Ch} (h : chars l = A ++ g ++ B) : chars (byts g) = g := by
  obtain ⟨h1, _⟩ := Gr.chars_split (A ++ g) B l h
  exact (Gr.chars_split A g _ h1).2
theorem okE.mid {k : Nat} {l : List UInt8} (h : okE k l) {A g B : List Ch} (hs : chars l = A ++ g ++ B) : okE k (byts g) := by
  have hc := chars_mid hs
  have hm : ∀ c ∈ g, c ∈ chars l := fun c hc => by rw [hs]; simp [hc]
  refine ⟨?_, fun c hcg => h.e c (hm c (by rwa [hc] at hcg))⟩
  have hv := h.v
  unfold vld at hv ⊢
  rw [hc]
  rw [List.all_eq_true] at hv ⊢
  exact fun c hcg => hv c (hm c hcg)
theorem byts_app (a b : List Ch) : byts (a ++ b) = byts a ++ byts b := by simp [byts]
theorem byts_len {l : List UInt8} {A g B : List Ch} (h : chars l = A ++ g ++ B) : (byts g).length ≤ l.length := by
  have := Gr.chars_flat l
  rw [h] at this
  simp only [List.map_append, List.flatten_append] at this
  rw [← this]
  simp only [List.length_append, byts]
  omega
def usC (k : Nat) (g : List Ch) : List (List Ch) := if (W k (byts g)).length ≤ 75 then [g] else g.map fun c => [c]
def unitsC (k : Nat) (l : List UInt8) : List (List Ch) := (segs (chars l)).flatMap (usC k)
theorem singles_flat (g : List Ch) : (g.map fun c => [c]).flatten = g := by
  induction g with
  | nil => rfl
  | cons c g ih => rw [List.map_cons, List.flatten_cons, ih]; rfl
theorem usC_flat (k : Nat) (g : List Ch) : (usC k g).flatten = g := by
  unfold usC
  split
  · simp
  · exact singles_flat g
theorem unitsC_flat (k : Nat) (l : List UInt8) : (unitsC k l).flatten = chars l := by
  unfold unitsC
  conv => rhs; rw [← Gr.segs_flat (chars l)]
  induction segs (chars l) with
  | nil => rfl
  | cons g gs ih => rw [List.flatMap_cons, List.flatten_append, ih, usC_flat]; rfl
theorem unitsC_ne (k : Nat) (l : List UInt8) : ∀ u ∈ unitsC k l, u ≠ [] := fun u hu => by
  obtain ⟨g, hg, hu⟩ := List.mem_flatMap.1 hu
  unfold usC at hu
  split at hu
  · simp only [List.mem_cons, List.not_mem_nil, or_false] at hu
    subst hu; exact Gr.segs_ne _ _ hg
  · obtain ⟨c, _, rfl⟩ := List.mem_map.1 hu; simp
def runX {σ α : Type} (Y : σ → α → Option (σ × Bool)) : List α → σ → Option (σ ⊕ σ)
  | [], s => some (.inl s)
  | x :: xs, s => (Y s x).bind fun r => if r.2 = true then runX Y xs r.1 else some (.inr r.1)
theorem runX_app {σ α : Type} (Y : σ → α → Option (σ × Bool)) (ys : List α) : ∀ (xs : List α) (s : σ), runX Y (xs ++ ys) s = (runX Y xs s).bind fun o => match o with | .inl s' => runX Y ys s' | .inr r => some (.inr r)
  | [], s => by rw [List.nil_append, runX, bsome]
  | x :: xs, s => by
    rw [List.cons_append, runX, runX]
    cases h : Y s x with
    | none => rfl
    | some r =>
      rw [bsome, bsome]
      by_cases hr : r.2 = true
      · rw [if_pos hr, if_pos hr, runX_app Y ys xs]
      · rw [if_neg hr, if_neg hr, bsome]
theorem runX_runL {σ α : Type} (Y : σ → α → Option (σ × Bool)) : ∀ (xs : List α) (s : σ), ((runX Y xs s).bind fun o => match o with | .inl s5 => some s5 | .inr r35 => some r35) = runL Y xs s
  | [], s => by rw [runX, bsome]; rfl
  | x :: xs, s => by
    rw [runX, runL]
    cases h : Y s x with
    | none => rfl
    | some r =>
      rw [bsome, bsome]
      by_cases hr : r.2 = true
      · rw [if_pos hr, if_pos hr, runX_runL Y xs]
      · rw [if_neg hr, if_neg hr, bsome]
theorem units_L2 {σ : Type} (Y : σ → List UInt8 → Option (σ × Bool)) (a : List UInt8) (ha : a.length ≤ 1000000) : ∀ (d p m : Nat) (s : σ), a.length - p ≤ d → d < m → p ≤ a.length → vld (a.drop p) = true →
    words_units_1_L2 Y a m p s = runX Y ((chars (a.drop p)).map (·.2)) s := by
  intro d
  induction d with
  | zero =>
    intro p m s h1 h2 h3 hv
    obtain ⟨m, rfl⟩ : ∃ k, m = k + 1 := ⟨m - 1, by omega⟩
    rw [words_units_1_L2, if_neg (by omega), List.drop_eq_nil_of_le (by omega)]; rfl
  | succ d ih =>
    intro p m s h1 h2 h3 hv
    obtain ⟨m, rfl⟩ : ∃ k, m = k + 1 := ⟨m - 1, by omega⟩
    rw [words_units_1_L2]
    by_cases hp : p < a.length
    · have hne := Gr.drop_ne (t := a) (n := p) hp
      rw [Chs.vld_cons hne] at hv
      simp only [Bool.and_eq_true, decide_eq_true_eq] at hv
      have hrs := Utf.rune_size (a.drop p)
      have h5 := hrs.2.2 hne
      rw [List.length_drop] at h5
      have hd : dr (a.drop p) = ((rune (a.drop p)).1.toNat, (rune (a.drop p)).2) := by rw [Utf.rune_dr, if_neg (by omega)]
      have hy : utf8 ((dr (a.drop p)).1 : Int) = (a.drop p).take (rune (a.drop p)).2 := by
        rw [hd, ← Chs.utf8_rune _ hne hv.1]
        show utf8 (((rune (a.drop p)).1.toNat : Nat) : Int) = _
        rw [Int.toNat_of_nonneg hv.1]
      rw [if_pos hp, Gr.chars_cons hne, List.map_cons, runX, hy]
      cases hY : Y s ((a.drop p).take (rune (a.drop p)).2) with
      | none => rfl
      | some r =>
        obtain ⟨s2, b⟩ := r
        rw [bsome, bsome]
        dsimp only
        by_cases hb : b = true
        · rw [if_pos hb, if_pos hb, hd]
          have := ih (p + (rune (a.drop p)).2) m s2 (by omega) (by omega) (by omega) (by rw [← List.drop_drop]; exact hv.2)
          rw [← List.drop_drop] at this
          exact this
        · rw [if_neg hb, if_neg hb]
    · rw [if_neg hp, List.drop_eq_nil_of_le (by omega)]; rfl
theorem seg_mid {cs g : List Ch} {gs : List (List Ch)} (h : gs.flatten = cs) (hg : g ∈ gs) : ∃ A B, cs = A ++ g ++ B := by
  obtain ⟨a, b, rfl⟩ := List.append_of_mem hg
  exact ⟨a.flatten, b.flatten, by rw [← h]; simp⟩
theorem singles_byts (g : List Ch) : (g.map fun c => [c]).map byts = g.map (·.2) := by
  rw [List.map_map]; apply List.map_congr_left; intro c _; simp [byts]
theorem units_L1 {σ : Type} (Y : σ → List UInt8 → Option (σ × Bool)) {k : Nat} (hk : k < 3) (l : List UInt8) (hl : l.length ≤ 3000) (hok : okE k l) : ∀ (d i m : Nat) (s : σ), (segs (chars l)).length - i ≤ d → d < m → i ≤ (segs (chars l)).length →
    words_units_1_L1 Y (nam k) (pieces l) m (i : Int) s = runX Y ((((segs (chars l)).drop i).flatMap (usC k)).map byts) s := by
  have hpl := Gr.pieces_len l
  have hsl : (pieces l).length = (segs (chars l)).length := by unfold pieces; rw [List.length_map]
  intro d
  induction d with
  | zero =>
    intro i m s h1 h2 h3
    obtain ⟨m, rfl⟩ : ∃ k, m = k + 1 := ⟨m - 1, by omega⟩
    rw [words_units_1_L1, if_neg (by omega), List.drop_eq_nil_of_le (by omega)]; rfl
  | succ d ih =>
    intro i m s h1 h2 h3
    obtain ⟨m, rfl⟩ : ∃ k, m = k + 1 := ⟨m - 1, by omega⟩
    rw [words_units_1_L1]
    by_cases hi : i < (segs (chars l)).length
    · have hp : (pieces l)[i]? = some (byts (segs (chars l))[i]) := by unfold pieces; rw [List.getElem?_map, List.getElem?_eq_getElem hi]; rfl
      obtain ⟨A, B, hAB⟩ := seg_mid (Gr.segs_flat (chars l)) (List.getElem_mem hi)
      have hg := hok.mid hAB
      have hgl := byts_len hAB
      have hgc := chars_mid hAB
      rw [if_pos (by omega), idx_nat, hp, bsome, word_eq hk (by omega) hg, bsome, List.drop_eq_getElem_cons hi, List.flatMap_cons, List.map_append, runX_app]
      unfold usC
      by_cases hw : (W k (byts (segs (chars l))[i])).length ≤ 75
      · rw [if_pos (by omega), if_pos hw, List.map_cons, List.map_nil, runX]
        cases hY : Y s (byts (segs (chars l))[i]) with
        | none => rfl
        | some r =>
          obtain ⟨s2, b⟩ := r
          rw [bsome, bsome]
          dsimp only
          by_cases hb : b = true
          · rw [if_pos hb, if_pos hb, runX, bsome, chk_succ (by omega), bsome]
            exact ih (i + 1) m s2 (by omega) (by omega) (by omega)
          · rw [if_neg hb, if_neg hb, bsome]
      · have h2 := units_L2 Y (byts (segs (chars l))[i]) (by omega) (byts (segs (chars l))[i]).length 0 FU s (by omega) (by rw [FU_eq]; omega) (by omega) (by rw [List.drop_zero]; exact hg.v)
        rw [List.drop_zero, hgc] at h2
        rw [if_neg (by omega), if_neg hw, singles_byts, h2]
        refine congrArg (Option.bind _) (funext fun o => ?_)
        cases o with
        | inl s2 =>
          dsimp only
          rw [chk_succ (by omega), bsome]
          exact ih (i + 1) m s2 (by omega) (by omega) (by omega)
        | inr r => rfl
    · rw [if_neg (by omega), List.drop_eq_nil_of_le (by omega)]; rfl
theorem units_eq {σ : Type} (Y : σ → List UInt8 → Option (σ × Bool)) (s : σ) {k : Nat} (hk : k < 3) {l : List UInt8} (hl : l.length ≤ 3000) (hok : okE k l) : words_units_1 l (nam k) σ Y s = runL Y ((unitsC k l).map byts) s := by
  unfold words_units_1 grapheme_Split
  have hpl := Gr.pieces_len l
  have hsl : (pieces l).length = (segs (chars l)).length := by unfold pieces; rw [List.length_map]
  rw [if_pos (by omega), bsome]
  have := units_L1 Y hk l hl hok _ 0 FU s (Nat.le_refl _) (by rw [FU_eq]; omega) (by omega)
  rw [List.drop_zero] at this
  show ((words_units_1_L1 Y (nam k) (pieces l) FU ((0 : Nat) : Int) s).bind fun o36 => _) = _
  rw [this]
  exact runX_runL Y _ s
end Go.Ph.Wd
end
section
set_option linter.unusedVariables false
set_option linter.unusedSimpArgs false
namespace Go.Ph.Wd
open Go.Ph.Pl Go.Ph.Pf
open Go.Ph.Gr (chars Ch pieces byts segs)
open Go.Ph.Chs (vld setN setOf encK encGo decoded utf8 bestK)
open Go.Ph.Utf (rune dr)
def p2 (k : Nat) (now : List Ch) : List (List Ch) → List (List Ch)
  | [] => [now]
  | u :: us => if (W k (byts (now ++ u))).length ≤ 75 then p2 k (now ++ u) us else now :: p2 k u us
def parts (k : Nat) : List (List Ch) → List (List Ch)
  | [] => []
  | u :: us => p2 k u us
theorem p2_flat (k : Nat) : ∀ (us : List (List Ch)) (now : List Ch), (p2 k now us).flatten = now ++ us.flatten
  | [], now => by simp [p2]
  | u :: us, now => by
    rw [p2]
    split
    · rw [p2_flat k us]; simp
    · rw [List.flatten_cons, p2_flat k us]; simp
theorem p2_len (k : Nat) : ∀ (us : List (List Ch)) (now : List Ch), (p2 k now us).length ≤ us.length + 1
  | [], now => by simp [p2]
  | u :: us, now => by
    rw [p2]
    split
    · have := p2_len k us (now ++ u); simp; omega
    · have := p2_len k us u; simp; omega
def gr (k : Nat) (s : List (List Ch) × List Ch) (u : List Ch) : List (List Ch) × List Ch := if s.2 ≠ [] ∧ 75 < (W k (byts (s.2 ++ u))).length then (s.1 ++ [s.2], u) else (s.1, s.2 ++ u)
theorem gr_p2 (k : Nat) : ∀ (us : List (List Ch)) (out : List (List Ch)) (now : List Ch), now ≠ [] → (∀ u ∈ us, u ≠ []) → (us.foldl (gr k) (out, now)).1 ++ [(us.foldl (gr k) (out, now)).2] = out ++ p2 k now us
  | [], out, now, h0, h => by simp [p2]
  | u :: us, out, now, h0, h => by
    rw [List.foldl_cons, p2]
    by_cases hw : (W k (byts (now ++ u))).length ≤ 75
    · rw [if_pos hw, show gr k (out, now) u = (out, now ++ u) by unfold gr; dsimp only; rw [if_neg (fun e => by have := e.2; omega)]]
      exact gr_p2 k us out (now ++ u) (by simp [h0]) (fun x hx => h x (by simp [hx]))
    · rw [if_neg hw, show gr k (out, now) u = (out ++ [now], u) by unfold gr; dsimp only; rw [if_pos ⟨h0, by omega⟩]]
      rw [gr_p2 k us (out ++ [now]) u (h u (by simp)) (fun x hx => h x (by simp [hx]))]; simp
theorem gr_parts (k : Nat) (us : List (List Ch)) (hne : us ≠ []) (h : ∀ u ∈ us, u ≠ []) : (us.foldl (gr k) ([], [])).1 ++ [(us.foldl (gr k) ([], [])).2] = parts k us := by
  cases us with
  | nil => exact absurd rfl hne
  | cons u us =>
    rw [List.foldl_cons, show gr k ([], []) u = ([], u) by unfold gr; simp, gr_p2 k us [] u (h u (by simp)) (fun x hx => h x (by simp [hx]))]; rfl
theorem byts_nil {g : List Ch} {l : List UInt8} (hs : ∀ c ∈ g, c ∈ chars l) : byts g = [] ↔ g = [] := by
  constructor
  · intro h
    cases g with
    | nil => rfl
    | cons c g =>
      have := Gr.chars_ne l c (hs c (by simp))
      simp [byts] at h
      exact absurd h.1 this
  · rintro rfl; rfl
theorem wrap_len (k : Nat) (hk : k < 4) (b : List UInt8) : (wrap k b).length ≤ 20 + 4 * (b.length + 2) := by
  have hn := nam_len k hk
  have hd := dq_len b
  have hc := B64.chars_len b
  unfold wrap
  simp only [List.length_append, List.length_cons, List.length_nil]
  split
  · simp only [List.length_append, List.length_cons, List.length_nil]; omega
  · simp only [List.length_append, List.length_cons, List.length_nil]; omega
theorem W_len (k : Nat) (hk : k < 4) (l : List UInt8) : (W k l).length ≤ 28 + 16 * l.length := by
  have := wrap_len k hk (enc k l)
  have := enc_len k l
  unfold W; omega
theorem mid_mem {l : List UInt8} {A g B : List Ch} (h : chars l = A ++ g ++ B) : ∀ c ∈ g, c ∈ chars l := fun c hc => by rw [h]; simp [hc]
theorem encY {k : Nat} (hk : k < 3) {l : List UInt8} (hl : l.length ≤ 1000) (hok : okE k l) (out : List (List Ch)) (now u : List Ch) {A B : List Ch} (hs : chars l = A ++ (now ++ u) ++ B) (hout : out.length ≤ 2000) :
    words_Encode_Y28 (nam k) (out.map fun g => W k (byts g), byts now) (byts u) = some ((gr k (out, now) u).1.map (fun g => W k (byts g)), byts (gr k (out, now) u).2) := by
  have h1 := hok.mid hs
  have hl1 := byts_len hs
  have h2 := hok.mid (A := A) (g := now) (B := u ++ B) (by rw [hs]; simp)
  have hl2 := byts_len (l := l) (A := A) (g := now) (B := u ++ B) (by rw [hs]; simp)
  have hm := mid_mem (l := l) (A := A) (g := now) (B := u ++ B) (by rw [hs]; simp)
  have hn := byts_nil hm
  have hb := byts_app now u
  have hbl : (byts (now ++ u)).length = (byts now).length + (byts u).length := by rw [hb, List.length_append]
  unfold words_Encode_Y28 gr
  dsimp only
  by_cases h0 : now = []
  · subst h0
    have hb0 : byts ([] : List Ch) = [] := rfl
    rw [if_pos hb0, bsome, if_neg Bool.false_ne_true, if_neg (fun e => e.1 rfl), hb0, cat_ok (by simp only [List.length_nil]; omega), bsome]
    rfl
  · rw [if_neg (fun e => h0 (hn.1 e)), cat_ok (by omega), bsome, ← hb, word_eq hk (by omega) h1, bsome, bsome]
    by_cases hw : 75 < (W k (byts (now ++ u))).length
    · rw [if_pos (decide_eq_true (by omega)), word_eq hk (by omega) h2, bsome, app_ok (by rw [List.length_map]; simp only [List.length_cons, List.length_nil]; omega), bsome, cat_ok (by simp only [List.length_nil]; omega), bsome, if_pos ⟨h0, hw⟩]
      simp
    · rw [if_neg (by rw [decide_eq_true_eq]; omega), if_neg (fun e => hw e.2), bsome]
theorem gr_len (k : Nat) (s : List (List Ch) × List Ch) (u : List Ch) : (gr k s u).1.length ≤ s.1.length + 1 := by unfold gr; split <;> simp
theorem gr_flat (k : Nat) (s : List (List Ch) × List Ch) (u : List Ch) : (gr k s u).1.flatten ++ (gr k s u).2 = s.1.flatten ++ s.2 ++ u := by unfold gr; split <;> simp
theorem encFold {k : Nat} (hk : k < 3) {l : List UInt8} (hl : l.length ≤ 1000) (hok : okE k l) : ∀ (us : List (List Ch)) (s : List (List Ch) × List Ch) (n : Nat), chars l = (s.1.flatten ++ s.2) ++ us.flatten → s.1.length + us.length ≤ 2000 →
    (us.map byts).foldlM (words_Encode_Y28 (nam k)) (s.1.map fun g => W k (byts g), byts s.2) = some ((us.foldl (gr k) s).1.map (fun g => W k (byts g)), byts (us.foldl (gr k) s).2)
  | [], s, n, hs, hlen => rfl
  | u :: us, s, n, hs, hlen => by
    rw [List.map_cons, List.foldlM_cons, List.foldl_cons]
    show Option.bind _ _ = _
    rw [encY hk hl hok s.1 s.2 u (A := s.1.flatten) (B := us.flatten) (by rw [hs]; simp) (by omega), bsome]
    exact encFold hk hl hok us (gr k s u) n (by rw [hs, gr_flat]; simp) (by have := gr_len k s u; simp only [List.length_cons] at hlen; omega)
theorem unitsC_len (k : Nat) (l : List UInt8) : (unitsC k l).length ≤ l.length := by
  have h : ∀ us : List (List Ch), (∀ u ∈ us, u ≠ []) → us.length ≤ us.flatten.length := by
    intro us
    induction us with
    | nil => simp
    | cons u us ih =>
      intro h
      have h1 := ih (fun x hx => h x (by simp [hx]))
      have h2 := List.length_pos_iff.2 (h u (by simp))
      simp only [List.flatten_cons, List.length_append, List.length_cons]; omega
  have h1 := h (unitsC k l) (unitsC_ne k l)
  rw [unitsC_flat] at h1
  have := chars_len l
  omega
def rep (k : Nat) (l : List UInt8) : List UInt8 := jn [32] ((parts k (unitsC k l)).map fun g => W k (byts g))
theorem jn_len (sep : List UInt8) (n : Nat) : ∀ (ws : List (List UInt8)), (∀ w ∈ ws, w.length ≤ n) → (jn sep ws).length ≤ ws.length * (n + sep.length)
  | [], _ => by simp [jn]
  | [x], h => by have := h x (by simp); simp [jn]; omega
  | x :: y :: r, h => by
    have h1 := h x (by simp)
    have h2 := jn_len sep n (y :: r) (fun w hw => h w (by simp [hw]))
    simp only [jn, List.length_append, List.length_cons] at h2 ⊢
    rw [Nat.succ_mul]; omega
theorem parts_flat (k : Nat) (us : List (List Ch)) : (parts k us).flatten = us.flatten := by
  cases us with
  | nil => rfl
  | cons u us => rw [parts, p2_flat]; rfl
theorem parts_len (k : Nat) (us : List (List Ch)) : (parts k us).length ≤ us.length := by
  cases us with
  | nil => simp [parts]
  | cons u us => rw [parts]; have := p2_len k us u; simp; omega
theorem part_mid (k : Nat) (l : List UInt8) {g : List Ch} (hg : g ∈ parts k (unitsC k l)) : ∃ A B, chars l = A ++ g ++ B := seg_mid (by rw [parts_flat, unitsC_flat]) hg
theorem parts_bound {k : Nat} (hk : k < 4) {l : List UInt8} : ∀ w ∈ (parts k (unitsC k l)).map (fun g => W k (byts g)), w.length ≤ 28 + 16 * l.length := fun w hw => by
  obtain ⟨g, hg, rfl⟩ := List.mem_map.1 hw
  obtain ⟨A, B, h⟩ := part_mid k l hg
  have := byts_len h
  have := W_len k hk (byts g)
  omega
theorem rep_len {k : Nat} (hk : k < 4) {l : List UInt8} (hl : l.length ≤ 1000) : (rep k l).length ≤ 20000000 := by
  have h1 := jn_len [32] _ _ (parts_bound hk (l := l))
  have h2 := parts_len k (unitsC k l)
  have h3 := unitsC_len k l
  rw [List.length_map] at h1
  have h4 : (parts k (unitsC k l)).length * (28 + 16 * l.length + 1) ≤ 1000 * (28 + 16 * 1000 + 1) := Nat.mul_le_mul (by omega) (by omega)
  unfold rep
  simp only [List.length_cons, List.length_nil, Nat.zero_add] at h1
  omega
theorem encTail {k : Nat} (hk : k < 3) {l : List UInt8} (hl : l.length ≤ 1000) (h0 : l ≠ []) (hok : okE k l) :
    ((words_units (nam k) l).bind fun (z19, z21) => (words_units_1 z19 z21 (List (List UInt8) × List UInt8) (stepY goOn (words_Encode_Y28 (nam k))) ([], [])).bind fun (l25, s27) => (words_word (nam k) s27).bind fun s49 => (app 16 l25 ([s49] : List (List UInt8))).bind fun l51 => (strings_Join l51 [32]).bind fun s53 => (basic_None).bind fun (n55, n56) => some (s53, (n55, n56)))
      = some (rep k l, (0, 0)) := by
  unfold words_units
  rw [bsome]
  dsimp only
  have hne : unitsC k l ≠ [] := fun e => by
    have := unitsC_flat k l
    rw [e] at this
    rw [Gr.chars_cons h0] at this; cases this
  have hul := unitsC_len k l
  rw [units_eq _ _ hk (by omega) hok, runL_goOn]
  have hf := encFold hk hl hok (unitsC k l) ([], []) 0 (by rw [unitsC_flat]; rfl) (by simp; omega)
  have hp := gr_parts k (unitsC k l) hne (unitsC_ne k l)
  have hb : byts ([] : List Ch) = [] := rfl
  rw [hb] at hf
  simp only [List.map_nil] at hf
  rw [hf, bsome]
  dsimp only
  obtain ⟨A, B, hAB⟩ := part_mid k l (g := ((unitsC k l).foldl (gr k) ([], [])).2) (by rw [← hp]; simp)
  have hbl := byts_len hAB
  have hpl := parts_len k (unitsC k l)
  have hpl2 := congrArg List.length hp
  simp only [List.length_append, List.length_cons, List.length_nil] at hpl2
  have hrl := rep_len (k := k) (by omega) hl
  rw [word_eq hk (by omega) (hok.mid hAB), bsome, app_ok (by rw [List.length_map]; simp only [List.length_cons, List.length_nil]; omega), bsome]
  have hj : (((unitsC k l).foldl (gr k) ([], [])).1.map (fun g => W k (byts g))) ++ [W k (byts ((unitsC k l).foldl (gr k) ([], [])).2)] = (parts k (unitsC k l)).map fun g => W k (byts g) := by
    rw [← hp]; simp
  rw [hj]
  unfold strings_Join basic_None
  unfold rep at hrl
  rw [if_pos ⟨by rw [List.length_map]; omega, by omega⟩, bsome, bsome]
  rfl
theorem utf8_char : ∀ (n : Nat) (l : List UInt8), l.length ≤ n → vld l = true → ∀ c ∈ chars l, utf8 c.1 = c.2
  | 0, l, hn, hv => by
    obtain rfl : l = [] := List.eq_nil_of_length_eq_zero (by omega)
    intro c hc; cases hc
  | n + 1, l, hn, hv => by
    by_cases hl : l = []
    · subst hl; intro c hc; cases hc
    · rw [Chs.vld_cons hl] at hv
      simp only [Bool.and_eq_true, decide_eq_true_eq] at hv
      have hrs := Utf.rune_size l
      intro c hc
      rw [Gr.chars_cons hl] at hc
      rcases List.mem_cons.1 hc with rfl | hc
      · exact Chs.utf8_rune l hl hv.1
      · exact utf8_char n (l.drop (rune l).2) (by rw [List.length_drop]; omega) hv.2 c hc
def ext (k : Nat) (now : List Ch) : List (List Ch) → Nat × List Ch
  | [] => (0, now)
  | u :: us => if (W k (byts (now ++ u))).length ≤ 75 then ((ext k (now ++ u) us).1 + 1, (ext k (now ++ u) us).2) else (0, now)
def more (ws : List (List UInt8)) : List UInt8 := ws.flatMap fun w => 32 :: w
theorem jn_more : ∀ (w : List UInt8) (ws : List (List UInt8)), jn [32] (w :: ws) = w ++ more ws
  | w, [] => by simp [jn, more]
  | w, x :: ws => by rw [jn, jn_more x ws]; simp [more]
end Go.Ph.Wd
end
