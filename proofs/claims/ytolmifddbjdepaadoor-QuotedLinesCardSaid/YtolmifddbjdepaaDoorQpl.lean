/-
  quoted.plain: walks over the program's own operations, written by a program of this repository (wip/tools/gen.py) out of a plan.
-/
import Derived.Test.YtolmifddbjdepaaDoorQlb
import Derived.KernelRfl
set_option linter.unusedVariables false
set_option linter.unusedSimpArgs false
namespace Go.Proofs.YtolmifddbjdepaaDoor
open Go Go.RowKit Go.Ph

open Go.Ph.Qp Go.Ph.Chs
theorem hexV0 {c : UInt8} (h1 : 48 ≤ c.toNat) (h2 : c.toNat ≤ 57) : hexV c = some (c.toNat - 48) := by
  unfold hexV; rw [if_pos ⟨h1, h2⟩]
theorem hexVA {c : UInt8} (h1 : 65 ≤ c.toNat) (h2 : c.toNat ≤ 70) : hexV c = some (c.toNat - 55) := by
  unfold hexV; rw [if_neg (by omega), if_pos ⟨h1, h2⟩]
theorem hexVa {c : UInt8} (h1 : 97 ≤ c.toNat) (h2 : c.toNat ≤ 102) : hexV c = some (c.toNat - 87) := by
  unfold hexV; rw [if_neg (by omega), if_neg (by omega), if_pos ⟨h1, h2⟩]
theorem hexVn {c : UInt8} (h0 : ¬ (48 ≤ c.toNat ∧ c.toNat ≤ 57)) (h1 : ¬ (65 ≤ c.toNat ∧ c.toNat ≤ 70)) (h2 : ¬ (97 ≤ c.toNat ∧ c.toNat ≤ 102)) : hexV c = none := by
  unfold hexV; rw [if_neg h0, if_neg h1, if_neg h2]
def X (c : UInt8) : Nat := (hexV c).getD 0
theorem X_lt (c : UInt8) : X c < 16 := by
  unfold X
  cases h : hexV c with
  | none => decide
  | some x => exact hexV_lt h
theorem hex_yes {c : UInt8} {t : Bool} {n : Nat} (ht : (hexV c).isSome = t) (h : hexV c = some n) : t = true ∧ X c = n := by
  unfold X
  rw [h] at ht ⊢
  exact ⟨ht.symm, rfl⟩
theorem hex_no {c : UInt8} {t : Bool} (ht : (hexV c).isSome = t) (h : hexV c = none) : t = false ∧ X c = 0 := by
  unfold X
  rw [h] at ht ⊢
  exact ⟨ht.symm, rfl⟩
def pv (l : List UInt8) : Option Nat := match (l[0]?).bind hexV, (l[1]?).bind hexV with
  | some x, some y => some (16 * x + y)
  | _, _ => none
theorem pv_short {l : List UInt8} (h : l.length < 2) : pv l = none := by
  unfold pv
  rw [show l[1]? = none from List.getElem?_eq_none_iff.2 (by omega)]
  cases (l[0]?).bind hexV <;> rfl
theorem pv_ok {l : List UInt8} {a b : UInt8} {t : Bool} (ha : l[0]? = some a) (hb : l[1]? = some b) (ht : (pv l).isSome = t) : t = ((hexV a).isSome && (hexV b).isSome) ∧ ∀ m, pv l = some m → UInt8.ofNat (16 * X a + X b) = UInt8.ofNat m := by
  subst ht
  unfold pv X
  rw [ha, hb, Option.bind_some, Option.bind_some]
  cases hexV a with
  | none => exact ⟨rfl, fun m h => by cases h⟩
  | some x => cases hexV b with
    | none => exact ⟨rfl, fun m h => by cases h⟩
    | some y => exact ⟨rfl, fun m h => by cases h; rfl⟩
theorem encB_ofNat {n : Nat} (h : n < 256) : encB (UInt8.ofNat n) = .int .u8 (n : Int) := by
  show Value.int .u8 (((UInt8.ofNat n).toNat : Nat) : Int) = _
  rw [UInt8.toNat_ofNat', Nat.mod_eq_of_lt (by omega)]
theorem esc_pv {c : UInt8} {r K : List UInt8} (h : c = 61) (hK : K = r.take 2) : esc (c :: r) = (pv K).map UInt8.ofNat := by
  subst h hK
  unfold esc pv
  rw [show (r.take 2)[0]? = r[0]? by rw [List.getElem?_take, if_pos (by decide)], show (r.take 2)[1]? = r[1]? by rw [List.getElem?_take, if_pos (by decide)]]
  simp only [List.getElem?_cons_zero, List.getElem?_cons_succ, if_true]
  cases (r[0]?).bind hexV with
  | none => rfl
  | some x => cases (r[1]?).bind hexV <;> rfl
theorem two_of {l : List UInt8} {i : Nat} : (l.take (min (i + 3) l.length)).drop (i + 1) = (l.drop (i + 1)).take 2 := by
  rw [List.drop_take]
  rcases Nat.le_total (i + 3) l.length with h | h
  · rw [Nat.min_eq_left h, show i + 3 - (i + 1) = 2 by omega]
  · rw [Nat.min_eq_right h, List.take_of_length_le (by rw [List.length_drop]; omega), List.take_of_length_le (by rw [List.length_drop]; omega)]

theorem hexB_spec (c : UInt8) (t : Bool) (ht : (hexV c).isSome = t) : Ct Tryd.prog 81 [encB c] (fun _ => True) (fun r _ => r = .tuple #[.int .u8 ((X c : Nat) : Int), .bool t]) := by
  refine Ct.of Tryd.func81 (enters Tryd.func81 (by kernel_rfl) rfl) rfl rfl rfl ?_
  intro w0 M0 H hp
  have hclt := c.toNat_lt
  refine WC.seq ?_
  refine WC.region ?_
  refine WR.step (Ex.assign rfl) (Wn.none rfl) rfl rfl ?_
  refine WR.step (Ex.assign rfl) (Wn.none rfl) rfl rfl ?_
  refine WR.nil ?_
  refine WQ.then ?_
  refine WC.seq ?_
  refine WC.block ?_
  refine WC.seq ?_
  refine WC.region ?_
  refine WR.step (Ex.move rfl) (Wn.none rfl) rfl rfl ?_
  refine WR.split (Ex.geq rfl rfl) (Wn.none rfl) rfl rfl (fun h1_1 => ?_) (fun h1_1 => ?_)
  ·
    refine WR.step (Ex.move rfl) (Wn.none rfl) rfl rfl ?_
    refine WR.step (Ex.move rfl) (Wn.some rfl rfl rfl) rfl rfl ?_
    refine WR.split (Ex.leq rfl rfl) (Wn.some rfl rfl rfl) rfl rfl (fun h1_4 => ?_) (fun h1_4 => ?_)
    ·
      refine WR.step (Ex.pickT rfl rfl) (Wn.none rfl) rfl rfl ?_
      refine WR.step (Ex.assign rfl) (Wn.none rfl) rfl rfl ?_
      refine WR.nil ?_
      refine WQ.then ?_
      refine WC.condT rfl ?_
      refine WC.seq ?_
      refine WC.region ?_
      refine WR.step (Ex.move rfl) (Wn.none rfl) rfl rfl ?_
      refine WR.step (Ex.subW rfl rfl (u8_in (by omega))) (Wn.none rfl) rfl rfl ?_
      refine WR.step (Ex.assign rfl) (Wn.none rfl) rfl rfl ?_
      refine WR.step (Ex.assign rfl) (Wn.none rfl) rfl rfl ?_
      refine WR.nil ?_
      refine WQ.then ?_
      refine WC.ret ?_
      (repeat (first | refine WQ.thenRet ?_ | refine WQ.inBlockRet ?_))
      refine WQ.ret2 rfl rfl rfl H.ext ?_
      refine ?_
      obtain ⟨rfl, hx⟩ := hex_yes ht (hexV0 (by omega) (by omega))
      rw [hx]
      exact congrArg (fun z => Value.tuple #[.int .u8 z, .bool true]) (by omega)
    ·
      refine WR.step (Ex.pickT rfl rfl) (Wn.none rfl) rfl rfl ?_
      refine WR.step (Ex.assign rfl) (Wn.none rfl) rfl rfl ?_
      refine WR.nil ?_
      refine WQ.then ?_
      refine WC.condF rfl ?_
      refine WC.seq ?_
      refine WC.region ?_
      refine WR.step (Ex.move rfl) (Wn.none rfl) rfl rfl ?_
      refine WR.split (Ex.geq rfl rfl) (Wn.none rfl) rfl rfl (fun h3_1 => ?_) (fun h3_1 => ?_)
      ·
        refine WR.step (Ex.move rfl) (Wn.none rfl) rfl rfl ?_
        refine WR.step (Ex.move rfl) (Wn.some rfl rfl rfl) rfl rfl ?_
        refine WR.split (Ex.leq rfl rfl) (Wn.some rfl rfl rfl) rfl rfl (fun h3_4 => ?_) (fun h3_4 => ?_)
        ·
          refine WR.step (Ex.pickT rfl rfl) (Wn.none rfl) rfl rfl ?_
          refine WR.step (Ex.assign rfl) (Wn.none rfl) rfl rfl ?_
          refine WR.nil ?_
          refine WQ.then ?_
          refine WC.condT rfl ?_
          refine WC.seq ?_
          refine WC.region ?_
          refine WR.step (Ex.move rfl) (Wn.none rfl) rfl rfl ?_
          refine WR.step (Ex.subW rfl rfl (u8_in (by omega))) (Wn.none rfl) rfl rfl ?_
          refine WR.step (Ex.addW rfl rfl (u8_in (by omega))) (Wn.none rfl) rfl rfl ?_
          refine WR.step (Ex.assign rfl) (Wn.none rfl) rfl rfl ?_
          refine WR.step (Ex.assign rfl) (Wn.none rfl) rfl rfl ?_
          refine WR.nil ?_
          refine WQ.then ?_
          refine WC.ret ?_
          (repeat (first | refine WQ.thenRet ?_ | refine WQ.inBlockRet ?_))
          refine WQ.ret2 rfl rfl rfl H.ext ?_
          refine ?_
          obtain ⟨rfl, hx⟩ := hex_yes ht (hexVA (by omega) (by omega))
          rw [hx]
          exact congrArg (fun z => Value.tuple #[.int .u8 z, .bool true]) (by omega)
        ·
          refine WR.step (Ex.pickT rfl rfl) (Wn.none rfl) rfl rfl ?_
          refine WR.step (Ex.assign rfl) (Wn.none rfl) rfl rfl ?_
          refine WR.nil ?_
          refine WQ.then ?_
          refine WC.condF rfl ?_
          refine WC.seq ?_
          refine WC.region ?_
          refine WR.step (Ex.move rfl) (Wn.none rfl) rfl rfl ?_
          refine WR.split (Ex.geq rfl rfl) (Wn.none rfl) rfl rfl (fun h5_1 => ?_) (fun h5_1 => ?_)
          ·
            refine WR.step (Ex.move rfl) (Wn.none rfl) rfl rfl ?_
            refine WR.step (Ex.move rfl) (Wn.some rfl rfl rfl) rfl rfl ?_
            refine WR.split (Ex.leq rfl rfl) (Wn.some rfl rfl rfl) rfl rfl (fun h5_4 => ?_) (fun h5_4 => ?_)
            ·
              refine WR.step (Ex.pickT rfl rfl) (Wn.none rfl) rfl rfl ?_
              refine WR.step (Ex.assign rfl) (Wn.none rfl) rfl rfl ?_
              refine WR.nil ?_
              refine WQ.then ?_
              refine WC.condT rfl ?_
              refine WC.seq ?_
              refine WC.region ?_
              refine WR.step (Ex.move rfl) (Wn.none rfl) rfl rfl ?_
              refine WR.step (Ex.subW rfl rfl (u8_in (by omega))) (Wn.none rfl) rfl rfl ?_
              refine WR.step (Ex.addW rfl rfl (u8_in (by omega))) (Wn.none rfl) rfl rfl ?_
              refine WR.step (Ex.assign rfl) (Wn.none rfl) rfl rfl ?_
              refine WR.step (Ex.assign rfl) (Wn.none rfl) rfl rfl ?_
              refine WR.nil ?_
              refine WQ.then ?_
              refine WC.ret ?_
              (repeat (first | refine WQ.thenRet ?_ | refine WQ.inBlockRet ?_))
              refine WQ.ret2 rfl rfl rfl H.ext ?_
              refine ?_
              obtain ⟨rfl, hx⟩ := hex_yes ht (hexVa (by omega) (by omega))
              rw [hx]
              exact congrArg (fun z => Value.tuple #[.int .u8 z, .bool true]) (by omega)
            ·
              refine WR.step (Ex.pickT rfl rfl) (Wn.none rfl) rfl rfl ?_
              refine WR.step (Ex.assign rfl) (Wn.none rfl) rfl rfl ?_
              refine WR.nil ?_
              refine WQ.then ?_
              refine WC.condF rfl ?_
              refine WC.skip ?_
              refine WQ.inBlock ?_
              refine WQ.then ?_
              refine WC.seq ?_
              refine WC.region ?_
              refine WR.step (Ex.assign rfl) (Wn.none rfl) rfl rfl ?_
              refine WR.step (Ex.assign rfl) (Wn.none rfl) rfl rfl ?_
              refine WR.nil ?_
              refine WQ.then ?_
              refine WC.ret ?_
              (repeat (first | refine WQ.thenRet ?_ | refine WQ.inBlockRet ?_))
              refine WQ.ret2 rfl rfl rfl H.ext ?_
              refine ?_
              obtain ⟨rfl, hx⟩ := hex_no ht (hexVn (by omega) (by omega) (by omega))
              rw [hx]
              rfl
          ·
            refine WR.step (Ex.move rfl) (Wn.none rfl) rfl rfl ?_
            refine WR.skipG (b := false) rfl rfl rfl rfl rfl ?_
            refine WR.skipG (b := false) rfl rfl rfl rfl rfl ?_
            refine WR.step (Ex.pickF rfl rfl) (Wn.none rfl) rfl rfl ?_
            refine WR.step (Ex.assign rfl) (Wn.none rfl) rfl rfl ?_
            refine WR.nil ?_
            refine WQ.then ?_
            refine WC.condF rfl ?_
            refine WC.skip ?_
            refine WQ.inBlock ?_
            refine WQ.then ?_
            refine WC.seq ?_
            refine WC.region ?_
            refine WR.step (Ex.assign rfl) (Wn.none rfl) rfl rfl ?_
            refine WR.step (Ex.assign rfl) (Wn.none rfl) rfl rfl ?_
            refine WR.nil ?_
            refine WQ.then ?_
            refine WC.ret ?_
            (repeat (first | refine WQ.thenRet ?_ | refine WQ.inBlockRet ?_))
            refine WQ.ret2 rfl rfl rfl H.ext ?_
            refine ?_
            obtain ⟨rfl, hx⟩ := hex_no ht (hexVn (by omega) (by omega) (by omega))
            rw [hx]
            rfl
      ·
        refine WR.step (Ex.move rfl) (Wn.none rfl) rfl rfl ?_
        refine WR.skipG (b := false) rfl rfl rfl rfl rfl ?_
        refine WR.skipG (b := false) rfl rfl rfl rfl rfl ?_
        refine WR.step (Ex.pickF rfl rfl) (Wn.none rfl) rfl rfl ?_
        refine WR.step (Ex.assign rfl) (Wn.none rfl) rfl rfl ?_
        refine WR.nil ?_
        refine WQ.then ?_
        refine WC.condF rfl ?_
        refine WC.seq ?_
        refine WC.region ?_
        refine WR.step (Ex.move rfl) (Wn.none rfl) rfl rfl ?_
        refine WR.split (Ex.geq rfl rfl) (Wn.none rfl) rfl rfl (fun h5_1 => ?_) (fun h5_1 => ?_)
        ·
          refine WR.step (Ex.move rfl) (Wn.none rfl) rfl rfl ?_
          refine WR.step (Ex.move rfl) (Wn.some rfl rfl rfl) rfl rfl ?_
          refine WR.split (Ex.leq rfl rfl) (Wn.some rfl rfl rfl) rfl rfl (fun h5_4 => ?_) (fun h5_4 => ?_)
          ·
            refine WR.step (Ex.pickT rfl rfl) (Wn.none rfl) rfl rfl ?_
            refine WR.step (Ex.assign rfl) (Wn.none rfl) rfl rfl ?_
            refine WR.nil ?_
            refine WQ.then ?_
            refine WC.condT rfl ?_
            refine WC.seq ?_
            refine WC.region ?_
            refine WR.step (Ex.move rfl) (Wn.none rfl) rfl rfl ?_
            refine WR.step (Ex.subW rfl rfl (u8_in (by omega))) (Wn.none rfl) rfl rfl ?_
            refine WR.step (Ex.addW rfl rfl (u8_in (by omega))) (Wn.none rfl) rfl rfl ?_
            refine WR.step (Ex.assign rfl) (Wn.none rfl) rfl rfl ?_
            refine WR.step (Ex.assign rfl) (Wn.none rfl) rfl rfl ?_
            refine WR.nil ?_
            refine WQ.then ?_
            refine WC.ret ?_
            (repeat (first | refine WQ.thenRet ?_ | refine WQ.inBlockRet ?_))
            refine WQ.ret2 rfl rfl rfl H.ext ?_
            refine ?_
            obtain ⟨rfl, hx⟩ := hex_yes ht (hexVa (by omega) (by omega))
            rw [hx]
            exact congrArg (fun z => Value.tuple #[.int .u8 z, .bool true]) (by omega)
          ·
            refine WR.step (Ex.pickT rfl rfl) (Wn.none rfl) rfl rfl ?_
            refine WR.step (Ex.assign rfl) (Wn.none rfl) rfl rfl ?_
            refine WR.nil ?_
            refine WQ.then ?_
            refine WC.condF rfl ?_
            refine WC.skip ?_
            refine WQ.inBlock ?_
            refine WQ.then ?_
            refine WC.seq ?_
            refine WC.region ?_
            refine WR.step (Ex.assign rfl) (Wn.none rfl) rfl rfl ?_
            refine WR.step (Ex.assign rfl) (Wn.none rfl) rfl rfl ?_
            refine WR.nil ?_
            refine WQ.then ?_
            refine WC.ret ?_
            (repeat (first | refine WQ.thenRet ?_ | refine WQ.inBlockRet ?_))
            refine WQ.ret2 rfl rfl rfl H.ext ?_
            refine ?_
            obtain ⟨rfl, hx⟩ := hex_no ht (hexVn (by omega) (by omega) (by omega))
            rw [hx]
            rfl
        ·
          refine WR.step (Ex.move rfl) (Wn.none rfl) rfl rfl ?_
          refine WR.skipG (b := false) rfl rfl rfl rfl rfl ?_
          refine WR.skipG (b := false) rfl rfl rfl rfl rfl ?_
          refine WR.step (Ex.pickF rfl rfl) (Wn.none rfl) rfl rfl ?_
          refine WR.step (Ex.assign rfl) (Wn.none rfl) rfl rfl ?_
          refine WR.nil ?_
          refine WQ.then ?_
          refine WC.condF rfl ?_
          refine WC.skip ?_
          refine WQ.inBlock ?_
          refine WQ.then ?_
          refine WC.seq ?_
          refine WC.region ?_
          refine WR.step (Ex.assign rfl) (Wn.none rfl) rfl rfl ?_
          refine WR.step (Ex.assign rfl) (Wn.none rfl) rfl rfl ?_
          refine WR.nil ?_
          refine WQ.then ?_
          refine WC.ret ?_
          (repeat (first | refine WQ.thenRet ?_ | refine WQ.inBlockRet ?_))
          refine WQ.ret2 rfl rfl rfl H.ext ?_
          refine ?_
          obtain ⟨rfl, hx⟩ := hex_no ht (hexVn (by omega) (by omega) (by omega))
          rw [hx]
          rfl
  ·
    refine WR.step (Ex.move rfl) (Wn.none rfl) rfl rfl ?_
    refine WR.skipG (b := false) rfl rfl rfl rfl rfl ?_
    refine WR.skipG (b := false) rfl rfl rfl rfl rfl ?_
    refine WR.step (Ex.pickF rfl rfl) (Wn.none rfl) rfl rfl ?_
    refine WR.step (Ex.assign rfl) (Wn.none rfl) rfl rfl ?_
    refine WR.nil ?_
    refine WQ.then ?_
    refine WC.condF rfl ?_
    refine WC.seq ?_
    refine WC.region ?_
    refine WR.step (Ex.move rfl) (Wn.none rfl) rfl rfl ?_
    refine WR.split (Ex.geq rfl rfl) (Wn.none rfl) rfl rfl (fun h3_1 => ?_) (fun h3_1 => ?_)
    ·
      refine WR.step (Ex.move rfl) (Wn.none rfl) rfl rfl ?_
      refine WR.step (Ex.move rfl) (Wn.some rfl rfl rfl) rfl rfl ?_
      refine WR.split (Ex.leq rfl rfl) (Wn.some rfl rfl rfl) rfl rfl (fun h3_4 => ?_) (fun h3_4 => ?_)
      ·
        refine WR.step (Ex.pickT rfl rfl) (Wn.none rfl) rfl rfl ?_
        refine WR.step (Ex.assign rfl) (Wn.none rfl) rfl rfl ?_
        refine WR.nil ?_
        refine WQ.then ?_
        refine WC.condT rfl ?_
        refine WC.seq ?_
        refine WC.region ?_
        refine WR.step (Ex.move rfl) (Wn.none rfl) rfl rfl ?_
        refine WR.step (Ex.subW rfl rfl (u8_in (by omega))) (Wn.none rfl) rfl rfl ?_
        refine WR.step (Ex.addW rfl rfl (u8_in (by omega))) (Wn.none rfl) rfl rfl ?_
        refine WR.step (Ex.assign rfl) (Wn.none rfl) rfl rfl ?_
        refine WR.step (Ex.assign rfl) (Wn.none rfl) rfl rfl ?_
        refine WR.nil ?_
        refine WQ.then ?_
        refine WC.ret ?_
        (repeat (first | refine WQ.thenRet ?_ | refine WQ.inBlockRet ?_))
        refine WQ.ret2 rfl rfl rfl H.ext ?_
        refine ?_
        obtain ⟨rfl, hx⟩ := hex_yes ht (hexVA (by omega) (by omega))
        rw [hx]
        exact congrArg (fun z => Value.tuple #[.int .u8 z, .bool true]) (by omega)
      ·
        refine WR.step (Ex.pickT rfl rfl) (Wn.none rfl) rfl rfl ?_
        refine WR.step (Ex.assign rfl) (Wn.none rfl) rfl rfl ?_
        refine WR.nil ?_
        refine WQ.then ?_
        refine WC.condF rfl ?_
        refine WC.seq ?_
        refine WC.region ?_
        refine WR.step (Ex.move rfl) (Wn.none rfl) rfl rfl ?_
        refine WR.split (Ex.geq rfl rfl) (Wn.none rfl) rfl rfl (fun h5_1 => ?_) (fun h5_1 => ?_)
        ·
          refine WR.step (Ex.move rfl) (Wn.none rfl) rfl rfl ?_
          refine WR.step (Ex.move rfl) (Wn.some rfl rfl rfl) rfl rfl ?_
          refine WR.split (Ex.leq rfl rfl) (Wn.some rfl rfl rfl) rfl rfl (fun h5_4 => ?_) (fun h5_4 => ?_)
          ·
            refine WR.step (Ex.pickT rfl rfl) (Wn.none rfl) rfl rfl ?_
            refine WR.step (Ex.assign rfl) (Wn.none rfl) rfl rfl ?_
            refine WR.nil ?_
            refine WQ.then ?_
            refine WC.condT rfl ?_
            refine WC.seq ?_
            refine WC.region ?_
            refine WR.step (Ex.move rfl) (Wn.none rfl) rfl rfl ?_
            refine WR.step (Ex.subW rfl rfl (u8_in (by omega))) (Wn.none rfl) rfl rfl ?_
            refine WR.step (Ex.addW rfl rfl (u8_in (by omega))) (Wn.none rfl) rfl rfl ?_
            refine WR.step (Ex.assign rfl) (Wn.none rfl) rfl rfl ?_
            refine WR.step (Ex.assign rfl) (Wn.none rfl) rfl rfl ?_
            refine WR.nil ?_
            refine WQ.then ?_
            refine WC.ret ?_
            (repeat (first | refine WQ.thenRet ?_ | refine WQ.inBlockRet ?_))
            refine WQ.ret2 rfl rfl rfl H.ext ?_
            refine ?_
            obtain ⟨rfl, hx⟩ := hex_yes ht (hexVa (by omega) (by omega))
            rw [hx]
            exact congrArg (fun z => Value.tuple #[.int .u8 z, .bool true]) (by omega)
          ·
            refine WR.step (Ex.pickT rfl rfl) (Wn.none rfl) rfl rfl ?_
            refine WR.step (Ex.assign rfl) (Wn.none rfl) rfl rfl ?_
            refine WR.nil ?_
            refine WQ.then ?_
            refine WC.condF rfl ?_
            refine WC.skip ?_
            refine WQ.inBlock ?_
            refine WQ.then ?_
            refine WC.seq ?_
            refine WC.region ?_
            refine WR.step (Ex.assign rfl) (Wn.none rfl) rfl rfl ?_
            refine WR.step (Ex.assign rfl) (Wn.none rfl) rfl rfl ?_
            refine WR.nil ?_
            refine WQ.then ?_
            refine WC.ret ?_
            (repeat (first | refine WQ.thenRet ?_ | refine WQ.inBlockRet ?_))
            refine WQ.ret2 rfl rfl rfl H.ext ?_
            refine ?_
            obtain ⟨rfl, hx⟩ := hex_no ht (hexVn (by omega) (by omega) (by omega))
            rw [hx]
            rfl
        ·
          refine WR.step (Ex.move rfl) (Wn.none rfl) rfl rfl ?_
          refine WR.skipG (b := false) rfl rfl rfl rfl rfl ?_
          refine WR.skipG (b := false) rfl rfl rfl rfl rfl ?_
          refine WR.step (Ex.pickF rfl rfl) (Wn.none rfl) rfl rfl ?_
          refine WR.step (Ex.assign rfl) (Wn.none rfl) rfl rfl ?_
          refine WR.nil ?_
          refine WQ.then ?_
          refine WC.condF rfl ?_
          refine WC.skip ?_
          refine WQ.inBlock ?_
          refine WQ.then ?_
          refine WC.seq ?_
          refine WC.region ?_
          refine WR.step (Ex.assign rfl) (Wn.none rfl) rfl rfl ?_
          refine WR.step (Ex.assign rfl) (Wn.none rfl) rfl rfl ?_
          refine WR.nil ?_
          refine WQ.then ?_
          refine WC.ret ?_
          (repeat (first | refine WQ.thenRet ?_ | refine WQ.inBlockRet ?_))
          refine WQ.ret2 rfl rfl rfl H.ext ?_
          refine ?_
          obtain ⟨rfl, hx⟩ := hex_no ht (hexVn (by omega) (by omega) (by omega))
          rw [hx]
          rfl
    ·
      refine WR.step (Ex.move rfl) (Wn.none rfl) rfl rfl ?_
      refine WR.skipG (b := false) rfl rfl rfl rfl rfl ?_
      refine WR.skipG (b := false) rfl rfl rfl rfl rfl ?_
      refine WR.step (Ex.pickF rfl rfl) (Wn.none rfl) rfl rfl ?_
      refine WR.step (Ex.assign rfl) (Wn.none rfl) rfl rfl ?_
      refine WR.nil ?_
      refine WQ.then ?_
      refine WC.condF rfl ?_
      refine WC.seq ?_
      refine WC.region ?_
      refine WR.step (Ex.move rfl) (Wn.none rfl) rfl rfl ?_
      refine WR.split (Ex.geq rfl rfl) (Wn.none rfl) rfl rfl (fun h5_1 => ?_) (fun h5_1 => ?_)
      ·
        refine WR.step (Ex.move rfl) (Wn.none rfl) rfl rfl ?_
        refine WR.step (Ex.move rfl) (Wn.some rfl rfl rfl) rfl rfl ?_
        refine WR.split (Ex.leq rfl rfl) (Wn.some rfl rfl rfl) rfl rfl (fun h5_4 => ?_) (fun h5_4 => ?_)
        ·
          refine WR.step (Ex.pickT rfl rfl) (Wn.none rfl) rfl rfl ?_
          refine WR.step (Ex.assign rfl) (Wn.none rfl) rfl rfl ?_
          refine WR.nil ?_
          refine WQ.then ?_
          refine WC.condT rfl ?_
          refine WC.seq ?_
          refine WC.region ?_
          refine WR.step (Ex.move rfl) (Wn.none rfl) rfl rfl ?_
          refine WR.step (Ex.subW rfl rfl (u8_in (by omega))) (Wn.none rfl) rfl rfl ?_
          refine WR.step (Ex.addW rfl rfl (u8_in (by omega))) (Wn.none rfl) rfl rfl ?_
          refine WR.step (Ex.assign rfl) (Wn.none rfl) rfl rfl ?_
          refine WR.step (Ex.assign rfl) (Wn.none rfl) rfl rfl ?_
          refine WR.nil ?_
          refine WQ.then ?_
          refine WC.ret ?_
          (repeat (first | refine WQ.thenRet ?_ | refine WQ.inBlockRet ?_))
          refine WQ.ret2 rfl rfl rfl H.ext ?_
          refine ?_
          obtain ⟨rfl, hx⟩ := hex_yes ht (hexVa (by omega) (by omega))
          rw [hx]
          exact congrArg (fun z => Value.tuple #[.int .u8 z, .bool true]) (by omega)
        ·
          refine WR.step (Ex.pickT rfl rfl) (Wn.none rfl) rfl rfl ?_
          refine WR.step (Ex.assign rfl) (Wn.none rfl) rfl rfl ?_
          refine WR.nil ?_
          refine WQ.then ?_
          refine WC.condF rfl ?_
          refine WC.skip ?_
          refine WQ.inBlock ?_
          refine WQ.then ?_
          refine WC.seq ?_
          refine WC.region ?_
          refine WR.step (Ex.assign rfl) (Wn.none rfl) rfl rfl ?_
          refine WR.step (Ex.assign rfl) (Wn.none rfl) rfl rfl ?_
          refine WR.nil ?_
          refine WQ.then ?_
          refine WC.ret ?_
          (repeat (first | refine WQ.thenRet ?_ | refine WQ.inBlockRet ?_))
          refine WQ.ret2 rfl rfl rfl H.ext ?_
          refine ?_
          obtain ⟨rfl, hx⟩ := hex_no ht (hexVn (by omega) (by omega) (by omega))
          rw [hx]
          rfl
      ·
        refine WR.step (Ex.move rfl) (Wn.none rfl) rfl rfl ?_
        refine WR.skipG (b := false) rfl rfl rfl rfl rfl ?_
        refine WR.skipG (b := false) rfl rfl rfl rfl rfl ?_
        refine WR.step (Ex.pickF rfl rfl) (Wn.none rfl) rfl rfl ?_
        refine WR.step (Ex.assign rfl) (Wn.none rfl) rfl rfl ?_
        refine WR.nil ?_
        refine WQ.then ?_
        refine WC.condF rfl ?_
        refine WC.skip ?_
        refine WQ.inBlock ?_
        refine WQ.then ?_
        refine WC.seq ?_
        refine WC.region ?_
        refine WR.step (Ex.assign rfl) (Wn.none rfl) rfl rfl ?_
        refine WR.step (Ex.assign rfl) (Wn.none rfl) rfl rfl ?_
        refine WR.nil ?_
        refine WQ.then ?_
        refine WC.ret ?_
        (repeat (first | refine WQ.thenRet ?_ | refine WQ.inBlockRet ?_))
        refine WQ.ret2 rfl rfl rfl H.ext ?_
        refine ?_
        obtain ⟨rfl, hx⟩ := hex_no ht (hexVn (by omega) (by omega) (by omega))
        rw [hx]
        rfl

theorem pairB_spec (l : List UInt8) (t : Bool) (ht : (pv l).isSome = t) : Ct Tryd.prog 62 [S l] (fun _ => True) (fun r _ => ∃ n : UInt8, r = .tuple #[encB n, .bool t] ∧ ∀ m, pv l = some m → n = UInt8.ofNat m) := by
  refine Ct.of Tryd.func62 (enters Tryd.func62 (by kernel_rfl) rfl) rfl rfl rfl ?_
  intro w0 M0 H hp
  refine WC.seq ?_
  refine WC.region ?_
  refine WR.step (Ex.assign rfl) (Wn.none rfl) rfl rfl ?_
  refine WR.step (Ex.assign rfl) (Wn.none rfl) rfl rfl ?_
  refine WR.nil ?_
  refine WQ.then ?_
  refine WC.seq ?_
  refine WC.seq ?_
  refine WC.region ?_
  refine WR.step (Ex.move rfl) (Wn.none rfl) rfl rfl ?_
  refine WR.step (Ex.lenStr Tryd.underlying9 rfl) (Wn.none rfl) rfl rfl ?_
  refine WR.split (Ex.lss rfl rfl) (Wn.none rfl) rfl rfl (fun h1_2 => ?_) (fun h1_2 => ?_)
  ·
    refine WR.nil ?_
    refine WQ.then ?_
    refine WC.condT rfl ?_
    refine WC.seq ?_
    refine WC.region ?_
    refine WR.step (Ex.assign rfl) (Wn.none rfl) rfl rfl ?_
    refine WR.step (Ex.assign rfl) (Wn.none rfl) rfl rfl ?_
    refine WR.nil ?_
    refine WQ.then ?_
    refine WC.ret ?_
    (repeat (first | refine WQ.thenRet ?_ | refine WQ.inBlockRet ?_))
    refine WQ.ret2 rfl rfl rfl H.ext ?_
    refine ?_
    have hn := pv_short (l := l) (by omega)
    rw [hn] at ht ⊢
    obtain rfl : t = false := ht.symm
    exact ⟨0, rfl, fun m h => by cases h⟩
  ·
    obtain ⟨a, ha⟩ : ∃ a, l[0]? = some a := ⟨_, List.getElem?_eq_getElem (by omega)⟩
    obtain ⟨b, hb⟩ : ∃ b, l[1]? = some b := ⟨_, List.getElem?_eq_getElem (by omega)⟩
    have hXa := X_lt a
    have hXb := X_lt b
    refine WR.nil ?_
    refine WQ.then ?_
    refine WC.condF rfl ?_
    refine WC.skip ?_
    refine WQ.then ?_
    refine WC.seq ?_
    refine WC.region ?_
    refine WR.step (Ex.move rfl) (Wn.none rfl) rfl rfl ?_
    refine WR.step (Ex.idxStr Tryd.underlying9 rfl rfl (ha)) (Wn.none rfl) rfl rfl ?_
    by_cases hsa : (hexV a).isSome = true
    ·
      refine WR.call H (hexB_spec a true hsa) rfl (trivial) (Wn.none rfl) rfl ?_
      intro v14 M w H hle hr14
      obtain rfl := hr14
      refine WR.step (Ex.move rfl) (Wn.none rfl) rfl rfl ?_
      refine WR.step (Ex.extract rfl rfl) (Wn.none rfl) rfl rfl ?_
      refine WR.step (Ex.extract rfl rfl) (Wn.none rfl) rfl rfl ?_
      refine WR.step (Ex.assign rfl) (Wn.none rfl) rfl rfl ?_
      refine WR.step (Ex.assign rfl) (Wn.none rfl) rfl rfl ?_
      refine WR.nil ?_
      refine WQ.then ?_
      refine WC.seq ?_
      refine WC.region ?_
      refine WR.step (Ex.move rfl) (Wn.none rfl) rfl rfl ?_
      refine WR.step (Ex.idxStr Tryd.underlying9 rfl rfl (hb)) (Wn.none rfl) rfl rfl ?_
      by_cases hsb : (hexV b).isSome = true
      ·
        refine WR.call H (hexB_spec b true hsb) rfl (trivial) (Wn.none rfl) rfl ?_
        intro v20 M w H hle hr20
        obtain rfl := hr20
        refine WR.step (Ex.move rfl) (Wn.none rfl) rfl rfl ?_
        refine WR.step (Ex.extract rfl rfl) (Wn.none rfl) rfl rfl ?_
        refine WR.step (Ex.extract rfl rfl) (Wn.none rfl) rfl rfl ?_
        refine WR.step (Ex.assign rfl) (Wn.none rfl) rfl rfl ?_
        refine WR.step (Ex.assign rfl) (Wn.none rfl) rfl rfl ?_
        refine WR.nil ?_
        refine WQ.then ?_
        refine WC.seq ?_
        refine WC.region ?_
        refine WR.step (Ex.move rfl) (Wn.none rfl) rfl rfl ?_
        refine WR.stepE (v' := .int .u8 ((16 * X a : Nat) : Int)) (Ex.shlK (m := X a) (s := 4) rfl rfl (by decide)) (congrArg (Value.int .u8) (by rw [show X a * 2 ^ 4 = 16 * X a by omega]; exact u8_in (by omega))) (Wn.none rfl) rfl rfl ?_
        refine WR.step (Ex.move rfl) (Wn.none rfl) rfl rfl ?_
        refine WR.stepE (v' := .int .u8 ((16 * X a + X b : Nat) : Int)) (Ex.orK (m := 16 * X a) (s := X b) rfl rfl (by first | decide | (show _ < 256; omega) | (show _ < 4294967296; omega) | (show _ < 18446744073709551616; omega)) (by first | decide | (show _ < 256; omega) | (show _ < 4294967296; omega) | (show _ < 18446744073709551616; omega))) (congrArg (Value.int .u8) (by rw [show 16 * X a ||| X b = 16 * X a + X b from (Nat.two_pow_add_eq_or_of_lt (i := 4) hXb (X a)).symm]; exact u8_in (by omega))) (Wn.none rfl) rfl rfl ?_
        refine WR.step (Ex.move rfl) (Wn.none rfl) rfl rfl ?_
        refine WR.step (Ex.move rfl) (Wn.none rfl) rfl rfl ?_
        refine WR.step (Ex.move rfl) (Wn.some rfl rfl rfl) rfl rfl ?_
        refine WR.step (Ex.pickT rfl rfl) (Wn.none rfl) rfl rfl ?_
        refine WR.step (Ex.assign rfl) (Wn.none rfl) rfl rfl ?_
        refine WR.step (Ex.assign rfl) (Wn.none rfl) rfl rfl ?_
        refine WR.nil ?_
        refine WQ.then ?_
        refine WC.ret ?_
        (repeat (first | refine WQ.thenRet ?_ | refine WQ.inBlockRet ?_))
        refine WQ.ret2 rfl rfl rfl H.ext ?_
        refine ?_
        obtain ⟨e, hm⟩ := pv_ok ha hb ht
        refine ⟨_, ?_, hm⟩
        rw [e, encB_ofNat (by omega)]
        simp [hsa, hsb]
      ·
        refine WR.call H (hexB_spec b false (by simpa using hsb)) rfl (trivial) (Wn.none rfl) rfl ?_
        intro v20 M w H hle hr20
        obtain rfl := hr20
        refine WR.step (Ex.move rfl) (Wn.none rfl) rfl rfl ?_
        refine WR.step (Ex.extract rfl rfl) (Wn.none rfl) rfl rfl ?_
        refine WR.step (Ex.extract rfl rfl) (Wn.none rfl) rfl rfl ?_
        refine WR.step (Ex.assign rfl) (Wn.none rfl) rfl rfl ?_
        refine WR.step (Ex.assign rfl) (Wn.none rfl) rfl rfl ?_
        refine WR.nil ?_
        refine WQ.then ?_
        refine WC.seq ?_
        refine WC.region ?_
        refine WR.step (Ex.move rfl) (Wn.none rfl) rfl rfl ?_
        refine WR.stepE (v' := .int .u8 ((16 * X a : Nat) : Int)) (Ex.shlK (m := X a) (s := 4) rfl rfl (by decide)) (congrArg (Value.int .u8) (by rw [show X a * 2 ^ 4 = 16 * X a by omega]; exact u8_in (by omega))) (Wn.none rfl) rfl rfl ?_
        refine WR.step (Ex.move rfl) (Wn.none rfl) rfl rfl ?_
        refine WR.stepE (v' := .int .u8 ((16 * X a + X b : Nat) : Int)) (Ex.orK (m := 16 * X a) (s := X b) rfl rfl (by first | decide | (show _ < 256; omega) | (show _ < 4294967296; omega) | (show _ < 18446744073709551616; omega)) (by first | decide | (show _ < 256; omega) | (show _ < 4294967296; omega) | (show _ < 18446744073709551616; omega))) (congrArg (Value.int .u8) (by rw [show 16 * X a ||| X b = 16 * X a + X b from (Nat.two_pow_add_eq_or_of_lt (i := 4) hXb (X a)).symm]; exact u8_in (by omega))) (Wn.none rfl) rfl rfl ?_
        refine WR.step (Ex.move rfl) (Wn.none rfl) rfl rfl ?_
        refine WR.step (Ex.move rfl) (Wn.none rfl) rfl rfl ?_
        refine WR.step (Ex.move rfl) (Wn.some rfl rfl rfl) rfl rfl ?_
        refine WR.step (Ex.pickT rfl rfl) (Wn.none rfl) rfl rfl ?_
        refine WR.step (Ex.assign rfl) (Wn.none rfl) rfl rfl ?_
        refine WR.step (Ex.assign rfl) (Wn.none rfl) rfl rfl ?_
        refine WR.nil ?_
        refine WQ.then ?_
        refine WC.ret ?_
        (repeat (first | refine WQ.thenRet ?_ | refine WQ.inBlockRet ?_))
        refine WQ.ret2 rfl rfl rfl H.ext ?_
        refine ?_
        obtain ⟨e, hm⟩ := pv_ok ha hb ht
        refine ⟨_, ?_, hm⟩
        rw [e, encB_ofNat (by omega)]
        simp [hsa, hsb]
    ·
      refine WR.call H (hexB_spec a false (by simpa using hsa)) rfl (trivial) (Wn.none rfl) rfl ?_
      intro v14 M w H hle hr14
      obtain rfl := hr14
      refine WR.step (Ex.move rfl) (Wn.none rfl) rfl rfl ?_
      refine WR.step (Ex.extract rfl rfl) (Wn.none rfl) rfl rfl ?_
      refine WR.step (Ex.extract rfl rfl) (Wn.none rfl) rfl rfl ?_
      refine WR.step (Ex.assign rfl) (Wn.none rfl) rfl rfl ?_
      refine WR.step (Ex.assign rfl) (Wn.none rfl) rfl rfl ?_
      refine WR.nil ?_
      refine WQ.then ?_
      refine WC.seq ?_
      refine WC.region ?_
      refine WR.step (Ex.move rfl) (Wn.none rfl) rfl rfl ?_
      refine WR.step (Ex.idxStr Tryd.underlying9 rfl rfl (hb)) (Wn.none rfl) rfl rfl ?_
      by_cases hsb : (hexV b).isSome = true
      ·
        refine WR.call H (hexB_spec b true hsb) rfl (trivial) (Wn.none rfl) rfl ?_
        intro v20 M w H hle hr20
        obtain rfl := hr20
        refine WR.step (Ex.move rfl) (Wn.none rfl) rfl rfl ?_
        refine WR.step (Ex.extract rfl rfl) (Wn.none rfl) rfl rfl ?_
        refine WR.step (Ex.extract rfl rfl) (Wn.none rfl) rfl rfl ?_
        refine WR.step (Ex.assign rfl) (Wn.none rfl) rfl rfl ?_
        refine WR.step (Ex.assign rfl) (Wn.none rfl) rfl rfl ?_
        refine WR.nil ?_
        refine WQ.then ?_
        refine WC.seq ?_
        refine WC.region ?_
        refine WR.step (Ex.move rfl) (Wn.none rfl) rfl rfl ?_
        refine WR.stepE (v' := .int .u8 ((16 * X a : Nat) : Int)) (Ex.shlK (m := X a) (s := 4) rfl rfl (by decide)) (congrArg (Value.int .u8) (by rw [show X a * 2 ^ 4 = 16 * X a by omega]; exact u8_in (by omega))) (Wn.none rfl) rfl rfl ?_
        refine WR.step (Ex.move rfl) (Wn.none rfl) rfl rfl ?_
        refine WR.stepE (v' := .int .u8 ((16 * X a + X b : Nat) : Int)) (Ex.orK (m := 16 * X a) (s := X b) rfl rfl (by first | decide | (show _ < 256; omega) | (show _ < 4294967296; omega) | (show _ < 18446744073709551616; omega)) (by first | decide | (show _ < 256; omega) | (show _ < 4294967296; omega) | (show _ < 18446744073709551616; omega))) (congrArg (Value.int .u8) (by rw [show 16 * X a ||| X b = 16 * X a + X b from (Nat.two_pow_add_eq_or_of_lt (i := 4) hXb (X a)).symm]; exact u8_in (by omega))) (Wn.none rfl) rfl rfl ?_
        refine WR.step (Ex.move rfl) (Wn.none rfl) rfl rfl ?_
        refine WR.step (Ex.move rfl) (Wn.none rfl) rfl rfl ?_
        refine WR.skipG (b := false) rfl rfl rfl rfl rfl ?_
        refine WR.step (Ex.pickF rfl rfl) (Wn.none rfl) rfl rfl ?_
        refine WR.step (Ex.assign rfl) (Wn.none rfl) rfl rfl ?_
        refine WR.step (Ex.assign rfl) (Wn.none rfl) rfl rfl ?_
        refine WR.nil ?_
        refine WQ.then ?_
        refine WC.ret ?_
        (repeat (first | refine WQ.thenRet ?_ | refine WQ.inBlockRet ?_))
        refine WQ.ret2 rfl rfl rfl H.ext ?_
        refine ?_
        obtain ⟨e, hm⟩ := pv_ok ha hb ht
        refine ⟨_, ?_, hm⟩
        rw [e, encB_ofNat (by omega)]
        simp [hsa, hsb]
      ·
        refine WR.call H (hexB_spec b false (by simpa using hsb)) rfl (trivial) (Wn.none rfl) rfl ?_
        intro v20 M w H hle hr20
        obtain rfl := hr20
        refine WR.step (Ex.move rfl) (Wn.none rfl) rfl rfl ?_
        refine WR.step (Ex.extract rfl rfl) (Wn.none rfl) rfl rfl ?_
        refine WR.step (Ex.extract rfl rfl) (Wn.none rfl) rfl rfl ?_
        refine WR.step (Ex.assign rfl) (Wn.none rfl) rfl rfl ?_
        refine WR.step (Ex.assign rfl) (Wn.none rfl) rfl rfl ?_
        refine WR.nil ?_
        refine WQ.then ?_
        refine WC.seq ?_
        refine WC.region ?_
        refine WR.step (Ex.move rfl) (Wn.none rfl) rfl rfl ?_
        refine WR.stepE (v' := .int .u8 ((16 * X a : Nat) : Int)) (Ex.shlK (m := X a) (s := 4) rfl rfl (by decide)) (congrArg (Value.int .u8) (by rw [show X a * 2 ^ 4 = 16 * X a by omega]; exact u8_in (by omega))) (Wn.none rfl) rfl rfl ?_
        refine WR.step (Ex.move rfl) (Wn.none rfl) rfl rfl ?_
        refine WR.stepE (v' := .int .u8 ((16 * X a + X b : Nat) : Int)) (Ex.orK (m := 16 * X a) (s := X b) rfl rfl (by first | decide | (show _ < 256; omega) | (show _ < 4294967296; omega) | (show _ < 18446744073709551616; omega)) (by first | decide | (show _ < 256; omega) | (show _ < 4294967296; omega) | (show _ < 18446744073709551616; omega))) (congrArg (Value.int .u8) (by rw [show 16 * X a ||| X b = 16 * X a + X b from (Nat.two_pow_add_eq_or_of_lt (i := 4) hXb (X a)).symm]; exact u8_in (by omega))) (Wn.none rfl) rfl rfl ?_
        refine WR.step (Ex.move rfl) (Wn.none rfl) rfl rfl ?_
        refine WR.step (Ex.move rfl) (Wn.none rfl) rfl rfl ?_
        refine WR.skipG (b := false) rfl rfl rfl rfl rfl ?_
        refine WR.step (Ex.pickF rfl rfl) (Wn.none rfl) rfl rfl ?_
        refine WR.step (Ex.assign rfl) (Wn.none rfl) rfl rfl ?_
        refine WR.step (Ex.assign rfl) (Wn.none rfl) rfl rfl ?_
        refine WR.nil ?_
        refine WQ.then ?_
        refine WC.ret ?_
        (repeat (first | refine WQ.thenRet ?_ | refine WQ.inBlockRet ?_))
        refine WQ.ret2 rfl rfl rfl H.ext ?_
        refine ?_
        obtain ⟨e, hm⟩ := pv_ok ha hb ht
        refine ⟨_, ?_, hm⟩
        rw [e, encB_ofNat (by omega)]
        simp [hsa, hsb]

theorem plain_spec (v : Value) (l : List UInt8) (hs : l.length ≤ 100000) : Ct Tryd.prog 42 [v] (fun M => Bs M v l) (fun r M => Bs M r (plain l)) := by
  refine Ct.of Tryd.func42 (enters Tryd.func42 (by kernel_rfl) rfl) rfl rfl rfl ?_
  intro w0 M0 H hp
  refine WC.seq ?_
  refine WC.region ?_
  refine WR.step (Ex.assign rfl) (Wn.none rfl) rfl rfl ?_
  refine WR.nil ?_
  refine WQ.then ?_
  refine WC.seq ?_
  refine WC.region ?_
  refine WR.step (Ex.assign rfl) (Wn.none rfl) rfl rfl ?_
  refine WR.nil ?_
  refine WQ.then ?_
  refine WC.seq ?_
  refine WC.seq ?_
  refine WC.region ?_
  refine WR.step (Ex.assign rfl) (Wn.none rfl) rfl rfl ?_
  refine WR.nil ?_
  refine WQ.then ?_
  refine WC.block ?_
  replace H := H.newRow 5 encB
  refine WC.loop3 (fun (i : Nat) (ov : Value) (o : List UInt8) => [(0, v), (3, ov), (4, encN i)]) (fun (i : Nat) (ov : Value) (o : List UInt8) w => o.length ≤ i ∧ plain l = o ++ plain (l.drop i) ∧ ∃ M, St w0 M0 M [RowI 5 encB ov o] w ∧ Bs M v l) (fun (i : Nat) (ov : Value) (o : List UInt8) => l.length - i) (0) (_) (_) ⟨rfl, rfl, rfl, trivial⟩ (⟨Nat.le_refl _, rfl, M0, H, hp⟩) ?_
  intro i ov o w
  rintro ⟨hol, hpl, M, H, hp⟩
  refine WC.seq ?_
  refine WC.seq ?_
  refine WC.region ?_
  refine WR.step (Ex.move rfl) (Wn.none rfl) rfl rfl ?_
  refine WR.step (Ex.move rfl) (Wn.none rfl) rfl rfl ?_
  first | refine WR.step (Ex.lenSl Tryd.underlying22 (by assumption) rfl) (Wn.none rfl) rfl rfl ?_ | refine WR.step (Ex.lenRow Tryd.underlying22 H (by repeat (first | exact List.Mem.head _ | apply List.Mem.tail)) rfl) (Wn.none rfl) rfl rfl ?_ | refine WR.step (Ex.lenSlice Tryd.underlying22 rfl) (Wn.none rfl) rfl rfl ?_
  refine WR.split (Ex.lss rfl rfl) (Wn.none rfl) rfl rfl (fun h3_3 => ?_) (fun h3_3 => ?_)
  ·
    obtain ⟨c, hc⟩ : ∃ c, l[i]? = some c := ⟨_, List.getElem?_eq_getElem (by omega)⟩
    have hd : l.drop i = c :: l.drop (i + 1) := by
      obtain ⟨e1, e2⟩ := List.getElem?_eq_some_iff.1 hc
      rw [List.drop_eq_getElem_cons e1, e2]
    refine WR.nil ?_
    refine WQ.then ?_
    refine WC.condT rfl ?_
    refine WC.skip ?_
    refine WQ.then ?_
    refine WC.seq ?_
    refine WC.block ?_
    refine WC.seq ?_
    refine WC.seq ?_
    refine WC.region ?_
    refine WR.step (Ex.move rfl) (Wn.none rfl) rfl rfl ?_
    refine WR.step (Ex.move rfl) (Wn.none rfl) rfl rfl ?_
    refine WR.idxSl Tryd.underlying22 Tryd.sizeOf5 (by assumption) rfl rfl (hc) (Wn.none rfl) rfl ?_
    intro p15 hc15
    first | refine WR.step (Ex.loadM H rfl (by assumption) Tryd.isAgg5) (Wn.none rfl) rfl rfl ?_ | refine WR.step (Ex.load1 H rfl (by repeat (first | exact List.Mem.head _ | apply List.Mem.tail)) Tryd.isAgg5 (by rfl)) (Wn.none rfl) rfl rfl ?_
    refine WR.split (Ex.eql rfl rfl) (Wn.none rfl) rfl rfl (fun h5_4 => ?_) (fun h5_4 => ?_)
    ·
      have h61 : c = 61 := UInt8.toNat_inj.1 (show c.toNat = 61 by omega)
      refine WR.nil ?_
      refine WQ.then ?_
      refine WC.condT rfl ?_
      refine WC.seq ?_
      refine WC.region ?_
      refine WR.step (Ex.move rfl) (Wn.none rfl) rfl rfl ?_
      refine WR.step (Ex.move rfl) (Wn.none rfl) rfl rfl ?_
      refine WR.stepE (v' := encN (i + 1)) (Ex.add64 rfl rfl (by omega)) rfl (Wn.none rfl) rfl rfl ?_
      refine WR.step (Ex.move rfl) (Wn.none rfl) rfl rfl ?_
      refine WR.stepE (v' := encN (i + 3)) (Ex.add64 rfl rfl (by omega)) rfl (Wn.none rfl) rfl rfl ?_
      refine WR.step (Ex.move rfl) (Wn.none rfl) rfl rfl ?_
      first | refine WR.step (Ex.lenSl Tryd.underlying22 (by assumption) rfl) (Wn.none rfl) rfl rfl ?_ | refine WR.step (Ex.lenRow Tryd.underlying22 H (by repeat (first | exact List.Mem.head _ | apply List.Mem.tail)) rfl) (Wn.none rfl) rfl rfl ?_ | refine WR.step (Ex.lenSlice Tryd.underlying22 rfl) (Wn.none rfl) rfl rfl ?_
      refine WR.stepE (v' := encN (min (i + 3) l.length)) (Ex.min2 rfl rfl) (congrArg I (by omega)) (Wn.none rfl) rfl rfl ?_
      refine WR.sliceSl (i := i + 1) (j := min (i + 3) l.length) Tryd.underlying22 Tryd.sizeOf5 (by assumption) rfl (.inl ⟨_, rfl, rfl⟩) (.inl ⟨_, rfl, rfl⟩) (by omega) (by omega) (Wn.none rfl) rfl ?_
      intro v27 hs27
      refine WR.step (Ex.toStr Tryd.underlying22 Tryd.underlying5 Tryd.underlying9 H (by assumption) rfl) (Wn.none rfl) rfl rfl ?_
      by_cases hpv : (pv ((l.take (min (i + 3) l.length)).drop (i + 1))).isSome = true
      ·
        refine WR.call H (pairB_spec ((l.take (min (i + 3) l.length)).drop (i + 1)) true hpv) rfl (trivial) (Wn.none rfl) rfl ?_
        intro v29 M w H hle hr29
        replace hp := hp.mono hle
        replace hc15 := hc15.mono hle
        replace hs27 := hs27.mono hle
        obtain ⟨n29, rfl, hn29⟩ := hr29
        obtain ⟨x, hx⟩ := Option.isSome_iff_exists.1 hpv
        obtain rfl := hn29 x hx
        have he : esc (c :: l.drop (i + 1)) = some (UInt8.ofNat x) := by rw [esc_pv h61 two_of, hx]; rfl
        refine WR.step (Ex.move rfl) (Wn.none rfl) rfl rfl ?_
        refine WR.step (Ex.extract rfl rfl) (Wn.none rfl) rfl rfl ?_
        refine WR.step (Ex.extract rfl rfl) (Wn.none rfl) rfl rfl ?_
        refine WR.step (Ex.assign rfl) (Wn.none rfl) rfl rfl ?_
        refine WR.step (Ex.assign rfl) (Wn.none rfl) rfl rfl ?_
        refine WR.nil ?_
        refine WQ.then ?_
        refine WC.seq ?_
        refine WC.region ?_
        refine WR.step (Ex.move rfl) (Wn.none rfl) rfl rfl ?_
        refine WR.nil ?_
        refine WQ.then ?_
        refine WC.condT rfl ?_
        refine WC.seq ?_
        refine WC.region ?_
        refine WR.step (Ex.move rfl) (Wn.none rfl) rfl rfl ?_
        refine WR.step (Ex.move rfl) (Wn.none rfl) rfl rfl ?_
        refine WR.lit (enc := encB) ty22 [_] H rfl (by rfl) (fun _ => rfl) rfl rfl (Wn.none rfl) rfl ?_
        intro v35 M w H hle hl35
        replace hp := hp.mono hle
        replace hc15 := hc15.mono hle
        replace hs27 := hs27.mono hle
        refine WR.appendSl ty22 (fun _ => rfl) H rfl (fun _ => by repeat (first | exact Upd.head | apply Upd.tail)) rfl (by assumption) (by first | omega | (simp only [List.length_append, List.length_cons, List.length_nil, List.length_take, List.length_drop]; omega)) (by first | (simp only [maxLen]; omega) | (simp only [maxLen, List.length_append, List.length_cons, List.length_nil, List.length_take, List.length_drop]; omega)) (Wn.none rfl) rfl ?_
        intro v36 w H
        refine WR.step (Ex.assign rfl) (Wn.none rfl) rfl rfl ?_
        refine WR.nil ?_
        refine WQ.then ?_
        refine WC.seq ?_
        refine WC.region ?_
        refine WR.step (Ex.move rfl) (Wn.none rfl) rfl rfl ?_
        refine WR.stepE (v' := encN (i + 2)) (Ex.add64 rfl rfl (by omega)) rfl (Wn.none rfl) rfl rfl ?_
        refine WR.step (Ex.assign rfl) (Wn.none rfl) rfl rfl ?_
        refine WR.nil ?_
        refine WQ.then ?_
        refine WC.exit ?_
        refine WQ.thenExit ?_
        refine WQ.exitHere ?_
        refine WQ.then ?_
        refine WC.region ?_
        refine WR.step (Ex.move rfl) (Wn.none rfl) rfl rfl ?_
        refine WR.stepE (v' := encN (i + 2 + 1)) (Ex.add64 rfl rfl (by omega)) rfl (Wn.none rfl) rfl rfl ?_
        refine WR.step (Ex.assign rfl) (Wn.none rfl) rfl rfl ?_
        refine WR.nil ?_
        refine WQ.again3 (i + 2 + 1) (v36) (o ++ [UInt8.ofNat x]) ⟨rfl, rfl, rfl, trivial⟩ ?_ ?_
        · exact ⟨by simp; omega, by rw [hpl, hd, plain_esc he, List.drop_drop, List.append_assoc]; rfl, M, H, hp⟩
        · omega
      ·
        refine WR.call H (pairB_spec ((l.take (min (i + 3) l.length)).drop (i + 1)) false (by simpa using hpv)) rfl (trivial) (Wn.none rfl) rfl ?_
        intro v29 M w H hle hr29
        replace hp := hp.mono hle
        replace hc15 := hc15.mono hle
        replace hs27 := hs27.mono hle
        obtain ⟨n29, rfl, hn29⟩ := hr29
        have he : esc (c :: l.drop (i + 1)) = none := by rw [esc_pv h61 two_of, Option.not_isSome_iff_eq_none.1 hpv]; rfl
        refine WR.step (Ex.move rfl) (Wn.none rfl) rfl rfl ?_
        refine WR.step (Ex.extract rfl rfl) (Wn.none rfl) rfl rfl ?_
        refine WR.step (Ex.extract rfl rfl) (Wn.none rfl) rfl rfl ?_
        refine WR.step (Ex.assign rfl) (Wn.none rfl) rfl rfl ?_
        refine WR.step (Ex.assign rfl) (Wn.none rfl) rfl rfl ?_
        refine WR.nil ?_
        refine WQ.then ?_
        refine WC.seq ?_
        refine WC.region ?_
        refine WR.step (Ex.move rfl) (Wn.none rfl) rfl rfl ?_
        refine WR.nil ?_
        refine WQ.then ?_
        refine WC.condF rfl ?_
        refine WC.skip ?_
        refine WQ.then ?_
        refine WC.region ?_
        refine WR.step (Ex.move rfl) (Wn.none rfl) rfl rfl ?_
        refine WR.step (Ex.move rfl) (Wn.none rfl) rfl rfl ?_
        refine WR.step (Ex.move rfl) (Wn.none rfl) rfl rfl ?_
        refine WR.idxSl Tryd.underlying22 Tryd.sizeOf5 (by assumption) rfl rfl (hc) (Wn.none rfl) rfl ?_
        intro p42 hc42
        first | refine WR.step (Ex.loadM H rfl (by assumption) Tryd.isAgg5) (Wn.none rfl) rfl rfl ?_ | refine WR.step (Ex.load1 H rfl (by repeat (first | exact List.Mem.head _ | apply List.Mem.tail)) Tryd.isAgg5 (by rfl)) (Wn.none rfl) rfl rfl ?_
        refine WR.lit (enc := encB) ty22 [_] H rfl (by rfl) (fun _ => rfl) rfl rfl (Wn.none rfl) rfl ?_
        intro v44 M w H hle hl44
        replace hp := hp.mono hle
        replace hc15 := hc15.mono hle
        replace hs27 := hs27.mono hle
        replace hc42 := hc42.mono hle
        refine WR.appendSl ty22 (fun _ => rfl) H rfl (fun _ => by repeat (first | exact Upd.head | apply Upd.tail)) rfl (by assumption) (by first | omega | (simp only [List.length_append, List.length_cons, List.length_nil, List.length_take, List.length_drop]; omega)) (by first | (simp only [maxLen]; omega) | (simp only [maxLen, List.length_append, List.length_cons, List.length_nil, List.length_take, List.length_drop]; omega)) (Wn.none rfl) rfl ?_
        intro v45 w H
        refine WR.step (Ex.assign rfl) (Wn.none rfl) rfl rfl ?_
        refine WR.nil ?_
        refine WQ.inBlock ?_
        refine WQ.then ?_
        refine WC.region ?_
        refine WR.step (Ex.move rfl) (Wn.none rfl) rfl rfl ?_
        refine WR.stepE (v' := encN (i + 1)) (Ex.add64 rfl rfl (by omega)) rfl (Wn.none rfl) rfl rfl ?_
        refine WR.step (Ex.assign rfl) (Wn.none rfl) rfl rfl ?_
        refine WR.nil ?_
        refine WQ.again3 (i + 1) (v45) (o ++ [c]) ⟨rfl, rfl, rfl, trivial⟩ ?_ ?_
        · exact ⟨by simp; omega, by rw [hpl, hd, plain_lit he]; simp, M, H, hp⟩
        · omega
    ·
      have he : esc (c :: l.drop (i + 1)) = none := esc_not (fun h => by subst h; exact h5_4 rfl)
      refine WR.nil ?_
      refine WQ.then ?_
      refine WC.condF rfl ?_
      refine WC.skip ?_
      refine WQ.then ?_
      refine WC.region ?_
      refine WR.step (Ex.move rfl) (Wn.none rfl) rfl rfl ?_
      refine WR.step (Ex.move rfl) (Wn.none rfl) rfl rfl ?_
      refine WR.step (Ex.move rfl) (Wn.none rfl) rfl rfl ?_
      refine WR.idxSl Tryd.underlying22 Tryd.sizeOf5 (by assumption) rfl rfl (hc) (Wn.none rfl) rfl ?_
      intro p42 hc42
      first | refine WR.step (Ex.loadM H rfl (by assumption) Tryd.isAgg5) (Wn.none rfl) rfl rfl ?_ | refine WR.step (Ex.load1 H rfl (by repeat (first | exact List.Mem.head _ | apply List.Mem.tail)) Tryd.isAgg5 (by rfl)) (Wn.none rfl) rfl rfl ?_
      refine WR.lit (enc := encB) ty22 [_] H rfl (by rfl) (fun _ => rfl) rfl rfl (Wn.none rfl) rfl ?_
      intro v44 M w H hle hl44
      replace hp := hp.mono hle
      replace hc15 := hc15.mono hle
      replace hc42 := hc42.mono hle
      refine WR.appendSl ty22 (fun _ => rfl) H rfl (fun _ => by repeat (first | exact Upd.head | apply Upd.tail)) rfl (by assumption) (by first | omega | (simp only [List.length_append, List.length_cons, List.length_nil, List.length_take, List.length_drop]; omega)) (by first | (simp only [maxLen]; omega) | (simp only [maxLen, List.length_append, List.length_cons, List.length_nil, List.length_take, List.length_drop]; omega)) (Wn.none rfl) rfl ?_
      intro v45 w H
      refine WR.step (Ex.assign rfl) (Wn.none rfl) rfl rfl ?_
      refine WR.nil ?_
      refine WQ.inBlock ?_
      refine WQ.then ?_
      refine WC.region ?_
      refine WR.step (Ex.move rfl) (Wn.none rfl) rfl rfl ?_
      refine WR.stepE (v' := encN (i + 1)) (Ex.add64 rfl rfl (by omega)) rfl (Wn.none rfl) rfl rfl ?_
      refine WR.step (Ex.assign rfl) (Wn.none rfl) rfl rfl ?_
      refine WR.nil ?_
      refine WQ.again3 (i + 1) (v45) (o ++ [c]) ⟨rfl, rfl, rfl, trivial⟩ ?_ ?_
      · exact ⟨by simp; omega, by rw [hpl, hd, plain_lit he]; simp, M, H, hp⟩
      · omega
  ·
    have hend : plain l = o := by rw [hpl, List.drop_eq_nil_of_le (by omega), plain_nil, List.append_nil]
    refine WR.nil ?_
    refine WQ.then ?_
    refine WC.condF rfl ?_
    refine WC.exit ?_
    refine WQ.thenExit ?_
    refine WQ.thenExit ?_
    refine WQ.exitHere ?_
    refine WQ.then ?_
    refine WC.seq ?_
    refine WC.region ?_
    refine WR.step (Ex.move rfl) (Wn.none rfl) rfl rfl ?_
    refine WR.step (Ex.assign rfl) (Wn.none rfl) rfl rfl ?_
    refine WR.nil ?_
    refine WQ.then ?_
    refine WC.ret ?_
    (repeat (first | refine WQ.thenRet ?_ | refine WQ.inBlockRet ?_))
    obtain ⟨M, hle, hf, H⟩ := H.freezeRow (v := ov) (enc := encB) (t := 5) (by repeat (first | exact Rem.head | apply Rem.tail))
    refine WQ.ret1 rfl rfl H.ext ?_
    refine ?_
    rw [hend]
    exact hf

end Go.Proofs.YtolmifddbjdepaaDoor
