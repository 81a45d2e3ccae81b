/-
  the laws on character sets: walks over the program's own operations, written by a program of this repository (wip/tools/gen.py) out of a plan.
-/
import Derived.Test.YtnjglbmaonbcbaaDoorRen
import Derived.KernelRfl
set_option linter.unusedVariables false
set_option linter.unusedSimpArgs false
namespace Go.Proofs.YtnjglbmaonbcbaaDoor
open Go Go.RowKit Go.Ph

open Go.Ph.Gr Go.Ph.Utf Go.Ph.Chs
theorem decW_len : ∀ (n : Nat) (l : List UInt8), l.length ≤ n → (decW l).length ≤ l.length := by
  intro n
  induction n with
  | zero => intro l h; obtain rfl := List.eq_nil_of_length_eq_zero (Nat.le_zero.1 h); simp [decW]
  | succ n ih =>
    intro l h
    match l, h with
    | [], _ => simp [decW]
    | [a], _ => simp [decW]
    | [a, b], _ => simp [decW]
    | [a, b, c], _ => simp [decW]
    | a :: b :: c :: d :: r, h =>
      simp only [List.length_cons] at h
      rw [decW]
      split
      · have := ih r (by omega)
        simp only [List.length_cons]; omega
      · have := ih (c :: d :: r) (by simp only [List.length_cons]; omega)
        simp only [List.length_cons] at this ⊢; omega
theorem decK_len (k : Nat) (l : List UInt8) : (decK k l).length ≤ l.length := by
  unfold decK
  split
  · simp [decS]
  · split
    · simp [decS]
    · split
      · exact decU_len l
      · exact decW_len _ l (Nat.le_refl _)
theorem decoded_len (k : Nat) (l : List UInt8) : (decoded k l).length ≤ 4 * l.length := by
  have h1 := flat_len (decK k l)
  have h2 := decK_len k l
  unfold decoded; omega

theorem chx_spec  : Ct Tryd.prog 21 [] (fun M => Tabs M) (fun r _ => r = .bool true) := by
  refine Ct.of Tryd.func21 (enters Tryd.func21 (by kernel_rfl) rfl) rfl rfl rfl ?_
  intro w0 M0 H hp
  refine WC.seq ?_
  refine WC.region ?_
  refine WR.step (Ex.assign rfl) (Wn.none rfl) rfl rfl ?_
  refine WR.nil ?_
  refine WQ.then ?_
  refine WC.seq ?_
  refine WC.region ?_
  refine WR.lit (enc := encB) ty34 [228] H rfl (by rfl) (fun _ => rfl) rfl rfl (Wn.none rfl) rfl ?_
  intro v6 M w H hle hl6
  replace hp := hp.mono hle
  refine WR.call H (decode_spec_k [108, 97, 116, 105, 110, 49] _ [228] (by decide) (by decide) 1 (by kernel_rfl)) rfl (by assumption) (Wn.none rfl) rfl ?_
  intro v7 M w H hle hr7
  replace hp := hp.mono hle
  replace hl6 := hl6.mono hle
  obtain rfl := hr7
  refine WR.step (Ex.move rfl) (Wn.none rfl) rfl rfl ?_
  refine WR.stepE (v' := S [195, 164]) (Ex.extract rfl rfl) (by kernel_rfl) (Wn.none rfl) rfl rfl ?_
  refine WR.step (Ex.extract rfl rfl) (Wn.none rfl) rfl rfl ?_
  refine WR.alloc [_, _] H Tryd.zeroValue28 rfl (Wn.none rfl) rfl ?_
  intro b2 w H
  refine WR.step (Ex.assign rfl) (Wn.none rfl) rfl rfl ?_
  refine WR.store [_, _] H rfl rfl rfl (by repeat (first | exact Upd.head | apply Upd.tail)) Tryd.sizeOf28 rfl (by rfl) (by rfl) (Wn.none rfl) ?_
  intro w H
  refine WR.nil ?_
  refine WQ.then ?_
  refine WC.seq ?_
  refine WC.region ?_
  refine WR.call H (encode_ok (name := [117, 116, 102, 49, 54, 98, 101]) (l := [97]) (b := [0, 97]) (by decide) (by decide) (k := 3) (by kernel_rfl) (by kernel_rfl) (by kernel_rfl)) rfl (by assumption) (Wn.none rfl) rfl ?_
  intro v11 M w H hle hr11
  replace hp := hp.mono hle
  replace hl6 := hl6.mono hle
  obtain ⟨v11, rfl, hf11⟩ := hr11
  refine WR.step (Ex.move rfl) (Wn.none rfl) rfl rfl ?_
  refine WR.step (Ex.extract rfl rfl) (Wn.none rfl) rfl rfl ?_
  refine WR.step (Ex.extract rfl rfl) (Wn.none rfl) rfl rfl ?_
  refine WR.alloc [_, _] H Tryd.zeroValue28 rfl (Wn.none rfl) rfl ?_
  intro b4 w H
  refine WR.step (Ex.assign rfl) (Wn.none rfl) rfl rfl ?_
  refine WR.store [_, _] H rfl rfl rfl (by repeat (first | exact Upd.head | apply Upd.tail)) Tryd.sizeOf28 rfl (by rfl) (by rfl) (Wn.none rfl) ?_
  intro w H
  refine WR.nil ?_
  refine WQ.then ?_
  refine WC.seq ?_
  refine WC.region ?_
  refine WR.step (Ex.fieldAddr Tryd.underlying28 rfl Tryd.sizeOf3 (by decide) rfl) (Wn.none rfl) rfl rfl ?_
  first | refine WR.step (Ex.loadM H rfl (by assumption) Tryd.isAgg3) (Wn.none rfl) rfl rfl ?_ | refine WR.step (Ex.load1 H rfl (by repeat (first | exact List.Mem.head _ | apply List.Mem.tail)) Tryd.isAgg3 (by rfl)) (Wn.none rfl) rfl rfl ?_
  refine WR.stepT (Ex.eql rfl rfl) rfl (Wn.none rfl) rfl rfl ?_
  refine WR.step (Ex.move rfl) (Wn.none rfl) rfl rfl ?_
  refine WR.step (Ex.fieldAddr Tryd.underlying28 rfl Tryd.sizeOf3 (by decide) rfl) (Wn.some rfl rfl rfl) rfl rfl ?_
  first | refine WR.step (Ex.loadM H rfl (by assumption) Tryd.isAgg3) (Wn.some rfl rfl rfl) rfl rfl ?_ | refine WR.step (Ex.load1 H rfl (by repeat (first | exact List.Mem.head _ | apply List.Mem.tail)) Tryd.isAgg3 (by rfl)) (Wn.some rfl rfl rfl) rfl rfl ?_
  refine WR.stepT (Ex.eql rfl rfl) rfl (Wn.some rfl rfl rfl) rfl rfl ?_
  refine WR.step (Ex.pickT rfl rfl) (Wn.none rfl) rfl rfl ?_
  refine WR.step (Ex.move rfl) (Wn.none rfl) rfl rfl ?_
  refine WR.step (Ex.move rfl) (Wn.some rfl rfl rfl) rfl rfl ?_
  refine WR.stepT (Ex.strEql rfl rfl) rfl (Wn.some rfl rfl rfl) rfl rfl ?_
  refine WR.step (Ex.pickT rfl rfl) (Wn.none rfl) rfl rfl ?_
  refine WR.step (Ex.move rfl) (Wn.none rfl) rfl rfl ?_
  refine WR.step (Ex.move rfl) (Wn.some rfl rfl rfl) rfl rfl ?_
  refine WR.lit (enc := encB) ty34 [0, 97] H rfl (by rfl) (fun _ => rfl) rfl rfl (Wn.some rfl rfl rfl) rfl ?_
  intro v28 M w H hle hl28
  replace hp := hp.mono hle
  replace hl6 := hl6.mono hle
  replace hf11 := hf11.mono hle
  refine WR.call H (Ct.mono (bytes_spec _ _ [0, 97] [0, 97]) (R' := fun r _ => r = .bool true) (fun _ _ h => h.trans (congrArg Value.bool (decide_eq_true rfl)))) rfl (⟨by assumption, by assumption⟩) (Wn.some rfl rfl rfl) rfl ?_
  intro v29 M w H hle hr29
  replace hp := hp.mono hle
  replace hl6 := hl6.mono hle
  replace hf11 := hf11.mono hle
  replace hl28 := hl28.mono hle
  obtain rfl := hr29
  refine WR.step (Ex.pickT rfl rfl) (Wn.none rfl) rfl rfl ?_
  refine WR.step (Ex.move rfl) (Wn.none rfl) rfl rfl ?_
  refine WR.call H (best_spec [195, 164]) rfl (trivial) (Wn.some rfl rfl rfl) rfl ?_
  intro v32 M w H hle hr32
  replace hp := hp.mono hle
  replace hl6 := hl6.mono hle
  replace hf11 := hf11.mono hle
  replace hl28 := hl28.mono hle
  obtain rfl := hr32
  refine WR.stepT (Ex.strEql rfl rfl) (by kernel_rfl) (Wn.some rfl rfl rfl) rfl rfl ?_
  refine WR.step (Ex.pickT rfl rfl) (Wn.none rfl) rfl rfl ?_
  refine WR.step (Ex.assign rfl) (Wn.none rfl) rfl rfl ?_
  refine WR.nil ?_
  refine WQ.then ?_
  refine WC.ret ?_
  (repeat (first | refine WQ.thenRet ?_ | refine WQ.inBlockRet ?_))
  refine WQ.ret1 rfl rfl H.ext ?_
  exact rfl

theorem c1_big (name : List UInt8) (v : Value) (l : List UInt8) (hn : name.length ≤ maxLen) (hs : 12000 < l.length) : Ct Tryd.prog 8 [S name, v] (fun M => Tabs M ∧ Bs M v l) (fun r _ => r = .bool true) := by
  refine Ct.of Tryd.func8 (enters Tryd.func8 (by kernel_rfl) rfl) rfl rfl rfl ?_
  intro w0 M0 H hp
  obtain ⟨htab, hb⟩ := hp
  refine WC.seq ?_
  refine WC.region ?_
  refine WR.step (Ex.assign rfl) (Wn.none rfl) rfl rfl ?_
  refine WR.nil ?_
  refine WQ.then ?_
  refine WC.seq ?_
  refine WC.seq ?_
  refine WC.region ?_
  refine WR.call H (chx_spec) rfl (by assumption) (Wn.none rfl) rfl ?_
  intro v7 M w H hle hr7
  replace htab := htab.mono hle
  replace hb := hb.mono hle
  obtain rfl := hr7
  refine WR.step (Ex.notT rfl) (Wn.none rfl) rfl rfl ?_
  refine WR.nil ?_
  refine WQ.then ?_
  refine WC.condF rfl ?_
  refine WC.skip ?_
  refine WQ.then ?_
  refine WC.seq ?_
  refine WC.region ?_
  refine WR.step (Ex.move rfl) (Wn.none rfl) rfl rfl ?_
  refine WR.step (Ex.move rfl) (Wn.none rfl) rfl rfl ?_
  refine WR.call H (decode_big _ _ _ hn hs) rfl (by assumption) (Wn.none rfl) rfl ?_
  intro v12 M w H hle hr12
  replace htab := htab.mono hle
  replace hb := hb.mono hle
  obtain rfl := hr12
  refine WR.step (Ex.move rfl) (Wn.none rfl) rfl rfl ?_
  refine WR.step (Ex.extract rfl rfl) (Wn.none rfl) rfl rfl ?_
  refine WR.step (Ex.extract rfl rfl) (Wn.none rfl) rfl rfl ?_
  refine WR.alloc [_, _] H Tryd.zeroValue28 rfl (Wn.none rfl) rfl ?_
  intro b6 w H
  refine WR.step (Ex.assign rfl) (Wn.none rfl) rfl rfl ?_
  refine WR.store [_, _] H rfl rfl rfl (by repeat (first | exact Upd.head | apply Upd.tail)) Tryd.sizeOf28 rfl (by rfl) (by rfl) (Wn.none rfl) ?_
  intro w H
  refine WR.nil ?_
  refine WQ.then ?_
  refine WC.seq ?_
  refine WC.seq ?_
  refine WC.region ?_
  refine WR.step (Ex.move rfl) (Wn.none rfl) rfl rfl ?_
  first | refine WR.step (Ex.lenSl Tryd.underlying34 (by assumption) rfl) (Wn.none rfl) rfl rfl ?_ | refine WR.step (Ex.lenRow Tryd.underlying34 H (by repeat (first | exact List.Mem.head _ | apply List.Mem.tail)) rfl) (Wn.none rfl) rfl rfl ?_ | refine WR.step (Ex.lenSlice Tryd.underlying34 rfl) (Wn.none rfl) rfl rfl ?_
  refine WR.stepT (Ex.gtr rfl rfl) (by omega) (Wn.none rfl) rfl rfl ?_
  refine WR.nil ?_
  refine WQ.then ?_
  refine WC.condT rfl ?_
  refine WC.seq ?_
  refine WC.draw (m := 8) rfl rfl H ?_
  intro w H
  refine WA.two (i := 0) (j := 1) (by kernel_rfl) rfl rfl ?_ ?_
  ·
    first | refine WR.step (Ex.loadAgg H rfl (by repeat (first | exact List.Mem.head _ | apply List.Mem.tail)) Tryd.isAgg28 Tryd.sizeOf28 (by rfl)) (Wn.none rfl) rfl rfl ?_ | refine WR.step (Ex.loadAggM H rfl (by assumption) Tryd.isAgg28 Tryd.sizeOf28 (by rfl)) (Wn.none rfl) rfl rfl ?_
    refine WR.nil (WQ.any ?_)
    refine WA.one (i := 1) (by kernel_rfl) rfl ?_
    refine WR.call H (at_spec _ _) rfl (trivial) (Wn.none rfl) rfl ?_
    intro v19 M w H hle hr19
    replace htab := htab.mono hle
    replace hb := hb.mono hle
    obtain rfl := hr19
    refine WR.nil (WQ.any ?_)
    refine WA.one (i := 2) (by kernel_rfl) rfl ?_
    refine WR.stepT (Ex.eqlAgg rfl rfl (by kernel_rfl) (eq28 _ _ _ _)) ⟨rfl, rfl⟩ (Wn.none rfl) rfl rfl ?_
    refine WR.nil (WQ.any ?_)
    refine WA.one (i := 3) (by kernel_rfl) rfl ?_
    refine WR.step (Ex.move rfl) (Wn.none rfl) rfl rfl ?_
    refine WR.nil (WQ.any ?_)
    refine WA.one (i := 4) (by kernel_rfl) rfl ?_
    refine WR.step (Ex.move rfl) (Wn.some rfl rfl rfl) rfl rfl ?_
    refine WR.nil (WQ.any ?_)
    refine WA.one (i := 5) (by kernel_rfl) rfl ?_
    refine WR.stepT (Ex.strEql rfl rfl) rfl (Wn.some rfl rfl rfl) rfl rfl ?_
    refine WR.nil (WQ.any ?_)
    refine WA.one (i := 6) (by kernel_rfl) rfl ?_
    refine WR.step (Ex.pickT rfl rfl) (Wn.none rfl) rfl rfl ?_
    refine WR.nil (WQ.any ?_)
    refine WA.one (i := 7) (by kernel_rfl) rfl ?_
    refine WR.step (Ex.assign rfl) (Wn.none rfl) rfl rfl ?_
    refine WR.nil (WQ.any ?_)
    refine WA.done (by kernel_rfl) ?_
    refine WQ.then ?_
    refine WC.ret ?_
    (repeat (first | refine WQ.thenRet ?_ | refine WQ.inBlockRet ?_))
    refine WQ.ret1 rfl rfl H.ext ?_
    exact rfl
  ·
    refine WR.call H (at_spec _ _) rfl (trivial) (Wn.none rfl) rfl ?_
    intro v19 M w H hle hr19
    replace htab := htab.mono hle
    replace hb := hb.mono hle
    obtain rfl := hr19
    refine WR.nil (WQ.any ?_)
    refine WA.one (i := 0) (by kernel_rfl) rfl ?_
    first | refine WR.step (Ex.loadAgg H rfl (by repeat (first | exact List.Mem.head _ | apply List.Mem.tail)) Tryd.isAgg28 Tryd.sizeOf28 (by rfl)) (Wn.none rfl) rfl rfl ?_ | refine WR.step (Ex.loadAggM H rfl (by assumption) Tryd.isAgg28 Tryd.sizeOf28 (by rfl)) (Wn.none rfl) rfl rfl ?_
    refine WR.nil (WQ.any ?_)
    refine WA.one (i := 2) (by kernel_rfl) rfl ?_
    refine WR.stepT (Ex.eqlAgg rfl rfl (by kernel_rfl) (eq28 _ _ _ _)) ⟨rfl, rfl⟩ (Wn.none rfl) rfl rfl ?_
    refine WR.nil (WQ.any ?_)
    refine WA.one (i := 3) (by kernel_rfl) rfl ?_
    refine WR.step (Ex.move rfl) (Wn.none rfl) rfl rfl ?_
    refine WR.nil (WQ.any ?_)
    refine WA.one (i := 4) (by kernel_rfl) rfl ?_
    refine WR.step (Ex.move rfl) (Wn.some rfl rfl rfl) rfl rfl ?_
    refine WR.nil (WQ.any ?_)
    refine WA.one (i := 5) (by kernel_rfl) rfl ?_
    refine WR.stepT (Ex.strEql rfl rfl) rfl (Wn.some rfl rfl rfl) rfl rfl ?_
    refine WR.nil (WQ.any ?_)
    refine WA.one (i := 6) (by kernel_rfl) rfl ?_
    refine WR.step (Ex.pickT rfl rfl) (Wn.none rfl) rfl rfl ?_
    refine WR.nil (WQ.any ?_)
    refine WA.one (i := 7) (by kernel_rfl) rfl ?_
    refine WR.step (Ex.assign rfl) (Wn.none rfl) rfl rfl ?_
    refine WR.nil (WQ.any ?_)
    refine WA.done (by kernel_rfl) ?_
    refine WQ.then ?_
    refine WC.ret ?_
    (repeat (first | refine WQ.thenRet ?_ | refine WQ.inBlockRet ?_))
    refine WQ.ret1 rfl rfl H.ext ?_
    exact rfl

theorem c1_unk (name : List UInt8) (v : Value) (l : List UInt8) (hn : name.length ≤ maxLen) (hs : l.length ≤ 12000) (hk : setOf name = none) : Ct Tryd.prog 8 [S name, v] (fun M => Tabs M ∧ Bs M v l) (fun r _ => r = .bool true) := by
  refine Ct.of Tryd.func8 (enters Tryd.func8 (by kernel_rfl) rfl) rfl rfl rfl ?_
  intro w0 M0 H hp
  obtain ⟨htab, hb⟩ := hp
  refine WC.seq ?_
  refine WC.region ?_
  refine WR.step (Ex.assign rfl) (Wn.none rfl) rfl rfl ?_
  refine WR.nil ?_
  refine WQ.then ?_
  refine WC.seq ?_
  refine WC.seq ?_
  refine WC.region ?_
  refine WR.call H (chx_spec) rfl (by assumption) (Wn.none rfl) rfl ?_
  intro v7 M w H hle hr7
  replace htab := htab.mono hle
  replace hb := hb.mono hle
  obtain rfl := hr7
  refine WR.step (Ex.notT rfl) (Wn.none rfl) rfl rfl ?_
  refine WR.nil ?_
  refine WQ.then ?_
  refine WC.condF rfl ?_
  refine WC.skip ?_
  refine WQ.then ?_
  refine WC.seq ?_
  refine WC.region ?_
  refine WR.step (Ex.move rfl) (Wn.none rfl) rfl rfl ?_
  refine WR.step (Ex.move rfl) (Wn.none rfl) rfl rfl ?_
  refine WR.call H (decode_unk _ _ _ hn hs hk) rfl (by assumption) (Wn.none rfl) rfl ?_
  intro v12 M w H hle hr12
  replace htab := htab.mono hle
  replace hb := hb.mono hle
  obtain rfl := hr12
  refine WR.step (Ex.move rfl) (Wn.none rfl) rfl rfl ?_
  refine WR.step (Ex.extract rfl rfl) (Wn.none rfl) rfl rfl ?_
  refine WR.step (Ex.extract rfl rfl) (Wn.none rfl) rfl rfl ?_
  refine WR.alloc [_, _] H Tryd.zeroValue28 rfl (Wn.none rfl) rfl ?_
  intro b6 w H
  refine WR.step (Ex.assign rfl) (Wn.none rfl) rfl rfl ?_
  refine WR.store [_, _] H rfl rfl rfl (by repeat (first | exact Upd.head | apply Upd.tail)) Tryd.sizeOf28 rfl (by rfl) (by rfl) (Wn.none rfl) ?_
  intro w H
  refine WR.nil ?_
  refine WQ.then ?_
  refine WC.seq ?_
  refine WC.seq ?_
  refine WC.region ?_
  refine WR.step (Ex.move rfl) (Wn.none rfl) rfl rfl ?_
  first | refine WR.step (Ex.lenSl Tryd.underlying34 (by assumption) rfl) (Wn.none rfl) rfl rfl ?_ | refine WR.step (Ex.lenRow Tryd.underlying34 H (by repeat (first | exact List.Mem.head _ | apply List.Mem.tail)) rfl) (Wn.none rfl) rfl rfl ?_ | refine WR.step (Ex.lenSlice Tryd.underlying34 rfl) (Wn.none rfl) rfl rfl ?_
  refine WR.stepF (Ex.gtr rfl rfl) (by omega) (Wn.none rfl) rfl rfl ?_
  refine WR.nil ?_
  refine WQ.then ?_
  refine WC.condF rfl ?_
  refine WC.skip ?_
  refine WQ.then ?_
  refine WC.seq ?_
  refine WC.seq ?_
  refine WC.region ?_
  refine WR.step (Ex.move rfl) (Wn.none rfl) rfl rfl ?_
  refine WR.call H (Ct.mono (setOf_spec name hn) (R' := fun r _ => r = I (-1)) (fun _ _ h => by rw [setI_none hk] at h; exact h)) rfl (trivial) (Wn.none rfl) rfl ?_
  intro v26 M w H hle hr26
  replace htab := htab.mono hle
  replace hb := hb.mono hle
  obtain rfl := hr26
  refine WR.stepT (Ex.lss rfl rfl) (by decide) (Wn.none rfl) rfl rfl ?_
  refine WR.nil ?_
  refine WQ.then ?_
  refine WC.condT rfl ?_
  refine WC.seq ?_
  refine WC.draw (m := 8) rfl rfl H ?_
  intro w H
  refine WA.two (i := 0) (j := 1) (by kernel_rfl) rfl rfl ?_ ?_
  ·
    first | refine WR.step (Ex.loadAgg H rfl (by repeat (first | exact List.Mem.head _ | apply List.Mem.tail)) Tryd.isAgg28 Tryd.sizeOf28 (by rfl)) (Wn.none rfl) rfl rfl ?_ | refine WR.step (Ex.loadAggM H rfl (by assumption) Tryd.isAgg28 Tryd.sizeOf28 (by rfl)) (Wn.none rfl) rfl rfl ?_
    refine WR.nil (WQ.any ?_)
    refine WA.one (i := 1) (by kernel_rfl) rfl ?_
    refine WR.call H (at_spec _ _) rfl (trivial) (Wn.none rfl) rfl ?_
    intro v29 M w H hle hr29
    replace htab := htab.mono hle
    replace hb := hb.mono hle
    obtain rfl := hr29
    refine WR.nil (WQ.any ?_)
    refine WA.one (i := 2) (by kernel_rfl) rfl ?_
    refine WR.stepT (Ex.eqlAgg rfl rfl (by kernel_rfl) (eq28 _ _ _ _)) ⟨rfl, rfl⟩ (Wn.none rfl) rfl rfl ?_
    refine WR.nil (WQ.any ?_)
    refine WA.one (i := 3) (by kernel_rfl) rfl ?_
    refine WR.step (Ex.move rfl) (Wn.none rfl) rfl rfl ?_
    refine WR.nil (WQ.any ?_)
    refine WA.one (i := 4) (by kernel_rfl) rfl ?_
    refine WR.step (Ex.move rfl) (Wn.some rfl rfl rfl) rfl rfl ?_
    refine WR.nil (WQ.any ?_)
    refine WA.one (i := 5) (by kernel_rfl) rfl ?_
    refine WR.stepT (Ex.strEql rfl rfl) rfl (Wn.some rfl rfl rfl) rfl rfl ?_
    refine WR.nil (WQ.any ?_)
    refine WA.one (i := 6) (by kernel_rfl) rfl ?_
    refine WR.step (Ex.pickT rfl rfl) (Wn.none rfl) rfl rfl ?_
    refine WR.nil (WQ.any ?_)
    refine WA.one (i := 7) (by kernel_rfl) rfl ?_
    refine WR.step (Ex.assign rfl) (Wn.none rfl) rfl rfl ?_
    refine WR.nil (WQ.any ?_)
    refine WA.done (by kernel_rfl) ?_
    refine WQ.then ?_
    refine WC.ret ?_
    (repeat (first | refine WQ.thenRet ?_ | refine WQ.inBlockRet ?_))
    refine WQ.ret1 rfl rfl H.ext ?_
    exact rfl
  ·
    refine WR.call H (at_spec _ _) rfl (trivial) (Wn.none rfl) rfl ?_
    intro v29 M w H hle hr29
    replace htab := htab.mono hle
    replace hb := hb.mono hle
    obtain rfl := hr29
    refine WR.nil (WQ.any ?_)
    refine WA.one (i := 0) (by kernel_rfl) rfl ?_
    first | refine WR.step (Ex.loadAgg H rfl (by repeat (first | exact List.Mem.head _ | apply List.Mem.tail)) Tryd.isAgg28 Tryd.sizeOf28 (by rfl)) (Wn.none rfl) rfl rfl ?_ | refine WR.step (Ex.loadAggM H rfl (by assumption) Tryd.isAgg28 Tryd.sizeOf28 (by rfl)) (Wn.none rfl) rfl rfl ?_
    refine WR.nil (WQ.any ?_)
    refine WA.one (i := 2) (by kernel_rfl) rfl ?_
    refine WR.stepT (Ex.eqlAgg rfl rfl (by kernel_rfl) (eq28 _ _ _ _)) ⟨rfl, rfl⟩ (Wn.none rfl) rfl rfl ?_
    refine WR.nil (WQ.any ?_)
    refine WA.one (i := 3) (by kernel_rfl) rfl ?_
    refine WR.step (Ex.move rfl) (Wn.none rfl) rfl rfl ?_
    refine WR.nil (WQ.any ?_)
    refine WA.one (i := 4) (by kernel_rfl) rfl ?_
    refine WR.step (Ex.move rfl) (Wn.some rfl rfl rfl) rfl rfl ?_
    refine WR.nil (WQ.any ?_)
    refine WA.one (i := 5) (by kernel_rfl) rfl ?_
    refine WR.stepT (Ex.strEql rfl rfl) rfl (Wn.some rfl rfl rfl) rfl rfl ?_
    refine WR.nil (WQ.any ?_)
    refine WA.one (i := 6) (by kernel_rfl) rfl ?_
    refine WR.step (Ex.pickT rfl rfl) (Wn.none rfl) rfl rfl ?_
    refine WR.nil (WQ.any ?_)
    refine WA.one (i := 7) (by kernel_rfl) rfl ?_
    refine WR.step (Ex.assign rfl) (Wn.none rfl) rfl rfl ?_
    refine WR.nil (WQ.any ?_)
    refine WA.done (by kernel_rfl) ?_
    refine WQ.then ?_
    refine WC.ret ?_
    (repeat (first | refine WQ.thenRet ?_ | refine WQ.inBlockRet ?_))
    refine WQ.ret1 rfl rfl H.ext ?_
    exact rfl

theorem c1_ok (name : List UInt8) (v : Value) (l : List UInt8) (hn : name.length ≤ maxLen) (hs : l.length ≤ 12000) (k : Nat) (hk : setOf name = some k) : Ct Tryd.prog 8 [S name, v] (fun M => Tabs M ∧ Bs M v l) (fun r _ => r = .bool true) := by
  refine Ct.of Tryd.func8 (enters Tryd.func8 (by kernel_rfl) rfl) rfl rfl rfl ?_
  intro w0 M0 H hp
  obtain ⟨htab, hb⟩ := hp
  refine WC.seq ?_
  refine WC.region ?_
  refine WR.step (Ex.assign rfl) (Wn.none rfl) rfl rfl ?_
  refine WR.nil ?_
  refine WQ.then ?_
  refine WC.seq ?_
  refine WC.seq ?_
  refine WC.region ?_
  refine WR.call H (chx_spec) rfl (by assumption) (Wn.none rfl) rfl ?_
  intro v7 M w H hle hr7
  replace htab := htab.mono hle
  replace hb := hb.mono hle
  obtain rfl := hr7
  refine WR.step (Ex.notT rfl) (Wn.none rfl) rfl rfl ?_
  refine WR.nil ?_
  refine WQ.then ?_
  refine WC.condF rfl ?_
  refine WC.skip ?_
  refine WQ.then ?_
  refine WC.seq ?_
  refine WC.region ?_
  refine WR.step (Ex.move rfl) (Wn.none rfl) rfl rfl ?_
  refine WR.step (Ex.move rfl) (Wn.none rfl) rfl rfl ?_
  refine WR.call H (decode_spec_k _ _ _ hn hs k hk) rfl (by assumption) (Wn.none rfl) rfl ?_
  intro v12 M w H hle hr12
  replace htab := htab.mono hle
  replace hb := hb.mono hle
  obtain rfl := hr12
  refine WR.step (Ex.move rfl) (Wn.none rfl) rfl rfl ?_
  refine WR.step (Ex.extract rfl rfl) (Wn.none rfl) rfl rfl ?_
  refine WR.step (Ex.extract rfl rfl) (Wn.none rfl) rfl rfl ?_
  refine WR.alloc [_, _] H Tryd.zeroValue28 rfl (Wn.none rfl) rfl ?_
  intro b6 w H
  refine WR.step (Ex.assign rfl) (Wn.none rfl) rfl rfl ?_
  refine WR.store [_, _] H rfl rfl rfl (by repeat (first | exact Upd.head | apply Upd.tail)) Tryd.sizeOf28 rfl (by rfl) (by rfl) (Wn.none rfl) ?_
  intro w H
  refine WR.nil ?_
  refine WQ.then ?_
  refine WC.seq ?_
  refine WC.seq ?_
  refine WC.region ?_
  refine WR.step (Ex.move rfl) (Wn.none rfl) rfl rfl ?_
  first | refine WR.step (Ex.lenSl Tryd.underlying34 (by assumption) rfl) (Wn.none rfl) rfl rfl ?_ | refine WR.step (Ex.lenRow Tryd.underlying34 H (by repeat (first | exact List.Mem.head _ | apply List.Mem.tail)) rfl) (Wn.none rfl) rfl rfl ?_ | refine WR.step (Ex.lenSlice Tryd.underlying34 rfl) (Wn.none rfl) rfl rfl ?_
  refine WR.stepF (Ex.gtr rfl rfl) (by omega) (Wn.none rfl) rfl rfl ?_
  refine WR.nil ?_
  refine WQ.then ?_
  refine WC.condF rfl ?_
  refine WC.skip ?_
  refine WQ.then ?_
  refine WC.seq ?_
  refine WC.seq ?_
  refine WC.region ?_
  refine WR.step (Ex.move rfl) (Wn.none rfl) rfl rfl ?_
  refine WR.call H (Ct.mono (setOf_spec name hn) (R' := fun r _ => r = I (k : Int)) (fun _ _ h => by rw [setI_some hk] at h; exact h)) rfl (trivial) (Wn.none rfl) rfl ?_
  intro v26 M w H hle hr26
  replace htab := htab.mono hle
  replace hb := hb.mono hle
  obtain rfl := hr26
  refine WR.stepF (Ex.lss rfl rfl) (by omega) (Wn.none rfl) rfl rfl ?_
  refine WR.nil ?_
  refine WQ.then ?_
  refine WC.condF rfl ?_
  refine WC.skip ?_
  refine WQ.then ?_
  refine WC.seq ?_
  refine WC.region ?_
  refine WR.step (Ex.fieldAddr Tryd.underlying28 rfl Tryd.sizeOf3 (by decide) rfl) (Wn.none rfl) rfl rfl ?_
  first | refine WR.step (Ex.loadM H rfl (by assumption) Tryd.isAgg3) (Wn.none rfl) rfl rfl ?_ | refine WR.step (Ex.load1 H rfl (by repeat (first | exact List.Mem.head _ | apply List.Mem.tail)) Tryd.isAgg3 (by rfl)) (Wn.none rfl) rfl rfl ?_
  refine WR.stepT (Ex.eql rfl rfl) rfl (Wn.none rfl) rfl rfl ?_
  refine WR.step (Ex.move rfl) (Wn.none rfl) rfl rfl ?_
  refine WR.step (Ex.move rfl) (Wn.some rfl rfl rfl) rfl rfl ?_
  refine WR.step (Ex.move rfl) (Wn.some rfl rfl rfl) rfl rfl ?_
  refine WR.call H (Ct.mono (setOf_spec name hn) (R' := fun r _ => r = I (k : Int)) (fun _ _ h => by rw [setI_some hk] at h; exact h)) rfl (trivial) (Wn.some rfl rfl rfl) rfl ?_
  intro v41 M w H hle hr41
  replace htab := htab.mono hle
  replace hb := hb.mono hle
  obtain rfl := hr41
  refine WR.step (Ex.move rfl) (Wn.some rfl rfl rfl) rfl rfl ?_
  refine WR.call H (decoded_spec_k _ l (by omega) k (setOf_lt hk)) rfl (by assumption) (Wn.some rfl rfl rfl) rfl ?_
  intro v43 M w H hle hr43
  replace htab := htab.mono hle
  replace hb := hb.mono hle
  obtain rfl := hr43
  refine WR.stepT (Ex.strEql rfl rfl) rfl (Wn.some rfl rfl rfl) rfl rfl ?_
  refine WR.step (Ex.pickT rfl rfl) (Wn.none rfl) rfl rfl ?_
  refine WR.step (Ex.assign rfl) (Wn.none rfl) rfl rfl ?_
  refine WR.nil ?_
  refine WQ.then ?_
  refine WC.ret ?_
  (repeat (first | refine WQ.thenRet ?_ | refine WQ.inBlockRet ?_))
  refine WQ.ret1 rfl rfl H.ext ?_
  exact rfl

theorem c2_big (name l : List UInt8) (hn : name.length ≤ maxLen) (hs : 12000 < l.length) : Ct Tryd.prog 9 [S name, S l] (fun M => Tabs M) (fun r _ => r = .bool true) := by
  refine Ct.of Tryd.func9 (enters Tryd.func9 (by kernel_rfl) rfl) rfl rfl rfl ?_
  intro w0 M0 H hp
  refine WC.seq ?_
  refine WC.region ?_
  refine WR.step (Ex.assign rfl) (Wn.none rfl) rfl rfl ?_
  refine WR.nil ?_
  refine WQ.then ?_
  refine WC.seq ?_
  refine WC.seq ?_
  refine WC.region ?_
  refine WR.call H (chx_spec) rfl (by assumption) (Wn.none rfl) rfl ?_
  intro v9 M w H hle hr9
  replace hp := hp.mono hle
  obtain rfl := hr9
  refine WR.step (Ex.notT rfl) (Wn.none rfl) rfl rfl ?_
  refine WR.nil ?_
  refine WQ.then ?_
  refine WC.condF rfl ?_
  refine WC.skip ?_
  refine WQ.then ?_
  refine WC.seq ?_
  refine WC.region ?_
  refine WR.step (Ex.move rfl) (Wn.none rfl) rfl rfl ?_
  refine WR.step (Ex.move rfl) (Wn.none rfl) rfl rfl ?_
  refine WR.call H (encode_big _ _ hn hs) rfl (by assumption) (Wn.none rfl) rfl ?_
  intro v14 M w H hle hr14
  replace hp := hp.mono hle
  obtain rfl := hr14
  refine WR.step (Ex.move rfl) (Wn.none rfl) rfl rfl ?_
  refine WR.step (Ex.extract rfl rfl) (Wn.none rfl) rfl rfl ?_
  refine WR.step (Ex.extract rfl rfl) (Wn.none rfl) rfl rfl ?_
  refine WR.alloc [_, _] H Tryd.zeroValue28 rfl (Wn.none rfl) rfl ?_
  intro b6 w H
  refine WR.step (Ex.assign rfl) (Wn.none rfl) rfl rfl ?_
  refine WR.store [_, _] H rfl rfl rfl (by repeat (first | exact Upd.head | apply Upd.tail)) Tryd.sizeOf28 rfl (by rfl) (by rfl) (Wn.none rfl) ?_
  intro w H
  refine WR.nil ?_
  refine WQ.then ?_
  refine WC.seq ?_
  refine WC.seq ?_
  refine WC.region ?_
  refine WR.step (Ex.move rfl) (Wn.none rfl) rfl rfl ?_
  refine WR.step (Ex.lenStr Tryd.underlying9 rfl) (Wn.none rfl) rfl rfl ?_
  refine WR.stepT (Ex.gtr rfl rfl) (by omega) (Wn.none rfl) rfl rfl ?_
  refine WR.nil ?_
  refine WQ.then ?_
  refine WC.condT rfl ?_
  refine WC.seq ?_
  refine WC.draw (m := 9) rfl rfl H ?_
  intro w H
  refine WA.two (i := 0) (j := 1) (by kernel_rfl) rfl rfl ?_ ?_
  ·
    first | refine WR.step (Ex.loadAgg H rfl (by repeat (first | exact List.Mem.head _ | apply List.Mem.tail)) Tryd.isAgg28 Tryd.sizeOf28 (by rfl)) (Wn.none rfl) rfl rfl ?_ | refine WR.step (Ex.loadAggM H rfl (by assumption) Tryd.isAgg28 Tryd.sizeOf28 (by rfl)) (Wn.none rfl) rfl rfl ?_
    refine WR.nil (WQ.any ?_)
    refine WA.one (i := 1) (by kernel_rfl) rfl ?_
    refine WR.call H (at_spec _ _) rfl (trivial) (Wn.none rfl) rfl ?_
    intro v21 M w H hle hr21
    replace hp := hp.mono hle
    obtain rfl := hr21
    refine WR.nil (WQ.any ?_)
    refine WA.one (i := 2) (by kernel_rfl) rfl ?_
    refine WR.stepT (Ex.eqlAgg rfl rfl (by kernel_rfl) (eq28 _ _ _ _)) ⟨rfl, rfl⟩ (Wn.none rfl) rfl rfl ?_
    refine WR.nil (WQ.any ?_)
    refine WA.one (i := 3) (by kernel_rfl) rfl ?_
    refine WR.step (Ex.move rfl) (Wn.none rfl) rfl rfl ?_
    refine WR.nil (WQ.any ?_)
    refine WA.one (i := 4) (by kernel_rfl) rfl ?_
    refine WR.step (Ex.move rfl) (Wn.some rfl rfl rfl) rfl rfl ?_
    refine WR.nil (WQ.any ?_)
    refine WA.one (i := 5) (by kernel_rfl) rfl ?_
    first | refine WR.step (Ex.lenSl Tryd.underlying34 (by assumption) rfl) (Wn.some rfl rfl rfl) rfl rfl ?_ | refine WR.step (Ex.lenRow Tryd.underlying34 H (by repeat (first | exact List.Mem.head _ | apply List.Mem.tail)) rfl) (Wn.some rfl rfl rfl) rfl rfl ?_ | refine WR.step (Ex.lenSlice Tryd.underlying34 rfl) (Wn.some rfl rfl rfl) rfl rfl ?_
    refine WR.nil (WQ.any ?_)
    refine WA.one (i := 6) (by kernel_rfl) rfl ?_
    refine WR.stepT (Ex.eql rfl rfl) rfl (Wn.some rfl rfl rfl) rfl rfl ?_
    refine WR.nil (WQ.any ?_)
    refine WA.one (i := 7) (by kernel_rfl) rfl ?_
    refine WR.step (Ex.pickT rfl rfl) (Wn.none rfl) rfl rfl ?_
    refine WR.nil (WQ.any ?_)
    refine WA.one (i := 8) (by kernel_rfl) rfl ?_
    refine WR.step (Ex.assign rfl) (Wn.none rfl) rfl rfl ?_
    refine WR.nil (WQ.any ?_)
    refine WA.done (by kernel_rfl) ?_
    refine WQ.then ?_
    refine WC.ret ?_
    (repeat (first | refine WQ.thenRet ?_ | refine WQ.inBlockRet ?_))
    refine WQ.ret1 rfl rfl H.ext ?_
    exact rfl
  ·
    refine WR.call H (at_spec _ _) rfl (trivial) (Wn.none rfl) rfl ?_
    intro v21 M w H hle hr21
    replace hp := hp.mono hle
    obtain rfl := hr21
    refine WR.nil (WQ.any ?_)
    refine WA.one (i := 0) (by kernel_rfl) rfl ?_
    first | refine WR.step (Ex.loadAgg H rfl (by repeat (first | exact List.Mem.head _ | apply List.Mem.tail)) Tryd.isAgg28 Tryd.sizeOf28 (by rfl)) (Wn.none rfl) rfl rfl ?_ | refine WR.step (Ex.loadAggM H rfl (by assumption) Tryd.isAgg28 Tryd.sizeOf28 (by rfl)) (Wn.none rfl) rfl rfl ?_
    refine WR.nil (WQ.any ?_)
    refine WA.one (i := 2) (by kernel_rfl) rfl ?_
    refine WR.stepT (Ex.eqlAgg rfl rfl (by kernel_rfl) (eq28 _ _ _ _)) ⟨rfl, rfl⟩ (Wn.none rfl) rfl rfl ?_
    refine WR.nil (WQ.any ?_)
    refine WA.one (i := 3) (by kernel_rfl) rfl ?_
    refine WR.step (Ex.move rfl) (Wn.none rfl) rfl rfl ?_
    refine WR.nil (WQ.any ?_)
    refine WA.one (i := 4) (by kernel_rfl) rfl ?_
    refine WR.step (Ex.move rfl) (Wn.some rfl rfl rfl) rfl rfl ?_
    refine WR.nil (WQ.any ?_)
    refine WA.one (i := 5) (by kernel_rfl) rfl ?_
    first | refine WR.step (Ex.lenSl Tryd.underlying34 (by assumption) rfl) (Wn.some rfl rfl rfl) rfl rfl ?_ | refine WR.step (Ex.lenRow Tryd.underlying34 H (by repeat (first | exact List.Mem.head _ | apply List.Mem.tail)) rfl) (Wn.some rfl rfl rfl) rfl rfl ?_ | refine WR.step (Ex.lenSlice Tryd.underlying34 rfl) (Wn.some rfl rfl rfl) rfl rfl ?_
    refine WR.nil (WQ.any ?_)
    refine WA.one (i := 6) (by kernel_rfl) rfl ?_
    refine WR.stepT (Ex.eql rfl rfl) rfl (Wn.some rfl rfl rfl) rfl rfl ?_
    refine WR.nil (WQ.any ?_)
    refine WA.one (i := 7) (by kernel_rfl) rfl ?_
    refine WR.step (Ex.pickT rfl rfl) (Wn.none rfl) rfl rfl ?_
    refine WR.nil (WQ.any ?_)
    refine WA.one (i := 8) (by kernel_rfl) rfl ?_
    refine WR.step (Ex.assign rfl) (Wn.none rfl) rfl rfl ?_
    refine WR.nil (WQ.any ?_)
    refine WA.done (by kernel_rfl) ?_
    refine WQ.then ?_
    refine WC.ret ?_
    (repeat (first | refine WQ.thenRet ?_ | refine WQ.inBlockRet ?_))
    refine WQ.ret1 rfl rfl H.ext ?_
    exact rfl

theorem c2_unk (name l : List UInt8) (hn : name.length ≤ maxLen) (hs : l.length ≤ 12000) (hk : setOf name = none) : Ct Tryd.prog 9 [S name, S l] (fun M => Tabs M) (fun r _ => r = .bool true) := by
  refine Ct.of Tryd.func9 (enters Tryd.func9 (by kernel_rfl) rfl) rfl rfl rfl ?_
  intro w0 M0 H hp
  refine WC.seq ?_
  refine WC.region ?_
  refine WR.step (Ex.assign rfl) (Wn.none rfl) rfl rfl ?_
  refine WR.nil ?_
  refine WQ.then ?_
  refine WC.seq ?_
  refine WC.seq ?_
  refine WC.region ?_
  refine WR.call H (chx_spec) rfl (by assumption) (Wn.none rfl) rfl ?_
  intro v9 M w H hle hr9
  replace hp := hp.mono hle
  obtain rfl := hr9
  refine WR.step (Ex.notT rfl) (Wn.none rfl) rfl rfl ?_
  refine WR.nil ?_
  refine WQ.then ?_
  refine WC.condF rfl ?_
  refine WC.skip ?_
  refine WQ.then ?_
  refine WC.seq ?_
  refine WC.region ?_
  refine WR.step (Ex.move rfl) (Wn.none rfl) rfl rfl ?_
  refine WR.step (Ex.move rfl) (Wn.none rfl) rfl rfl ?_
  refine WR.call H (encode_unk _ _ hn hs hk) rfl (by assumption) (Wn.none rfl) rfl ?_
  intro v14 M w H hle hr14
  replace hp := hp.mono hle
  obtain rfl := hr14
  refine WR.step (Ex.move rfl) (Wn.none rfl) rfl rfl ?_
  refine WR.step (Ex.extract rfl rfl) (Wn.none rfl) rfl rfl ?_
  refine WR.step (Ex.extract rfl rfl) (Wn.none rfl) rfl rfl ?_
  refine WR.alloc [_, _] H Tryd.zeroValue28 rfl (Wn.none rfl) rfl ?_
  intro b6 w H
  refine WR.step (Ex.assign rfl) (Wn.none rfl) rfl rfl ?_
  refine WR.store [_, _] H rfl rfl rfl (by repeat (first | exact Upd.head | apply Upd.tail)) Tryd.sizeOf28 rfl (by rfl) (by rfl) (Wn.none rfl) ?_
  intro w H
  refine WR.nil ?_
  refine WQ.then ?_
  refine WC.seq ?_
  refine WC.seq ?_
  refine WC.region ?_
  refine WR.step (Ex.move rfl) (Wn.none rfl) rfl rfl ?_
  refine WR.step (Ex.lenStr Tryd.underlying9 rfl) (Wn.none rfl) rfl rfl ?_
  refine WR.stepF (Ex.gtr rfl rfl) (by omega) (Wn.none rfl) rfl rfl ?_
  refine WR.nil ?_
  refine WQ.then ?_
  refine WC.condF rfl ?_
  refine WC.skip ?_
  refine WQ.then ?_
  refine WC.seq ?_
  refine WC.seq ?_
  refine WC.region ?_
  refine WR.step (Ex.move rfl) (Wn.none rfl) rfl rfl ?_
  refine WR.call H (Ct.mono (setOf_spec name hn) (R' := fun r _ => r = I (-1)) (fun _ _ h => by rw [setI_none hk] at h; exact h)) rfl (trivial) (Wn.none rfl) rfl ?_
  intro v29 M w H hle hr29
  replace hp := hp.mono hle
  obtain rfl := hr29
  refine WR.stepT (Ex.lss rfl rfl) (by decide) (Wn.none rfl) rfl rfl ?_
  refine WR.nil ?_
  refine WQ.then ?_
  refine WC.condT rfl ?_
  refine WC.seq ?_
  refine WC.draw (m := 9) rfl rfl H ?_
  intro w H
  refine WA.two (i := 0) (j := 1) (by kernel_rfl) rfl rfl ?_ ?_
  ·
    first | refine WR.step (Ex.loadAgg H rfl (by repeat (first | exact List.Mem.head _ | apply List.Mem.tail)) Tryd.isAgg28 Tryd.sizeOf28 (by rfl)) (Wn.none rfl) rfl rfl ?_ | refine WR.step (Ex.loadAggM H rfl (by assumption) Tryd.isAgg28 Tryd.sizeOf28 (by rfl)) (Wn.none rfl) rfl rfl ?_
    refine WR.nil (WQ.any ?_)
    refine WA.one (i := 1) (by kernel_rfl) rfl ?_
    refine WR.call H (at_spec _ _) rfl (trivial) (Wn.none rfl) rfl ?_
    intro v32 M w H hle hr32
    replace hp := hp.mono hle
    obtain rfl := hr32
    refine WR.nil (WQ.any ?_)
    refine WA.one (i := 2) (by kernel_rfl) rfl ?_
    refine WR.stepT (Ex.eqlAgg rfl rfl (by kernel_rfl) (eq28 _ _ _ _)) ⟨rfl, rfl⟩ (Wn.none rfl) rfl rfl ?_
    refine WR.nil (WQ.any ?_)
    refine WA.one (i := 3) (by kernel_rfl) rfl ?_
    refine WR.step (Ex.move rfl) (Wn.none rfl) rfl rfl ?_
    refine WR.nil (WQ.any ?_)
    refine WA.one (i := 4) (by kernel_rfl) rfl ?_
    refine WR.step (Ex.move rfl) (Wn.some rfl rfl rfl) rfl rfl ?_
    refine WR.nil (WQ.any ?_)
    refine WA.one (i := 5) (by kernel_rfl) rfl ?_
    first | refine WR.step (Ex.lenSl Tryd.underlying34 (by assumption) rfl) (Wn.some rfl rfl rfl) rfl rfl ?_ | refine WR.step (Ex.lenRow Tryd.underlying34 H (by repeat (first | exact List.Mem.head _ | apply List.Mem.tail)) rfl) (Wn.some rfl rfl rfl) rfl rfl ?_ | refine WR.step (Ex.lenSlice Tryd.underlying34 rfl) (Wn.some rfl rfl rfl) rfl rfl ?_
    refine WR.nil (WQ.any ?_)
    refine WA.one (i := 6) (by kernel_rfl) rfl ?_
    refine WR.stepT (Ex.eql rfl rfl) rfl (Wn.some rfl rfl rfl) rfl rfl ?_
    refine WR.nil (WQ.any ?_)
    refine WA.one (i := 7) (by kernel_rfl) rfl ?_
    refine WR.step (Ex.pickT rfl rfl) (Wn.none rfl) rfl rfl ?_
    refine WR.nil (WQ.any ?_)
    refine WA.one (i := 8) (by kernel_rfl) rfl ?_
    refine WR.step (Ex.assign rfl) (Wn.none rfl) rfl rfl ?_
    refine WR.nil (WQ.any ?_)
    refine WA.done (by kernel_rfl) ?_
    refine WQ.then ?_
    refine WC.ret ?_
    (repeat (first | refine WQ.thenRet ?_ | refine WQ.inBlockRet ?_))
    refine WQ.ret1 rfl rfl H.ext ?_
    exact rfl
  ·
    refine WR.call H (at_spec _ _) rfl (trivial) (Wn.none rfl) rfl ?_
    intro v32 M w H hle hr32
    replace hp := hp.mono hle
    obtain rfl := hr32
    refine WR.nil (WQ.any ?_)
    refine WA.one (i := 0) (by kernel_rfl) rfl ?_
    first | refine WR.step (Ex.loadAgg H rfl (by repeat (first | exact List.Mem.head _ | apply List.Mem.tail)) Tryd.isAgg28 Tryd.sizeOf28 (by rfl)) (Wn.none rfl) rfl rfl ?_ | refine WR.step (Ex.loadAggM H rfl (by assumption) Tryd.isAgg28 Tryd.sizeOf28 (by rfl)) (Wn.none rfl) rfl rfl ?_
    refine WR.nil (WQ.any ?_)
    refine WA.one (i := 2) (by kernel_rfl) rfl ?_
    refine WR.stepT (Ex.eqlAgg rfl rfl (by kernel_rfl) (eq28 _ _ _ _)) ⟨rfl, rfl⟩ (Wn.none rfl) rfl rfl ?_
    refine WR.nil (WQ.any ?_)
    refine WA.one (i := 3) (by kernel_rfl) rfl ?_
    refine WR.step (Ex.move rfl) (Wn.none rfl) rfl rfl ?_
    refine WR.nil (WQ.any ?_)
    refine WA.one (i := 4) (by kernel_rfl) rfl ?_
    refine WR.step (Ex.move rfl) (Wn.some rfl rfl rfl) rfl rfl ?_
    refine WR.nil (WQ.any ?_)
    refine WA.one (i := 5) (by kernel_rfl) rfl ?_
    first | refine WR.step (Ex.lenSl Tryd.underlying34 (by assumption) rfl) (Wn.some rfl rfl rfl) rfl rfl ?_ | refine WR.step (Ex.lenRow Tryd.underlying34 H (by repeat (first | exact List.Mem.head _ | apply List.Mem.tail)) rfl) (Wn.some rfl rfl rfl) rfl rfl ?_ | refine WR.step (Ex.lenSlice Tryd.underlying34 rfl) (Wn.some rfl rfl rfl) rfl rfl ?_
    refine WR.nil (WQ.any ?_)
    refine WA.one (i := 6) (by kernel_rfl) rfl ?_
    refine WR.stepT (Ex.eql rfl rfl) rfl (Wn.some rfl rfl rfl) rfl rfl ?_
    refine WR.nil (WQ.any ?_)
    refine WA.one (i := 7) (by kernel_rfl) rfl ?_
    refine WR.step (Ex.pickT rfl rfl) (Wn.none rfl) rfl rfl ?_
    refine WR.nil (WQ.any ?_)
    refine WA.one (i := 8) (by kernel_rfl) rfl ?_
    refine WR.step (Ex.assign rfl) (Wn.none rfl) rfl rfl ?_
    refine WR.nil (WQ.any ?_)
    refine WA.done (by kernel_rfl) ?_
    refine WQ.then ?_
    refine WC.ret ?_
    (repeat (first | refine WQ.thenRet ?_ | refine WQ.inBlockRet ?_))
    refine WQ.ret1 rfl rfl H.ext ?_
    exact rfl

theorem c2_mal (name l : List UInt8) (hn : name.length ≤ maxLen) (hs : l.length ≤ 12000) (k : Nat) (hk : setOf name = some k) (hv : vld l = false) : Ct Tryd.prog 9 [S name, S l] (fun M => Tabs M) (fun r _ => r = .bool true) := by
  refine Ct.of Tryd.func9 (enters Tryd.func9 (by kernel_rfl) rfl) rfl rfl rfl ?_
  intro w0 M0 H hp
  refine WC.seq ?_
  refine WC.region ?_
  refine WR.step (Ex.assign rfl) (Wn.none rfl) rfl rfl ?_
  refine WR.nil ?_
  refine WQ.then ?_
  refine WC.seq ?_
  refine WC.seq ?_
  refine WC.region ?_
  refine WR.call H (chx_spec) rfl (by assumption) (Wn.none rfl) rfl ?_
  intro v9 M w H hle hr9
  replace hp := hp.mono hle
  obtain rfl := hr9
  refine WR.step (Ex.notT rfl) (Wn.none rfl) rfl rfl ?_
  refine WR.nil ?_
  refine WQ.then ?_
  refine WC.condF rfl ?_
  refine WC.skip ?_
  refine WQ.then ?_
  refine WC.seq ?_
  refine WC.region ?_
  refine WR.step (Ex.move rfl) (Wn.none rfl) rfl rfl ?_
  refine WR.step (Ex.move rfl) (Wn.none rfl) rfl rfl ?_
  refine WR.call H (encode_mal _ _ hn hs k hk hv) rfl (by assumption) (Wn.none rfl) rfl ?_
  intro v14 M w H hle hr14
  replace hp := hp.mono hle
  obtain rfl := hr14
  refine WR.step (Ex.move rfl) (Wn.none rfl) rfl rfl ?_
  refine WR.step (Ex.extract rfl rfl) (Wn.none rfl) rfl rfl ?_
  refine WR.step (Ex.extract rfl rfl) (Wn.none rfl) rfl rfl ?_
  refine WR.alloc [_, _] H Tryd.zeroValue28 rfl (Wn.none rfl) rfl ?_
  intro b6 w H
  refine WR.step (Ex.assign rfl) (Wn.none rfl) rfl rfl ?_
  refine WR.store [_, _] H rfl rfl rfl (by repeat (first | exact Upd.head | apply Upd.tail)) Tryd.sizeOf28 rfl (by rfl) (by rfl) (Wn.none rfl) ?_
  intro w H
  refine WR.nil ?_
  refine WQ.then ?_
  refine WC.seq ?_
  refine WC.seq ?_
  refine WC.region ?_
  refine WR.step (Ex.move rfl) (Wn.none rfl) rfl rfl ?_
  refine WR.step (Ex.lenStr Tryd.underlying9 rfl) (Wn.none rfl) rfl rfl ?_
  refine WR.stepF (Ex.gtr rfl rfl) (by omega) (Wn.none rfl) rfl rfl ?_
  refine WR.nil ?_
  refine WQ.then ?_
  refine WC.condF rfl ?_
  refine WC.skip ?_
  refine WQ.then ?_
  refine WC.seq ?_
  refine WC.seq ?_
  refine WC.region ?_
  refine WR.step (Ex.move rfl) (Wn.none rfl) rfl rfl ?_
  refine WR.call H (Ct.mono (setOf_spec name hn) (R' := fun r _ => r = I (k : Int)) (fun _ _ h => by rw [setI_some hk] at h; exact h)) rfl (trivial) (Wn.none rfl) rfl ?_
  intro v29 M w H hle hr29
  replace hp := hp.mono hle
  obtain rfl := hr29
  refine WR.stepF (Ex.lss rfl rfl) (by omega) (Wn.none rfl) rfl rfl ?_
  refine WR.nil ?_
  refine WQ.then ?_
  refine WC.condF rfl ?_
  refine WC.skip ?_
  refine WQ.then ?_
  refine WC.seq ?_
  refine WC.seq ?_
  refine WC.region ?_
  refine WR.step (Ex.move rfl) (Wn.none rfl) rfl rfl ?_
  refine WR.call H (Ct.mono (valid_spec l (by omega)) (R' := fun r _ => r = .bool false) (fun _ _ h => by rw [hv] at h; exact h)) rfl (trivial) (Wn.none rfl) rfl ?_
  intro v40 M w H hle hr40
  replace hp := hp.mono hle
  obtain rfl := hr40
  refine WR.step (Ex.notF rfl) (Wn.none rfl) rfl rfl ?_
  refine WR.nil ?_
  refine WQ.then ?_
  refine WC.condT rfl ?_
  refine WC.seq ?_
  refine WC.draw (m := 9) rfl rfl H ?_
  intro w H
  refine WA.two (i := 0) (j := 1) (by kernel_rfl) rfl rfl ?_ ?_
  ·
    first | refine WR.step (Ex.loadAgg H rfl (by repeat (first | exact List.Mem.head _ | apply List.Mem.tail)) Tryd.isAgg28 Tryd.sizeOf28 (by rfl)) (Wn.none rfl) rfl rfl ?_ | refine WR.step (Ex.loadAggM H rfl (by assumption) Tryd.isAgg28 Tryd.sizeOf28 (by rfl)) (Wn.none rfl) rfl rfl ?_
    refine WR.nil (WQ.any ?_)
    refine WA.one (i := 1) (by kernel_rfl) rfl ?_
    refine WR.call H (at_spec _ _) rfl (trivial) (Wn.none rfl) rfl ?_
    intro v43 M w H hle hr43
    replace hp := hp.mono hle
    obtain rfl := hr43
    refine WR.nil (WQ.any ?_)
    refine WA.one (i := 2) (by kernel_rfl) rfl ?_
    refine WR.stepT (Ex.eqlAgg rfl rfl (by kernel_rfl) (eq28 _ _ _ _)) ⟨rfl, rfl⟩ (Wn.none rfl) rfl rfl ?_
    refine WR.nil (WQ.any ?_)
    refine WA.one (i := 3) (by kernel_rfl) rfl ?_
    refine WR.step (Ex.move rfl) (Wn.none rfl) rfl rfl ?_
    refine WR.nil (WQ.any ?_)
    refine WA.one (i := 4) (by kernel_rfl) rfl ?_
    refine WR.step (Ex.move rfl) (Wn.some rfl rfl rfl) rfl rfl ?_
    refine WR.nil (WQ.any ?_)
    refine WA.one (i := 5) (by kernel_rfl) rfl ?_
    first | refine WR.step (Ex.lenSl Tryd.underlying34 (by assumption) rfl) (Wn.some rfl rfl rfl) rfl rfl ?_ | refine WR.step (Ex.lenRow Tryd.underlying34 H (by repeat (first | exact List.Mem.head _ | apply List.Mem.tail)) rfl) (Wn.some rfl rfl rfl) rfl rfl ?_ | refine WR.step (Ex.lenSlice Tryd.underlying34 rfl) (Wn.some rfl rfl rfl) rfl rfl ?_
    refine WR.nil (WQ.any ?_)
    refine WA.one (i := 6) (by kernel_rfl) rfl ?_
    refine WR.stepT (Ex.eql rfl rfl) rfl (Wn.some rfl rfl rfl) rfl rfl ?_
    refine WR.nil (WQ.any ?_)
    refine WA.one (i := 7) (by kernel_rfl) rfl ?_
    refine WR.step (Ex.pickT rfl rfl) (Wn.none rfl) rfl rfl ?_
    refine WR.nil (WQ.any ?_)
    refine WA.one (i := 8) (by kernel_rfl) rfl ?_
    refine WR.step (Ex.assign rfl) (Wn.none rfl) rfl rfl ?_
    refine WR.nil (WQ.any ?_)
    refine WA.done (by kernel_rfl) ?_
    refine WQ.then ?_
    refine WC.ret ?_
    (repeat (first | refine WQ.thenRet ?_ | refine WQ.inBlockRet ?_))
    refine WQ.ret1 rfl rfl H.ext ?_
    exact rfl
  ·
    refine WR.call H (at_spec _ _) rfl (trivial) (Wn.none rfl) rfl ?_
    intro v43 M w H hle hr43
    replace hp := hp.mono hle
    obtain rfl := hr43
    refine WR.nil (WQ.any ?_)
    refine WA.one (i := 0) (by kernel_rfl) rfl ?_
    first | refine WR.step (Ex.loadAgg H rfl (by repeat (first | exact List.Mem.head _ | apply List.Mem.tail)) Tryd.isAgg28 Tryd.sizeOf28 (by rfl)) (Wn.none rfl) rfl rfl ?_ | refine WR.step (Ex.loadAggM H rfl (by assumption) Tryd.isAgg28 Tryd.sizeOf28 (by rfl)) (Wn.none rfl) rfl rfl ?_
    refine WR.nil (WQ.any ?_)
    refine WA.one (i := 2) (by kernel_rfl) rfl ?_
    refine WR.stepT (Ex.eqlAgg rfl rfl (by kernel_rfl) (eq28 _ _ _ _)) ⟨rfl, rfl⟩ (Wn.none rfl) rfl rfl ?_
    refine WR.nil (WQ.any ?_)
    refine WA.one (i := 3) (by kernel_rfl) rfl ?_
    refine WR.step (Ex.move rfl) (Wn.none rfl) rfl rfl ?_
    refine WR.nil (WQ.any ?_)
    refine WA.one (i := 4) (by kernel_rfl) rfl ?_
    refine WR.step (Ex.move rfl) (Wn.some rfl rfl rfl) rfl rfl ?_
    refine WR.nil (WQ.any ?_)
    refine WA.one (i := 5) (by kernel_rfl) rfl ?_
    first | refine WR.step (Ex.lenSl Tryd.underlying34 (by assumption) rfl) (Wn.some rfl rfl rfl) rfl rfl ?_ | refine WR.step (Ex.lenRow Tryd.underlying34 H (by repeat (first | exact List.Mem.head _ | apply List.Mem.tail)) rfl) (Wn.some rfl rfl rfl) rfl rfl ?_ | refine WR.step (Ex.lenSlice Tryd.underlying34 rfl) (Wn.some rfl rfl rfl) rfl rfl ?_
    refine WR.nil (WQ.any ?_)
    refine WA.one (i := 6) (by kernel_rfl) rfl ?_
    refine WR.stepT (Ex.eql rfl rfl) rfl (Wn.some rfl rfl rfl) rfl rfl ?_
    refine WR.nil (WQ.any ?_)
    refine WA.one (i := 7) (by kernel_rfl) rfl ?_
    refine WR.step (Ex.pickT rfl rfl) (Wn.none rfl) rfl rfl ?_
    refine WR.nil (WQ.any ?_)
    refine WA.one (i := 8) (by kernel_rfl) rfl ?_
    refine WR.step (Ex.assign rfl) (Wn.none rfl) rfl rfl ?_
    refine WR.nil (WQ.any ?_)
    refine WA.done (by kernel_rfl) ?_
    refine WQ.then ?_
    refine WC.ret ?_
    (repeat (first | refine WQ.thenRet ?_ | refine WQ.inBlockRet ?_))
    refine WQ.ret1 rfl rfl H.ext ?_
    exact rfl

theorem c2_err (name l : List UInt8) (hn : name.length ≤ maxLen) (hs : l.length ≤ 12000) (k : Nat) (hk : setOf name = some k) (hv : vld l = true) (e : Nat) (hg : encGo (encK k) (chars l) 0 = .error e) : Ct Tryd.prog 9 [S name, S l] (fun M => Tabs M) (fun r _ => r = .bool true) := by
  refine Ct.of Tryd.func9 (enters Tryd.func9 (by kernel_rfl) rfl) rfl rfl rfl ?_
  intro w0 M0 H hp
  refine WC.seq ?_
  refine WC.region ?_
  refine WR.step (Ex.assign rfl) (Wn.none rfl) rfl rfl ?_
  refine WR.nil ?_
  refine WQ.then ?_
  refine WC.seq ?_
  refine WC.seq ?_
  refine WC.region ?_
  refine WR.call H (chx_spec) rfl (by assumption) (Wn.none rfl) rfl ?_
  intro v9 M w H hle hr9
  replace hp := hp.mono hle
  obtain rfl := hr9
  refine WR.step (Ex.notT rfl) (Wn.none rfl) rfl rfl ?_
  refine WR.nil ?_
  refine WQ.then ?_
  refine WC.condF rfl ?_
  refine WC.skip ?_
  refine WQ.then ?_
  refine WC.seq ?_
  refine WC.region ?_
  refine WR.step (Ex.move rfl) (Wn.none rfl) rfl rfl ?_
  refine WR.step (Ex.move rfl) (Wn.none rfl) rfl rfl ?_
  refine WR.call H (encode_err hn hs hk hv hg) rfl (by assumption) (Wn.none rfl) rfl ?_
  intro v14 M w H hle hr14
  replace hp := hp.mono hle
  obtain rfl := hr14
  refine WR.step (Ex.move rfl) (Wn.none rfl) rfl rfl ?_
  refine WR.step (Ex.extract rfl rfl) (Wn.none rfl) rfl rfl ?_
  refine WR.step (Ex.extract rfl rfl) (Wn.none rfl) rfl rfl ?_
  refine WR.alloc [_, _] H Tryd.zeroValue28 rfl (Wn.none rfl) rfl ?_
  intro b6 w H
  refine WR.step (Ex.assign rfl) (Wn.none rfl) rfl rfl ?_
  refine WR.store [_, _] H rfl rfl rfl (by repeat (first | exact Upd.head | apply Upd.tail)) Tryd.sizeOf28 rfl (by rfl) (by rfl) (Wn.none rfl) ?_
  intro w H
  refine WR.nil ?_
  refine WQ.then ?_
  refine WC.seq ?_
  refine WC.seq ?_
  refine WC.region ?_
  refine WR.step (Ex.move rfl) (Wn.none rfl) rfl rfl ?_
  refine WR.step (Ex.lenStr Tryd.underlying9 rfl) (Wn.none rfl) rfl rfl ?_
  refine WR.stepF (Ex.gtr rfl rfl) (by omega) (Wn.none rfl) rfl rfl ?_
  refine WR.nil ?_
  refine WQ.then ?_
  refine WC.condF rfl ?_
  refine WC.skip ?_
  refine WQ.then ?_
  refine WC.seq ?_
  refine WC.seq ?_
  refine WC.region ?_
  refine WR.step (Ex.move rfl) (Wn.none rfl) rfl rfl ?_
  refine WR.call H (Ct.mono (setOf_spec name hn) (R' := fun r _ => r = I (k : Int)) (fun _ _ h => by rw [setI_some hk] at h; exact h)) rfl (trivial) (Wn.none rfl) rfl ?_
  intro v29 M w H hle hr29
  replace hp := hp.mono hle
  obtain rfl := hr29
  refine WR.stepF (Ex.lss rfl rfl) (by omega) (Wn.none rfl) rfl rfl ?_
  refine WR.nil ?_
  refine WQ.then ?_
  refine WC.condF rfl ?_
  refine WC.skip ?_
  refine WQ.then ?_
  refine WC.seq ?_
  refine WC.seq ?_
  refine WC.region ?_
  refine WR.step (Ex.move rfl) (Wn.none rfl) rfl rfl ?_
  refine WR.call H (Ct.mono (valid_spec l (by omega)) (R' := fun r _ => r = .bool true) (fun _ _ h => by rw [hv] at h; exact h)) rfl (trivial) (Wn.none rfl) rfl ?_
  intro v40 M w H hle hr40
  replace hp := hp.mono hle
  obtain rfl := hr40
  refine WR.step (Ex.notT rfl) (Wn.none rfl) rfl rfl ?_
  refine WR.nil ?_
  refine WQ.then ?_
  refine WC.condF rfl ?_
  refine WC.skip ?_
  refine WQ.then ?_
  refine WC.seq ?_
  refine WC.region ?_
  refine WR.step (Ex.move rfl) (Wn.none rfl) rfl rfl ?_
  refine WR.call H (Ct.mono (setOf_spec name hn) (R' := fun r _ => r = I (k : Int)) (fun _ _ h => by rw [setI_some hk] at h; exact h)) rfl (trivial) (Wn.none rfl) rfl ?_
  intro v52 M w H hle hr52
  replace hp := hp.mono hle
  obtain rfl := hr52
  refine WR.step (Ex.move rfl) (Wn.none rfl) rfl rfl ?_
  refine WR.call H (encoded_err (setOf_lt hk) (by omega) hv hg) rfl (trivial) (Wn.none rfl) rfl ?_
  intro v54 M w H hle hr54
  replace hp := hp.mono hle
  obtain rfl := hr54
  refine WR.step (Ex.move rfl) (Wn.none rfl) rfl rfl ?_
  refine WR.step (Ex.extract rfl rfl) (Wn.none rfl) rfl rfl ?_
  refine WR.step (Ex.extract rfl rfl) (Wn.none rfl) rfl rfl ?_
  refine WR.step (Ex.assign rfl) (Wn.none rfl) rfl rfl ?_
  refine WR.step (Ex.assign rfl) (Wn.none rfl) rfl rfl ?_
  refine WR.nil ?_
  refine WQ.then ?_
  refine WC.seq ?_
  refine WC.seq ?_
  refine WC.region ?_
  refine WR.step (Ex.move rfl) (Wn.none rfl) rfl rfl ?_
  refine WR.stepT (Ex.geq rfl rfl) (by omega) (Wn.none rfl) rfl rfl ?_
  refine WR.nil ?_
  refine WQ.then ?_
  refine WC.condT rfl ?_
  refine WC.seq ?_
  refine WC.draw (m := 10) rfl rfl H ?_
  intro w H
  refine WA.take (i := 1) rfl (by kernel_rfl) (by kernel_rfl) (by kernel_rfl) (fun _ => Ex.move rfl) (Wn.none rfl) rfl rfl (fun _ _ => rfl) ?_
  refine WA.two (i := 0) (j := 2) (by kernel_rfl) rfl rfl ?_ ?_
  ·
    first | refine WR.step (Ex.loadAgg H rfl (by repeat (first | exact List.Mem.head _ | apply List.Mem.tail)) Tryd.isAgg28 Tryd.sizeOf28 (by rfl)) (Wn.none rfl) rfl rfl ?_ | refine WR.step (Ex.loadAggM H rfl (by assumption) Tryd.isAgg28 Tryd.sizeOf28 (by rfl)) (Wn.none rfl) rfl rfl ?_
    refine WR.nil (WQ.any ?_)
    refine WA.one (i := 2) (by kernel_rfl) rfl ?_
    refine WR.call H (at_spec _ _) rfl (trivial) (Wn.none rfl) rfl ?_
    intro v61 M w H hle hr61
    replace hp := hp.mono hle
    obtain rfl := hr61
    refine WR.nil (WQ.any ?_)
    refine WA.one (i := 3) (by kernel_rfl) rfl ?_
    refine WR.stepT (Ex.eqlAgg rfl rfl (by kernel_rfl) (eq28 _ _ _ _)) ⟨rfl, rfl⟩ (Wn.none rfl) rfl rfl ?_
    refine WR.nil (WQ.any ?_)
    refine WA.one (i := 4) (by kernel_rfl) rfl ?_
    refine WR.step (Ex.move rfl) (Wn.none rfl) rfl rfl ?_
    refine WR.nil (WQ.any ?_)
    refine WA.one (i := 5) (by kernel_rfl) rfl ?_
    refine WR.step (Ex.move rfl) (Wn.some rfl rfl rfl) rfl rfl ?_
    refine WR.nil (WQ.any ?_)
    refine WA.one (i := 6) (by kernel_rfl) rfl ?_
    first | refine WR.step (Ex.lenSl Tryd.underlying34 (by assumption) rfl) (Wn.some rfl rfl rfl) rfl rfl ?_ | refine WR.step (Ex.lenRow Tryd.underlying34 H (by repeat (first | exact List.Mem.head _ | apply List.Mem.tail)) rfl) (Wn.some rfl rfl rfl) rfl rfl ?_ | refine WR.step (Ex.lenSlice Tryd.underlying34 rfl) (Wn.some rfl rfl rfl) rfl rfl ?_
    refine WR.nil (WQ.any ?_)
    refine WA.one (i := 7) (by kernel_rfl) rfl ?_
    refine WR.stepT (Ex.eql rfl rfl) rfl (Wn.some rfl rfl rfl) rfl rfl ?_
    refine WR.nil (WQ.any ?_)
    refine WA.one (i := 8) (by kernel_rfl) rfl ?_
    refine WR.step (Ex.pickT rfl rfl) (Wn.none rfl) rfl rfl ?_
    refine WR.nil (WQ.any ?_)
    refine WA.one (i := 9) (by kernel_rfl) rfl ?_
    refine WR.step (Ex.assign rfl) (Wn.none rfl) rfl rfl ?_
    refine WR.nil (WQ.any ?_)
    refine WA.done (by kernel_rfl) ?_
    refine WQ.then ?_
    refine WC.ret ?_
    (repeat (first | refine WQ.thenRet ?_ | refine WQ.inBlockRet ?_))
    refine WQ.ret1 rfl rfl H.ext ?_
    exact rfl
  ·
    refine WR.call H (at_spec _ _) rfl (trivial) (Wn.none rfl) rfl ?_
    intro v61 M w H hle hr61
    replace hp := hp.mono hle
    obtain rfl := hr61
    refine WR.nil (WQ.any ?_)
    refine WA.one (i := 0) (by kernel_rfl) rfl ?_
    first | refine WR.step (Ex.loadAgg H rfl (by repeat (first | exact List.Mem.head _ | apply List.Mem.tail)) Tryd.isAgg28 Tryd.sizeOf28 (by rfl)) (Wn.none rfl) rfl rfl ?_ | refine WR.step (Ex.loadAggM H rfl (by assumption) Tryd.isAgg28 Tryd.sizeOf28 (by rfl)) (Wn.none rfl) rfl rfl ?_
    refine WR.nil (WQ.any ?_)
    refine WA.one (i := 3) (by kernel_rfl) rfl ?_
    refine WR.stepT (Ex.eqlAgg rfl rfl (by kernel_rfl) (eq28 _ _ _ _)) ⟨rfl, rfl⟩ (Wn.none rfl) rfl rfl ?_
    refine WR.nil (WQ.any ?_)
    refine WA.one (i := 4) (by kernel_rfl) rfl ?_
    refine WR.step (Ex.move rfl) (Wn.none rfl) rfl rfl ?_
    refine WR.nil (WQ.any ?_)
    refine WA.one (i := 5) (by kernel_rfl) rfl ?_
    refine WR.step (Ex.move rfl) (Wn.some rfl rfl rfl) rfl rfl ?_
    refine WR.nil (WQ.any ?_)
    refine WA.one (i := 6) (by kernel_rfl) rfl ?_
    first | refine WR.step (Ex.lenSl Tryd.underlying34 (by assumption) rfl) (Wn.some rfl rfl rfl) rfl rfl ?_ | refine WR.step (Ex.lenRow Tryd.underlying34 H (by repeat (first | exact List.Mem.head _ | apply List.Mem.tail)) rfl) (Wn.some rfl rfl rfl) rfl rfl ?_ | refine WR.step (Ex.lenSlice Tryd.underlying34 rfl) (Wn.some rfl rfl rfl) rfl rfl ?_
    refine WR.nil (WQ.any ?_)
    refine WA.one (i := 7) (by kernel_rfl) rfl ?_
    refine WR.stepT (Ex.eql rfl rfl) rfl (Wn.some rfl rfl rfl) rfl rfl ?_
    refine WR.nil (WQ.any ?_)
    refine WA.one (i := 8) (by kernel_rfl) rfl ?_
    refine WR.step (Ex.pickT rfl rfl) (Wn.none rfl) rfl rfl ?_
    refine WR.nil (WQ.any ?_)
    refine WA.one (i := 9) (by kernel_rfl) rfl ?_
    refine WR.step (Ex.assign rfl) (Wn.none rfl) rfl rfl ?_
    refine WR.nil (WQ.any ?_)
    refine WA.done (by kernel_rfl) ?_
    refine WQ.then ?_
    refine WC.ret ?_
    (repeat (first | refine WQ.thenRet ?_ | refine WQ.inBlockRet ?_))
    refine WQ.ret1 rfl rfl H.ext ?_
    exact rfl

theorem c2_ok (name l : List UInt8) (hn : name.length ≤ maxLen) (hs : l.length ≤ 12000) (k : Nat) (hk : setOf name = some k) (hv : vld l = true) (b : List UInt8) (hg : encGo (encK k) (chars l) 0 = .ok b) : Ct Tryd.prog 9 [S name, S l] (fun M => Tabs M) (fun r _ => r = .bool true) := by
  refine Ct.of Tryd.func9 (enters Tryd.func9 (by kernel_rfl) rfl) rfl rfl rfl ?_
  intro w0 M0 H hp
  refine WC.seq ?_
  refine WC.region ?_
  refine WR.step (Ex.assign rfl) (Wn.none rfl) rfl rfl ?_
  refine WR.nil ?_
  refine WQ.then ?_
  refine WC.seq ?_
  refine WC.seq ?_
  refine WC.region ?_
  refine WR.call H (chx_spec) rfl (by assumption) (Wn.none rfl) rfl ?_
  intro v9 M w H hle hr9
  replace hp := hp.mono hle
  obtain rfl := hr9
  refine WR.step (Ex.notT rfl) (Wn.none rfl) rfl rfl ?_
  refine WR.nil ?_
  refine WQ.then ?_
  refine WC.condF rfl ?_
  refine WC.skip ?_
  refine WQ.then ?_
  refine WC.seq ?_
  refine WC.region ?_
  refine WR.step (Ex.move rfl) (Wn.none rfl) rfl rfl ?_
  refine WR.step (Ex.move rfl) (Wn.none rfl) rfl rfl ?_
  refine WR.call H (encode_ok hn hs hk hv hg) rfl (by assumption) (Wn.none rfl) rfl ?_
  intro v14 M w H hle hr14
  replace hp := hp.mono hle
  obtain ⟨v14, rfl, hf14⟩ := hr14
  refine WR.step (Ex.move rfl) (Wn.none rfl) rfl rfl ?_
  refine WR.step (Ex.extract rfl rfl) (Wn.none rfl) rfl rfl ?_
  refine WR.step (Ex.extract rfl rfl) (Wn.none rfl) rfl rfl ?_
  refine WR.alloc [_, _] H Tryd.zeroValue28 rfl (Wn.none rfl) rfl ?_
  intro b6 w H
  refine WR.step (Ex.assign rfl) (Wn.none rfl) rfl rfl ?_
  refine WR.store [_, _] H rfl rfl rfl (by repeat (first | exact Upd.head | apply Upd.tail)) Tryd.sizeOf28 rfl (by rfl) (by rfl) (Wn.none rfl) ?_
  intro w H
  refine WR.nil ?_
  refine WQ.then ?_
  refine WC.seq ?_
  refine WC.seq ?_
  refine WC.region ?_
  refine WR.step (Ex.move rfl) (Wn.none rfl) rfl rfl ?_
  refine WR.step (Ex.lenStr Tryd.underlying9 rfl) (Wn.none rfl) rfl rfl ?_
  refine WR.stepF (Ex.gtr rfl rfl) (by omega) (Wn.none rfl) rfl rfl ?_
  refine WR.nil ?_
  refine WQ.then ?_
  refine WC.condF rfl ?_
  refine WC.skip ?_
  refine WQ.then ?_
  refine WC.seq ?_
  refine WC.seq ?_
  refine WC.region ?_
  refine WR.step (Ex.move rfl) (Wn.none rfl) rfl rfl ?_
  refine WR.call H (Ct.mono (setOf_spec name hn) (R' := fun r _ => r = I (k : Int)) (fun _ _ h => by rw [setI_some hk] at h; exact h)) rfl (trivial) (Wn.none rfl) rfl ?_
  intro v29 M w H hle hr29
  replace hp := hp.mono hle
  replace hf14 := hf14.mono hle
  obtain rfl := hr29
  refine WR.stepF (Ex.lss rfl rfl) (by omega) (Wn.none rfl) rfl rfl ?_
  refine WR.nil ?_
  refine WQ.then ?_
  refine WC.condF rfl ?_
  refine WC.skip ?_
  refine WQ.then ?_
  refine WC.seq ?_
  refine WC.seq ?_
  refine WC.region ?_
  refine WR.step (Ex.move rfl) (Wn.none rfl) rfl rfl ?_
  refine WR.call H (Ct.mono (valid_spec l (by omega)) (R' := fun r _ => r = .bool true) (fun _ _ h => by rw [hv] at h; exact h)) rfl (trivial) (Wn.none rfl) rfl ?_
  intro v40 M w H hle hr40
  replace hp := hp.mono hle
  replace hf14 := hf14.mono hle
  obtain rfl := hr40
  refine WR.step (Ex.notT rfl) (Wn.none rfl) rfl rfl ?_
  refine WR.nil ?_
  refine WQ.then ?_
  refine WC.condF rfl ?_
  refine WC.skip ?_
  refine WQ.then ?_
  refine WC.seq ?_
  refine WC.region ?_
  refine WR.step (Ex.move rfl) (Wn.none rfl) rfl rfl ?_
  refine WR.call H (Ct.mono (setOf_spec name hn) (R' := fun r _ => r = I (k : Int)) (fun _ _ h => by rw [setI_some hk] at h; exact h)) rfl (trivial) (Wn.none rfl) rfl ?_
  intro v52 M w H hle hr52
  replace hp := hp.mono hle
  replace hf14 := hf14.mono hle
  obtain rfl := hr52
  refine WR.step (Ex.move rfl) (Wn.none rfl) rfl rfl ?_
  refine WR.call H (encoded_ok (setOf_lt hk) (by omega) hv hg) rfl (trivial) (Wn.none rfl) rfl ?_
  intro v54 M w H hle hr54
  replace hp := hp.mono hle
  replace hf14 := hf14.mono hle
  obtain ⟨v54, rfl, hf54⟩ := hr54
  refine WR.step (Ex.move rfl) (Wn.none rfl) rfl rfl ?_
  refine WR.step (Ex.extract rfl rfl) (Wn.none rfl) rfl rfl ?_
  refine WR.step (Ex.extract rfl rfl) (Wn.none rfl) rfl rfl ?_
  refine WR.step (Ex.assign rfl) (Wn.none rfl) rfl rfl ?_
  refine WR.step (Ex.assign rfl) (Wn.none rfl) rfl rfl ?_
  refine WR.nil ?_
  refine WQ.then ?_
  refine WC.seq ?_
  refine WC.seq ?_
  refine WC.region ?_
  refine WR.step (Ex.move rfl) (Wn.none rfl) rfl rfl ?_
  refine WR.stepF (Ex.geq rfl rfl) (by decide) (Wn.none rfl) rfl rfl ?_
  refine WR.nil ?_
  refine WQ.then ?_
  refine WC.condF rfl ?_
  refine WC.skip ?_
  refine WQ.then ?_
  refine WC.seq ?_
  refine WC.region ?_
  refine WR.step (Ex.fieldAddr Tryd.underlying28 rfl Tryd.sizeOf3 (by decide) rfl) (Wn.none rfl) rfl rfl ?_
  first | refine WR.step (Ex.loadM H rfl (by assumption) Tryd.isAgg3) (Wn.none rfl) rfl rfl ?_ | refine WR.step (Ex.load1 H rfl (by repeat (first | exact List.Mem.head _ | apply List.Mem.tail)) Tryd.isAgg3 (by rfl)) (Wn.none rfl) rfl rfl ?_
  refine WR.stepT (Ex.eql rfl rfl) rfl (Wn.none rfl) rfl rfl ?_
  refine WR.step (Ex.move rfl) (Wn.none rfl) rfl rfl ?_
  refine WR.step (Ex.move rfl) (Wn.some rfl rfl rfl) rfl rfl ?_
  refine WR.step (Ex.move rfl) (Wn.some rfl rfl rfl) rfl rfl ?_
  refine WR.call H (Ct.mono (bytes_spec _ _ b b) (R' := fun r _ => r = .bool true) (fun _ _ h => h.trans (congrArg Value.bool (decide_eq_true rfl)))) rfl (⟨by assumption, by assumption⟩) (Wn.some rfl rfl rfl) rfl ?_
  intro v74 M w H hle hr74
  replace hp := hp.mono hle
  replace hf14 := hf14.mono hle
  replace hf54 := hf54.mono hle
  obtain rfl := hr74
  refine WR.step (Ex.pickT rfl rfl) (Wn.none rfl) rfl rfl ?_
  refine WR.step (Ex.assign rfl) (Wn.none rfl) rfl rfl ?_
  refine WR.nil ?_
  refine WQ.then ?_
  refine WC.ret ?_
  (repeat (first | refine WQ.thenRet ?_ | refine WQ.inBlockRet ?_))
  refine WQ.ret1 rfl rfl H.ext ?_
  exact rfl

theorem c3_big (name l : List UInt8) (hn : name.length ≤ maxLen) (hs : 12000 < l.length) : Ct Tryd.prog 10 [S name, S l] (fun M => Tabs M) (fun r _ => r = .bool true) := by
  refine Ct.of Tryd.func10 (enters Tryd.func10 (by kernel_rfl) rfl) rfl rfl rfl ?_
  intro w0 M0 H hp
  refine WC.seq ?_
  refine WC.region ?_
  refine WR.step (Ex.assign rfl) (Wn.none rfl) rfl rfl ?_
  refine WR.nil ?_
  refine WQ.then ?_
  refine WC.seq ?_
  refine WC.seq ?_
  refine WC.region ?_
  refine WR.call H (chx_spec) rfl (by assumption) (Wn.none rfl) rfl ?_
  intro v9 M w H hle hr9
  replace hp := hp.mono hle
  obtain rfl := hr9
  refine WR.step (Ex.notT rfl) (Wn.none rfl) rfl rfl ?_
  refine WR.nil ?_
  refine WQ.then ?_
  refine WC.condF rfl ?_
  refine WC.skip ?_
  refine WQ.then ?_
  refine WC.seq ?_
  refine WC.region ?_
  refine WR.step (Ex.move rfl) (Wn.none rfl) rfl rfl ?_
  refine WR.step (Ex.move rfl) (Wn.none rfl) rfl rfl ?_
  refine WR.call H (encode_big _ _ hn hs) rfl (by assumption) (Wn.none rfl) rfl ?_
  intro v14 M w H hle hr14
  replace hp := hp.mono hle
  obtain rfl := hr14
  refine WR.step (Ex.move rfl) (Wn.none rfl) rfl rfl ?_
  refine WR.step (Ex.extract rfl rfl) (Wn.none rfl) rfl rfl ?_
  refine WR.step (Ex.extract rfl rfl) (Wn.none rfl) rfl rfl ?_
  refine WR.alloc [_, _] H Tryd.zeroValue28 rfl (Wn.none rfl) rfl ?_
  intro b6 w H
  refine WR.step (Ex.assign rfl) (Wn.none rfl) rfl rfl ?_
  refine WR.store [_, _] H rfl rfl rfl (by repeat (first | exact Upd.head | apply Upd.tail)) Tryd.sizeOf28 rfl (by rfl) (by rfl) (Wn.none rfl) ?_
  intro w H
  refine WR.nil ?_
  refine WQ.then ?_
  refine WC.seq ?_
  refine WC.seq ?_
  refine WC.region ?_
  refine WR.step (Ex.fieldAddr Tryd.underlying28 rfl Tryd.sizeOf3 (by decide) rfl) (Wn.none rfl) rfl rfl ?_
  first | refine WR.step (Ex.loadM H rfl (by assumption) Tryd.isAgg3) (Wn.none rfl) rfl rfl ?_ | refine WR.step (Ex.load1 H rfl (by repeat (first | exact List.Mem.head _ | apply List.Mem.tail)) Tryd.isAgg3 (by rfl)) (Wn.none rfl) rfl rfl ?_
  refine WR.stepT (Ex.neq rfl rfl) (by decide) (Wn.none rfl) rfl rfl ?_
  refine WR.nil ?_
  refine WQ.then ?_
  refine WC.condT rfl ?_
  refine WC.seq ?_
  refine WC.region ?_
  refine WR.step (Ex.move rfl) (Wn.none rfl) rfl rfl ?_
  first | refine WR.step (Ex.lenSl Tryd.underlying34 (by assumption) rfl) (Wn.none rfl) rfl rfl ?_ | refine WR.step (Ex.lenRow Tryd.underlying34 H (by repeat (first | exact List.Mem.head _ | apply List.Mem.tail)) rfl) (Wn.none rfl) rfl rfl ?_ | refine WR.step (Ex.lenSlice Tryd.underlying34 rfl) (Wn.none rfl) rfl rfl ?_
  refine WR.stepT (Ex.eql rfl rfl) rfl (Wn.none rfl) rfl rfl ?_
  refine WR.step (Ex.assign rfl) (Wn.none rfl) rfl rfl ?_
  refine WR.nil ?_
  refine WQ.then ?_
  refine WC.ret ?_
  (repeat (first | refine WQ.thenRet ?_ | refine WQ.inBlockRet ?_))
  refine WQ.ret1 rfl rfl H.ext ?_
  exact rfl

theorem c3_unk (name l : List UInt8) (hn : name.length ≤ maxLen) (hs : l.length ≤ 12000) (hk : setOf name = none) : Ct Tryd.prog 10 [S name, S l] (fun M => Tabs M) (fun r _ => r = .bool true) := by
  refine Ct.of Tryd.func10 (enters Tryd.func10 (by kernel_rfl) rfl) rfl rfl rfl ?_
  intro w0 M0 H hp
  refine WC.seq ?_
  refine WC.region ?_
  refine WR.step (Ex.assign rfl) (Wn.none rfl) rfl rfl ?_
  refine WR.nil ?_
  refine WQ.then ?_
  refine WC.seq ?_
  refine WC.seq ?_
  refine WC.region ?_
  refine WR.call H (chx_spec) rfl (by assumption) (Wn.none rfl) rfl ?_
  intro v9 M w H hle hr9
  replace hp := hp.mono hle
  obtain rfl := hr9
  refine WR.step (Ex.notT rfl) (Wn.none rfl) rfl rfl ?_
  refine WR.nil ?_
  refine WQ.then ?_
  refine WC.condF rfl ?_
  refine WC.skip ?_
  refine WQ.then ?_
  refine WC.seq ?_
  refine WC.region ?_
  refine WR.step (Ex.move rfl) (Wn.none rfl) rfl rfl ?_
  refine WR.step (Ex.move rfl) (Wn.none rfl) rfl rfl ?_
  refine WR.call H (encode_unk _ _ hn hs hk) rfl (by assumption) (Wn.none rfl) rfl ?_
  intro v14 M w H hle hr14
  replace hp := hp.mono hle
  obtain rfl := hr14
  refine WR.step (Ex.move rfl) (Wn.none rfl) rfl rfl ?_
  refine WR.step (Ex.extract rfl rfl) (Wn.none rfl) rfl rfl ?_
  refine WR.step (Ex.extract rfl rfl) (Wn.none rfl) rfl rfl ?_
  refine WR.alloc [_, _] H Tryd.zeroValue28 rfl (Wn.none rfl) rfl ?_
  intro b6 w H
  refine WR.step (Ex.assign rfl) (Wn.none rfl) rfl rfl ?_
  refine WR.store [_, _] H rfl rfl rfl (by repeat (first | exact Upd.head | apply Upd.tail)) Tryd.sizeOf28 rfl (by rfl) (by rfl) (Wn.none rfl) ?_
  intro w H
  refine WR.nil ?_
  refine WQ.then ?_
  refine WC.seq ?_
  refine WC.seq ?_
  refine WC.region ?_
  refine WR.step (Ex.fieldAddr Tryd.underlying28 rfl Tryd.sizeOf3 (by decide) rfl) (Wn.none rfl) rfl rfl ?_
  first | refine WR.step (Ex.loadM H rfl (by assumption) Tryd.isAgg3) (Wn.none rfl) rfl rfl ?_ | refine WR.step (Ex.load1 H rfl (by repeat (first | exact List.Mem.head _ | apply List.Mem.tail)) Tryd.isAgg3 (by rfl)) (Wn.none rfl) rfl rfl ?_
  refine WR.stepT (Ex.neq rfl rfl) (by decide) (Wn.none rfl) rfl rfl ?_
  refine WR.nil ?_
  refine WQ.then ?_
  refine WC.condT rfl ?_
  refine WC.seq ?_
  refine WC.region ?_
  refine WR.step (Ex.move rfl) (Wn.none rfl) rfl rfl ?_
  first | refine WR.step (Ex.lenSl Tryd.underlying34 (by assumption) rfl) (Wn.none rfl) rfl rfl ?_ | refine WR.step (Ex.lenRow Tryd.underlying34 H (by repeat (first | exact List.Mem.head _ | apply List.Mem.tail)) rfl) (Wn.none rfl) rfl rfl ?_ | refine WR.step (Ex.lenSlice Tryd.underlying34 rfl) (Wn.none rfl) rfl rfl ?_
  refine WR.stepT (Ex.eql rfl rfl) rfl (Wn.none rfl) rfl rfl ?_
  refine WR.step (Ex.assign rfl) (Wn.none rfl) rfl rfl ?_
  refine WR.nil ?_
  refine WQ.then ?_
  refine WC.ret ?_
  (repeat (first | refine WQ.thenRet ?_ | refine WQ.inBlockRet ?_))
  refine WQ.ret1 rfl rfl H.ext ?_
  exact rfl

theorem c3_mal (name l : List UInt8) (hn : name.length ≤ maxLen) (hs : l.length ≤ 12000) (k : Nat) (hk : setOf name = some k) (hv : vld l = false) : Ct Tryd.prog 10 [S name, S l] (fun M => Tabs M) (fun r _ => r = .bool true) := by
  refine Ct.of Tryd.func10 (enters Tryd.func10 (by kernel_rfl) rfl) rfl rfl rfl ?_
  intro w0 M0 H hp
  refine WC.seq ?_
  refine WC.region ?_
  refine WR.step (Ex.assign rfl) (Wn.none rfl) rfl rfl ?_
  refine WR.nil ?_
  refine WQ.then ?_
  refine WC.seq ?_
  refine WC.seq ?_
  refine WC.region ?_
  refine WR.call H (chx_spec) rfl (by assumption) (Wn.none rfl) rfl ?_
  intro v9 M w H hle hr9
  replace hp := hp.mono hle
  obtain rfl := hr9
  refine WR.step (Ex.notT rfl) (Wn.none rfl) rfl rfl ?_
  refine WR.nil ?_
  refine WQ.then ?_
  refine WC.condF rfl ?_
  refine WC.skip ?_
  refine WQ.then ?_
  refine WC.seq ?_
  refine WC.region ?_
  refine WR.step (Ex.move rfl) (Wn.none rfl) rfl rfl ?_
  refine WR.step (Ex.move rfl) (Wn.none rfl) rfl rfl ?_
  refine WR.call H (encode_mal _ _ hn hs k hk hv) rfl (by assumption) (Wn.none rfl) rfl ?_
  intro v14 M w H hle hr14
  replace hp := hp.mono hle
  obtain rfl := hr14
  refine WR.step (Ex.move rfl) (Wn.none rfl) rfl rfl ?_
  refine WR.step (Ex.extract rfl rfl) (Wn.none rfl) rfl rfl ?_
  refine WR.step (Ex.extract rfl rfl) (Wn.none rfl) rfl rfl ?_
  refine WR.alloc [_, _] H Tryd.zeroValue28 rfl (Wn.none rfl) rfl ?_
  intro b6 w H
  refine WR.step (Ex.assign rfl) (Wn.none rfl) rfl rfl ?_
  refine WR.store [_, _] H rfl rfl rfl (by repeat (first | exact Upd.head | apply Upd.tail)) Tryd.sizeOf28 rfl (by rfl) (by rfl) (Wn.none rfl) ?_
  intro w H
  refine WR.nil ?_
  refine WQ.then ?_
  refine WC.seq ?_
  refine WC.seq ?_
  refine WC.region ?_
  refine WR.step (Ex.fieldAddr Tryd.underlying28 rfl Tryd.sizeOf3 (by decide) rfl) (Wn.none rfl) rfl rfl ?_
  first | refine WR.step (Ex.loadM H rfl (by assumption) Tryd.isAgg3) (Wn.none rfl) rfl rfl ?_ | refine WR.step (Ex.load1 H rfl (by repeat (first | exact List.Mem.head _ | apply List.Mem.tail)) Tryd.isAgg3 (by rfl)) (Wn.none rfl) rfl rfl ?_
  refine WR.stepT (Ex.neq rfl rfl) (by decide) (Wn.none rfl) rfl rfl ?_
  refine WR.nil ?_
  refine WQ.then ?_
  refine WC.condT rfl ?_
  refine WC.seq ?_
  refine WC.region ?_
  refine WR.step (Ex.move rfl) (Wn.none rfl) rfl rfl ?_
  first | refine WR.step (Ex.lenSl Tryd.underlying34 (by assumption) rfl) (Wn.none rfl) rfl rfl ?_ | refine WR.step (Ex.lenRow Tryd.underlying34 H (by repeat (first | exact List.Mem.head _ | apply List.Mem.tail)) rfl) (Wn.none rfl) rfl rfl ?_ | refine WR.step (Ex.lenSlice Tryd.underlying34 rfl) (Wn.none rfl) rfl rfl ?_
  refine WR.stepT (Ex.eql rfl rfl) rfl (Wn.none rfl) rfl rfl ?_
  refine WR.step (Ex.assign rfl) (Wn.none rfl) rfl rfl ?_
  refine WR.nil ?_
  refine WQ.then ?_
  refine WC.ret ?_
  (repeat (first | refine WQ.thenRet ?_ | refine WQ.inBlockRet ?_))
  refine WQ.ret1 rfl rfl H.ext ?_
  exact rfl

theorem c3_err (name l : List UInt8) (hn : name.length ≤ maxLen) (hs : l.length ≤ 12000) (k : Nat) (hk : setOf name = some k) (hv : vld l = true) (e : Nat) (hg : encGo (encK k) (chars l) 0 = .error e) : Ct Tryd.prog 10 [S name, S l] (fun M => Tabs M) (fun r _ => r = .bool true) := by
  refine Ct.of Tryd.func10 (enters Tryd.func10 (by kernel_rfl) rfl) rfl rfl rfl ?_
  intro w0 M0 H hp
  refine WC.seq ?_
  refine WC.region ?_
  refine WR.step (Ex.assign rfl) (Wn.none rfl) rfl rfl ?_
  refine WR.nil ?_
  refine WQ.then ?_
  refine WC.seq ?_
  refine WC.seq ?_
  refine WC.region ?_
  refine WR.call H (chx_spec) rfl (by assumption) (Wn.none rfl) rfl ?_
  intro v9 M w H hle hr9
  replace hp := hp.mono hle
  obtain rfl := hr9
  refine WR.step (Ex.notT rfl) (Wn.none rfl) rfl rfl ?_
  refine WR.nil ?_
  refine WQ.then ?_
  refine WC.condF rfl ?_
  refine WC.skip ?_
  refine WQ.then ?_
  refine WC.seq ?_
  refine WC.region ?_
  refine WR.step (Ex.move rfl) (Wn.none rfl) rfl rfl ?_
  refine WR.step (Ex.move rfl) (Wn.none rfl) rfl rfl ?_
  refine WR.call H (encode_err hn hs hk hv hg) rfl (by assumption) (Wn.none rfl) rfl ?_
  intro v14 M w H hle hr14
  replace hp := hp.mono hle
  obtain rfl := hr14
  refine WR.step (Ex.move rfl) (Wn.none rfl) rfl rfl ?_
  refine WR.step (Ex.extract rfl rfl) (Wn.none rfl) rfl rfl ?_
  refine WR.step (Ex.extract rfl rfl) (Wn.none rfl) rfl rfl ?_
  refine WR.alloc [_, _] H Tryd.zeroValue28 rfl (Wn.none rfl) rfl ?_
  intro b6 w H
  refine WR.step (Ex.assign rfl) (Wn.none rfl) rfl rfl ?_
  refine WR.store [_, _] H rfl rfl rfl (by repeat (first | exact Upd.head | apply Upd.tail)) Tryd.sizeOf28 rfl (by rfl) (by rfl) (Wn.none rfl) ?_
  intro w H
  refine WR.nil ?_
  refine WQ.then ?_
  refine WC.seq ?_
  refine WC.seq ?_
  refine WC.region ?_
  refine WR.step (Ex.fieldAddr Tryd.underlying28 rfl Tryd.sizeOf3 (by decide) rfl) (Wn.none rfl) rfl rfl ?_
  first | refine WR.step (Ex.loadM H rfl (by assumption) Tryd.isAgg3) (Wn.none rfl) rfl rfl ?_ | refine WR.step (Ex.load1 H rfl (by repeat (first | exact List.Mem.head _ | apply List.Mem.tail)) Tryd.isAgg3 (by rfl)) (Wn.none rfl) rfl rfl ?_
  refine WR.stepT (Ex.neq rfl rfl) (by decide) (Wn.none rfl) rfl rfl ?_
  refine WR.nil ?_
  refine WQ.then ?_
  refine WC.condT rfl ?_
  refine WC.seq ?_
  refine WC.region ?_
  refine WR.step (Ex.move rfl) (Wn.none rfl) rfl rfl ?_
  first | refine WR.step (Ex.lenSl Tryd.underlying34 (by assumption) rfl) (Wn.none rfl) rfl rfl ?_ | refine WR.step (Ex.lenRow Tryd.underlying34 H (by repeat (first | exact List.Mem.head _ | apply List.Mem.tail)) rfl) (Wn.none rfl) rfl rfl ?_ | refine WR.step (Ex.lenSlice Tryd.underlying34 rfl) (Wn.none rfl) rfl rfl ?_
  refine WR.stepT (Ex.eql rfl rfl) rfl (Wn.none rfl) rfl rfl ?_
  refine WR.step (Ex.assign rfl) (Wn.none rfl) rfl rfl ?_
  refine WR.nil ?_
  refine WQ.then ?_
  refine WC.ret ?_
  (repeat (first | refine WQ.thenRet ?_ | refine WQ.inBlockRet ?_))
  refine WQ.ret1 rfl rfl H.ext ?_
  exact rfl

theorem c3_long (name l : List UInt8) (hn : name.length ≤ maxLen) (hs : l.length ≤ 12000) (k : Nat) (hk : setOf name = some k) (hv : vld l = true) (b : List UInt8) (hg : encGo (encK k) (chars l) 0 = .ok b) (hb : 12000 < b.length) : Ct Tryd.prog 10 [S name, S l] (fun M => Tabs M) (fun r _ => r = .bool true) := by
  refine Ct.of Tryd.func10 (enters Tryd.func10 (by kernel_rfl) rfl) rfl rfl rfl ?_
  intro w0 M0 H hp
  refine WC.seq ?_
  refine WC.region ?_
  refine WR.step (Ex.assign rfl) (Wn.none rfl) rfl rfl ?_
  refine WR.nil ?_
  refine WQ.then ?_
  refine WC.seq ?_
  refine WC.seq ?_
  refine WC.region ?_
  refine WR.call H (chx_spec) rfl (by assumption) (Wn.none rfl) rfl ?_
  intro v9 M w H hle hr9
  replace hp := hp.mono hle
  obtain rfl := hr9
  refine WR.step (Ex.notT rfl) (Wn.none rfl) rfl rfl ?_
  refine WR.nil ?_
  refine WQ.then ?_
  refine WC.condF rfl ?_
  refine WC.skip ?_
  refine WQ.then ?_
  refine WC.seq ?_
  refine WC.region ?_
  refine WR.step (Ex.move rfl) (Wn.none rfl) rfl rfl ?_
  refine WR.step (Ex.move rfl) (Wn.none rfl) rfl rfl ?_
  refine WR.call H (encode_ok hn hs hk hv hg) rfl (by assumption) (Wn.none rfl) rfl ?_
  intro v14 M w H hle hr14
  replace hp := hp.mono hle
  obtain ⟨v14, rfl, hf14⟩ := hr14
  refine WR.step (Ex.move rfl) (Wn.none rfl) rfl rfl ?_
  refine WR.step (Ex.extract rfl rfl) (Wn.none rfl) rfl rfl ?_
  refine WR.step (Ex.extract rfl rfl) (Wn.none rfl) rfl rfl ?_
  refine WR.alloc [_, _] H Tryd.zeroValue28 rfl (Wn.none rfl) rfl ?_
  intro b6 w H
  refine WR.step (Ex.assign rfl) (Wn.none rfl) rfl rfl ?_
  refine WR.store [_, _] H rfl rfl rfl (by repeat (first | exact Upd.head | apply Upd.tail)) Tryd.sizeOf28 rfl (by rfl) (by rfl) (Wn.none rfl) ?_
  intro w H
  refine WR.nil ?_
  refine WQ.then ?_
  refine WC.seq ?_
  refine WC.seq ?_
  refine WC.region ?_
  refine WR.step (Ex.fieldAddr Tryd.underlying28 rfl Tryd.sizeOf3 (by decide) rfl) (Wn.none rfl) rfl rfl ?_
  first | refine WR.step (Ex.loadM H rfl (by assumption) Tryd.isAgg3) (Wn.none rfl) rfl rfl ?_ | refine WR.step (Ex.load1 H rfl (by repeat (first | exact List.Mem.head _ | apply List.Mem.tail)) Tryd.isAgg3 (by rfl)) (Wn.none rfl) rfl rfl ?_
  refine WR.stepF (Ex.neq rfl rfl) (by decide) (Wn.none rfl) rfl rfl ?_
  refine WR.nil ?_
  refine WQ.then ?_
  refine WC.condF rfl ?_
  refine WC.skip ?_
  refine WQ.then ?_
  refine WC.seq ?_
  refine WC.seq ?_
  refine WC.region ?_
  refine WR.step (Ex.move rfl) (Wn.none rfl) rfl rfl ?_
  first | refine WR.step (Ex.lenSl Tryd.underlying34 (by assumption) rfl) (Wn.none rfl) rfl rfl ?_ | refine WR.step (Ex.lenRow Tryd.underlying34 H (by repeat (first | exact List.Mem.head _ | apply List.Mem.tail)) rfl) (Wn.none rfl) rfl rfl ?_ | refine WR.step (Ex.lenSlice Tryd.underlying34 rfl) (Wn.none rfl) rfl rfl ?_
  refine WR.stepT (Ex.gtr rfl rfl) (by omega) (Wn.none rfl) rfl rfl ?_
  refine WR.nil ?_
  refine WQ.then ?_
  refine WC.condT rfl ?_
  refine WC.seq ?_
  refine WC.region ?_
  refine WR.step (Ex.assign rfl) (Wn.none rfl) rfl rfl ?_
  refine WR.nil ?_
  refine WQ.then ?_
  refine WC.ret ?_
  (repeat (first | refine WQ.thenRet ?_ | refine WQ.inBlockRet ?_))
  refine WQ.ret1 rfl rfl H.ext ?_
  exact rfl

theorem c3_ok (name l : List UInt8) (hn : name.length ≤ maxLen) (hs : l.length ≤ 12000) (k : Nat) (hk : setOf name = some k) (hv : vld l = true) (b : List UInt8) (hg : encGo (encK k) (chars l) 0 = .ok b) (hb : b.length ≤ 12000) : Ct Tryd.prog 10 [S name, S l] (fun M => Tabs M) (fun r _ => r = .bool true) := by
  refine Ct.of Tryd.func10 (enters Tryd.func10 (by kernel_rfl) rfl) rfl rfl rfl ?_
  intro w0 M0 H hp
  refine WC.seq ?_
  refine WC.region ?_
  refine WR.step (Ex.assign rfl) (Wn.none rfl) rfl rfl ?_
  refine WR.nil ?_
  refine WQ.then ?_
  refine WC.seq ?_
  refine WC.seq ?_
  refine WC.region ?_
  refine WR.call H (chx_spec) rfl (by assumption) (Wn.none rfl) rfl ?_
  intro v9 M w H hle hr9
  replace hp := hp.mono hle
  obtain rfl := hr9
  refine WR.step (Ex.notT rfl) (Wn.none rfl) rfl rfl ?_
  refine WR.nil ?_
  refine WQ.then ?_
  refine WC.condF rfl ?_
  refine WC.skip ?_
  refine WQ.then ?_
  refine WC.seq ?_
  refine WC.region ?_
  refine WR.step (Ex.move rfl) (Wn.none rfl) rfl rfl ?_
  refine WR.step (Ex.move rfl) (Wn.none rfl) rfl rfl ?_
  refine WR.call H (encode_ok hn hs hk hv hg) rfl (by assumption) (Wn.none rfl) rfl ?_
  intro v14 M w H hle hr14
  replace hp := hp.mono hle
  obtain ⟨v14, rfl, hf14⟩ := hr14
  refine WR.step (Ex.move rfl) (Wn.none rfl) rfl rfl ?_
  refine WR.step (Ex.extract rfl rfl) (Wn.none rfl) rfl rfl ?_
  refine WR.step (Ex.extract rfl rfl) (Wn.none rfl) rfl rfl ?_
  refine WR.alloc [_, _] H Tryd.zeroValue28 rfl (Wn.none rfl) rfl ?_
  intro b6 w H
  refine WR.step (Ex.assign rfl) (Wn.none rfl) rfl rfl ?_
  refine WR.store [_, _] H rfl rfl rfl (by repeat (first | exact Upd.head | apply Upd.tail)) Tryd.sizeOf28 rfl (by rfl) (by rfl) (Wn.none rfl) ?_
  intro w H
  refine WR.nil ?_
  refine WQ.then ?_
  refine WC.seq ?_
  refine WC.seq ?_
  refine WC.region ?_
  refine WR.step (Ex.fieldAddr Tryd.underlying28 rfl Tryd.sizeOf3 (by decide) rfl) (Wn.none rfl) rfl rfl ?_
  first | refine WR.step (Ex.loadM H rfl (by assumption) Tryd.isAgg3) (Wn.none rfl) rfl rfl ?_ | refine WR.step (Ex.load1 H rfl (by repeat (first | exact List.Mem.head _ | apply List.Mem.tail)) Tryd.isAgg3 (by rfl)) (Wn.none rfl) rfl rfl ?_
  refine WR.stepF (Ex.neq rfl rfl) (by decide) (Wn.none rfl) rfl rfl ?_
  refine WR.nil ?_
  refine WQ.then ?_
  refine WC.condF rfl ?_
  refine WC.skip ?_
  refine WQ.then ?_
  refine WC.seq ?_
  refine WC.seq ?_
  refine WC.region ?_
  refine WR.step (Ex.move rfl) (Wn.none rfl) rfl rfl ?_
  first | refine WR.step (Ex.lenSl Tryd.underlying34 (by assumption) rfl) (Wn.none rfl) rfl rfl ?_ | refine WR.step (Ex.lenRow Tryd.underlying34 H (by repeat (first | exact List.Mem.head _ | apply List.Mem.tail)) rfl) (Wn.none rfl) rfl rfl ?_ | refine WR.step (Ex.lenSlice Tryd.underlying34 rfl) (Wn.none rfl) rfl rfl ?_
  refine WR.stepF (Ex.gtr rfl rfl) (by omega) (Wn.none rfl) rfl rfl ?_
  refine WR.nil ?_
  refine WQ.then ?_
  refine WC.condF rfl ?_
  refine WC.skip ?_
  refine WQ.then ?_
  refine WC.seq ?_
  refine WC.region ?_
  refine WR.step (Ex.move rfl) (Wn.none rfl) rfl rfl ?_
  refine WR.step (Ex.move rfl) (Wn.none rfl) rfl rfl ?_
  refine WR.call H (decode_spec_k _ _ b hn hb k hk) rfl (by assumption) (Wn.none rfl) rfl ?_
  intro v29 M w H hle hr29
  replace hp := hp.mono hle
  replace hf14 := hf14.mono hle
  obtain rfl := hr29
  refine WR.step (Ex.move rfl) (Wn.none rfl) rfl rfl ?_
  refine WR.stepE (v' := S l) (Ex.extract rfl rfl) (by rw [decoded_enc0 hv hg]) (Wn.none rfl) rfl rfl ?_
  refine WR.step (Ex.extract rfl rfl) (Wn.none rfl) rfl rfl ?_
  refine WR.alloc [_, _] H Tryd.zeroValue28 rfl (Wn.none rfl) rfl ?_
  intro b8 w H
  refine WR.step (Ex.assign rfl) (Wn.none rfl) rfl rfl ?_
  refine WR.store [_, _] H rfl rfl rfl (by repeat (first | exact Upd.head | apply Upd.tail)) Tryd.sizeOf28 rfl (by rfl) (by rfl) (Wn.none rfl) ?_
  intro w H
  refine WR.nil ?_
  refine WQ.then ?_
  refine WC.seq ?_
  refine WC.region ?_
  refine WR.step (Ex.fieldAddr Tryd.underlying28 rfl Tryd.sizeOf3 (by decide) rfl) (Wn.none rfl) rfl rfl ?_
  first | refine WR.step (Ex.loadM H rfl (by assumption) Tryd.isAgg3) (Wn.none rfl) rfl rfl ?_ | refine WR.step (Ex.load1 H rfl (by repeat (first | exact List.Mem.head _ | apply List.Mem.tail)) Tryd.isAgg3 (by rfl)) (Wn.none rfl) rfl rfl ?_
  refine WR.stepT (Ex.eql rfl rfl) rfl (Wn.none rfl) rfl rfl ?_
  refine WR.step (Ex.move rfl) (Wn.none rfl) rfl rfl ?_
  refine WR.step (Ex.move rfl) (Wn.some rfl rfl rfl) rfl rfl ?_
  refine WR.step (Ex.move rfl) (Wn.some rfl rfl rfl) rfl rfl ?_
  refine WR.stepT (Ex.strEql rfl rfl) rfl (Wn.some rfl rfl rfl) rfl rfl ?_
  refine WR.step (Ex.pickT rfl rfl) (Wn.none rfl) rfl rfl ?_
  refine WR.step (Ex.assign rfl) (Wn.none rfl) rfl rfl ?_
  refine WR.nil ?_
  refine WQ.then ?_
  refine WC.ret ?_
  (repeat (first | refine WQ.thenRet ?_ | refine WQ.inBlockRet ?_))
  refine WQ.ret1 rfl rfl H.ext ?_
  exact rfl

theorem c5_big (name l : List UInt8) (v : Value) (m : List UInt8) (hn : name.length ≤ maxLen) (hml : m.length ≤ 140737488351232) (hs : 12000 < l.length) : Ct Tryd.prog 12 [S name, S l, v] (fun M => Tabs M ∧ Bs M v m) (fun r _ => r = .bool true) := by
  refine Ct.of Tryd.func12 (enters Tryd.func12 (by kernel_rfl) rfl) rfl rfl rfl ?_
  intro w0 M0 H hp
  obtain ⟨hp, hb⟩ := hp
  have hsh := hb.short
  simp only [maxLen] at hsh
  refine WC.seq ?_
  refine WC.region ?_
  refine WR.step (Ex.assign rfl) (Wn.none rfl) rfl rfl ?_
  refine WR.nil ?_
  refine WQ.then ?_
  refine WC.seq ?_
  refine WC.seq ?_
  refine WC.region ?_
  refine WR.call H (chx_spec) rfl (by assumption) (Wn.none rfl) rfl ?_
  intro v13 M w H hle hr13
  replace hp := hp.mono hle
  replace hb := hb.mono hle
  obtain rfl := hr13
  refine WR.step (Ex.notT rfl) (Wn.none rfl) rfl rfl ?_
  refine WR.nil ?_
  refine WQ.then ?_
  refine WC.condF rfl ?_
  refine WC.skip ?_
  refine WQ.then ?_
  refine WC.seq ?_
  refine WC.region ?_
  refine WR.step (Ex.move rfl) (Wn.none rfl) rfl rfl ?_
  refine WR.step (Ex.move rfl) (Wn.none rfl) rfl rfl ?_
  refine WR.call H (encode_big _ _ hn hs) rfl (by assumption) (Wn.none rfl) rfl ?_
  intro v18 M w H hle hr18
  replace hp := hp.mono hle
  replace hb := hb.mono hle
  obtain rfl := hr18
  refine WR.step (Ex.move rfl) (Wn.none rfl) rfl rfl ?_
  refine WR.step (Ex.extract rfl rfl) (Wn.none rfl) rfl rfl ?_
  refine WR.step (Ex.extract rfl rfl) (Wn.none rfl) rfl rfl ?_
  refine WR.alloc [_, _] H Tryd.zeroValue28 rfl (Wn.none rfl) rfl ?_
  intro b8 w H
  refine WR.step (Ex.assign rfl) (Wn.none rfl) rfl rfl ?_
  refine WR.store [_, _] H rfl rfl rfl (by repeat (first | exact Upd.head | apply Upd.tail)) Tryd.sizeOf28 rfl (by rfl) (by rfl) (Wn.none rfl) ?_
  intro w H
  refine WR.nil ?_
  refine WQ.then ?_
  refine WC.seq ?_
  refine WC.seq ?_
  refine WC.region ?_
  refine WR.step (Ex.fieldAddr Tryd.underlying28 rfl Tryd.sizeOf3 (by decide) rfl) (Wn.none rfl) rfl rfl ?_
  first | refine WR.step (Ex.loadM H rfl (by assumption) Tryd.isAgg3) (Wn.none rfl) rfl rfl ?_ | refine WR.step (Ex.load1 H rfl (by repeat (first | exact List.Mem.head _ | apply List.Mem.tail)) Tryd.isAgg3 (by rfl)) (Wn.none rfl) rfl rfl ?_
  refine WR.stepT (Ex.neq rfl rfl) (by decide) (Wn.none rfl) rfl rfl ?_
  refine WR.step (Ex.move rfl) (Wn.none rfl) rfl rfl ?_
  refine WR.skipG (b := true) rfl rfl rfl rfl rfl ?_
  refine WR.skipG (b := true) rfl rfl rfl rfl rfl ?_
  refine WR.skipG (b := true) rfl rfl rfl rfl rfl ?_
  refine WR.skipG (b := true) rfl rfl rfl rfl rfl ?_
  refine WR.skipG (b := true) rfl rfl rfl rfl rfl ?_
  refine WR.skipG (b := true) rfl rfl rfl rfl rfl ?_
  refine WR.step (Ex.pickT rfl rfl) (Wn.none rfl) rfl rfl ?_
  refine WR.nil ?_
  refine WQ.then ?_
  refine WC.condT rfl ?_
  refine WC.seq ?_
  refine WC.region ?_
  refine WR.step (Ex.assign rfl) (Wn.none rfl) rfl rfl ?_
  refine WR.nil ?_
  refine WQ.then ?_
  refine WC.ret ?_
  (repeat (first | refine WQ.thenRet ?_ | refine WQ.inBlockRet ?_))
  refine WQ.ret1 rfl rfl H.ext ?_
  exact rfl

theorem c5_unk (name l : List UInt8) (v : Value) (m : List UInt8) (hn : name.length ≤ maxLen) (hml : m.length ≤ 140737488351232) (hs : l.length ≤ 12000) (hk : setOf name = none) : Ct Tryd.prog 12 [S name, S l, v] (fun M => Tabs M ∧ Bs M v m) (fun r _ => r = .bool true) := by
  refine Ct.of Tryd.func12 (enters Tryd.func12 (by kernel_rfl) rfl) rfl rfl rfl ?_
  intro w0 M0 H hp
  obtain ⟨hp, hb⟩ := hp
  have hsh := hb.short
  simp only [maxLen] at hsh
  refine WC.seq ?_
  refine WC.region ?_
  refine WR.step (Ex.assign rfl) (Wn.none rfl) rfl rfl ?_
  refine WR.nil ?_
  refine WQ.then ?_
  refine WC.seq ?_
  refine WC.seq ?_
  refine WC.region ?_
  refine WR.call H (chx_spec) rfl (by assumption) (Wn.none rfl) rfl ?_
  intro v13 M w H hle hr13
  replace hp := hp.mono hle
  replace hb := hb.mono hle
  obtain rfl := hr13
  refine WR.step (Ex.notT rfl) (Wn.none rfl) rfl rfl ?_
  refine WR.nil ?_
  refine WQ.then ?_
  refine WC.condF rfl ?_
  refine WC.skip ?_
  refine WQ.then ?_
  refine WC.seq ?_
  refine WC.region ?_
  refine WR.step (Ex.move rfl) (Wn.none rfl) rfl rfl ?_
  refine WR.step (Ex.move rfl) (Wn.none rfl) rfl rfl ?_
  refine WR.call H (encode_unk _ _ hn hs hk) rfl (by assumption) (Wn.none rfl) rfl ?_
  intro v18 M w H hle hr18
  replace hp := hp.mono hle
  replace hb := hb.mono hle
  obtain rfl := hr18
  refine WR.step (Ex.move rfl) (Wn.none rfl) rfl rfl ?_
  refine WR.step (Ex.extract rfl rfl) (Wn.none rfl) rfl rfl ?_
  refine WR.step (Ex.extract rfl rfl) (Wn.none rfl) rfl rfl ?_
  refine WR.alloc [_, _] H Tryd.zeroValue28 rfl (Wn.none rfl) rfl ?_
  intro b8 w H
  refine WR.step (Ex.assign rfl) (Wn.none rfl) rfl rfl ?_
  refine WR.store [_, _] H rfl rfl rfl (by repeat (first | exact Upd.head | apply Upd.tail)) Tryd.sizeOf28 rfl (by rfl) (by rfl) (Wn.none rfl) ?_
  intro w H
  refine WR.nil ?_
  refine WQ.then ?_
  refine WC.seq ?_
  refine WC.seq ?_
  refine WC.region ?_
  refine WR.step (Ex.fieldAddr Tryd.underlying28 rfl Tryd.sizeOf3 (by decide) rfl) (Wn.none rfl) rfl rfl ?_
  first | refine WR.step (Ex.loadM H rfl (by assumption) Tryd.isAgg3) (Wn.none rfl) rfl rfl ?_ | refine WR.step (Ex.load1 H rfl (by repeat (first | exact List.Mem.head _ | apply List.Mem.tail)) Tryd.isAgg3 (by rfl)) (Wn.none rfl) rfl rfl ?_
  refine WR.stepT (Ex.neq rfl rfl) (by decide) (Wn.none rfl) rfl rfl ?_
  refine WR.step (Ex.move rfl) (Wn.none rfl) rfl rfl ?_
  refine WR.skipG (b := true) rfl rfl rfl rfl rfl ?_
  refine WR.skipG (b := true) rfl rfl rfl rfl rfl ?_
  refine WR.skipG (b := true) rfl rfl rfl rfl rfl ?_
  refine WR.skipG (b := true) rfl rfl rfl rfl rfl ?_
  refine WR.skipG (b := true) rfl rfl rfl rfl rfl ?_
  refine WR.skipG (b := true) rfl rfl rfl rfl rfl ?_
  refine WR.step (Ex.pickT rfl rfl) (Wn.none rfl) rfl rfl ?_
  refine WR.nil ?_
  refine WQ.then ?_
  refine WC.condT rfl ?_
  refine WC.seq ?_
  refine WC.region ?_
  refine WR.step (Ex.assign rfl) (Wn.none rfl) rfl rfl ?_
  refine WR.nil ?_
  refine WQ.then ?_
  refine WC.ret ?_
  (repeat (first | refine WQ.thenRet ?_ | refine WQ.inBlockRet ?_))
  refine WQ.ret1 rfl rfl H.ext ?_
  exact rfl

theorem c5_mal (name l : List UInt8) (v : Value) (m : List UInt8) (hn : name.length ≤ maxLen) (hml : m.length ≤ 140737488351232) (hs : l.length ≤ 12000) (k : Nat) (hk : setOf name = some k) (hv : vld l = false) : Ct Tryd.prog 12 [S name, S l, v] (fun M => Tabs M ∧ Bs M v m) (fun r _ => r = .bool true) := by
  refine Ct.of Tryd.func12 (enters Tryd.func12 (by kernel_rfl) rfl) rfl rfl rfl ?_
  intro w0 M0 H hp
  obtain ⟨hp, hb⟩ := hp
  have hsh := hb.short
  simp only [maxLen] at hsh
  refine WC.seq ?_
  refine WC.region ?_
  refine WR.step (Ex.assign rfl) (Wn.none rfl) rfl rfl ?_
  refine WR.nil ?_
  refine WQ.then ?_
  refine WC.seq ?_
  refine WC.seq ?_
  refine WC.region ?_
  refine WR.call H (chx_spec) rfl (by assumption) (Wn.none rfl) rfl ?_
  intro v13 M w H hle hr13
  replace hp := hp.mono hle
  replace hb := hb.mono hle
  obtain rfl := hr13
  refine WR.step (Ex.notT rfl) (Wn.none rfl) rfl rfl ?_
  refine WR.nil ?_
  refine WQ.then ?_
  refine WC.condF rfl ?_
  refine WC.skip ?_
  refine WQ.then ?_
  refine WC.seq ?_
  refine WC.region ?_
  refine WR.step (Ex.move rfl) (Wn.none rfl) rfl rfl ?_
  refine WR.step (Ex.move rfl) (Wn.none rfl) rfl rfl ?_
  refine WR.call H (encode_mal _ _ hn hs k hk hv) rfl (by assumption) (Wn.none rfl) rfl ?_
  intro v18 M w H hle hr18
  replace hp := hp.mono hle
  replace hb := hb.mono hle
  obtain rfl := hr18
  refine WR.step (Ex.move rfl) (Wn.none rfl) rfl rfl ?_
  refine WR.step (Ex.extract rfl rfl) (Wn.none rfl) rfl rfl ?_
  refine WR.step (Ex.extract rfl rfl) (Wn.none rfl) rfl rfl ?_
  refine WR.alloc [_, _] H Tryd.zeroValue28 rfl (Wn.none rfl) rfl ?_
  intro b8 w H
  refine WR.step (Ex.assign rfl) (Wn.none rfl) rfl rfl ?_
  refine WR.store [_, _] H rfl rfl rfl (by repeat (first | exact Upd.head | apply Upd.tail)) Tryd.sizeOf28 rfl (by rfl) (by rfl) (Wn.none rfl) ?_
  intro w H
  refine WR.nil ?_
  refine WQ.then ?_
  refine WC.seq ?_
  refine WC.seq ?_
  refine WC.region ?_
  refine WR.step (Ex.fieldAddr Tryd.underlying28 rfl Tryd.sizeOf3 (by decide) rfl) (Wn.none rfl) rfl rfl ?_
  first | refine WR.step (Ex.loadM H rfl (by assumption) Tryd.isAgg3) (Wn.none rfl) rfl rfl ?_ | refine WR.step (Ex.load1 H rfl (by repeat (first | exact List.Mem.head _ | apply List.Mem.tail)) Tryd.isAgg3 (by rfl)) (Wn.none rfl) rfl rfl ?_
  refine WR.stepT (Ex.neq rfl rfl) (by decide) (Wn.none rfl) rfl rfl ?_
  refine WR.step (Ex.move rfl) (Wn.none rfl) rfl rfl ?_
  refine WR.skipG (b := true) rfl rfl rfl rfl rfl ?_
  refine WR.skipG (b := true) rfl rfl rfl rfl rfl ?_
  refine WR.skipG (b := true) rfl rfl rfl rfl rfl ?_
  refine WR.skipG (b := true) rfl rfl rfl rfl rfl ?_
  refine WR.skipG (b := true) rfl rfl rfl rfl rfl ?_
  refine WR.skipG (b := true) rfl rfl rfl rfl rfl ?_
  refine WR.step (Ex.pickT rfl rfl) (Wn.none rfl) rfl rfl ?_
  refine WR.nil ?_
  refine WQ.then ?_
  refine WC.condT rfl ?_
  refine WC.seq ?_
  refine WC.region ?_
  refine WR.step (Ex.assign rfl) (Wn.none rfl) rfl rfl ?_
  refine WR.nil ?_
  refine WQ.then ?_
  refine WC.ret ?_
  (repeat (first | refine WQ.thenRet ?_ | refine WQ.inBlockRet ?_))
  refine WQ.ret1 rfl rfl H.ext ?_
  exact rfl

theorem c5_err (name l : List UInt8) (v : Value) (m : List UInt8) (hn : name.length ≤ maxLen) (hml : m.length ≤ 140737488351232) (hs : l.length ≤ 12000) (k : Nat) (hk : setOf name = some k) (hv : vld l = true) (e : Nat) (hg : encGo (encK k) (chars l) 0 = .error e) : Ct Tryd.prog 12 [S name, S l, v] (fun M => Tabs M ∧ Bs M v m) (fun r _ => r = .bool true) := by
  refine Ct.of Tryd.func12 (enters Tryd.func12 (by kernel_rfl) rfl) rfl rfl rfl ?_
  intro w0 M0 H hp
  obtain ⟨hp, hb⟩ := hp
  have hsh := hb.short
  simp only [maxLen] at hsh
  refine WC.seq ?_
  refine WC.region ?_
  refine WR.step (Ex.assign rfl) (Wn.none rfl) rfl rfl ?_
  refine WR.nil ?_
  refine WQ.then ?_
  refine WC.seq ?_
  refine WC.seq ?_
  refine WC.region ?_
  refine WR.call H (chx_spec) rfl (by assumption) (Wn.none rfl) rfl ?_
  intro v13 M w H hle hr13
  replace hp := hp.mono hle
  replace hb := hb.mono hle
  obtain rfl := hr13
  refine WR.step (Ex.notT rfl) (Wn.none rfl) rfl rfl ?_
  refine WR.nil ?_
  refine WQ.then ?_
  refine WC.condF rfl ?_
  refine WC.skip ?_
  refine WQ.then ?_
  refine WC.seq ?_
  refine WC.region ?_
  refine WR.step (Ex.move rfl) (Wn.none rfl) rfl rfl ?_
  refine WR.step (Ex.move rfl) (Wn.none rfl) rfl rfl ?_
  refine WR.call H (encode_err hn hs hk hv hg) rfl (by assumption) (Wn.none rfl) rfl ?_
  intro v18 M w H hle hr18
  replace hp := hp.mono hle
  replace hb := hb.mono hle
  obtain rfl := hr18
  refine WR.step (Ex.move rfl) (Wn.none rfl) rfl rfl ?_
  refine WR.step (Ex.extract rfl rfl) (Wn.none rfl) rfl rfl ?_
  refine WR.step (Ex.extract rfl rfl) (Wn.none rfl) rfl rfl ?_
  refine WR.alloc [_, _] H Tryd.zeroValue28 rfl (Wn.none rfl) rfl ?_
  intro b8 w H
  refine WR.step (Ex.assign rfl) (Wn.none rfl) rfl rfl ?_
  refine WR.store [_, _] H rfl rfl rfl (by repeat (first | exact Upd.head | apply Upd.tail)) Tryd.sizeOf28 rfl (by rfl) (by rfl) (Wn.none rfl) ?_
  intro w H
  refine WR.nil ?_
  refine WQ.then ?_
  refine WC.seq ?_
  refine WC.seq ?_
  refine WC.region ?_
  refine WR.step (Ex.fieldAddr Tryd.underlying28 rfl Tryd.sizeOf3 (by decide) rfl) (Wn.none rfl) rfl rfl ?_
  first | refine WR.step (Ex.loadM H rfl (by assumption) Tryd.isAgg3) (Wn.none rfl) rfl rfl ?_ | refine WR.step (Ex.load1 H rfl (by repeat (first | exact List.Mem.head _ | apply List.Mem.tail)) Tryd.isAgg3 (by rfl)) (Wn.none rfl) rfl rfl ?_
  refine WR.stepT (Ex.neq rfl rfl) (by decide) (Wn.none rfl) rfl rfl ?_
  refine WR.step (Ex.move rfl) (Wn.none rfl) rfl rfl ?_
  refine WR.skipG (b := true) rfl rfl rfl rfl rfl ?_
  refine WR.skipG (b := true) rfl rfl rfl rfl rfl ?_
  refine WR.skipG (b := true) rfl rfl rfl rfl rfl ?_
  refine WR.skipG (b := true) rfl rfl rfl rfl rfl ?_
  refine WR.skipG (b := true) rfl rfl rfl rfl rfl ?_
  refine WR.skipG (b := true) rfl rfl rfl rfl rfl ?_
  refine WR.step (Ex.pickT rfl rfl) (Wn.none rfl) rfl rfl ?_
  refine WR.nil ?_
  refine WQ.then ?_
  refine WC.condT rfl ?_
  refine WC.seq ?_
  refine WC.region ?_
  refine WR.step (Ex.assign rfl) (Wn.none rfl) rfl rfl ?_
  refine WR.nil ?_
  refine WQ.then ?_
  refine WC.ret ?_
  (repeat (first | refine WQ.thenRet ?_ | refine WQ.inBlockRet ?_))
  refine WQ.ret1 rfl rfl H.ext ?_
  exact rfl

theorem c5_long (name l : List UInt8) (v : Value) (m : List UInt8) (hn : name.length ≤ maxLen) (hml : m.length ≤ 140737488351232) (hs : l.length ≤ 12000) (k : Nat) (hk : setOf name = some k) (hv : vld l = true) (b : List UInt8) (hg : encGo (encK k) (chars l) 0 = .ok b) (hlong : 12000 < b.length + m.length) : Ct Tryd.prog 12 [S name, S l, v] (fun M => Tabs M ∧ Bs M v m) (fun r _ => r = .bool true) := by
  refine Ct.of Tryd.func12 (enters Tryd.func12 (by kernel_rfl) rfl) rfl rfl rfl ?_
  intro w0 M0 H hp
  obtain ⟨hp, hb⟩ := hp
  have hsh := hb.short
  simp only [maxLen] at hsh
  refine WC.seq ?_
  refine WC.region ?_
  refine WR.step (Ex.assign rfl) (Wn.none rfl) rfl rfl ?_
  refine WR.nil ?_
  refine WQ.then ?_
  refine WC.seq ?_
  refine WC.seq ?_
  refine WC.region ?_
  refine WR.call H (chx_spec) rfl (by assumption) (Wn.none rfl) rfl ?_
  intro v13 M w H hle hr13
  replace hp := hp.mono hle
  replace hb := hb.mono hle
  obtain rfl := hr13
  refine WR.step (Ex.notT rfl) (Wn.none rfl) rfl rfl ?_
  refine WR.nil ?_
  refine WQ.then ?_
  refine WC.condF rfl ?_
  refine WC.skip ?_
  refine WQ.then ?_
  refine WC.seq ?_
  refine WC.region ?_
  refine WR.step (Ex.move rfl) (Wn.none rfl) rfl rfl ?_
  refine WR.step (Ex.move rfl) (Wn.none rfl) rfl rfl ?_
  refine WR.call H (encode_ok hn hs hk hv hg) rfl (by assumption) (Wn.none rfl) rfl ?_
  intro v18 M w H hle hr18
  replace hp := hp.mono hle
  replace hb := hb.mono hle
  obtain ⟨v18, rfl, hf18⟩ := hr18
  refine WR.step (Ex.move rfl) (Wn.none rfl) rfl rfl ?_
  refine WR.step (Ex.extract rfl rfl) (Wn.none rfl) rfl rfl ?_
  refine WR.step (Ex.extract rfl rfl) (Wn.none rfl) rfl rfl ?_
  refine WR.alloc [_, _] H Tryd.zeroValue28 rfl (Wn.none rfl) rfl ?_
  intro b8 w H
  refine WR.step (Ex.assign rfl) (Wn.none rfl) rfl rfl ?_
  refine WR.store [_, _] H rfl rfl rfl (by repeat (first | exact Upd.head | apply Upd.tail)) Tryd.sizeOf28 rfl (by rfl) (by rfl) (Wn.none rfl) ?_
  intro w H
  refine WR.nil ?_
  refine WQ.then ?_
  refine WC.seq ?_
  refine WC.seq ?_
  refine WC.region ?_
  have hbl := encGo_len (fun c b h => encK_len h) _ _ _ hg
  have hcl := decU_len l
  rw [decU, List.length_map] at hcl
  refine WR.step (Ex.fieldAddr Tryd.underlying28 rfl Tryd.sizeOf3 (by decide) rfl) (Wn.none rfl) rfl rfl ?_
  first | refine WR.step (Ex.loadM H rfl (by assumption) Tryd.isAgg3) (Wn.none rfl) rfl rfl ?_ | refine WR.step (Ex.load1 H rfl (by repeat (first | exact List.Mem.head _ | apply List.Mem.tail)) Tryd.isAgg3 (by rfl)) (Wn.none rfl) rfl rfl ?_
  refine WR.stepF (Ex.neq rfl rfl) (by decide) (Wn.none rfl) rfl rfl ?_
  refine WR.step (Ex.move rfl) (Wn.none rfl) rfl rfl ?_
  refine WR.step (Ex.move rfl) (Wn.some rfl rfl rfl) rfl rfl ?_
  first | refine WR.step (Ex.lenSl Tryd.underlying34 (by assumption) rfl) (Wn.some rfl rfl rfl) rfl rfl ?_ | refine WR.step (Ex.lenRow Tryd.underlying34 H (by repeat (first | exact List.Mem.head _ | apply List.Mem.tail)) rfl) (Wn.some rfl rfl rfl) rfl rfl ?_ | refine WR.step (Ex.lenSlice Tryd.underlying34 rfl) (Wn.some rfl rfl rfl) rfl rfl ?_
  refine WR.step (Ex.move rfl) (Wn.some rfl rfl rfl) rfl rfl ?_
  first | refine WR.step (Ex.lenSl Tryd.underlying34 (by assumption) rfl) (Wn.some rfl rfl rfl) rfl rfl ?_ | refine WR.step (Ex.lenRow Tryd.underlying34 H (by repeat (first | exact List.Mem.head _ | apply List.Mem.tail)) rfl) (Wn.some rfl rfl rfl) rfl rfl ?_ | refine WR.step (Ex.lenSlice Tryd.underlying34 rfl) (Wn.some rfl rfl rfl) rfl rfl ?_
  refine WR.step (Ex.add64 rfl rfl (by omega)) (Wn.some rfl rfl rfl) rfl rfl ?_
  refine WR.stepT (Ex.gtr rfl rfl) (by omega) (Wn.some rfl rfl rfl) rfl rfl ?_
  refine WR.step (Ex.pickF rfl rfl) (Wn.none rfl) rfl rfl ?_
  refine WR.nil ?_
  refine WQ.then ?_
  refine WC.condT rfl ?_
  refine WC.seq ?_
  refine WC.region ?_
  refine WR.step (Ex.assign rfl) (Wn.none rfl) rfl rfl ?_
  refine WR.nil ?_
  refine WQ.then ?_
  refine WC.ret ?_
  (repeat (first | refine WQ.thenRet ?_ | refine WQ.inBlockRet ?_))
  refine WQ.ret1 rfl rfl H.ext ?_
  exact rfl

theorem c5_ok (name l : List UInt8) (v : Value) (m : List UInt8) (hn : name.length ≤ maxLen) (hml : m.length ≤ 140737488351232) (hs : l.length ≤ 12000) (k : Nat) (hk : setOf name = some k) (hv : vld l = true) (b : List UInt8) (hg : encGo (encK k) (chars l) 0 = .ok b) (hlong : b.length + m.length ≤ 12000) : Ct Tryd.prog 12 [S name, S l, v] (fun M => Tabs M ∧ Bs M v m) (fun r _ => r = .bool true) := by
  refine Ct.of Tryd.func12 (enters Tryd.func12 (by kernel_rfl) rfl) rfl rfl rfl ?_
  intro w0 M0 H hp
  obtain ⟨hp, hb⟩ := hp
  have hsh := hb.short
  simp only [maxLen] at hsh
  refine WC.seq ?_
  refine WC.region ?_
  refine WR.step (Ex.assign rfl) (Wn.none rfl) rfl rfl ?_
  refine WR.nil ?_
  refine WQ.then ?_
  refine WC.seq ?_
  refine WC.seq ?_
  refine WC.region ?_
  refine WR.call H (chx_spec) rfl (by assumption) (Wn.none rfl) rfl ?_
  intro v13 M w H hle hr13
  replace hp := hp.mono hle
  replace hb := hb.mono hle
  obtain rfl := hr13
  refine WR.step (Ex.notT rfl) (Wn.none rfl) rfl rfl ?_
  refine WR.nil ?_
  refine WQ.then ?_
  refine WC.condF rfl ?_
  refine WC.skip ?_
  refine WQ.then ?_
  refine WC.seq ?_
  refine WC.region ?_
  refine WR.step (Ex.move rfl) (Wn.none rfl) rfl rfl ?_
  refine WR.step (Ex.move rfl) (Wn.none rfl) rfl rfl ?_
  refine WR.call H (encode_ok hn hs hk hv hg) rfl (by assumption) (Wn.none rfl) rfl ?_
  intro v18 M w H hle hr18
  replace hp := hp.mono hle
  replace hb := hb.mono hle
  obtain ⟨v18, rfl, hf18⟩ := hr18
  refine WR.step (Ex.move rfl) (Wn.none rfl) rfl rfl ?_
  refine WR.step (Ex.extract rfl rfl) (Wn.none rfl) rfl rfl ?_
  refine WR.step (Ex.extract rfl rfl) (Wn.none rfl) rfl rfl ?_
  refine WR.alloc [_, _] H Tryd.zeroValue28 rfl (Wn.none rfl) rfl ?_
  intro b8 w H
  refine WR.step (Ex.assign rfl) (Wn.none rfl) rfl rfl ?_
  refine WR.store [_, _] H rfl rfl rfl (by repeat (first | exact Upd.head | apply Upd.tail)) Tryd.sizeOf28 rfl (by rfl) (by rfl) (Wn.none rfl) ?_
  intro w H
  refine WR.nil ?_
  refine WQ.then ?_
  refine WC.seq ?_
  refine WC.seq ?_
  refine WC.region ?_
  have hbl := encGo_len (fun c b h => encK_len h) _ _ _ hg
  have hcl := decU_len l
  rw [decU, List.length_map] at hcl
  have hde := decoded_enc hv hg m
  have hvd : vld (l ++ decoded k m) = true := by rw [← hde]; exact vld_decoded _ _
  have hdl := decoded_len k m
  refine WR.step (Ex.fieldAddr Tryd.underlying28 rfl Tryd.sizeOf3 (by decide) rfl) (Wn.none rfl) rfl rfl ?_
  first | refine WR.step (Ex.loadM H rfl (by assumption) Tryd.isAgg3) (Wn.none rfl) rfl rfl ?_ | refine WR.step (Ex.load1 H rfl (by repeat (first | exact List.Mem.head _ | apply List.Mem.tail)) Tryd.isAgg3 (by rfl)) (Wn.none rfl) rfl rfl ?_
  refine WR.stepF (Ex.neq rfl rfl) (by decide) (Wn.none rfl) rfl rfl ?_
  refine WR.step (Ex.move rfl) (Wn.none rfl) rfl rfl ?_
  refine WR.step (Ex.move rfl) (Wn.some rfl rfl rfl) rfl rfl ?_
  first | refine WR.step (Ex.lenSl Tryd.underlying34 (by assumption) rfl) (Wn.some rfl rfl rfl) rfl rfl ?_ | refine WR.step (Ex.lenRow Tryd.underlying34 H (by repeat (first | exact List.Mem.head _ | apply List.Mem.tail)) rfl) (Wn.some rfl rfl rfl) rfl rfl ?_ | refine WR.step (Ex.lenSlice Tryd.underlying34 rfl) (Wn.some rfl rfl rfl) rfl rfl ?_
  refine WR.step (Ex.move rfl) (Wn.some rfl rfl rfl) rfl rfl ?_
  first | refine WR.step (Ex.lenSl Tryd.underlying34 (by assumption) rfl) (Wn.some rfl rfl rfl) rfl rfl ?_ | refine WR.step (Ex.lenRow Tryd.underlying34 H (by repeat (first | exact List.Mem.head _ | apply List.Mem.tail)) rfl) (Wn.some rfl rfl rfl) rfl rfl ?_ | refine WR.step (Ex.lenSlice Tryd.underlying34 rfl) (Wn.some rfl rfl rfl) rfl rfl ?_
  refine WR.step (Ex.add64 rfl rfl (by omega)) (Wn.some rfl rfl rfl) rfl rfl ?_
  refine WR.stepF (Ex.gtr rfl rfl) (by omega) (Wn.some rfl rfl rfl) rfl rfl ?_
  refine WR.step (Ex.pickF rfl rfl) (Wn.none rfl) rfl rfl ?_
  refine WR.nil ?_
  refine WQ.then ?_
  refine WC.condF rfl ?_
  refine WC.skip ?_
  refine WQ.then ?_
  refine WC.seq ?_
  refine WC.region ?_
  refine WR.step (Ex.move rfl) (Wn.none rfl) rfl rfl ?_
  refine WR.step (Ex.move rfl) (Wn.none rfl) rfl rfl ?_
  replace H := H.newRow 5 encB
  refine WR.appendSl ty34 (fun _ => rfl) H rfl (fun _ => by repeat (first | exact Upd.head | apply Upd.tail)) rfl (by assumption) (by first | omega | (simp only [List.length_append, List.length_cons, List.length_nil, List.length_take, List.length_drop]; omega)) (by first | (simp only [maxLen]; omega) | (simp only [maxLen, List.length_append, List.length_cons, List.length_nil, List.length_take, List.length_drop]; omega)) (Wn.none rfl) rfl ?_
  intro v35 w H
  refine WR.step (Ex.move rfl) (Wn.none rfl) rfl rfl ?_
  refine WR.appendSl ty34 (fun _ => rfl) H rfl (fun _ => by repeat (first | exact Upd.head | apply Upd.tail)) rfl (by assumption) (by first | omega | (simp only [List.length_append, List.length_cons, List.length_nil, List.length_take, List.length_drop]; omega)) (by first | (simp only [maxLen]; omega) | (simp only [maxLen, List.length_append, List.length_cons, List.length_nil, List.length_take, List.length_drop]; omega)) (Wn.none rfl) rfl ?_
  intro v37 w H
  obtain ⟨M, hle, hf, H⟩ := H.freezeRow (v := v37) (enc := encB) (t := 5) (by repeat (first | exact Rem.head | apply Rem.tail))
  replace hp := hp.mono hle
  replace hb := hb.mono hle
  rw [List.nil_append] at hf
  refine WR.call H (decode_spec_k _ _ (b ++ m) hn (by rw [List.length_append]; exact hlong) k hk) rfl (by assumption) (Wn.none rfl) rfl ?_
  intro v38 M w H hle hr38
  replace hp := hp.mono hle
  replace hb := hb.mono hle
  replace hf := hf.mono hle
  obtain rfl := hr38
  refine WR.step (Ex.move rfl) (Wn.none rfl) rfl rfl ?_
  refine WR.stepE (v' := S (l ++ decoded k m)) (Ex.extract rfl rfl) (by rw [hde]) (Wn.none rfl) rfl rfl ?_
  refine WR.step (Ex.extract rfl rfl) (Wn.none rfl) rfl rfl ?_
  refine WR.alloc [_, _] H Tryd.zeroValue28 rfl (Wn.none rfl) rfl ?_
  intro b10 w H
  refine WR.step (Ex.assign rfl) (Wn.none rfl) rfl rfl ?_
  refine WR.store [_, _] H rfl rfl rfl (by repeat (first | exact Upd.head | apply Upd.tail)) Tryd.sizeOf28 rfl (by rfl) (by rfl) (Wn.none rfl) ?_
  intro w H
  refine WR.nil ?_
  refine WQ.then ?_
  refine WC.seq ?_
  refine WC.region ?_
  refine WR.step (Ex.move rfl) (Wn.none rfl) rfl rfl ?_
  refine WR.step (Ex.move rfl) (Wn.none rfl) rfl rfl ?_
  refine WR.call H (decode_spec_k _ _ m hn (by omega) k hk) rfl (by assumption) (Wn.none rfl) rfl ?_
  intro v44 M w H hle hr44
  replace hp := hp.mono hle
  replace hb := hb.mono hle
  replace hf := hf.mono hle
  obtain rfl := hr44
  refine WR.step (Ex.move rfl) (Wn.none rfl) rfl rfl ?_
  refine WR.step (Ex.extract rfl rfl) (Wn.none rfl) rfl rfl ?_
  refine WR.step (Ex.extract rfl rfl) (Wn.none rfl) rfl rfl ?_
  refine WR.alloc [_, _] H Tryd.zeroValue28 rfl (Wn.none rfl) rfl ?_
  intro b12 w H
  refine WR.step (Ex.assign rfl) (Wn.none rfl) rfl rfl ?_
  refine WR.store [_, _] H rfl rfl rfl (by repeat (first | exact Upd.head | apply Upd.tail)) Tryd.sizeOf28 rfl (by rfl) (by rfl) (Wn.none rfl) ?_
  intro w H
  refine WR.nil ?_
  refine WQ.then ?_
  refine WC.seq ?_
  refine WC.region ?_
  refine WR.step (Ex.fieldAddr Tryd.underlying28 rfl Tryd.sizeOf3 (by decide) rfl) (Wn.none rfl) rfl rfl ?_
  first | refine WR.step (Ex.loadM H rfl (by assumption) Tryd.isAgg3) (Wn.none rfl) rfl rfl ?_ | refine WR.step (Ex.load1 H rfl (by repeat (first | exact List.Mem.head _ | apply List.Mem.tail)) Tryd.isAgg3 (by rfl)) (Wn.none rfl) rfl rfl ?_
  refine WR.stepT (Ex.eql rfl rfl) rfl (Wn.none rfl) rfl rfl ?_
  refine WR.step (Ex.move rfl) (Wn.none rfl) rfl rfl ?_
  refine WR.step (Ex.fieldAddr Tryd.underlying28 rfl Tryd.sizeOf3 (by decide) rfl) (Wn.some rfl rfl rfl) rfl rfl ?_
  first | refine WR.step (Ex.loadM H rfl (by assumption) Tryd.isAgg3) (Wn.some rfl rfl rfl) rfl rfl ?_ | refine WR.step (Ex.load1 H rfl (by repeat (first | exact List.Mem.head _ | apply List.Mem.tail)) Tryd.isAgg3 (by rfl)) (Wn.some rfl rfl rfl) rfl rfl ?_
  refine WR.stepT (Ex.eql rfl rfl) rfl (Wn.some rfl rfl rfl) rfl rfl ?_
  refine WR.step (Ex.pickT rfl rfl) (Wn.none rfl) rfl rfl ?_
  refine WR.step (Ex.move rfl) (Wn.none rfl) rfl rfl ?_
  refine WR.step (Ex.move rfl) (Wn.some rfl rfl rfl) rfl rfl ?_
  refine WR.call H (Ct.mono (valid_spec (l ++ decoded k m) (by have := decoded_len k m; rw [List.length_append]; omega)) (R' := fun r _ => r = .bool true) (fun _ _ h => by rw [hvd] at h; exact h)) rfl (trivial) (Wn.some rfl rfl rfl) rfl ?_
  intro v57 M w H hle hr57
  replace hp := hp.mono hle
  replace hb := hb.mono hle
  replace hf := hf.mono hle
  obtain rfl := hr57
  refine WR.step (Ex.pickT rfl rfl) (Wn.none rfl) rfl rfl ?_
  refine WR.step (Ex.move rfl) (Wn.none rfl) rfl rfl ?_
  refine WR.step (Ex.move rfl) (Wn.some rfl rfl rfl) rfl rfl ?_
  refine WR.step (Ex.move rfl) (Wn.some rfl rfl rfl) rfl rfl ?_
  refine WR.step (Ex.move rfl) (Wn.some rfl rfl rfl) rfl rfl ?_
  refine WR.step (Ex.strAdd rfl rfl (by first | omega | (simp only [List.length_cons, List.length_nil]; omega) | (simp only [List.length_append, List.length_cons, List.length_nil, List.length_drop, List.length_take]; omega))) (Wn.some rfl rfl rfl) rfl rfl ?_
  refine WR.stepT (Ex.strEql rfl rfl) rfl (Wn.some rfl rfl rfl) rfl rfl ?_
  refine WR.step (Ex.pickT rfl rfl) (Wn.none rfl) rfl rfl ?_
  refine WR.step (Ex.assign rfl) (Wn.none rfl) rfl rfl ?_
  refine WR.nil ?_
  refine WQ.then ?_
  refine WC.ret ?_
  (repeat (first | refine WQ.thenRet ?_ | refine WQ.inBlockRet ?_))
  refine WQ.ret1 rfl rfl H.ext ?_
  exact rfl

theorem best0 {l : List UInt8} (hv : vld l = true) (hb : bestK l = 0) : ∀ c ∈ chars l, c.1 < 128 := by
  intro c hc
  have h0 := (okN_of_vld hv c hc).1.1
  unfold bestK at hb
  split at hb
  · cases hb
  · split at hb
    · cases hb
    · rename_i h2
      rw [Bool.not_eq_true, List.any_eq_false] at h2
      have := h2 c hc
      rw [decide_eq_true_eq, fix0_id h0] at this
      omega
theorem best1 {l : List UInt8} (hv : vld l = true) (hb : bestK l = 1) : (∀ c ∈ chars l, c.1 < 256) ∧ ∃ c ∈ chars l, ¬ c.1 < 128 := by
  unfold bestK at hb
  split at hb
  · cases hb
  · rename_i h1
    split at hb
    · rename_i h2
      rw [Bool.not_eq_true, List.any_eq_false] at h1
      obtain ⟨c, hc, hx⟩ := List.any_eq_true.1 h2
      rw [decide_eq_true_eq, fix0_id (okN_of_vld hv c hc).1.1] at hx
      refine ⟨fun d hd => ?_, c, hc, by omega⟩
      have := h1 d hd
      rw [decide_eq_true_eq, fix0_id (okN_of_vld hv d hd).1.1] at this
      omega
    · cases hb
theorem best2 {l : List UInt8} (hv : vld l = true) (hb : bestK l = 2) : ∃ c ∈ chars l, ¬ c.1 < 256 := by
  unfold bestK at hb
  split at hb
  · rename_i h1
    obtain ⟨c, hc, hx⟩ := List.any_eq_true.1 h1
    rw [decide_eq_true_eq, fix0_id (okN_of_vld hv c hc).1.1] at hx
    exact ⟨c, hc, by omega⟩
  · split at hb <;> cases hb
theorem bestK_cases (l : List UInt8) : bestK l = 0 ∨ bestK l = 1 ∨ bestK l = 2 := by
  unfold bestK
  split
  · exact .inr (.inr rfl)
  · split
    · exact .inr (.inl rfl)
    · exact .inl rfl
theorem one_ok {l : List UInt8} {bd : Int} (h : ∀ c ∈ chars l, c.1 < bd) : ∃ b, encGo (Chs.encS bd) (chars l) 0 = .ok b := encGo_all _ _ (fun c hc => ⟨[ub c.1], by rw [Chs.encS, if_pos (h c hc)]⟩)
theorem one_err {l : List UInt8} {bd : Int} (h : ∃ c ∈ chars l, ¬ c.1 < bd) : ∃ e, encGo (Chs.encS bd) (chars l) 0 = .error e := by
  obtain ⟨c, hc, hx⟩ := h
  exact encGo_err _ _ hc (by rw [Chs.encS, if_neg hx])
theorem two_ok (l : List UInt8) : ∃ b, encGo encU (chars l) 0 = .ok b := encGo_all _ _ (fun c _ => ⟨utf8 c.1, rfl⟩)

theorem c4_big (l : List UInt8) (hs : l.length ≤ 1048576) (hb : 12000 < l.length) : Ct Tryd.prog 11 [S l] (fun M => Tabs M) (fun r _ => r = .bool true) := by
  refine Ct.of Tryd.func11 (enters Tryd.func11 (by kernel_rfl) rfl) rfl rfl rfl ?_
  intro w0 M0 H hp
  refine WC.seq ?_
  refine WC.region ?_
  refine WR.step (Ex.assign rfl) (Wn.none rfl) rfl rfl ?_
  refine WR.nil ?_
  refine WQ.then ?_
  refine WC.seq ?_
  refine WC.seq ?_
  refine WC.region ?_
  refine WR.call H (chx_spec) rfl (by assumption) (Wn.none rfl) rfl ?_
  intro v9 M w H hle hr9
  replace hp := hp.mono hle
  obtain rfl := hr9
  refine WR.step (Ex.notT rfl) (Wn.none rfl) rfl rfl ?_
  refine WR.step (Ex.move rfl) (Wn.none rfl) rfl rfl ?_
  refine WR.step (Ex.move rfl) (Wn.some rfl rfl rfl) rfl rfl ?_
  refine WR.call H (best_spec _) rfl (trivial) (Wn.some rfl rfl rfl) rfl ?_
  intro v13 M w H hle hr13
  replace hp := hp.mono hle
  obtain rfl := hr13
  refine WR.step (Ex.move rfl) (Wn.some rfl rfl rfl) rfl rfl ?_
  refine WR.call H (rbest_spec _ (by omega)) rfl (trivial) (Wn.some rfl rfl rfl) rfl ?_
  intro v15 M w H hle hr15
  replace hp := hp.mono hle
  obtain rfl := hr15
  refine WR.stepF (Ex.strNeq rfl rfl) (fun h => h rfl) (Wn.some rfl rfl rfl) rfl rfl ?_
  refine WR.step (Ex.pickF rfl rfl) (Wn.none rfl) rfl rfl ?_
  refine WR.nil ?_
  refine WQ.then ?_
  refine WC.condF rfl ?_
  refine WC.skip ?_
  refine WQ.then ?_
  refine WC.seq ?_
  refine WC.seq ?_
  refine WC.region ?_
  refine WR.step (Ex.move rfl) (Wn.none rfl) rfl rfl ?_
  refine WR.step (Ex.lenStr Tryd.underlying9 rfl) (Wn.none rfl) rfl rfl ?_
  refine WR.stepT (Ex.gtr rfl rfl) (by omega) (Wn.none rfl) rfl rfl ?_
  refine WR.step (Ex.move rfl) (Wn.none rfl) rfl rfl ?_
  refine WR.skipG (b := true) rfl rfl rfl rfl rfl ?_
  refine WR.skipG (b := true) rfl rfl rfl rfl rfl ?_
  refine WR.skipG (b := true) rfl rfl rfl rfl rfl ?_
  refine WR.step (Ex.pickT rfl rfl) (Wn.none rfl) rfl rfl ?_
  refine WR.nil ?_
  refine WQ.then ?_
  refine WC.condT rfl ?_
  refine WC.seq ?_
  refine WC.region ?_
  refine WR.step (Ex.assign rfl) (Wn.none rfl) rfl rfl ?_
  refine WR.nil ?_
  refine WQ.then ?_
  refine WC.ret ?_
  (repeat (first | refine WQ.thenRet ?_ | refine WQ.inBlockRet ?_))
  refine WQ.ret1 rfl rfl H.ext ?_
  exact rfl

theorem c4_mal (l : List UInt8) (hs : l.length ≤ 12000) (hv : vld l = false) : Ct Tryd.prog 11 [S l] (fun M => Tabs M) (fun r _ => r = .bool true) := by
  refine Ct.of Tryd.func11 (enters Tryd.func11 (by kernel_rfl) rfl) rfl rfl rfl ?_
  intro w0 M0 H hp
  refine WC.seq ?_
  refine WC.region ?_
  refine WR.step (Ex.assign rfl) (Wn.none rfl) rfl rfl ?_
  refine WR.nil ?_
  refine WQ.then ?_
  refine WC.seq ?_
  refine WC.seq ?_
  refine WC.region ?_
  refine WR.call H (chx_spec) rfl (by assumption) (Wn.none rfl) rfl ?_
  intro v9 M w H hle hr9
  replace hp := hp.mono hle
  obtain rfl := hr9
  refine WR.step (Ex.notT rfl) (Wn.none rfl) rfl rfl ?_
  refine WR.step (Ex.move rfl) (Wn.none rfl) rfl rfl ?_
  refine WR.step (Ex.move rfl) (Wn.some rfl rfl rfl) rfl rfl ?_
  refine WR.call H (best_spec _) rfl (trivial) (Wn.some rfl rfl rfl) rfl ?_
  intro v13 M w H hle hr13
  replace hp := hp.mono hle
  obtain rfl := hr13
  refine WR.step (Ex.move rfl) (Wn.some rfl rfl rfl) rfl rfl ?_
  refine WR.call H (rbest_spec _ (by omega)) rfl (trivial) (Wn.some rfl rfl rfl) rfl ?_
  intro v15 M w H hle hr15
  replace hp := hp.mono hle
  obtain rfl := hr15
  refine WR.stepF (Ex.strNeq rfl rfl) (fun h => h rfl) (Wn.some rfl rfl rfl) rfl rfl ?_
  refine WR.step (Ex.pickF rfl rfl) (Wn.none rfl) rfl rfl ?_
  refine WR.nil ?_
  refine WQ.then ?_
  refine WC.condF rfl ?_
  refine WC.skip ?_
  refine WQ.then ?_
  refine WC.seq ?_
  refine WC.seq ?_
  refine WC.region ?_
  refine WR.step (Ex.move rfl) (Wn.none rfl) rfl rfl ?_
  refine WR.step (Ex.lenStr Tryd.underlying9 rfl) (Wn.none rfl) rfl rfl ?_
  refine WR.stepF (Ex.gtr rfl rfl) (by omega) (Wn.none rfl) rfl rfl ?_
  refine WR.step (Ex.move rfl) (Wn.none rfl) rfl rfl ?_
  refine WR.step (Ex.move rfl) (Wn.some rfl rfl rfl) rfl rfl ?_
  refine WR.call H (Ct.mono (valid_spec l (by omega)) (R' := fun r _ => r = .bool false) (fun _ _ h => by rw [hv] at h; exact h)) rfl (trivial) (Wn.some rfl rfl rfl) rfl ?_
  intro v23 M w H hle hr23
  replace hp := hp.mono hle
  obtain rfl := hr23
  refine WR.step (Ex.notF rfl) (Wn.some rfl rfl rfl) rfl rfl ?_
  refine WR.step (Ex.pickF rfl rfl) (Wn.none rfl) rfl rfl ?_
  refine WR.nil ?_
  refine WQ.then ?_
  refine WC.condT rfl ?_
  refine WC.seq ?_
  refine WC.region ?_
  refine WR.step (Ex.assign rfl) (Wn.none rfl) rfl rfl ?_
  refine WR.nil ?_
  refine WQ.then ?_
  refine WC.ret ?_
  (repeat (first | refine WQ.thenRet ?_ | refine WQ.inBlockRet ?_))
  refine WQ.ret1 rfl rfl H.ext ?_
  exact rfl

theorem c4_0 (l : List UInt8) (hs : l.length ≤ 12000) (hv : vld l = true) (hb : bestK l = 0) : Ct Tryd.prog 11 [S l] (fun M => Tabs M) (fun r _ => r = .bool true) := by
  refine Ct.of Tryd.func11 (enters Tryd.func11 (by kernel_rfl) rfl) rfl rfl rfl ?_
  intro w0 M0 H hp
  have hbn : bestN l = [97, 115, 99, 105, 105] := by unfold bestN; rw [hb]; rfl
  have ha := best0 hv hb
  obtain ⟨b0, hg0⟩ := one_ok ha
  obtain ⟨b1, hg1⟩ := one_ok (bd := 256) (fun c hc => by have := ha c hc; omega)
  refine WC.seq ?_
  refine WC.region ?_
  refine WR.step (Ex.assign rfl) (Wn.none rfl) rfl rfl ?_
  refine WR.nil ?_
  refine WQ.then ?_
  refine WC.seq ?_
  refine WC.seq ?_
  refine WC.region ?_
  refine WR.call H (chx_spec) rfl (by assumption) (Wn.none rfl) rfl ?_
  intro v9 M w H hle hr9
  replace hp := hp.mono hle
  obtain rfl := hr9
  refine WR.step (Ex.notT rfl) (Wn.none rfl) rfl rfl ?_
  refine WR.step (Ex.move rfl) (Wn.none rfl) rfl rfl ?_
  refine WR.step (Ex.move rfl) (Wn.some rfl rfl rfl) rfl rfl ?_
  refine WR.call H (best_spec _) rfl (trivial) (Wn.some rfl rfl rfl) rfl ?_
  intro v13 M w H hle hr13
  replace hp := hp.mono hle
  obtain rfl := hr13
  refine WR.step (Ex.move rfl) (Wn.some rfl rfl rfl) rfl rfl ?_
  refine WR.call H (rbest_spec _ (by omega)) rfl (trivial) (Wn.some rfl rfl rfl) rfl ?_
  intro v15 M w H hle hr15
  replace hp := hp.mono hle
  obtain rfl := hr15
  refine WR.stepF (Ex.strNeq rfl rfl) (fun h => h rfl) (Wn.some rfl rfl rfl) rfl rfl ?_
  refine WR.step (Ex.pickF rfl rfl) (Wn.none rfl) rfl rfl ?_
  refine WR.nil ?_
  refine WQ.then ?_
  refine WC.condF rfl ?_
  refine WC.skip ?_
  refine WQ.then ?_
  refine WC.seq ?_
  refine WC.seq ?_
  refine WC.region ?_
  refine WR.step (Ex.move rfl) (Wn.none rfl) rfl rfl ?_
  refine WR.step (Ex.lenStr Tryd.underlying9 rfl) (Wn.none rfl) rfl rfl ?_
  refine WR.stepF (Ex.gtr rfl rfl) (by omega) (Wn.none rfl) rfl rfl ?_
  refine WR.step (Ex.move rfl) (Wn.none rfl) rfl rfl ?_
  refine WR.step (Ex.move rfl) (Wn.some rfl rfl rfl) rfl rfl ?_
  refine WR.call H (Ct.mono (valid_spec l (by omega)) (R' := fun r _ => r = .bool true) (fun _ _ h => by rw [hv] at h; exact h)) rfl (trivial) (Wn.some rfl rfl rfl) rfl ?_
  intro v23 M w H hle hr23
  replace hp := hp.mono hle
  obtain rfl := hr23
  refine WR.step (Ex.notT rfl) (Wn.some rfl rfl rfl) rfl rfl ?_
  refine WR.step (Ex.pickF rfl rfl) (Wn.none rfl) rfl rfl ?_
  refine WR.nil ?_
  refine WQ.then ?_
  refine WC.condF rfl ?_
  refine WC.skip ?_
  refine WQ.then ?_
  refine WC.seq ?_
  refine WC.region ?_
  refine WR.step (Ex.move rfl) (Wn.none rfl) rfl rfl ?_
  refine WR.call H (Ct.mono (best_spec l) (R' := fun r _ => r = S [97, 115, 99, 105, 105]) (fun _ _ h => by rw [hbn] at h; exact h)) rfl (trivial) (Wn.none rfl) rfl ?_
  intro v28 M w H hle hr28
  replace hp := hp.mono hle
  obtain rfl := hr28
  refine WR.step (Ex.move rfl) (Wn.none rfl) rfl rfl ?_
  refine WR.call H (encode_ok (name := [97, 115, 99, 105, 105]) (by decide) hs (k := 0) (by kernel_rfl) hv hg0) rfl (by assumption) (Wn.none rfl) rfl ?_
  intro v30 M w H hle hr30
  replace hp := hp.mono hle
  obtain ⟨v30, rfl, hf30⟩ := hr30
  refine WR.step (Ex.move rfl) (Wn.none rfl) rfl rfl ?_
  refine WR.step (Ex.extract rfl rfl) (Wn.none rfl) rfl rfl ?_
  refine WR.step (Ex.extract rfl rfl) (Wn.none rfl) rfl rfl ?_
  refine WR.alloc [_, _] H Tryd.zeroValue28 rfl (Wn.none rfl) rfl ?_
  intro b4 w H
  refine WR.step (Ex.assign rfl) (Wn.none rfl) rfl rfl ?_
  refine WR.store [_, _] H rfl rfl rfl (by repeat (first | exact Upd.head | apply Upd.tail)) Tryd.sizeOf28 rfl (by rfl) (by rfl) (Wn.none rfl) ?_
  intro w H
  refine WR.nil ?_
  refine WQ.then ?_
  refine WC.seq ?_
  refine WC.region ?_
  refine WR.step (Ex.move rfl) (Wn.none rfl) rfl rfl ?_
  refine WR.call H (encode_ok (name := [97, 115, 99, 105, 105]) (by decide) hs (k := 0) (by kernel_rfl) hv hg0) rfl (by assumption) (Wn.none rfl) rfl ?_
  intro v35 M w H hle hr35
  replace hp := hp.mono hle
  replace hf30 := hf30.mono hle
  obtain ⟨v35, rfl, hf35⟩ := hr35
  refine WR.step (Ex.move rfl) (Wn.none rfl) rfl rfl ?_
  refine WR.step (Ex.extract rfl rfl) (Wn.none rfl) rfl rfl ?_
  refine WR.step (Ex.extract rfl rfl) (Wn.none rfl) rfl rfl ?_
  refine WR.alloc [_, _] H Tryd.zeroValue28 rfl (Wn.none rfl) rfl ?_
  intro b6 w H
  refine WR.step (Ex.assign rfl) (Wn.none rfl) rfl rfl ?_
  refine WR.store [_, _] H rfl rfl rfl (by repeat (first | exact Upd.head | apply Upd.tail)) Tryd.sizeOf28 rfl (by rfl) (by rfl) (Wn.none rfl) ?_
  intro w H
  refine WR.nil ?_
  refine WQ.then ?_
  refine WC.seq ?_
  refine WC.region ?_
  refine WR.step (Ex.move rfl) (Wn.none rfl) rfl rfl ?_
  refine WR.call H (encode_ok (name := [108, 97, 116, 105, 110, 49]) (by decide) hs (k := 1) (by kernel_rfl) hv hg1) rfl (by assumption) (Wn.none rfl) rfl ?_
  intro v40 M w H hle hr40
  replace hp := hp.mono hle
  replace hf30 := hf30.mono hle
  replace hf35 := hf35.mono hle
  obtain ⟨v40, rfl, hf40⟩ := hr40
  refine WR.step (Ex.move rfl) (Wn.none rfl) rfl rfl ?_
  refine WR.step (Ex.extract rfl rfl) (Wn.none rfl) rfl rfl ?_
  refine WR.step (Ex.extract rfl rfl) (Wn.none rfl) rfl rfl ?_
  refine WR.alloc [_, _] H Tryd.zeroValue28 rfl (Wn.none rfl) rfl ?_
  intro b8 w H
  refine WR.step (Ex.assign rfl) (Wn.none rfl) rfl rfl ?_
  refine WR.store [_, _] H rfl rfl rfl (by repeat (first | exact Upd.head | apply Upd.tail)) Tryd.sizeOf28 rfl (by rfl) (by rfl) (Wn.none rfl) ?_
  intro w H
  refine WR.nil ?_
  refine WQ.then ?_
  refine WC.seq ?_
  refine WC.seq ?_
  refine WC.region ?_
  refine WR.step (Ex.move rfl) (Wn.none rfl) rfl rfl ?_
  refine WR.call H (Ct.mono (best_spec l) (R' := fun r _ => r = S [97, 115, 99, 105, 105]) (fun _ _ h => by rw [hbn] at h; exact h)) rfl (trivial) (Wn.none rfl) rfl ?_
  intro v44 M w H hle hr44
  replace hp := hp.mono hle
  replace hf30 := hf30.mono hle
  replace hf35 := hf35.mono hle
  replace hf40 := hf40.mono hle
  obtain rfl := hr44
  refine WR.nil ?_
  refine WQ.then ?_
  refine WC.block ?_
  refine WC.seq ?_
  refine WC.region ?_
  refine WR.stepT (Ex.strEql rfl rfl) rfl (Wn.none rfl) rfl rfl ?_
  refine WR.step (Ex.assign rfl) (Wn.none rfl) rfl rfl ?_
  refine WR.nil ?_
  refine WQ.then ?_
  refine WC.condT rfl ?_
  refine WC.seq ?_
  refine WC.region ?_
  refine WR.step (Ex.fieldAddr Tryd.underlying28 rfl Tryd.sizeOf3 (by decide) rfl) (Wn.none rfl) rfl rfl ?_
  first | refine WR.step (Ex.loadM H rfl (by assumption) Tryd.isAgg3) (Wn.none rfl) rfl rfl ?_ | refine WR.step (Ex.load1 H rfl (by repeat (first | exact List.Mem.head _ | apply List.Mem.tail)) Tryd.isAgg3 (by rfl)) (Wn.none rfl) rfl rfl ?_
  refine WR.stepT (Ex.eql rfl rfl) rfl (Wn.none rfl) rfl rfl ?_
  refine WR.step (Ex.move rfl) (Wn.none rfl) rfl rfl ?_
  refine WR.step (Ex.fieldAddr Tryd.underlying28 rfl Tryd.sizeOf3 (by decide) rfl) (Wn.some rfl rfl rfl) rfl rfl ?_
  first | refine WR.step (Ex.loadM H rfl (by assumption) Tryd.isAgg3) (Wn.some rfl rfl rfl) rfl rfl ?_ | refine WR.step (Ex.load1 H rfl (by repeat (first | exact List.Mem.head _ | apply List.Mem.tail)) Tryd.isAgg3 (by rfl)) (Wn.some rfl rfl rfl) rfl rfl ?_
  refine WR.stepT (Ex.eql rfl rfl) rfl (Wn.some rfl rfl rfl) rfl rfl ?_
  refine WR.step (Ex.pickT rfl rfl) (Wn.none rfl) rfl rfl ?_
  refine WR.step (Ex.assign rfl) (Wn.none rfl) rfl rfl ?_
  refine WR.nil ?_
  refine WQ.then ?_
  refine WC.ret ?_
  (repeat (first | refine WQ.thenRet ?_ | refine WQ.inBlockRet ?_))
  refine WQ.ret1 rfl rfl H.ext ?_
  exact rfl

theorem c4_1 (l : List UInt8) (hs : l.length ≤ 12000) (hv : vld l = true) (hb : bestK l = 1) : Ct Tryd.prog 11 [S l] (fun M => Tabs M) (fun r _ => r = .bool true) := by
  refine Ct.of Tryd.func11 (enters Tryd.func11 (by kernel_rfl) rfl) rfl rfl rfl ?_
  intro w0 M0 H hp
  have hbn : bestN l = [108, 97, 116, 105, 110, 49] := by unfold bestN; rw [hb]; rfl
  obtain ⟨ha, hx⟩ := best1 hv hb
  obtain ⟨e0, hg0⟩ := one_err hx
  obtain ⟨b1, hg1⟩ := one_ok ha
  refine WC.seq ?_
  refine WC.region ?_
  refine WR.step (Ex.assign rfl) (Wn.none rfl) rfl rfl ?_
  refine WR.nil ?_
  refine WQ.then ?_
  refine WC.seq ?_
  refine WC.seq ?_
  refine WC.region ?_
  refine WR.call H (chx_spec) rfl (by assumption) (Wn.none rfl) rfl ?_
  intro v9 M w H hle hr9
  replace hp := hp.mono hle
  obtain rfl := hr9
  refine WR.step (Ex.notT rfl) (Wn.none rfl) rfl rfl ?_
  refine WR.step (Ex.move rfl) (Wn.none rfl) rfl rfl ?_
  refine WR.step (Ex.move rfl) (Wn.some rfl rfl rfl) rfl rfl ?_
  refine WR.call H (best_spec _) rfl (trivial) (Wn.some rfl rfl rfl) rfl ?_
  intro v13 M w H hle hr13
  replace hp := hp.mono hle
  obtain rfl := hr13
  refine WR.step (Ex.move rfl) (Wn.some rfl rfl rfl) rfl rfl ?_
  refine WR.call H (rbest_spec _ (by omega)) rfl (trivial) (Wn.some rfl rfl rfl) rfl ?_
  intro v15 M w H hle hr15
  replace hp := hp.mono hle
  obtain rfl := hr15
  refine WR.stepF (Ex.strNeq rfl rfl) (fun h => h rfl) (Wn.some rfl rfl rfl) rfl rfl ?_
  refine WR.step (Ex.pickF rfl rfl) (Wn.none rfl) rfl rfl ?_
  refine WR.nil ?_
  refine WQ.then ?_
  refine WC.condF rfl ?_
  refine WC.skip ?_
  refine WQ.then ?_
  refine WC.seq ?_
  refine WC.seq ?_
  refine WC.region ?_
  refine WR.step (Ex.move rfl) (Wn.none rfl) rfl rfl ?_
  refine WR.step (Ex.lenStr Tryd.underlying9 rfl) (Wn.none rfl) rfl rfl ?_
  refine WR.stepF (Ex.gtr rfl rfl) (by omega) (Wn.none rfl) rfl rfl ?_
  refine WR.step (Ex.move rfl) (Wn.none rfl) rfl rfl ?_
  refine WR.step (Ex.move rfl) (Wn.some rfl rfl rfl) rfl rfl ?_
  refine WR.call H (Ct.mono (valid_spec l (by omega)) (R' := fun r _ => r = .bool true) (fun _ _ h => by rw [hv] at h; exact h)) rfl (trivial) (Wn.some rfl rfl rfl) rfl ?_
  intro v23 M w H hle hr23
  replace hp := hp.mono hle
  obtain rfl := hr23
  refine WR.step (Ex.notT rfl) (Wn.some rfl rfl rfl) rfl rfl ?_
  refine WR.step (Ex.pickF rfl rfl) (Wn.none rfl) rfl rfl ?_
  refine WR.nil ?_
  refine WQ.then ?_
  refine WC.condF rfl ?_
  refine WC.skip ?_
  refine WQ.then ?_
  refine WC.seq ?_
  refine WC.region ?_
  refine WR.step (Ex.move rfl) (Wn.none rfl) rfl rfl ?_
  refine WR.call H (Ct.mono (best_spec l) (R' := fun r _ => r = S [108, 97, 116, 105, 110, 49]) (fun _ _ h => by rw [hbn] at h; exact h)) rfl (trivial) (Wn.none rfl) rfl ?_
  intro v28 M w H hle hr28
  replace hp := hp.mono hle
  obtain rfl := hr28
  refine WR.step (Ex.move rfl) (Wn.none rfl) rfl rfl ?_
  refine WR.call H (encode_ok (name := [108, 97, 116, 105, 110, 49]) (by decide) hs (k := 1) (by kernel_rfl) hv hg1) rfl (by assumption) (Wn.none rfl) rfl ?_
  intro v30 M w H hle hr30
  replace hp := hp.mono hle
  obtain ⟨v30, rfl, hf30⟩ := hr30
  refine WR.step (Ex.move rfl) (Wn.none rfl) rfl rfl ?_
  refine WR.step (Ex.extract rfl rfl) (Wn.none rfl) rfl rfl ?_
  refine WR.step (Ex.extract rfl rfl) (Wn.none rfl) rfl rfl ?_
  refine WR.alloc [_, _] H Tryd.zeroValue28 rfl (Wn.none rfl) rfl ?_
  intro b4 w H
  refine WR.step (Ex.assign rfl) (Wn.none rfl) rfl rfl ?_
  refine WR.store [_, _] H rfl rfl rfl (by repeat (first | exact Upd.head | apply Upd.tail)) Tryd.sizeOf28 rfl (by rfl) (by rfl) (Wn.none rfl) ?_
  intro w H
  refine WR.nil ?_
  refine WQ.then ?_
  refine WC.seq ?_
  refine WC.region ?_
  refine WR.step (Ex.move rfl) (Wn.none rfl) rfl rfl ?_
  refine WR.call H (encode_err (name := [97, 115, 99, 105, 105]) (by decide) hs (k := 0) (by kernel_rfl) hv hg0) rfl (by assumption) (Wn.none rfl) rfl ?_
  intro v35 M w H hle hr35
  replace hp := hp.mono hle
  replace hf30 := hf30.mono hle
  obtain rfl := hr35
  refine WR.step (Ex.move rfl) (Wn.none rfl) rfl rfl ?_
  refine WR.step (Ex.extract rfl rfl) (Wn.none rfl) rfl rfl ?_
  refine WR.step (Ex.extract rfl rfl) (Wn.none rfl) rfl rfl ?_
  refine WR.alloc [_, _] H Tryd.zeroValue28 rfl (Wn.none rfl) rfl ?_
  intro b6 w H
  refine WR.step (Ex.assign rfl) (Wn.none rfl) rfl rfl ?_
  refine WR.store [_, _] H rfl rfl rfl (by repeat (first | exact Upd.head | apply Upd.tail)) Tryd.sizeOf28 rfl (by rfl) (by rfl) (Wn.none rfl) ?_
  intro w H
  refine WR.nil ?_
  refine WQ.then ?_
  refine WC.seq ?_
  refine WC.region ?_
  refine WR.step (Ex.move rfl) (Wn.none rfl) rfl rfl ?_
  refine WR.call H (encode_ok (name := [108, 97, 116, 105, 110, 49]) (by decide) hs (k := 1) (by kernel_rfl) hv hg1) rfl (by assumption) (Wn.none rfl) rfl ?_
  intro v40 M w H hle hr40
  replace hp := hp.mono hle
  replace hf30 := hf30.mono hle
  obtain ⟨v40, rfl, hf40⟩ := hr40
  refine WR.step (Ex.move rfl) (Wn.none rfl) rfl rfl ?_
  refine WR.step (Ex.extract rfl rfl) (Wn.none rfl) rfl rfl ?_
  refine WR.step (Ex.extract rfl rfl) (Wn.none rfl) rfl rfl ?_
  refine WR.alloc [_, _] H Tryd.zeroValue28 rfl (Wn.none rfl) rfl ?_
  intro b8 w H
  refine WR.step (Ex.assign rfl) (Wn.none rfl) rfl rfl ?_
  refine WR.store [_, _] H rfl rfl rfl (by repeat (first | exact Upd.head | apply Upd.tail)) Tryd.sizeOf28 rfl (by rfl) (by rfl) (Wn.none rfl) ?_
  intro w H
  refine WR.nil ?_
  refine WQ.then ?_
  refine WC.seq ?_
  refine WC.seq ?_
  refine WC.region ?_
  refine WR.step (Ex.move rfl) (Wn.none rfl) rfl rfl ?_
  refine WR.call H (Ct.mono (best_spec l) (R' := fun r _ => r = S [108, 97, 116, 105, 110, 49]) (fun _ _ h => by rw [hbn] at h; exact h)) rfl (trivial) (Wn.none rfl) rfl ?_
  intro v44 M w H hle hr44
  replace hp := hp.mono hle
  replace hf30 := hf30.mono hle
  replace hf40 := hf40.mono hle
  obtain rfl := hr44
  refine WR.nil ?_
  refine WQ.then ?_
  refine WC.block ?_
  refine WC.seq ?_
  refine WC.region ?_
  refine WR.stepF (Ex.strEql rfl rfl) (by decide) (Wn.none rfl) rfl rfl ?_
  refine WR.step (Ex.assign rfl) (Wn.none rfl) rfl rfl ?_
  refine WR.nil ?_
  refine WQ.then ?_
  refine WC.condF rfl ?_
  refine WC.seq ?_
  refine WC.region ?_
  refine WR.stepT (Ex.strEql rfl rfl) rfl (Wn.none rfl) rfl rfl ?_
  refine WR.step (Ex.assign rfl) (Wn.none rfl) rfl rfl ?_
  refine WR.nil ?_
  refine WQ.then ?_
  refine WC.condT rfl ?_
  refine WC.seq ?_
  refine WC.region ?_
  refine WR.step (Ex.fieldAddr Tryd.underlying28 rfl Tryd.sizeOf3 (by decide) rfl) (Wn.none rfl) rfl rfl ?_
  first | refine WR.step (Ex.loadM H rfl (by assumption) Tryd.isAgg3) (Wn.none rfl) rfl rfl ?_ | refine WR.step (Ex.load1 H rfl (by repeat (first | exact List.Mem.head _ | apply List.Mem.tail)) Tryd.isAgg3 (by rfl)) (Wn.none rfl) rfl rfl ?_
  refine WR.stepT (Ex.eql rfl rfl) rfl (Wn.none rfl) rfl rfl ?_
  refine WR.step (Ex.move rfl) (Wn.none rfl) rfl rfl ?_
  refine WR.step (Ex.fieldAddr Tryd.underlying28 rfl Tryd.sizeOf3 (by decide) rfl) (Wn.some rfl rfl rfl) rfl rfl ?_
  first | refine WR.step (Ex.loadM H rfl (by assumption) Tryd.isAgg3) (Wn.some rfl rfl rfl) rfl rfl ?_ | refine WR.step (Ex.load1 H rfl (by repeat (first | exact List.Mem.head _ | apply List.Mem.tail)) Tryd.isAgg3 (by rfl)) (Wn.some rfl rfl rfl) rfl rfl ?_
  refine WR.stepT (Ex.neq rfl rfl) (by decide) (Wn.some rfl rfl rfl) rfl rfl ?_
  refine WR.step (Ex.pickT rfl rfl) (Wn.none rfl) rfl rfl ?_
  refine WR.step (Ex.move rfl) (Wn.none rfl) rfl rfl ?_
  refine WR.step (Ex.fieldAddr Tryd.underlying28 rfl Tryd.sizeOf3 (by decide) rfl) (Wn.some rfl rfl rfl) rfl rfl ?_
  first | refine WR.step (Ex.loadM H rfl (by assumption) Tryd.isAgg3) (Wn.some rfl rfl rfl) rfl rfl ?_ | refine WR.step (Ex.load1 H rfl (by repeat (first | exact List.Mem.head _ | apply List.Mem.tail)) Tryd.isAgg3 (by rfl)) (Wn.some rfl rfl rfl) rfl rfl ?_
  refine WR.stepT (Ex.eql rfl rfl) rfl (Wn.some rfl rfl rfl) rfl rfl ?_
  refine WR.step (Ex.pickT rfl rfl) (Wn.none rfl) rfl rfl ?_
  refine WR.step (Ex.assign rfl) (Wn.none rfl) rfl rfl ?_
  refine WR.nil ?_
  refine WQ.then ?_
  refine WC.ret ?_
  (repeat (first | refine WQ.thenRet ?_ | refine WQ.inBlockRet ?_))
  refine WQ.ret1 rfl rfl H.ext ?_
  exact rfl

theorem c4_2 (l : List UInt8) (hs : l.length ≤ 12000) (hv : vld l = true) (hb : bestK l = 2) : Ct Tryd.prog 11 [S l] (fun M => Tabs M) (fun r _ => r = .bool true) := by
  refine Ct.of Tryd.func11 (enters Tryd.func11 (by kernel_rfl) rfl) rfl rfl rfl ?_
  intro w0 M0 H hp
  have hbn : bestN l = [117, 116, 102, 56] := by unfold bestN; rw [hb]; rfl
  have hx := best2 hv hb
  obtain ⟨e1, hg1⟩ := one_err hx
  obtain ⟨e0, hg0⟩ := one_err (bd := 128) (by obtain ⟨c, hc, h⟩ := hx; exact ⟨c, hc, by omega⟩)
  obtain ⟨b2, hg2⟩ := two_ok l
  refine WC.seq ?_
  refine WC.region ?_
  refine WR.step (Ex.assign rfl) (Wn.none rfl) rfl rfl ?_
  refine WR.nil ?_
  refine WQ.then ?_
  refine WC.seq ?_
  refine WC.seq ?_
  refine WC.region ?_
  refine WR.call H (chx_spec) rfl (by assumption) (Wn.none rfl) rfl ?_
  intro v9 M w H hle hr9
  replace hp := hp.mono hle
  obtain rfl := hr9
  refine WR.step (Ex.notT rfl) (Wn.none rfl) rfl rfl ?_
  refine WR.step (Ex.move rfl) (Wn.none rfl) rfl rfl ?_
  refine WR.step (Ex.move rfl) (Wn.some rfl rfl rfl) rfl rfl ?_
  refine WR.call H (best_spec _) rfl (trivial) (Wn.some rfl rfl rfl) rfl ?_
  intro v13 M w H hle hr13
  replace hp := hp.mono hle
  obtain rfl := hr13
  refine WR.step (Ex.move rfl) (Wn.some rfl rfl rfl) rfl rfl ?_
  refine WR.call H (rbest_spec _ (by omega)) rfl (trivial) (Wn.some rfl rfl rfl) rfl ?_
  intro v15 M w H hle hr15
  replace hp := hp.mono hle
  obtain rfl := hr15
  refine WR.stepF (Ex.strNeq rfl rfl) (fun h => h rfl) (Wn.some rfl rfl rfl) rfl rfl ?_
  refine WR.step (Ex.pickF rfl rfl) (Wn.none rfl) rfl rfl ?_
  refine WR.nil ?_
  refine WQ.then ?_
  refine WC.condF rfl ?_
  refine WC.skip ?_
  refine WQ.then ?_
  refine WC.seq ?_
  refine WC.seq ?_
  refine WC.region ?_
  refine WR.step (Ex.move rfl) (Wn.none rfl) rfl rfl ?_
  refine WR.step (Ex.lenStr Tryd.underlying9 rfl) (Wn.none rfl) rfl rfl ?_
  refine WR.stepF (Ex.gtr rfl rfl) (by omega) (Wn.none rfl) rfl rfl ?_
  refine WR.step (Ex.move rfl) (Wn.none rfl) rfl rfl ?_
  refine WR.step (Ex.move rfl) (Wn.some rfl rfl rfl) rfl rfl ?_
  refine WR.call H (Ct.mono (valid_spec l (by omega)) (R' := fun r _ => r = .bool true) (fun _ _ h => by rw [hv] at h; exact h)) rfl (trivial) (Wn.some rfl rfl rfl) rfl ?_
  intro v23 M w H hle hr23
  replace hp := hp.mono hle
  obtain rfl := hr23
  refine WR.step (Ex.notT rfl) (Wn.some rfl rfl rfl) rfl rfl ?_
  refine WR.step (Ex.pickF rfl rfl) (Wn.none rfl) rfl rfl ?_
  refine WR.nil ?_
  refine WQ.then ?_
  refine WC.condF rfl ?_
  refine WC.skip ?_
  refine WQ.then ?_
  refine WC.seq ?_
  refine WC.region ?_
  refine WR.step (Ex.move rfl) (Wn.none rfl) rfl rfl ?_
  refine WR.call H (Ct.mono (best_spec l) (R' := fun r _ => r = S [117, 116, 102, 56]) (fun _ _ h => by rw [hbn] at h; exact h)) rfl (trivial) (Wn.none rfl) rfl ?_
  intro v28 M w H hle hr28
  replace hp := hp.mono hle
  obtain rfl := hr28
  refine WR.step (Ex.move rfl) (Wn.none rfl) rfl rfl ?_
  refine WR.call H (encode_ok (name := [117, 116, 102, 56]) (by decide) hs (k := 2) (by kernel_rfl) hv hg2) rfl (by assumption) (Wn.none rfl) rfl ?_
  intro v30 M w H hle hr30
  replace hp := hp.mono hle
  obtain ⟨v30, rfl, hf30⟩ := hr30
  refine WR.step (Ex.move rfl) (Wn.none rfl) rfl rfl ?_
  refine WR.step (Ex.extract rfl rfl) (Wn.none rfl) rfl rfl ?_
  refine WR.step (Ex.extract rfl rfl) (Wn.none rfl) rfl rfl ?_
  refine WR.alloc [_, _] H Tryd.zeroValue28 rfl (Wn.none rfl) rfl ?_
  intro b4 w H
  refine WR.step (Ex.assign rfl) (Wn.none rfl) rfl rfl ?_
  refine WR.store [_, _] H rfl rfl rfl (by repeat (first | exact Upd.head | apply Upd.tail)) Tryd.sizeOf28 rfl (by rfl) (by rfl) (Wn.none rfl) ?_
  intro w H
  refine WR.nil ?_
  refine WQ.then ?_
  refine WC.seq ?_
  refine WC.region ?_
  refine WR.step (Ex.move rfl) (Wn.none rfl) rfl rfl ?_
  refine WR.call H (encode_err (name := [97, 115, 99, 105, 105]) (by decide) hs (k := 0) (by kernel_rfl) hv hg0) rfl (by assumption) (Wn.none rfl) rfl ?_
  intro v35 M w H hle hr35
  replace hp := hp.mono hle
  replace hf30 := hf30.mono hle
  obtain rfl := hr35
  refine WR.step (Ex.move rfl) (Wn.none rfl) rfl rfl ?_
  refine WR.step (Ex.extract rfl rfl) (Wn.none rfl) rfl rfl ?_
  refine WR.step (Ex.extract rfl rfl) (Wn.none rfl) rfl rfl ?_
  refine WR.alloc [_, _] H Tryd.zeroValue28 rfl (Wn.none rfl) rfl ?_
  intro b6 w H
  refine WR.step (Ex.assign rfl) (Wn.none rfl) rfl rfl ?_
  refine WR.store [_, _] H rfl rfl rfl (by repeat (first | exact Upd.head | apply Upd.tail)) Tryd.sizeOf28 rfl (by rfl) (by rfl) (Wn.none rfl) ?_
  intro w H
  refine WR.nil ?_
  refine WQ.then ?_
  refine WC.seq ?_
  refine WC.region ?_
  refine WR.step (Ex.move rfl) (Wn.none rfl) rfl rfl ?_
  refine WR.call H (encode_err (name := [108, 97, 116, 105, 110, 49]) (by decide) hs (k := 1) (by kernel_rfl) hv hg1) rfl (by assumption) (Wn.none rfl) rfl ?_
  intro v40 M w H hle hr40
  replace hp := hp.mono hle
  replace hf30 := hf30.mono hle
  obtain rfl := hr40
  refine WR.step (Ex.move rfl) (Wn.none rfl) rfl rfl ?_
  refine WR.step (Ex.extract rfl rfl) (Wn.none rfl) rfl rfl ?_
  refine WR.step (Ex.extract rfl rfl) (Wn.none rfl) rfl rfl ?_
  refine WR.alloc [_, _] H Tryd.zeroValue28 rfl (Wn.none rfl) rfl ?_
  intro b8 w H
  refine WR.step (Ex.assign rfl) (Wn.none rfl) rfl rfl ?_
  refine WR.store [_, _] H rfl rfl rfl (by repeat (first | exact Upd.head | apply Upd.tail)) Tryd.sizeOf28 rfl (by rfl) (by rfl) (Wn.none rfl) ?_
  intro w H
  refine WR.nil ?_
  refine WQ.then ?_
  refine WC.seq ?_
  refine WC.seq ?_
  refine WC.region ?_
  refine WR.step (Ex.move rfl) (Wn.none rfl) rfl rfl ?_
  refine WR.call H (Ct.mono (best_spec l) (R' := fun r _ => r = S [117, 116, 102, 56]) (fun _ _ h => by rw [hbn] at h; exact h)) rfl (trivial) (Wn.none rfl) rfl ?_
  intro v44 M w H hle hr44
  replace hp := hp.mono hle
  replace hf30 := hf30.mono hle
  obtain rfl := hr44
  refine WR.nil ?_
  refine WQ.then ?_
  refine WC.block ?_
  refine WC.seq ?_
  refine WC.region ?_
  refine WR.stepF (Ex.strEql rfl rfl) (by decide) (Wn.none rfl) rfl rfl ?_
  refine WR.step (Ex.assign rfl) (Wn.none rfl) rfl rfl ?_
  refine WR.nil ?_
  refine WQ.then ?_
  refine WC.condF rfl ?_
  refine WC.seq ?_
  refine WC.region ?_
  refine WR.stepF (Ex.strEql rfl rfl) (by decide) (Wn.none rfl) rfl rfl ?_
  refine WR.step (Ex.assign rfl) (Wn.none rfl) rfl rfl ?_
  refine WR.nil ?_
  refine WQ.then ?_
  refine WC.condF rfl ?_
  refine WC.skip ?_
  refine WQ.inBlock ?_
  refine WQ.then ?_
  refine WC.seq ?_
  refine WC.region ?_
  refine WR.step (Ex.fieldAddr Tryd.underlying28 rfl Tryd.sizeOf3 (by decide) rfl) (Wn.none rfl) rfl rfl ?_
  first | refine WR.step (Ex.loadM H rfl (by assumption) Tryd.isAgg3) (Wn.none rfl) rfl rfl ?_ | refine WR.step (Ex.load1 H rfl (by repeat (first | exact List.Mem.head _ | apply List.Mem.tail)) Tryd.isAgg3 (by rfl)) (Wn.none rfl) rfl rfl ?_
  refine WR.stepT (Ex.eql rfl rfl) rfl (Wn.none rfl) rfl rfl ?_
  refine WR.step (Ex.move rfl) (Wn.none rfl) rfl rfl ?_
  refine WR.step (Ex.fieldAddr Tryd.underlying28 rfl Tryd.sizeOf3 (by decide) rfl) (Wn.some rfl rfl rfl) rfl rfl ?_
  first | refine WR.step (Ex.loadM H rfl (by assumption) Tryd.isAgg3) (Wn.some rfl rfl rfl) rfl rfl ?_ | refine WR.step (Ex.load1 H rfl (by repeat (first | exact List.Mem.head _ | apply List.Mem.tail)) Tryd.isAgg3 (by rfl)) (Wn.some rfl rfl rfl) rfl rfl ?_
  refine WR.stepT (Ex.neq rfl rfl) (by decide) (Wn.some rfl rfl rfl) rfl rfl ?_
  refine WR.step (Ex.pickT rfl rfl) (Wn.none rfl) rfl rfl ?_
  refine WR.step (Ex.move rfl) (Wn.none rfl) rfl rfl ?_
  refine WR.step (Ex.fieldAddr Tryd.underlying28 rfl Tryd.sizeOf3 (by decide) rfl) (Wn.some rfl rfl rfl) rfl rfl ?_
  first | refine WR.step (Ex.loadM H rfl (by assumption) Tryd.isAgg3) (Wn.some rfl rfl rfl) rfl rfl ?_ | refine WR.step (Ex.load1 H rfl (by repeat (first | exact List.Mem.head _ | apply List.Mem.tail)) Tryd.isAgg3 (by rfl)) (Wn.some rfl rfl rfl) rfl rfl ?_
  refine WR.stepT (Ex.neq rfl rfl) (by decide) (Wn.some rfl rfl rfl) rfl rfl ?_
  refine WR.step (Ex.pickT rfl rfl) (Wn.none rfl) rfl rfl ?_
  refine WR.step (Ex.assign rfl) (Wn.none rfl) rfl rfl ?_
  refine WR.nil ?_
  refine WQ.then ?_
  refine WC.ret ?_
  (repeat (first | refine WQ.thenRet ?_ | refine WQ.inBlockRet ?_))
  refine WQ.ret1 rfl rfl H.ext ?_
  exact rfl

theorem claw1 (name : List UInt8) (v : Value) (l : List UInt8) (hn : name.length ≤ maxLen) : Ct Tryd.prog 8 [S name, v] (fun M => Tabs M ∧ Bs M v l) (fun r _ => r = .bool true) := by
  rcases Nat.lt_or_ge 12000 l.length with h | h
  · exact c1_big name v l hn h
  · cases hk : setOf name with
    | none => exact c1_unk name v l hn h hk
    | some k => exact c1_ok name v l hn h k hk
theorem claw2 (name l : List UInt8) (hn : name.length ≤ maxLen) : Ct Tryd.prog 9 [S name, S l] (fun M => Tabs M) (fun r _ => r = .bool true) := by
  rcases Nat.lt_or_ge 12000 l.length with h | h
  · exact c2_big name l hn h
  · cases hk : setOf name with
    | none => exact c2_unk name l hn h hk
    | some k =>
      cases hv : vld l with
      | false => exact c2_mal name l hn h k hk hv
      | true =>
        cases hg : encGo (encK k) (chars l) 0 with
        | error e => exact c2_err name l hn h k hk hv e hg
        | ok b => exact c2_ok name l hn h k hk hv b hg
theorem claw3 (name l : List UInt8) (hn : name.length ≤ maxLen) : Ct Tryd.prog 10 [S name, S l] (fun M => Tabs M) (fun r _ => r = .bool true) := by
  rcases Nat.lt_or_ge 12000 l.length with h | h
  · exact c3_big name l hn h
  · cases hk : setOf name with
    | none => exact c3_unk name l hn h hk
    | some k =>
      cases hv : vld l with
      | false => exact c3_mal name l hn h k hk hv
      | true =>
        cases hg : encGo (encK k) (chars l) 0 with
        | error e => exact c3_err name l hn h k hk hv e hg
        | ok b =>
          rcases Nat.lt_or_ge 12000 b.length with h2 | h2
          · exact c3_long name l hn h k hk hv b hg h2
          · exact c3_ok name l hn h k hk hv b hg h2
theorem claw4 (l : List UInt8) (hs : l.length ≤ 1048576) : Ct Tryd.prog 11 [S l] (fun M => Tabs M) (fun r _ => r = .bool true) := by
  rcases Nat.lt_or_ge 12000 l.length with h | h
  · exact c4_big l hs h
  · cases hv : vld l with
    | false => exact c4_mal l h hv
    | true =>
      rcases bestK_cases l with hb | hb | hb
      · exact c4_0 l h hv hb
      · exact c4_1 l h hv hb
      · exact c4_2 l h hv hb
theorem claw5 (name l : List UInt8) (v : Value) (m : List UInt8) (hn : name.length ≤ maxLen) (hml : m.length ≤ 140737488351232) : Ct Tryd.prog 12 [S name, S l, v] (fun M => Tabs M ∧ Bs M v m) (fun r _ => r = .bool true) := by
  rcases Nat.lt_or_ge 12000 l.length with h | h
  · exact c5_big name l v m hn hml h
  · cases hk : setOf name with
    | none => exact c5_unk name l v m hn hml h hk
    | some k =>
      cases hv : vld l with
      | false => exact c5_mal name l v m hn hml h k hk hv
      | true =>
        cases hg : encGo (encK k) (chars l) 0 with
        | error e => exact c5_err name l v m hn hml h k hk hv e hg
        | ok b =>
          rcases Nat.lt_or_ge 12000 (b.length + m.length) with h2 | h2
          · exact c5_long name l v m hn hml h k hk hv b hg h2
          · exact c5_ok name l v m hn hml h k hk hv b hg h2

end Go.Proofs.YtnjglbmaonbcbaaDoor
