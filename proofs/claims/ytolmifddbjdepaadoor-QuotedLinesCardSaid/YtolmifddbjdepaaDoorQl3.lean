/-
  the law QuotedRoundTrip: walks over the program's own operations, written by a program of this repository (wip/tools/gen.py) out of a plan.
-/
import Derived.Test.YtolmifddbjdepaaDoorQde
import Derived.KernelRfl
set_option linter.unusedVariables false
set_option linter.unusedSimpArgs false
namespace Go.Proofs.YtolmifddbjdepaaDoor
open Go Go.RowKit Go.Ph

open Go.Ph.Qp Go.Ph.Chs
theorem enc_len2 : ∀ (n col : Nat) (l : List UInt8), l.length ≤ n → 70 * (enc col l).length ≤ 219 * l.length + 3 * col := by
  intro n
  induction n with
  | zero => intro col l h; obtain rfl := List.eq_nil_of_length_eq_zero (Nat.le_zero.1 h); simp [enc_nil]
  | succ n ih =>
    intro col l h
    cases l with
    | nil => simp [enc_nil]
    | cons c r =>
      simp only [List.length_cons] at h
      by_cases hl : lineAt (c :: r)
      · obtain ⟨r', hr⟩ := lineAt_iff.1 hl
        cases hr
        simp only [List.length_cons] at h
        have := ih 0 r' (by omega)
        rw [enc_line]
        simp only [List.length_cons]; omega
      · rw [enc_cons hl]
        have h1 := sg_len c r
        have h2 := ih (sg c r).length r (by omega)
        have h3 := ih (col + (sg c r).length) r (by omega)
        have h4 : 75 ≤ most r := by unfold most; split <;> omega
        split
        · simp only [List.length_append, List.length_cons, List.length_nil]; omega
        · simp only [List.length_append, List.length_cons]; omega
theorem enc_small {l : List UInt8} (h : l.length ≤ 12000) : (enc 0 l).length ≤ 48000 := by
  have := enc_len2 l.length 0 l (Nat.le_refl _)
  omega

theorem ex1 : enc 0 [97, 61, 98, 32] = [97, 61, 51, 68, 98, 61, 50, 48] := by decide +kernel
theorem ex2 : lenient [97, 61, 51, 68, 98, 61, 50, 48] = [97, 61, 98, 32] := by decide +kernel
theorem ex3 : lenient [97, 61, 51, 100, 61, 10, 98, 61, 122, 122] = [97, 61, 98, 61, 122, 122] := by decide +kernel

theorem qex_spec  : Ct Tryd.prog 12 [] (fun _ => True) (fun r _ => r = .bool true) := by
  refine Ct.of Tryd.func12 (enters Tryd.func12 (by kernel_rfl) rfl) rfl rfl rfl ?_
  intro w0 M0 H hp
  refine WC.seq ?_
  refine WC.region ?_
  refine WR.step (Ex.assign rfl) (Wn.none rfl) rfl rfl ?_
  refine WR.nil ?_
  refine WQ.then ?_
  refine WC.seq ?_
  refine WC.region ?_
  refine WR.litC ty22 Tryd.underlying5 [97, 61, 98, 32] H rfl (by rfl) rfl rfl (Wn.none rfl) rfl (fun _ => Wn.none rfl) rfl ?_
  intro v9 M w H hle hl9
  refine WR.call H (qenc_spec _ [97, 61, 98, 32] (by decide)) rfl (by assumption) (Wn.none rfl) rfl ?_
  intro v10 M w H hle hr10
  replace hl9 := hl9.mono hle
  obtain ⟨v10, rfl, hf10⟩ := hr10
  rw [ex1] at hf10
  refine WR.step (Ex.move rfl) (Wn.none rfl) rfl rfl ?_
  refine WR.step (Ex.extract rfl rfl) (Wn.none rfl) rfl rfl ?_
  refine WR.step (Ex.extract rfl rfl) (Wn.none rfl) rfl rfl ?_
  refine WR.alloc [_, _] H Tryd.zeroValue25 rfl (Wn.none rfl) rfl ?_
  intro b2 w H
  refine WR.step (Ex.assign rfl) (Wn.none rfl) rfl rfl ?_
  refine WR.store [_, _] H rfl rfl rfl (by repeat (first | exact Upd.head | apply Upd.tail)) Tryd.sizeOf25 rfl (by rfl) (by rfl) (Wn.none rfl) ?_
  intro w H
  refine WR.nil ?_
  refine WQ.then ?_
  refine WC.seq ?_
  refine WC.region ?_
  refine WR.litC ty22 Tryd.underlying5 [97, 61, 51, 68, 98, 61, 50, 48] H rfl (by rfl) rfl rfl (Wn.none rfl) rfl (fun _ => Wn.none rfl) rfl ?_
  intro v15 M w H hle hl15
  replace hl9 := hl9.mono hle
  replace hf10 := hf10.mono hle
  refine WR.call H (qdec_ok _ [97, 61, 51, 68, 98, 61, 50, 48] (by decide) (by rw [ex2]; decide) (by rw [ex2, ex1])) rfl (by assumption) (Wn.none rfl) rfl ?_
  intro v16 M w H hle hr16
  replace hl9 := hl9.mono hle
  replace hf10 := hf10.mono hle
  replace hl15 := hl15.mono hle
  obtain ⟨v16, rfl, hf16⟩ := hr16
  rw [ex2] at hf16
  refine WR.step (Ex.move rfl) (Wn.none rfl) rfl rfl ?_
  refine WR.step (Ex.extract rfl rfl) (Wn.none rfl) rfl rfl ?_
  refine WR.step (Ex.extract rfl rfl) (Wn.none rfl) rfl rfl ?_
  refine WR.alloc [_, _] H Tryd.zeroValue25 rfl (Wn.none rfl) rfl ?_
  intro b4 w H
  refine WR.step (Ex.assign rfl) (Wn.none rfl) rfl rfl ?_
  refine WR.store [_, _] H rfl rfl rfl (by repeat (first | exact Upd.head | apply Upd.tail)) Tryd.sizeOf25 rfl (by rfl) (by rfl) (Wn.none rfl) ?_
  intro w H
  refine WR.nil ?_
  refine WQ.then ?_
  refine WC.seq ?_
  refine WC.region ?_
  refine WR.litC ty22 Tryd.underlying5 [97, 61, 51, 100, 61, 10, 98, 61, 122, 122] H rfl (by rfl) rfl rfl (Wn.none rfl) rfl (fun _ => Wn.none rfl) rfl ?_
  intro v21 M w H hle hl21
  replace hl9 := hl9.mono hle
  replace hf10 := hf10.mono hle
  replace hl15 := hl15.mono hle
  replace hf16 := hf16.mono hle
  refine WR.call H (qlen_spec _ [97, 61, 51, 100, 61, 10, 98, 61, 122, 122] (by decide)) rfl (by assumption) (Wn.none rfl) rfl ?_
  intro v22 M w H hle hr22
  replace hl9 := hl9.mono hle
  replace hf10 := hf10.mono hle
  replace hl15 := hl15.mono hle
  replace hf16 := hf16.mono hle
  replace hl21 := hl21.mono hle
  obtain ⟨v22, rfl, hf22⟩ := hr22
  rw [ex3] at hf22
  refine WR.step (Ex.move rfl) (Wn.none rfl) rfl rfl ?_
  refine WR.step (Ex.extract rfl rfl) (Wn.none rfl) rfl rfl ?_
  refine WR.step (Ex.extract rfl rfl) (Wn.none rfl) rfl rfl ?_
  refine WR.alloc [_, _] H Tryd.zeroValue25 rfl (Wn.none rfl) rfl ?_
  intro b6 w H
  refine WR.step (Ex.assign rfl) (Wn.none rfl) rfl rfl ?_
  refine WR.store [_, _] H rfl rfl rfl (by repeat (first | exact Upd.head | apply Upd.tail)) Tryd.sizeOf25 rfl (by rfl) (by rfl) (Wn.none rfl) ?_
  intro w H
  refine WR.nil ?_
  refine WQ.then ?_
  refine WC.seq ?_
  refine WC.region ?_
  refine WR.step (Ex.fieldAddr Tryd.underlying25 rfl Tryd.sizeOf3 (by decide) rfl) (Wn.none rfl) rfl rfl ?_
  first | refine WR.step (Ex.loadM H rfl (by assumption) Tryd.isAgg3) (Wn.none rfl) rfl rfl ?_ | refine WR.step (Ex.load1 H rfl (by repeat (first | exact List.Mem.head _ | apply List.Mem.tail)) Tryd.isAgg3 (by rfl)) (Wn.none rfl) rfl rfl ?_
  refine WR.stepT (Ex.eql rfl rfl) rfl (Wn.none rfl) rfl rfl ?_
  refine WR.step (Ex.move rfl) (Wn.none rfl) rfl rfl ?_
  refine WR.step (Ex.fieldAddr Tryd.underlying25 rfl Tryd.sizeOf3 (by decide) rfl) (Wn.some rfl rfl rfl) rfl rfl ?_
  first | refine WR.step (Ex.loadM H rfl (by assumption) Tryd.isAgg3) (Wn.some rfl rfl rfl) rfl rfl ?_ | refine WR.step (Ex.load1 H rfl (by repeat (first | exact List.Mem.head _ | apply List.Mem.tail)) Tryd.isAgg3 (by rfl)) (Wn.some rfl rfl rfl) rfl rfl ?_
  refine WR.stepT (Ex.eql rfl rfl) rfl (Wn.some rfl rfl rfl) rfl rfl ?_
  refine WR.step (Ex.pickT rfl rfl) (Wn.none rfl) rfl rfl ?_
  refine WR.step (Ex.move rfl) (Wn.none rfl) rfl rfl ?_
  refine WR.step (Ex.fieldAddr Tryd.underlying25 rfl Tryd.sizeOf3 (by decide) rfl) (Wn.some rfl rfl rfl) rfl rfl ?_
  first | refine WR.step (Ex.loadM H rfl (by assumption) Tryd.isAgg3) (Wn.some rfl rfl rfl) rfl rfl ?_ | refine WR.step (Ex.load1 H rfl (by repeat (first | exact List.Mem.head _ | apply List.Mem.tail)) Tryd.isAgg3 (by rfl)) (Wn.some rfl rfl rfl) rfl rfl ?_
  refine WR.stepT (Ex.eql rfl rfl) rfl (Wn.some rfl rfl rfl) rfl rfl ?_
  refine WR.step (Ex.pickT rfl rfl) (Wn.none rfl) rfl rfl ?_
  refine WR.step (Ex.move rfl) (Wn.none rfl) rfl rfl ?_
  refine WR.step (Ex.move rfl) (Wn.some rfl rfl rfl) rfl rfl ?_
  refine WR.step (Ex.toStr Tryd.underlying22 Tryd.underlying5 Tryd.underlying9 H (by assumption) rfl) (Wn.some rfl rfl rfl) rfl rfl ?_
  refine WR.stepT (Ex.strEql rfl rfl) (by decide) (Wn.some rfl rfl rfl) rfl rfl ?_
  refine WR.step (Ex.pickT rfl rfl) (Wn.none rfl) rfl rfl ?_
  refine WR.step (Ex.move rfl) (Wn.none rfl) rfl rfl ?_
  refine WR.step (Ex.move rfl) (Wn.some rfl rfl rfl) rfl rfl ?_
  refine WR.step (Ex.toStr Tryd.underlying22 Tryd.underlying5 Tryd.underlying9 H (by assumption) rfl) (Wn.some rfl rfl rfl) rfl rfl ?_
  refine WR.stepT (Ex.strEql rfl rfl) (by decide) (Wn.some rfl rfl rfl) rfl rfl ?_
  refine WR.step (Ex.pickT rfl rfl) (Wn.none rfl) rfl rfl ?_
  refine WR.step (Ex.move rfl) (Wn.none rfl) rfl rfl ?_
  refine WR.step (Ex.move rfl) (Wn.some rfl rfl rfl) rfl rfl ?_
  refine WR.step (Ex.toStr Tryd.underlying22 Tryd.underlying5 Tryd.underlying9 H (by assumption) rfl) (Wn.some rfl rfl rfl) rfl rfl ?_
  refine WR.stepT (Ex.strEql rfl rfl) (by decide) (Wn.some rfl rfl rfl) rfl rfl ?_
  refine WR.step (Ex.pickT rfl rfl) (Wn.none rfl) rfl rfl ?_
  refine WR.step (Ex.assign rfl) (Wn.none rfl) rfl rfl ?_
  refine WR.nil ?_
  refine WQ.then ?_
  refine WC.ret ?_
  (repeat (first | refine WQ.thenRet ?_ | refine WQ.inBlockRet ?_))
  refine WQ.ret1 rfl rfl H.ext ?_
  exact rfl

theorem q3_big (v : Value) (l : List UInt8) (hs : 12000 < l.length) : Ct Tryd.prog 5 [v] (fun M => Bs M v l) (fun r _ => r = .bool true) := by
  refine Ct.of Tryd.func5 (enters Tryd.func5 (by kernel_rfl) rfl) rfl rfl rfl ?_
  intro w0 M0 H hp
  refine WC.seq ?_
  refine WC.region ?_
  refine WR.step (Ex.assign rfl) (Wn.none rfl) rfl rfl ?_
  refine WR.nil ?_
  refine WQ.then ?_
  refine WC.seq ?_
  refine WC.seq ?_
  refine WC.region ?_
  refine WR.call H (qex_spec) rfl (trivial) (Wn.none rfl) rfl ?_
  intro v9 M w H hle hr9
  replace hp := hp.mono hle
  obtain rfl := hr9
  refine WR.step (Ex.notT rfl) (Wn.none rfl) rfl rfl ?_
  refine WR.nil ?_
  refine WQ.then ?_
  refine WC.condF rfl ?_
  refine WC.skip ?_
  refine WQ.then ?_
  refine WC.seq ?_
  refine WC.region ?_
  refine WR.step (Ex.move rfl) (Wn.none rfl) rfl rfl ?_
  refine WR.call H (qenc_big _ _ hs) rfl (by assumption) (Wn.none rfl) rfl ?_
  intro v13 M w H hle hr13
  replace hp := hp.mono hle
  obtain rfl := hr13
  refine WR.step (Ex.move rfl) (Wn.none rfl) rfl rfl ?_
  refine WR.step (Ex.extract rfl rfl) (Wn.none rfl) rfl rfl ?_
  refine WR.step (Ex.extract rfl rfl) (Wn.none rfl) rfl rfl ?_
  refine WR.alloc [_, _] H Tryd.zeroValue25 rfl (Wn.none rfl) rfl ?_
  intro b4 w H
  refine WR.step (Ex.assign rfl) (Wn.none rfl) rfl rfl ?_
  refine WR.store [_, _] H rfl rfl rfl (by repeat (first | exact Upd.head | apply Upd.tail)) Tryd.sizeOf25 rfl (by rfl) (by rfl) (Wn.none rfl) ?_
  intro w H
  refine WR.nil ?_
  refine WQ.then ?_
  refine WC.seq ?_
  refine WC.seq ?_
  refine WC.region ?_
  refine WR.step (Ex.fieldAddr Tryd.underlying25 rfl Tryd.sizeOf3 (by decide) rfl) (Wn.none rfl) rfl rfl ?_
  first | refine WR.step (Ex.loadM H rfl (by assumption) Tryd.isAgg3) (Wn.none rfl) rfl rfl ?_ | refine WR.step (Ex.load1 H rfl (by repeat (first | exact List.Mem.head _ | apply List.Mem.tail)) Tryd.isAgg3 (by rfl)) (Wn.none rfl) rfl rfl ?_
  refine WR.stepT (Ex.neq rfl rfl) (by decide) (Wn.none rfl) rfl rfl ?_
  refine WR.nil ?_
  refine WQ.then ?_
  refine WC.condT rfl ?_
  refine WC.seq ?_
  refine WC.region ?_
  refine WR.step (Ex.move rfl) (Wn.none rfl) rfl rfl ?_
  first | refine WR.step (Ex.lenSl Tryd.underlying22 (by assumption) rfl) (Wn.none rfl) rfl rfl ?_ | refine WR.step (Ex.lenRow Tryd.underlying22 H (by repeat (first | exact List.Mem.head _ | apply List.Mem.tail)) rfl) (Wn.none rfl) rfl rfl ?_ | refine WR.step (Ex.lenSlice Tryd.underlying22 rfl) (Wn.none rfl) rfl rfl ?_
  refine WR.stepT (Ex.eql rfl rfl) rfl (Wn.none rfl) rfl rfl ?_
  refine WR.step (Ex.assign rfl) (Wn.none rfl) rfl rfl ?_
  refine WR.nil ?_
  refine WQ.then ?_
  refine WC.ret ?_
  (repeat (first | refine WQ.thenRet ?_ | refine WQ.inBlockRet ?_))
  refine WQ.ret1 rfl rfl H.ext ?_
  exact rfl

theorem q3_ok (v : Value) (l : List UInt8) (hs : l.length ≤ 12000) : Ct Tryd.prog 5 [v] (fun M => Bs M v l) (fun r _ => r = .bool true) := by
  refine Ct.of Tryd.func5 (enters Tryd.func5 (by kernel_rfl) rfl) rfl rfl rfl ?_
  intro w0 M0 H hp
  refine WC.seq ?_
  refine WC.region ?_
  refine WR.step (Ex.assign rfl) (Wn.none rfl) rfl rfl ?_
  refine WR.nil ?_
  refine WQ.then ?_
  refine WC.seq ?_
  refine WC.seq ?_
  refine WC.region ?_
  refine WR.call H (qex_spec) rfl (trivial) (Wn.none rfl) rfl ?_
  intro v9 M w H hle hr9
  replace hp := hp.mono hle
  obtain rfl := hr9
  refine WR.step (Ex.notT rfl) (Wn.none rfl) rfl rfl ?_
  refine WR.nil ?_
  refine WQ.then ?_
  refine WC.condF rfl ?_
  refine WC.skip ?_
  refine WQ.then ?_
  refine WC.seq ?_
  refine WC.region ?_
  refine WR.step (Ex.move rfl) (Wn.none rfl) rfl rfl ?_
  refine WR.call H (qenc_spec _ l hs) rfl (by assumption) (Wn.none rfl) rfl ?_
  intro v13 M w H hle hr13
  replace hp := hp.mono hle
  obtain ⟨v13, rfl, hf13⟩ := hr13
  refine WR.step (Ex.move rfl) (Wn.none rfl) rfl rfl ?_
  refine WR.step (Ex.extract rfl rfl) (Wn.none rfl) rfl rfl ?_
  refine WR.step (Ex.extract rfl rfl) (Wn.none rfl) rfl rfl ?_
  refine WR.alloc [_, _] H Tryd.zeroValue25 rfl (Wn.none rfl) rfl ?_
  intro b4 w H
  refine WR.step (Ex.assign rfl) (Wn.none rfl) rfl rfl ?_
  refine WR.store [_, _] H rfl rfl rfl (by repeat (first | exact Upd.head | apply Upd.tail)) Tryd.sizeOf25 rfl (by rfl) (by rfl) (Wn.none rfl) ?_
  intro w H
  refine WR.nil ?_
  refine WQ.then ?_
  refine WC.seq ?_
  refine WC.seq ?_
  refine WC.region ?_
  refine WR.step (Ex.fieldAddr Tryd.underlying25 rfl Tryd.sizeOf3 (by decide) rfl) (Wn.none rfl) rfl rfl ?_
  first | refine WR.step (Ex.loadM H rfl (by assumption) Tryd.isAgg3) (Wn.none rfl) rfl rfl ?_ | refine WR.step (Ex.load1 H rfl (by repeat (first | exact List.Mem.head _ | apply List.Mem.tail)) Tryd.isAgg3 (by rfl)) (Wn.none rfl) rfl rfl ?_
  refine WR.stepF (Ex.neq rfl rfl) (by decide) (Wn.none rfl) rfl rfl ?_
  refine WR.nil ?_
  refine WQ.then ?_
  refine WC.condF rfl ?_
  refine WC.skip ?_
  refine WQ.then ?_
  refine WC.seq ?_
  refine WC.region ?_
  refine WR.step (Ex.move rfl) (Wn.none rfl) rfl rfl ?_
  refine WR.call H (qdec_ok _ (enc 0 l) (enc_small hs) (by rw [lenient_enc]; exact hs) (by rw [lenient_enc])) rfl (by assumption) (Wn.none rfl) rfl ?_
  intro v24 M w H hle hr24
  replace hp := hp.mono hle
  replace hf13 := hf13.mono hle
  obtain ⟨w24, rfl, hf24⟩ := hr24
  refine WR.step (Ex.move rfl) (Wn.none rfl) rfl rfl ?_
  refine WR.step (Ex.extract rfl rfl) (Wn.none rfl) rfl rfl ?_
  refine WR.step (Ex.extract rfl rfl) (Wn.none rfl) rfl rfl ?_
  refine WR.alloc [_, _] H Tryd.zeroValue25 rfl (Wn.none rfl) rfl ?_
  intro b6 w H
  refine WR.step (Ex.assign rfl) (Wn.none rfl) rfl rfl ?_
  refine WR.store [_, _] H rfl rfl rfl (by repeat (first | exact Upd.head | apply Upd.tail)) Tryd.sizeOf25 rfl (by rfl) (by rfl) (Wn.none rfl) ?_
  intro w H
  refine WR.nil ?_
  refine WQ.then ?_
  refine WC.seq ?_
  refine WC.region ?_
  refine WR.step (Ex.move rfl) (Wn.none rfl) rfl rfl ?_
  refine WR.call H (qlen_spec _ (enc 0 l) (enc_small hs)) rfl (by assumption) (Wn.none rfl) rfl ?_
  intro v29 M w H hle hr29
  replace hp := hp.mono hle
  replace hf13 := hf13.mono hle
  replace hf24 := hf24.mono hle
  obtain ⟨v29, rfl, hf29⟩ := hr29
  refine WR.step (Ex.move rfl) (Wn.none rfl) rfl rfl ?_
  refine WR.step (Ex.extract rfl rfl) (Wn.none rfl) rfl rfl ?_
  refine WR.step (Ex.extract rfl rfl) (Wn.none rfl) rfl rfl ?_
  refine WR.alloc [_, _] H Tryd.zeroValue25 rfl (Wn.none rfl) rfl ?_
  intro b8 w H
  refine WR.step (Ex.assign rfl) (Wn.none rfl) rfl rfl ?_
  refine WR.store [_, _] H rfl rfl rfl (by repeat (first | exact Upd.head | apply Upd.tail)) Tryd.sizeOf25 rfl (by rfl) (by rfl) (Wn.none rfl) ?_
  intro w H
  refine WR.nil ?_
  refine WQ.then ?_
  refine WC.seq ?_
  refine WC.region ?_
  refine WR.step (Ex.fieldAddr Tryd.underlying25 rfl Tryd.sizeOf3 (by decide) rfl) (Wn.none rfl) rfl rfl ?_
  first | refine WR.step (Ex.loadM H rfl (by assumption) Tryd.isAgg3) (Wn.none rfl) rfl rfl ?_ | refine WR.step (Ex.load1 H rfl (by repeat (first | exact List.Mem.head _ | apply List.Mem.tail)) Tryd.isAgg3 (by rfl)) (Wn.none rfl) rfl rfl ?_
  refine WR.stepT (Ex.eql rfl rfl) rfl (Wn.none rfl) rfl rfl ?_
  refine WR.step (Ex.move rfl) (Wn.none rfl) rfl rfl ?_
  refine WR.step (Ex.fieldAddr Tryd.underlying25 rfl Tryd.sizeOf3 (by decide) rfl) (Wn.some rfl rfl rfl) rfl rfl ?_
  first | refine WR.step (Ex.loadM H rfl (by assumption) Tryd.isAgg3) (Wn.some rfl rfl rfl) rfl rfl ?_ | refine WR.step (Ex.load1 H rfl (by repeat (first | exact List.Mem.head _ | apply List.Mem.tail)) Tryd.isAgg3 (by rfl)) (Wn.some rfl rfl rfl) rfl rfl ?_
  refine WR.stepT (Ex.eql rfl rfl) rfl (Wn.some rfl rfl rfl) rfl rfl ?_
  refine WR.step (Ex.pickT rfl rfl) (Wn.none rfl) rfl rfl ?_
  refine WR.step (Ex.move rfl) (Wn.none rfl) rfl rfl ?_
  refine WR.step (Ex.move rfl) (Wn.some rfl rfl rfl) rfl rfl ?_
  refine WR.step (Ex.move rfl) (Wn.some rfl rfl rfl) rfl rfl ?_
  refine WR.call H (Ct.mono (bytes_spec _ _ _ _) (R' := fun r _ => r = .bool true) (fun _ _ h => h.trans (congrArg Value.bool (decide_eq_true (lenient_enc l))))) rfl (⟨by assumption, by assumption⟩) (Wn.some rfl rfl rfl) rfl ?_
  intro v43 M w H hle hr43
  replace hp := hp.mono hle
  replace hf13 := hf13.mono hle
  replace hf24 := hf24.mono hle
  replace hf29 := hf29.mono hle
  obtain rfl := hr43
  refine WR.step (Ex.pickT rfl rfl) (Wn.none rfl) rfl rfl ?_
  refine WR.step (Ex.move rfl) (Wn.none rfl) rfl rfl ?_
  refine WR.step (Ex.move rfl) (Wn.some rfl rfl rfl) rfl rfl ?_
  refine WR.step (Ex.move rfl) (Wn.some rfl rfl rfl) rfl rfl ?_
  refine WR.call H (Ct.mono (bytes_spec _ _ _ _) (R' := fun r _ => r = .bool true) (fun _ _ h => h.trans (congrArg Value.bool (decide_eq_true (lenient_enc l))))) rfl (⟨by assumption, by assumption⟩) (Wn.some rfl rfl rfl) rfl ?_
  intro v48 M w H hle hr48
  replace hp := hp.mono hle
  replace hf13 := hf13.mono hle
  replace hf24 := hf24.mono hle
  replace hf29 := hf29.mono hle
  obtain rfl := hr48
  refine WR.step (Ex.pickT rfl rfl) (Wn.none rfl) rfl rfl ?_
  refine WR.step (Ex.assign rfl) (Wn.none rfl) rfl rfl ?_
  refine WR.nil ?_
  refine WQ.then ?_
  refine WC.ret ?_
  (repeat (first | refine WQ.thenRet ?_ | refine WQ.inBlockRet ?_))
  refine WQ.ret1 rfl rfl H.ext ?_
  exact rfl

theorem qlaw3 (v : Value) (l : List UInt8) : Ct Tryd.prog 5 [v] (fun M => Bs M v l) (fun r _ => r = .bool true) := by
  rcases Nat.lt_or_ge 12000 l.length with h | h
  · exact q3_big v l h
  · exact q3_ok v l h

end Go.Proofs.YtolmifddbjdepaaDoor
