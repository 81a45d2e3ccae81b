/-
  the reference: Encoded: walks over the program's own operations, written by a program of this repository (wip/tools/gen.py) out of a plan.
-/
import Derived.Test.YtnjglbmaonbcbaaDoorRdc
import Derived.KernelRfl
set_option linter.unusedVariables false
set_option linter.unusedSimpArgs false
namespace Go.Proofs.YtnjglbmaonbcbaaDoor
open Go Go.RowKit Go.Ph

open Go.Ph.Gr Go.Ph.Utf Go.Ph.Chs
theorem encoded_0 (l : List UInt8) (hs : l.length ≤ 1048576) (hv : vld l = true) : Ct Tryd.prog 27 [I 0, S l] (fun _ => True) (fun r M => match encGo (encK 0) (chars l) 0 with | .ok b => ∃ v, r = .tuple #[v, I (-1)] ∧ Bs M v b | .error e => r = .tuple #[.slice none 0 0, encN e]) := by
  refine Ct.of Tryd.func27 (enters Tryd.func27 (by kernel_rfl) rfl) rfl rfl rfl ?_
  intro w0 M0 H hp
  refine WC.seq ?_
  refine WC.region ?_
  refine WR.step (Ex.assign rfl) (Wn.none rfl) rfl rfl ?_
  refine WR.step (Ex.assign rfl) (Wn.none rfl) rfl rfl ?_
  refine WR.nil ?_
  refine WQ.then ?_
  refine WC.seq ?_
  refine WC.region ?_
  refine WR.step (Ex.assign rfl) (Wn.none rfl) rfl rfl ?_
  refine WR.nil ?_
  refine WQ.then ?_
  refine WC.seq ?_
  refine WC.seq ?_
  refine WC.region ?_
  refine WR.step (Ex.assign rfl) (Wn.none rfl) rfl rfl ?_
  refine WR.nil ?_
  refine WQ.then ?_
  refine WC.block ?_
  replace H := H.newRow 5 encB
  refine WC.loop3 (fun (q : Nat) (ov : Value) (o : List UInt8) => [(0, I 0), (1, S l), (6, ov), (7, encN q)]) (fun (q : Nat) (ov : Value) (o : List UInt8) w => (q ≤ l.length ∧ o.length ≤ 4 * q) ∧ vld (l.drop q) = true ∧ encGo (encK 0) (chars l) 0 = pre o (encGo (encK 0) (chars (l.drop q)) q) ∧ ∃ M, St w0 M0 M [RowI 5 encB ov o] w) (fun (q : Nat) (ov : Value) (o : List UInt8) => l.length - q) (0) (_) (_) ⟨rfl, rfl, rfl, rfl, trivial⟩ (⟨by simp, hv, (pre_nil _).symm, M0, H⟩) ?_
  intro q ov o w
  rintro ⟨hq, hvq, hgo, M, H⟩
  refine WC.seq ?_
  refine WC.seq ?_
  refine WC.region ?_
  refine WR.step (Ex.move rfl) (Wn.none rfl) rfl rfl ?_
  refine WR.step (Ex.move rfl) (Wn.none rfl) rfl rfl ?_
  refine WR.step (Ex.lenStr Tryd.underlying9 rfl) (Wn.none rfl) rfl rfl ?_
  refine WR.split (Ex.lss rfl rfl) (Wn.none rfl) rfl rfl (fun h3_3 => ?_) (fun h3_3 => ?_)
  ·
    have hne := drop_ne (t := l) (n := q) (by omega)
    have hrs := rune_size (l.drop q)
    have hrs3 := hrs.2.2 hne
    rw [List.length_drop] at hrs3
    rw [vld_cons hne, Bool.and_eq_true] at hvq
    have hr0 := of_decide_eq_true hvq.1
    have hvn := hvq.2
    have hrl := rune_lt (l.drop q)
    have hch : chars (l.drop q) = ((rune (l.drop q)).1, (l.drop q).take (rune (l.drop q)).2) :: chars (l.drop (q + (rune (l.drop q)).2)) := by rw [chars_cons hne, List.drop_drop]
    have hhi : hiS (rune (l.drop q)).1 ≤ 57343 := by unfold hiS; omega
    have hlo : loS (rune (l.drop q)).1 ≤ 57343 := by unfold loS; omega
    refine WR.nil ?_
    refine WQ.then ?_
    refine WC.condT rfl ?_
    refine WC.skip ?_
    refine WQ.then ?_
    refine WC.block ?_
    refine WC.seq ?_
    refine WC.region ?_
    refine WR.step (Ex.move rfl) (Wn.none rfl) rfl rfl ?_
    refine WR.step (Ex.move rfl) (Wn.none rfl) rfl rfl ?_
    refine WR.call H (rune_spec _ _ (by omega) (by omega)) rfl (trivial) (Wn.none rfl) rfl ?_
    intro v19 M w H hle hr19
    obtain rfl := hr19
    refine WR.step (Ex.move rfl) (Wn.none rfl) rfl rfl ?_
    refine WR.step (Ex.extract rfl rfl) (Wn.none rfl) rfl rfl ?_
    refine WR.step (Ex.extract rfl rfl) (Wn.none rfl) rfl rfl ?_
    refine WR.step (Ex.assign rfl) (Wn.none rfl) rfl rfl ?_
    refine WR.step (Ex.assign rfl) (Wn.none rfl) rfl rfl ?_
    refine WR.nil ?_
    refine WQ.then ?_
    refine WC.seq ?_
    refine WC.block ?_
    refine WC.seq ?_
    refine WC.region ?_
    refine WR.step (Ex.move rfl) (Wn.none rfl) rfl rfl ?_
    refine WR.stepT (Ex.eql rfl rfl) rfl (Wn.none rfl) rfl rfl ?_
    refine WR.step (Ex.move rfl) (Wn.none rfl) rfl rfl ?_
    refine WR.step (Ex.move rfl) (Wn.some rfl rfl rfl) rfl rfl ?_
    refine WR.split (Ex.gtr rfl rfl) (Wn.some rfl rfl rfl) rfl rfl (fun h8_4 => ?_) (fun h8_4 => ?_)
    ·
      have hres : encGo (encK 0) (chars l) 0 = .error q := by rw [hgo, hch]; exact encGo_stop o (by rw [encK0, Chs.encS, if_neg (by omega)])
      refine WR.step (Ex.pickT rfl rfl) (Wn.none rfl) rfl rfl ?_
      refine WR.step (Ex.move rfl) (Wn.none rfl) rfl rfl ?_
      refine WR.skipG (b := true) rfl rfl rfl rfl rfl ?_
      refine WR.skipG (b := true) rfl rfl rfl rfl rfl ?_
      refine WR.skipG (b := true) rfl rfl rfl rfl rfl ?_
      refine WR.skipU rfl rfl rfl rfl rfl ?_
      refine WR.skipU rfl rfl rfl rfl rfl ?_
      refine WR.skipG (b := true) rfl rfl rfl rfl rfl ?_
      refine WR.step (Ex.pickT rfl rfl) (Wn.none rfl) rfl rfl ?_
      refine WR.step (Ex.assign rfl) (Wn.none rfl) rfl rfl ?_
      refine WR.nil ?_
      refine WQ.then ?_
      refine WC.condT rfl ?_
      refine WC.seq ?_
      refine WC.region ?_
      refine WR.step (Ex.move rfl) (Wn.none rfl) rfl rfl ?_
      refine WR.step (Ex.assign rfl) (Wn.none rfl) rfl rfl ?_
      refine WR.step (Ex.assign rfl) (Wn.none rfl) rfl rfl ?_
      refine WR.nil ?_
      refine WQ.then ?_
      refine WC.ret ?_
      (repeat (first | refine WQ.thenRet ?_ | refine WQ.inBlockRet ?_))
      refine WQ.ret2 rfl rfl rfl H.ext ?_
      refine ?_
      rw [hres]
    ·
      refine WR.step (Ex.pickT rfl rfl) (Wn.none rfl) rfl rfl ?_
      refine WR.step (Ex.move rfl) (Wn.none rfl) rfl rfl ?_
      refine WR.step (Ex.move rfl) (Wn.some rfl rfl rfl) rfl rfl ?_
      refine WR.stepF (Ex.eql rfl rfl) (by decide) (Wn.some rfl rfl rfl) rfl rfl ?_
      refine WR.step (Ex.move rfl) (Wn.some rfl rfl rfl) rfl rfl ?_
      refine WR.skipG (b := false) rfl rfl rfl rfl rfl ?_
      refine WR.skipG (b := false) rfl rfl rfl rfl rfl ?_
      refine WR.step (Ex.pickF rfl rfl) (Wn.some rfl rfl rfl) rfl rfl ?_
      refine WR.step (Ex.pickF rfl rfl) (Wn.none rfl) rfl rfl ?_
      refine WR.step (Ex.assign rfl) (Wn.none rfl) rfl rfl ?_
      refine WR.nil ?_
      refine WQ.then ?_
      refine WC.condF rfl ?_
      refine WC.seq ?_
      refine WC.region ?_
      refine WR.step (Ex.move rfl) (Wn.none rfl) rfl rfl ?_
      refine WR.stepT (Ex.leq rfl rfl) (by decide) (Wn.none rfl) rfl rfl ?_
      refine WR.step (Ex.assign rfl) (Wn.none rfl) rfl rfl ?_
      refine WR.nil ?_
      refine WQ.then ?_
      refine WC.condT rfl ?_
      refine WC.region ?_
      refine WR.step (Ex.move rfl) (Wn.none rfl) rfl rfl ?_
      refine WR.step (Ex.move rfl) (Wn.none rfl) rfl rfl ?_
      refine WR.step (Ex.convU8 Tryd.underlying3 Tryd.underlying5 rfl) (Wn.none rfl) rfl rfl ?_
      refine WR.lit (enc := encB) ty34 [_] H rfl (by rfl) (fun _ => rfl) rfl rfl (Wn.none rfl) rfl ?_
      intro v67 M w H hle hl67
      refine WR.appendSl ty34 (fun _ => rfl) H rfl (fun _ => by repeat (first | exact Upd.head | apply Upd.tail)) rfl (by assumption) (by first | omega | (simp only [List.length_append, List.length_cons, List.length_nil, List.length_take, List.length_drop]; omega)) (by first | (simp only [maxLen]; omega) | (simp only [maxLen, List.length_append, List.length_cons, List.length_nil, List.length_take, List.length_drop]; omega)) (Wn.none rfl) rfl ?_
      intro v68 w H
      refine WR.step (Ex.assign rfl) (Wn.none rfl) rfl rfl ?_
      refine WR.nil ?_
      refine WQ.inBlock ?_
      refine WQ.then ?_
      refine WC.region ?_
      refine WR.step (Ex.move rfl) (Wn.none rfl) rfl rfl ?_
      refine WR.step (Ex.move rfl) (Wn.none rfl) rfl rfl ?_
      refine WR.stepE (v' := encN (q + (rune (l.drop q)).2)) (Ex.add64 rfl rfl (by omega)) rfl (Wn.none rfl) rfl rfl ?_
      refine WR.step (Ex.assign rfl) (Wn.none rfl) rfl rfl ?_
      refine WR.nil ?_
      refine WQ.inBlock ?_
      refine WQ.again3 (q + (rune (l.drop q)).2) (v68) (o ++ [ub (rune (l.drop q)).1]) ⟨rfl, rfl, rfl, rfl, trivial⟩ ?_ ?_
      · have hstep : encK 0 (rune (l.drop q)).1 = some [ub (rune (l.drop q)).1] := by rw [encK0, Chs.encS, if_pos (by omega)]
        have hbl := encK_len hstep
        refine ⟨by rw [List.length_append]; omega, ?_, ?_, M, H⟩
        · rw [← List.drop_drop]; exact hvn
        · rw [hgo, hch, encGo_step o hstep]
          simp only [List.length_take, List.length_drop]
          rw [Nat.min_eq_left (by omega)]
      · omega
  ·
    have hres : encGo (encK 0) (chars l) 0 = .ok o := by rw [hgo, List.drop_eq_nil_of_le (by omega), chars_nil]; simp [encGo, pre]
    refine WR.nil ?_
    refine WQ.then ?_
    refine WC.condF rfl ?_
    refine WC.exit ?_
    refine WQ.thenExit ?_
    refine WQ.thenExit ?_
    refine WQ.exitHere ?_
    refine WQ.then ?_
    refine WC.seq ?_
    refine WC.region ?_
    refine WR.step (Ex.move rfl) (Wn.none rfl) rfl rfl ?_
    refine WR.step (Ex.assign rfl) (Wn.none rfl) rfl rfl ?_
    refine WR.step (Ex.assign rfl) (Wn.none rfl) rfl rfl ?_
    refine WR.nil ?_
    refine WQ.then ?_
    refine WC.ret ?_
    (repeat (first | refine WQ.thenRet ?_ | refine WQ.inBlockRet ?_))
    obtain ⟨M, hle, hf, H⟩ := H.freezeRow (v := ov) (enc := encB) (t := 5) (by repeat (first | exact Rem.head | apply Rem.tail))
    refine WQ.ret2 rfl rfl rfl H.ext ?_
    refine ?_
    rw [hres]
    exact ⟨_, rfl, hf⟩

theorem encoded_1 (l : List UInt8) (hs : l.length ≤ 1048576) (hv : vld l = true) : Ct Tryd.prog 27 [I 1, S l] (fun _ => True) (fun r M => match encGo (encK 1) (chars l) 0 with | .ok b => ∃ v, r = .tuple #[v, I (-1)] ∧ Bs M v b | .error e => r = .tuple #[.slice none 0 0, encN e]) := by
  refine Ct.of Tryd.func27 (enters Tryd.func27 (by kernel_rfl) rfl) rfl rfl rfl ?_
  intro w0 M0 H hp
  refine WC.seq ?_
  refine WC.region ?_
  refine WR.step (Ex.assign rfl) (Wn.none rfl) rfl rfl ?_
  refine WR.step (Ex.assign rfl) (Wn.none rfl) rfl rfl ?_
  refine WR.nil ?_
  refine WQ.then ?_
  refine WC.seq ?_
  refine WC.region ?_
  refine WR.step (Ex.assign rfl) (Wn.none rfl) rfl rfl ?_
  refine WR.nil ?_
  refine WQ.then ?_
  refine WC.seq ?_
  refine WC.seq ?_
  refine WC.region ?_
  refine WR.step (Ex.assign rfl) (Wn.none rfl) rfl rfl ?_
  refine WR.nil ?_
  refine WQ.then ?_
  refine WC.block ?_
  replace H := H.newRow 5 encB
  refine WC.loop3 (fun (q : Nat) (ov : Value) (o : List UInt8) => [(0, I 1), (1, S l), (6, ov), (7, encN q)]) (fun (q : Nat) (ov : Value) (o : List UInt8) w => (q ≤ l.length ∧ o.length ≤ 4 * q) ∧ vld (l.drop q) = true ∧ encGo (encK 1) (chars l) 0 = pre o (encGo (encK 1) (chars (l.drop q)) q) ∧ ∃ M, St w0 M0 M [RowI 5 encB ov o] w) (fun (q : Nat) (ov : Value) (o : List UInt8) => l.length - q) (0) (_) (_) ⟨rfl, rfl, rfl, rfl, trivial⟩ (⟨by simp, hv, (pre_nil _).symm, M0, H⟩) ?_
  intro q ov o w
  rintro ⟨hq, hvq, hgo, M, H⟩
  refine WC.seq ?_
  refine WC.seq ?_
  refine WC.region ?_
  refine WR.step (Ex.move rfl) (Wn.none rfl) rfl rfl ?_
  refine WR.step (Ex.move rfl) (Wn.none rfl) rfl rfl ?_
  refine WR.step (Ex.lenStr Tryd.underlying9 rfl) (Wn.none rfl) rfl rfl ?_
  refine WR.split (Ex.lss rfl rfl) (Wn.none rfl) rfl rfl (fun h3_3 => ?_) (fun h3_3 => ?_)
  ·
    have hne := drop_ne (t := l) (n := q) (by omega)
    have hrs := rune_size (l.drop q)
    have hrs3 := hrs.2.2 hne
    rw [List.length_drop] at hrs3
    rw [vld_cons hne, Bool.and_eq_true] at hvq
    have hr0 := of_decide_eq_true hvq.1
    have hvn := hvq.2
    have hrl := rune_lt (l.drop q)
    have hch : chars (l.drop q) = ((rune (l.drop q)).1, (l.drop q).take (rune (l.drop q)).2) :: chars (l.drop (q + (rune (l.drop q)).2)) := by rw [chars_cons hne, List.drop_drop]
    have hhi : hiS (rune (l.drop q)).1 ≤ 57343 := by unfold hiS; omega
    have hlo : loS (rune (l.drop q)).1 ≤ 57343 := by unfold loS; omega
    refine WR.nil ?_
    refine WQ.then ?_
    refine WC.condT rfl ?_
    refine WC.skip ?_
    refine WQ.then ?_
    refine WC.block ?_
    refine WC.seq ?_
    refine WC.region ?_
    refine WR.step (Ex.move rfl) (Wn.none rfl) rfl rfl ?_
    refine WR.step (Ex.move rfl) (Wn.none rfl) rfl rfl ?_
    refine WR.call H (rune_spec _ _ (by omega) (by omega)) rfl (trivial) (Wn.none rfl) rfl ?_
    intro v19 M w H hle hr19
    obtain rfl := hr19
    refine WR.step (Ex.move rfl) (Wn.none rfl) rfl rfl ?_
    refine WR.step (Ex.extract rfl rfl) (Wn.none rfl) rfl rfl ?_
    refine WR.step (Ex.extract rfl rfl) (Wn.none rfl) rfl rfl ?_
    refine WR.step (Ex.assign rfl) (Wn.none rfl) rfl rfl ?_
    refine WR.step (Ex.assign rfl) (Wn.none rfl) rfl rfl ?_
    refine WR.nil ?_
    refine WQ.then ?_
    refine WC.seq ?_
    refine WC.block ?_
    refine WC.seq ?_
    refine WC.region ?_
    refine WR.step (Ex.move rfl) (Wn.none rfl) rfl rfl ?_
    refine WR.stepF (Ex.eql rfl rfl) (by decide) (Wn.none rfl) rfl rfl ?_
    refine WR.step (Ex.move rfl) (Wn.none rfl) rfl rfl ?_
    refine WR.skipG (b := false) rfl rfl rfl rfl rfl ?_
    refine WR.skipG (b := false) rfl rfl rfl rfl rfl ?_
    refine WR.step (Ex.pickF rfl rfl) (Wn.none rfl) rfl rfl ?_
    refine WR.step (Ex.move rfl) (Wn.none rfl) rfl rfl ?_
    refine WR.step (Ex.move rfl) (Wn.some rfl rfl rfl) rfl rfl ?_
    refine WR.stepT (Ex.eql rfl rfl) rfl (Wn.some rfl rfl rfl) rfl rfl ?_
    refine WR.step (Ex.move rfl) (Wn.some rfl rfl rfl) rfl rfl ?_
    refine WR.step (Ex.move rfl) (Wn.some rfl rfl rfl) rfl rfl ?_
    refine WR.split (Ex.gtr rfl rfl) (Wn.some rfl rfl rfl) rfl rfl (fun h8_11 => ?_) (fun h8_11 => ?_)
    ·
      have hres : encGo (encK 1) (chars l) 0 = .error q := by rw [hgo, hch]; exact encGo_stop o (by rw [encK1, Chs.encS, if_neg (by omega)])
      refine WR.step (Ex.pickT rfl rfl) (Wn.some rfl rfl rfl) rfl rfl ?_
      refine WR.step (Ex.pickF rfl rfl) (Wn.none rfl) rfl rfl ?_
      refine WR.step (Ex.assign rfl) (Wn.none rfl) rfl rfl ?_
      refine WR.nil ?_
      refine WQ.then ?_
      refine WC.condT rfl ?_
      refine WC.seq ?_
      refine WC.region ?_
      refine WR.step (Ex.move rfl) (Wn.none rfl) rfl rfl ?_
      refine WR.step (Ex.assign rfl) (Wn.none rfl) rfl rfl ?_
      refine WR.step (Ex.assign rfl) (Wn.none rfl) rfl rfl ?_
      refine WR.nil ?_
      refine WQ.then ?_
      refine WC.ret ?_
      (repeat (first | refine WQ.thenRet ?_ | refine WQ.inBlockRet ?_))
      refine WQ.ret2 rfl rfl rfl H.ext ?_
      refine ?_
      rw [hres]
    ·
      refine WR.step (Ex.pickT rfl rfl) (Wn.some rfl rfl rfl) rfl rfl ?_
      refine WR.step (Ex.pickF rfl rfl) (Wn.none rfl) rfl rfl ?_
      refine WR.step (Ex.assign rfl) (Wn.none rfl) rfl rfl ?_
      refine WR.nil ?_
      refine WQ.then ?_
      refine WC.condF rfl ?_
      refine WC.seq ?_
      refine WC.region ?_
      refine WR.step (Ex.move rfl) (Wn.none rfl) rfl rfl ?_
      refine WR.stepT (Ex.leq rfl rfl) (by decide) (Wn.none rfl) rfl rfl ?_
      refine WR.step (Ex.assign rfl) (Wn.none rfl) rfl rfl ?_
      refine WR.nil ?_
      refine WQ.then ?_
      refine WC.condT rfl ?_
      refine WC.region ?_
      refine WR.step (Ex.move rfl) (Wn.none rfl) rfl rfl ?_
      refine WR.step (Ex.move rfl) (Wn.none rfl) rfl rfl ?_
      refine WR.step (Ex.convU8 Tryd.underlying3 Tryd.underlying5 rfl) (Wn.none rfl) rfl rfl ?_
      refine WR.lit (enc := encB) ty34 [_] H rfl (by rfl) (fun _ => rfl) rfl rfl (Wn.none rfl) rfl ?_
      intro v67 M w H hle hl67
      refine WR.appendSl ty34 (fun _ => rfl) H rfl (fun _ => by repeat (first | exact Upd.head | apply Upd.tail)) rfl (by assumption) (by first | omega | (simp only [List.length_append, List.length_cons, List.length_nil, List.length_take, List.length_drop]; omega)) (by first | (simp only [maxLen]; omega) | (simp only [maxLen, List.length_append, List.length_cons, List.length_nil, List.length_take, List.length_drop]; omega)) (Wn.none rfl) rfl ?_
      intro v68 w H
      refine WR.step (Ex.assign rfl) (Wn.none rfl) rfl rfl ?_
      refine WR.nil ?_
      refine WQ.inBlock ?_
      refine WQ.then ?_
      refine WC.region ?_
      refine WR.step (Ex.move rfl) (Wn.none rfl) rfl rfl ?_
      refine WR.step (Ex.move rfl) (Wn.none rfl) rfl rfl ?_
      refine WR.stepE (v' := encN (q + (rune (l.drop q)).2)) (Ex.add64 rfl rfl (by omega)) rfl (Wn.none rfl) rfl rfl ?_
      refine WR.step (Ex.assign rfl) (Wn.none rfl) rfl rfl ?_
      refine WR.nil ?_
      refine WQ.inBlock ?_
      refine WQ.again3 (q + (rune (l.drop q)).2) (v68) (o ++ [ub (rune (l.drop q)).1]) ⟨rfl, rfl, rfl, rfl, trivial⟩ ?_ ?_
      · have hstep : encK 1 (rune (l.drop q)).1 = some [ub (rune (l.drop q)).1] := by rw [encK1, Chs.encS, if_pos (by omega)]
        have hbl := encK_len hstep
        refine ⟨by rw [List.length_append]; omega, ?_, ?_, M, H⟩
        · rw [← List.drop_drop]; exact hvn
        · rw [hgo, hch, encGo_step o hstep]
          simp only [List.length_take, List.length_drop]
          rw [Nat.min_eq_left (by omega)]
      · omega
  ·
    have hres : encGo (encK 1) (chars l) 0 = .ok o := by rw [hgo, List.drop_eq_nil_of_le (by omega), chars_nil]; simp [encGo, pre]
    refine WR.nil ?_
    refine WQ.then ?_
    refine WC.condF rfl ?_
    refine WC.exit ?_
    refine WQ.thenExit ?_
    refine WQ.thenExit ?_
    refine WQ.exitHere ?_
    refine WQ.then ?_
    refine WC.seq ?_
    refine WC.region ?_
    refine WR.step (Ex.move rfl) (Wn.none rfl) rfl rfl ?_
    refine WR.step (Ex.assign rfl) (Wn.none rfl) rfl rfl ?_
    refine WR.step (Ex.assign rfl) (Wn.none rfl) rfl rfl ?_
    refine WR.nil ?_
    refine WQ.then ?_
    refine WC.ret ?_
    (repeat (first | refine WQ.thenRet ?_ | refine WQ.inBlockRet ?_))
    obtain ⟨M, hle, hf, H⟩ := H.freezeRow (v := ov) (enc := encB) (t := 5) (by repeat (first | exact Rem.head | apply Rem.tail))
    refine WQ.ret2 rfl rfl rfl H.ext ?_
    refine ?_
    rw [hres]
    exact ⟨_, rfl, hf⟩

theorem encoded_2 (l : List UInt8) (hs : l.length ≤ 1048576) (hv : vld l = true) : Ct Tryd.prog 27 [I 2, S l] (fun _ => True) (fun r M => match encGo (encK 2) (chars l) 0 with | .ok b => ∃ v, r = .tuple #[v, I (-1)] ∧ Bs M v b | .error e => r = .tuple #[.slice none 0 0, encN e]) := by
  refine Ct.of Tryd.func27 (enters Tryd.func27 (by kernel_rfl) rfl) rfl rfl rfl ?_
  intro w0 M0 H hp
  refine WC.seq ?_
  refine WC.region ?_
  refine WR.step (Ex.assign rfl) (Wn.none rfl) rfl rfl ?_
  refine WR.step (Ex.assign rfl) (Wn.none rfl) rfl rfl ?_
  refine WR.nil ?_
  refine WQ.then ?_
  refine WC.seq ?_
  refine WC.region ?_
  refine WR.step (Ex.assign rfl) (Wn.none rfl) rfl rfl ?_
  refine WR.nil ?_
  refine WQ.then ?_
  refine WC.seq ?_
  refine WC.seq ?_
  refine WC.region ?_
  refine WR.step (Ex.assign rfl) (Wn.none rfl) rfl rfl ?_
  refine WR.nil ?_
  refine WQ.then ?_
  refine WC.block ?_
  replace H := H.newRow 5 encB
  refine WC.loop3 (fun (q : Nat) (ov : Value) (o : List UInt8) => [(0, I 2), (1, S l), (6, ov), (7, encN q)]) (fun (q : Nat) (ov : Value) (o : List UInt8) w => (q ≤ l.length ∧ o.length ≤ 4 * q) ∧ vld (l.drop q) = true ∧ encGo (encK 2) (chars l) 0 = pre o (encGo (encK 2) (chars (l.drop q)) q) ∧ ∃ M, St w0 M0 M [RowI 5 encB ov o] w) (fun (q : Nat) (ov : Value) (o : List UInt8) => l.length - q) (0) (_) (_) ⟨rfl, rfl, rfl, rfl, trivial⟩ (⟨by simp, hv, (pre_nil _).symm, M0, H⟩) ?_
  intro q ov o w
  rintro ⟨hq, hvq, hgo, M, H⟩
  refine WC.seq ?_
  refine WC.seq ?_
  refine WC.region ?_
  refine WR.step (Ex.move rfl) (Wn.none rfl) rfl rfl ?_
  refine WR.step (Ex.move rfl) (Wn.none rfl) rfl rfl ?_
  refine WR.step (Ex.lenStr Tryd.underlying9 rfl) (Wn.none rfl) rfl rfl ?_
  refine WR.split (Ex.lss rfl rfl) (Wn.none rfl) rfl rfl (fun h3_3 => ?_) (fun h3_3 => ?_)
  ·
    have hne := drop_ne (t := l) (n := q) (by omega)
    have hrs := rune_size (l.drop q)
    have hrs3 := hrs.2.2 hne
    rw [List.length_drop] at hrs3
    rw [vld_cons hne, Bool.and_eq_true] at hvq
    have hr0 := of_decide_eq_true hvq.1
    have hvn := hvq.2
    have hrl := rune_lt (l.drop q)
    have hch : chars (l.drop q) = ((rune (l.drop q)).1, (l.drop q).take (rune (l.drop q)).2) :: chars (l.drop (q + (rune (l.drop q)).2)) := by rw [chars_cons hne, List.drop_drop]
    have hhi : hiS (rune (l.drop q)).1 ≤ 57343 := by unfold hiS; omega
    have hlo : loS (rune (l.drop q)).1 ≤ 57343 := by unfold loS; omega
    refine WR.nil ?_
    refine WQ.then ?_
    refine WC.condT rfl ?_
    refine WC.skip ?_
    refine WQ.then ?_
    refine WC.block ?_
    refine WC.seq ?_
    refine WC.region ?_
    refine WR.step (Ex.move rfl) (Wn.none rfl) rfl rfl ?_
    refine WR.step (Ex.move rfl) (Wn.none rfl) rfl rfl ?_
    refine WR.call H (rune_spec _ _ (by omega) (by omega)) rfl (trivial) (Wn.none rfl) rfl ?_
    intro v19 M w H hle hr19
    obtain rfl := hr19
    refine WR.step (Ex.move rfl) (Wn.none rfl) rfl rfl ?_
    refine WR.step (Ex.extract rfl rfl) (Wn.none rfl) rfl rfl ?_
    refine WR.step (Ex.extract rfl rfl) (Wn.none rfl) rfl rfl ?_
    refine WR.step (Ex.assign rfl) (Wn.none rfl) rfl rfl ?_
    refine WR.step (Ex.assign rfl) (Wn.none rfl) rfl rfl ?_
    refine WR.nil ?_
    refine WQ.then ?_
    refine WC.seq ?_
    refine WC.block ?_
    refine WC.seq ?_
    refine WC.region ?_
    refine WR.step (Ex.move rfl) (Wn.none rfl) rfl rfl ?_
    refine WR.stepF (Ex.eql rfl rfl) (by decide) (Wn.none rfl) rfl rfl ?_
    refine WR.step (Ex.move rfl) (Wn.none rfl) rfl rfl ?_
    refine WR.skipG (b := false) rfl rfl rfl rfl rfl ?_
    refine WR.skipG (b := false) rfl rfl rfl rfl rfl ?_
    refine WR.step (Ex.pickF rfl rfl) (Wn.none rfl) rfl rfl ?_
    refine WR.step (Ex.move rfl) (Wn.none rfl) rfl rfl ?_
    refine WR.step (Ex.move rfl) (Wn.some rfl rfl rfl) rfl rfl ?_
    refine WR.stepF (Ex.eql rfl rfl) (by decide) (Wn.some rfl rfl rfl) rfl rfl ?_
    refine WR.step (Ex.move rfl) (Wn.some rfl rfl rfl) rfl rfl ?_
    refine WR.skipG (b := false) rfl rfl rfl rfl rfl ?_
    refine WR.skipG (b := false) rfl rfl rfl rfl rfl ?_
    refine WR.step (Ex.pickF rfl rfl) (Wn.some rfl rfl rfl) rfl rfl ?_
    refine WR.step (Ex.pickF rfl rfl) (Wn.none rfl) rfl rfl ?_
    refine WR.step (Ex.assign rfl) (Wn.none rfl) rfl rfl ?_
    refine WR.nil ?_
    refine WQ.then ?_
    refine WC.condF rfl ?_
    refine WC.seq ?_
    refine WC.region ?_
    refine WR.step (Ex.move rfl) (Wn.none rfl) rfl rfl ?_
    refine WR.stepF (Ex.leq rfl rfl) (by decide) (Wn.none rfl) rfl rfl ?_
    refine WR.step (Ex.assign rfl) (Wn.none rfl) rfl rfl ?_
    refine WR.nil ?_
    refine WQ.then ?_
    refine WC.condF rfl ?_
    refine WC.seq ?_
    refine WC.region ?_
    refine WR.step (Ex.move rfl) (Wn.none rfl) rfl rfl ?_
    refine WR.stepT (Ex.eql rfl rfl) rfl (Wn.none rfl) rfl rfl ?_
    refine WR.step (Ex.assign rfl) (Wn.none rfl) rfl rfl ?_
    refine WR.nil ?_
    refine WQ.then ?_
    refine WC.condT rfl ?_
    refine WC.region ?_
    refine WR.step (Ex.move rfl) (Wn.none rfl) rfl rfl ?_
    refine WR.step (Ex.move rfl) (Wn.none rfl) rfl rfl ?_
    refine WR.step (Ex.move rfl) (Wn.none rfl) rfl rfl ?_
    refine WR.step (Ex.move rfl) (Wn.none rfl) rfl rfl ?_
    refine WR.step (Ex.move rfl) (Wn.none rfl) rfl rfl ?_
    refine WR.stepE (v' := encN (q + (rune (l.drop q)).2)) (Ex.add64 rfl rfl (by omega)) rfl (Wn.none rfl) rfl rfl ?_
    refine WR.stepE (v' := S ((l.drop q).take (rune (l.drop q)).2)) (Ex.sliceStr (i := q) (j := q + (rune (l.drop q)).2) Tryd.underlying9 rfl (.inl ⟨_, rfl, rfl⟩) (.inl ⟨_, rfl, rfl⟩) (by omega) (by omega)) (by rw [List.drop_take, Nat.add_sub_cancel_left]) (Wn.none rfl) rfl rfl ?_
    refine WR.appendStr ty34 Tryd.underlying9 H rfl (fun _ => by repeat (first | exact Upd.head | apply Upd.tail)) rfl (by first | omega | (simp only [List.length_append, List.length_cons, List.length_nil, List.length_take, List.length_drop]; omega)) (Wn.none rfl) rfl ?_
    intro v79 w H
    refine WR.step (Ex.assign rfl) (Wn.none rfl) rfl rfl ?_
    refine WR.nil ?_
    refine WQ.inBlock ?_
    refine WQ.then ?_
    refine WC.region ?_
    refine WR.step (Ex.move rfl) (Wn.none rfl) rfl rfl ?_
    refine WR.step (Ex.move rfl) (Wn.none rfl) rfl rfl ?_
    refine WR.stepE (v' := encN (q + (rune (l.drop q)).2)) (Ex.add64 rfl rfl (by omega)) rfl (Wn.none rfl) rfl rfl ?_
    refine WR.step (Ex.assign rfl) (Wn.none rfl) rfl rfl ?_
    refine WR.nil ?_
    refine WQ.inBlock ?_
    refine WQ.again3 (q + (rune (l.drop q)).2) (v79) (o ++ ((l.drop q).take (rune (l.drop q)).2)) ⟨rfl, rfl, rfl, rfl, trivial⟩ ?_ ?_
    · have hstep : encK 2 (rune (l.drop q)).1 = some ((l.drop q).take (rune (l.drop q)).2) := by rw [encK2, encU, utf8_rune _ hne hr0]
      have hbl := encK_len hstep
      refine ⟨by rw [List.length_append]; omega, ?_, ?_, M, H⟩
      · rw [← List.drop_drop]; exact hvn
      · rw [hgo, hch, encGo_step o hstep]
        simp only [List.length_take, List.length_drop]
        rw [Nat.min_eq_left (by omega)]
    · omega
  ·
    have hres : encGo (encK 2) (chars l) 0 = .ok o := by rw [hgo, List.drop_eq_nil_of_le (by omega), chars_nil]; simp [encGo, pre]
    refine WR.nil ?_
    refine WQ.then ?_
    refine WC.condF rfl ?_
    refine WC.exit ?_
    refine WQ.thenExit ?_
    refine WQ.thenExit ?_
    refine WQ.exitHere ?_
    refine WQ.then ?_
    refine WC.seq ?_
    refine WC.region ?_
    refine WR.step (Ex.move rfl) (Wn.none rfl) rfl rfl ?_
    refine WR.step (Ex.assign rfl) (Wn.none rfl) rfl rfl ?_
    refine WR.step (Ex.assign rfl) (Wn.none rfl) rfl rfl ?_
    refine WR.nil ?_
    refine WQ.then ?_
    refine WC.ret ?_
    (repeat (first | refine WQ.thenRet ?_ | refine WQ.inBlockRet ?_))
    obtain ⟨M, hle, hf, H⟩ := H.freezeRow (v := ov) (enc := encB) (t := 5) (by repeat (first | exact Rem.head | apply Rem.tail))
    refine WQ.ret2 rfl rfl rfl H.ext ?_
    refine ?_
    rw [hres]
    exact ⟨_, rfl, hf⟩

theorem encoded_3 (l : List UInt8) (hs : l.length ≤ 1048576) (hv : vld l = true) : Ct Tryd.prog 27 [I 3, S l] (fun _ => True) (fun r M => match encGo (encK 3) (chars l) 0 with | .ok b => ∃ v, r = .tuple #[v, I (-1)] ∧ Bs M v b | .error e => r = .tuple #[.slice none 0 0, encN e]) := by
  refine Ct.of Tryd.func27 (enters Tryd.func27 (by kernel_rfl) rfl) rfl rfl rfl ?_
  intro w0 M0 H hp
  refine WC.seq ?_
  refine WC.region ?_
  refine WR.step (Ex.assign rfl) (Wn.none rfl) rfl rfl ?_
  refine WR.step (Ex.assign rfl) (Wn.none rfl) rfl rfl ?_
  refine WR.nil ?_
  refine WQ.then ?_
  refine WC.seq ?_
  refine WC.region ?_
  refine WR.step (Ex.assign rfl) (Wn.none rfl) rfl rfl ?_
  refine WR.nil ?_
  refine WQ.then ?_
  refine WC.seq ?_
  refine WC.seq ?_
  refine WC.region ?_
  refine WR.step (Ex.assign rfl) (Wn.none rfl) rfl rfl ?_
  refine WR.nil ?_
  refine WQ.then ?_
  refine WC.block ?_
  replace H := H.newRow 5 encB
  refine WC.loop3 (fun (q : Nat) (ov : Value) (o : List UInt8) => [(0, I 3), (1, S l), (6, ov), (7, encN q)]) (fun (q : Nat) (ov : Value) (o : List UInt8) w => (q ≤ l.length ∧ o.length ≤ 4 * q) ∧ vld (l.drop q) = true ∧ encGo (encK 3) (chars l) 0 = pre o (encGo (encK 3) (chars (l.drop q)) q) ∧ ∃ M, St w0 M0 M [RowI 5 encB ov o] w) (fun (q : Nat) (ov : Value) (o : List UInt8) => l.length - q) (0) (_) (_) ⟨rfl, rfl, rfl, rfl, trivial⟩ (⟨by simp, hv, (pre_nil _).symm, M0, H⟩) ?_
  intro q ov o w
  rintro ⟨hq, hvq, hgo, M, H⟩
  refine WC.seq ?_
  refine WC.seq ?_
  refine WC.region ?_
  refine WR.step (Ex.move rfl) (Wn.none rfl) rfl rfl ?_
  refine WR.step (Ex.move rfl) (Wn.none rfl) rfl rfl ?_
  refine WR.step (Ex.lenStr Tryd.underlying9 rfl) (Wn.none rfl) rfl rfl ?_
  refine WR.split (Ex.lss rfl rfl) (Wn.none rfl) rfl rfl (fun h3_3 => ?_) (fun h3_3 => ?_)
  ·
    have hne := drop_ne (t := l) (n := q) (by omega)
    have hrs := rune_size (l.drop q)
    have hrs3 := hrs.2.2 hne
    rw [List.length_drop] at hrs3
    rw [vld_cons hne, Bool.and_eq_true] at hvq
    have hr0 := of_decide_eq_true hvq.1
    have hvn := hvq.2
    have hrl := rune_lt (l.drop q)
    have hch : chars (l.drop q) = ((rune (l.drop q)).1, (l.drop q).take (rune (l.drop q)).2) :: chars (l.drop (q + (rune (l.drop q)).2)) := by rw [chars_cons hne, List.drop_drop]
    have hhi : hiS (rune (l.drop q)).1 ≤ 57343 := by unfold hiS; omega
    have hlo : loS (rune (l.drop q)).1 ≤ 57343 := by unfold loS; omega
    refine WR.nil ?_
    refine WQ.then ?_
    refine WC.condT rfl ?_
    refine WC.skip ?_
    refine WQ.then ?_
    refine WC.block ?_
    refine WC.seq ?_
    refine WC.region ?_
    refine WR.step (Ex.move rfl) (Wn.none rfl) rfl rfl ?_
    refine WR.step (Ex.move rfl) (Wn.none rfl) rfl rfl ?_
    refine WR.call H (rune_spec _ _ (by omega) (by omega)) rfl (trivial) (Wn.none rfl) rfl ?_
    intro v19 M w H hle hr19
    obtain rfl := hr19
    refine WR.step (Ex.move rfl) (Wn.none rfl) rfl rfl ?_
    refine WR.step (Ex.extract rfl rfl) (Wn.none rfl) rfl rfl ?_
    refine WR.step (Ex.extract rfl rfl) (Wn.none rfl) rfl rfl ?_
    refine WR.step (Ex.assign rfl) (Wn.none rfl) rfl rfl ?_
    refine WR.step (Ex.assign rfl) (Wn.none rfl) rfl rfl ?_
    refine WR.nil ?_
    refine WQ.then ?_
    refine WC.seq ?_
    refine WC.block ?_
    refine WC.seq ?_
    refine WC.region ?_
    refine WR.step (Ex.move rfl) (Wn.none rfl) rfl rfl ?_
    refine WR.stepF (Ex.eql rfl rfl) (by decide) (Wn.none rfl) rfl rfl ?_
    refine WR.step (Ex.move rfl) (Wn.none rfl) rfl rfl ?_
    refine WR.skipG (b := false) rfl rfl rfl rfl rfl ?_
    refine WR.skipG (b := false) rfl rfl rfl rfl rfl ?_
    refine WR.step (Ex.pickF rfl rfl) (Wn.none rfl) rfl rfl ?_
    refine WR.step (Ex.move rfl) (Wn.none rfl) rfl rfl ?_
    refine WR.step (Ex.move rfl) (Wn.some rfl rfl rfl) rfl rfl ?_
    refine WR.stepF (Ex.eql rfl rfl) (by decide) (Wn.some rfl rfl rfl) rfl rfl ?_
    refine WR.step (Ex.move rfl) (Wn.some rfl rfl rfl) rfl rfl ?_
    refine WR.skipG (b := false) rfl rfl rfl rfl rfl ?_
    refine WR.skipG (b := false) rfl rfl rfl rfl rfl ?_
    refine WR.step (Ex.pickF rfl rfl) (Wn.some rfl rfl rfl) rfl rfl ?_
    refine WR.step (Ex.pickF rfl rfl) (Wn.none rfl) rfl rfl ?_
    refine WR.step (Ex.assign rfl) (Wn.none rfl) rfl rfl ?_
    refine WR.nil ?_
    refine WQ.then ?_
    refine WC.condF rfl ?_
    refine WC.seq ?_
    refine WC.region ?_
    refine WR.step (Ex.move rfl) (Wn.none rfl) rfl rfl ?_
    refine WR.stepF (Ex.leq rfl rfl) (by decide) (Wn.none rfl) rfl rfl ?_
    refine WR.step (Ex.assign rfl) (Wn.none rfl) rfl rfl ?_
    refine WR.nil ?_
    refine WQ.then ?_
    refine WC.condF rfl ?_
    refine WC.seq ?_
    refine WC.region ?_
    refine WR.step (Ex.move rfl) (Wn.none rfl) rfl rfl ?_
    refine WR.stepF (Ex.eql rfl rfl) (by decide) (Wn.none rfl) rfl rfl ?_
    refine WR.step (Ex.assign rfl) (Wn.none rfl) rfl rfl ?_
    refine WR.nil ?_
    refine WQ.then ?_
    refine WC.condF rfl ?_
    refine WC.seq ?_
    refine WC.region ?_
    refine WR.step (Ex.move rfl) (Wn.none rfl) rfl rfl ?_
    refine WR.split (Ex.lss rfl rfl) (Wn.none rfl) rfl rfl (fun h14_1 => ?_) (fun h14_1 => ?_)
    ·
      refine WR.step (Ex.assign rfl) (Wn.none rfl) rfl rfl ?_
      refine WR.nil ?_
      refine WQ.then ?_
      refine WC.condT rfl ?_
      refine WC.region ?_
      refine WR.step (Ex.move rfl) (Wn.none rfl) rfl rfl ?_
      refine WR.step (Ex.move rfl) (Wn.none rfl) rfl rfl ?_
      refine WR.step (Ex.quo64 rfl rfl (by first | omega | exact ⟨Int.natCast_nonneg _, by decide⟩)) (Wn.none rfl) rfl rfl ?_
      refine WR.step (Ex.convU8 Tryd.underlying3 Tryd.underlying5 rfl) (Wn.none rfl) rfl rfl ?_
      refine WR.step (Ex.move rfl) (Wn.none rfl) rfl rfl ?_
      refine WR.step (Ex.rem64 rfl rfl (by first | omega | exact ⟨Int.natCast_nonneg _, by decide⟩)) (Wn.none rfl) rfl rfl ?_
      refine WR.step (Ex.convU8 Tryd.underlying3 Tryd.underlying5 rfl) (Wn.none rfl) rfl rfl ?_
      refine WR.lit (enc := encB) ty34 [_, _] H rfl (by rfl) (fun _ => rfl) rfl rfl (Wn.none rfl) rfl ?_
      intro v90 M w H hle hl90
      refine WR.appendSl ty34 (fun _ => rfl) H rfl (fun _ => by repeat (first | exact Upd.head | apply Upd.tail)) rfl (by assumption) (by first | omega | (simp only [List.length_append, List.length_cons, List.length_nil, List.length_take, List.length_drop]; omega)) (by first | (simp only [maxLen]; omega) | (simp only [maxLen, List.length_append, List.length_cons, List.length_nil, List.length_take, List.length_drop]; omega)) (Wn.none rfl) rfl ?_
      intro v91 w H
      refine WR.step (Ex.assign rfl) (Wn.none rfl) rfl rfl ?_
      refine WR.nil ?_
      refine WQ.inBlock ?_
      refine WQ.then ?_
      refine WC.region ?_
      refine WR.step (Ex.move rfl) (Wn.none rfl) rfl rfl ?_
      refine WR.step (Ex.move rfl) (Wn.none rfl) rfl rfl ?_
      refine WR.stepE (v' := encN (q + (rune (l.drop q)).2)) (Ex.add64 rfl rfl (by omega)) rfl (Wn.none rfl) rfl rfl ?_
      refine WR.step (Ex.assign rfl) (Wn.none rfl) rfl rfl ?_
      refine WR.nil ?_
      refine WQ.inBlock ?_
      refine WQ.again3 (q + (rune (l.drop q)).2) (v91) (o ++ [ub ((rune (l.drop q)).1 / 256), ub ((rune (l.drop q)).1 % 256)]) ⟨rfl, rfl, rfl, rfl, trivial⟩ ?_ ?_
      · have hstep : encK 3 (rune (l.drop q)).1 = some [ub ((rune (l.drop q)).1 / 256), ub ((rune (l.drop q)).1 % 256)] := by rw [encK3, encW, if_pos (by omega)]
        have hbl := encK_len hstep
        refine ⟨by rw [List.length_append]; omega, ?_, ?_, M, H⟩
        · rw [← List.drop_drop]; exact hvn
        · rw [hgo, hch, encGo_step o hstep]
          simp only [List.length_take, List.length_drop]
          rw [Nat.min_eq_left (by omega)]
      · omega
    ·
      have hhi0 : 55296 ≤ hiS (rune (l.drop q)).1 := by unfold hiS; omega
      have hlo0 : 56320 ≤ loS (rune (l.drop q)).1 := by unfold loS; omega
      refine WR.step (Ex.assign rfl) (Wn.none rfl) rfl rfl ?_
      refine WR.nil ?_
      refine WQ.then ?_
      refine WC.condF rfl ?_
      refine WC.seq ?_
      refine WC.region ?_
      refine WR.step (Ex.move rfl) (Wn.none rfl) rfl rfl ?_
      refine WR.step (Ex.sub64 rfl rfl (by omega)) (Wn.none rfl) rfl rfl ?_
      refine WR.step (Ex.quo64 rfl rfl (by first | omega | exact ⟨Int.natCast_nonneg _, by decide⟩)) (Wn.none rfl) rfl rfl ?_
      refine WR.stepE (v' := I (hiS (rune (l.drop q)).1)) (Ex.add64 rfl rfl (by omega)) (congrArg I (by unfold hiS; rfl)) (Wn.none rfl) rfl rfl ?_
      refine WR.step (Ex.assign rfl) (Wn.none rfl) rfl rfl ?_
      refine WR.nil ?_
      refine WQ.then ?_
      refine WC.seq ?_
      refine WC.region ?_
      refine WR.step (Ex.move rfl) (Wn.none rfl) rfl rfl ?_
      refine WR.step (Ex.sub64 rfl rfl (by omega)) (Wn.none rfl) rfl rfl ?_
      refine WR.step (Ex.rem64 rfl rfl (by first | omega | exact ⟨Int.natCast_nonneg _, by decide⟩)) (Wn.none rfl) rfl rfl ?_
      refine WR.stepE (v' := I (loS (rune (l.drop q)).1)) (Ex.add64 rfl rfl (by omega)) (congrArg I (by unfold loS; rfl)) (Wn.none rfl) rfl rfl ?_
      refine WR.step (Ex.assign rfl) (Wn.none rfl) rfl rfl ?_
      refine WR.nil ?_
      refine WQ.then ?_
      refine WC.region ?_
      refine WR.step (Ex.move rfl) (Wn.none rfl) rfl rfl ?_
      refine WR.step (Ex.move rfl) (Wn.none rfl) rfl rfl ?_
      refine WR.step (Ex.quo64 rfl rfl (by first | omega | exact ⟨Int.natCast_nonneg _, by decide⟩)) (Wn.none rfl) rfl rfl ?_
      refine WR.step (Ex.convU8 Tryd.underlying3 Tryd.underlying5 rfl) (Wn.none rfl) rfl rfl ?_
      refine WR.step (Ex.move rfl) (Wn.none rfl) rfl rfl ?_
      refine WR.step (Ex.rem64 rfl rfl (by first | omega | exact ⟨Int.natCast_nonneg _, by decide⟩)) (Wn.none rfl) rfl rfl ?_
      refine WR.step (Ex.convU8 Tryd.underlying3 Tryd.underlying5 rfl) (Wn.none rfl) rfl rfl ?_
      refine WR.step (Ex.move rfl) (Wn.none rfl) rfl rfl ?_
      refine WR.step (Ex.quo64 rfl rfl (by first | omega | exact ⟨Int.natCast_nonneg _, by decide⟩)) (Wn.none rfl) rfl rfl ?_
      refine WR.step (Ex.convU8 Tryd.underlying3 Tryd.underlying5 rfl) (Wn.none rfl) rfl rfl ?_
      refine WR.step (Ex.move rfl) (Wn.none rfl) rfl rfl ?_
      refine WR.step (Ex.rem64 rfl rfl (by first | omega | exact ⟨Int.natCast_nonneg _, by decide⟩)) (Wn.none rfl) rfl rfl ?_
      refine WR.step (Ex.convU8 Tryd.underlying3 Tryd.underlying5 rfl) (Wn.none rfl) rfl rfl ?_
      refine WR.lit (enc := encB) ty34 [_, _, _, _] H rfl (by rfl) (fun _ => rfl) rfl rfl (Wn.none rfl) rfl ?_
      intro v43 M w H hle hl43
      refine WR.appendSl ty34 (fun _ => rfl) H rfl (fun _ => by repeat (first | exact Upd.head | apply Upd.tail)) rfl (by assumption) (by first | omega | (simp only [List.length_append, List.length_cons, List.length_nil, List.length_take, List.length_drop]; omega)) (by first | (simp only [maxLen]; omega) | (simp only [maxLen, List.length_append, List.length_cons, List.length_nil, List.length_take, List.length_drop]; omega)) (Wn.none rfl) rfl ?_
      intro v44 w H
      refine WR.step (Ex.assign rfl) (Wn.none rfl) rfl rfl ?_
      refine WR.nil ?_
      refine WQ.inBlock ?_
      refine WQ.then ?_
      refine WC.region ?_
      refine WR.step (Ex.move rfl) (Wn.none rfl) rfl rfl ?_
      refine WR.step (Ex.move rfl) (Wn.none rfl) rfl rfl ?_
      refine WR.stepE (v' := encN (q + (rune (l.drop q)).2)) (Ex.add64 rfl rfl (by omega)) rfl (Wn.none rfl) rfl rfl ?_
      refine WR.step (Ex.assign rfl) (Wn.none rfl) rfl rfl ?_
      refine WR.nil ?_
      refine WQ.inBlock ?_
      refine WQ.again3 (q + (rune (l.drop q)).2) (v44) (o ++ [ub (hiS (rune (l.drop q)).1 / 256), ub (hiS (rune (l.drop q)).1 % 256), ub (loS (rune (l.drop q)).1 / 256), ub (loS (rune (l.drop q)).1 % 256)]) ⟨rfl, rfl, rfl, rfl, trivial⟩ ?_ ?_
      · have hstep : encK 3 (rune (l.drop q)).1 = some [ub (hiS (rune (l.drop q)).1 / 256), ub (hiS (rune (l.drop q)).1 % 256), ub (loS (rune (l.drop q)).1 / 256), ub (loS (rune (l.drop q)).1 % 256)] := by rw [encK3, encW, if_neg (by omega)]
        have hbl := encK_len hstep
        refine ⟨by rw [List.length_append]; omega, ?_, ?_, M, H⟩
        · rw [← List.drop_drop]; exact hvn
        · rw [hgo, hch, encGo_step o hstep]
          simp only [List.length_take, List.length_drop]
          rw [Nat.min_eq_left (by omega)]
      · omega
  ·
    have hres : encGo (encK 3) (chars l) 0 = .ok o := by rw [hgo, List.drop_eq_nil_of_le (by omega), chars_nil]; simp [encGo, pre]
    refine WR.nil ?_
    refine WQ.then ?_
    refine WC.condF rfl ?_
    refine WC.exit ?_
    refine WQ.thenExit ?_
    refine WQ.thenExit ?_
    refine WQ.exitHere ?_
    refine WQ.then ?_
    refine WC.seq ?_
    refine WC.region ?_
    refine WR.step (Ex.move rfl) (Wn.none rfl) rfl rfl ?_
    refine WR.step (Ex.assign rfl) (Wn.none rfl) rfl rfl ?_
    refine WR.step (Ex.assign rfl) (Wn.none rfl) rfl rfl ?_
    refine WR.nil ?_
    refine WQ.then ?_
    refine WC.ret ?_
    (repeat (first | refine WQ.thenRet ?_ | refine WQ.inBlockRet ?_))
    obtain ⟨M, hle, hf, H⟩ := H.freezeRow (v := ov) (enc := encB) (t := 5) (by repeat (first | exact Rem.head | apply Rem.tail))
    refine WQ.ret2 rfl rfl rfl H.ext ?_
    refine ?_
    rw [hres]
    exact ⟨_, rfl, hf⟩

abbrev encPost (k : Nat) (l : List UInt8) (r : Value) (M : Mem) : Prop := match encGo (encK k) (chars l) 0 with | .ok b => ∃ v, r = .tuple #[v, I (-1)] ∧ Bs M v b | .error e => r = .tuple #[.slice none 0 0, encN e]
theorem encoded_ok {l b : List UInt8} {k : Nat} (hk : k < 4) (hs : l.length ≤ 1048576) (hv : vld l = true) (h : encGo (encK k) (chars l) 0 = .ok b) : Ct Tryd.prog 27 [I (k : Int), S l] (fun _ => True) (fun r M => ∃ v, r = .tuple #[v, I (-1)] ∧ Bs M v b) := by
  have key : Ct Tryd.prog 27 [I (k : Int), S l] (fun _ => True) (fun r M => encPost k l r M) := by
    rcases k with _ | _ | _ | _ | k
    · exact encoded_0 l hs hv
    · exact encoded_1 l hs hv
    · exact encoded_2 l hs hv
    · exact encoded_3 l hs hv
    · omega
  exact Ct.mono key fun r M hr => by unfold encPost at hr; rw [h] at hr; exact hr
theorem encoded_err {l : List UInt8} {k e : Nat} (hk : k < 4) (hs : l.length ≤ 1048576) (hv : vld l = true) (h : encGo (encK k) (chars l) 0 = .error e) : Ct Tryd.prog 27 [I (k : Int), S l] (fun _ => True) (fun r M => r = .tuple #[.slice none 0 0, encN e]) := by
  have key : Ct Tryd.prog 27 [I (k : Int), S l] (fun _ => True) (fun r M => encPost k l r M) := by
    rcases k with _ | _ | _ | _ | k
    · exact encoded_0 l hs hv
    · exact encoded_1 l hs hv
    · exact encoded_2 l hs hv
    · exact encoded_3 l hs hv
    · omega
  exact Ct.mono key fun r M hr => by unfold encPost at hr; rw [h] at hr; exact hr
abbrev encPostP (k : Nat) (l : List UInt8) (r : Value) (M : Mem) : Prop := match encGo (encK k) (chars l) 0 with | .ok b => ∃ v, r = .tuple #[v, fault 0 0] ∧ Bs M v b | .error e => r = .tuple #[.slice none 0 0, fault 17 (e : Int)]
theorem encode_k (name l : List UInt8) (hn : name.length ≤ maxLen) (hs : l.length ≤ 12000) (k : Nat) (hk : setOf name = some k) (hv : vld l = true) : Ct Tryd.prog 25 [S name, S l] (fun M => Tabs M) (fun r M => encPostP k l r M) := by
  have h4 := setOf_lt hk
  rcases k with _ | _ | _ | _ | k
  · exact encode_0 name l hn hs hk hv
  · exact encode_1 name l hn hs hk hv
  · exact encode_2 name l hn hs hk hv
  · exact encode_3 name l hn hs hk hv
  · omega
theorem encode_ok {name l b : List UInt8} (hn : name.length ≤ maxLen) (hs : l.length ≤ 12000) {k : Nat} (hk : setOf name = some k) (hv : vld l = true) (h : encGo (encK k) (chars l) 0 = .ok b) : Ct Tryd.prog 25 [S name, S l] (fun M => Tabs M) (fun r M => ∃ v, r = .tuple #[v, fault 0 0] ∧ Bs M v b) :=
  Ct.mono (encode_k name l hn hs k hk hv) fun r M hr => by unfold encPostP at hr; rw [h] at hr; exact hr
theorem encode_err {name l : List UInt8} {e : Nat} (hn : name.length ≤ maxLen) (hs : l.length ≤ 12000) {k : Nat} (hk : setOf name = some k) (hv : vld l = true) (h : encGo (encK k) (chars l) 0 = .error e) : Ct Tryd.prog 25 [S name, S l] (fun M => Tabs M) (fun r M => r = .tuple #[.slice none 0 0, fault 17 (e : Int)]) :=
  Ct.mono (encode_k name l hn hs k hk hv) fun r M hr => by unfold encPostP at hr; rw [h] at hr; exact hr
theorem encode_mal (name l : List UInt8) (hn : name.length ≤ maxLen) (hs : l.length ≤ 12000) (k : Nat) (hk : setOf name = some k) (hv : vld l = false) : Ct Tryd.prog 25 [S name, S l] (fun M => Tabs M) (fun r _ => r = .tuple #[.slice none 0 0, fault 5 (-3)]) := by
  have h4 := setOf_lt hk
  rcases k with _ | _ | _ | _ | k
  · exact encode_mal0 name l hn hs hk hv
  · exact encode_mal1 name l hn hs hk hv
  · exact encode_mal2 name l hn hs hk hv
  · exact encode_mal3 name l hn hs hk hv
  · omega
theorem encGo_len {f : Int → Option (List UInt8)} (hf : ∀ c b, f c = some b → b.length ≤ 4) : ∀ (cs : List Ch) (q : Nat) (b : List UInt8), encGo f cs q = .ok b → b.length ≤ 4 * cs.length := by
  intro cs q b h
  obtain ⟨bs, h1, rfl⟩ := encGo_ok cs q b h
  have key : ∀ (cs : List Ch) (bs : List (List UInt8)), cs.map (fun c => f c.1) = bs.map some → bs.flatten.length ≤ 4 * cs.length := by
    intro cs
    induction cs with
    | nil => intro bs h; cases bs with
      | nil => simp
      | cons _ _ => cases h
    | cons c cs ih =>
      intro bs h
      cases bs with
      | nil => cases h
      | cons x bs =>
        rw [List.map_cons, List.map_cons] at h
        obtain ⟨e1, e2⟩ := List.cons.inj h
        have h1 := hf _ _ e1
        have h2 := ih bs e2
        rw [List.flatten_cons, List.length_append, List.length_cons]; omega
  exact key cs bs h1
theorem setI_some {name : List UInt8} {k : Nat} (h : setOf name = some k) : setI name = (k : Int) := by unfold setI; rw [h]
theorem setI_none {name : List UInt8} (h : setOf name = none) : setI name = -1 := by unfold setI; rw [h]

end Go.Proofs.YtnjglbmaonbcbaaDoor
