/-
  quoted.Encode: walks over the program's own operations, written by a program of this repository (wip/tools/gen.py) out of a plan.
-/
import Derived.Test.YtolmifddbjdepaaDoorQsm
import Derived.KernelRfl
set_option linter.unusedVariables false
set_option linter.unusedSimpArgs false
namespace Go.Proofs.YtolmifddbjdepaaDoor
open Go Go.RowKit Go.Ph

open Go.Ph.Qp Go.Ph.Chs
theorem qenc_big (v : Value) (l : List UInt8) (hs : 12000 < l.length) : Ct Tryd.prog 13 [v] (fun M => Bs M v l) (fun r _ => r = .tuple #[.slice none 0 0, fault 1 (-1)]) := by
  refine Ct.of Tryd.func13 (enters Tryd.func13 (by kernel_rfl) rfl) rfl rfl rfl ?_
  intro w0 M0 H hp
  refine WC.seq ?_
  refine WC.region ?_
  refine WR.step (Ex.assign rfl) (Wn.none rfl) rfl rfl ?_
  refine WR.alloc [_, _] H Tryd.zeroValue25 rfl (Wn.none rfl) rfl ?_
  intro b3 w H
  refine WR.nil ?_
  refine WQ.then ?_
  refine WC.seq ?_
  refine WC.seq ?_
  refine WC.region ?_
  refine WR.step (Ex.move rfl) (Wn.none rfl) rfl rfl ?_
  first | refine WR.step (Ex.lenSl Tryd.underlying22 (by assumption) rfl) (Wn.none rfl) rfl rfl ?_ | refine WR.step (Ex.lenRow Tryd.underlying22 H (by repeat (first | exact List.Mem.head _ | apply List.Mem.tail)) rfl) (Wn.none rfl) rfl rfl ?_ | refine WR.step (Ex.lenSlice Tryd.underlying22 rfl) (Wn.none rfl) rfl rfl ?_
  refine WR.stepT (Ex.gtr rfl rfl) (by omega) (Wn.none rfl) rfl rfl ?_
  refine WR.nil ?_
  refine WQ.then ?_
  refine WC.condT rfl ?_
  refine WC.seq ?_
  refine WC.region ?_
  refine WR.call H (fault_spec _ _) rfl (trivial) (Wn.none rfl) rfl ?_
  intro v13 M w H hle hr13
  replace hp := hp.mono hle
  obtain rfl := hr13
  refine WR.step (Ex.assign rfl) (Wn.none rfl) rfl rfl ?_
  refine WR.store [_, _] H rfl rfl rfl (by repeat (first | exact Upd.head | apply Upd.tail)) Tryd.sizeOf25 rfl (by rfl) (by rfl) (Wn.none rfl) ?_
  intro w H
  refine WR.nil ?_
  refine WQ.then ?_
  refine WC.ret ?_
  (repeat (first | refine WQ.thenRet ?_ | refine WQ.inBlockRet ?_))
  refine WQ.ret2 rfl rfl ⟨_, rfl, H.loadAgg (by repeat (first | exact List.Mem.head _ | apply List.Mem.tail)) Tryd.isAgg25 Tryd.sizeOf25 (by rfl)⟩ H.ext ?_
  exact rfl

theorem qenc_spec (v : Value) (l : List UInt8) (hs : l.length ≤ 12000) : Ct Tryd.prog 13 [v] (fun M => Bs M v l) (fun r M => ∃ x, r = .tuple #[x, fault 0 0] ∧ Bs M x (enc 0 l)) := by
  refine Ct.of Tryd.func13 (enters Tryd.func13 (by kernel_rfl) rfl) rfl rfl rfl ?_
  intro w0 M0 H hp
  refine WC.seq ?_
  refine WC.region ?_
  refine WR.step (Ex.assign rfl) (Wn.none rfl) rfl rfl ?_
  refine WR.alloc [_, _] H Tryd.zeroValue25 rfl (Wn.none rfl) rfl ?_
  intro b3 w H
  refine WR.nil ?_
  refine WQ.then ?_
  refine WC.seq ?_
  refine WC.seq ?_
  refine WC.region ?_
  refine WR.step (Ex.move rfl) (Wn.none rfl) rfl rfl ?_
  first | refine WR.step (Ex.lenSl Tryd.underlying22 (by assumption) rfl) (Wn.none rfl) rfl rfl ?_ | refine WR.step (Ex.lenRow Tryd.underlying22 H (by repeat (first | exact List.Mem.head _ | apply List.Mem.tail)) rfl) (Wn.none rfl) rfl rfl ?_ | refine WR.step (Ex.lenSlice Tryd.underlying22 rfl) (Wn.none rfl) rfl rfl ?_
  refine WR.stepF (Ex.gtr rfl rfl) (by omega) (Wn.none rfl) rfl rfl ?_
  refine WR.nil ?_
  refine WQ.then ?_
  refine WC.condF rfl ?_
  refine WC.skip ?_
  refine WQ.then ?_
  refine WC.seq ?_
  refine WC.region ?_
  refine WR.step (Ex.assign rfl) (Wn.none rfl) rfl rfl ?_
  refine WR.nil ?_
  refine WQ.then ?_
  refine WC.seq ?_
  refine WC.region ?_
  refine WR.step (Ex.assign rfl) (Wn.none rfl) rfl rfl ?_
  refine WR.nil ?_
  refine WQ.then ?_
  refine WC.seq ?_
  refine WC.seq ?_
  refine WC.region ?_
  refine WR.step (Ex.assign rfl) (Wn.none rfl) rfl rfl ?_
  refine WR.nil ?_
  refine WQ.then ?_
  refine WC.block ?_
  replace H := H.newRow 5 encB
  refine WC.loop4 (fun (i : Nat) (col : Nat) (ov : Value) (o : List UInt8) => [(0, v), (3, ptr b3 0), (4, ov), (5, encN col), (6, encN i)]) (fun (i : Nat) (col : Nat) (ov : Value) (o : List UInt8) w => i ≤ l.length ∧ col ≤ 76 ∧ o.length ≤ 6 * i ∧ enc 0 l = o ++ enc col (l.drop i) ∧ ∃ M, St w0 M0 M [RowI 5 encB ov o, .blk b3 (.cells #[I 0, I 0] 25)] w ∧ Bs M v l) (fun (i : Nat) (col : Nat) (ov : Value) (o : List UInt8) => l.length - i) (0) (0) (_) (_) ⟨rfl, rfl, rfl, rfl, rfl, trivial⟩ (⟨by omega, by omega, by simp, rfl, M0, H, hp⟩) ?_
  intro i col ov o w
  rintro ⟨hi, hcol, hol, henc, M, H, hp⟩
  refine WC.seq ?_
  refine WC.seq ?_
  refine WC.region ?_
  refine WR.step (Ex.move rfl) (Wn.none rfl) rfl rfl ?_
  refine WR.step (Ex.move rfl) (Wn.none rfl) rfl rfl ?_
  first | refine WR.step (Ex.lenSl Tryd.underlying22 (by assumption) rfl) (Wn.none rfl) rfl rfl ?_ | refine WR.step (Ex.lenRow Tryd.underlying22 H (by repeat (first | exact List.Mem.head _ | apply List.Mem.tail)) rfl) (Wn.none rfl) rfl rfl ?_ | refine WR.step (Ex.lenSlice Tryd.underlying22 rfl) (Wn.none rfl) rfl rfl ?_
  refine WR.split (Ex.lss rfl rfl) (Wn.none rfl) rfl rfl (fun h6_3 => ?_) (fun h6_3 => ?_)
  ·
    obtain ⟨c, hc⟩ : ∃ c, l[i]? = some c := ⟨_, List.getElem?_eq_getElem (by omega)⟩
    have hd : l.drop i = c :: l.drop (i + 1) := by
      obtain ⟨e1, e2⟩ := List.getElem?_eq_some_iff.1 hc
      rw [List.drop_eq_getElem_cons e1, e2]
    have hsl := sg_len c (l.drop (i + 1))
    refine WR.nil ?_
    refine WQ.then ?_
    refine WC.condT rfl ?_
    refine WC.skip ?_
    refine WQ.then ?_
    refine WC.seq ?_
    refine WC.block ?_
    refine WC.seq ?_
    refine WC.seq ?_
    refine WC.region ?_
    refine WR.step (Ex.move rfl) (Wn.none rfl) rfl rfl ?_
    refine WR.step (Ex.move rfl) (Wn.none rfl) rfl rfl ?_
    refine WR.sliceSl (i := i) (j := l.length) Tryd.underlying22 Tryd.sizeOf5 (by assumption) rfl (.inl ⟨_, rfl, rfl⟩) (.inr ⟨rfl, rfl⟩) (by omega) (by omega) (Wn.none rfl) rfl ?_
    intro v22 hs22
    rw [List.take_length] at hs22
    refine WR.callB H (line_spec _ _) rfl (by assumption) (Wn.none rfl) rfl (fun h8_3 => ?_) (fun h8_3 => ?_)
    ·
      intro M w H hle
      replace hp := hp.mono hle
      replace hs22 := hs22.mono hle
      obtain ⟨r, hr⟩ := lineAt_iff.1 h8_3
      have hr2 : l.drop (i + 1 + 1) = r := by
        have := congrArg (List.drop 2) hr
        rw [List.drop_drop] at this
        simpa using this
      have hrl := congrArg List.length hr
      rw [List.length_drop] at hrl
      simp at hrl
      refine WR.nil ?_
      refine WQ.then ?_
      refine WC.condT rfl ?_
      refine WC.seq ?_
      refine WC.region ?_
      refine WR.step (Ex.move rfl) (Wn.none rfl) rfl rfl ?_
      refine WR.lit (enc := encB) ty22 [13, 10] H rfl (by rfl) (fun _ => rfl) rfl rfl (Wn.none rfl) rfl ?_
      intro v25 M w H hle hl25
      replace hp := hp.mono hle
      replace hs22 := hs22.mono hle
      refine WR.appendSl ty22 (fun _ => rfl) H rfl (fun _ => by repeat (first | exact Upd.head | apply Upd.tail)) rfl (by assumption) (by first | omega | (simp only [List.length_append, List.length_cons, List.length_nil, List.length_take, List.length_drop]; omega)) (by first | (simp only [maxLen]; omega) | (simp only [maxLen, List.length_append, List.length_cons, List.length_nil, List.length_take, List.length_drop]; omega)) (Wn.none rfl) rfl ?_
      intro v26 w H
      refine WR.step (Ex.assign rfl) (Wn.none rfl) rfl rfl ?_
      refine WR.nil ?_
      refine WQ.then ?_
      refine WC.seq ?_
      refine WC.region ?_
      refine WR.step (Ex.assign rfl) (Wn.none rfl) rfl rfl ?_
      refine WR.nil ?_
      refine WQ.then ?_
      refine WC.seq ?_
      refine WC.region ?_
      refine WR.step (Ex.move rfl) (Wn.none rfl) rfl rfl ?_
      refine WR.stepE (v' := encN (i + 1)) (Ex.add64 rfl rfl (by omega)) rfl (Wn.none rfl) rfl rfl ?_
      refine WR.step (Ex.assign rfl) (Wn.none rfl) rfl rfl ?_
      refine WR.nil ?_
      refine WQ.then ?_
      refine WC.exit ?_
      refine WQ.thenExit ?_
      refine WQ.exitHere ?_
      refine WQ.then ?_
      refine WC.region ?_
      refine WR.step (Ex.move rfl) (Wn.none rfl) rfl rfl ?_
      refine WR.stepE (v' := encN (i + 1 + 1)) (Ex.add64 rfl rfl (by omega)) rfl (Wn.none rfl) rfl rfl ?_
      refine WR.step (Ex.assign rfl) (Wn.none rfl) rfl rfl ?_
      refine WR.nil ?_
      refine WQ.again4 (i + 1 + 1) (0) (v26) (o ++ [13, 10]) ⟨rfl, rfl, rfl, rfl, rfl, trivial⟩ ?_ ?_
      · exact ⟨by omega, by omega, by simp; omega, by rw [henc, hr, enc_line, hr2]; simp, M, H, hp⟩
      · omega
    ·
      intro M w H hle
      replace hp := hp.mono hle
      replace hs22 := hs22.mono hle
      have hnl : ¬ lineAt (c :: l.drop (i + 1)) := by rw [← hd]; exact h8_3
      refine WR.nil ?_
      refine WQ.then ?_
      refine WC.condF rfl ?_
      refine WC.skip ?_
      refine WQ.then ?_
      refine WC.seq ?_
      refine WC.region ?_
      refine WR.step (Ex.move rfl) (Wn.none rfl) rfl rfl ?_
      refine WR.step (Ex.move rfl) (Wn.none rfl) rfl rfl ?_
      refine WR.stepE (v' := encN (i + 1)) (Ex.add64 rfl rfl (by omega)) rfl (Wn.none rfl) rfl rfl ?_
      refine WR.sliceSl (i := i + 1) (j := l.length) Tryd.underlying22 Tryd.sizeOf5 (by assumption) rfl (.inl ⟨_, rfl, rfl⟩) (.inr ⟨rfl, rfl⟩) (by omega) (by omega) (Wn.none rfl) rfl ?_
      intro v32 hs32
      rw [List.take_length] at hs32
      refine WR.step (Ex.assign rfl) (Wn.none rfl) rfl rfl ?_
      refine WR.nil ?_
      refine WQ.then ?_
      refine WC.seq ?_
      refine WC.region ?_
      refine WR.step (Ex.move rfl) (Wn.none rfl) rfl rfl ?_
      refine WR.step (Ex.move rfl) (Wn.none rfl) rfl rfl ?_
      refine WR.idxSl Tryd.underlying22 Tryd.sizeOf5 (by assumption) rfl rfl (hc) (Wn.none rfl) rfl ?_
      intro p35 hc35
      first | refine WR.step (Ex.loadM H rfl (by assumption) Tryd.isAgg5) (Wn.none rfl) rfl rfl ?_ | refine WR.step (Ex.load1 H rfl (by repeat (first | exact List.Mem.head _ | apply List.Mem.tail)) Tryd.isAgg5 (by rfl)) (Wn.none rfl) rfl rfl ?_
      refine WR.step (Ex.move rfl) (Wn.none rfl) rfl rfl ?_
      refine WR.call H (sign_spec c _ (l.drop (i + 1))) rfl (by assumption) (Wn.none rfl) rfl ?_
      intro v38 M w H hle hr38
      replace hp := hp.mono hle
      replace hs22 := hs22.mono hle
      replace hs32 := hs32.mono hle
      replace hc35 := hc35.mono hle
      have hf38 := hr38
      refine WR.step (Ex.assign rfl) (Wn.none rfl) rfl rfl ?_
      refine WR.nil ?_
      refine WQ.then ?_
      refine WC.seq ?_
      refine WC.region ?_
      refine WR.step (Ex.assign rfl) (Wn.none rfl) rfl rfl ?_
      refine WR.nil ?_
      refine WQ.then ?_
      refine WC.seq ?_
      refine WC.seq ?_
      refine WC.region ?_
      refine WR.step (Ex.move rfl) (Wn.none rfl) rfl rfl ?_
      first | refine WR.step (Ex.lenSl Tryd.underlying22 (by assumption) rfl) (Wn.none rfl) rfl rfl ?_ | refine WR.step (Ex.lenRow Tryd.underlying22 H (by repeat (first | exact List.Mem.head _ | apply List.Mem.tail)) rfl) (Wn.none rfl) rfl rfl ?_ | refine WR.step (Ex.lenSlice Tryd.underlying22 rfl) (Wn.none rfl) rfl rfl ?_
      refine WR.split (Ex.gtr rfl rfl) (Wn.none rfl) rfl rfl (fun h15_2 => ?_) (fun h15_2 => ?_)
      ·
        refine WR.step (Ex.move rfl) (Wn.none rfl) rfl rfl ?_
        refine WR.step (Ex.move rfl) (Wn.some rfl rfl rfl) rfl rfl ?_
        refine WR.callB H (line_spec _ _) rfl (by assumption) (Wn.some rfl rfl rfl) rfl (fun h15_5 => ?_) (fun h15_5 => ?_)
        ·
          intro M w H hle
          replace hp := hp.mono hle
          replace hs22 := hs22.mono hle
          replace hs32 := hs32.mono hle
          replace hc35 := hc35.mono hle
          replace hf38 := hf38.mono hle
          have hmost : most (l.drop (i + 1)) = 76 := by unfold most; rw [if_neg (fun h => h.2 h15_5)]
          refine WR.step (Ex.notT rfl) (Wn.some rfl rfl rfl) rfl rfl ?_
          refine WR.step (Ex.pickT rfl rfl) (Wn.none rfl) rfl rfl ?_
          refine WR.nil ?_
          refine WQ.then ?_
          refine WC.condF rfl ?_
          refine WC.skip ?_
          refine WQ.then ?_
          refine WC.seq ?_
          refine WC.seq ?_
          refine WC.region ?_
          refine WR.step (Ex.move rfl) (Wn.none rfl) rfl rfl ?_
          refine WR.step (Ex.move rfl) (Wn.none rfl) rfl rfl ?_
          first | refine WR.step (Ex.lenSl Tryd.underlying22 (by assumption) rfl) (Wn.none rfl) rfl rfl ?_ | refine WR.step (Ex.lenRow Tryd.underlying22 H (by repeat (first | exact List.Mem.head _ | apply List.Mem.tail)) rfl) (Wn.none rfl) rfl rfl ?_ | refine WR.step (Ex.lenSlice Tryd.underlying22 rfl) (Wn.none rfl) rfl rfl ?_
          refine WR.step (Ex.add64 rfl rfl (by omega)) (Wn.none rfl) rfl rfl ?_
          refine WR.step (Ex.move rfl) (Wn.none rfl) rfl rfl ?_
          refine WR.split (Ex.gtr rfl rfl) (Wn.none rfl) rfl rfl (fun h17_5 => ?_) (fun h17_5 => ?_)
          ·
            refine WR.nil ?_
            refine WQ.then ?_
            refine WC.condT rfl ?_
            refine WC.seq ?_
            refine WC.region ?_
            refine WR.step (Ex.move rfl) (Wn.none rfl) rfl rfl ?_
            refine WR.lit (enc := encB) ty22 [61, 13, 10] H rfl (by rfl) (fun _ => rfl) rfl rfl (Wn.none rfl) rfl ?_
            intro v56 M w H hle hl56
            replace hp := hp.mono hle
            replace hs22 := hs22.mono hle
            replace hs32 := hs32.mono hle
            replace hc35 := hc35.mono hle
            replace hf38 := hf38.mono hle
            refine WR.appendSl ty22 (fun _ => rfl) H rfl (fun _ => by repeat (first | exact Upd.head | apply Upd.tail)) rfl (by assumption) (by first | omega | (simp only [List.length_append, List.length_cons, List.length_nil, List.length_take, List.length_drop]; omega)) (by first | (simp only [maxLen]; omega) | (simp only [maxLen, List.length_append, List.length_cons, List.length_nil, List.length_take, List.length_drop]; omega)) (Wn.none rfl) rfl ?_
            intro v57 w H
            refine WR.step (Ex.assign rfl) (Wn.none rfl) rfl rfl ?_
            refine WR.nil ?_
            refine WQ.then ?_
            refine WC.region ?_
            refine WR.step (Ex.assign rfl) (Wn.none rfl) rfl rfl ?_
            refine WR.nil ?_
            refine WQ.then ?_
            refine WC.seq ?_
            refine WC.region ?_
            refine WR.step (Ex.move rfl) (Wn.none rfl) rfl rfl ?_
            refine WR.step (Ex.move rfl) (Wn.none rfl) rfl rfl ?_
            refine WR.appendSl ty22 (fun _ => rfl) H rfl (fun _ => by repeat (first | exact Upd.head | apply Upd.tail)) rfl (by assumption) (by first | omega | (simp only [List.length_append, List.length_cons, List.length_nil, List.length_take, List.length_drop]; omega)) (by first | (simp only [maxLen]; omega) | (simp only [maxLen, List.length_append, List.length_cons, List.length_nil, List.length_take, List.length_drop]; omega)) (Wn.none rfl) rfl ?_
            intro v60 w H
            refine WR.step (Ex.assign rfl) (Wn.none rfl) rfl rfl ?_
            refine WR.nil ?_
            refine WQ.then ?_
            refine WC.region ?_
            refine WR.step (Ex.move rfl) (Wn.none rfl) rfl rfl ?_
            refine WR.step (Ex.move rfl) (Wn.none rfl) rfl rfl ?_
            first | refine WR.step (Ex.lenSl Tryd.underlying22 (by assumption) rfl) (Wn.none rfl) rfl rfl ?_ | refine WR.step (Ex.lenRow Tryd.underlying22 H (by repeat (first | exact List.Mem.head _ | apply List.Mem.tail)) rfl) (Wn.none rfl) rfl rfl ?_ | refine WR.step (Ex.lenSlice Tryd.underlying22 rfl) (Wn.none rfl) rfl rfl ?_
            refine WR.stepE (v' := encN (sg c (l.drop (i + 1))).length) (Ex.add64 rfl rfl (by omega)) (congrArg I (by omega)) (Wn.none rfl) rfl rfl ?_
            refine WR.step (Ex.assign rfl) (Wn.none rfl) rfl rfl ?_
            refine WR.nil ?_
            refine WQ.inBlock ?_
            refine WQ.then ?_
            refine WC.region ?_
            refine WR.step (Ex.move rfl) (Wn.none rfl) rfl rfl ?_
            refine WR.stepE (v' := encN (i + 1)) (Ex.add64 rfl rfl (by omega)) rfl (Wn.none rfl) rfl rfl ?_
            refine WR.step (Ex.assign rfl) (Wn.none rfl) rfl rfl ?_
            refine WR.nil ?_
            refine WQ.again4 (i + 1) ((sg c (l.drop (i + 1))).length) (v60) (o ++ [61, 13, 10] ++ (sg c (l.drop (i + 1)))) ⟨rfl, rfl, rfl, rfl, rfl, trivial⟩ ?_ ?_
            · exact ⟨by omega, by omega, by simp; omega, by rw [henc, hd, enc_cons hnl, hmost, if_pos (by omega)]; simp, M, H, hp⟩
            · omega
          ·
            refine WR.nil ?_
            refine WQ.then ?_
            refine WC.condF rfl ?_
            refine WC.skip ?_
            refine WQ.then ?_
            refine WC.seq ?_
            refine WC.region ?_
            refine WR.step (Ex.move rfl) (Wn.none rfl) rfl rfl ?_
            refine WR.step (Ex.move rfl) (Wn.none rfl) rfl rfl ?_
            refine WR.appendSl ty22 (fun _ => rfl) H rfl (fun _ => by repeat (first | exact Upd.head | apply Upd.tail)) rfl (by assumption) (by first | omega | (simp only [List.length_append, List.length_cons, List.length_nil, List.length_take, List.length_drop]; omega)) (by first | (simp only [maxLen]; omega) | (simp only [maxLen, List.length_append, List.length_cons, List.length_nil, List.length_take, List.length_drop]; omega)) (Wn.none rfl) rfl ?_
            intro v60 w H
            refine WR.step (Ex.assign rfl) (Wn.none rfl) rfl rfl ?_
            refine WR.nil ?_
            refine WQ.then ?_
            refine WC.region ?_
            refine WR.step (Ex.move rfl) (Wn.none rfl) rfl rfl ?_
            refine WR.step (Ex.move rfl) (Wn.none rfl) rfl rfl ?_
            first | refine WR.step (Ex.lenSl Tryd.underlying22 (by assumption) rfl) (Wn.none rfl) rfl rfl ?_ | refine WR.step (Ex.lenRow Tryd.underlying22 H (by repeat (first | exact List.Mem.head _ | apply List.Mem.tail)) rfl) (Wn.none rfl) rfl rfl ?_ | refine WR.step (Ex.lenSlice Tryd.underlying22 rfl) (Wn.none rfl) rfl rfl ?_
            refine WR.stepE (v' := encN (col + (sg c (l.drop (i + 1))).length)) (Ex.add64 rfl rfl (by omega)) (congrArg I (by omega)) (Wn.none rfl) rfl rfl ?_
            refine WR.step (Ex.assign rfl) (Wn.none rfl) rfl rfl ?_
            refine WR.nil ?_
            refine WQ.inBlock ?_
            refine WQ.then ?_
            refine WC.region ?_
            refine WR.step (Ex.move rfl) (Wn.none rfl) rfl rfl ?_
            refine WR.stepE (v' := encN (i + 1)) (Ex.add64 rfl rfl (by omega)) rfl (Wn.none rfl) rfl rfl ?_
            refine WR.step (Ex.assign rfl) (Wn.none rfl) rfl rfl ?_
            refine WR.nil ?_
            refine WQ.again4 (i + 1) (col + (sg c (l.drop (i + 1))).length) (v60) (o ++ (sg c (l.drop (i + 1)))) ⟨rfl, rfl, rfl, rfl, rfl, trivial⟩ ?_ ?_
            · exact ⟨by omega, by omega, by simp; omega, by rw [henc, hd, enc_cons hnl, hmost, if_neg (by omega)]; simp, M, H, hp⟩
            · omega
        ·
          intro M w H hle
          replace hp := hp.mono hle
          replace hs22 := hs22.mono hle
          replace hs32 := hs32.mono hle
          replace hc35 := hc35.mono hle
          replace hf38 := hf38.mono hle
          have hmost : most (l.drop (i + 1)) = 75 := by
            unfold most
            rw [if_pos ⟨fun h => by rw [h] at h15_2; simp at h15_2, h15_5⟩]
          refine WR.step (Ex.notF rfl) (Wn.some rfl rfl rfl) rfl rfl ?_
          refine WR.step (Ex.pickT rfl rfl) (Wn.none rfl) rfl rfl ?_
          refine WR.nil ?_
          refine WQ.then ?_
          refine WC.condT rfl ?_
          refine WC.region ?_
          refine WR.step (Ex.move rfl) (Wn.none rfl) rfl rfl ?_
          refine WR.step (Ex.sub64 rfl rfl (by omega)) (Wn.none rfl) rfl rfl ?_
          refine WR.step (Ex.assign rfl) (Wn.none rfl) rfl rfl ?_
          refine WR.nil ?_
          refine WQ.then ?_
          refine WC.seq ?_
          refine WC.seq ?_
          refine WC.region ?_
          refine WR.step (Ex.move rfl) (Wn.none rfl) rfl rfl ?_
          refine WR.step (Ex.move rfl) (Wn.none rfl) rfl rfl ?_
          first | refine WR.step (Ex.lenSl Tryd.underlying22 (by assumption) rfl) (Wn.none rfl) rfl rfl ?_ | refine WR.step (Ex.lenRow Tryd.underlying22 H (by repeat (first | exact List.Mem.head _ | apply List.Mem.tail)) rfl) (Wn.none rfl) rfl rfl ?_ | refine WR.step (Ex.lenSlice Tryd.underlying22 rfl) (Wn.none rfl) rfl rfl ?_
          refine WR.step (Ex.add64 rfl rfl (by omega)) (Wn.none rfl) rfl rfl ?_
          refine WR.step (Ex.move rfl) (Wn.none rfl) rfl rfl ?_
          refine WR.split (Ex.gtr rfl rfl) (Wn.none rfl) rfl rfl (fun h17_5 => ?_) (fun h17_5 => ?_)
          ·
            refine WR.nil ?_
            refine WQ.then ?_
            refine WC.condT rfl ?_
            refine WC.seq ?_
            refine WC.region ?_
            refine WR.step (Ex.move rfl) (Wn.none rfl) rfl rfl ?_
            refine WR.lit (enc := encB) ty22 [61, 13, 10] H rfl (by rfl) (fun _ => rfl) rfl rfl (Wn.none rfl) rfl ?_
            intro v56 M w H hle hl56
            replace hp := hp.mono hle
            replace hs22 := hs22.mono hle
            replace hs32 := hs32.mono hle
            replace hc35 := hc35.mono hle
            replace hf38 := hf38.mono hle
            refine WR.appendSl ty22 (fun _ => rfl) H rfl (fun _ => by repeat (first | exact Upd.head | apply Upd.tail)) rfl (by assumption) (by first | omega | (simp only [List.length_append, List.length_cons, List.length_nil, List.length_take, List.length_drop]; omega)) (by first | (simp only [maxLen]; omega) | (simp only [maxLen, List.length_append, List.length_cons, List.length_nil, List.length_take, List.length_drop]; omega)) (Wn.none rfl) rfl ?_
            intro v57 w H
            refine WR.step (Ex.assign rfl) (Wn.none rfl) rfl rfl ?_
            refine WR.nil ?_
            refine WQ.then ?_
            refine WC.region ?_
            refine WR.step (Ex.assign rfl) (Wn.none rfl) rfl rfl ?_
            refine WR.nil ?_
            refine WQ.then ?_
            refine WC.seq ?_
            refine WC.region ?_
            refine WR.step (Ex.move rfl) (Wn.none rfl) rfl rfl ?_
            refine WR.step (Ex.move rfl) (Wn.none rfl) rfl rfl ?_
            refine WR.appendSl ty22 (fun _ => rfl) H rfl (fun _ => by repeat (first | exact Upd.head | apply Upd.tail)) rfl (by assumption) (by first | omega | (simp only [List.length_append, List.length_cons, List.length_nil, List.length_take, List.length_drop]; omega)) (by first | (simp only [maxLen]; omega) | (simp only [maxLen, List.length_append, List.length_cons, List.length_nil, List.length_take, List.length_drop]; omega)) (Wn.none rfl) rfl ?_
            intro v60 w H
            refine WR.step (Ex.assign rfl) (Wn.none rfl) rfl rfl ?_
            refine WR.nil ?_
            refine WQ.then ?_
            refine WC.region ?_
            refine WR.step (Ex.move rfl) (Wn.none rfl) rfl rfl ?_
            refine WR.step (Ex.move rfl) (Wn.none rfl) rfl rfl ?_
            first | refine WR.step (Ex.lenSl Tryd.underlying22 (by assumption) rfl) (Wn.none rfl) rfl rfl ?_ | refine WR.step (Ex.lenRow Tryd.underlying22 H (by repeat (first | exact List.Mem.head _ | apply List.Mem.tail)) rfl) (Wn.none rfl) rfl rfl ?_ | refine WR.step (Ex.lenSlice Tryd.underlying22 rfl) (Wn.none rfl) rfl rfl ?_
            refine WR.stepE (v' := encN (sg c (l.drop (i + 1))).length) (Ex.add64 rfl rfl (by omega)) (congrArg I (by omega)) (Wn.none rfl) rfl rfl ?_
            refine WR.step (Ex.assign rfl) (Wn.none rfl) rfl rfl ?_
            refine WR.nil ?_
            refine WQ.inBlock ?_
            refine WQ.then ?_
            refine WC.region ?_
            refine WR.step (Ex.move rfl) (Wn.none rfl) rfl rfl ?_
            refine WR.stepE (v' := encN (i + 1)) (Ex.add64 rfl rfl (by omega)) rfl (Wn.none rfl) rfl rfl ?_
            refine WR.step (Ex.assign rfl) (Wn.none rfl) rfl rfl ?_
            refine WR.nil ?_
            refine WQ.again4 (i + 1) ((sg c (l.drop (i + 1))).length) (v60) (o ++ [61, 13, 10] ++ (sg c (l.drop (i + 1)))) ⟨rfl, rfl, rfl, rfl, rfl, trivial⟩ ?_ ?_
            · exact ⟨by omega, by omega, by simp; omega, by rw [henc, hd, enc_cons hnl, hmost, if_pos (by omega)]; simp, M, H, hp⟩
            · omega
          ·
            refine WR.nil ?_
            refine WQ.then ?_
            refine WC.condF rfl ?_
            refine WC.skip ?_
            refine WQ.then ?_
            refine WC.seq ?_
            refine WC.region ?_
            refine WR.step (Ex.move rfl) (Wn.none rfl) rfl rfl ?_
            refine WR.step (Ex.move rfl) (Wn.none rfl) rfl rfl ?_
            refine WR.appendSl ty22 (fun _ => rfl) H rfl (fun _ => by repeat (first | exact Upd.head | apply Upd.tail)) rfl (by assumption) (by first | omega | (simp only [List.length_append, List.length_cons, List.length_nil, List.length_take, List.length_drop]; omega)) (by first | (simp only [maxLen]; omega) | (simp only [maxLen, List.length_append, List.length_cons, List.length_nil, List.length_take, List.length_drop]; omega)) (Wn.none rfl) rfl ?_
            intro v60 w H
            refine WR.step (Ex.assign rfl) (Wn.none rfl) rfl rfl ?_
            refine WR.nil ?_
            refine WQ.then ?_
            refine WC.region ?_
            refine WR.step (Ex.move rfl) (Wn.none rfl) rfl rfl ?_
            refine WR.step (Ex.move rfl) (Wn.none rfl) rfl rfl ?_
            first | refine WR.step (Ex.lenSl Tryd.underlying22 (by assumption) rfl) (Wn.none rfl) rfl rfl ?_ | refine WR.step (Ex.lenRow Tryd.underlying22 H (by repeat (first | exact List.Mem.head _ | apply List.Mem.tail)) rfl) (Wn.none rfl) rfl rfl ?_ | refine WR.step (Ex.lenSlice Tryd.underlying22 rfl) (Wn.none rfl) rfl rfl ?_
            refine WR.stepE (v' := encN (col + (sg c (l.drop (i + 1))).length)) (Ex.add64 rfl rfl (by omega)) (congrArg I (by omega)) (Wn.none rfl) rfl rfl ?_
            refine WR.step (Ex.assign rfl) (Wn.none rfl) rfl rfl ?_
            refine WR.nil ?_
            refine WQ.inBlock ?_
            refine WQ.then ?_
            refine WC.region ?_
            refine WR.step (Ex.move rfl) (Wn.none rfl) rfl rfl ?_
            refine WR.stepE (v' := encN (i + 1)) (Ex.add64 rfl rfl (by omega)) rfl (Wn.none rfl) rfl rfl ?_
            refine WR.step (Ex.assign rfl) (Wn.none rfl) rfl rfl ?_
            refine WR.nil ?_
            refine WQ.again4 (i + 1) (col + (sg c (l.drop (i + 1))).length) (v60) (o ++ (sg c (l.drop (i + 1)))) ⟨rfl, rfl, rfl, rfl, rfl, trivial⟩ ?_ ?_
            · exact ⟨by omega, by omega, by simp; omega, by rw [henc, hd, enc_cons hnl, hmost, if_neg (by omega)]; simp, M, H, hp⟩
            · omega
      ·
        have hmost : most (l.drop (i + 1)) = 76 := by
          unfold most
          rw [if_neg (fun h => h.1 (List.eq_nil_of_length_eq_zero (by omega)))]
        refine WR.step (Ex.move rfl) (Wn.none rfl) rfl rfl ?_
        refine WR.skipG (b := false) rfl rfl rfl rfl rfl ?_
        refine WR.skipG (b := false) rfl rfl rfl rfl rfl ?_
        refine WR.skipG (b := false) rfl rfl rfl rfl rfl ?_
        refine WR.step (Ex.pickF rfl rfl) (Wn.none rfl) rfl rfl ?_
        refine WR.nil ?_
        refine WQ.then ?_
        refine WC.condF rfl ?_
        refine WC.skip ?_
        refine WQ.then ?_
        refine WC.seq ?_
        refine WC.seq ?_
        refine WC.region ?_
        refine WR.step (Ex.move rfl) (Wn.none rfl) rfl rfl ?_
        refine WR.step (Ex.move rfl) (Wn.none rfl) rfl rfl ?_
        first | refine WR.step (Ex.lenSl Tryd.underlying22 (by assumption) rfl) (Wn.none rfl) rfl rfl ?_ | refine WR.step (Ex.lenRow Tryd.underlying22 H (by repeat (first | exact List.Mem.head _ | apply List.Mem.tail)) rfl) (Wn.none rfl) rfl rfl ?_ | refine WR.step (Ex.lenSlice Tryd.underlying22 rfl) (Wn.none rfl) rfl rfl ?_
        refine WR.step (Ex.add64 rfl rfl (by omega)) (Wn.none rfl) rfl rfl ?_
        refine WR.step (Ex.move rfl) (Wn.none rfl) rfl rfl ?_
        refine WR.split (Ex.gtr rfl rfl) (Wn.none rfl) rfl rfl (fun h17_5 => ?_) (fun h17_5 => ?_)
        ·
          refine WR.nil ?_
          refine WQ.then ?_
          refine WC.condT rfl ?_
          refine WC.seq ?_
          refine WC.region ?_
          refine WR.step (Ex.move rfl) (Wn.none rfl) rfl rfl ?_
          refine WR.lit (enc := encB) ty22 [61, 13, 10] H rfl (by rfl) (fun _ => rfl) rfl rfl (Wn.none rfl) rfl ?_
          intro v56 M w H hle hl56
          replace hp := hp.mono hle
          replace hs22 := hs22.mono hle
          replace hs32 := hs32.mono hle
          replace hc35 := hc35.mono hle
          replace hf38 := hf38.mono hle
          refine WR.appendSl ty22 (fun _ => rfl) H rfl (fun _ => by repeat (first | exact Upd.head | apply Upd.tail)) rfl (by assumption) (by first | omega | (simp only [List.length_append, List.length_cons, List.length_nil, List.length_take, List.length_drop]; omega)) (by first | (simp only [maxLen]; omega) | (simp only [maxLen, List.length_append, List.length_cons, List.length_nil, List.length_take, List.length_drop]; omega)) (Wn.none rfl) rfl ?_
          intro v57 w H
          refine WR.step (Ex.assign rfl) (Wn.none rfl) rfl rfl ?_
          refine WR.nil ?_
          refine WQ.then ?_
          refine WC.region ?_
          refine WR.step (Ex.assign rfl) (Wn.none rfl) rfl rfl ?_
          refine WR.nil ?_
          refine WQ.then ?_
          refine WC.seq ?_
          refine WC.region ?_
          refine WR.step (Ex.move rfl) (Wn.none rfl) rfl rfl ?_
          refine WR.step (Ex.move rfl) (Wn.none rfl) rfl rfl ?_
          refine WR.appendSl ty22 (fun _ => rfl) H rfl (fun _ => by repeat (first | exact Upd.head | apply Upd.tail)) rfl (by assumption) (by first | omega | (simp only [List.length_append, List.length_cons, List.length_nil, List.length_take, List.length_drop]; omega)) (by first | (simp only [maxLen]; omega) | (simp only [maxLen, List.length_append, List.length_cons, List.length_nil, List.length_take, List.length_drop]; omega)) (Wn.none rfl) rfl ?_
          intro v60 w H
          refine WR.step (Ex.assign rfl) (Wn.none rfl) rfl rfl ?_
          refine WR.nil ?_
          refine WQ.then ?_
          refine WC.region ?_
          refine WR.step (Ex.move rfl) (Wn.none rfl) rfl rfl ?_
          refine WR.step (Ex.move rfl) (Wn.none rfl) rfl rfl ?_
          first | refine WR.step (Ex.lenSl Tryd.underlying22 (by assumption) rfl) (Wn.none rfl) rfl rfl ?_ | refine WR.step (Ex.lenRow Tryd.underlying22 H (by repeat (first | exact List.Mem.head _ | apply List.Mem.tail)) rfl) (Wn.none rfl) rfl rfl ?_ | refine WR.step (Ex.lenSlice Tryd.underlying22 rfl) (Wn.none rfl) rfl rfl ?_
          refine WR.stepE (v' := encN (sg c (l.drop (i + 1))).length) (Ex.add64 rfl rfl (by omega)) (congrArg I (by omega)) (Wn.none rfl) rfl rfl ?_
          refine WR.step (Ex.assign rfl) (Wn.none rfl) rfl rfl ?_
          refine WR.nil ?_
          refine WQ.inBlock ?_
          refine WQ.then ?_
          refine WC.region ?_
          refine WR.step (Ex.move rfl) (Wn.none rfl) rfl rfl ?_
          refine WR.stepE (v' := encN (i + 1)) (Ex.add64 rfl rfl (by omega)) rfl (Wn.none rfl) rfl rfl ?_
          refine WR.step (Ex.assign rfl) (Wn.none rfl) rfl rfl ?_
          refine WR.nil ?_
          refine WQ.again4 (i + 1) ((sg c (l.drop (i + 1))).length) (v60) (o ++ [61, 13, 10] ++ (sg c (l.drop (i + 1)))) ⟨rfl, rfl, rfl, rfl, rfl, trivial⟩ ?_ ?_
          · exact ⟨by omega, by omega, by simp; omega, by rw [henc, hd, enc_cons hnl, hmost, if_pos (by omega)]; simp, M, H, hp⟩
          · omega
        ·
          refine WR.nil ?_
          refine WQ.then ?_
          refine WC.condF rfl ?_
          refine WC.skip ?_
          refine WQ.then ?_
          refine WC.seq ?_
          refine WC.region ?_
          refine WR.step (Ex.move rfl) (Wn.none rfl) rfl rfl ?_
          refine WR.step (Ex.move rfl) (Wn.none rfl) rfl rfl ?_
          refine WR.appendSl ty22 (fun _ => rfl) H rfl (fun _ => by repeat (first | exact Upd.head | apply Upd.tail)) rfl (by assumption) (by first | omega | (simp only [List.length_append, List.length_cons, List.length_nil, List.length_take, List.length_drop]; omega)) (by first | (simp only [maxLen]; omega) | (simp only [maxLen, List.length_append, List.length_cons, List.length_nil, List.length_take, List.length_drop]; omega)) (Wn.none rfl) rfl ?_
          intro v60 w H
          refine WR.step (Ex.assign rfl) (Wn.none rfl) rfl rfl ?_
          refine WR.nil ?_
          refine WQ.then ?_
          refine WC.region ?_
          refine WR.step (Ex.move rfl) (Wn.none rfl) rfl rfl ?_
          refine WR.step (Ex.move rfl) (Wn.none rfl) rfl rfl ?_
          first | refine WR.step (Ex.lenSl Tryd.underlying22 (by assumption) rfl) (Wn.none rfl) rfl rfl ?_ | refine WR.step (Ex.lenRow Tryd.underlying22 H (by repeat (first | exact List.Mem.head _ | apply List.Mem.tail)) rfl) (Wn.none rfl) rfl rfl ?_ | refine WR.step (Ex.lenSlice Tryd.underlying22 rfl) (Wn.none rfl) rfl rfl ?_
          refine WR.stepE (v' := encN (col + (sg c (l.drop (i + 1))).length)) (Ex.add64 rfl rfl (by omega)) (congrArg I (by omega)) (Wn.none rfl) rfl rfl ?_
          refine WR.step (Ex.assign rfl) (Wn.none rfl) rfl rfl ?_
          refine WR.nil ?_
          refine WQ.inBlock ?_
          refine WQ.then ?_
          refine WC.region ?_
          refine WR.step (Ex.move rfl) (Wn.none rfl) rfl rfl ?_
          refine WR.stepE (v' := encN (i + 1)) (Ex.add64 rfl rfl (by omega)) rfl (Wn.none rfl) rfl rfl ?_
          refine WR.step (Ex.assign rfl) (Wn.none rfl) rfl rfl ?_
          refine WR.nil ?_
          refine WQ.again4 (i + 1) (col + (sg c (l.drop (i + 1))).length) (v60) (o ++ (sg c (l.drop (i + 1)))) ⟨rfl, rfl, rfl, rfl, rfl, trivial⟩ ?_ ?_
          · exact ⟨by omega, by omega, by simp; omega, by rw [henc, hd, enc_cons hnl, hmost, if_neg (by omega)]; simp, M, H, hp⟩
          · omega
  ·
    have hend : enc 0 l = o := by rw [henc, List.drop_eq_nil_of_le (by omega), enc_nil, List.append_nil]
    refine WR.nil ?_
    refine WQ.then ?_
    refine WC.condF rfl ?_
    refine WC.exit ?_
    refine WQ.thenExit ?_
    refine WQ.thenExit ?_
    refine WQ.exitHere ?_
    refine WQ.then ?_
    refine WC.seq ?_
    refine WC.region ?_
    refine WR.step (Ex.move rfl) (Wn.none rfl) rfl rfl ?_
    refine WR.call H (none_spec) rfl (trivial) (Wn.none rfl) rfl ?_
    intro v66 M w H hle hr66
    replace hp := hp.mono hle
    obtain rfl := hr66
    refine WR.step (Ex.assign rfl) (Wn.none rfl) rfl rfl ?_
    refine WR.store [_, _] H rfl rfl rfl (by repeat (first | exact Upd.head | apply Upd.tail)) Tryd.sizeOf25 rfl (by rfl) (by rfl) (Wn.none rfl) ?_
    intro w H
    refine WR.nil ?_
    refine WQ.then ?_
    refine WC.ret ?_
    (repeat (first | refine WQ.thenRet ?_ | refine WQ.inBlockRet ?_))
    obtain ⟨M, hle, hf, H⟩ := H.freezeRow (v := ov) (enc := encB) (t := 5) (by repeat (first | exact Rem.head | apply Rem.tail))
    refine WQ.ret2 rfl rfl ⟨_, rfl, H.loadAgg (by repeat (first | exact List.Mem.head _ | apply List.Mem.tail)) Tryd.isAgg25 Tryd.sizeOf25 (by rfl)⟩ H.ext ?_
    refine ⟨_, rfl, ?_⟩
    rw [hend]
    exact hf

end Go.Proofs.YtolmifddbjdepaaDoor
