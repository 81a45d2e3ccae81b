/-
  splitting and measuring: walks over the program's own operations, written by a program of this repository (wip/tools/gen.py) out of a plan.
-/
import Derived.Test.YtnjglbmaonbcbaaDoorPcs
import Derived.KernelRfl
set_option linter.unusedVariables false
set_option linter.unusedSimpArgs false
namespace Go.Proofs.YtnjglbmaonbcbaaDoor
open Go Go.RowKit Go.Ph

open Go.Ph.Gr Go.Ph.Utf
theorem columns_spec (p : List UInt8) (hl : p ≠ []) : Ct Tryd.prog 38 [S p] (fun M => Tabs M) (fun r _ => r = I (col p)) := by
  refine Ct.of Tryd.func38 (enters Tryd.func38 (by kernel_rfl) rfl) rfl rfl rfl ?_
  intro w0 M0 H hp
  refine WC.seq ?_
  refine WC.region ?_
  refine WR.step (Ex.assign rfl) (Wn.none rfl) rfl rfl ?_
  refine WR.nil ?_
  refine WQ.then ?_
  refine WC.seq ?_
  refine WC.seq ?_
  refine WC.region ?_
  refine WR.step (Ex.move rfl) (Wn.none rfl) rfl rfl ?_
  refine WR.call H (first_spec _ hl) rfl (by assumption) (Wn.none rfl) rfl ?_
  intro v6 M w H hle hr6
  replace hp := hp.mono hle
  obtain rfl := hr6
  refine WR.step (Ex.field Tryd.underlying68 rfl Tryd.isAgg3 rfl rfl) (Wn.none rfl) rfl rfl ?_
  refine WR.nil ?_
  refine WQ.then ?_
  refine WC.block ?_
  refine WC.seq ?_
  refine WC.seq ?_
  refine WC.region ?_
  refine WR.split (Ex.eql rfl rfl) (Wn.none rfl) rfl rfl (fun h2_0 => ?_) (fun h2_0 => ?_)
  ·
    refine WR.step (Ex.assign rfl) (Wn.none rfl) rfl rfl ?_
    refine WR.nil ?_
    refine WQ.then ?_
    refine WC.condT rfl ?_
    refine WC.skip ?_
    refine WQ.then ?_
    refine WC.condT rfl ?_
    refine WC.seq ?_
    refine WC.region ?_
    refine WR.step (Ex.assign rfl) (Wn.none rfl) rfl rfl ?_
    refine WR.nil ?_
    refine WQ.then ?_
    refine WC.ret ?_
    (repeat (first | refine WQ.thenRet ?_ | refine WQ.inBlockRet ?_))
    refine WQ.ret1 rfl rfl H.ext ?_
    exact by rw [col, if_pos (by omega)]
  ·
    refine WR.step (Ex.assign rfl) (Wn.none rfl) rfl rfl ?_
    refine WR.nil ?_
    refine WQ.then ?_
    refine WC.condF rfl ?_
    refine WC.seq ?_
    refine WC.region ?_
    refine WR.split (Ex.eql rfl rfl) (Wn.none rfl) rfl rfl (fun h3_0 => ?_) (fun h3_0 => ?_)
    ·
      refine WR.step (Ex.assign rfl) (Wn.none rfl) rfl rfl ?_
      refine WR.nil ?_
      refine WQ.then ?_
      refine WC.condT rfl ?_
      refine WC.skip ?_
      refine WQ.then ?_
      refine WC.condT rfl ?_
      refine WC.seq ?_
      refine WC.region ?_
      refine WR.step (Ex.assign rfl) (Wn.none rfl) rfl rfl ?_
      refine WR.nil ?_
      refine WQ.then ?_
      refine WC.ret ?_
      (repeat (first | refine WQ.thenRet ?_ | refine WQ.inBlockRet ?_))
      refine WQ.ret1 rfl rfl H.ext ?_
      exact by rw [col, if_pos (by omega)]
    ·
      refine WR.step (Ex.assign rfl) (Wn.none rfl) rfl rfl ?_
      refine WR.nil ?_
      refine WQ.then ?_
      refine WC.condF rfl ?_
      refine WC.seq ?_
      refine WC.region ?_
      refine WR.split (Ex.eql rfl rfl) (Wn.none rfl) rfl rfl (fun h4_0 => ?_) (fun h4_0 => ?_)
      ·
        refine WR.step (Ex.assign rfl) (Wn.none rfl) rfl rfl ?_
        refine WR.nil ?_
        refine WQ.then ?_
        refine WC.condT rfl ?_
        refine WC.skip ?_
        refine WQ.then ?_
        refine WC.condT rfl ?_
        refine WC.seq ?_
        refine WC.region ?_
        refine WR.step (Ex.assign rfl) (Wn.none rfl) rfl rfl ?_
        refine WR.nil ?_
        refine WQ.then ?_
        refine WC.ret ?_
        (repeat (first | refine WQ.thenRet ?_ | refine WQ.inBlockRet ?_))
        refine WQ.ret1 rfl rfl H.ext ?_
        exact by rw [col, if_pos (by omega)]
      ·
        refine WR.step (Ex.assign rfl) (Wn.none rfl) rfl rfl ?_
        refine WR.nil ?_
        refine WQ.then ?_
        refine WC.condF rfl ?_
        refine WC.seq ?_
        refine WC.region ?_
        refine WR.split (Ex.eql rfl rfl) (Wn.none rfl) rfl rfl (fun h5_0 => ?_) (fun h5_0 => ?_)
        ·
          refine WR.step (Ex.assign rfl) (Wn.none rfl) rfl rfl ?_
          refine WR.nil ?_
          refine WQ.then ?_
          refine WC.condT rfl ?_
          refine WC.skip ?_
          refine WQ.then ?_
          refine WC.condT rfl ?_
          refine WC.seq ?_
          refine WC.region ?_
          refine WR.step (Ex.assign rfl) (Wn.none rfl) rfl rfl ?_
          refine WR.nil ?_
          refine WQ.then ?_
          refine WC.ret ?_
          (repeat (first | refine WQ.thenRet ?_ | refine WQ.inBlockRet ?_))
          refine WQ.ret1 rfl rfl H.ext ?_
          exact by rw [col, if_pos (by omega)]
        ·
          refine WR.step (Ex.assign rfl) (Wn.none rfl) rfl rfl ?_
          refine WR.nil ?_
          refine WQ.then ?_
          refine WC.condF rfl ?_
          refine WC.region ?_
          refine WR.split (Ex.eql rfl rfl) (Wn.none rfl) rfl rfl (fun h6_0 => ?_) (fun h6_0 => ?_)
          ·
            refine WR.step (Ex.assign rfl) (Wn.none rfl) rfl rfl ?_
            refine WR.nil ?_
            refine WQ.then ?_
            refine WC.condT rfl ?_
            refine WC.seq ?_
            refine WC.region ?_
            refine WR.step (Ex.assign rfl) (Wn.none rfl) rfl rfl ?_
            refine WR.nil ?_
            refine WQ.then ?_
            refine WC.ret ?_
            (repeat (first | refine WQ.thenRet ?_ | refine WQ.inBlockRet ?_))
            refine WQ.ret1 rfl rfl H.ext ?_
            exact by rw [col, if_pos (by omega)]
          ·
            refine WR.step (Ex.assign rfl) (Wn.none rfl) rfl rfl ?_
            refine WR.nil ?_
            refine WQ.then ?_
            refine WC.condF rfl ?_
            refine WC.seq ?_
            refine WC.region ?_
            refine WR.split (Ex.eql rfl rfl) (Wn.none rfl) rfl rfl (fun h8_0 => ?_) (fun h8_0 => ?_)
            ·
              refine WR.step (Ex.assign rfl) (Wn.none rfl) rfl rfl ?_
              refine WR.nil ?_
              refine WQ.then ?_
              refine WC.condT rfl ?_
              refine WC.seq ?_
              refine WC.region ?_
              refine WR.step (Ex.assign rfl) (Wn.none rfl) rfl rfl ?_
              refine WR.nil ?_
              refine WQ.then ?_
              refine WC.ret ?_
              (repeat (first | refine WQ.thenRet ?_ | refine WQ.inBlockRet ?_))
              refine WQ.ret1 rfl rfl H.ext ?_
              exact by rw [col, if_neg (by omega), if_pos (by omega)]
            ·
              refine WR.step (Ex.assign rfl) (Wn.none rfl) rfl rfl ?_
              refine WR.nil ?_
              refine WQ.then ?_
              refine WC.condF rfl ?_
              refine WC.skip ?_
              refine WQ.inBlock ?_
              refine WQ.then ?_
              refine WC.seq ?_
              refine WC.seq ?_
              refine WC.region ?_
              refine WR.step (Ex.move rfl) (Wn.none rfl) rfl rfl ?_
              refine WR.rangeStr H Tryd.underlying9 rfl (Wn.none rfl) rfl ?_
              intro b17 w H
              refine WR.nil ?_
              refine WQ.then ?_
              refine WC.block ?_
              refine WC.loop1 (fun (ps : Nat) => [(0, S p), (17, ptr b17 0)]) (fun (ps : Nat) w => anyW p = anyW (p.drop ps) ∧ ps ≤ p.length ∧ ∃ M, St w0 M0 M [.blk b17 (.stringIter ⟨p.toArray⟩ ps)] w ∧ Tabs M) (fun (ps : Nat) => p.length - ps) (0) ⟨rfl, rfl, trivial⟩ (⟨rfl, Nat.zero_le _, M, H, hp⟩) ?_
              intro ps w
              rintro ⟨hany, hps, M, H, hp⟩
              refine WC.seq ?_
              refine WC.region ?_
              by_cases h11_0 : ps < p.length
              ·
                have hne := drop_ne (t := p) (n := ps) h11_0
                have hrs := rune_size (p.drop ps)
                have hrs3 := hrs.2.2 hne
                rw [List.length_drop] at hrs3
                refine WR.nextT H h11_0 rfl (by repeat (first | exact Upd.head | apply Upd.tail)) (Wn.none rfl) rfl ?_
                intro w H
                refine WR.step (Ex.extract rfl rfl) (Wn.none rfl) rfl rfl ?_
                refine WR.nil ?_
                refine WQ.then ?_
                refine WC.seq ?_
                refine WC.condT rfl ?_
                refine WC.skip ?_
                refine WQ.then ?_
                refine WC.block ?_
                refine WC.seq ?_
                refine WC.region ?_
                refine WR.step (Ex.extract rfl rfl) (Wn.none rfl) rfl rfl ?_
                refine WR.step (Ex.assign rfl) (Wn.none rfl) rfl rfl ?_
                refine WR.nil ?_
                refine WQ.then ?_
                refine WC.seq ?_
                refine WC.region ?_
                refine WR.step (Ex.move rfl) (Wn.none rfl) rfl rfl ?_
                by_cases h13_1 : wid ((dr (p.drop ps)).1 : Int) = true
                ·
                  have hw : anyW p = true := by rw [hany, anyW_cons hne, ← wid_dr, h13_1, Bool.true_or]
                  refine WR.call H (Ct.mono (Ct.mono (wide_spec _) (R' := fun r _ => r = .bool (decide (wid ((dr (p.drop ps)).1 : Int) = true))) (fun _ _ h => h.trans (congrArg Value.bool (by simp)))) (R' := fun r _ => r = .bool true) (fun _ _ h => h.trans (congrArg Value.bool (decide_eq_true h13_1)))) rfl (trivial) (Wn.none rfl) rfl ?_
                  intro v22 M w H hle hr22
                  replace hp := hp.mono hle
                  obtain rfl := hr22
                  refine WR.nil ?_
                  refine WQ.then ?_
                  refine WC.condT rfl ?_
                  refine WC.seq ?_
                  refine WC.region ?_
                  refine WR.step (Ex.assign rfl) (Wn.none rfl) rfl rfl ?_
                  refine WR.nil ?_
                  refine WQ.then ?_
                  refine WC.ret ?_
                  (repeat (first | refine WQ.thenRet ?_ | refine WQ.inBlockRet ?_))
                  refine WQ.ret1 rfl rfl H.ext ?_
                  exact by rw [col, if_neg (by omega), if_neg (by omega), hw]; rfl
                ·
                  have hwf : wid (rune (p.drop ps)).1 = false := by rw [← wid_dr]; simpa using h13_1
                  refine WR.call H (Ct.mono (Ct.mono (wide_spec _) (R' := fun r _ => r = .bool (decide (wid ((dr (p.drop ps)).1 : Int) = true))) (fun _ _ h => h.trans (congrArg Value.bool (by simp)))) (R' := fun r _ => r = .bool false) (fun _ _ h => h.trans (congrArg Value.bool (decide_eq_false h13_1)))) rfl (trivial) (Wn.none rfl) rfl ?_
                  intro v22 M w H hle hr22
                  replace hp := hp.mono hle
                  obtain rfl := hr22
                  refine WR.nil ?_
                  refine WQ.then ?_
                  refine WC.condF rfl ?_
                  refine WC.skip ?_
                  refine WQ.inBlock ?_
                  refine WQ.again1 (ps + (dr (p.drop ps)).2) ⟨rfl, rfl, trivial⟩ ?_ ?_
                  · refine ⟨?_, ?_, M, H, hp⟩
                    · rw [hany, anyW_cons hne, hwf, Bool.false_or, dr_size, List.drop_drop]
                    · rw [dr_size]; omega
                  · rw [dr_size]; omega
              ·
                have hw : anyW p = false := by rw [hany, List.drop_eq_nil_of_le (by omega)]; rfl
                refine WR.nextF H (Nat.le_of_not_lt h11_0) rfl (by repeat (first | exact List.Mem.head _ | apply List.Mem.tail)) (Wn.none rfl) rfl ?_
                refine WR.step (Ex.extract rfl rfl) (Wn.none rfl) rfl rfl ?_
                refine WR.nil ?_
                refine WQ.then ?_
                refine WC.seq ?_
                refine WC.condF rfl ?_
                refine WC.exit ?_
                refine WQ.thenExit ?_
                refine WQ.thenExit ?_
                refine WQ.exitHere ?_
                refine WQ.then ?_
                refine WC.seq ?_
                refine WC.region ?_
                refine WR.step (Ex.assign rfl) (Wn.none rfl) rfl rfl ?_
                refine WR.nil ?_
                refine WQ.then ?_
                refine WC.ret ?_
                (repeat (first | refine WQ.thenRet ?_ | refine WQ.inBlockRet ?_))
                refine WQ.ret1 rfl rfl H.ext ?_
                exact by rw [col, if_neg (by omega), if_neg (by omega), hw]; rfl

theorem split_spec (l : List UInt8) (hs : l.length ≤ 1048576) : Ct Tryd.prog 15 [S l] (fun M => Tabs M) (fun r M => Sl M encS r (pieces l)) := by
  refine Ct.ofM Tryd.func15 (enters Tryd.func15 (by kernel_rfl) rfl) rfl rfl rfl ?_
  intro w0 M0 H hp
  refine WC.seq ?_
  refine WC.region ?_
  refine WR.step (Ex.assign rfl) (Wn.none rfl) rfl rfl ?_
  refine WR.nil ?_
  refine WQ.then ?_
  refine WC.seq ?_
  refine WC.region ?_
  refine WR.alloc [_] H Tryd.zeroValue24 rfl (Wn.none rfl) rfl ?_
  intro b3 w H
  refine WR.nil ?_
  refine WQ.then ?_
  refine WC.seq ?_
  refine WC.seq ?_
  refine WC.region ?_
  refine WR.step (Ex.move rfl) (Wn.none rfl) rfl rfl ?_
  replace H := H.newRow 9 encS
  refine WR.callO H (pieces_spec _) rfl (trivial) (Wn.none rfl) rfl ?_
  intro v6 M w its H hle hr6
  replace hp := hp.mono hle
  obtain ⟨bb, rfl, rfl⟩ := hr6
  simp only [List.cons_append, List.nil_append] at H
  refine WR.nil ?_
  refine WQ.then ?_
  refine WC.block ?_
  refine WC.rangeFunc H rfl (pieces_iter bb l (by omega)) (.left (.left (.left .nil))) (hp) rfl (fun pre Lc _ => ∃ v, Lc = [RowI 9 encS v pre, .blk b3 (.cells #[v] 24)]) (fun _ _ _ _ => False) (fun _ _ _ _ h _ => h) (⟨_, rfl⟩) ?_ ?_ ?_
  ·
    intro lid rc hrc pre x Lc w M hpre hz H
    obtain ⟨v, rfl⟩ := hz
    have hple := hpre.length_le
    have hpl2 := pieces_len l
    simp only [List.length_append, List.length_cons, List.length_nil] at hple
    refine WC.region ?_
    refine WR.step (Ex.assign rfl) (Wn.none rfl) rfl rfl ?_
    refine WR.nil ?_
    refine WQ.begin hrc H (by repeat (first | exact Upd.head | apply Upd.tail)) ?_
    intro w H
    refine WC.block ?_
    refine WC.region ?_
    first | refine WR.step (Ex.loadM H rfl (by assumption) Tryd.isAgg24) (Wn.none rfl) rfl rfl ?_ | refine WR.step (Ex.load1 H rfl (by repeat (first | exact List.Mem.head _ | apply List.Mem.tail)) Tryd.isAgg24 (by rfl)) (Wn.none rfl) rfl rfl ?_
    refine WR.step (Ex.move rfl) (Wn.none rfl) rfl rfl ?_
    refine WR.lit (enc := encS) ty24 [_] H rfl (by rfl) (fun _ => rfl) rfl rfl (Wn.none rfl) rfl ?_
    intro v10 M w H hle hl10
    refine WR.appendSl ty24 (fun _ => rfl) H rfl (fun _ => by repeat (first | exact Upd.head | apply Upd.tail)) rfl (by assumption) (by first | omega | (simp only [List.length_append, List.length_cons, List.length_nil, List.length_take, List.length_drop]; omega)) (by first | (simp only [maxLen]; omega) | (simp only [maxLen, List.length_append, List.length_cons, List.length_nil, List.length_take, List.length_drop]; omega)) (Wn.none rfl) rfl ?_
    intro v11 w H
    refine WR.putV [_] H rfl rfl (by first | exact One.slice _ _ _ | exact Sl.one (by assumption) | exact StX.rowOne H (by repeat (first | exact List.Mem.head _ | apply List.Mem.tail))) (by repeat (first | exact Upd.head | apply Upd.tail)) (by rfl) Tryd.sizeOf24 (by first | decide | (simp; done) | (simp; omega)) (Wn.none rfl) ?_
    intro w H
    refine WR.nil ?_
    refine WQ.inBlock ?_
    refine WQ.roundOn hrc H ⟨v11, rfl⟩
  ·
    intro Dm w M Lc H hle hz
    obtain ⟨v, rfl⟩ := hz
    simp only [List.cons_append, List.nil_append] at H
    refine WQ.inBlock ?_
    refine WQ.then ?_
    refine WC.seq ?_
    refine WC.region ?_
    first | refine WR.step (Ex.loadM H rfl (by assumption) Tryd.isAgg24) (Wn.none rfl) rfl rfl ?_ | refine WR.step (Ex.load1 H rfl (by repeat (first | exact List.Mem.head _ | apply List.Mem.tail)) Tryd.isAgg24 (by rfl)) (Wn.none rfl) rfl rfl ?_
    refine WR.step (Ex.assign rfl) (Wn.none rfl) rfl rfl ?_
    refine WR.nil ?_
    refine WQ.then ?_
    refine WC.ret ?_
    (repeat (first | refine WQ.thenRet ?_ | refine WQ.inBlockRet ?_))
    obtain ⟨M, hle, hf, H⟩ := H.freezeRow (v := v) (enc := encS) (t := 9) (by repeat (first | exact Rem.head | apply Rem.tail))
    refine WQ.retM1 H (by repeat (first | exact Rem.head | apply Rem.tail)) ?_
    intro w H
    refine ⟨_, resv_run1 rfl rfl, _, _, rfl, H.ext, ?_⟩
    exact hf
  ·
    intro Dm w M Lc c pre H hle hpre hz
    exact hz.elim

theorem width_spec (l : List UInt8) (hs : l.length ≤ 1048576) : Ct Tryd.prog 19 [S l] (fun M => Tabs M) (fun r _ => r = I (cols (pieces l))) := by
  refine Ct.ofM Tryd.func19 (enters Tryd.func19 (by kernel_rfl) rfl) rfl rfl rfl ?_
  intro w0 M0 H hp
  refine WC.seq ?_
  refine WC.region ?_
  refine WR.step (Ex.assign rfl) (Wn.none rfl) rfl rfl ?_
  refine WR.nil ?_
  refine WQ.then ?_
  refine WC.seq ?_
  refine WC.region ?_
  refine WR.alloc [_] H Tryd.zeroValue3 rfl (Wn.none rfl) rfl ?_
  intro b3 w H
  refine WR.store [_] H rfl rfl rfl (by repeat (first | exact Upd.head | apply Upd.tail)) Tryd.sizeOf3 rfl (by rfl) (by rfl) (Wn.none rfl) ?_
  intro w H
  refine WR.nil ?_
  refine WQ.then ?_
  refine WC.seq ?_
  refine WC.seq ?_
  refine WC.region ?_
  refine WR.step (Ex.move rfl) (Wn.none rfl) rfl rfl ?_
  refine WR.callO H (pieces_spec _) rfl (trivial) (Wn.none rfl) rfl ?_
  intro v6 M w its H hle hr6
  replace hp := hp.mono hle
  obtain ⟨bb, rfl, rfl⟩ := hr6
  simp only [List.cons_append, List.nil_append] at H
  refine WR.nil ?_
  refine WQ.then ?_
  refine WC.block ?_
  refine WC.rangeFunc H rfl (pieces_iter bb l (by omega)) (.left (.left .nil)) (hp) rfl (fun pre Lc M => Tabs M ∧ Lc = [.blk b3 (.cells #[I (cols pre)] 3)]) (fun _ _ _ _ => False) (fun _ _ _ _ h hle => ⟨h.1.mono hle, h.2⟩) (⟨hp, rfl⟩) ?_ ?_ ?_
  ·
    intro lid rc hrc pre x Lc w M hpre hz H
    obtain ⟨htab, rfl⟩ := hz
    have hple := hpre.length_le
    have hpl2 := pieces_len l
    simp only [List.length_append, List.length_cons, List.length_nil] at hple
    have hxne : x ≠ [] := pieces_ne l x (hpre.subset (List.mem_append_right _ (List.mem_singleton.2 rfl)))
    have hcb := cols_le pre
    have hcx := col_le x
    refine WC.region ?_
    refine WR.step (Ex.assign rfl) (Wn.none rfl) rfl rfl ?_
    refine WR.nil ?_
    refine WQ.begin hrc H (by repeat (first | exact Upd.head | apply Upd.tail)) ?_
    intro w H
    refine WC.block ?_
    refine WC.draw (m := 5) rfl rfl H ?_
    intro w H
    refine WA.two (i := 0) (j := 1) (by kernel_rfl) rfl rfl ?_ ?_
    ·
      first | refine WR.step (Ex.loadM H rfl (by assumption) Tryd.isAgg3) (Wn.none rfl) rfl rfl ?_ | refine WR.step (Ex.load1 H rfl (by repeat (first | exact List.Mem.head _ | apply List.Mem.tail)) Tryd.isAgg3 (by rfl)) (Wn.none rfl) rfl rfl ?_
      refine WR.nil (WQ.any ?_)
      refine WA.one (i := 1) (by kernel_rfl) rfl ?_
      refine WR.step (Ex.move rfl) (Wn.none rfl) rfl rfl ?_
      refine WR.nil (WQ.any ?_)
      refine WA.one (i := 2) (by kernel_rfl) rfl ?_
      refine WR.call H (columns_spec _ hxne) rfl (by assumption) (Wn.none rfl) rfl ?_
      intro v10 M w H hle hr10
      replace htab := htab.mono hle
      obtain rfl := hr10
      refine WR.nil (WQ.any ?_)
      refine WA.one (i := 3) (by kernel_rfl) rfl ?_
      refine WR.step (Ex.add64 rfl rfl (by omega)) (Wn.none rfl) rfl rfl ?_
      refine WR.nil (WQ.any ?_)
      refine WA.one (i := 4) (by kernel_rfl) rfl ?_
      refine WR.store [_] H rfl rfl rfl (by repeat (first | exact Upd.head | apply Upd.tail)) Tryd.sizeOf3 rfl (by rfl) (by rfl) (Wn.none rfl) ?_
      intro w H
      refine WR.nil (WQ.any ?_)
      refine WA.done (by kernel_rfl) ?_
      refine WQ.inBlock ?_
      refine WQ.roundOn hrc H ⟨htab, ?_⟩
      rw [cols_snoc]
    ·
      refine WR.step (Ex.move rfl) (Wn.none rfl) rfl rfl ?_
      refine WR.nil (WQ.any ?_)
      refine WA.two (i := 0) (j := 2) (by kernel_rfl) rfl rfl ?_ ?_
      ·
        first | refine WR.step (Ex.loadM H rfl (by assumption) Tryd.isAgg3) (Wn.none rfl) rfl rfl ?_ | refine WR.step (Ex.load1 H rfl (by repeat (first | exact List.Mem.head _ | apply List.Mem.tail)) Tryd.isAgg3 (by rfl)) (Wn.none rfl) rfl rfl ?_
        refine WR.nil (WQ.any ?_)
        refine WA.one (i := 2) (by kernel_rfl) rfl ?_
        refine WR.call H (columns_spec _ hxne) rfl (by assumption) (Wn.none rfl) rfl ?_
        intro v10 M w H hle hr10
        replace htab := htab.mono hle
        obtain rfl := hr10
        refine WR.nil (WQ.any ?_)
        refine WA.one (i := 3) (by kernel_rfl) rfl ?_
        refine WR.step (Ex.add64 rfl rfl (by omega)) (Wn.none rfl) rfl rfl ?_
        refine WR.nil (WQ.any ?_)
        refine WA.one (i := 4) (by kernel_rfl) rfl ?_
        refine WR.store [_] H rfl rfl rfl (by repeat (first | exact Upd.head | apply Upd.tail)) Tryd.sizeOf3 rfl (by rfl) (by rfl) (Wn.none rfl) ?_
        intro w H
        refine WR.nil (WQ.any ?_)
        refine WA.done (by kernel_rfl) ?_
        refine WQ.inBlock ?_
        refine WQ.roundOn hrc H ⟨htab, ?_⟩
        rw [cols_snoc]
      ·
        refine WR.call H (columns_spec _ hxne) rfl (by assumption) (Wn.none rfl) rfl ?_
        intro v10 M w H hle hr10
        replace htab := htab.mono hle
        obtain rfl := hr10
        refine WR.nil (WQ.any ?_)
        refine WA.one (i := 0) (by kernel_rfl) rfl ?_
        first | refine WR.step (Ex.loadM H rfl (by assumption) Tryd.isAgg3) (Wn.none rfl) rfl rfl ?_ | refine WR.step (Ex.load1 H rfl (by repeat (first | exact List.Mem.head _ | apply List.Mem.tail)) Tryd.isAgg3 (by rfl)) (Wn.none rfl) rfl rfl ?_
        refine WR.nil (WQ.any ?_)
        refine WA.one (i := 3) (by kernel_rfl) rfl ?_
        refine WR.step (Ex.add64 rfl rfl (by omega)) (Wn.none rfl) rfl rfl ?_
        refine WR.nil (WQ.any ?_)
        refine WA.one (i := 4) (by kernel_rfl) rfl ?_
        refine WR.store [_] H rfl rfl rfl (by repeat (first | exact Upd.head | apply Upd.tail)) Tryd.sizeOf3 rfl (by rfl) (by rfl) (Wn.none rfl) ?_
        intro w H
        refine WR.nil (WQ.any ?_)
        refine WA.done (by kernel_rfl) ?_
        refine WQ.inBlock ?_
        refine WQ.roundOn hrc H ⟨htab, ?_⟩
        rw [cols_snoc]
  ·
    intro Dm w M Lc H hle hz
    obtain ⟨htab, rfl⟩ := hz
    simp only [List.cons_append, List.nil_append] at H
    refine WQ.inBlock ?_
    refine WQ.then ?_
    refine WC.seq ?_
    refine WC.region ?_
    first | refine WR.step (Ex.loadM H rfl (by assumption) Tryd.isAgg3) (Wn.none rfl) rfl rfl ?_ | refine WR.step (Ex.load1 H rfl (by repeat (first | exact List.Mem.head _ | apply List.Mem.tail)) Tryd.isAgg3 (by rfl)) (Wn.none rfl) rfl rfl ?_
    refine WR.step (Ex.assign rfl) (Wn.none rfl) rfl rfl ?_
    refine WR.nil ?_
    refine WQ.then ?_
    refine WC.ret ?_
    (repeat (first | refine WQ.thenRet ?_ | refine WQ.inBlockRet ?_))
    refine WQ.retM1 H (by repeat (first | exact Rem.head | apply Rem.tail)) ?_
    intro w H
    refine ⟨_, resv_run1 rfl rfl, _, _, rfl, H.ext, ?_⟩
    exact rfl
  ·
    intro Dm w M Lc c pre H hle hpre hz
    exact hz.elim

open Go.Ph.Gr Go.Ph.Utf
theorem cut_big (l : List UInt8) (most : Int) (hs : 12000 < l.length) : Ct Tryd.prog 17 [S l, I most] (fun M => Tabs M) (fun r _ => r = .tuple #[S [], fault 1 (-1)]) := by
  refine Ct.ofM Tryd.func17 (enters Tryd.func17 (by kernel_rfl) rfl) rfl rfl rfl ?_
  intro w0 M0 H hp
  refine WC.seq ?_
  refine WC.region ?_
  refine WR.box [_] H rfl rfl (Wn.none rfl) rfl ?_
  intro b3 w H
  refine WR.step (Ex.assign rfl) (Wn.none rfl) rfl rfl ?_
  refine WR.alloc [_, _] H Tryd.zeroValue28 rfl (Wn.none rfl) rfl ?_
  intro b5 w H
  refine WR.nil ?_
  refine WQ.then ?_
  refine WC.seq ?_
  refine WC.seq ?_
  refine WC.region ?_
  refine WR.step (Ex.move rfl) (Wn.none rfl) rfl rfl ?_
  refine WR.step (Ex.lenStr Tryd.underlying9 rfl) (Wn.none rfl) rfl rfl ?_
  refine WR.stepT (Ex.gtr rfl rfl) (by omega) (Wn.none rfl) rfl rfl ?_
  refine WR.nil ?_
  refine WQ.then ?_
  refine WC.condT rfl ?_
  refine WC.seq ?_
  refine WC.region ?_
  refine WR.call H (fault_spec _ _) rfl (trivial) (Wn.none rfl) rfl ?_
  intro v11 M w H hle hr11
  obtain rfl := hr11
  refine WR.step (Ex.assign rfl) (Wn.none rfl) rfl rfl ?_
  refine WR.store [_, _] H rfl rfl rfl (by repeat (first | exact Upd.head | apply Upd.tail)) Tryd.sizeOf28 rfl (by rfl) (by rfl) (Wn.none rfl) ?_
  intro w H
  refine WR.nil ?_
  refine WQ.then ?_
  refine WC.ret ?_
  (repeat (first | refine WQ.thenRet ?_ | refine WQ.inBlockRet ?_))
  refine WQ.retM0 (resv_run2 rfl rfl ⟨_, rfl, H.loadAgg (by repeat (first | exact List.Mem.head _ | apply List.Mem.tail)) Tryd.isAgg28 Tryd.sizeOf28 (by rfl)⟩) ⟨_, _, rfl, H.ext, ?_⟩
  exact rfl

theorem cut_neg (l : List UInt8) (most : Int) (hs : l.length ≤ 12000) (hm : most < 0) : Ct Tryd.prog 17 [S l, I most] (fun M => Tabs M) (fun r _ => r = .tuple #[S [], fault 3 (-2)]) := by
  refine Ct.ofM Tryd.func17 (enters Tryd.func17 (by kernel_rfl) rfl) rfl rfl rfl ?_
  intro w0 M0 H hp
  refine WC.seq ?_
  refine WC.region ?_
  refine WR.box [_] H rfl rfl (Wn.none rfl) rfl ?_
  intro b3 w H
  refine WR.step (Ex.assign rfl) (Wn.none rfl) rfl rfl ?_
  refine WR.alloc [_, _] H Tryd.zeroValue28 rfl (Wn.none rfl) rfl ?_
  intro b5 w H
  refine WR.nil ?_
  refine WQ.then ?_
  refine WC.seq ?_
  refine WC.seq ?_
  refine WC.region ?_
  refine WR.step (Ex.move rfl) (Wn.none rfl) rfl rfl ?_
  refine WR.step (Ex.lenStr Tryd.underlying9 rfl) (Wn.none rfl) rfl rfl ?_
  refine WR.stepF (Ex.gtr rfl rfl) (by omega) (Wn.none rfl) rfl rfl ?_
  refine WR.nil ?_
  refine WQ.then ?_
  refine WC.condF rfl ?_
  refine WC.skip ?_
  refine WQ.then ?_
  refine WC.seq ?_
  refine WC.seq ?_
  refine WC.region ?_
  first | refine WR.step (Ex.loadM H rfl (by assumption) Tryd.isAgg3) (Wn.none rfl) rfl rfl ?_ | refine WR.step (Ex.load1 H rfl (by repeat (first | exact List.Mem.head _ | apply List.Mem.tail)) Tryd.isAgg3 (by rfl)) (Wn.none rfl) rfl rfl ?_
  refine WR.stepT (Ex.lss rfl rfl) hm (Wn.none rfl) rfl rfl ?_
  refine WR.nil ?_
  refine WQ.then ?_
  refine WC.condT rfl ?_
  refine WC.seq ?_
  refine WC.region ?_
  refine WR.call H (fault_spec _ _) rfl (trivial) (Wn.none rfl) rfl ?_
  intro v14 M w H hle hr14
  obtain rfl := hr14
  refine WR.step (Ex.assign rfl) (Wn.none rfl) rfl rfl ?_
  refine WR.store [_, _] H rfl rfl rfl (by repeat (first | exact Upd.head | apply Upd.tail)) Tryd.sizeOf28 rfl (by rfl) (by rfl) (Wn.none rfl) ?_
  intro w H
  refine WR.nil ?_
  refine WQ.then ?_
  refine WC.ret ?_
  (repeat (first | refine WQ.thenRet ?_ | refine WQ.inBlockRet ?_))
  refine WQ.retM0 (resv_run2 rfl rfl ⟨_, rfl, H.loadAgg (by repeat (first | exact List.Mem.head _ | apply List.Mem.tail)) Tryd.isAgg28 Tryd.sizeOf28 (by rfl)⟩) ⟨_, _, rfl, H.ext, ?_⟩
  exact rfl

theorem cut_spec (l : List UInt8) (most : Int) (hs : l.length ≤ 12000) (hm : 0 ≤ most) : Ct Tryd.prog 17 [S l, I most] (fun M => Tabs M) (fun r _ => r = .tuple #[S (l.take (cutN most (pieces l) 0)), fault 0 0]) := by
  refine Ct.ofM Tryd.func17 (enters Tryd.func17 (by kernel_rfl) rfl) rfl rfl rfl ?_
  intro w0 M0 H hp
  refine WC.seq ?_
  refine WC.region ?_
  refine WR.box [_] H rfl rfl (Wn.none rfl) rfl ?_
  intro b3 w H
  refine WR.step (Ex.assign rfl) (Wn.none rfl) rfl rfl ?_
  refine WR.alloc [_, _] H Tryd.zeroValue28 rfl (Wn.none rfl) rfl ?_
  intro b5 w H
  refine WR.nil ?_
  refine WQ.then ?_
  refine WC.seq ?_
  refine WC.seq ?_
  refine WC.region ?_
  refine WR.step (Ex.move rfl) (Wn.none rfl) rfl rfl ?_
  refine WR.step (Ex.lenStr Tryd.underlying9 rfl) (Wn.none rfl) rfl rfl ?_
  refine WR.stepF (Ex.gtr rfl rfl) (by omega) (Wn.none rfl) rfl rfl ?_
  refine WR.nil ?_
  refine WQ.then ?_
  refine WC.condF rfl ?_
  refine WC.skip ?_
  refine WQ.then ?_
  refine WC.seq ?_
  refine WC.seq ?_
  refine WC.region ?_
  first | refine WR.step (Ex.loadM H rfl (by assumption) Tryd.isAgg3) (Wn.none rfl) rfl rfl ?_ | refine WR.step (Ex.load1 H rfl (by repeat (first | exact List.Mem.head _ | apply List.Mem.tail)) Tryd.isAgg3 (by rfl)) (Wn.none rfl) rfl rfl ?_
  refine WR.stepF (Ex.lss rfl rfl) (by omega) (Wn.none rfl) rfl rfl ?_
  refine WR.nil ?_
  refine WQ.then ?_
  refine WC.condF rfl ?_
  refine WC.skip ?_
  refine WQ.then ?_
  refine WC.seq ?_
  refine WC.region ?_
  refine WR.alloc [_] H Tryd.zeroValue3 rfl (Wn.none rfl) rfl ?_
  intro b6 w H
  refine WR.store [_] H rfl rfl rfl (by repeat (first | exact Upd.head | apply Upd.tail)) Tryd.sizeOf3 rfl (by rfl) (by rfl) (Wn.none rfl) ?_
  intro w H
  refine WR.nil ?_
  refine WQ.then ?_
  refine WC.seq ?_
  refine WC.seq ?_
  refine WC.region ?_
  refine WR.step (Ex.move rfl) (Wn.none rfl) rfl rfl ?_
  refine WR.callO H (pieces_spec _) rfl (trivial) (Wn.none rfl) rfl ?_
  intro v16 M w its H hle hr16
  replace hp := hp.mono hle
  obtain ⟨bb, rfl, rfl⟩ := hr16
  simp only [List.cons_append, List.nil_append] at H
  refine WR.nil ?_
  refine WQ.then ?_
  refine WC.block ?_
  refine WC.rangeFunc H rfl (pieces_iter bb l (by omega)) (.left (.left (.right (.left .nil)))) (hp) rfl (fun pre Lc _ => Lc = [.blk b6 (.cells #[encN pre.flatten.length] 3), .blk b3 (.cells #[I most] 3)] ∧ cutN most (pieces l) 0 = cutN most ((pieces l).drop pre.length) pre.flatten.length) (fun c _ Lc _ => c = .exit 0 ∧ Lc = [.blk b6 (.cells #[encN (cutN most (pieces l) 0)] 3), .blk b3 (.cells #[I most] 3)]) (fun _ _ _ _ h _ => h) (⟨rfl, rfl⟩) ?_ ?_ ?_
  ·
    intro lid rc hrc pre x Lc w M hpre hz H
    obtain ⟨rfl, hcut⟩ := hz
    have hfl := ini_flat hpre
    rw [pieces_flat] at hfl
    simp only [List.flatten_append, List.flatten_cons, List.flatten_nil, List.length_append, List.length_nil] at hfl
    rw [ini_drop hpre, cutN] at hcut
    refine WC.region ?_
    refine WR.step (Ex.assign rfl) (Wn.none rfl) rfl rfl ?_
    refine WR.nil ?_
    refine WQ.begin hrc H (by repeat (first | exact Upd.head | apply Upd.tail)) ?_
    intro w H
    refine WC.block ?_
    refine WC.seq ?_
    refine WC.seq ?_
    refine WC.region ?_
    first | refine WR.step (Ex.loadM H rfl (by assumption) Tryd.isAgg3) (Wn.none rfl) rfl rfl ?_ | refine WR.step (Ex.load1 H rfl (by repeat (first | exact List.Mem.head _ | apply List.Mem.tail)) Tryd.isAgg3 (by rfl)) (Wn.none rfl) rfl rfl ?_
    refine WR.step (Ex.move rfl) (Wn.none rfl) rfl rfl ?_
    refine WR.step (Ex.lenStr Tryd.underlying9 rfl) (Wn.none rfl) rfl rfl ?_
    refine WR.step (Ex.add64 rfl rfl (by omega)) (Wn.none rfl) rfl rfl ?_
    first | refine WR.step (Ex.loadM H rfl (by assumption) Tryd.isAgg3) (Wn.none rfl) rfl rfl ?_ | refine WR.step (Ex.load1 H rfl (by repeat (first | exact List.Mem.head _ | apply List.Mem.tail)) Tryd.isAgg3 (by rfl)) (Wn.none rfl) rfl rfl ?_
    refine WR.split (Ex.gtr rfl rfl) (Wn.none rfl) rfl rfl (fun h8_5 => ?_) (fun h8_5 => ?_)
    ·
      refine WR.nil ?_
      refine WQ.then ?_
      refine WC.condT rfl ?_
      refine WC.exit ?_
      refine WQ.thenExit ?_
      refine WQ.exitOut rfl ?_
      refine WQ.roundExit hrc H ⟨rfl, ?_⟩
      rw [hcut, if_pos (by omega)]
    ·
      refine WR.nil ?_
      refine WQ.then ?_
      refine WC.condF rfl ?_
      refine WC.skip ?_
      refine WQ.then ?_
      refine WC.region ?_
      first | refine WR.step (Ex.loadM H rfl (by assumption) Tryd.isAgg3) (Wn.none rfl) rfl rfl ?_ | refine WR.step (Ex.load1 H rfl (by repeat (first | exact List.Mem.head _ | apply List.Mem.tail)) Tryd.isAgg3 (by rfl)) (Wn.none rfl) rfl rfl ?_
      refine WR.step (Ex.move rfl) (Wn.none rfl) rfl rfl ?_
      refine WR.step (Ex.lenStr Tryd.underlying9 rfl) (Wn.none rfl) rfl rfl ?_
      refine WR.step (Ex.add64 rfl rfl (by omega)) (Wn.none rfl) rfl rfl ?_
      refine WR.store [_] H rfl rfl rfl (by repeat (first | exact Upd.head | apply Upd.tail)) Tryd.sizeOf3 rfl (by rfl) (by rfl) (Wn.none rfl) ?_
      intro w H
      refine WR.nil ?_
      refine WQ.inBlock ?_
      refine WQ.roundOn hrc H ⟨?_, ?_⟩
      · simp
      · rw [hcut, if_neg (by omega)]; simp
  ·
    intro Dm w M Lc H hle hz
    obtain ⟨rfl, hcut⟩ := hz
    have hk : cutN most (pieces l) 0 = (pieces l).flatten.length := by rw [hcut, List.drop_length]; rfl
    rw [← hk] at H
    have hkl := cutN_le most (pieces l) 0
    rw [pieces_flat] at hkl
    simp only [List.cons_append, List.nil_append] at H
    refine WQ.inBlock ?_
    refine WQ.then ?_
    refine WC.seq ?_
    refine WC.draw (m := 6) rfl rfl H ?_
    intro w H
    refine WA.take (i := 0) rfl (by kernel_rfl) (by kernel_rfl) (by kernel_rfl) (fun _ => Ex.move rfl) (Wn.none rfl) rfl rfl (fun _ _ => rfl) ?_
    refine WA.two (i := 1) (j := 3) (by kernel_rfl) rfl rfl ?_ ?_
    ·
      first | refine WR.step (Ex.loadM H rfl (by assumption) Tryd.isAgg3) (Wn.none rfl) rfl rfl ?_ | refine WR.step (Ex.load1 H rfl (by repeat (first | exact List.Mem.head _ | apply List.Mem.tail)) Tryd.isAgg3 (by rfl)) (Wn.none rfl) rfl rfl ?_
      refine WR.nil (WQ.any ?_)
      refine WA.take (i := 2) rfl (by kernel_rfl) (by kernel_rfl) (by kernel_rfl) (fun _ => Ex.sliceStr (i := 0) (j := cutN most (pieces l) 0) Tryd.underlying9 rfl (.inr ⟨rfl, rfl⟩) (.inl ⟨_, rfl, rfl⟩) (by omega) (by omega)) (Wn.none rfl) rfl rfl (fun _ _ => rfl) ?_
      refine WA.one (i := 3) (by kernel_rfl) rfl ?_
      refine WR.call H (none_spec) rfl (trivial) (Wn.none rfl) rfl ?_
      intro v31 M w H hle hr31
      obtain rfl := hr31
      refine WR.nil (WQ.any ?_)
      refine WA.one (i := 4) (by kernel_rfl) rfl ?_
      refine WR.step (Ex.assign rfl) (Wn.none rfl) rfl rfl ?_
      refine WR.nil (WQ.any ?_)
      refine WA.one (i := 5) (by kernel_rfl) rfl ?_
      refine WR.store [_, _] H rfl rfl rfl (by repeat (first | exact Upd.head | apply Upd.tail)) Tryd.sizeOf28 rfl (by rfl) (by rfl) (Wn.none rfl) ?_
      intro w H
      refine WR.nil (WQ.any ?_)
      refine WA.done (by kernel_rfl) ?_
      refine WQ.then ?_
      refine WC.ret ?_
      (repeat (first | refine WQ.thenRet ?_ | refine WQ.inBlockRet ?_))
      refine WQ.retM1 H (by repeat (first | exact Rem.head | apply Rem.tail)) ?_
      intro w H
      refine ⟨_, resv_run2 rfl rfl ⟨_, rfl, H.loadAgg (by repeat (first | exact List.Mem.head _ | apply List.Mem.tail)) Tryd.isAgg28 Tryd.sizeOf28 (by rfl)⟩, _, _, rfl, H.ext, ?_⟩
      exact rfl
    ·
      refine WR.call H (none_spec) rfl (trivial) (Wn.none rfl) rfl ?_
      intro v31 M w H hle hr31
      obtain rfl := hr31
      refine WR.nil (WQ.any ?_)
      refine WA.one (i := 1) (by kernel_rfl) rfl ?_
      first | refine WR.step (Ex.loadM H rfl (by assumption) Tryd.isAgg3) (Wn.none rfl) rfl rfl ?_ | refine WR.step (Ex.load1 H rfl (by repeat (first | exact List.Mem.head _ | apply List.Mem.tail)) Tryd.isAgg3 (by rfl)) (Wn.none rfl) rfl rfl ?_
      refine WR.nil (WQ.any ?_)
      refine WA.one (i := 2) (by kernel_rfl) rfl ?_
      refine WR.step (Ex.sliceStr (i := 0) (j := cutN most (pieces l) 0) Tryd.underlying9 rfl (.inr ⟨rfl, rfl⟩) (.inl ⟨_, rfl, rfl⟩) (by omega) (by omega)) (Wn.none rfl) rfl rfl ?_
      refine WR.nil (WQ.any ?_)
      refine WA.one (i := 4) (by kernel_rfl) rfl ?_
      refine WR.step (Ex.assign rfl) (Wn.none rfl) rfl rfl ?_
      refine WR.nil (WQ.any ?_)
      refine WA.one (i := 5) (by kernel_rfl) rfl ?_
      refine WR.store [_, _] H rfl rfl rfl (by repeat (first | exact Upd.head | apply Upd.tail)) Tryd.sizeOf28 rfl (by rfl) (by rfl) (Wn.none rfl) ?_
      intro w H
      refine WR.nil (WQ.any ?_)
      refine WA.done (by kernel_rfl) ?_
      refine WQ.then ?_
      refine WC.ret ?_
      (repeat (first | refine WQ.thenRet ?_ | refine WQ.inBlockRet ?_))
      refine WQ.retM1 H (by repeat (first | exact Rem.head | apply Rem.tail)) ?_
      intro w H
      refine ⟨_, resv_run2 rfl rfl ⟨_, rfl, H.loadAgg (by repeat (first | exact List.Mem.head _ | apply List.Mem.tail)) Tryd.isAgg28 Tryd.sizeOf28 (by rfl)⟩, _, _, rfl, H.ext, ?_⟩
      exact rfl
  ·
    intro Dm w M Lc c pre H hle hpre hz
    obtain ⟨rfl, rfl⟩ := hz
    have hkl := cutN_le most (pieces l) 0
    rw [pieces_flat] at hkl
    simp only [List.cons_append, List.nil_append] at H
    refine WC.exit ?_
    refine WQ.exitHere ?_
    refine WQ.then ?_
    refine WC.seq ?_
    refine WC.draw (m := 6) rfl rfl H ?_
    intro w H
    refine WA.take (i := 0) rfl (by kernel_rfl) (by kernel_rfl) (by kernel_rfl) (fun _ => Ex.move rfl) (Wn.none rfl) rfl rfl (fun _ _ => rfl) ?_
    refine WA.two (i := 1) (j := 3) (by kernel_rfl) rfl rfl ?_ ?_
    ·
      first | refine WR.step (Ex.loadM H rfl (by assumption) Tryd.isAgg3) (Wn.none rfl) rfl rfl ?_ | refine WR.step (Ex.load1 H rfl (by repeat (first | exact List.Mem.head _ | apply List.Mem.tail)) Tryd.isAgg3 (by rfl)) (Wn.none rfl) rfl rfl ?_
      refine WR.nil (WQ.any ?_)
      refine WA.take (i := 2) rfl (by kernel_rfl) (by kernel_rfl) (by kernel_rfl) (fun _ => Ex.sliceStr (i := 0) (j := cutN most (pieces l) 0) Tryd.underlying9 rfl (.inr ⟨rfl, rfl⟩) (.inl ⟨_, rfl, rfl⟩) (by omega) (by omega)) (Wn.none rfl) rfl rfl (fun _ _ => rfl) ?_
      refine WA.one (i := 3) (by kernel_rfl) rfl ?_
      refine WR.call H (none_spec) rfl (trivial) (Wn.none rfl) rfl ?_
      intro v31 M w H hle hr31
      obtain rfl := hr31
      refine WR.nil (WQ.any ?_)
      refine WA.one (i := 4) (by kernel_rfl) rfl ?_
      refine WR.step (Ex.assign rfl) (Wn.none rfl) rfl rfl ?_
      refine WR.nil (WQ.any ?_)
      refine WA.one (i := 5) (by kernel_rfl) rfl ?_
      refine WR.store [_, _] H rfl rfl rfl (by repeat (first | exact Upd.head | apply Upd.tail)) Tryd.sizeOf28 rfl (by rfl) (by rfl) (Wn.none rfl) ?_
      intro w H
      refine WR.nil (WQ.any ?_)
      refine WA.done (by kernel_rfl) ?_
      refine WQ.then ?_
      refine WC.ret ?_
      (repeat (first | refine WQ.thenRet ?_ | refine WQ.inBlockRet ?_))
      refine WQ.retM1 H (by repeat (first | exact Rem.head | apply Rem.tail)) ?_
      intro w H
      refine ⟨_, resv_run2 rfl rfl ⟨_, rfl, H.loadAgg (by repeat (first | exact List.Mem.head _ | apply List.Mem.tail)) Tryd.isAgg28 Tryd.sizeOf28 (by rfl)⟩, _, _, rfl, H.ext, ?_⟩
      exact rfl
    ·
      refine WR.call H (none_spec) rfl (trivial) (Wn.none rfl) rfl ?_
      intro v31 M w H hle hr31
      obtain rfl := hr31
      refine WR.nil (WQ.any ?_)
      refine WA.one (i := 1) (by kernel_rfl) rfl ?_
      first | refine WR.step (Ex.loadM H rfl (by assumption) Tryd.isAgg3) (Wn.none rfl) rfl rfl ?_ | refine WR.step (Ex.load1 H rfl (by repeat (first | exact List.Mem.head _ | apply List.Mem.tail)) Tryd.isAgg3 (by rfl)) (Wn.none rfl) rfl rfl ?_
      refine WR.nil (WQ.any ?_)
      refine WA.one (i := 2) (by kernel_rfl) rfl ?_
      refine WR.step (Ex.sliceStr (i := 0) (j := cutN most (pieces l) 0) Tryd.underlying9 rfl (.inr ⟨rfl, rfl⟩) (.inl ⟨_, rfl, rfl⟩) (by omega) (by omega)) (Wn.none rfl) rfl rfl ?_
      refine WR.nil (WQ.any ?_)
      refine WA.one (i := 4) (by kernel_rfl) rfl ?_
      refine WR.step (Ex.assign rfl) (Wn.none rfl) rfl rfl ?_
      refine WR.nil (WQ.any ?_)
      refine WA.one (i := 5) (by kernel_rfl) rfl ?_
      refine WR.store [_, _] H rfl rfl rfl (by repeat (first | exact Upd.head | apply Upd.tail)) Tryd.sizeOf28 rfl (by rfl) (by rfl) (Wn.none rfl) ?_
      intro w H
      refine WR.nil (WQ.any ?_)
      refine WA.done (by kernel_rfl) ?_
      refine WQ.then ?_
      refine WC.ret ?_
      (repeat (first | refine WQ.thenRet ?_ | refine WQ.inBlockRet ?_))
      refine WQ.retM1 H (by repeat (first | exact Rem.head | apply Rem.tail)) ?_
      intro w H
      refine ⟨_, resv_run2 rfl rfl ⟨_, rfl, H.loadAgg (by repeat (first | exact List.Mem.head _ | apply List.Mem.tail)) Tryd.isAgg28 Tryd.sizeOf28 (by rfl)⟩, _, _, rfl, H.ext, ?_⟩
      exact rfl

end Go.Proofs.YtnjglbmaonbcbaaDoor
