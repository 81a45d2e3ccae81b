/-
  pieces of texts: walks over the program's own operations, written by a program of this repository (wip/tools/gen.py) out of a plan.
-/
import Derived.Test.YtnjglbmaonbcbaaDoorCls
import Derived.KernelRfl
set_option linter.unusedVariables false
set_option linter.unusedSimpArgs false
namespace Go.Proofs.YtnjglbmaonbcbaaDoor
open Go Go.RowKit Go.Ph

open Go.Ph.Gr Go.Ph.Utf
theorem pieces_iter (bb : Nat) (l : List UInt8) (hs : l.length ≤ 140737488355327) : IterCt Tryd.prog 45 [ptr bb 0] [.blk bb (.cells #[S l] 9)] (fun M => Tabs M) encS (pieces l) := by
  refine ⟨enters Tryd.func45 (by kernel_rfl) rfl, fun lid Z Zx hZ hY L0 w0 M0 hz H hp => calls_of_WC Tryd.func45 rfl rfl rfl ?_⟩
  generalize hC : feet ([.blk bb (.cells #[S l] 9)] ++ L0) = C at H ⊢
  simp only [List.cons_append, List.nil_append] at H
  refine WC.block ?_
  refine WC.loop3 (fun (t : List UInt8) (pre : List (List UInt8)) (Lc : List Ph.Item) => [(0, yv lid), (1, ptr bb 0)]) (fun (t : List UInt8) (pre : List (List UInt8)) (Lc : List Ph.Item) w => pieces l = pre ++ pieces t ∧ t.length ≤ l.length ∧ ∃ M, StX C w0 M0 M (.blk bb (.cells #[S t] 9) :: Lc) w ∧ Tabs M ∧ Z pre Lc M) (fun (t : List UInt8) (pre : List (List UInt8)) (Lc : List Ph.Item) => t.length) (l) ([]) (_) ⟨rfl, rfl, trivial⟩ (⟨rfl, Nat.le_refl _, M0, H, hp, hz⟩) ?_
  intro t pre Lc w
  rintro ⟨hpl, htl, M, H, htab, hzc⟩
  refine WC.seq ?_
  refine WC.seq ?_
  refine WC.region ?_
  first | refine WR.step (Ex.loadM H rfl (by assumption) Tryd.isAgg9) (Wn.none rfl) rfl rfl ?_ | refine WR.step (Ex.load1 H rfl (by repeat (first | exact List.Mem.head _ | apply List.Mem.tail)) Tryd.isAgg9 (by rfl)) (Wn.none rfl) rfl rfl ?_
  refine WR.split (Ex.strNeq rfl rfl) (Wn.none rfl) rfl rfl (fun h0_1 => ?_) (fun h0_1 => ?_)
  ·
    refine WR.nil ?_
    refine WQ.then ?_
    refine WC.condT rfl ?_
    refine WC.skip ?_
    refine WQ.then ?_
    refine WC.block ?_
    refine WC.seq ?_
    refine WC.region ?_
    first | refine WR.step (Ex.loadM H rfl (by assumption) Tryd.isAgg9) (Wn.none rfl) rfl rfl ?_ | refine WR.step (Ex.load1 H rfl (by repeat (first | exact List.Mem.head _ | apply List.Mem.tail)) Tryd.isAgg9 (by rfl)) (Wn.none rfl) rfl rfl ?_
    refine WR.call H (first_spec _ h0_1) rfl (by assumption) (Wn.none rfl) rfl ?_
    intro v10 M w H hle hr10
    replace htab := htab.mono hle
    replace hzc := hZ _ _ _ _ hzc hle
    obtain rfl := hr10
    refine WR.alloc [_, _, _] H Tryd.zeroValue68 rfl (Wn.none rfl) rfl ?_
    intro b3 w H
    refine WR.store [_, _, _] H rfl rfl rfl (by repeat (first | exact Upd.head | apply Upd.tail)) Tryd.sizeOf68 rfl (by rfl) (by rfl) (Wn.none rfl) ?_
    intro w H
    refine WR.nil ?_
    refine WQ.then ?_
    refine WC.seq ?_
    refine WC.region ?_
    refine WR.step (Ex.fieldAddr Tryd.underlying68 rfl Tryd.sizeOf3 (by decide) rfl) (Wn.none rfl) rfl rfl ?_
    first | refine WR.step (Ex.loadM H rfl (by assumption) Tryd.isAgg3) (Wn.none rfl) rfl rfl ?_ | refine WR.step (Ex.load1 H rfl (by repeat (first | exact List.Mem.head _ | apply List.Mem.tail)) Tryd.isAgg3 (by rfl)) (Wn.none rfl) rfl rfl ?_
    refine WR.step (Ex.assign rfl) (Wn.none rfl) rfl rfl ?_
    refine WR.step (Ex.assign rfl) (Wn.none rfl) rfl rfl ?_
    refine WR.nil ?_
    refine WQ.then ?_
    refine WC.cut1 (fun (fl : Nat) => [(0, yv lid), (1, ptr bb 0), (3, ptr b3 0), (4, encN (rune t).2), (5, encN fl)]) (fun (fl : Nat) w => fl = flN (rune t).1 0 ∧ ∃ M, StX C w0 M0 M (.blk b3 (.cells #[I (cls (rune t).1), .bool (decide ((rune t).1 < 0)), encN (rune t).2] 68) :: .blk bb (.cells #[S t] 9) :: Lc) w ∧ Tabs M ∧ Z pre Lc M) ?_ ?_
    ·
      refine WC.seq ?_
      refine WC.region ?_
      refine WR.step (Ex.fieldAddr Tryd.underlying68 rfl Tryd.sizeOf3 (by decide) rfl) (Wn.none rfl) rfl rfl ?_
      first | refine WR.step (Ex.loadM H rfl (by assumption) Tryd.isAgg3) (Wn.none rfl) rfl rfl ?_ | refine WR.step (Ex.load1 H rfl (by repeat (first | exact List.Mem.head _ | apply List.Mem.tail)) Tryd.isAgg3 (by rfl)) (Wn.none rfl) rfl rfl ?_
      refine WR.split (Ex.eql rfl rfl) (Wn.none rfl) rfl rfl (fun h3_2 => ?_) (fun h3_2 => ?_)
      ·
        refine WR.nil ?_
        refine WQ.then ?_
        refine WC.condT rfl ?_
        refine WC.region ?_
        refine WR.step (Ex.assign rfl) (Wn.none rfl) rfl rfl ?_
        refine WR.nil ?_
        refine WQ.meet1 (1) ⟨rfl, rfl, rfl, rfl, rfl, trivial⟩ ?_
        · refine ⟨by rw [flN_eq, if_pos h3_2], M, H, htab, hzc⟩
      ·
        refine WR.nil ?_
        refine WQ.then ?_
        refine WC.condF rfl ?_
        refine WC.skip ?_
        refine WQ.meet1 (0) ⟨rfl, rfl, rfl, rfl, rfl, trivial⟩ ?_
        · refine ⟨by rw [flN_eq, if_neg h3_2], M, H, htab, hzc⟩
    ·
      intro fl w
      rintro ⟨hfl, M, H, htab, hzc⟩
      have hps := pieces_start h0_1
      have hrs := rune_size t
      have hrs3 := hrs.2.2 h0_1
      have hn0 : 0 < (rune t).2 ∧ (rune t).2 ≤ t.length ∧ fl ≤ (rune t).2 := ⟨by omega, hrs3, by rw [hfl, flN_eq]; split <;> omega⟩
      have hsg := hps.1
      rw [← hfl] at hsg
      have hcu := hps.2
      refine WC.cut1 (fun (n : Nat) => [(0, yv lid), (1, ptr bb 0), (4, encN n)]) (fun (n : Nat) w => (0 < n ∧ n ≤ t.length) ∧ pieces t = t.take n :: pieces (t.drop n) ∧ ∃ M, StX C w0 M0 M (.blk bb (.cells #[S t] 9) :: Lc) w ∧ Tabs M ∧ Z pre Lc M) ?_ ?_
      ·
        refine WC.block ?_
        refine WC.loop5 (fun (n : Nat) (prev : Int) (sz : Nat) (fl : Nat) (cur : List Ch) => [(0, yv lid), (1, ptr bb 0), (3, ptr b3 0), (4, encN n), (5, encN fl)]) (fun (n : Nat) (prev : Int) (sz : Nat) (fl : Nat) (cur : List Ch) w => (0 < n ∧ n ≤ t.length ∧ fl ≤ n) ∧ pieces t = (seg cur prev fl (chars (t.drop n))).map byts ∧ byts cur = t.take n ∧ ∃ M, StX C w0 M0 M (.blk b3 (.cells #[I (cls prev), .bool (decide (prev < 0)), encN sz] 68) :: .blk bb (.cells #[S t] 9) :: Lc) w ∧ Tabs M ∧ Z pre Lc M) (fun (n : Nat) (prev : Int) (sz : Nat) (fl : Nat) (cur : List Ch) => t.length - n) (_) (_) (_) (_) (_) ⟨rfl, rfl, rfl, rfl, rfl, trivial⟩ (⟨hn0, hsg, hcu, M, H, htab, hzc⟩) ?_
        intro n prev sz fl cur w
        rintro ⟨hn0, hsg, hcu, M, H, htab, hzc⟩
        refine WC.seq ?_
        refine WC.seq ?_
        refine WC.region ?_
        refine WR.step (Ex.move rfl) (Wn.none rfl) rfl rfl ?_
        first | refine WR.step (Ex.loadM H rfl (by assumption) Tryd.isAgg9) (Wn.none rfl) rfl rfl ?_ | refine WR.step (Ex.load1 H rfl (by repeat (first | exact List.Mem.head _ | apply List.Mem.tail)) Tryd.isAgg9 (by rfl)) (Wn.none rfl) rfl rfl ?_
        refine WR.step (Ex.lenStr Tryd.underlying9 rfl) (Wn.none rfl) rfl rfl ?_
        refine WR.split (Ex.lss rfl rfl) (Wn.none rfl) rfl rfl (fun h5_3 => ?_) (fun h5_3 => ?_)
        ·
          have hne := drop_ne (t := t) (n := n) (by omega)
          have hrs := rune_size (t.drop n)
          have hrs3 := hrs.2.2 hne
          rw [List.length_drop] at hrs3
          refine WR.nil ?_
          refine WQ.then ?_
          refine WC.condT rfl ?_
          refine WC.skip ?_
          refine WQ.then ?_
          refine WC.block ?_
          refine WC.seq ?_
          refine WC.region ?_
          first | refine WR.step (Ex.loadM H rfl (by assumption) Tryd.isAgg9) (Wn.none rfl) rfl rfl ?_ | refine WR.step (Ex.load1 H rfl (by repeat (first | exact List.Mem.head _ | apply List.Mem.tail)) Tryd.isAgg9 (by rfl)) (Wn.none rfl) rfl rfl ?_
          refine WR.step (Ex.move rfl) (Wn.none rfl) rfl rfl ?_
          refine WR.stepE (v' := S (t.drop n)) (Ex.sliceStr (i := n) (j := t.length) Tryd.underlying9 rfl (.inl ⟨_, rfl, rfl⟩) (.inr ⟨rfl, rfl⟩) (by omega) (by omega)) (by rw [List.take_length]) (Wn.none rfl) rfl rfl ?_
          refine WR.call H (first_spec _ hne) rfl (by assumption) (Wn.none rfl) rfl ?_
          intro v23 M w H hle hr23
          replace htab := htab.mono hle
          replace hzc := hZ _ _ _ _ hzc hle
          obtain rfl := hr23
          refine WR.alloc [_, _, _] H Tryd.zeroValue68 rfl (Wn.none rfl) rfl ?_
          intro b6 w H
          refine WR.store [_, _, _] H rfl rfl rfl (by repeat (first | exact Upd.head | apply Upd.tail)) Tryd.sizeOf68 rfl (by rfl) (by rfl) (Wn.none rfl) ?_
          intro w H
          refine WR.nil ?_
          refine WQ.then ?_
          refine WC.seq ?_
          refine WC.seq ?_
          refine WC.region ?_
          first | refine WR.step (Ex.loadAgg H rfl (by repeat (first | exact List.Mem.head _ | apply List.Mem.tail)) Tryd.isAgg68 Tryd.sizeOf68 (by rfl)) (Wn.none rfl) rfl rfl ?_ | refine WR.step (Ex.loadAggM H rfl (by assumption) Tryd.isAgg68 Tryd.sizeOf68 (by rfl)) (Wn.none rfl) rfl rfl ?_
          first | refine WR.step (Ex.loadAgg H rfl (by repeat (first | exact List.Mem.head _ | apply List.Mem.tail)) Tryd.isAgg68 Tryd.sizeOf68 (by rfl)) (Wn.none rfl) rfl rfl ?_ | refine WR.step (Ex.loadAggM H rfl (by assumption) Tryd.isAgg68 Tryd.sizeOf68 (by rfl)) (Wn.none rfl) rfl rfl ?_
          refine WR.step (Ex.move rfl) (Wn.none rfl) rfl rfl ?_
          by_cases h7_3 : con prev (rune (t.drop n)).1 fl = true
          ·
            obtain ⟨cur2, hsg2, hcu2⟩ := seg_next (t := t) (by omega) h7_3 hcu
            refine WR.call H (Ct.mono (Ct.mono (cont_spec _ _ _ _ _) (R' := fun r _ => r = .bool (decide (con prev (rune (t.drop n)).1 fl = true))) (fun _ _ h => h.trans (congrArg Value.bool (by simp)))) (R' := fun r _ => r = .bool true) (fun _ _ h => h.trans (congrArg Value.bool (decide_eq_true h7_3)))) rfl (trivial) (Wn.none rfl) rfl ?_
            intro v27 M w H hle hr27
            replace htab := htab.mono hle
            replace hzc := hZ _ _ _ _ hzc hle
            obtain rfl := hr27
            refine WR.step (Ex.notT rfl) (Wn.none rfl) rfl rfl ?_
            refine WR.nil ?_
            refine WQ.then ?_
            refine WC.condF rfl ?_
            refine WC.skip ?_
            refine WQ.then ?_
            refine WC.seq ?_
            refine WC.seq ?_
            refine WC.region ?_
            refine WR.step (Ex.move rfl) (Wn.none rfl) rfl rfl ?_
            refine WR.step (Ex.add64 rfl rfl (by omega)) (Wn.none rfl) rfl rfl ?_
            refine WR.step (Ex.assign rfl) (Wn.none rfl) rfl rfl ?_
            refine WR.nil ?_
            refine WQ.then ?_
            refine WC.seq ?_
            refine WC.region ?_
            refine WR.step (Ex.fieldAddr Tryd.underlying68 rfl Tryd.sizeOf3 (by decide) rfl) (Wn.none rfl) rfl rfl ?_
            first | refine WR.step (Ex.loadM H rfl (by assumption) Tryd.isAgg3) (Wn.none rfl) rfl rfl ?_ | refine WR.step (Ex.load1 H rfl (by repeat (first | exact List.Mem.head _ | apply List.Mem.tail)) Tryd.isAgg3 (by rfl)) (Wn.none rfl) rfl rfl ?_
            refine WR.split (Ex.neq rfl rfl) (Wn.none rfl) rfl rfl (fun h9_2 => ?_) (fun h9_2 => ?_)
            ·
              refine WR.nil ?_
              refine WQ.then ?_
              refine WC.condT rfl ?_
              refine WC.region ?_
              refine WR.step (Ex.assign rfl) (Wn.none rfl) rfl rfl ?_
              refine WR.nil ?_
              refine WQ.then ?_
              refine WC.seq ?_
              refine WC.region ?_
              refine WR.step (Ex.move rfl) (Wn.none rfl) rfl rfl ?_
              refine WR.step (Ex.fieldAddr Tryd.underlying68 rfl Tryd.sizeOf3 (by decide) rfl) (Wn.none rfl) rfl rfl ?_
              first | refine WR.step (Ex.loadM H rfl (by assumption) Tryd.isAgg3) (Wn.none rfl) rfl rfl ?_ | refine WR.step (Ex.load1 H rfl (by repeat (first | exact List.Mem.head _ | apply List.Mem.tail)) Tryd.isAgg3 (by rfl)) (Wn.none rfl) rfl rfl ?_
              refine WR.step (Ex.add64 rfl rfl (by omega)) (Wn.none rfl) rfl rfl ?_
              refine WR.step (Ex.assign rfl) (Wn.none rfl) rfl rfl ?_
              refine WR.nil ?_
              refine WQ.then ?_
              refine WC.region ?_
              first | refine WR.step (Ex.loadAgg H rfl (by repeat (first | exact List.Mem.head _ | apply List.Mem.tail)) Tryd.isAgg68 Tryd.sizeOf68 (by rfl)) (Wn.none rfl) rfl rfl ?_ | refine WR.step (Ex.loadAggM H rfl (by assumption) Tryd.isAgg68 Tryd.sizeOf68 (by rfl)) (Wn.none rfl) rfl rfl ?_
              refine WR.store [_, _, _] H rfl rfl rfl (by repeat (first | exact Upd.head | apply Upd.tail)) Tryd.sizeOf68 rfl (by rfl) (by rfl) (Wn.none rfl) ?_
              intro w H
              refine WR.nil ?_
              refine WQ.inBlock ?_
              refine WQ.again5 (n + (rune (t.drop n)).2) ((rune (t.drop n)).1) ((rune (t.drop n)).2) (0) (cur2) ⟨rfl, rfl, rfl, rfl, rfl, trivial⟩ ?_ ?_
              · refine ⟨by omega, ?_, hcu2, M, H.drop (List.sublist_cons_self _ _), htab, hzc⟩
                rw [hsg, hsg2, flN_eq, if_neg (by omega)]
              · omega
            ·
              refine WR.nil ?_
              refine WQ.then ?_
              refine WC.condF rfl ?_
              refine WC.skip ?_
              refine WQ.then ?_
              refine WC.seq ?_
              refine WC.region ?_
              refine WR.step (Ex.move rfl) (Wn.none rfl) rfl rfl ?_
              refine WR.step (Ex.fieldAddr Tryd.underlying68 rfl Tryd.sizeOf3 (by decide) rfl) (Wn.none rfl) rfl rfl ?_
              first | refine WR.step (Ex.loadM H rfl (by assumption) Tryd.isAgg3) (Wn.none rfl) rfl rfl ?_ | refine WR.step (Ex.load1 H rfl (by repeat (first | exact List.Mem.head _ | apply List.Mem.tail)) Tryd.isAgg3 (by rfl)) (Wn.none rfl) rfl rfl ?_
              refine WR.step (Ex.add64 rfl rfl (by omega)) (Wn.none rfl) rfl rfl ?_
              refine WR.step (Ex.assign rfl) (Wn.none rfl) rfl rfl ?_
              refine WR.nil ?_
              refine WQ.then ?_
              refine WC.region ?_
              first | refine WR.step (Ex.loadAgg H rfl (by repeat (first | exact List.Mem.head _ | apply List.Mem.tail)) Tryd.isAgg68 Tryd.sizeOf68 (by rfl)) (Wn.none rfl) rfl rfl ?_ | refine WR.step (Ex.loadAggM H rfl (by assumption) Tryd.isAgg68 Tryd.sizeOf68 (by rfl)) (Wn.none rfl) rfl rfl ?_
              refine WR.store [_, _, _] H rfl rfl rfl (by repeat (first | exact Upd.head | apply Upd.tail)) Tryd.sizeOf68 rfl (by rfl) (by rfl) (Wn.none rfl) ?_
              intro w H
              refine WR.nil ?_
              refine WQ.inBlock ?_
              refine WQ.again5 (n + (rune (t.drop n)).2) ((rune (t.drop n)).1) ((rune (t.drop n)).2) (fl + 1) (cur2) ⟨rfl, rfl, rfl, rfl, rfl, trivial⟩ ?_ ?_
              · refine ⟨by omega, ?_, hcu2, M, H.drop (List.sublist_cons_self _ _), htab, hzc⟩
                rw [hsg, hsg2, flN_eq, if_pos (by omega)]
              · omega
          ·
            have h7c : con prev (rune (t.drop n)).1 fl = false := by simpa using h7_3
            refine WR.call H (Ct.mono (Ct.mono (cont_spec _ _ _ _ _) (R' := fun r _ => r = .bool (decide (con prev (rune (t.drop n)).1 fl = true))) (fun _ _ h => h.trans (congrArg Value.bool (by simp)))) (R' := fun r _ => r = .bool false) (fun _ _ h => h.trans (congrArg Value.bool (decide_eq_false h7_3)))) rfl (trivial) (Wn.none rfl) rfl ?_
            intro v27 M w H hle hr27
            replace htab := htab.mono hle
            replace hzc := hZ _ _ _ _ hzc hle
            obtain rfl := hr27
            refine WR.step (Ex.notF rfl) (Wn.none rfl) rfl rfl ?_
            refine WR.nil ?_
            refine WQ.then ?_
            refine WC.condT rfl ?_
            refine WC.exit ?_
            refine WQ.thenExit ?_
            refine WQ.exitOut rfl ?_
            refine WQ.thenExit ?_
            refine WQ.exitHere ?_
            refine WQ.meet1 (n) ⟨rfl, rfl, rfl, trivial⟩ ?_
            refine ⟨⟨hn0.1, hn0.2.1⟩, hsg.trans ?_, M, H.drop ((List.sublist_cons_self _ _).trans (List.sublist_cons_self _ _)), htab, hzc⟩
            exact seg_stop (by omega) h7c hcu
        ·
          refine WR.nil ?_
          refine WQ.then ?_
          refine WC.condF rfl ?_
          refine WC.exit ?_
          refine WQ.thenExit ?_
          refine WQ.thenExit ?_
          refine WQ.exitHere ?_
          refine WQ.meet1 (n) ⟨rfl, rfl, rfl, trivial⟩ ?_
          refine ⟨⟨hn0.1, hn0.2.1⟩, hsg.trans ?_, M, H.drop (List.sublist_cons_self _ _), htab, hzc⟩
          exact seg_end (by omega) hcu
      ·
        intro n w
        rintro ⟨hn0, hpt, M, H, htab, hzc⟩
        refine WC.seq ?_
        refine WC.seq ?_
        refine WC.region ?_
        refine WR.step (Ex.move rfl) (Wn.none rfl) rfl rfl ?_
        first | refine WR.step (Ex.loadM H rfl (by assumption) Tryd.isAgg9) (Wn.none rfl) rfl rfl ?_ | refine WR.step (Ex.load1 H rfl (by repeat (first | exact List.Mem.head _ | apply List.Mem.tail)) Tryd.isAgg9 (by rfl)) (Wn.none rfl) rfl rfl ?_
        refine WR.step (Ex.move rfl) (Wn.none rfl) rfl rfl ?_
        refine WR.stepE (v' := S (t.take n)) (Ex.sliceStr (i := 0) (j := n) Tryd.underlying9 rfl (.inr ⟨rfl, rfl⟩) (.inl ⟨_, rfl, rfl⟩) (by omega) (by omega)) rfl (Wn.none rfl) rfl rfl ?_
        have hpre : (pre ++ [t.take n]) <+: pieces l := pieces_ini hpl hpt
        refine WR.yield (hY _ _ _ _ _ hpre hzc (H.hand (.right (Spl.whole _)))) rfl rfl (Wn.none rfl) rfl ?_
        rintro en w ⟨M, Lc, Hs, hcase⟩
        replace H := (H.back (.right (Spl.whole _)) Hs).perm List.perm_append_comm
        simp only [List.cons_append, List.nil_append] at H
        replace htab := htab.mono Hs.ext.le
        rcases hcase with ⟨rfl, hzc⟩ | ⟨rfl, hzc⟩
        · refine ⟨true, rfl, ?_⟩
          refine WR.step (Ex.notT rfl) (Wn.none rfl) rfl rfl ?_
          refine WR.nil ?_
          refine WQ.then ?_
          refine WC.condF rfl ?_
          refine WC.skip ?_
          refine WQ.then ?_
          refine WC.region ?_
          first | refine WR.step (Ex.loadM H rfl (by assumption) Tryd.isAgg9) (Wn.none rfl) rfl rfl ?_ | refine WR.step (Ex.load1 H rfl (by repeat (first | exact List.Mem.head _ | apply List.Mem.tail)) Tryd.isAgg9 (by rfl)) (Wn.none rfl) rfl rfl ?_
          refine WR.step (Ex.move rfl) (Wn.none rfl) rfl rfl ?_
          refine WR.stepE (v' := S (t.drop n)) (Ex.sliceStr (i := n) (j := t.length) Tryd.underlying9 rfl (.inl ⟨_, rfl, rfl⟩) (.inr ⟨rfl, rfl⟩) (by omega) (by omega)) (by rw [List.take_length]) (Wn.none rfl) rfl rfl ?_
          refine WR.store [_] H rfl rfl rfl (by repeat (first | exact Upd.head | apply Upd.tail)) Tryd.sizeOf9 rfl (by rfl) (by rfl) (Wn.none rfl) ?_
          intro w H
          refine WR.nil ?_
          refine WQ.inBlock ?_
          refine WQ.again3 (t.drop n) (pre ++ [t.take n]) (Lc) ⟨rfl, rfl, trivial⟩ ?_ ?_
          · refine ⟨by rw [hpl, hpt]; simp, by rw [List.length_drop]; omega, M, ?_, htab, hzc⟩
            exact H
          · rw [List.length_drop]; omega
        · refine ⟨false, rfl, ?_⟩
          refine WR.step (Ex.notF rfl) (Wn.none rfl) rfl rfl ?_
          refine WR.nil ?_
          refine WQ.then ?_
          refine WC.condT rfl ?_
          refine WC.ret ?_
          (repeat (first | refine WQ.thenRet ?_ | refine WQ.inBlockRet ?_))
          refine WQ.ret0X rfl ?_
          subst hC
          exact ⟨_, M, Lc, rfl, H.drop (List.sublist_cons_self _ _), .inr ⟨_, hpre, hzc⟩⟩
  ·
    refine WR.nil ?_
    refine WQ.then ?_
    refine WC.condF rfl ?_
    refine WC.exit ?_
    refine WQ.thenExit ?_
    refine WQ.thenExit ?_
    refine WQ.exitHere ?_
    refine WQ.end0X rfl ?_
    subst hC
    obtain rfl : t = [] := by simpa using h0_1
    rw [pieces_nil, List.append_nil] at hpl
    rw [← hpl] at hzc
    exact ⟨_, M, Lc, rfl, H.drop (List.sublist_cons_self _ _), .inl hzc⟩

theorem pieces_spec (l : List UInt8) : CtO Tryd.prog 31 [S l] (fun _ => True) (fun r _ its => ∃ bb, r = .func (.func 45) #[] #[ptr bb 0] ∧ its = [.blk bb (.cells #[S l] 9)]) := by
  refine CtO.of Tryd.func31 (enters Tryd.func31 (by kernel_rfl) rfl) rfl rfl rfl ?_
  intro w0 M0 H hp
  refine WC.seq ?_
  refine WC.region ?_
  refine WR.box [_] H rfl rfl (Wn.none rfl) rfl ?_
  intro b1 w H
  refine WR.step (Ex.assign rfl) (Wn.none rfl) rfl rfl ?_
  refine WR.nil ?_
  refine WQ.then ?_
  refine WC.seq ?_
  refine WC.region ?_
  refine WR.step (Ex.makeFunc rfl) (Wn.none rfl) rfl rfl ?_
  refine WR.step (Ex.assign rfl) (Wn.none rfl) rfl rfl ?_
  refine WR.nil ?_
  refine WQ.then ?_
  refine WC.ret ?_
  (repeat (first | refine WQ.thenRet ?_ | refine WQ.inBlockRet ?_))
  refine WQ.ret1O rfl rfl H (List.Sublist.refl _) ?_
  exact ⟨_, rfl, rfl⟩

end Go.Proofs.YtnjglbmaonbcbaaDoor
