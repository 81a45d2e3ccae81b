/-
  the reference: pieces: walks over the program's own operations, written by a program of this repository (wip/tools/gen.py) out of a plan.
-/
import Derived.Test.YtnjglbmaonbcbaaDoorRls
import Derived.Test.YtnjglbmaonbcbaaDoorSet
import Derived.Test.YtnjglbmaonbcbaaDoorGrRef
import Derived.KernelRfl
set_option linter.unusedVariables false
set_option linter.unusedSimpArgs false
namespace Go.Proofs.YtnjglbmaonbcbaaDoor
open Go Go.RowKit Go.Ph

open Go.Ph.Gr Go.Ph.Utf
theorem rpieces_spec (l : List UInt8) (hs : l.length ≤ 1048576) : Ct Tryd.prog 16 [S l] (fun _ => True) (fun r M => Sl M encS r (pieces l)) := by
  refine Ct.of Tryd.func16 (enters Tryd.func16 (by kernel_rfl) rfl) rfl rfl rfl ?_
  intro w0 M0 H hp
  refine WC.seq ?_
  refine WC.region ?_
  refine WR.step (Ex.assign rfl) (Wn.none rfl) rfl rfl ?_
  refine WR.nil ?_
  refine WQ.then ?_
  refine WC.seq ?_
  refine WC.region ?_
  refine WR.step (Ex.move rfl) (Wn.none rfl) rfl rfl ?_
  refine WR.call H (runes_spec _ (by omega)) rfl (trivial) (Wn.none rfl) rfl ?_
  intro v12 M w H hle hr12
  have hf12 := hr12
  refine WR.step (Ex.assign rfl) (Wn.none rfl) rfl rfl ?_
  refine WR.nil ?_
  refine WQ.then ?_
  refine WC.seq ?_
  refine WC.region ?_
  refine WR.step (Ex.assign rfl) (Wn.none rfl) rfl rfl ?_
  refine WR.nil ?_
  refine WQ.then ?_
  refine WC.seq ?_
  refine WC.region ?_
  refine WR.step (Ex.assign rfl) (Wn.none rfl) rfl rfl ?_
  refine WR.nil ?_
  refine WQ.then ?_
  refine WC.seq ?_
  refine WC.region ?_
  refine WR.step (Ex.assign rfl) (Wn.none rfl) rfl rfl ?_
  refine WR.nil ?_
  refine WQ.then ?_
  refine WC.seq ?_
  refine WC.seq ?_
  refine WC.region ?_
  refine WR.step (Ex.assign rfl) (Wn.none rfl) rfl rfl ?_
  refine WR.nil ?_
  refine WQ.then ?_
  refine WC.block ?_
  replace H := H.newRow 9 encS
  refine WC.loop5 (fun (i : Nat) (q : Nat) (v : Value) (o : List (List UInt8)) (fl : Nat) => [(0, S l), (3, v12), (4, v), (5, encN q), (6, encN fl), (7, encN i)]) (fun (i : Nat) (q : Nat) (v : Value) (o : List (List UInt8)) (fl : Nat) w => RP l i q o fl ∧ ∃ M, St w0 M0 M [RowI 9 encS v o] w ∧ Sl M encI v12 ((chars l).map (·.1))) (fun (i : Nat) (q : Nat) (v : Value) (o : List (List UInt8)) (fl : Nat) => (chars l).length - i) (0) (0) (_) (_) (0) ⟨rfl, rfl, rfl, rfl, rfl, rfl, trivial⟩ (⟨RP.start l, M, H, hf12⟩) ?_
  intro i q v o fl w
  rintro ⟨hR, M, H, hf12⟩
  have hsm := hR.small
  have hpl := hR.place
  have hfl := hR.len
  refine WC.seq ?_
  refine WC.seq ?_
  refine WC.region ?_
  refine WR.step (Ex.move rfl) (Wn.none rfl) rfl rfl ?_
  refine WR.step (Ex.move rfl) (Wn.none rfl) rfl rfl ?_
  first | refine WR.step (Ex.lenSl Tryd.underlying49 (by assumption) rfl) (Wn.none rfl) rfl rfl ?_ | refine WR.step (Ex.lenRow Tryd.underlying49 H (by repeat (first | exact List.Mem.head _ | apply List.Mem.tail)) rfl) (Wn.none rfl) rfl rfl ?_ | refine WR.step (Ex.lenSlice Tryd.underlying49 rfl) (Wn.none rfl) rfl rfl ?_
  refine WR.split (Ex.lss rfl rfl) (Wn.none rfl) rfl rfl (fun h6_3 => ?_) (fun h6_3 => ?_)
  ·
    have hic : i < (chars l).length := by rw [List.length_map] at h6_3; omega
    obtain ⟨hq, hget, hdrop⟩ := hR.more hic
    have hrs := rune_size (l.drop q)
    have hrs3 := hrs.2.2 (drop_ne hq)
    rw [List.length_drop] at hrs3
    have hri : ((chars l).map (·.1))[i]? = some (rune (l.drop q)).1 := by rw [List.getElem?_map, hget]; rfl
    refine WR.nil ?_
    refine WQ.then ?_
    refine WC.condT rfl ?_
    refine WC.skip ?_
    refine WQ.then ?_
    refine WC.seq ?_
    refine WC.block ?_
    refine WC.seq ?_
    refine WC.region ?_
    refine WR.step (Ex.move rfl) (Wn.none rfl) rfl rfl ?_
    refine WR.step (Ex.move rfl) (Wn.none rfl) rfl rfl ?_
    refine WR.call H (rune_spec _ _ hq (by omega)) rfl (trivial) (Wn.none rfl) rfl ?_
    intro v22 M w H hle hr22
    replace hf12 := hf12.mono hle
    obtain rfl := hr22
    refine WR.step (Ex.move rfl) (Wn.none rfl) rfl rfl ?_
    refine WR.step (Ex.extract rfl rfl) (Wn.none rfl) rfl rfl ?_
    refine WR.step (Ex.extract rfl rfl) (Wn.none rfl) rfl rfl ?_
    refine WR.step (Ex.assign rfl) (Wn.none rfl) rfl rfl ?_
    refine WR.step (Ex.assign rfl) (Wn.none rfl) rfl rfl ?_
    refine WR.nil ?_
    refine WQ.then ?_
    refine WC.seq ?_
    refine WC.region ?_
    refine WR.step (Ex.move rfl) (Wn.none rfl) rfl rfl ?_
    refine WR.step (Ex.move rfl) (Wn.none rfl) rfl rfl ?_
    refine WR.step (Ex.move rfl) (Wn.none rfl) rfl rfl ?_
    refine WR.step (Ex.move rfl) (Wn.none rfl) rfl rfl ?_
    refine WR.stepE (v' := encN (q + (rune (l.drop q)).2)) (Ex.add64 rfl rfl (by omega)) rfl (Wn.none rfl) rfl rfl ?_
    refine WR.stepE (v' := S ((l.drop q).take (rune (l.drop q)).2)) (Ex.sliceStr (i := q) (j := q + (rune (l.drop q)).2) Tryd.underlying9 rfl (.inl ⟨_, rfl, rfl⟩) (.inl ⟨_, rfl, rfl⟩) (by omega) (by omega)) (by rw [List.drop_take, Nat.add_sub_cancel_left]) (Wn.none rfl) rfl rfl ?_
    refine WR.step (Ex.assign rfl) (Wn.none rfl) rfl rfl ?_
    refine WR.nil ?_
    refine WQ.then ?_
    refine WC.seq ?_
    refine WC.seq ?_
    refine WC.region ?_
    refine WR.step (Ex.move rfl) (Wn.none rfl) rfl rfl ?_
    refine WR.split (Ex.gtr rfl rfl) (Wn.none rfl) rfl rfl (fun h10_1 => ?_) (fun h10_1 => ?_)
    ·
      obtain ⟨a, ha⟩ : ∃ a, ((chars l).map (·.1))[i - 1]? = some a := ⟨_, List.getElem?_eq_getElem (by rw [List.length_map]; omega)⟩
      have ha2 : ((chars l)[i - 1]?).map (·.1) = some a := by rw [← List.getElem?_map]; exact ha
      refine WR.step (Ex.move rfl) (Wn.none rfl) rfl rfl ?_
      refine WR.step (Ex.move rfl) (Wn.some rfl rfl rfl) rfl rfl ?_
      refine WR.step (Ex.move rfl) (Wn.some rfl rfl rfl) rfl rfl ?_
      refine WR.step (Ex.move rfl) (Wn.some rfl rfl rfl) rfl rfl ?_
      by_cases h10_6 : con a (rune (l.drop q)).1 fl = true
      ·
        obtain ⟨p, hp, hR2⟩ := hR.goes hic (by omega) ha2 h10_6
        have hol := (List.getElem?_eq_some_iff.1 hp).1
        have hpb : p.length ≤ q := by rw [← hfl]; exact (List.sublist_flatten_of_mem (List.mem_of_getElem? hp)).length_le
        refine WR.call H (Ct.mono (Ct.mono (rcont_spec _ _ i fl a (rune (l.drop q)).1 (by omega) ha hri) (R' := fun r _ => r = .bool (decide (con a (rune (l.drop q)).1 fl = true))) (fun _ _ h => h.trans (congrArg Value.bool (by simp)))) (R' := fun r _ => r = .bool true) (fun _ _ h => h.trans (congrArg Value.bool (decide_eq_true h10_6)))) rfl (by assumption) (Wn.some rfl rfl rfl) rfl ?_
        intro v37 M w H hle hr37
        replace hf12 := hf12.mono hle
        obtain rfl := hr37
        refine WR.step (Ex.pickT rfl rfl) (Wn.none rfl) rfl rfl ?_
        refine WR.nil ?_
        refine WQ.then ?_
        refine WC.condT rfl ?_
        refine WC.region ?_
        refine WR.step (Ex.move rfl) (Wn.none rfl) rfl rfl ?_
        refine WR.step (Ex.move rfl) (Wn.none rfl) rfl rfl ?_
        first | refine WR.step (Ex.lenSl Tryd.underlying24 (by assumption) rfl) (Wn.none rfl) rfl rfl ?_ | refine WR.step (Ex.lenRow Tryd.underlying24 H (by repeat (first | exact List.Mem.head _ | apply List.Mem.tail)) rfl) (Wn.none rfl) rfl rfl ?_ | refine WR.step (Ex.lenSlice Tryd.underlying24 rfl) (Wn.none rfl) rfl rfl ?_
        refine WR.stepE (v' := encN (o.length - 1)) (Ex.sub64 rfl rfl (by omega)) (congrArg I (by omega)) (Wn.none rfl) rfl rfl ?_
        refine WR.step (Ex.move rfl) (Wn.none rfl) rfl rfl ?_
        refine WR.step (Ex.move rfl) (Wn.none rfl) rfl rfl ?_
        first | refine WR.step (Ex.lenSl Tryd.underlying24 (by assumption) rfl) (Wn.none rfl) rfl rfl ?_ | refine WR.step (Ex.lenRow Tryd.underlying24 H (by repeat (first | exact List.Mem.head _ | apply List.Mem.tail)) rfl) (Wn.none rfl) rfl rfl ?_ | refine WR.step (Ex.lenSlice Tryd.underlying24 rfl) (Wn.none rfl) rfl rfl ?_
        refine WR.stepE (v' := encN (o.length - 1)) (Ex.sub64 rfl rfl (by omega)) (congrArg I (by omega)) (Wn.none rfl) rfl rfl ?_
        refine WR.idxRow H Tryd.underlying24 Tryd.sizeOf9 (by repeat (first | exact List.Mem.head _ | apply List.Mem.tail)) rfl rfl hp (Wn.none rfl) rfl ?_
        intro g47 hg47
        refine WR.step (Ex.loadRow H rfl hg47 (by repeat (first | exact List.Mem.head _ | apply List.Mem.tail)) hp Tryd.isAgg9) (Wn.none rfl) rfl rfl ?_
        refine WR.step (Ex.move rfl) (Wn.none rfl) rfl rfl ?_
        refine WR.step (Ex.strAdd rfl rfl (by rw [List.length_take, List.length_drop]; omega)) (Wn.none rfl) rfl rfl ?_
        refine WR.idxRow H Tryd.underlying24 Tryd.sizeOf9 (by repeat (first | exact List.Mem.head _ | apply List.Mem.tail)) rfl rfl hp (Wn.none rfl) rfl ?_
        intro g51 hg51
        refine WR.storeRow (enc := encS) (a := p ++ ((l.drop q).take (rune (l.drop q)).2)) H rfl rfl ⟨rfl, rfl⟩ hg51 (fun _ => by repeat (first | exact Upd.head | apply Upd.tail)) hol Tryd.sizeOf9 (Wn.none rfl) ?_
        intro w H
        refine WR.nil ?_
        refine WQ.then ?_
        refine WC.seq ?_
        refine WC.seq ?_
        refine WC.region ?_
        refine WR.step (Ex.move rfl) (Wn.none rfl) rfl rfl ?_
        refine WR.step (Ex.move rfl) (Wn.none rfl) rfl rfl ?_
        refine WR.idxSl Tryd.underlying49 Tryd.sizeOf3 (by assumption) rfl rfl (hri) (Wn.none rfl) rfl ?_
        intro p58 hc58
        first | refine WR.step (Ex.loadM H rfl (by assumption) Tryd.isAgg3) (Wn.none rfl) rfl rfl ?_ | refine WR.step (Ex.load1 H rfl (by repeat (first | exact List.Mem.head _ | apply List.Mem.tail)) Tryd.isAgg3 (by rfl)) (Wn.none rfl) rfl rfl ?_
        refine WR.split (Ex.geq rfl rfl) (Wn.none rfl) rfl rfl (fun h14_4 => ?_) (fun h14_4 => ?_)
        ·
          refine WR.step (Ex.move rfl) (Wn.none rfl) rfl rfl ?_
          refine WR.step (Ex.move rfl) (Wn.some rfl rfl rfl) rfl rfl ?_
          refine WR.step (Ex.move rfl) (Wn.some rfl rfl rfl) rfl rfl ?_
          refine WR.idxSl Tryd.underlying49 Tryd.sizeOf3 (by assumption) rfl rfl (hri) (Wn.some rfl rfl rfl) rfl ?_
          intro p64 hc64
          first | refine WR.step (Ex.loadM H rfl (by assumption) Tryd.isAgg3) (Wn.some rfl rfl rfl) rfl rfl ?_ | refine WR.step (Ex.load1 H rfl (by repeat (first | exact List.Mem.head _ | apply List.Mem.tail)) Tryd.isAgg3 (by rfl)) (Wn.some rfl rfl rfl) rfl rfl ?_
          refine WR.call H (class_spec _) rfl (trivial) (Wn.some rfl rfl rfl) rfl ?_
          intro v66 M w H hle hr66
          replace hf12 := hf12.mono hle
          replace hc58 := hc58.mono hle
          replace hc64 := hc64.mono hle
          obtain rfl := hr66
          refine WR.split (Ex.eql rfl rfl) (Wn.some rfl rfl rfl) rfl rfl (fun h14_11 => ?_) (fun h14_11 => ?_)
          ·
            refine WR.step (Ex.pickT rfl rfl) (Wn.none rfl) rfl rfl ?_
            refine WR.nil ?_
            refine WQ.then ?_
            refine WC.condT rfl ?_
            refine WC.region ?_
            refine WR.step (Ex.move rfl) (Wn.none rfl) rfl rfl ?_
            refine WR.step (Ex.add64 rfl rfl (by omega)) (Wn.none rfl) rfl rfl ?_
            refine WR.step (Ex.assign rfl) (Wn.none rfl) rfl rfl ?_
            refine WR.nil ?_
            refine WQ.then ?_
            refine WC.region ?_
            refine WR.step (Ex.move rfl) (Wn.none rfl) rfl rfl ?_
            refine WR.step (Ex.move rfl) (Wn.none rfl) rfl rfl ?_
            refine WR.stepE (v' := encN (q + (rune (l.drop q)).2)) (Ex.add64 rfl rfl (by omega)) rfl (Wn.none rfl) rfl rfl ?_
            refine WR.step (Ex.assign rfl) (Wn.none rfl) rfl rfl ?_
            refine WR.nil ?_
            refine WQ.inBlock ?_
            refine WQ.then ?_
            refine WC.region ?_
            refine WR.step (Ex.move rfl) (Wn.none rfl) rfl rfl ?_
            refine WR.stepE (v' := encN (i + 1)) (Ex.add64 rfl rfl (by omega)) rfl (Wn.none rfl) rfl rfl ?_
            refine WR.step (Ex.assign rfl) (Wn.none rfl) rfl rfl ?_
            refine WR.nil ?_
            refine WQ.again5 (i + 1) (q + (rune (l.drop q)).2) (v) (o.set (o.length - 1) (p ++ ((l.drop q).take (rune (l.drop q)).2))) (fl + 1) ⟨rfl, rfl, rfl, rfl, rfl, rfl, trivial⟩ ?_ ?_
            · refine ⟨?_, M, H, hf12⟩
              rw [show fl + 1 = flN (rune (l.drop q)).1 fl by rw [flN, if_pos ⟨by omega, by omega⟩]]
              exact hR2
            · rw [List.length_map] at h6_3; omega
          ·
            refine WR.step (Ex.pickT rfl rfl) (Wn.none rfl) rfl rfl ?_
            refine WR.nil ?_
            refine WQ.then ?_
            refine WC.condF rfl ?_
            refine WC.region ?_
            refine WR.step (Ex.assign rfl) (Wn.none rfl) rfl rfl ?_
            refine WR.nil ?_
            refine WQ.then ?_
            refine WC.region ?_
            refine WR.step (Ex.move rfl) (Wn.none rfl) rfl rfl ?_
            refine WR.step (Ex.move rfl) (Wn.none rfl) rfl rfl ?_
            refine WR.stepE (v' := encN (q + (rune (l.drop q)).2)) (Ex.add64 rfl rfl (by omega)) rfl (Wn.none rfl) rfl rfl ?_
            refine WR.step (Ex.assign rfl) (Wn.none rfl) rfl rfl ?_
            refine WR.nil ?_
            refine WQ.inBlock ?_
            refine WQ.then ?_
            refine WC.region ?_
            refine WR.step (Ex.move rfl) (Wn.none rfl) rfl rfl ?_
            refine WR.stepE (v' := encN (i + 1)) (Ex.add64 rfl rfl (by omega)) rfl (Wn.none rfl) rfl rfl ?_
            refine WR.step (Ex.assign rfl) (Wn.none rfl) rfl rfl ?_
            refine WR.nil ?_
            refine WQ.again5 (i + 1) (q + (rune (l.drop q)).2) (v) (o.set (o.length - 1) (p ++ ((l.drop q).take (rune (l.drop q)).2))) (0) ⟨rfl, rfl, rfl, rfl, rfl, rfl, trivial⟩ ?_ ?_
            · refine ⟨?_, M, H, hf12⟩
              rw [show 0 = flN (rune (l.drop q)).1 fl by rw [flN, if_neg (by omega)]]
              exact hR2
            · rw [List.length_map] at h6_3; omega
        ·
          refine WR.step (Ex.move rfl) (Wn.none rfl) rfl rfl ?_
          refine WR.skipG (b := false) rfl rfl rfl rfl rfl ?_
          refine WR.skipG (b := false) rfl rfl rfl rfl rfl ?_
          refine WR.skipG (b := false) rfl rfl rfl rfl rfl ?_
          refine WR.skipG (b := false) rfl rfl rfl rfl rfl ?_
          refine WR.skipG (b := false) rfl rfl rfl rfl rfl ?_
          refine WR.skipG (b := false) rfl rfl rfl rfl rfl ?_
          refine WR.step (Ex.pickF rfl rfl) (Wn.none rfl) rfl rfl ?_
          refine WR.nil ?_
          refine WQ.then ?_
          refine WC.condF rfl ?_
          refine WC.region ?_
          refine WR.step (Ex.assign rfl) (Wn.none rfl) rfl rfl ?_
          refine WR.nil ?_
          refine WQ.then ?_
          refine WC.region ?_
          refine WR.step (Ex.move rfl) (Wn.none rfl) rfl rfl ?_
          refine WR.step (Ex.move rfl) (Wn.none rfl) rfl rfl ?_
          refine WR.stepE (v' := encN (q + (rune (l.drop q)).2)) (Ex.add64 rfl rfl (by omega)) rfl (Wn.none rfl) rfl rfl ?_
          refine WR.step (Ex.assign rfl) (Wn.none rfl) rfl rfl ?_
          refine WR.nil ?_
          refine WQ.inBlock ?_
          refine WQ.then ?_
          refine WC.region ?_
          refine WR.step (Ex.move rfl) (Wn.none rfl) rfl rfl ?_
          refine WR.stepE (v' := encN (i + 1)) (Ex.add64 rfl rfl (by omega)) rfl (Wn.none rfl) rfl rfl ?_
          refine WR.step (Ex.assign rfl) (Wn.none rfl) rfl rfl ?_
          refine WR.nil ?_
          refine WQ.again5 (i + 1) (q + (rune (l.drop q)).2) (v) (o.set (o.length - 1) (p ++ ((l.drop q).take (rune (l.drop q)).2))) (0) ⟨rfl, rfl, rfl, rfl, rfl, rfl, trivial⟩ ?_ ?_
          · refine ⟨?_, M, H, hf12⟩
            rw [show 0 = flN (rune (l.drop q)).1 fl by rw [flN, if_neg (by omega)]]
            exact hR2
          · rw [List.length_map] at h6_3; omega
      ·
        have hR2 := hR.news hic (.inr ⟨a, by omega, ha2, by simpa using h10_6⟩)
        refine WR.call H (Ct.mono (Ct.mono (rcont_spec _ _ i fl a (rune (l.drop q)).1 (by omega) ha hri) (R' := fun r _ => r = .bool (decide (con a (rune (l.drop q)).1 fl = true))) (fun _ _ h => h.trans (congrArg Value.bool (by simp)))) (R' := fun r _ => r = .bool false) (fun _ _ h => h.trans (congrArg Value.bool (decide_eq_false h10_6)))) rfl (by assumption) (Wn.some rfl rfl rfl) rfl ?_
        intro v37 M w H hle hr37
        replace hf12 := hf12.mono hle
        obtain rfl := hr37
        refine WR.step (Ex.pickT rfl rfl) (Wn.none rfl) rfl rfl ?_
        refine WR.nil ?_
        refine WQ.then ?_
        refine WC.condF rfl ?_
        refine WC.seq ?_
        refine WC.region ?_
        refine WR.step (Ex.move rfl) (Wn.none rfl) rfl rfl ?_
        refine WR.step (Ex.move rfl) (Wn.none rfl) rfl rfl ?_
        refine WR.lit (enc := encS) ty24 [_] H rfl (by rfl) (fun _ => rfl) rfl rfl (Wn.none rfl) rfl ?_
        intro v54 M w H hle hl54
        replace hf12 := hf12.mono hle
        refine WR.appendSl ty24 (fun _ => rfl) H rfl (fun _ => by repeat (first | exact Upd.head | apply Upd.tail)) rfl (by assumption) (by first | omega | (simp only [List.length_append, List.length_cons, List.length_nil, List.length_take, List.length_drop]; omega)) (by first | (simp only [maxLen]; omega) | (simp only [maxLen, List.length_append, List.length_cons, List.length_nil, List.length_take, List.length_drop]; omega)) (Wn.none rfl) rfl ?_
        intro v55 w H
        refine WR.step (Ex.assign rfl) (Wn.none rfl) rfl rfl ?_
        refine WR.nil ?_
        refine WQ.then ?_
        refine WC.region ?_
        refine WR.step (Ex.assign rfl) (Wn.none rfl) rfl rfl ?_
        refine WR.nil ?_
        refine WQ.then ?_
        refine WC.seq ?_
        refine WC.seq ?_
        refine WC.region ?_
        refine WR.step (Ex.move rfl) (Wn.none rfl) rfl rfl ?_
        refine WR.step (Ex.move rfl) (Wn.none rfl) rfl rfl ?_
        refine WR.idxSl Tryd.underlying49 Tryd.sizeOf3 (by assumption) rfl rfl (hri) (Wn.none rfl) rfl ?_
        intro p58 hc58
        first | refine WR.step (Ex.loadM H rfl (by assumption) Tryd.isAgg3) (Wn.none rfl) rfl rfl ?_ | refine WR.step (Ex.load1 H rfl (by repeat (first | exact List.Mem.head _ | apply List.Mem.tail)) Tryd.isAgg3 (by rfl)) (Wn.none rfl) rfl rfl ?_
        refine WR.split (Ex.geq rfl rfl) (Wn.none rfl) rfl rfl (fun h14_4 => ?_) (fun h14_4 => ?_)
        ·
          refine WR.step (Ex.move rfl) (Wn.none rfl) rfl rfl ?_
          refine WR.step (Ex.move rfl) (Wn.some rfl rfl rfl) rfl rfl ?_
          refine WR.step (Ex.move rfl) (Wn.some rfl rfl rfl) rfl rfl ?_
          refine WR.idxSl Tryd.underlying49 Tryd.sizeOf3 (by assumption) rfl rfl (hri) (Wn.some rfl rfl rfl) rfl ?_
          intro p64 hc64
          first | refine WR.step (Ex.loadM H rfl (by assumption) Tryd.isAgg3) (Wn.some rfl rfl rfl) rfl rfl ?_ | refine WR.step (Ex.load1 H rfl (by repeat (first | exact List.Mem.head _ | apply List.Mem.tail)) Tryd.isAgg3 (by rfl)) (Wn.some rfl rfl rfl) rfl rfl ?_
          refine WR.call H (class_spec _) rfl (trivial) (Wn.some rfl rfl rfl) rfl ?_
          intro v66 M w H hle hr66
          replace hf12 := hf12.mono hle
          replace hl54 := hl54.mono hle
          replace hc58 := hc58.mono hle
          replace hc64 := hc64.mono hle
          obtain rfl := hr66
          refine WR.split (Ex.eql rfl rfl) (Wn.some rfl rfl rfl) rfl rfl (fun h14_11 => ?_) (fun h14_11 => ?_)
          ·
            refine WR.step (Ex.pickT rfl rfl) (Wn.none rfl) rfl rfl ?_
            refine WR.nil ?_
            refine WQ.then ?_
            refine WC.condT rfl ?_
            refine WC.region ?_
            refine WR.step (Ex.move rfl) (Wn.none rfl) rfl rfl ?_
            refine WR.step (Ex.add64 rfl rfl (by omega)) (Wn.none rfl) rfl rfl ?_
            refine WR.step (Ex.assign rfl) (Wn.none rfl) rfl rfl ?_
            refine WR.nil ?_
            refine WQ.then ?_
            refine WC.region ?_
            refine WR.step (Ex.move rfl) (Wn.none rfl) rfl rfl ?_
            refine WR.step (Ex.move rfl) (Wn.none rfl) rfl rfl ?_
            refine WR.stepE (v' := encN (q + (rune (l.drop q)).2)) (Ex.add64 rfl rfl (by omega)) rfl (Wn.none rfl) rfl rfl ?_
            refine WR.step (Ex.assign rfl) (Wn.none rfl) rfl rfl ?_
            refine WR.nil ?_
            refine WQ.inBlock ?_
            refine WQ.then ?_
            refine WC.region ?_
            refine WR.step (Ex.move rfl) (Wn.none rfl) rfl rfl ?_
            refine WR.stepE (v' := encN (i + 1)) (Ex.add64 rfl rfl (by omega)) rfl (Wn.none rfl) rfl rfl ?_
            refine WR.step (Ex.assign rfl) (Wn.none rfl) rfl rfl ?_
            refine WR.nil ?_
            refine WQ.again5 (i + 1) (q + (rune (l.drop q)).2) (v55) (o ++ [((l.drop q).take (rune (l.drop q)).2)]) (0 + 1) ⟨rfl, rfl, rfl, rfl, rfl, rfl, trivial⟩ ?_ ?_
            · refine ⟨?_, M, H, hf12⟩
              rw [show 0 + 1 = flN (rune (l.drop q)).1 0 by rw [flN, if_pos ⟨by omega, by omega⟩]]
              exact hR2
            · rw [List.length_map] at h6_3; omega
          ·
            refine WR.step (Ex.pickT rfl rfl) (Wn.none rfl) rfl rfl ?_
            refine WR.nil ?_
            refine WQ.then ?_
            refine WC.condF rfl ?_
            refine WC.region ?_
            refine WR.step (Ex.assign rfl) (Wn.none rfl) rfl rfl ?_
            refine WR.nil ?_
            refine WQ.then ?_
            refine WC.region ?_
            refine WR.step (Ex.move rfl) (Wn.none rfl) rfl rfl ?_
            refine WR.step (Ex.move rfl) (Wn.none rfl) rfl rfl ?_
            refine WR.stepE (v' := encN (q + (rune (l.drop q)).2)) (Ex.add64 rfl rfl (by omega)) rfl (Wn.none rfl) rfl rfl ?_
            refine WR.step (Ex.assign rfl) (Wn.none rfl) rfl rfl ?_
            refine WR.nil ?_
            refine WQ.inBlock ?_
            refine WQ.then ?_
            refine WC.region ?_
            refine WR.step (Ex.move rfl) (Wn.none rfl) rfl rfl ?_
            refine WR.stepE (v' := encN (i + 1)) (Ex.add64 rfl rfl (by omega)) rfl (Wn.none rfl) rfl rfl ?_
            refine WR.step (Ex.assign rfl) (Wn.none rfl) rfl rfl ?_
            refine WR.nil ?_
            refine WQ.again5 (i + 1) (q + (rune (l.drop q)).2) (v55) (o ++ [((l.drop q).take (rune (l.drop q)).2)]) (0) ⟨rfl, rfl, rfl, rfl, rfl, rfl, trivial⟩ ?_ ?_
            · refine ⟨?_, M, H, hf12⟩
              rw [show 0 = flN (rune (l.drop q)).1 0 by rw [flN, if_neg (by omega)]]
              exact hR2
            · rw [List.length_map] at h6_3; omega
        ·
          refine WR.step (Ex.move rfl) (Wn.none rfl) rfl rfl ?_
          refine WR.skipG (b := false) rfl rfl rfl rfl rfl ?_
          refine WR.skipG (b := false) rfl rfl rfl rfl rfl ?_
          refine WR.skipG (b := false) rfl rfl rfl rfl rfl ?_
          refine WR.skipG (b := false) rfl rfl rfl rfl rfl ?_
          refine WR.skipG (b := false) rfl rfl rfl rfl rfl ?_
          refine WR.skipG (b := false) rfl rfl rfl rfl rfl ?_
          refine WR.step (Ex.pickF rfl rfl) (Wn.none rfl) rfl rfl ?_
          refine WR.nil ?_
          refine WQ.then ?_
          refine WC.condF rfl ?_
          refine WC.region ?_
          refine WR.step (Ex.assign rfl) (Wn.none rfl) rfl rfl ?_
          refine WR.nil ?_
          refine WQ.then ?_
          refine WC.region ?_
          refine WR.step (Ex.move rfl) (Wn.none rfl) rfl rfl ?_
          refine WR.step (Ex.move rfl) (Wn.none rfl) rfl rfl ?_
          refine WR.stepE (v' := encN (q + (rune (l.drop q)).2)) (Ex.add64 rfl rfl (by omega)) rfl (Wn.none rfl) rfl rfl ?_
          refine WR.step (Ex.assign rfl) (Wn.none rfl) rfl rfl ?_
          refine WR.nil ?_
          refine WQ.inBlock ?_
          refine WQ.then ?_
          refine WC.region ?_
          refine WR.step (Ex.move rfl) (Wn.none rfl) rfl rfl ?_
          refine WR.stepE (v' := encN (i + 1)) (Ex.add64 rfl rfl (by omega)) rfl (Wn.none rfl) rfl rfl ?_
          refine WR.step (Ex.assign rfl) (Wn.none rfl) rfl rfl ?_
          refine WR.nil ?_
          refine WQ.again5 (i + 1) (q + (rune (l.drop q)).2) (v55) (o ++ [((l.drop q).take (rune (l.drop q)).2)]) (0) ⟨rfl, rfl, rfl, rfl, rfl, rfl, trivial⟩ ?_ ?_
          · refine ⟨?_, M, H, hf12⟩
            rw [show 0 = flN (rune (l.drop q)).1 0 by rw [flN, if_neg (by omega)]]
            exact hR2
          · rw [List.length_map] at h6_3; omega
    ·
      have hR2 := hR.news hic (.inl (by omega))
      refine WR.step (Ex.move rfl) (Wn.none rfl) rfl rfl ?_
      refine WR.skipG (b := false) rfl rfl rfl rfl rfl ?_
      refine WR.skipG (b := false) rfl rfl rfl rfl rfl ?_
      refine WR.skipG (b := false) rfl rfl rfl rfl rfl ?_
      refine WR.skipG (b := false) rfl rfl rfl rfl rfl ?_
      refine WR.step (Ex.pickF rfl rfl) (Wn.none rfl) rfl rfl ?_
      refine WR.nil ?_
      refine WQ.then ?_
      refine WC.condF rfl ?_
      refine WC.seq ?_
      refine WC.region ?_
      refine WR.step (Ex.move rfl) (Wn.none rfl) rfl rfl ?_
      refine WR.step (Ex.move rfl) (Wn.none rfl) rfl rfl ?_
      refine WR.lit (enc := encS) ty24 [_] H rfl (by rfl) (fun _ => rfl) rfl rfl (Wn.none rfl) rfl ?_
      intro v54 M w H hle hl54
      replace hf12 := hf12.mono hle
      refine WR.appendSl ty24 (fun _ => rfl) H rfl (fun _ => by repeat (first | exact Upd.head | apply Upd.tail)) rfl (by assumption) (by first | omega | (simp only [List.length_append, List.length_cons, List.length_nil, List.length_take, List.length_drop]; omega)) (by first | (simp only [maxLen]; omega) | (simp only [maxLen, List.length_append, List.length_cons, List.length_nil, List.length_take, List.length_drop]; omega)) (Wn.none rfl) rfl ?_
      intro v55 w H
      refine WR.step (Ex.assign rfl) (Wn.none rfl) rfl rfl ?_
      refine WR.nil ?_
      refine WQ.then ?_
      refine WC.region ?_
      refine WR.step (Ex.assign rfl) (Wn.none rfl) rfl rfl ?_
      refine WR.nil ?_
      refine WQ.then ?_
      refine WC.seq ?_
      refine WC.seq ?_
      refine WC.region ?_
      refine WR.step (Ex.move rfl) (Wn.none rfl) rfl rfl ?_
      refine WR.step (Ex.move rfl) (Wn.none rfl) rfl rfl ?_
      refine WR.idxSl Tryd.underlying49 Tryd.sizeOf3 (by assumption) rfl rfl (hri) (Wn.none rfl) rfl ?_
      intro p58 hc58
      first | refine WR.step (Ex.loadM H rfl (by assumption) Tryd.isAgg3) (Wn.none rfl) rfl rfl ?_ | refine WR.step (Ex.load1 H rfl (by repeat (first | exact List.Mem.head _ | apply List.Mem.tail)) Tryd.isAgg3 (by rfl)) (Wn.none rfl) rfl rfl ?_
      refine WR.split (Ex.geq rfl rfl) (Wn.none rfl) rfl rfl (fun h14_4 => ?_) (fun h14_4 => ?_)
      ·
        refine WR.step (Ex.move rfl) (Wn.none rfl) rfl rfl ?_
        refine WR.step (Ex.move rfl) (Wn.some rfl rfl rfl) rfl rfl ?_
        refine WR.step (Ex.move rfl) (Wn.some rfl rfl rfl) rfl rfl ?_
        refine WR.idxSl Tryd.underlying49 Tryd.sizeOf3 (by assumption) rfl rfl (hri) (Wn.some rfl rfl rfl) rfl ?_
        intro p64 hc64
        first | refine WR.step (Ex.loadM H rfl (by assumption) Tryd.isAgg3) (Wn.some rfl rfl rfl) rfl rfl ?_ | refine WR.step (Ex.load1 H rfl (by repeat (first | exact List.Mem.head _ | apply List.Mem.tail)) Tryd.isAgg3 (by rfl)) (Wn.some rfl rfl rfl) rfl rfl ?_
        refine WR.call H (class_spec _) rfl (trivial) (Wn.some rfl rfl rfl) rfl ?_
        intro v66 M w H hle hr66
        replace hf12 := hf12.mono hle
        replace hl54 := hl54.mono hle
        replace hc58 := hc58.mono hle
        replace hc64 := hc64.mono hle
        obtain rfl := hr66
        refine WR.split (Ex.eql rfl rfl) (Wn.some rfl rfl rfl) rfl rfl (fun h14_11 => ?_) (fun h14_11 => ?_)
        ·
          refine WR.step (Ex.pickT rfl rfl) (Wn.none rfl) rfl rfl ?_
          refine WR.nil ?_
          refine WQ.then ?_
          refine WC.condT rfl ?_
          refine WC.region ?_
          refine WR.step (Ex.move rfl) (Wn.none rfl) rfl rfl ?_
          refine WR.step (Ex.add64 rfl rfl (by omega)) (Wn.none rfl) rfl rfl ?_
          refine WR.step (Ex.assign rfl) (Wn.none rfl) rfl rfl ?_
          refine WR.nil ?_
          refine WQ.then ?_
          refine WC.region ?_
          refine WR.step (Ex.move rfl) (Wn.none rfl) rfl rfl ?_
          refine WR.step (Ex.move rfl) (Wn.none rfl) rfl rfl ?_
          refine WR.stepE (v' := encN (q + (rune (l.drop q)).2)) (Ex.add64 rfl rfl (by omega)) rfl (Wn.none rfl) rfl rfl ?_
          refine WR.step (Ex.assign rfl) (Wn.none rfl) rfl rfl ?_
          refine WR.nil ?_
          refine WQ.inBlock ?_
          refine WQ.then ?_
          refine WC.region ?_
          refine WR.step (Ex.move rfl) (Wn.none rfl) rfl rfl ?_
          refine WR.stepE (v' := encN (i + 1)) (Ex.add64 rfl rfl (by omega)) rfl (Wn.none rfl) rfl rfl ?_
          refine WR.step (Ex.assign rfl) (Wn.none rfl) rfl rfl ?_
          refine WR.nil ?_
          refine WQ.again5 (i + 1) (q + (rune (l.drop q)).2) (v55) (o ++ [((l.drop q).take (rune (l.drop q)).2)]) (0 + 1) ⟨rfl, rfl, rfl, rfl, rfl, rfl, trivial⟩ ?_ ?_
          · refine ⟨?_, M, H, hf12⟩
            rw [show 0 + 1 = flN (rune (l.drop q)).1 0 by rw [flN, if_pos ⟨by omega, by omega⟩]]
            exact hR2
          · rw [List.length_map] at h6_3; omega
        ·
          refine WR.step (Ex.pickT rfl rfl) (Wn.none rfl) rfl rfl ?_
          refine WR.nil ?_
          refine WQ.then ?_
          refine WC.condF rfl ?_
          refine WC.region ?_
          refine WR.step (Ex.assign rfl) (Wn.none rfl) rfl rfl ?_
          refine WR.nil ?_
          refine WQ.then ?_
          refine WC.region ?_
          refine WR.step (Ex.move rfl) (Wn.none rfl) rfl rfl ?_
          refine WR.step (Ex.move rfl) (Wn.none rfl) rfl rfl ?_
          refine WR.stepE (v' := encN (q + (rune (l.drop q)).2)) (Ex.add64 rfl rfl (by omega)) rfl (Wn.none rfl) rfl rfl ?_
          refine WR.step (Ex.assign rfl) (Wn.none rfl) rfl rfl ?_
          refine WR.nil ?_
          refine WQ.inBlock ?_
          refine WQ.then ?_
          refine WC.region ?_
          refine WR.step (Ex.move rfl) (Wn.none rfl) rfl rfl ?_
          refine WR.stepE (v' := encN (i + 1)) (Ex.add64 rfl rfl (by omega)) rfl (Wn.none rfl) rfl rfl ?_
          refine WR.step (Ex.assign rfl) (Wn.none rfl) rfl rfl ?_
          refine WR.nil ?_
          refine WQ.again5 (i + 1) (q + (rune (l.drop q)).2) (v55) (o ++ [((l.drop q).take (rune (l.drop q)).2)]) (0) ⟨rfl, rfl, rfl, rfl, rfl, rfl, trivial⟩ ?_ ?_
          · refine ⟨?_, M, H, hf12⟩
            rw [show 0 = flN (rune (l.drop q)).1 0 by rw [flN, if_neg (by omega)]]
            exact hR2
          · rw [List.length_map] at h6_3; omega
      ·
        refine WR.step (Ex.move rfl) (Wn.none rfl) rfl rfl ?_
        refine WR.skipG (b := false) rfl rfl rfl rfl rfl ?_
        refine WR.skipG (b := false) rfl rfl rfl rfl rfl ?_
        refine WR.skipG (b := false) rfl rfl rfl rfl rfl ?_
        refine WR.skipG (b := false) rfl rfl rfl rfl rfl ?_
        refine WR.skipG (b := false) rfl rfl rfl rfl rfl ?_
        refine WR.skipG (b := false) rfl rfl rfl rfl rfl ?_
        refine WR.step (Ex.pickF rfl rfl) (Wn.none rfl) rfl rfl ?_
        refine WR.nil ?_
        refine WQ.then ?_
        refine WC.condF rfl ?_
        refine WC.region ?_
        refine WR.step (Ex.assign rfl) (Wn.none rfl) rfl rfl ?_
        refine WR.nil ?_
        refine WQ.then ?_
        refine WC.region ?_
        refine WR.step (Ex.move rfl) (Wn.none rfl) rfl rfl ?_
        refine WR.step (Ex.move rfl) (Wn.none rfl) rfl rfl ?_
        refine WR.stepE (v' := encN (q + (rune (l.drop q)).2)) (Ex.add64 rfl rfl (by omega)) rfl (Wn.none rfl) rfl rfl ?_
        refine WR.step (Ex.assign rfl) (Wn.none rfl) rfl rfl ?_
        refine WR.nil ?_
        refine WQ.inBlock ?_
        refine WQ.then ?_
        refine WC.region ?_
        refine WR.step (Ex.move rfl) (Wn.none rfl) rfl rfl ?_
        refine WR.stepE (v' := encN (i + 1)) (Ex.add64 rfl rfl (by omega)) rfl (Wn.none rfl) rfl rfl ?_
        refine WR.step (Ex.assign rfl) (Wn.none rfl) rfl rfl ?_
        refine WR.nil ?_
        refine WQ.again5 (i + 1) (q + (rune (l.drop q)).2) (v55) (o ++ [((l.drop q).take (rune (l.drop q)).2)]) (0) ⟨rfl, rfl, rfl, rfl, rfl, rfl, trivial⟩ ?_ ?_
        · refine ⟨?_, M, H, hf12⟩
          rw [show 0 = flN (rune (l.drop q)).1 0 by rw [flN, if_neg (by omega)]]
          exact hR2
        · rw [List.length_map] at h6_3; omega
  ·
    refine WR.nil ?_
    refine WQ.then ?_
    refine WC.condF rfl ?_
    refine WC.exit ?_
    refine WQ.thenExit ?_
    refine WQ.thenExit ?_
    refine WQ.exitHere ?_
    refine WQ.then ?_
    refine WC.seq ?_
    refine WC.region ?_
    refine WR.step (Ex.move rfl) (Wn.none rfl) rfl rfl ?_
    refine WR.step (Ex.assign rfl) (Wn.none rfl) rfl rfl ?_
    refine WR.nil ?_
    refine WQ.then ?_
    refine WC.ret ?_
    (repeat (first | refine WQ.thenRet ?_ | refine WQ.inBlockRet ?_))
    obtain ⟨M, hle, hf, H⟩ := H.freezeRow (v := v) (enc := encS) (t := 9) (by repeat (first | exact Rem.head | apply Rem.tail))
    refine WQ.ret1 rfl rfl H.ext ?_
    refine ?_
    rw [← hR.ends (by rw [List.length_map] at h6_3; omega)]
    exact hf

end Go.Proofs.YtnjglbmaonbcbaaDoor
