/-
  the reference: lists: walks over the program's own operations, written by a program of this repository (wip/tools/gen.py) out of a plan.
-/
import Derived.Test.YtnjglbmaonbcbaaDoorRcl
import Derived.KernelRfl
set_option linter.unusedVariables false
set_option linter.unusedSimpArgs false
namespace Go.Proofs.YtnjglbmaonbcbaaDoor
open Go Go.RowKit Go.Ph

open Go.Ph.Gr Go.Ph.Utf
theorem runes_spec (l : List UInt8) (hs : l.length ≤ 1048576) : Ct Tryd.prog 32 [S l] (fun _ => True) (fun r M => Sl M encI r ((chars l).map (·.1))) := by
  refine Ct.of Tryd.func32 (enters Tryd.func32 (by kernel_rfl) rfl) rfl rfl rfl ?_
  intro w0 M0 H hp
  refine WC.seq ?_
  refine WC.region ?_
  refine WR.step (Ex.assign rfl) (Wn.none rfl) rfl rfl ?_
  refine WR.nil ?_
  refine WQ.then ?_
  refine WC.seq ?_
  refine WC.region ?_
  refine WR.step (Ex.assign rfl) (Wn.none rfl) rfl rfl ?_
  refine WR.nil ?_
  refine WQ.then ?_
  refine WC.seq ?_
  refine WC.seq ?_
  refine WC.region ?_
  refine WR.step (Ex.assign rfl) (Wn.none rfl) rfl rfl ?_
  refine WR.nil ?_
  refine WQ.then ?_
  refine WC.block ?_
  replace H := H.newRow 3 encI
  refine WC.loop3 (fun (q : Nat) (v : Value) (o : List Int) => [(0, S l), (3, v), (4, encN q)]) (fun (q : Nat) (v : Value) (o : List Int) w => (q ≤ l.length ∧ o.length ≤ q) ∧ (chars l).map (·.1) = o ++ (chars (l.drop q)).map (·.1) ∧ ∃ M, St w0 M0 M [RowI 3 encI v o] w) (fun (q : Nat) (v : Value) (o : List Int) => l.length - q) (0) (_) (_) ⟨rfl, rfl, rfl, trivial⟩ (⟨by simp, rfl, M0, H⟩) ?_
  intro q v o w
  rintro ⟨hq, hch, M, H⟩
  refine WC.seq ?_
  refine WC.seq ?_
  refine WC.region ?_
  refine WR.step (Ex.move rfl) (Wn.none rfl) rfl rfl ?_
  refine WR.step (Ex.move rfl) (Wn.none rfl) rfl rfl ?_
  refine WR.step (Ex.lenStr Tryd.underlying9 rfl) (Wn.none rfl) rfl rfl ?_
  refine WR.split (Ex.lss rfl rfl) (Wn.none rfl) rfl rfl (fun h3_3 => ?_) (fun h3_3 => ?_)
  ·
    have hne := drop_ne (t := l) (n := q) (by omega)
    have hrs := rune_size (l.drop q)
    have hrs3 := hrs.2.2 hne
    rw [List.length_drop] at hrs3
    refine WR.nil ?_
    refine WQ.then ?_
    refine WC.condT rfl ?_
    refine WC.skip ?_
    refine WQ.then ?_
    refine WC.block ?_
    refine WC.seq ?_
    refine WC.region ?_
    refine WR.step (Ex.move rfl) (Wn.none rfl) rfl rfl ?_
    refine WR.step (Ex.move rfl) (Wn.none rfl) rfl rfl ?_
    refine WR.call H (rune_spec _ _ (by omega) (by omega)) rfl (trivial) (Wn.none rfl) rfl ?_
    intro v14 M w H hle hr14
    obtain rfl := hr14
    refine WR.step (Ex.move rfl) (Wn.none rfl) rfl rfl ?_
    refine WR.step (Ex.extract rfl rfl) (Wn.none rfl) rfl rfl ?_
    refine WR.step (Ex.extract rfl rfl) (Wn.none rfl) rfl rfl ?_
    refine WR.step (Ex.assign rfl) (Wn.none rfl) rfl rfl ?_
    refine WR.step (Ex.assign rfl) (Wn.none rfl) rfl rfl ?_
    refine WR.nil ?_
    refine WQ.then ?_
    refine WC.seq ?_
    refine WC.region ?_
    refine WR.step (Ex.move rfl) (Wn.none rfl) rfl rfl ?_
    refine WR.step (Ex.move rfl) (Wn.none rfl) rfl rfl ?_
    refine WR.lit (enc := encI) ty49 [_] H rfl (by rfl) (fun _ => rfl) rfl rfl (Wn.none rfl) rfl ?_
    intro v19 M w H hle hl19
    refine WR.appendSl ty49 (fun _ => rfl) H rfl (fun _ => by repeat (first | exact Upd.head | apply Upd.tail)) rfl (by assumption) (by first | omega | (simp only [List.length_append, List.length_cons, List.length_nil, List.length_take, List.length_drop]; omega)) (by first | (simp only [maxLen]; omega) | (simp only [maxLen, List.length_append, List.length_cons, List.length_nil, List.length_take, List.length_drop]; omega)) (Wn.none rfl) rfl ?_
    intro v20 w H
    refine WR.step (Ex.assign rfl) (Wn.none rfl) rfl rfl ?_
    refine WR.nil ?_
    refine WQ.then ?_
    refine WC.region ?_
    refine WR.step (Ex.move rfl) (Wn.none rfl) rfl rfl ?_
    refine WR.step (Ex.move rfl) (Wn.none rfl) rfl rfl ?_
    refine WR.step (Ex.add64 rfl rfl (by omega)) (Wn.none rfl) rfl rfl ?_
    refine WR.step (Ex.assign rfl) (Wn.none rfl) rfl rfl ?_
    refine WR.nil ?_
    refine WQ.inBlock ?_
    refine WQ.again3 (q + (rune (l.drop q)).2) (v20) (o ++ [(rune (l.drop q)).1]) ⟨rfl, rfl, rfl, trivial⟩ ?_ ?_
    · refine ⟨by simp only [List.length_append, List.length_cons, List.length_nil]; omega, ?_, M, H⟩
      rw [hch, chars_cons hne, List.map_cons, List.drop_drop, List.append_assoc]; rfl
    · omega
  ·
    refine WR.nil ?_
    refine WQ.then ?_
    refine WC.condF rfl ?_
    refine WC.exit ?_
    refine WQ.thenExit ?_
    refine WQ.thenExit ?_
    refine WQ.exitHere ?_
    refine WQ.then ?_
    refine WC.seq ?_
    refine WC.region ?_
    refine WR.step (Ex.move rfl) (Wn.none rfl) rfl rfl ?_
    refine WR.step (Ex.assign rfl) (Wn.none rfl) rfl rfl ?_
    refine WR.nil ?_
    refine WQ.then ?_
    refine WC.ret ?_
    (repeat (first | refine WQ.thenRet ?_ | refine WQ.inBlockRet ?_))
    obtain ⟨M, hle, hf, H⟩ := H.freezeRow (v := v) (enc := encI) (t := 3) (by repeat (first | exact Rem.head | apply Rem.tail))
    refine WQ.ret1 rfl rfl H.ext ?_
    refine ?_
    rw [hch, List.drop_eq_nil_of_le (by omega), chars_nil, List.map_nil, List.append_nil]
    exact hf

theorem strings_spec (a b : Value) (l m : List (List UInt8)) : Ct Tryd.prog 14 [a, b] (fun M => Sl M encS a l ∧ Sl M encS b m) (fun r _ => r = .bool (decide (l = m))) := by
  refine Ct.of Tryd.func14 (enters Tryd.func14 (by kernel_rfl) rfl) rfl rfl rfl ?_
  intro w0 M0 H hp
  obtain ⟨ha, hb⟩ := hp
  have hsh := ha.short
  simp only [maxLen] at hsh
  refine WC.seq ?_
  refine WC.region ?_
  refine WR.step (Ex.assign rfl) (Wn.none rfl) rfl rfl ?_
  refine WR.nil ?_
  refine WQ.then ?_
  refine WC.seq ?_
  refine WC.seq ?_
  refine WC.region ?_
  refine WR.step (Ex.move rfl) (Wn.none rfl) rfl rfl ?_
  first | refine WR.step (Ex.lenSl Tryd.underlying24 (by assumption) rfl) (Wn.none rfl) rfl rfl ?_ | refine WR.step (Ex.lenRow Tryd.underlying24 H (by repeat (first | exact List.Mem.head _ | apply List.Mem.tail)) rfl) (Wn.none rfl) rfl rfl ?_ | refine WR.step (Ex.lenSlice Tryd.underlying24 rfl) (Wn.none rfl) rfl rfl ?_
  refine WR.step (Ex.move rfl) (Wn.none rfl) rfl rfl ?_
  first | refine WR.step (Ex.lenSl Tryd.underlying24 (by assumption) rfl) (Wn.none rfl) rfl rfl ?_ | refine WR.step (Ex.lenRow Tryd.underlying24 H (by repeat (first | exact List.Mem.head _ | apply List.Mem.tail)) rfl) (Wn.none rfl) rfl rfl ?_ | refine WR.step (Ex.lenSlice Tryd.underlying24 rfl) (Wn.none rfl) rfl rfl ?_
  refine WR.split (Ex.neq rfl rfl) (Wn.none rfl) rfl rfl (fun h1_4 => ?_) (fun h1_4 => ?_)
  ·
    refine WR.nil ?_
    refine WQ.then ?_
    refine WC.condT rfl ?_
    refine WC.seq ?_
    refine WC.region ?_
    refine WR.step (Ex.assign rfl) (Wn.none rfl) rfl rfl ?_
    refine WR.nil ?_
    refine WQ.then ?_
    refine WC.ret ?_
    (repeat (first | refine WQ.thenRet ?_ | refine WQ.inBlockRet ?_))
    refine WQ.ret1 rfl rfl H.ext ?_
    exact (congrArg Value.bool (decide_eq_false (fun h => h1_4 (by rw [h]))).symm)
  ·
    refine WR.nil ?_
    refine WQ.then ?_
    refine WC.condF rfl ?_
    refine WC.skip ?_
    refine WQ.then ?_
    refine WC.seq ?_
    refine WC.seq ?_
    refine WC.region ?_
    refine WR.step (Ex.assign rfl) (Wn.none rfl) rfl rfl ?_
    refine WR.nil ?_
    refine WQ.then ?_
    refine WC.block ?_
    refine WC.loop1 (fun (k : Nat) => [(0, a), (1, b), (5, encN k)]) (fun (k : Nat) w => k ≤ l.length ∧ l.length = m.length ∧ l.take k = m.take k ∧ St w0 M0 M0 [] w) (fun (k : Nat) => l.length - k) (0) ⟨rfl, rfl, rfl, trivial⟩ (⟨by omega, by omega, by simp, H⟩) ?_
    intro k w
    rintro ⟨hk, hlm, htk, H⟩
    refine WC.seq ?_
    refine WC.seq ?_
    refine WC.region ?_
    refine WR.step (Ex.move rfl) (Wn.none rfl) rfl rfl ?_
    refine WR.step (Ex.move rfl) (Wn.none rfl) rfl rfl ?_
    first | refine WR.step (Ex.lenSl Tryd.underlying24 (by assumption) rfl) (Wn.none rfl) rfl rfl ?_ | refine WR.step (Ex.lenRow Tryd.underlying24 H (by repeat (first | exact List.Mem.head _ | apply List.Mem.tail)) rfl) (Wn.none rfl) rfl rfl ?_ | refine WR.step (Ex.lenSlice Tryd.underlying24 rfl) (Wn.none rfl) rfl rfl ?_
    refine WR.split (Ex.lss rfl rfl) (Wn.none rfl) rfl rfl (fun h4_3 => ?_) (fun h4_3 => ?_)
    ·
      obtain ⟨x, hx⟩ : ∃ x, l[k]? = some x := ⟨_, List.getElem?_eq_getElem (by omega)⟩
      obtain ⟨y, hy⟩ : ∃ y, m[k]? = some y := ⟨_, List.getElem?_eq_getElem (by omega)⟩
      refine WR.nil ?_
      refine WQ.then ?_
      refine WC.condT rfl ?_
      refine WC.skip ?_
      refine WQ.then ?_
      refine WC.seq ?_
      refine WC.block ?_
      refine WC.seq ?_
      refine WC.draw (m := 9) rfl rfl H ?_
      intro w H
      refine WA.take (i := 0) rfl (by kernel_rfl) (by kernel_rfl) (by kernel_rfl) (fun _ => Ex.move rfl) (Wn.none rfl) rfl rfl (fun _ _ => rfl) ?_
      refine WA.take (i := 1) rfl (by kernel_rfl) (by kernel_rfl) (by kernel_rfl) (fun _ => Ex.move rfl) (Wn.none rfl) rfl rfl (fun _ _ => rfl) ?_
      refine WA.takeIdx (i := 2) rfl (by kernel_rfl) (by kernel_rfl) (by kernel_rfl) Tryd.underlying24 Tryd.sizeOf9 (by assumption) rfl rfl (hx) (Wn.none rfl) rfl ?_
      intro p19 hc19
      refine WA.take (i := 4) rfl (by kernel_rfl) (by kernel_rfl) (by kernel_rfl) (fun _ => Ex.move rfl) (Wn.none rfl) rfl rfl (fun _ _ => rfl) ?_
      refine WA.take (i := 5) rfl (by kernel_rfl) (by kernel_rfl) (by kernel_rfl) (fun _ => Ex.move rfl) (Wn.none rfl) rfl rfl (fun _ _ => rfl) ?_
      refine WA.takeIdx (i := 6) rfl (by kernel_rfl) (by kernel_rfl) (by kernel_rfl) Tryd.underlying24 Tryd.sizeOf9 (by assumption) rfl rfl (hy) (Wn.none rfl) rfl ?_
      intro p23 hc23
      refine WA.two (i := 3) (j := 7) (by kernel_rfl) rfl rfl ?_ ?_
      ·
        first | refine WR.step (Ex.loadM H rfl (by assumption) Tryd.isAgg9) (Wn.none rfl) rfl rfl ?_ | refine WR.step (Ex.load1 H rfl (by repeat (first | exact List.Mem.head _ | apply List.Mem.tail)) Tryd.isAgg9 (by rfl)) (Wn.none rfl) rfl rfl ?_
        refine WR.nil (WQ.any ?_)
        refine WA.one (i := 7) (by kernel_rfl) rfl ?_
        first | refine WR.step (Ex.loadM H rfl (by assumption) Tryd.isAgg9) (Wn.none rfl) rfl rfl ?_ | refine WR.step (Ex.load1 H rfl (by repeat (first | exact List.Mem.head _ | apply List.Mem.tail)) Tryd.isAgg9 (by rfl)) (Wn.none rfl) rfl rfl ?_
        refine WR.nil (WQ.any ?_)
        refine WA.one (i := 8) (by kernel_rfl) rfl ?_
        refine WR.split (Ex.strNeq rfl rfl) (Wn.none rfl) rfl rfl (fun h6_8 => ?_) (fun h6_8 => ?_)
        ·
          refine WR.nil (WQ.any ?_)
          refine WA.done (by kernel_rfl) ?_
          refine WQ.then ?_
          refine WC.condT rfl ?_
          refine WC.seq ?_
          refine WC.region ?_
          refine WR.step (Ex.assign rfl) (Wn.none rfl) rfl rfl ?_
          refine WR.nil ?_
          refine WQ.then ?_
          refine WC.ret ?_
          (repeat (first | refine WQ.thenRet ?_ | refine WQ.inBlockRet ?_))
          refine WQ.ret1 rfl rfl H.ext ?_
          exact (congrArg Value.bool (decide_eq_false (fun h => h6_8 (by rw [h] at hx; exact Option.some.inj (hx.symm.trans hy)))).symm)
        ·
          refine WR.nil (WQ.any ?_)
          refine WA.done (by kernel_rfl) ?_
          refine WQ.then ?_
          refine WC.condF rfl ?_
          refine WC.skip ?_
          refine WQ.inBlock ?_
          refine WQ.then ?_
          refine WC.region ?_
          refine WR.step (Ex.move rfl) (Wn.none rfl) rfl rfl ?_
          refine WR.step (Ex.add64 rfl rfl (by omega)) (Wn.none rfl) rfl rfl ?_
          refine WR.step (Ex.assign rfl) (Wn.none rfl) rfl rfl ?_
          refine WR.nil ?_
          refine WQ.again1 (k + 1) ⟨rfl, rfl, rfl, trivial⟩ ?_ ?_
          · refine ⟨by omega, hlm, ?_, H⟩
            have e1 := (List.getElem?_eq_some_iff.1 hx)
            have e2 := (List.getElem?_eq_some_iff.1 hy)
            rw [List.take_succ_eq_append_getElem e1.1, List.take_succ_eq_append_getElem e2.1, htk, e1.2, e2.2]
            congr 2
            exact Decidable.not_not.1 h6_8
          · omega
      ·
        first | refine WR.step (Ex.loadM H rfl (by assumption) Tryd.isAgg9) (Wn.none rfl) rfl rfl ?_ | refine WR.step (Ex.load1 H rfl (by repeat (first | exact List.Mem.head _ | apply List.Mem.tail)) Tryd.isAgg9 (by rfl)) (Wn.none rfl) rfl rfl ?_
        refine WR.nil (WQ.any ?_)
        refine WA.one (i := 3) (by kernel_rfl) rfl ?_
        first | refine WR.step (Ex.loadM H rfl (by assumption) Tryd.isAgg9) (Wn.none rfl) rfl rfl ?_ | refine WR.step (Ex.load1 H rfl (by repeat (first | exact List.Mem.head _ | apply List.Mem.tail)) Tryd.isAgg9 (by rfl)) (Wn.none rfl) rfl rfl ?_
        refine WR.nil (WQ.any ?_)
        refine WA.one (i := 8) (by kernel_rfl) rfl ?_
        refine WR.split (Ex.strNeq rfl rfl) (Wn.none rfl) rfl rfl (fun h6_8 => ?_) (fun h6_8 => ?_)
        ·
          refine WR.nil (WQ.any ?_)
          refine WA.done (by kernel_rfl) ?_
          refine WQ.then ?_
          refine WC.condT rfl ?_
          refine WC.seq ?_
          refine WC.region ?_
          refine WR.step (Ex.assign rfl) (Wn.none rfl) rfl rfl ?_
          refine WR.nil ?_
          refine WQ.then ?_
          refine WC.ret ?_
          (repeat (first | refine WQ.thenRet ?_ | refine WQ.inBlockRet ?_))
          refine WQ.ret1 rfl rfl H.ext ?_
          exact (congrArg Value.bool (decide_eq_false (fun h => h6_8 (by rw [h] at hx; exact Option.some.inj (hx.symm.trans hy)))).symm)
        ·
          refine WR.nil (WQ.any ?_)
          refine WA.done (by kernel_rfl) ?_
          refine WQ.then ?_
          refine WC.condF rfl ?_
          refine WC.skip ?_
          refine WQ.inBlock ?_
          refine WQ.then ?_
          refine WC.region ?_
          refine WR.step (Ex.move rfl) (Wn.none rfl) rfl rfl ?_
          refine WR.step (Ex.add64 rfl rfl (by omega)) (Wn.none rfl) rfl rfl ?_
          refine WR.step (Ex.assign rfl) (Wn.none rfl) rfl rfl ?_
          refine WR.nil ?_
          refine WQ.again1 (k + 1) ⟨rfl, rfl, rfl, trivial⟩ ?_ ?_
          · refine ⟨by omega, hlm, ?_, H⟩
            have e1 := (List.getElem?_eq_some_iff.1 hx)
            have e2 := (List.getElem?_eq_some_iff.1 hy)
            rw [List.take_succ_eq_append_getElem e1.1, List.take_succ_eq_append_getElem e2.1, htk, e1.2, e2.2]
            congr 2
            exact Decidable.not_not.1 h6_8
          · omega
    ·
      refine WR.nil ?_
      refine WQ.then ?_
      refine WC.condF rfl ?_
      refine WC.exit ?_
      refine WQ.thenExit ?_
      refine WQ.thenExit ?_
      refine WQ.exitHere ?_
      refine WQ.then ?_
      refine WC.seq ?_
      refine WC.region ?_
      refine WR.step (Ex.assign rfl) (Wn.none rfl) rfl rfl ?_
      refine WR.nil ?_
      refine WQ.then ?_
      refine WC.ret ?_
      (repeat (first | refine WQ.thenRet ?_ | refine WQ.inBlockRet ?_))
      refine WQ.ret1 rfl rfl H.ext ?_
      exact (congrArg Value.bool (decide_eq_true (by rw [← List.take_of_length_le (l := l) (i := k) (by omega), htk, List.take_of_length_le (by omega)])).symm)

set_option maxHeartbeats 1000000 in
theorem rcont_spec (v : Value) (l : List Int) (i fl : Nat) (a b : Int) (hi0 : 0 < i) (ha : l[i - 1]? = some a) (hb : l[i]? = some b) : Ct Tryd.prog 34 [v, encN i, encN fl] (fun M => Sl M encI v l) (fun r _ => r = .bool (con a b fl)) := by
  refine Ct.of Tryd.func34 (enters Tryd.func34 (by kernel_rfl) rfl) rfl rfl rfl ?_
  intro w0 M0 H hp
  have hsh := hp.short
  simp only [maxLen] at hsh
  have hil := (List.getElem?_eq_some_iff.1 hb).1
  refine WC.seq ?_
  refine WC.region ?_
  refine WR.step (Ex.assign rfl) (Wn.none rfl) rfl rfl ?_
  refine WR.nil ?_
  refine WQ.then ?_
  refine WC.seq ?_
  refine WC.seq ?_
  refine WC.region ?_
  refine WR.step (Ex.move rfl) (Wn.none rfl) rfl rfl ?_
  refine WR.step (Ex.move rfl) (Wn.none rfl) rfl rfl ?_
  refine WR.stepE (v' := encN (i - 1)) (Ex.sub64 rfl rfl (by omega)) (congrArg I (by omega)) (Wn.none rfl) rfl rfl ?_
  refine WR.idxSl Tryd.underlying49 Tryd.sizeOf3 (by assumption) rfl rfl (ha) (Wn.none rfl) rfl ?_
  intro p12 hc12
  first | refine WR.step (Ex.loadM H rfl (by assumption) Tryd.isAgg3) (Wn.none rfl) rfl rfl ?_ | refine WR.step (Ex.load1 H rfl (by repeat (first | exact List.Mem.head _ | apply List.Mem.tail)) Tryd.isAgg3 (by rfl)) (Wn.none rfl) rfl rfl ?_
  refine WR.split (Ex.lss rfl rfl) (Wn.none rfl) rfl rfl (fun h1_5 => ?_) (fun h1_5 => ?_)
  ·
    refine WR.step (Ex.move rfl) (Wn.none rfl) rfl rfl ?_
    refine WR.skipG (b := true) rfl rfl rfl rfl rfl ?_
    refine WR.skipG (b := true) rfl rfl rfl rfl rfl ?_
    refine WR.skipG (b := true) rfl rfl rfl rfl rfl ?_
    refine WR.skipG (b := true) rfl rfl rfl rfl rfl ?_
    refine WR.skipG (b := true) rfl rfl rfl rfl rfl ?_
    refine WR.step (Ex.pickT rfl rfl) (Wn.none rfl) rfl rfl ?_
    refine WR.nil ?_
    refine WQ.then ?_
    refine WC.condT rfl ?_
    refine WC.seq ?_
    refine WC.region ?_
    refine WR.step (Ex.assign rfl) (Wn.none rfl) rfl rfl ?_
    refine WR.nil ?_
    refine WQ.then ?_
    refine WC.ret ?_
    (repeat (first | refine WQ.thenRet ?_ | refine WQ.inBlockRet ?_))
    refine WQ.ret1 rfl rfl H.ext ?_
    refine congrArg Value.bool ?_
    rw [con_eq, if_pos (by omega)]
  ·
    refine WR.step (Ex.move rfl) (Wn.none rfl) rfl rfl ?_
    refine WR.step (Ex.move rfl) (Wn.some rfl rfl rfl) rfl rfl ?_
    refine WR.step (Ex.move rfl) (Wn.some rfl rfl rfl) rfl rfl ?_
    refine WR.idxSl Tryd.underlying49 Tryd.sizeOf3 (by assumption) rfl rfl (hb) (Wn.some rfl rfl rfl) rfl ?_
    intro p18 hc18
    first | refine WR.step (Ex.loadM H rfl (by assumption) Tryd.isAgg3) (Wn.some rfl rfl rfl) rfl rfl ?_ | refine WR.step (Ex.load1 H rfl (by repeat (first | exact List.Mem.head _ | apply List.Mem.tail)) Tryd.isAgg3 (by rfl)) (Wn.some rfl rfl rfl) rfl rfl ?_
    refine WR.split (Ex.lss rfl rfl) (Wn.some rfl rfl rfl) rfl rfl (fun h1_11 => ?_) (fun h1_11 => ?_)
    ·
      refine WR.step (Ex.pickF rfl rfl) (Wn.none rfl) rfl rfl ?_
      refine WR.nil ?_
      refine WQ.then ?_
      refine WC.condT rfl ?_
      refine WC.seq ?_
      refine WC.region ?_
      refine WR.step (Ex.assign rfl) (Wn.none rfl) rfl rfl ?_
      refine WR.nil ?_
      refine WQ.then ?_
      refine WC.ret ?_
      (repeat (first | refine WQ.thenRet ?_ | refine WQ.inBlockRet ?_))
      refine WQ.ret1 rfl rfl H.ext ?_
      refine congrArg Value.bool ?_
      rw [con_eq, if_pos (by omega)]
    ·
      refine WR.step (Ex.pickF rfl rfl) (Wn.none rfl) rfl rfl ?_
      refine WR.nil ?_
      refine WQ.then ?_
      refine WC.condF rfl ?_
      refine WC.skip ?_
      refine WQ.then ?_
      refine WC.seq ?_
      refine WC.region ?_
      refine WR.step (Ex.move rfl) (Wn.none rfl) rfl rfl ?_
      refine WR.step (Ex.move rfl) (Wn.none rfl) rfl rfl ?_
      refine WR.stepE (v' := encN (i - 1)) (Ex.sub64 rfl rfl (by omega)) (congrArg I (by omega)) (Wn.none rfl) rfl rfl ?_
      refine WR.idxSl Tryd.underlying49 Tryd.sizeOf3 (by assumption) rfl rfl (ha) (Wn.none rfl) rfl ?_
      intro p25 hc25
      first | refine WR.step (Ex.loadM H rfl (by assumption) Tryd.isAgg3) (Wn.none rfl) rfl rfl ?_ | refine WR.step (Ex.load1 H rfl (by repeat (first | exact List.Mem.head _ | apply List.Mem.tail)) Tryd.isAgg3 (by rfl)) (Wn.none rfl) rfl rfl ?_
      refine WR.call H (class_spec _) rfl (trivial) (Wn.none rfl) rfl ?_
      intro v27 M w H hle hr27
      replace hp := hp.mono hle
      replace hc12 := hc12.mono hle
      replace hc18 := hc18.mono hle
      replace hc25 := hc25.mono hle
      obtain rfl := hr27
      refine WR.step (Ex.assign rfl) (Wn.none rfl) rfl rfl ?_
      refine WR.nil ?_
      refine WQ.then ?_
      refine WC.seq ?_
      refine WC.region ?_
      refine WR.step (Ex.move rfl) (Wn.none rfl) rfl rfl ?_
      refine WR.step (Ex.move rfl) (Wn.none rfl) rfl rfl ?_
      refine WR.idxSl Tryd.underlying49 Tryd.sizeOf3 (by assumption) rfl rfl (hb) (Wn.none rfl) rfl ?_
      intro p30 hc30
      first | refine WR.step (Ex.loadM H rfl (by assumption) Tryd.isAgg3) (Wn.none rfl) rfl rfl ?_ | refine WR.step (Ex.load1 H rfl (by repeat (first | exact List.Mem.head _ | apply List.Mem.tail)) Tryd.isAgg3 (by rfl)) (Wn.none rfl) rfl rfl ?_
      refine WR.call H (class_spec _) rfl (trivial) (Wn.none rfl) rfl ?_
      intro v32 M w H hle hr32
      replace hp := hp.mono hle
      replace hc12 := hc12.mono hle
      replace hc18 := hc18.mono hle
      replace hc25 := hc25.mono hle
      replace hc30 := hc30.mono hle
      obtain rfl := hr32
      refine WR.step (Ex.assign rfl) (Wn.none rfl) rfl rfl ?_
      refine WR.nil ?_
      refine WQ.then ?_
      refine WC.seq ?_
      refine WC.seq ?_
      refine WC.region ?_
      refine WR.step (Ex.move rfl) (Wn.none rfl) rfl rfl ?_
      refine WR.split (Ex.eql rfl rfl) (Wn.none rfl) rfl rfl (fun h5_1 => ?_) (fun h5_1 => ?_)
      ·
        refine WR.step (Ex.move rfl) (Wn.none rfl) rfl rfl ?_
        refine WR.step (Ex.move rfl) (Wn.some rfl rfl rfl) rfl rfl ?_
        refine WR.split (Ex.eql rfl rfl) (Wn.some rfl rfl rfl) rfl rfl (fun h5_4 => ?_) (fun h5_4 => ?_)
        ·
          refine WR.step (Ex.pickT rfl rfl) (Wn.none rfl) rfl rfl ?_
          refine WR.nil ?_
          refine WQ.then ?_
          refine WC.condT rfl ?_
          refine WC.seq ?_
          refine WC.region ?_
          refine WR.step (Ex.assign rfl) (Wn.none rfl) rfl rfl ?_
          refine WR.nil ?_
          refine WQ.then ?_
          refine WC.ret ?_
          (repeat (first | refine WQ.thenRet ?_ | refine WQ.inBlockRet ?_))
          refine WQ.ret1 rfl rfl H.ext ?_
          refine congrArg Value.bool ?_
          rw [con_eq, if_neg (by omega)]
          unfold contC
          rw [if_pos (by omega)]
        ·
          refine WR.step (Ex.pickT rfl rfl) (Wn.none rfl) rfl rfl ?_
          refine WR.nil ?_
          refine WQ.then ?_
          refine WC.condF rfl ?_
          refine WC.skip ?_
          refine WQ.then ?_
          refine WC.seq ?_
          refine WC.seq ?_
          refine WC.region ?_
          refine WR.step (Ex.move rfl) (Wn.none rfl) rfl rfl ?_
          refine WR.callB H (in_spec _ _ _) rfl (trivial) (Wn.none rfl) rfl (fun h7_1 => ?_) (fun h7_1 => ?_)
          ·
            intro M w H hle
            replace hp := hp.mono hle
            replace hc12 := hc12.mono hle
            replace hc18 := hc18.mono hle
            replace hc25 := hc25.mono hle
            replace hc30 := hc30.mono hle
            refine WR.step (Ex.move rfl) (Wn.none rfl) rfl rfl ?_
            refine WR.skipG (b := true) rfl rfl rfl rfl rfl ?_
            refine WR.skipG (b := true) rfl rfl rfl rfl rfl ?_
            refine WR.step (Ex.pickT rfl rfl) (Wn.none rfl) rfl rfl ?_
            refine WR.nil ?_
            refine WQ.then ?_
            refine WC.condT rfl ?_
            refine WC.seq ?_
            refine WC.region ?_
            refine WR.step (Ex.assign rfl) (Wn.none rfl) rfl rfl ?_
            refine WR.nil ?_
            refine WQ.then ?_
            refine WC.ret ?_
            (repeat (first | refine WQ.thenRet ?_ | refine WQ.inBlockRet ?_))
            refine WQ.ret1 rfl rfl H.ext ?_
            refine congrArg Value.bool ?_
            rw [con_eq, if_neg (by omega)]
            unfold contC
            rw [if_neg (by omega)]
            rw [if_pos (by omega)]
          ·
            intro M w H hle
            replace hp := hp.mono hle
            replace hc12 := hc12.mono hle
            replace hc18 := hc18.mono hle
            replace hc25 := hc25.mono hle
            replace hc30 := hc30.mono hle
            refine WR.step (Ex.move rfl) (Wn.none rfl) rfl rfl ?_
            refine WR.step (Ex.move rfl) (Wn.some rfl rfl rfl) rfl rfl ?_
            refine WR.callB H (in_spec _ _ _) rfl (trivial) (Wn.some rfl rfl rfl) rfl (fun h7_4 => ?_) (fun h7_4 => ?_)
            ·
              intro M w H hle
              replace hp := hp.mono hle
              replace hc12 := hc12.mono hle
              replace hc18 := hc18.mono hle
              replace hc25 := hc25.mono hle
              replace hc30 := hc30.mono hle
              refine WR.step (Ex.pickF rfl rfl) (Wn.none rfl) rfl rfl ?_
              refine WR.nil ?_
              refine WQ.then ?_
              refine WC.condT rfl ?_
              refine WC.seq ?_
              refine WC.region ?_
              refine WR.step (Ex.assign rfl) (Wn.none rfl) rfl rfl ?_
              refine WR.nil ?_
              refine WQ.then ?_
              refine WC.ret ?_
              (repeat (first | refine WQ.thenRet ?_ | refine WQ.inBlockRet ?_))
              refine WQ.ret1 rfl rfl H.ext ?_
              refine congrArg Value.bool ?_
              rw [con_eq, if_neg (by omega)]
              unfold contC
              rw [if_neg (by omega)]
              rw [if_pos (by omega)]
            ·
              intro M w H hle
              replace hp := hp.mono hle
              replace hc12 := hc12.mono hle
              replace hc18 := hc18.mono hle
              replace hc25 := hc25.mono hle
              replace hc30 := hc30.mono hle
              refine WR.step (Ex.pickF rfl rfl) (Wn.none rfl) rfl rfl ?_
              refine WR.nil ?_
              refine WQ.then ?_
              refine WC.condF rfl ?_
              refine WC.skip ?_
              refine WQ.then ?_
              refine WC.seq ?_
              refine WC.seq ?_
              refine WC.region ?_
              refine WR.step (Ex.move rfl) (Wn.none rfl) rfl rfl ?_
              refine WR.split (Ex.eql rfl rfl) (Wn.none rfl) rfl rfl (fun h9_1 => ?_) (fun h9_1 => ?_)
              ·
                refine WR.step (Ex.move rfl) (Wn.none rfl) rfl rfl ?_
                refine WR.skipG (b := true) rfl rfl rfl rfl rfl ?_
                refine WR.skipG (b := true) rfl rfl rfl rfl rfl ?_
                refine WR.step (Ex.pickT rfl rfl) (Wn.none rfl) rfl rfl ?_
                refine WR.nil ?_
                refine WQ.then ?_
                refine WC.condT rfl ?_
                refine WC.seq ?_
                refine WC.region ?_
                refine WR.step (Ex.assign rfl) (Wn.none rfl) rfl rfl ?_
                refine WR.nil ?_
                refine WQ.then ?_
                refine WC.ret ?_
                (repeat (first | refine WQ.thenRet ?_ | refine WQ.inBlockRet ?_))
                refine WQ.ret1 rfl rfl H.ext ?_
                refine congrArg Value.bool ?_
                rw [con_eq, if_neg (by omega)]
                unfold contC
                rw [if_neg (by omega)]
                rw [if_neg (by omega)]
                rw [if_pos (by omega)]
              ·
                refine WR.step (Ex.move rfl) (Wn.none rfl) rfl rfl ?_
                refine WR.step (Ex.move rfl) (Wn.some rfl rfl rfl) rfl rfl ?_
                refine WR.split (Ex.eql rfl rfl) (Wn.some rfl rfl rfl) rfl rfl (fun h9_4 => ?_) (fun h9_4 => ?_)
                ·
                  refine WR.step (Ex.pickF rfl rfl) (Wn.none rfl) rfl rfl ?_
                  refine WR.nil ?_
                  refine WQ.then ?_
                  refine WC.condT rfl ?_
                  refine WC.seq ?_
                  refine WC.region ?_
                  refine WR.step (Ex.assign rfl) (Wn.none rfl) rfl rfl ?_
                  refine WR.nil ?_
                  refine WQ.then ?_
                  refine WC.ret ?_
                  (repeat (first | refine WQ.thenRet ?_ | refine WQ.inBlockRet ?_))
                  refine WQ.ret1 rfl rfl H.ext ?_
                  refine congrArg Value.bool ?_
                  rw [con_eq, if_neg (by omega)]
                  unfold contC
                  rw [if_neg (by omega)]
                  rw [if_neg (by omega)]
                  rw [if_pos (by omega)]
                ·
                  refine WR.step (Ex.pickF rfl rfl) (Wn.none rfl) rfl rfl ?_
                  refine WR.nil ?_
                  refine WQ.then ?_
                  refine WC.condF rfl ?_
                  refine WC.skip ?_
                  refine WQ.then ?_
                  refine WC.seq ?_
                  refine WC.seq ?_
                  refine WC.region ?_
                  refine WR.step (Ex.move rfl) (Wn.none rfl) rfl rfl ?_
                  refine WR.split (Ex.eql rfl rfl) (Wn.none rfl) rfl rfl (fun h11_1 => ?_) (fun h11_1 => ?_)
                  ·
                    refine WR.nil ?_
                    refine WQ.then ?_
                    refine WC.condT rfl ?_
                    refine WC.seq ?_
                    refine WC.region ?_
                    refine WR.step (Ex.move rfl) (Wn.none rfl) rfl rfl ?_
                    refine WR.step (Ex.eql rfl rfl) (Wn.none rfl) rfl rfl ?_
                    refine WR.step (Ex.assign rfl) (Wn.none rfl) rfl rfl ?_
                    refine WR.nil ?_
                    refine WQ.then ?_
                    refine WC.ret ?_
                    (repeat (first | refine WQ.thenRet ?_ | refine WQ.inBlockRet ?_))
                    refine WQ.ret1 rfl rfl H.ext ?_
                    refine congrArg Value.bool ?_
                    rw [con_eq, if_neg (by omega)]
                    unfold contC
                    rw [if_neg (by omega)]
                    rw [if_neg (by omega)]
                    rw [if_neg (by omega)]
                    rw [if_pos (by omega)]
                  ·
                    refine WR.nil ?_
                    refine WQ.then ?_
                    refine WC.condF rfl ?_
                    refine WC.skip ?_
                    refine WQ.then ?_
                    refine WC.seq ?_
                    refine WC.seq ?_
                    refine WC.region ?_
                    refine WR.step (Ex.move rfl) (Wn.none rfl) rfl rfl ?_
                    refine WR.split (Ex.eql rfl rfl) (Wn.none rfl) rfl rfl (fun h13_1 => ?_) (fun h13_1 => ?_)
                    ·
                      refine WR.nil ?_
                      refine WQ.then ?_
                      refine WC.condT rfl ?_
                      refine WC.seq ?_
                      refine WC.region ?_
                      refine WR.step (Ex.move rfl) (Wn.none rfl) rfl rfl ?_
                      refine WR.step (Ex.rem64 rfl rfl (by first | omega | exact ⟨Int.natCast_nonneg _, by decide⟩)) (Wn.none rfl) rfl rfl ?_
                      refine WR.step (Ex.eql rfl rfl) (Wn.none rfl) rfl rfl ?_
                      refine WR.step (Ex.assign rfl) (Wn.none rfl) rfl rfl ?_
                      refine WR.nil ?_
                      refine WQ.then ?_
                      refine WC.ret ?_
                      (repeat (first | refine WQ.thenRet ?_ | refine WQ.inBlockRet ?_))
                      refine WQ.ret1 rfl rfl H.ext ?_
                      refine congrArg Value.bool ?_
                      rw [con_eq, if_neg (by omega)]
                      unfold contC
                      rw [if_neg (by omega)]
                      rw [if_neg (by omega)]
                      rw [if_neg (by omega)]
                      rw [if_neg (by omega)]
                      rw [if_pos (by omega)]
                    ·
                      refine WR.nil ?_
                      refine WQ.then ?_
                      refine WC.condF rfl ?_
                      refine WC.skip ?_
                      refine WQ.then ?_
                      refine WC.seq ?_
                      refine WC.region ?_
                      refine WR.step (Ex.move rfl) (Wn.none rfl) rfl rfl ?_
                      refine WR.split (Ex.eql rfl rfl) (Wn.none rfl) rfl rfl (fun h15_1 => ?_) (fun h15_1 => ?_)
                      ·
                        refine WR.step (Ex.move rfl) (Wn.none rfl) rfl rfl ?_
                        refine WR.step (Ex.move rfl) (Wn.some rfl rfl rfl) rfl rfl ?_
                        refine WR.split (Ex.eql rfl rfl) (Wn.some rfl rfl rfl) rfl rfl (fun h15_4 => ?_) (fun h15_4 => ?_)
                        ·
                          refine WR.step (Ex.move rfl) (Wn.some rfl rfl rfl) rfl rfl ?_
                          refine WR.skipG (b := true) rfl rfl rfl rfl rfl ?_
                          refine WR.skipG (b := true) rfl rfl rfl rfl rfl ?_
                          refine WR.step (Ex.pickT rfl rfl) (Wn.some rfl rfl rfl) rfl rfl ?_
                          refine WR.step (Ex.pickT rfl rfl) (Wn.none rfl) rfl rfl ?_
                          refine WR.step (Ex.move rfl) (Wn.none rfl) rfl rfl ?_
                          refine WR.skipG (b := true) rfl rfl rfl rfl rfl ?_
                          refine WR.skipG (b := true) rfl rfl rfl rfl rfl ?_
                          refine WR.skipG (b := true) rfl rfl rfl rfl rfl ?_
                          refine WR.skipU rfl rfl rfl rfl rfl ?_
                          refine WR.skipU rfl rfl rfl rfl rfl ?_
                          refine WR.skipU rfl rfl rfl rfl rfl ?_
                          refine WR.skipU rfl rfl rfl rfl rfl ?_
                          refine WR.skipU rfl rfl rfl rfl rfl ?_
                          refine WR.skipU rfl rfl rfl rfl rfl ?_
                          refine WR.skipG (b := true) rfl rfl rfl rfl rfl ?_
                          refine WR.step (Ex.pickT rfl rfl) (Wn.none rfl) rfl rfl ?_
                          refine WR.step (Ex.move rfl) (Wn.none rfl) rfl rfl ?_
                          refine WR.skipG (b := true) rfl rfl rfl rfl rfl ?_
                          refine WR.skipG (b := true) rfl rfl rfl rfl rfl ?_
                          refine WR.skipG (b := true) rfl rfl rfl rfl rfl ?_
                          refine WR.skipU rfl rfl rfl rfl rfl ?_
                          refine WR.skipU rfl rfl rfl rfl rfl ?_
                          refine WR.skipG (b := true) rfl rfl rfl rfl rfl ?_
                          refine WR.step (Ex.pickT rfl rfl) (Wn.none rfl) rfl rfl ?_
                          refine WR.step (Ex.assign rfl) (Wn.none rfl) rfl rfl ?_
                          refine WR.nil ?_
                          refine WQ.then ?_
                          refine WC.ret ?_
                          (repeat (first | refine WQ.thenRet ?_ | refine WQ.inBlockRet ?_))
                          refine WQ.ret1 rfl rfl H.ext ?_
                          refine congrArg Value.bool ?_
                          rw [con_eq, if_neg (by omega)]
                          unfold contC
                          rw [if_neg (by omega)]
                          rw [if_neg (by omega)]
                          rw [if_neg (by omega)]
                          rw [if_neg (by omega)]
                          rw [if_neg (by omega)]
                          first | rfl | exact (decide_eq_true (by omega)).symm | exact (decide_eq_false (by omega)).symm | exact decide_eq_decide.2 (by omega) | (exfalso; omega)
                        ·
                          refine WR.step (Ex.move rfl) (Wn.some rfl rfl rfl) rfl rfl ?_
                          refine WR.step (Ex.move rfl) (Wn.some rfl rfl rfl) rfl rfl ?_
                          refine WR.split (Ex.eql rfl rfl) (Wn.some rfl rfl rfl) rfl rfl (fun h15_7 => ?_) (fun h15_7 => ?_)
                          ·
                            refine WR.step (Ex.pickF rfl rfl) (Wn.some rfl rfl rfl) rfl rfl ?_
                            refine WR.step (Ex.pickT rfl rfl) (Wn.none rfl) rfl rfl ?_
                            refine WR.step (Ex.move rfl) (Wn.none rfl) rfl rfl ?_
                            refine WR.skipG (b := true) rfl rfl rfl rfl rfl ?_
                            refine WR.skipG (b := true) rfl rfl rfl rfl rfl ?_
                            refine WR.skipG (b := true) rfl rfl rfl rfl rfl ?_
                            refine WR.skipU rfl rfl rfl rfl rfl ?_
                            refine WR.skipU rfl rfl rfl rfl rfl ?_
                            refine WR.skipU rfl rfl rfl rfl rfl ?_
                            refine WR.skipU rfl rfl rfl rfl rfl ?_
                            refine WR.skipU rfl rfl rfl rfl rfl ?_
                            refine WR.skipU rfl rfl rfl rfl rfl ?_
                            refine WR.skipG (b := true) rfl rfl rfl rfl rfl ?_
                            refine WR.step (Ex.pickT rfl rfl) (Wn.none rfl) rfl rfl ?_
                            refine WR.step (Ex.move rfl) (Wn.none rfl) rfl rfl ?_
                            refine WR.skipG (b := true) rfl rfl rfl rfl rfl ?_
                            refine WR.skipG (b := true) rfl rfl rfl rfl rfl ?_
                            refine WR.skipG (b := true) rfl rfl rfl rfl rfl ?_
                            refine WR.skipU rfl rfl rfl rfl rfl ?_
                            refine WR.skipU rfl rfl rfl rfl rfl ?_
                            refine WR.skipG (b := true) rfl rfl rfl rfl rfl ?_
                            refine WR.step (Ex.pickT rfl rfl) (Wn.none rfl) rfl rfl ?_
                            refine WR.step (Ex.assign rfl) (Wn.none rfl) rfl rfl ?_
                            refine WR.nil ?_
                            refine WQ.then ?_
                            refine WC.ret ?_
                            (repeat (first | refine WQ.thenRet ?_ | refine WQ.inBlockRet ?_))
                            refine WQ.ret1 rfl rfl H.ext ?_
                            refine congrArg Value.bool ?_
                            rw [con_eq, if_neg (by omega)]
                            unfold contC
                            rw [if_neg (by omega)]
                            rw [if_neg (by omega)]
                            rw [if_neg (by omega)]
                            rw [if_neg (by omega)]
                            rw [if_neg (by omega)]
                            first | rfl | exact (decide_eq_true (by omega)).symm | exact (decide_eq_false (by omega)).symm | exact decide_eq_decide.2 (by omega) | (exfalso; omega)
                          ·
                            refine WR.step (Ex.pickF rfl rfl) (Wn.some rfl rfl rfl) rfl rfl ?_
                            refine WR.step (Ex.pickT rfl rfl) (Wn.none rfl) rfl rfl ?_
                            refine WR.step (Ex.move rfl) (Wn.none rfl) rfl rfl ?_
                            refine WR.step (Ex.move rfl) (Wn.some rfl rfl rfl) rfl rfl ?_
                            refine WR.split (Ex.eql rfl rfl) (Wn.some rfl rfl rfl) rfl rfl (fun h15_12 => ?_) (fun h15_12 => ?_)
                            ·
                              refine WR.step (Ex.move rfl) (Wn.some rfl rfl rfl) rfl rfl ?_
                              refine WR.step (Ex.move rfl) (Wn.some rfl rfl rfl) rfl rfl ?_
                              refine WR.split (Ex.eql rfl rfl) (Wn.some rfl rfl rfl) rfl rfl (fun h15_15 => ?_) (fun h15_15 => ?_)
                              ·
                                refine WR.step (Ex.move rfl) (Wn.some rfl rfl rfl) rfl rfl ?_
                                refine WR.skipG (b := true) rfl rfl rfl rfl rfl ?_
                                refine WR.skipG (b := true) rfl rfl rfl rfl rfl ?_
                                refine WR.step (Ex.pickT rfl rfl) (Wn.some rfl rfl rfl) rfl rfl ?_
                                refine WR.step (Ex.pickT rfl rfl) (Wn.some rfl rfl rfl) rfl rfl ?_
                                refine WR.step (Ex.pickF rfl rfl) (Wn.none rfl) rfl rfl ?_
                                refine WR.step (Ex.move rfl) (Wn.none rfl) rfl rfl ?_
                                refine WR.skipG (b := true) rfl rfl rfl rfl rfl ?_
                                refine WR.skipG (b := true) rfl rfl rfl rfl rfl ?_
                                refine WR.skipG (b := true) rfl rfl rfl rfl rfl ?_
                                refine WR.skipU rfl rfl rfl rfl rfl ?_
                                refine WR.skipU rfl rfl rfl rfl rfl ?_
                                refine WR.skipG (b := true) rfl rfl rfl rfl rfl ?_
                                refine WR.step (Ex.pickT rfl rfl) (Wn.none rfl) rfl rfl ?_
                                refine WR.step (Ex.assign rfl) (Wn.none rfl) rfl rfl ?_
                                refine WR.nil ?_
                                refine WQ.then ?_
                                refine WC.ret ?_
                                (repeat (first | refine WQ.thenRet ?_ | refine WQ.inBlockRet ?_))
                                refine WQ.ret1 rfl rfl H.ext ?_
                                refine congrArg Value.bool ?_
                                rw [con_eq, if_neg (by omega)]
                                unfold contC
                                rw [if_neg (by omega)]
                                rw [if_neg (by omega)]
                                rw [if_neg (by omega)]
                                rw [if_neg (by omega)]
                                rw [if_neg (by omega)]
                                first | rfl | exact (decide_eq_true (by omega)).symm | exact (decide_eq_false (by omega)).symm | exact decide_eq_decide.2 (by omega) | (exfalso; omega)
                              ·
                                refine WR.step (Ex.move rfl) (Wn.some rfl rfl rfl) rfl rfl ?_
                                refine WR.step (Ex.move rfl) (Wn.some rfl rfl rfl) rfl rfl ?_
                                refine WR.split (Ex.eql rfl rfl) (Wn.some rfl rfl rfl) rfl rfl (fun h15_18 => ?_) (fun h15_18 => ?_)
                                ·
                                  refine WR.step (Ex.pickF rfl rfl) (Wn.some rfl rfl rfl) rfl rfl ?_
                                  refine WR.step (Ex.pickT rfl rfl) (Wn.some rfl rfl rfl) rfl rfl ?_
                                  refine WR.step (Ex.pickF rfl rfl) (Wn.none rfl) rfl rfl ?_
                                  refine WR.step (Ex.move rfl) (Wn.none rfl) rfl rfl ?_
                                  refine WR.skipG (b := true) rfl rfl rfl rfl rfl ?_
                                  refine WR.skipG (b := true) rfl rfl rfl rfl rfl ?_
                                  refine WR.skipG (b := true) rfl rfl rfl rfl rfl ?_
                                  refine WR.skipU rfl rfl rfl rfl rfl ?_
                                  refine WR.skipU rfl rfl rfl rfl rfl ?_
                                  refine WR.skipG (b := true) rfl rfl rfl rfl rfl ?_
                                  refine WR.step (Ex.pickT rfl rfl) (Wn.none rfl) rfl rfl ?_
                                  refine WR.step (Ex.assign rfl) (Wn.none rfl) rfl rfl ?_
                                  refine WR.nil ?_
                                  refine WQ.then ?_
                                  refine WC.ret ?_
                                  (repeat (first | refine WQ.thenRet ?_ | refine WQ.inBlockRet ?_))
                                  refine WQ.ret1 rfl rfl H.ext ?_
                                  refine congrArg Value.bool ?_
                                  rw [con_eq, if_neg (by omega)]
                                  unfold contC
                                  rw [if_neg (by omega)]
                                  rw [if_neg (by omega)]
                                  rw [if_neg (by omega)]
                                  rw [if_neg (by omega)]
                                  rw [if_neg (by omega)]
                                  first | rfl | exact (decide_eq_true (by omega)).symm | exact (decide_eq_false (by omega)).symm | exact decide_eq_decide.2 (by omega) | (exfalso; omega)
                                ·
                                  refine WR.step (Ex.pickF rfl rfl) (Wn.some rfl rfl rfl) rfl rfl ?_
                                  refine WR.step (Ex.pickT rfl rfl) (Wn.some rfl rfl rfl) rfl rfl ?_
                                  refine WR.step (Ex.pickF rfl rfl) (Wn.none rfl) rfl rfl ?_
                                  refine WR.step (Ex.move rfl) (Wn.none rfl) rfl rfl ?_
                                  refine WR.step (Ex.move rfl) (Wn.some rfl rfl rfl) rfl rfl ?_
                                  refine WR.split (Ex.eql rfl rfl) (Wn.some rfl rfl rfl) rfl rfl (fun h15_24 => ?_) (fun h15_24 => ?_)
                                  ·
                                    refine WR.step (Ex.move rfl) (Wn.some rfl rfl rfl) rfl rfl ?_
                                    refine WR.step (Ex.move rfl) (Wn.some rfl rfl rfl) rfl rfl ?_
                                    refine WR.step (Ex.eql rfl rfl) (Wn.some rfl rfl rfl) rfl rfl ?_
                                    refine WR.step (Ex.pickT rfl rfl) (Wn.some rfl rfl rfl) rfl rfl ?_
                                    refine WR.step (Ex.pickF rfl rfl) (Wn.none rfl) rfl rfl ?_
                                    refine WR.step (Ex.assign rfl) (Wn.none rfl) rfl rfl ?_
                                    refine WR.nil ?_
                                    refine WQ.then ?_
                                    refine WC.ret ?_
                                    (repeat (first | refine WQ.thenRet ?_ | refine WQ.inBlockRet ?_))
                                    refine WQ.ret1 rfl rfl H.ext ?_
                                    refine congrArg Value.bool ?_
                                    rw [con_eq, if_neg (by omega)]
                                    unfold contC
                                    rw [if_neg (by omega)]
                                    rw [if_neg (by omega)]
                                    rw [if_neg (by omega)]
                                    rw [if_neg (by omega)]
                                    rw [if_neg (by omega)]
                                    first | rfl | exact (decide_eq_true (by omega)).symm | exact (decide_eq_false (by omega)).symm | exact decide_eq_decide.2 (by omega) | (exfalso; omega)
                                  ·
                                    refine WR.step (Ex.move rfl) (Wn.some rfl rfl rfl) rfl rfl ?_
                                    refine WR.skipG (b := false) rfl rfl rfl rfl rfl ?_
                                    refine WR.skipG (b := false) rfl rfl rfl rfl rfl ?_
                                    refine WR.step (Ex.pickF rfl rfl) (Wn.some rfl rfl rfl) rfl rfl ?_
                                    refine WR.step (Ex.pickF rfl rfl) (Wn.none rfl) rfl rfl ?_
                                    refine WR.step (Ex.assign rfl) (Wn.none rfl) rfl rfl ?_
                                    refine WR.nil ?_
                                    refine WQ.then ?_
                                    refine WC.ret ?_
                                    (repeat (first | refine WQ.thenRet ?_ | refine WQ.inBlockRet ?_))
                                    refine WQ.ret1 rfl rfl H.ext ?_
                                    refine congrArg Value.bool ?_
                                    rw [con_eq, if_neg (by omega)]
                                    unfold contC
                                    rw [if_neg (by omega)]
                                    rw [if_neg (by omega)]
                                    rw [if_neg (by omega)]
                                    rw [if_neg (by omega)]
                                    rw [if_neg (by omega)]
                                    first | rfl | exact (decide_eq_true (by omega)).symm | exact (decide_eq_false (by omega)).symm | exact decide_eq_decide.2 (by omega) | (exfalso; omega)
                            ·
                              refine WR.step (Ex.move rfl) (Wn.some rfl rfl rfl) rfl rfl ?_
                              refine WR.skipG (b := false) rfl rfl rfl rfl rfl ?_
                              refine WR.skipG (b := false) rfl rfl rfl rfl rfl ?_
                              refine WR.skipG (b := false) rfl rfl rfl rfl rfl ?_
                              refine WR.skipU rfl rfl rfl rfl rfl ?_
                              refine WR.skipU rfl rfl rfl rfl rfl ?_
                              refine WR.skipG (b := false) rfl rfl rfl rfl rfl ?_
                              refine WR.step (Ex.pickF rfl rfl) (Wn.some rfl rfl rfl) rfl rfl ?_
                              refine WR.step (Ex.pickF rfl rfl) (Wn.none rfl) rfl rfl ?_
                              refine WR.step (Ex.move rfl) (Wn.none rfl) rfl rfl ?_
                              refine WR.step (Ex.move rfl) (Wn.some rfl rfl rfl) rfl rfl ?_
                              refine WR.split (Ex.eql rfl rfl) (Wn.some rfl rfl rfl) rfl rfl (fun h15_24 => ?_) (fun h15_24 => ?_)
                              ·
                                refine WR.step (Ex.move rfl) (Wn.some rfl rfl rfl) rfl rfl ?_
                                refine WR.step (Ex.move rfl) (Wn.some rfl rfl rfl) rfl rfl ?_
                                refine WR.step (Ex.eql rfl rfl) (Wn.some rfl rfl rfl) rfl rfl ?_
                                refine WR.step (Ex.pickT rfl rfl) (Wn.some rfl rfl rfl) rfl rfl ?_
                                refine WR.step (Ex.pickF rfl rfl) (Wn.none rfl) rfl rfl ?_
                                refine WR.step (Ex.assign rfl) (Wn.none rfl) rfl rfl ?_
                                refine WR.nil ?_
                                refine WQ.then ?_
                                refine WC.ret ?_
                                (repeat (first | refine WQ.thenRet ?_ | refine WQ.inBlockRet ?_))
                                refine WQ.ret1 rfl rfl H.ext ?_
                                refine congrArg Value.bool ?_
                                rw [con_eq, if_neg (by omega)]
                                unfold contC
                                rw [if_neg (by omega)]
                                rw [if_neg (by omega)]
                                rw [if_neg (by omega)]
                                rw [if_neg (by omega)]
                                rw [if_neg (by omega)]
                                first | rfl | exact (decide_eq_true (by omega)).symm | exact (decide_eq_false (by omega)).symm | exact decide_eq_decide.2 (by omega) | (exfalso; omega)
                              ·
                                refine WR.step (Ex.move rfl) (Wn.some rfl rfl rfl) rfl rfl ?_
                                refine WR.skipG (b := false) rfl rfl rfl rfl rfl ?_
                                refine WR.skipG (b := false) rfl rfl rfl rfl rfl ?_
                                refine WR.step (Ex.pickF rfl rfl) (Wn.some rfl rfl rfl) rfl rfl ?_
                                refine WR.step (Ex.pickF rfl rfl) (Wn.none rfl) rfl rfl ?_
                                refine WR.step (Ex.assign rfl) (Wn.none rfl) rfl rfl ?_
                                refine WR.nil ?_
                                refine WQ.then ?_
                                refine WC.ret ?_
                                (repeat (first | refine WQ.thenRet ?_ | refine WQ.inBlockRet ?_))
                                refine WQ.ret1 rfl rfl H.ext ?_
                                refine congrArg Value.bool ?_
                                rw [con_eq, if_neg (by omega)]
                                unfold contC
                                rw [if_neg (by omega)]
                                rw [if_neg (by omega)]
                                rw [if_neg (by omega)]
                                rw [if_neg (by omega)]
                                rw [if_neg (by omega)]
                                first | rfl | exact (decide_eq_true (by omega)).symm | exact (decide_eq_false (by omega)).symm | exact decide_eq_decide.2 (by omega) | (exfalso; omega)
                      ·
                        refine WR.step (Ex.move rfl) (Wn.none rfl) rfl rfl ?_
                        refine WR.skipG (b := false) rfl rfl rfl rfl rfl ?_
                        refine WR.skipG (b := false) rfl rfl rfl rfl rfl ?_
                        refine WR.skipG (b := false) rfl rfl rfl rfl rfl ?_
                        refine WR.skipU rfl rfl rfl rfl rfl ?_
                        refine WR.skipU rfl rfl rfl rfl rfl ?_
                        refine WR.skipG (b := false) rfl rfl rfl rfl rfl ?_
                        refine WR.step (Ex.pickF rfl rfl) (Wn.none rfl) rfl rfl ?_
                        refine WR.step (Ex.move rfl) (Wn.none rfl) rfl rfl ?_
                        refine WR.step (Ex.move rfl) (Wn.some rfl rfl rfl) rfl rfl ?_
                        refine WR.split (Ex.eql rfl rfl) (Wn.some rfl rfl rfl) rfl rfl (fun h15_12 => ?_) (fun h15_12 => ?_)
                        ·
                          refine WR.step (Ex.move rfl) (Wn.some rfl rfl rfl) rfl rfl ?_
                          refine WR.step (Ex.move rfl) (Wn.some rfl rfl rfl) rfl rfl ?_
                          refine WR.split (Ex.eql rfl rfl) (Wn.some rfl rfl rfl) rfl rfl (fun h15_15 => ?_) (fun h15_15 => ?_)
                          ·
                            refine WR.step (Ex.move rfl) (Wn.some rfl rfl rfl) rfl rfl ?_
                            refine WR.skipG (b := true) rfl rfl rfl rfl rfl ?_
                            refine WR.skipG (b := true) rfl rfl rfl rfl rfl ?_
                            refine WR.step (Ex.pickT rfl rfl) (Wn.some rfl rfl rfl) rfl rfl ?_
                            refine WR.step (Ex.pickT rfl rfl) (Wn.some rfl rfl rfl) rfl rfl ?_
                            refine WR.step (Ex.pickF rfl rfl) (Wn.none rfl) rfl rfl ?_
                            refine WR.step (Ex.move rfl) (Wn.none rfl) rfl rfl ?_
                            refine WR.skipG (b := true) rfl rfl rfl rfl rfl ?_
                            refine WR.skipG (b := true) rfl rfl rfl rfl rfl ?_
                            refine WR.skipG (b := true) rfl rfl rfl rfl rfl ?_
                            refine WR.skipU rfl rfl rfl rfl rfl ?_
                            refine WR.skipU rfl rfl rfl rfl rfl ?_
                            refine WR.skipG (b := true) rfl rfl rfl rfl rfl ?_
                            refine WR.step (Ex.pickT rfl rfl) (Wn.none rfl) rfl rfl ?_
                            refine WR.step (Ex.assign rfl) (Wn.none rfl) rfl rfl ?_
                            refine WR.nil ?_
                            refine WQ.then ?_
                            refine WC.ret ?_
                            (repeat (first | refine WQ.thenRet ?_ | refine WQ.inBlockRet ?_))
                            refine WQ.ret1 rfl rfl H.ext ?_
                            refine congrArg Value.bool ?_
                            rw [con_eq, if_neg (by omega)]
                            unfold contC
                            rw [if_neg (by omega)]
                            rw [if_neg (by omega)]
                            rw [if_neg (by omega)]
                            rw [if_neg (by omega)]
                            rw [if_neg (by omega)]
                            first | rfl | exact (decide_eq_true (by omega)).symm | exact (decide_eq_false (by omega)).symm | exact decide_eq_decide.2 (by omega) | (exfalso; omega)
                          ·
                            refine WR.step (Ex.move rfl) (Wn.some rfl rfl rfl) rfl rfl ?_
                            refine WR.step (Ex.move rfl) (Wn.some rfl rfl rfl) rfl rfl ?_
                            refine WR.split (Ex.eql rfl rfl) (Wn.some rfl rfl rfl) rfl rfl (fun h15_18 => ?_) (fun h15_18 => ?_)
                            ·
                              refine WR.step (Ex.pickF rfl rfl) (Wn.some rfl rfl rfl) rfl rfl ?_
                              refine WR.step (Ex.pickT rfl rfl) (Wn.some rfl rfl rfl) rfl rfl ?_
                              refine WR.step (Ex.pickF rfl rfl) (Wn.none rfl) rfl rfl ?_
                              refine WR.step (Ex.move rfl) (Wn.none rfl) rfl rfl ?_
                              refine WR.skipG (b := true) rfl rfl rfl rfl rfl ?_
                              refine WR.skipG (b := true) rfl rfl rfl rfl rfl ?_
                              refine WR.skipG (b := true) rfl rfl rfl rfl rfl ?_
                              refine WR.skipU rfl rfl rfl rfl rfl ?_
                              refine WR.skipU rfl rfl rfl rfl rfl ?_
                              refine WR.skipG (b := true) rfl rfl rfl rfl rfl ?_
                              refine WR.step (Ex.pickT rfl rfl) (Wn.none rfl) rfl rfl ?_
                              refine WR.step (Ex.assign rfl) (Wn.none rfl) rfl rfl ?_
                              refine WR.nil ?_
                              refine WQ.then ?_
                              refine WC.ret ?_
                              (repeat (first | refine WQ.thenRet ?_ | refine WQ.inBlockRet ?_))
                              refine WQ.ret1 rfl rfl H.ext ?_
                              refine congrArg Value.bool ?_
                              rw [con_eq, if_neg (by omega)]
                              unfold contC
                              rw [if_neg (by omega)]
                              rw [if_neg (by omega)]
                              rw [if_neg (by omega)]
                              rw [if_neg (by omega)]
                              rw [if_neg (by omega)]
                              first | rfl | exact (decide_eq_true (by omega)).symm | exact (decide_eq_false (by omega)).symm | exact decide_eq_decide.2 (by omega) | (exfalso; omega)
                            ·
                              refine WR.step (Ex.pickF rfl rfl) (Wn.some rfl rfl rfl) rfl rfl ?_
                              refine WR.step (Ex.pickT rfl rfl) (Wn.some rfl rfl rfl) rfl rfl ?_
                              refine WR.step (Ex.pickF rfl rfl) (Wn.none rfl) rfl rfl ?_
                              refine WR.step (Ex.move rfl) (Wn.none rfl) rfl rfl ?_
                              refine WR.step (Ex.move rfl) (Wn.some rfl rfl rfl) rfl rfl ?_
                              refine WR.split (Ex.eql rfl rfl) (Wn.some rfl rfl rfl) rfl rfl (fun h15_24 => ?_) (fun h15_24 => ?_)
                              ·
                                refine WR.step (Ex.move rfl) (Wn.some rfl rfl rfl) rfl rfl ?_
                                refine WR.step (Ex.move rfl) (Wn.some rfl rfl rfl) rfl rfl ?_
                                refine WR.step (Ex.eql rfl rfl) (Wn.some rfl rfl rfl) rfl rfl ?_
                                refine WR.step (Ex.pickT rfl rfl) (Wn.some rfl rfl rfl) rfl rfl ?_
                                refine WR.step (Ex.pickF rfl rfl) (Wn.none rfl) rfl rfl ?_
                                refine WR.step (Ex.assign rfl) (Wn.none rfl) rfl rfl ?_
                                refine WR.nil ?_
                                refine WQ.then ?_
                                refine WC.ret ?_
                                (repeat (first | refine WQ.thenRet ?_ | refine WQ.inBlockRet ?_))
                                refine WQ.ret1 rfl rfl H.ext ?_
                                refine congrArg Value.bool ?_
                                rw [con_eq, if_neg (by omega)]
                                unfold contC
                                rw [if_neg (by omega)]
                                rw [if_neg (by omega)]
                                rw [if_neg (by omega)]
                                rw [if_neg (by omega)]
                                rw [if_neg (by omega)]
                                first | rfl | exact (decide_eq_true (by omega)).symm | exact (decide_eq_false (by omega)).symm | exact decide_eq_decide.2 (by omega) | (exfalso; omega)
                              ·
                                refine WR.step (Ex.move rfl) (Wn.some rfl rfl rfl) rfl rfl ?_
                                refine WR.skipG (b := false) rfl rfl rfl rfl rfl ?_
                                refine WR.skipG (b := false) rfl rfl rfl rfl rfl ?_
                                refine WR.step (Ex.pickF rfl rfl) (Wn.some rfl rfl rfl) rfl rfl ?_
                                refine WR.step (Ex.pickF rfl rfl) (Wn.none rfl) rfl rfl ?_
                                refine WR.step (Ex.assign rfl) (Wn.none rfl) rfl rfl ?_
                                refine WR.nil ?_
                                refine WQ.then ?_
                                refine WC.ret ?_
                                (repeat (first | refine WQ.thenRet ?_ | refine WQ.inBlockRet ?_))
                                refine WQ.ret1 rfl rfl H.ext ?_
                                refine congrArg Value.bool ?_
                                rw [con_eq, if_neg (by omega)]
                                unfold contC
                                rw [if_neg (by omega)]
                                rw [if_neg (by omega)]
                                rw [if_neg (by omega)]
                                rw [if_neg (by omega)]
                                rw [if_neg (by omega)]
                                first | rfl | exact (decide_eq_true (by omega)).symm | exact (decide_eq_false (by omega)).symm | exact decide_eq_decide.2 (by omega) | (exfalso; omega)
                        ·
                          refine WR.step (Ex.move rfl) (Wn.some rfl rfl rfl) rfl rfl ?_
                          refine WR.skipG (b := false) rfl rfl rfl rfl rfl ?_
                          refine WR.skipG (b := false) rfl rfl rfl rfl rfl ?_
                          refine WR.skipG (b := false) rfl rfl rfl rfl rfl ?_
                          refine WR.skipU rfl rfl rfl rfl rfl ?_
                          refine WR.skipU rfl rfl rfl rfl rfl ?_
                          refine WR.skipG (b := false) rfl rfl rfl rfl rfl ?_
                          refine WR.step (Ex.pickF rfl rfl) (Wn.some rfl rfl rfl) rfl rfl ?_
                          refine WR.step (Ex.pickF rfl rfl) (Wn.none rfl) rfl rfl ?_
                          refine WR.step (Ex.move rfl) (Wn.none rfl) rfl rfl ?_
                          refine WR.step (Ex.move rfl) (Wn.some rfl rfl rfl) rfl rfl ?_
                          refine WR.split (Ex.eql rfl rfl) (Wn.some rfl rfl rfl) rfl rfl (fun h15_24 => ?_) (fun h15_24 => ?_)
                          ·
                            refine WR.step (Ex.move rfl) (Wn.some rfl rfl rfl) rfl rfl ?_
                            refine WR.step (Ex.move rfl) (Wn.some rfl rfl rfl) rfl rfl ?_
                            refine WR.step (Ex.eql rfl rfl) (Wn.some rfl rfl rfl) rfl rfl ?_
                            refine WR.step (Ex.pickT rfl rfl) (Wn.some rfl rfl rfl) rfl rfl ?_
                            refine WR.step (Ex.pickF rfl rfl) (Wn.none rfl) rfl rfl ?_
                            refine WR.step (Ex.assign rfl) (Wn.none rfl) rfl rfl ?_
                            refine WR.nil ?_
                            refine WQ.then ?_
                            refine WC.ret ?_
                            (repeat (first | refine WQ.thenRet ?_ | refine WQ.inBlockRet ?_))
                            refine WQ.ret1 rfl rfl H.ext ?_
                            refine congrArg Value.bool ?_
                            rw [con_eq, if_neg (by omega)]
                            unfold contC
                            rw [if_neg (by omega)]
                            rw [if_neg (by omega)]
                            rw [if_neg (by omega)]
                            rw [if_neg (by omega)]
                            rw [if_neg (by omega)]
                            first | rfl | exact (decide_eq_true (by omega)).symm | exact (decide_eq_false (by omega)).symm | exact decide_eq_decide.2 (by omega) | (exfalso; omega)
                          ·
                            refine WR.step (Ex.move rfl) (Wn.some rfl rfl rfl) rfl rfl ?_
                            refine WR.skipG (b := false) rfl rfl rfl rfl rfl ?_
                            refine WR.skipG (b := false) rfl rfl rfl rfl rfl ?_
                            refine WR.step (Ex.pickF rfl rfl) (Wn.some rfl rfl rfl) rfl rfl ?_
                            refine WR.step (Ex.pickF rfl rfl) (Wn.none rfl) rfl rfl ?_
                            refine WR.step (Ex.assign rfl) (Wn.none rfl) rfl rfl ?_
                            refine WR.nil ?_
                            refine WQ.then ?_
                            refine WC.ret ?_
                            (repeat (first | refine WQ.thenRet ?_ | refine WQ.inBlockRet ?_))
                            refine WQ.ret1 rfl rfl H.ext ?_
                            refine congrArg Value.bool ?_
                            rw [con_eq, if_neg (by omega)]
                            unfold contC
                            rw [if_neg (by omega)]
                            rw [if_neg (by omega)]
                            rw [if_neg (by omega)]
                            rw [if_neg (by omega)]
                            rw [if_neg (by omega)]
                            first | rfl | exact (decide_eq_true (by omega)).symm | exact (decide_eq_false (by omega)).symm | exact decide_eq_decide.2 (by omega) | (exfalso; omega)
      ·
        refine WR.step (Ex.move rfl) (Wn.none rfl) rfl rfl ?_
        refine WR.skipG (b := false) rfl rfl rfl rfl rfl ?_
        refine WR.skipG (b := false) rfl rfl rfl rfl rfl ?_
        refine WR.step (Ex.pickF rfl rfl) (Wn.none rfl) rfl rfl ?_
        refine WR.nil ?_
        refine WQ.then ?_
        refine WC.condF rfl ?_
        refine WC.skip ?_
        refine WQ.then ?_
        refine WC.seq ?_
        refine WC.seq ?_
        refine WC.region ?_
        refine WR.step (Ex.move rfl) (Wn.none rfl) rfl rfl ?_
        refine WR.callB H (in_spec _ _ _) rfl (trivial) (Wn.none rfl) rfl (fun h7_1 => ?_) (fun h7_1 => ?_)
        ·
          intro M w H hle
          replace hp := hp.mono hle
          replace hc12 := hc12.mono hle
          replace hc18 := hc18.mono hle
          replace hc25 := hc25.mono hle
          replace hc30 := hc30.mono hle
          refine WR.step (Ex.move rfl) (Wn.none rfl) rfl rfl ?_
          refine WR.skipG (b := true) rfl rfl rfl rfl rfl ?_
          refine WR.skipG (b := true) rfl rfl rfl rfl rfl ?_
          refine WR.step (Ex.pickT rfl rfl) (Wn.none rfl) rfl rfl ?_
          refine WR.nil ?_
          refine WQ.then ?_
          refine WC.condT rfl ?_
          refine WC.seq ?_
          refine WC.region ?_
          refine WR.step (Ex.assign rfl) (Wn.none rfl) rfl rfl ?_
          refine WR.nil ?_
          refine WQ.then ?_
          refine WC.ret ?_
          (repeat (first | refine WQ.thenRet ?_ | refine WQ.inBlockRet ?_))
          refine WQ.ret1 rfl rfl H.ext ?_
          refine congrArg Value.bool ?_
          rw [con_eq, if_neg (by omega)]
          unfold contC
          rw [if_neg (by omega)]
          rw [if_pos (by omega)]
        ·
          intro M w H hle
          replace hp := hp.mono hle
          replace hc12 := hc12.mono hle
          replace hc18 := hc18.mono hle
          replace hc25 := hc25.mono hle
          replace hc30 := hc30.mono hle
          refine WR.step (Ex.move rfl) (Wn.none rfl) rfl rfl ?_
          refine WR.step (Ex.move rfl) (Wn.some rfl rfl rfl) rfl rfl ?_
          refine WR.callB H (in_spec _ _ _) rfl (trivial) (Wn.some rfl rfl rfl) rfl (fun h7_4 => ?_) (fun h7_4 => ?_)
          ·
            intro M w H hle
            replace hp := hp.mono hle
            replace hc12 := hc12.mono hle
            replace hc18 := hc18.mono hle
            replace hc25 := hc25.mono hle
            replace hc30 := hc30.mono hle
            refine WR.step (Ex.pickF rfl rfl) (Wn.none rfl) rfl rfl ?_
            refine WR.nil ?_
            refine WQ.then ?_
            refine WC.condT rfl ?_
            refine WC.seq ?_
            refine WC.region ?_
            refine WR.step (Ex.assign rfl) (Wn.none rfl) rfl rfl ?_
            refine WR.nil ?_
            refine WQ.then ?_
            refine WC.ret ?_
            (repeat (first | refine WQ.thenRet ?_ | refine WQ.inBlockRet ?_))
            refine WQ.ret1 rfl rfl H.ext ?_
            refine congrArg Value.bool ?_
            rw [con_eq, if_neg (by omega)]
            unfold contC
            rw [if_neg (by omega)]
            rw [if_pos (by omega)]
          ·
            intro M w H hle
            replace hp := hp.mono hle
            replace hc12 := hc12.mono hle
            replace hc18 := hc18.mono hle
            replace hc25 := hc25.mono hle
            replace hc30 := hc30.mono hle
            refine WR.step (Ex.pickF rfl rfl) (Wn.none rfl) rfl rfl ?_
            refine WR.nil ?_
            refine WQ.then ?_
            refine WC.condF rfl ?_
            refine WC.skip ?_
            refine WQ.then ?_
            refine WC.seq ?_
            refine WC.seq ?_
            refine WC.region ?_
            refine WR.step (Ex.move rfl) (Wn.none rfl) rfl rfl ?_
            refine WR.split (Ex.eql rfl rfl) (Wn.none rfl) rfl rfl (fun h9_1 => ?_) (fun h9_1 => ?_)
            ·
              refine WR.step (Ex.move rfl) (Wn.none rfl) rfl rfl ?_
              refine WR.skipG (b := true) rfl rfl rfl rfl rfl ?_
              refine WR.skipG (b := true) rfl rfl rfl rfl rfl ?_
              refine WR.step (Ex.pickT rfl rfl) (Wn.none rfl) rfl rfl ?_
              refine WR.nil ?_
              refine WQ.then ?_
              refine WC.condT rfl ?_
              refine WC.seq ?_
              refine WC.region ?_
              refine WR.step (Ex.assign rfl) (Wn.none rfl) rfl rfl ?_
              refine WR.nil ?_
              refine WQ.then ?_
              refine WC.ret ?_
              (repeat (first | refine WQ.thenRet ?_ | refine WQ.inBlockRet ?_))
              refine WQ.ret1 rfl rfl H.ext ?_
              refine congrArg Value.bool ?_
              rw [con_eq, if_neg (by omega)]
              unfold contC
              rw [if_neg (by omega)]
              rw [if_neg (by omega)]
              rw [if_pos (by omega)]
            ·
              refine WR.step (Ex.move rfl) (Wn.none rfl) rfl rfl ?_
              refine WR.step (Ex.move rfl) (Wn.some rfl rfl rfl) rfl rfl ?_
              refine WR.split (Ex.eql rfl rfl) (Wn.some rfl rfl rfl) rfl rfl (fun h9_4 => ?_) (fun h9_4 => ?_)
              ·
                refine WR.step (Ex.pickF rfl rfl) (Wn.none rfl) rfl rfl ?_
                refine WR.nil ?_
                refine WQ.then ?_
                refine WC.condT rfl ?_
                refine WC.seq ?_
                refine WC.region ?_
                refine WR.step (Ex.assign rfl) (Wn.none rfl) rfl rfl ?_
                refine WR.nil ?_
                refine WQ.then ?_
                refine WC.ret ?_
                (repeat (first | refine WQ.thenRet ?_ | refine WQ.inBlockRet ?_))
                refine WQ.ret1 rfl rfl H.ext ?_
                refine congrArg Value.bool ?_
                rw [con_eq, if_neg (by omega)]
                unfold contC
                rw [if_neg (by omega)]
                rw [if_neg (by omega)]
                rw [if_pos (by omega)]
              ·
                refine WR.step (Ex.pickF rfl rfl) (Wn.none rfl) rfl rfl ?_
                refine WR.nil ?_
                refine WQ.then ?_
                refine WC.condF rfl ?_
                refine WC.skip ?_
                refine WQ.then ?_
                refine WC.seq ?_
                refine WC.seq ?_
                refine WC.region ?_
                refine WR.step (Ex.move rfl) (Wn.none rfl) rfl rfl ?_
                refine WR.split (Ex.eql rfl rfl) (Wn.none rfl) rfl rfl (fun h11_1 => ?_) (fun h11_1 => ?_)
                ·
                  refine WR.nil ?_
                  refine WQ.then ?_
                  refine WC.condT rfl ?_
                  refine WC.seq ?_
                  refine WC.region ?_
                  refine WR.step (Ex.move rfl) (Wn.none rfl) rfl rfl ?_
                  refine WR.step (Ex.eql rfl rfl) (Wn.none rfl) rfl rfl ?_
                  refine WR.step (Ex.assign rfl) (Wn.none rfl) rfl rfl ?_
                  refine WR.nil ?_
                  refine WQ.then ?_
                  refine WC.ret ?_
                  (repeat (first | refine WQ.thenRet ?_ | refine WQ.inBlockRet ?_))
                  refine WQ.ret1 rfl rfl H.ext ?_
                  refine congrArg Value.bool ?_
                  rw [con_eq, if_neg (by omega)]
                  unfold contC
                  rw [if_neg (by omega)]
                  rw [if_neg (by omega)]
                  rw [if_neg (by omega)]
                  rw [if_pos (by omega)]
                ·
                  refine WR.nil ?_
                  refine WQ.then ?_
                  refine WC.condF rfl ?_
                  refine WC.skip ?_
                  refine WQ.then ?_
                  refine WC.seq ?_
                  refine WC.seq ?_
                  refine WC.region ?_
                  refine WR.step (Ex.move rfl) (Wn.none rfl) rfl rfl ?_
                  refine WR.split (Ex.eql rfl rfl) (Wn.none rfl) rfl rfl (fun h13_1 => ?_) (fun h13_1 => ?_)
                  ·
                    refine WR.nil ?_
                    refine WQ.then ?_
                    refine WC.condT rfl ?_
                    refine WC.seq ?_
                    refine WC.region ?_
                    refine WR.step (Ex.move rfl) (Wn.none rfl) rfl rfl ?_
                    refine WR.step (Ex.rem64 rfl rfl (by first | omega | exact ⟨Int.natCast_nonneg _, by decide⟩)) (Wn.none rfl) rfl rfl ?_
                    refine WR.step (Ex.eql rfl rfl) (Wn.none rfl) rfl rfl ?_
                    refine WR.step (Ex.assign rfl) (Wn.none rfl) rfl rfl ?_
                    refine WR.nil ?_
                    refine WQ.then ?_
                    refine WC.ret ?_
                    (repeat (first | refine WQ.thenRet ?_ | refine WQ.inBlockRet ?_))
                    refine WQ.ret1 rfl rfl H.ext ?_
                    refine congrArg Value.bool ?_
                    rw [con_eq, if_neg (by omega)]
                    unfold contC
                    rw [if_neg (by omega)]
                    rw [if_neg (by omega)]
                    rw [if_neg (by omega)]
                    rw [if_neg (by omega)]
                    rw [if_pos (by omega)]
                  ·
                    refine WR.nil ?_
                    refine WQ.then ?_
                    refine WC.condF rfl ?_
                    refine WC.skip ?_
                    refine WQ.then ?_
                    refine WC.seq ?_
                    refine WC.region ?_
                    refine WR.step (Ex.move rfl) (Wn.none rfl) rfl rfl ?_
                    refine WR.split (Ex.eql rfl rfl) (Wn.none rfl) rfl rfl (fun h15_1 => ?_) (fun h15_1 => ?_)
                    ·
                      refine WR.step (Ex.move rfl) (Wn.none rfl) rfl rfl ?_
                      refine WR.step (Ex.move rfl) (Wn.some rfl rfl rfl) rfl rfl ?_
                      refine WR.split (Ex.eql rfl rfl) (Wn.some rfl rfl rfl) rfl rfl (fun h15_4 => ?_) (fun h15_4 => ?_)
                      ·
                        refine WR.step (Ex.move rfl) (Wn.some rfl rfl rfl) rfl rfl ?_
                        refine WR.skipG (b := true) rfl rfl rfl rfl rfl ?_
                        refine WR.skipG (b := true) rfl rfl rfl rfl rfl ?_
                        refine WR.step (Ex.pickT rfl rfl) (Wn.some rfl rfl rfl) rfl rfl ?_
                        refine WR.step (Ex.pickT rfl rfl) (Wn.none rfl) rfl rfl ?_
                        refine WR.step (Ex.move rfl) (Wn.none rfl) rfl rfl ?_
                        refine WR.skipG (b := true) rfl rfl rfl rfl rfl ?_
                        refine WR.skipG (b := true) rfl rfl rfl rfl rfl ?_
                        refine WR.skipG (b := true) rfl rfl rfl rfl rfl ?_
                        refine WR.skipU rfl rfl rfl rfl rfl ?_
                        refine WR.skipU rfl rfl rfl rfl rfl ?_
                        refine WR.skipU rfl rfl rfl rfl rfl ?_
                        refine WR.skipU rfl rfl rfl rfl rfl ?_
                        refine WR.skipU rfl rfl rfl rfl rfl ?_
                        refine WR.skipU rfl rfl rfl rfl rfl ?_
                        refine WR.skipG (b := true) rfl rfl rfl rfl rfl ?_
                        refine WR.step (Ex.pickT rfl rfl) (Wn.none rfl) rfl rfl ?_
                        refine WR.step (Ex.move rfl) (Wn.none rfl) rfl rfl ?_
                        refine WR.skipG (b := true) rfl rfl rfl rfl rfl ?_
                        refine WR.skipG (b := true) rfl rfl rfl rfl rfl ?_
                        refine WR.skipG (b := true) rfl rfl rfl rfl rfl ?_
                        refine WR.skipU rfl rfl rfl rfl rfl ?_
                        refine WR.skipU rfl rfl rfl rfl rfl ?_
                        refine WR.skipG (b := true) rfl rfl rfl rfl rfl ?_
                        refine WR.step (Ex.pickT rfl rfl) (Wn.none rfl) rfl rfl ?_
                        refine WR.step (Ex.assign rfl) (Wn.none rfl) rfl rfl ?_
                        refine WR.nil ?_
                        refine WQ.then ?_
                        refine WC.ret ?_
                        (repeat (first | refine WQ.thenRet ?_ | refine WQ.inBlockRet ?_))
                        refine WQ.ret1 rfl rfl H.ext ?_
                        refine congrArg Value.bool ?_
                        rw [con_eq, if_neg (by omega)]
                        unfold contC
                        rw [if_neg (by omega)]
                        rw [if_neg (by omega)]
                        rw [if_neg (by omega)]
                        rw [if_neg (by omega)]
                        rw [if_neg (by omega)]
                        first | rfl | exact (decide_eq_true (by omega)).symm | exact (decide_eq_false (by omega)).symm | exact decide_eq_decide.2 (by omega) | (exfalso; omega)
                      ·
                        refine WR.step (Ex.move rfl) (Wn.some rfl rfl rfl) rfl rfl ?_
                        refine WR.step (Ex.move rfl) (Wn.some rfl rfl rfl) rfl rfl ?_
                        refine WR.split (Ex.eql rfl rfl) (Wn.some rfl rfl rfl) rfl rfl (fun h15_7 => ?_) (fun h15_7 => ?_)
                        ·
                          refine WR.step (Ex.pickF rfl rfl) (Wn.some rfl rfl rfl) rfl rfl ?_
                          refine WR.step (Ex.pickT rfl rfl) (Wn.none rfl) rfl rfl ?_
                          refine WR.step (Ex.move rfl) (Wn.none rfl) rfl rfl ?_
                          refine WR.skipG (b := true) rfl rfl rfl rfl rfl ?_
                          refine WR.skipG (b := true) rfl rfl rfl rfl rfl ?_
                          refine WR.skipG (b := true) rfl rfl rfl rfl rfl ?_
                          refine WR.skipU rfl rfl rfl rfl rfl ?_
                          refine WR.skipU rfl rfl rfl rfl rfl ?_
                          refine WR.skipU rfl rfl rfl rfl rfl ?_
                          refine WR.skipU rfl rfl rfl rfl rfl ?_
                          refine WR.skipU rfl rfl rfl rfl rfl ?_
                          refine WR.skipU rfl rfl rfl rfl rfl ?_
                          refine WR.skipG (b := true) rfl rfl rfl rfl rfl ?_
                          refine WR.step (Ex.pickT rfl rfl) (Wn.none rfl) rfl rfl ?_
                          refine WR.step (Ex.move rfl) (Wn.none rfl) rfl rfl ?_
                          refine WR.skipG (b := true) rfl rfl rfl rfl rfl ?_
                          refine WR.skipG (b := true) rfl rfl rfl rfl rfl ?_
                          refine WR.skipG (b := true) rfl rfl rfl rfl rfl ?_
                          refine WR.skipU rfl rfl rfl rfl rfl ?_
                          refine WR.skipU rfl rfl rfl rfl rfl ?_
                          refine WR.skipG (b := true) rfl rfl rfl rfl rfl ?_
                          refine WR.step (Ex.pickT rfl rfl) (Wn.none rfl) rfl rfl ?_
                          refine WR.step (Ex.assign rfl) (Wn.none rfl) rfl rfl ?_
                          refine WR.nil ?_
                          refine WQ.then ?_
                          refine WC.ret ?_
                          (repeat (first | refine WQ.thenRet ?_ | refine WQ.inBlockRet ?_))
                          refine WQ.ret1 rfl rfl H.ext ?_
                          refine congrArg Value.bool ?_
                          rw [con_eq, if_neg (by omega)]
                          unfold contC
                          rw [if_neg (by omega)]
                          rw [if_neg (by omega)]
                          rw [if_neg (by omega)]
                          rw [if_neg (by omega)]
                          rw [if_neg (by omega)]
                          first | rfl | exact (decide_eq_true (by omega)).symm | exact (decide_eq_false (by omega)).symm | exact decide_eq_decide.2 (by omega) | (exfalso; omega)
                        ·
                          refine WR.step (Ex.pickF rfl rfl) (Wn.some rfl rfl rfl) rfl rfl ?_
                          refine WR.step (Ex.pickT rfl rfl) (Wn.none rfl) rfl rfl ?_
                          refine WR.step (Ex.move rfl) (Wn.none rfl) rfl rfl ?_
                          refine WR.step (Ex.move rfl) (Wn.some rfl rfl rfl) rfl rfl ?_
                          refine WR.split (Ex.eql rfl rfl) (Wn.some rfl rfl rfl) rfl rfl (fun h15_12 => ?_) (fun h15_12 => ?_)
                          ·
                            refine WR.step (Ex.move rfl) (Wn.some rfl rfl rfl) rfl rfl ?_
                            refine WR.step (Ex.move rfl) (Wn.some rfl rfl rfl) rfl rfl ?_
                            refine WR.split (Ex.eql rfl rfl) (Wn.some rfl rfl rfl) rfl rfl (fun h15_15 => ?_) (fun h15_15 => ?_)
                            ·
                              refine WR.step (Ex.move rfl) (Wn.some rfl rfl rfl) rfl rfl ?_
                              refine WR.skipG (b := true) rfl rfl rfl rfl rfl ?_
                              refine WR.skipG (b := true) rfl rfl rfl rfl rfl ?_
                              refine WR.step (Ex.pickT rfl rfl) (Wn.some rfl rfl rfl) rfl rfl ?_
                              refine WR.step (Ex.pickT rfl rfl) (Wn.some rfl rfl rfl) rfl rfl ?_
                              refine WR.step (Ex.pickF rfl rfl) (Wn.none rfl) rfl rfl ?_
                              refine WR.step (Ex.move rfl) (Wn.none rfl) rfl rfl ?_
                              refine WR.skipG (b := true) rfl rfl rfl rfl rfl ?_
                              refine WR.skipG (b := true) rfl rfl rfl rfl rfl ?_
                              refine WR.skipG (b := true) rfl rfl rfl rfl rfl ?_
                              refine WR.skipU rfl rfl rfl rfl rfl ?_
                              refine WR.skipU rfl rfl rfl rfl rfl ?_
                              refine WR.skipG (b := true) rfl rfl rfl rfl rfl ?_
                              refine WR.step (Ex.pickT rfl rfl) (Wn.none rfl) rfl rfl ?_
                              refine WR.step (Ex.assign rfl) (Wn.none rfl) rfl rfl ?_
                              refine WR.nil ?_
                              refine WQ.then ?_
                              refine WC.ret ?_
                              (repeat (first | refine WQ.thenRet ?_ | refine WQ.inBlockRet ?_))
                              refine WQ.ret1 rfl rfl H.ext ?_
                              refine congrArg Value.bool ?_
                              rw [con_eq, if_neg (by omega)]
                              unfold contC
                              rw [if_neg (by omega)]
                              rw [if_neg (by omega)]
                              rw [if_neg (by omega)]
                              rw [if_neg (by omega)]
                              rw [if_neg (by omega)]
                              first | rfl | exact (decide_eq_true (by omega)).symm | exact (decide_eq_false (by omega)).symm | exact decide_eq_decide.2 (by omega) | (exfalso; omega)
                            ·
                              refine WR.step (Ex.move rfl) (Wn.some rfl rfl rfl) rfl rfl ?_
                              refine WR.step (Ex.move rfl) (Wn.some rfl rfl rfl) rfl rfl ?_
                              refine WR.split (Ex.eql rfl rfl) (Wn.some rfl rfl rfl) rfl rfl (fun h15_18 => ?_) (fun h15_18 => ?_)
                              ·
                                refine WR.step (Ex.pickF rfl rfl) (Wn.some rfl rfl rfl) rfl rfl ?_
                                refine WR.step (Ex.pickT rfl rfl) (Wn.some rfl rfl rfl) rfl rfl ?_
                                refine WR.step (Ex.pickF rfl rfl) (Wn.none rfl) rfl rfl ?_
                                refine WR.step (Ex.move rfl) (Wn.none rfl) rfl rfl ?_
                                refine WR.skipG (b := true) rfl rfl rfl rfl rfl ?_
                                refine WR.skipG (b := true) rfl rfl rfl rfl rfl ?_
                                refine WR.skipG (b := true) rfl rfl rfl rfl rfl ?_
                                refine WR.skipU rfl rfl rfl rfl rfl ?_
                                refine WR.skipU rfl rfl rfl rfl rfl ?_
                                refine WR.skipG (b := true) rfl rfl rfl rfl rfl ?_
                                refine WR.step (Ex.pickT rfl rfl) (Wn.none rfl) rfl rfl ?_
                                refine WR.step (Ex.assign rfl) (Wn.none rfl) rfl rfl ?_
                                refine WR.nil ?_
                                refine WQ.then ?_
                                refine WC.ret ?_
                                (repeat (first | refine WQ.thenRet ?_ | refine WQ.inBlockRet ?_))
                                refine WQ.ret1 rfl rfl H.ext ?_
                                refine congrArg Value.bool ?_
                                rw [con_eq, if_neg (by omega)]
                                unfold contC
                                rw [if_neg (by omega)]
                                rw [if_neg (by omega)]
                                rw [if_neg (by omega)]
                                rw [if_neg (by omega)]
                                rw [if_neg (by omega)]
                                first | rfl | exact (decide_eq_true (by omega)).symm | exact (decide_eq_false (by omega)).symm | exact decide_eq_decide.2 (by omega) | (exfalso; omega)
                              ·
                                refine WR.step (Ex.pickF rfl rfl) (Wn.some rfl rfl rfl) rfl rfl ?_
                                refine WR.step (Ex.pickT rfl rfl) (Wn.some rfl rfl rfl) rfl rfl ?_
                                refine WR.step (Ex.pickF rfl rfl) (Wn.none rfl) rfl rfl ?_
                                refine WR.step (Ex.move rfl) (Wn.none rfl) rfl rfl ?_
                                refine WR.step (Ex.move rfl) (Wn.some rfl rfl rfl) rfl rfl ?_
                                refine WR.split (Ex.eql rfl rfl) (Wn.some rfl rfl rfl) rfl rfl (fun h15_24 => ?_) (fun h15_24 => ?_)
                                ·
                                  refine WR.step (Ex.move rfl) (Wn.some rfl rfl rfl) rfl rfl ?_
                                  refine WR.step (Ex.move rfl) (Wn.some rfl rfl rfl) rfl rfl ?_
                                  refine WR.step (Ex.eql rfl rfl) (Wn.some rfl rfl rfl) rfl rfl ?_
                                  refine WR.step (Ex.pickT rfl rfl) (Wn.some rfl rfl rfl) rfl rfl ?_
                                  refine WR.step (Ex.pickF rfl rfl) (Wn.none rfl) rfl rfl ?_
                                  refine WR.step (Ex.assign rfl) (Wn.none rfl) rfl rfl ?_
                                  refine WR.nil ?_
                                  refine WQ.then ?_
                                  refine WC.ret ?_
                                  (repeat (first | refine WQ.thenRet ?_ | refine WQ.inBlockRet ?_))
                                  refine WQ.ret1 rfl rfl H.ext ?_
                                  refine congrArg Value.bool ?_
                                  rw [con_eq, if_neg (by omega)]
                                  unfold contC
                                  rw [if_neg (by omega)]
                                  rw [if_neg (by omega)]
                                  rw [if_neg (by omega)]
                                  rw [if_neg (by omega)]
                                  rw [if_neg (by omega)]
                                  first | rfl | exact (decide_eq_true (by omega)).symm | exact (decide_eq_false (by omega)).symm | exact decide_eq_decide.2 (by omega) | (exfalso; omega)
                                ·
                                  refine WR.step (Ex.move rfl) (Wn.some rfl rfl rfl) rfl rfl ?_
                                  refine WR.skipG (b := false) rfl rfl rfl rfl rfl ?_
                                  refine WR.skipG (b := false) rfl rfl rfl rfl rfl ?_
                                  refine WR.step (Ex.pickF rfl rfl) (Wn.some rfl rfl rfl) rfl rfl ?_
                                  refine WR.step (Ex.pickF rfl rfl) (Wn.none rfl) rfl rfl ?_
                                  refine WR.step (Ex.assign rfl) (Wn.none rfl) rfl rfl ?_
                                  refine WR.nil ?_
                                  refine WQ.then ?_
                                  refine WC.ret ?_
                                  (repeat (first | refine WQ.thenRet ?_ | refine WQ.inBlockRet ?_))
                                  refine WQ.ret1 rfl rfl H.ext ?_
                                  refine congrArg Value.bool ?_
                                  rw [con_eq, if_neg (by omega)]
                                  unfold contC
                                  rw [if_neg (by omega)]
                                  rw [if_neg (by omega)]
                                  rw [if_neg (by omega)]
                                  rw [if_neg (by omega)]
                                  rw [if_neg (by omega)]
                                  first | rfl | exact (decide_eq_true (by omega)).symm | exact (decide_eq_false (by omega)).symm | exact decide_eq_decide.2 (by omega) | (exfalso; omega)
                          ·
                            refine WR.step (Ex.move rfl) (Wn.some rfl rfl rfl) rfl rfl ?_
                            refine WR.skipG (b := false) rfl rfl rfl rfl rfl ?_
                            refine WR.skipG (b := false) rfl rfl rfl rfl rfl ?_
                            refine WR.skipG (b := false) rfl rfl rfl rfl rfl ?_
                            refine WR.skipU rfl rfl rfl rfl rfl ?_
                            refine WR.skipU rfl rfl rfl rfl rfl ?_
                            refine WR.skipG (b := false) rfl rfl rfl rfl rfl ?_
                            refine WR.step (Ex.pickF rfl rfl) (Wn.some rfl rfl rfl) rfl rfl ?_
                            refine WR.step (Ex.pickF rfl rfl) (Wn.none rfl) rfl rfl ?_
                            refine WR.step (Ex.move rfl) (Wn.none rfl) rfl rfl ?_
                            refine WR.step (Ex.move rfl) (Wn.some rfl rfl rfl) rfl rfl ?_
                            refine WR.split (Ex.eql rfl rfl) (Wn.some rfl rfl rfl) rfl rfl (fun h15_24 => ?_) (fun h15_24 => ?_)
                            ·
                              refine WR.step (Ex.move rfl) (Wn.some rfl rfl rfl) rfl rfl ?_
                              refine WR.step (Ex.move rfl) (Wn.some rfl rfl rfl) rfl rfl ?_
                              refine WR.step (Ex.eql rfl rfl) (Wn.some rfl rfl rfl) rfl rfl ?_
                              refine WR.step (Ex.pickT rfl rfl) (Wn.some rfl rfl rfl) rfl rfl ?_
                              refine WR.step (Ex.pickF rfl rfl) (Wn.none rfl) rfl rfl ?_
                              refine WR.step (Ex.assign rfl) (Wn.none rfl) rfl rfl ?_
                              refine WR.nil ?_
                              refine WQ.then ?_
                              refine WC.ret ?_
                              (repeat (first | refine WQ.thenRet ?_ | refine WQ.inBlockRet ?_))
                              refine WQ.ret1 rfl rfl H.ext ?_
                              refine congrArg Value.bool ?_
                              rw [con_eq, if_neg (by omega)]
                              unfold contC
                              rw [if_neg (by omega)]
                              rw [if_neg (by omega)]
                              rw [if_neg (by omega)]
                              rw [if_neg (by omega)]
                              rw [if_neg (by omega)]
                              first | rfl | exact (decide_eq_true (by omega)).symm | exact (decide_eq_false (by omega)).symm | exact decide_eq_decide.2 (by omega) | (exfalso; omega)
                            ·
                              refine WR.step (Ex.move rfl) (Wn.some rfl rfl rfl) rfl rfl ?_
                              refine WR.skipG (b := false) rfl rfl rfl rfl rfl ?_
                              refine WR.skipG (b := false) rfl rfl rfl rfl rfl ?_
                              refine WR.step (Ex.pickF rfl rfl) (Wn.some rfl rfl rfl) rfl rfl ?_
                              refine WR.step (Ex.pickF rfl rfl) (Wn.none rfl) rfl rfl ?_
                              refine WR.step (Ex.assign rfl) (Wn.none rfl) rfl rfl ?_
                              refine WR.nil ?_
                              refine WQ.then ?_
                              refine WC.ret ?_
                              (repeat (first | refine WQ.thenRet ?_ | refine WQ.inBlockRet ?_))
                              refine WQ.ret1 rfl rfl H.ext ?_
                              refine congrArg Value.bool ?_
                              rw [con_eq, if_neg (by omega)]
                              unfold contC
                              rw [if_neg (by omega)]
                              rw [if_neg (by omega)]
                              rw [if_neg (by omega)]
                              rw [if_neg (by omega)]
                              rw [if_neg (by omega)]
                              first | rfl | exact (decide_eq_true (by omega)).symm | exact (decide_eq_false (by omega)).symm | exact decide_eq_decide.2 (by omega) | (exfalso; omega)
                    ·
                      refine WR.step (Ex.move rfl) (Wn.none rfl) rfl rfl ?_
                      refine WR.skipG (b := false) rfl rfl rfl rfl rfl ?_
                      refine WR.skipG (b := false) rfl rfl rfl rfl rfl ?_
                      refine WR.skipG (b := false) rfl rfl rfl rfl rfl ?_
                      refine WR.skipU rfl rfl rfl rfl rfl ?_
                      refine WR.skipU rfl rfl rfl rfl rfl ?_
                      refine WR.skipG (b := false) rfl rfl rfl rfl rfl ?_
                      refine WR.step (Ex.pickF rfl rfl) (Wn.none rfl) rfl rfl ?_
                      refine WR.step (Ex.move rfl) (Wn.none rfl) rfl rfl ?_
                      refine WR.step (Ex.move rfl) (Wn.some rfl rfl rfl) rfl rfl ?_
                      refine WR.split (Ex.eql rfl rfl) (Wn.some rfl rfl rfl) rfl rfl (fun h15_12 => ?_) (fun h15_12 => ?_)
                      ·
                        refine WR.step (Ex.move rfl) (Wn.some rfl rfl rfl) rfl rfl ?_
                        refine WR.step (Ex.move rfl) (Wn.some rfl rfl rfl) rfl rfl ?_
                        refine WR.split (Ex.eql rfl rfl) (Wn.some rfl rfl rfl) rfl rfl (fun h15_15 => ?_) (fun h15_15 => ?_)
                        ·
                          refine WR.step (Ex.move rfl) (Wn.some rfl rfl rfl) rfl rfl ?_
                          refine WR.skipG (b := true) rfl rfl rfl rfl rfl ?_
                          refine WR.skipG (b := true) rfl rfl rfl rfl rfl ?_
                          refine WR.step (Ex.pickT rfl rfl) (Wn.some rfl rfl rfl) rfl rfl ?_
                          refine WR.step (Ex.pickT rfl rfl) (Wn.some rfl rfl rfl) rfl rfl ?_
                          refine WR.step (Ex.pickF rfl rfl) (Wn.none rfl) rfl rfl ?_
                          refine WR.step (Ex.move rfl) (Wn.none rfl) rfl rfl ?_
                          refine WR.skipG (b := true) rfl rfl rfl rfl rfl ?_
                          refine WR.skipG (b := true) rfl rfl rfl rfl rfl ?_
                          refine WR.skipG (b := true) rfl rfl rfl rfl rfl ?_
                          refine WR.skipU rfl rfl rfl rfl rfl ?_
                          refine WR.skipU rfl rfl rfl rfl rfl ?_
                          refine WR.skipG (b := true) rfl rfl rfl rfl rfl ?_
                          refine WR.step (Ex.pickT rfl rfl) (Wn.none rfl) rfl rfl ?_
                          refine WR.step (Ex.assign rfl) (Wn.none rfl) rfl rfl ?_
                          refine WR.nil ?_
                          refine WQ.then ?_
                          refine WC.ret ?_
                          (repeat (first | refine WQ.thenRet ?_ | refine WQ.inBlockRet ?_))
                          refine WQ.ret1 rfl rfl H.ext ?_
                          refine congrArg Value.bool ?_
                          rw [con_eq, if_neg (by omega)]
                          unfold contC
                          rw [if_neg (by omega)]
                          rw [if_neg (by omega)]
                          rw [if_neg (by omega)]
                          rw [if_neg (by omega)]
                          rw [if_neg (by omega)]
                          first | rfl | exact (decide_eq_true (by omega)).symm | exact (decide_eq_false (by omega)).symm | exact decide_eq_decide.2 (by omega) | (exfalso; omega)
                        ·
                          refine WR.step (Ex.move rfl) (Wn.some rfl rfl rfl) rfl rfl ?_
                          refine WR.step (Ex.move rfl) (Wn.some rfl rfl rfl) rfl rfl ?_
                          refine WR.split (Ex.eql rfl rfl) (Wn.some rfl rfl rfl) rfl rfl (fun h15_18 => ?_) (fun h15_18 => ?_)
                          ·
                            refine WR.step (Ex.pickF rfl rfl) (Wn.some rfl rfl rfl) rfl rfl ?_
                            refine WR.step (Ex.pickT rfl rfl) (Wn.some rfl rfl rfl) rfl rfl ?_
                            refine WR.step (Ex.pickF rfl rfl) (Wn.none rfl) rfl rfl ?_
                            refine WR.step (Ex.move rfl) (Wn.none rfl) rfl rfl ?_
                            refine WR.skipG (b := true) rfl rfl rfl rfl rfl ?_
                            refine WR.skipG (b := true) rfl rfl rfl rfl rfl ?_
                            refine WR.skipG (b := true) rfl rfl rfl rfl rfl ?_
                            refine WR.skipU rfl rfl rfl rfl rfl ?_
                            refine WR.skipU rfl rfl rfl rfl rfl ?_
                            refine WR.skipG (b := true) rfl rfl rfl rfl rfl ?_
                            refine WR.step (Ex.pickT rfl rfl) (Wn.none rfl) rfl rfl ?_
                            refine WR.step (Ex.assign rfl) (Wn.none rfl) rfl rfl ?_
                            refine WR.nil ?_
                            refine WQ.then ?_
                            refine WC.ret ?_
                            (repeat (first | refine WQ.thenRet ?_ | refine WQ.inBlockRet ?_))
                            refine WQ.ret1 rfl rfl H.ext ?_
                            refine congrArg Value.bool ?_
                            rw [con_eq, if_neg (by omega)]
                            unfold contC
                            rw [if_neg (by omega)]
                            rw [if_neg (by omega)]
                            rw [if_neg (by omega)]
                            rw [if_neg (by omega)]
                            rw [if_neg (by omega)]
                            first | rfl | exact (decide_eq_true (by omega)).symm | exact (decide_eq_false (by omega)).symm | exact decide_eq_decide.2 (by omega) | (exfalso; omega)
                          ·
                            refine WR.step (Ex.pickF rfl rfl) (Wn.some rfl rfl rfl) rfl rfl ?_
                            refine WR.step (Ex.pickT rfl rfl) (Wn.some rfl rfl rfl) rfl rfl ?_
                            refine WR.step (Ex.pickF rfl rfl) (Wn.none rfl) rfl rfl ?_
                            refine WR.step (Ex.move rfl) (Wn.none rfl) rfl rfl ?_
                            refine WR.step (Ex.move rfl) (Wn.some rfl rfl rfl) rfl rfl ?_
                            refine WR.split (Ex.eql rfl rfl) (Wn.some rfl rfl rfl) rfl rfl (fun h15_24 => ?_) (fun h15_24 => ?_)
                            ·
                              refine WR.step (Ex.move rfl) (Wn.some rfl rfl rfl) rfl rfl ?_
                              refine WR.step (Ex.move rfl) (Wn.some rfl rfl rfl) rfl rfl ?_
                              refine WR.step (Ex.eql rfl rfl) (Wn.some rfl rfl rfl) rfl rfl ?_
                              refine WR.step (Ex.pickT rfl rfl) (Wn.some rfl rfl rfl) rfl rfl ?_
                              refine WR.step (Ex.pickF rfl rfl) (Wn.none rfl) rfl rfl ?_
                              refine WR.step (Ex.assign rfl) (Wn.none rfl) rfl rfl ?_
                              refine WR.nil ?_
                              refine WQ.then ?_
                              refine WC.ret ?_
                              (repeat (first | refine WQ.thenRet ?_ | refine WQ.inBlockRet ?_))
                              refine WQ.ret1 rfl rfl H.ext ?_
                              refine congrArg Value.bool ?_
                              rw [con_eq, if_neg (by omega)]
                              unfold contC
                              rw [if_neg (by omega)]
                              rw [if_neg (by omega)]
                              rw [if_neg (by omega)]
                              rw [if_neg (by omega)]
                              rw [if_neg (by omega)]
                              first | rfl | exact (decide_eq_true (by omega)).symm | exact (decide_eq_false (by omega)).symm | exact decide_eq_decide.2 (by omega) | (exfalso; omega)
                            ·
                              refine WR.step (Ex.move rfl) (Wn.some rfl rfl rfl) rfl rfl ?_
                              refine WR.skipG (b := false) rfl rfl rfl rfl rfl ?_
                              refine WR.skipG (b := false) rfl rfl rfl rfl rfl ?_
                              refine WR.step (Ex.pickF rfl rfl) (Wn.some rfl rfl rfl) rfl rfl ?_
                              refine WR.step (Ex.pickF rfl rfl) (Wn.none rfl) rfl rfl ?_
                              refine WR.step (Ex.assign rfl) (Wn.none rfl) rfl rfl ?_
                              refine WR.nil ?_
                              refine WQ.then ?_
                              refine WC.ret ?_
                              (repeat (first | refine WQ.thenRet ?_ | refine WQ.inBlockRet ?_))
                              refine WQ.ret1 rfl rfl H.ext ?_
                              refine congrArg Value.bool ?_
                              rw [con_eq, if_neg (by omega)]
                              unfold contC
                              rw [if_neg (by omega)]
                              rw [if_neg (by omega)]
                              rw [if_neg (by omega)]
                              rw [if_neg (by omega)]
                              rw [if_neg (by omega)]
                              first | rfl | exact (decide_eq_true (by omega)).symm | exact (decide_eq_false (by omega)).symm | exact decide_eq_decide.2 (by omega) | (exfalso; omega)
                      ·
                        refine WR.step (Ex.move rfl) (Wn.some rfl rfl rfl) rfl rfl ?_
                        refine WR.skipG (b := false) rfl rfl rfl rfl rfl ?_
                        refine WR.skipG (b := false) rfl rfl rfl rfl rfl ?_
                        refine WR.skipG (b := false) rfl rfl rfl rfl rfl ?_
                        refine WR.skipU rfl rfl rfl rfl rfl ?_
                        refine WR.skipU rfl rfl rfl rfl rfl ?_
                        refine WR.skipG (b := false) rfl rfl rfl rfl rfl ?_
                        refine WR.step (Ex.pickF rfl rfl) (Wn.some rfl rfl rfl) rfl rfl ?_
                        refine WR.step (Ex.pickF rfl rfl) (Wn.none rfl) rfl rfl ?_
                        refine WR.step (Ex.move rfl) (Wn.none rfl) rfl rfl ?_
                        refine WR.step (Ex.move rfl) (Wn.some rfl rfl rfl) rfl rfl ?_
                        refine WR.split (Ex.eql rfl rfl) (Wn.some rfl rfl rfl) rfl rfl (fun h15_24 => ?_) (fun h15_24 => ?_)
                        ·
                          refine WR.step (Ex.move rfl) (Wn.some rfl rfl rfl) rfl rfl ?_
                          refine WR.step (Ex.move rfl) (Wn.some rfl rfl rfl) rfl rfl ?_
                          refine WR.step (Ex.eql rfl rfl) (Wn.some rfl rfl rfl) rfl rfl ?_
                          refine WR.step (Ex.pickT rfl rfl) (Wn.some rfl rfl rfl) rfl rfl ?_
                          refine WR.step (Ex.pickF rfl rfl) (Wn.none rfl) rfl rfl ?_
                          refine WR.step (Ex.assign rfl) (Wn.none rfl) rfl rfl ?_
                          refine WR.nil ?_
                          refine WQ.then ?_
                          refine WC.ret ?_
                          (repeat (first | refine WQ.thenRet ?_ | refine WQ.inBlockRet ?_))
                          refine WQ.ret1 rfl rfl H.ext ?_
                          refine congrArg Value.bool ?_
                          rw [con_eq, if_neg (by omega)]
                          unfold contC
                          rw [if_neg (by omega)]
                          rw [if_neg (by omega)]
                          rw [if_neg (by omega)]
                          rw [if_neg (by omega)]
                          rw [if_neg (by omega)]
                          first | rfl | exact (decide_eq_true (by omega)).symm | exact (decide_eq_false (by omega)).symm | exact decide_eq_decide.2 (by omega) | (exfalso; omega)
                        ·
                          refine WR.step (Ex.move rfl) (Wn.some rfl rfl rfl) rfl rfl ?_
                          refine WR.skipG (b := false) rfl rfl rfl rfl rfl ?_
                          refine WR.skipG (b := false) rfl rfl rfl rfl rfl ?_
                          refine WR.step (Ex.pickF rfl rfl) (Wn.some rfl rfl rfl) rfl rfl ?_
                          refine WR.step (Ex.pickF rfl rfl) (Wn.none rfl) rfl rfl ?_
                          refine WR.step (Ex.assign rfl) (Wn.none rfl) rfl rfl ?_
                          refine WR.nil ?_
                          refine WQ.then ?_
                          refine WC.ret ?_
                          (repeat (first | refine WQ.thenRet ?_ | refine WQ.inBlockRet ?_))
                          refine WQ.ret1 rfl rfl H.ext ?_
                          refine congrArg Value.bool ?_
                          rw [con_eq, if_neg (by omega)]
                          unfold contC
                          rw [if_neg (by omega)]
                          rw [if_neg (by omega)]
                          rw [if_neg (by omega)]
                          rw [if_neg (by omega)]
                          rw [if_neg (by omega)]
                          first | rfl | exact (decide_eq_true (by omega)).symm | exact (decide_eq_false (by omega)).symm | exact decide_eq_decide.2 (by omega) | (exfalso; omega)

end Go.Proofs.YtnjglbmaonbcbaaDoor
