/-
  sets of characters: units, the list of sets: walks over the program's own operations, written by a program of this repository (wip/tools/gen.py) out of a plan.
-/
import Derived.Test.YtnjglbmaonbcbaaDoorSts
import Derived.KernelRfl
set_option linter.unusedVariables false
set_option linter.unusedSimpArgs false
namespace Go.Proofs.YtnjglbmaonbcbaaDoor
open Go Go.RowKit Go.Ph

open Go.Ph.Gr Go.Ph.Utf Go.Ph.Chs
theorem units_spec (v : Value) (l : List UInt8) (hs : l.length ≤ 12000) : Ct Tryd.prog 53 [v] (fun M => Bs M v l) (fun r M => Sl M encR r (decW l)) := by
  refine Ct.of Tryd.func53 (enters Tryd.func53 (by kernel_rfl) rfl) rfl rfl rfl ?_
  intro w0 M0 H hp
  refine WC.seq ?_
  refine WC.region ?_
  refine WR.box [_] H rfl (One.cells (by first | exact One.slice _ _ _ | exact Sl.one (by assumption) | exact StX.rowOne H (by repeat (first | exact List.Mem.head _ | apply List.Mem.tail)))) (Wn.none rfl) rfl ?_
  intro b1 w H
  obtain ⟨M, hle, hM, H⟩ := H.freezeBlk (by repeat (first | exact Rem.head | apply Rem.tail))
  replace hp := hp.mono hle
  have hcell : CellM M ⟨b1, 0, none⟩ v := ⟨rfl, _, _, _, hM, rfl⟩
  refine WR.step (Ex.assign rfl) (Wn.none rfl) rfl rfl ?_
  refine WR.nil ?_
  refine WQ.then ?_
  refine WC.seq ?_
  refine WC.region ?_
  refine WR.step (Ex.assign rfl) (Wn.none rfl) rfl rfl ?_
  refine WR.nil ?_
  refine WQ.then ?_
  refine WC.seq ?_
  refine WC.region ?_
  refine WR.step (Ex.makeFunc rfl) (Wn.none rfl) rfl rfl ?_
  refine WR.step (Ex.assign rfl) (Wn.none rfl) rfl rfl ?_
  refine WR.nil ?_
  refine WQ.then ?_
  refine WC.seq ?_
  refine WC.seq ?_
  refine WC.region ?_
  refine WR.step (Ex.assign rfl) (Wn.none rfl) rfl rfl ?_
  refine WR.nil ?_
  refine WQ.then ?_
  refine WC.block ?_
  replace H := H.newRow 21 encR
  refine WC.loop3 (fun (i : Nat) (ov : Value) (o : List Int) => [(1, ptr b1 0), (3, ov), (4, .func (.func 65) #[] #[ptr b1 0]), (5, encN i)]) (fun (i : Nat) (ov : Value) (o : List Int) w => i ≤ l.length ∧ o.length ≤ i ∧ decW l = o ++ decW (l.drop i) ∧ ∃ M, St w0 M0 M [RowI 21 encR ov o] w ∧ Bs M v l ∧ CellM M ⟨b1, 0, none⟩ v) (fun (i : Nat) (ov : Value) (o : List Int) => l.length - i) (0) (_) (_) ⟨rfl, rfl, rfl, rfl, trivial⟩ (⟨by omega, by simp, rfl, M, H, hp, hcell⟩) ?_
  intro i ov o w
  rintro ⟨hi, hol, hdec, M, H, hp, hcell⟩
  refine WC.seq ?_
  refine WC.seq ?_
  refine WC.region ?_
  refine WR.step (Ex.move rfl) (Wn.none rfl) rfl rfl ?_
  first | refine WR.step (Ex.loadM H rfl (by assumption) Tryd.isAgg34) (Wn.none rfl) rfl rfl ?_ | refine WR.step (Ex.load1 H rfl (by repeat (first | exact List.Mem.head _ | apply List.Mem.tail)) Tryd.isAgg34 (by rfl)) (Wn.none rfl) rfl rfl ?_
  first | refine WR.step (Ex.lenSl Tryd.underlying34 (by assumption) rfl) (Wn.none rfl) rfl rfl ?_ | refine WR.step (Ex.lenRow Tryd.underlying34 H (by repeat (first | exact List.Mem.head _ | apply List.Mem.tail)) rfl) (Wn.none rfl) rfl rfl ?_ | refine WR.step (Ex.lenSlice Tryd.underlying34 rfl) (Wn.none rfl) rfl rfl ?_
  refine WR.split (Ex.lss rfl rfl) (Wn.none rfl) rfl rfl (fun h4_3 => ?_) (fun h4_3 => ?_)
  ·
    obtain ⟨x, hx⟩ : ∃ c, l[i]? = some c := ⟨_, List.getElem?_eq_getElem (by omega)⟩
    refine WR.nil ?_
    refine WQ.then ?_
    refine WC.condT rfl ?_
    refine WC.skip ?_
    refine WQ.then ?_
    refine WC.seq ?_
    refine WC.block ?_
    refine WC.seq ?_
    refine WC.seq ?_
    refine WC.region ?_
    refine WR.step (Ex.move rfl) (Wn.none rfl) rfl rfl ?_
    refine WR.step (Ex.add64 rfl rfl (by omega)) (Wn.none rfl) rfl rfl ?_
    first | refine WR.step (Ex.loadM H rfl (by assumption) Tryd.isAgg34) (Wn.none rfl) rfl rfl ?_ | refine WR.step (Ex.load1 H rfl (by repeat (first | exact List.Mem.head _ | apply List.Mem.tail)) Tryd.isAgg34 (by rfl)) (Wn.none rfl) rfl rfl ?_
    first | refine WR.step (Ex.lenSl Tryd.underlying34 (by assumption) rfl) (Wn.none rfl) rfl rfl ?_ | refine WR.step (Ex.lenRow Tryd.underlying34 H (by repeat (first | exact List.Mem.head _ | apply List.Mem.tail)) rfl) (Wn.none rfl) rfl rfl ?_ | refine WR.step (Ex.lenSlice Tryd.underlying34 rfl) (Wn.none rfl) rfl rfl ?_
    refine WR.split (Ex.eql rfl rfl) (Wn.none rfl) rfl rfl (fun h6_4 => ?_) (fun h6_4 => ?_)
    ·
      have hlast : l.drop i = [x] := by
        obtain ⟨e1, e2⟩ := List.getElem?_eq_some_iff.1 hx
        rw [List.drop_eq_getElem_cons e1, e2, List.drop_eq_nil_of_le (by omega)]
      refine WR.nil ?_
      refine WQ.then ?_
      refine WC.condT rfl ?_
      refine WC.seq ?_
      refine WC.region ?_
      refine WR.step (Ex.move rfl) (Wn.none rfl) rfl rfl ?_
      refine WR.lit (enc := encR) ty64 [_] H rfl (by rfl) (fun _ => rfl) rfl rfl (Wn.none rfl) rfl ?_
      intro v21 M w H hle hl21
      replace hp := hp.mono hle
      replace hcell := hcell.mono hle
      refine WR.appendSl ty64 (fun _ => rfl) H rfl (fun _ => by repeat (first | exact Upd.head | apply Upd.tail)) rfl (by assumption) (by first | omega | (simp only [List.length_append, List.length_cons, List.length_nil, List.length_take, List.length_drop]; omega)) (by first | (simp only [maxLen]; omega) | (simp only [maxLen, List.length_append, List.length_cons, List.length_nil, List.length_take, List.length_drop]; omega)) (Wn.none rfl) rfl ?_
      intro v22 w H
      refine WR.step (Ex.assign rfl) (Wn.none rfl) rfl rfl ?_
      refine WR.nil ?_
      refine WQ.then ?_
      refine WC.ret ?_
      (repeat (first | refine WQ.thenRet ?_ | refine WQ.inBlockRet ?_))
      obtain ⟨M, hle, hf, H⟩ := H.freezeRow (v := v22) (enc := encR) (t := 21) (by repeat (first | exact Rem.head | apply Rem.tail))
      refine WQ.ret1 rfl rfl H.ext ?_
      refine ?_
      rw [hdec, hlast]
      simpa [decW] using hf
    ·
      obtain ⟨y, hy⟩ : ∃ c, l[i + 1]? = some c := ⟨_, List.getElem?_eq_getElem (by omega)⟩
      have hd : l.drop i = x :: y :: l.drop (i + 2) := by
        obtain ⟨e1, e2⟩ := List.getElem?_eq_some_iff.1 hx
        obtain ⟨e3, e4⟩ := List.getElem?_eq_some_iff.1 hy
        rw [List.drop_eq_getElem_cons e1, e2, List.drop_eq_getElem_cons e3, e4]
      have hul := unit_lt x y
      refine WR.nil ?_
      refine WQ.then ?_
      refine WC.condF rfl ?_
      refine WC.skip ?_
      refine WQ.then ?_
      refine WC.seq ?_
      refine WC.region ?_
      refine WR.step (Ex.move rfl) (Wn.none rfl) rfl rfl ?_
      refine WR.step (Ex.move rfl) (Wn.none rfl) rfl rfl ?_
      refine WR.callV (cap := [ptr b1 0]) H (unit_spec v l b1 i x y hs hx hy) rfl rfl (⟨by assumption, by assumption⟩) (Wn.none rfl) rfl ?_
      intro v25 M w H hle hr25
      replace hp := hp.mono hle
      replace hcell := hcell.mono hle
      obtain rfl := hr25
      refine WR.step (Ex.assign rfl) (Wn.none rfl) rfl rfl ?_
      refine WR.nil ?_
      refine WQ.then ?_
      refine WC.seq ?_
      refine WC.seq ?_
      refine WC.region ?_
      refine WR.step (Ex.move rfl) (Wn.none rfl) rfl rfl ?_
      refine WR.split (Ex.geq rfl rfl) (Wn.none rfl) rfl rfl (fun h9_1 => ?_) (fun h9_1 => ?_)
      ·
        refine WR.step (Ex.move rfl) (Wn.none rfl) rfl rfl ?_
        refine WR.step (Ex.move rfl) (Wn.some rfl rfl rfl) rfl rfl ?_
        refine WR.split (Ex.lss rfl rfl) (Wn.some rfl rfl rfl) rfl rfl (fun h9_4 => ?_) (fun h9_4 => ?_)
        ·
          refine WR.step (Ex.pickT rfl rfl) (Wn.none rfl) rfl rfl ?_
          refine WR.step (Ex.move rfl) (Wn.none rfl) rfl rfl ?_
          refine WR.step (Ex.move rfl) (Wn.some rfl rfl rfl) rfl rfl ?_
          refine WR.step (Ex.add64 rfl rfl (by omega)) (Wn.some rfl rfl rfl) rfl rfl ?_
          first | refine WR.step (Ex.loadM H rfl (by assumption) Tryd.isAgg34) (Wn.some rfl rfl rfl) rfl rfl ?_ | refine WR.step (Ex.load1 H rfl (by repeat (first | exact List.Mem.head _ | apply List.Mem.tail)) Tryd.isAgg34 (by rfl)) (Wn.some rfl rfl rfl) rfl rfl ?_
          first | refine WR.step (Ex.lenSl Tryd.underlying34 (by assumption) rfl) (Wn.some rfl rfl rfl) rfl rfl ?_ | refine WR.step (Ex.lenRow Tryd.underlying34 H (by repeat (first | exact List.Mem.head _ | apply List.Mem.tail)) rfl) (Wn.some rfl rfl rfl) rfl rfl ?_ | refine WR.step (Ex.lenSlice Tryd.underlying34 rfl) (Wn.some rfl rfl rfl) rfl rfl ?_
          refine WR.split (Ex.lss rfl rfl) (Wn.some rfl rfl rfl) rfl rfl (fun h9_11 => ?_) (fun h9_11 => ?_)
          ·
            obtain ⟨x2, hx2⟩ : ∃ c, l[i + 2]? = some c := ⟨_, List.getElem?_eq_getElem (by omega)⟩
            obtain ⟨y2, hy2⟩ : ∃ c, l[i + 3]? = some c := ⟨_, List.getElem?_eq_getElem (by omega)⟩
            have hd2 : l.drop (i + 2) = x2 :: y2 :: l.drop (i + 2 + 2) := by
              obtain ⟨e1, e2⟩ := List.getElem?_eq_some_iff.1 hx2
              obtain ⟨e3, e4⟩ := List.getElem?_eq_some_iff.1 hy2
              rw [List.drop_eq_getElem_cons e1, e2, List.drop_eq_getElem_cons e3, e4]
            have hul2 := unit_lt x2 y2
            refine WR.step (Ex.pickT rfl rfl) (Wn.none rfl) rfl rfl ?_
            refine WR.nil ?_
            refine WQ.then ?_
            refine WC.condT rfl ?_
            refine WC.seq ?_
            refine WC.region ?_
            refine WR.step (Ex.move rfl) (Wn.none rfl) rfl rfl ?_
            refine WR.step (Ex.move rfl) (Wn.none rfl) rfl rfl ?_
            refine WR.stepE (v' := encN (i + 2)) (Ex.add64 rfl rfl (by omega)) rfl (Wn.none rfl) rfl rfl ?_
            refine WR.callV (cap := [ptr b1 0]) H (unit_spec v l b1 (i + 2) x2 y2 hs hx2 hy2) rfl rfl (⟨by assumption, by assumption⟩) (Wn.none rfl) rfl ?_
            intro v42 M w H hle hr42
            replace hp := hp.mono hle
            replace hcell := hcell.mono hle
            obtain rfl := hr42
            refine WR.step (Ex.assign rfl) (Wn.none rfl) rfl rfl ?_
            refine WR.nil ?_
            refine WQ.then ?_
            refine WC.seq ?_
            refine WC.region ?_
            refine WR.step (Ex.move rfl) (Wn.none rfl) rfl rfl ?_
            refine WR.split (Ex.geq rfl rfl) (Wn.none rfl) rfl rfl (fun h11_1 => ?_) (fun h11_1 => ?_)
            ·
              refine WR.step (Ex.move rfl) (Wn.none rfl) rfl rfl ?_
              refine WR.step (Ex.move rfl) (Wn.some rfl rfl rfl) rfl rfl ?_
              refine WR.split (Ex.lss rfl rfl) (Wn.some rfl rfl rfl) rfl rfl (fun h11_4 => ?_) (fun h11_4 => ?_)
              ·
                refine WR.step (Ex.pickT rfl rfl) (Wn.none rfl) rfl rfl ?_
                refine WR.nil ?_
                refine WQ.then ?_
                refine WC.condT rfl ?_
                refine WC.seq ?_
                refine WC.region ?_
                refine WR.step (Ex.move rfl) (Wn.none rfl) rfl rfl ?_
                refine WR.stepE (v' := encR (((unit x y - 55296).toNat : Nat) : Int)) (Ex.subW rfl rfl (i32_in (by omega))) (congrArg encR (by omega)) (Wn.none rfl) rfl rfl ?_
                refine WR.stepE (v' := encR (1024 * (unit x y - 55296))) (Ex.shlK (m := (unit x y - 55296).toNat) (s := 10) rfl rfl (by decide)) (congrArg encR (by rw [i32_in (by omega)]; omega)) (Wn.none rfl) rfl rfl ?_
                refine WR.step (Ex.addW rfl rfl (i32_in (by omega))) (Wn.none rfl) rfl rfl ?_
                refine WR.step (Ex.move rfl) (Wn.none rfl) rfl rfl ?_
                refine WR.step (Ex.addW rfl rfl (i32_in (by omega))) (Wn.none rfl) rfl rfl ?_
                refine WR.step (Ex.subW rfl rfl (i32_in (by omega))) (Wn.none rfl) rfl rfl ?_
                refine WR.step (Ex.assign rfl) (Wn.none rfl) rfl rfl ?_
                refine WR.nil ?_
                refine WQ.then ?_
                refine WC.region ?_
                refine WR.step (Ex.move rfl) (Wn.none rfl) rfl rfl ?_
                refine WR.stepE (v' := encN (i + 2)) (Ex.add64 rfl rfl (by omega)) rfl (Wn.none rfl) rfl rfl ?_
                refine WR.step (Ex.assign rfl) (Wn.none rfl) rfl rfl ?_
                refine WR.nil ?_
                refine WQ.then ?_
                refine WC.seq ?_
                refine WC.seq ?_
                refine WC.region ?_
                refine WR.step (Ex.move rfl) (Wn.none rfl) rfl rfl ?_
                refine WR.stepT (Ex.geq rfl rfl) (by omega) (Wn.none rfl) rfl rfl ?_
                refine WR.step (Ex.move rfl) (Wn.none rfl) rfl rfl ?_
                refine WR.step (Ex.move rfl) (Wn.some rfl rfl rfl) rfl rfl ?_
                refine WR.stepF (Ex.lss rfl rfl) (by omega) (Wn.some rfl rfl rfl) rfl rfl ?_
                refine WR.step (Ex.pickT rfl rfl) (Wn.none rfl) rfl rfl ?_
                refine WR.nil ?_
                refine WQ.then ?_
                refine WC.condF rfl ?_
                refine WC.skip ?_
                refine WQ.then ?_
                refine WC.region ?_
                refine WR.step (Ex.move rfl) (Wn.none rfl) rfl rfl ?_
                refine WR.step (Ex.move rfl) (Wn.none rfl) rfl rfl ?_
                refine WR.lit (enc := encR) ty64 [_] H rfl (by rfl) (fun _ => rfl) rfl rfl (Wn.none rfl) rfl ?_
                intro v66 M w H hle hl66
                replace hp := hp.mono hle
                replace hcell := hcell.mono hle
                refine WR.appendSl ty64 (fun _ => rfl) H rfl (fun _ => by repeat (first | exact Upd.head | apply Upd.tail)) rfl (by assumption) (by first | omega | (simp only [List.length_append, List.length_cons, List.length_nil, List.length_take, List.length_drop]; omega)) (by first | (simp only [maxLen]; omega) | (simp only [maxLen, List.length_append, List.length_cons, List.length_nil, List.length_take, List.length_drop]; omega)) (Wn.none rfl) rfl ?_
                intro v67 w H
                refine WR.step (Ex.assign rfl) (Wn.none rfl) rfl rfl ?_
                refine WR.nil ?_
                refine WQ.inBlock ?_
                refine WQ.then ?_
                refine WC.region ?_
                refine WR.step (Ex.move rfl) (Wn.none rfl) rfl rfl ?_
                refine WR.stepE (v' := encN (i + 2 + 2)) (Ex.add64 rfl rfl (by omega)) rfl (Wn.none rfl) rfl rfl ?_
                refine WR.step (Ex.assign rfl) (Wn.none rfl) rfl rfl ?_
                refine WR.nil ?_
                refine WQ.again3 (i + 2 + 2) (v67) (o ++ [65536 + 1024 * (unit x y - 55296) + unit x2 y2 - 56320]) ⟨rfl, rfl, rfl, rfl, trivial⟩ ?_ ?_
                · exact ⟨by omega, by simp; omega, by rw [hdec, hd, hd2, decW_pair ⟨h9_1, h9_4⟩ ⟨h11_1, h11_4⟩]; simp, M, H, hp, hcell⟩
                · omega
              ·
                have hone : decW (x :: y :: l.drop (i + 2)) = unsur (unit x y) :: decW (l.drop (i + 2)) := decW_one (by
                  rintro ⟨_, c', d', r', hr, h3, h4⟩
                  rw [hd2] at hr
                  cases hr
                  omega)
                refine WR.step (Ex.pickT rfl rfl) (Wn.none rfl) rfl rfl ?_
                refine WR.nil ?_
                refine WQ.then ?_
                refine WC.condF rfl ?_
                refine WC.skip ?_
                refine WQ.then ?_
                refine WC.seq ?_
                refine WC.seq ?_
                refine WC.region ?_
                refine WR.step (Ex.move rfl) (Wn.none rfl) rfl rfl ?_
                refine WR.split (Ex.geq rfl rfl) (Wn.none rfl) rfl rfl (fun h14_1 => ?_) (fun h14_1 => ?_)
                ·
                  refine WR.step (Ex.move rfl) (Wn.none rfl) rfl rfl ?_
                  refine WR.step (Ex.move rfl) (Wn.some rfl rfl rfl) rfl rfl ?_
                  refine WR.split (Ex.lss rfl rfl) (Wn.some rfl rfl rfl) rfl rfl (fun h14_4 => ?_) (fun h14_4 => ?_)
                  ·
                    refine WR.step (Ex.pickT rfl rfl) (Wn.none rfl) rfl rfl ?_
                    refine WR.nil ?_
                    refine WQ.then ?_
                    refine WC.condT rfl ?_
                    refine WC.region ?_
                    refine WR.step (Ex.assign rfl) (Wn.none rfl) rfl rfl ?_
                    refine WR.nil ?_
                    refine WQ.then ?_
                    refine WC.region ?_
                    refine WR.step (Ex.move rfl) (Wn.none rfl) rfl rfl ?_
                    refine WR.step (Ex.move rfl) (Wn.none rfl) rfl rfl ?_
                    refine WR.lit (enc := encR) ty64 [_] H rfl (by rfl) (fun _ => rfl) rfl rfl (Wn.none rfl) rfl ?_
                    intro v66 M w H hle hl66
                    replace hp := hp.mono hle
                    replace hcell := hcell.mono hle
                    refine WR.appendSl ty64 (fun _ => rfl) H rfl (fun _ => by repeat (first | exact Upd.head | apply Upd.tail)) rfl (by assumption) (by first | omega | (simp only [List.length_append, List.length_cons, List.length_nil, List.length_take, List.length_drop]; omega)) (by first | (simp only [maxLen]; omega) | (simp only [maxLen, List.length_append, List.length_cons, List.length_nil, List.length_take, List.length_drop]; omega)) (Wn.none rfl) rfl ?_
                    intro v67 w H
                    refine WR.step (Ex.assign rfl) (Wn.none rfl) rfl rfl ?_
                    refine WR.nil ?_
                    refine WQ.inBlock ?_
                    refine WQ.then ?_
                    refine WC.region ?_
                    refine WR.step (Ex.move rfl) (Wn.none rfl) rfl rfl ?_
                    refine WR.stepE (v' := encN (i + 2)) (Ex.add64 rfl rfl (by omega)) rfl (Wn.none rfl) rfl rfl ?_
                    refine WR.step (Ex.assign rfl) (Wn.none rfl) rfl rfl ?_
                    refine WR.nil ?_
                    refine WQ.again3 (i + 2) (v67) (o ++ [65533]) ⟨rfl, rfl, rfl, rfl, trivial⟩ ?_ ?_
                    · exact ⟨by omega, by simp; omega, by rw [hdec, hd, hone, unsur, if_pos ⟨h14_1, h14_4⟩]; simp, M, H, hp, hcell⟩
                    · omega
                  ·
                    refine WR.step (Ex.pickT rfl rfl) (Wn.none rfl) rfl rfl ?_
                    refine WR.nil ?_
                    refine WQ.then ?_
                    refine WC.condF rfl ?_
                    refine WC.skip ?_
                    refine WQ.then ?_
                    refine WC.region ?_
                    refine WR.step (Ex.move rfl) (Wn.none rfl) rfl rfl ?_
                    refine WR.step (Ex.move rfl) (Wn.none rfl) rfl rfl ?_
                    refine WR.lit (enc := encR) ty64 [_] H rfl (by rfl) (fun _ => rfl) rfl rfl (Wn.none rfl) rfl ?_
                    intro v66 M w H hle hl66
                    replace hp := hp.mono hle
                    replace hcell := hcell.mono hle
                    refine WR.appendSl ty64 (fun _ => rfl) H rfl (fun _ => by repeat (first | exact Upd.head | apply Upd.tail)) rfl (by assumption) (by first | omega | (simp only [List.length_append, List.length_cons, List.length_nil, List.length_take, List.length_drop]; omega)) (by first | (simp only [maxLen]; omega) | (simp only [maxLen, List.length_append, List.length_cons, List.length_nil, List.length_take, List.length_drop]; omega)) (Wn.none rfl) rfl ?_
                    intro v67 w H
                    refine WR.step (Ex.assign rfl) (Wn.none rfl) rfl rfl ?_
                    refine WR.nil ?_
                    refine WQ.inBlock ?_
                    refine WQ.then ?_
                    refine WC.region ?_
                    refine WR.step (Ex.move rfl) (Wn.none rfl) rfl rfl ?_
                    refine WR.stepE (v' := encN (i + 2)) (Ex.add64 rfl rfl (by omega)) rfl (Wn.none rfl) rfl rfl ?_
                    refine WR.step (Ex.assign rfl) (Wn.none rfl) rfl rfl ?_
                    refine WR.nil ?_
                    refine WQ.again3 (i + 2) (v67) (o ++ [unit x y]) ⟨rfl, rfl, rfl, rfl, trivial⟩ ?_ ?_
                    · exact ⟨by omega, by simp; omega, by rw [hdec, hd, hone, unsur, if_neg (by omega)]; simp, M, H, hp, hcell⟩
                    · omega
                ·
                  refine WR.step (Ex.move rfl) (Wn.none rfl) rfl rfl ?_
                  refine WR.skipG (b := false) rfl rfl rfl rfl rfl ?_
                  refine WR.skipG (b := false) rfl rfl rfl rfl rfl ?_
                  refine WR.step (Ex.pickF rfl rfl) (Wn.none rfl) rfl rfl ?_
                  refine WR.nil ?_
                  refine WQ.then ?_
                  refine WC.condF rfl ?_
                  refine WC.skip ?_
                  refine WQ.then ?_
                  refine WC.region ?_
                  refine WR.step (Ex.move rfl) (Wn.none rfl) rfl rfl ?_
                  refine WR.step (Ex.move rfl) (Wn.none rfl) rfl rfl ?_
                  refine WR.lit (enc := encR) ty64 [_] H rfl (by rfl) (fun _ => rfl) rfl rfl (Wn.none rfl) rfl ?_
                  intro v66 M w H hle hl66
                  replace hp := hp.mono hle
                  replace hcell := hcell.mono hle
                  refine WR.appendSl ty64 (fun _ => rfl) H rfl (fun _ => by repeat (first | exact Upd.head | apply Upd.tail)) rfl (by assumption) (by first | omega | (simp only [List.length_append, List.length_cons, List.length_nil, List.length_take, List.length_drop]; omega)) (by first | (simp only [maxLen]; omega) | (simp only [maxLen, List.length_append, List.length_cons, List.length_nil, List.length_take, List.length_drop]; omega)) (Wn.none rfl) rfl ?_
                  intro v67 w H
                  refine WR.step (Ex.assign rfl) (Wn.none rfl) rfl rfl ?_
                  refine WR.nil ?_
                  refine WQ.inBlock ?_
                  refine WQ.then ?_
                  refine WC.region ?_
                  refine WR.step (Ex.move rfl) (Wn.none rfl) rfl rfl ?_
                  refine WR.stepE (v' := encN (i + 2)) (Ex.add64 rfl rfl (by omega)) rfl (Wn.none rfl) rfl rfl ?_
                  refine WR.step (Ex.assign rfl) (Wn.none rfl) rfl rfl ?_
                  refine WR.nil ?_
                  refine WQ.again3 (i + 2) (v67) (o ++ [unit x y]) ⟨rfl, rfl, rfl, rfl, trivial⟩ ?_ ?_
                  · exact ⟨by omega, by simp; omega, by rw [hdec, hd, hone, unsur, if_neg (by omega)]; simp, M, H, hp, hcell⟩
                  · omega
            ·
              have hone : decW (x :: y :: l.drop (i + 2)) = unsur (unit x y) :: decW (l.drop (i + 2)) := decW_one (by
                rintro ⟨_, c', d', r', hr, h3, h4⟩
                rw [hd2] at hr
                cases hr
                omega)
              refine WR.step (Ex.move rfl) (Wn.none rfl) rfl rfl ?_
              refine WR.skipG (b := false) rfl rfl rfl rfl rfl ?_
              refine WR.skipG (b := false) rfl rfl rfl rfl rfl ?_
              refine WR.step (Ex.pickF rfl rfl) (Wn.none rfl) rfl rfl ?_
              refine WR.nil ?_
              refine WQ.then ?_
              refine WC.condF rfl ?_
              refine WC.skip ?_
              refine WQ.then ?_
              refine WC.seq ?_
              refine WC.seq ?_
              refine WC.region ?_
              refine WR.step (Ex.move rfl) (Wn.none rfl) rfl rfl ?_
              refine WR.split (Ex.geq rfl rfl) (Wn.none rfl) rfl rfl (fun h14_1 => ?_) (fun h14_1 => ?_)
              ·
                refine WR.step (Ex.move rfl) (Wn.none rfl) rfl rfl ?_
                refine WR.step (Ex.move rfl) (Wn.some rfl rfl rfl) rfl rfl ?_
                refine WR.split (Ex.lss rfl rfl) (Wn.some rfl rfl rfl) rfl rfl (fun h14_4 => ?_) (fun h14_4 => ?_)
                ·
                  refine WR.step (Ex.pickT rfl rfl) (Wn.none rfl) rfl rfl ?_
                  refine WR.nil ?_
                  refine WQ.then ?_
                  refine WC.condT rfl ?_
                  refine WC.region ?_
                  refine WR.step (Ex.assign rfl) (Wn.none rfl) rfl rfl ?_
                  refine WR.nil ?_
                  refine WQ.then ?_
                  refine WC.region ?_
                  refine WR.step (Ex.move rfl) (Wn.none rfl) rfl rfl ?_
                  refine WR.step (Ex.move rfl) (Wn.none rfl) rfl rfl ?_
                  refine WR.lit (enc := encR) ty64 [_] H rfl (by rfl) (fun _ => rfl) rfl rfl (Wn.none rfl) rfl ?_
                  intro v66 M w H hle hl66
                  replace hp := hp.mono hle
                  replace hcell := hcell.mono hle
                  refine WR.appendSl ty64 (fun _ => rfl) H rfl (fun _ => by repeat (first | exact Upd.head | apply Upd.tail)) rfl (by assumption) (by first | omega | (simp only [List.length_append, List.length_cons, List.length_nil, List.length_take, List.length_drop]; omega)) (by first | (simp only [maxLen]; omega) | (simp only [maxLen, List.length_append, List.length_cons, List.length_nil, List.length_take, List.length_drop]; omega)) (Wn.none rfl) rfl ?_
                  intro v67 w H
                  refine WR.step (Ex.assign rfl) (Wn.none rfl) rfl rfl ?_
                  refine WR.nil ?_
                  refine WQ.inBlock ?_
                  refine WQ.then ?_
                  refine WC.region ?_
                  refine WR.step (Ex.move rfl) (Wn.none rfl) rfl rfl ?_
                  refine WR.stepE (v' := encN (i + 2)) (Ex.add64 rfl rfl (by omega)) rfl (Wn.none rfl) rfl rfl ?_
                  refine WR.step (Ex.assign rfl) (Wn.none rfl) rfl rfl ?_
                  refine WR.nil ?_
                  refine WQ.again3 (i + 2) (v67) (o ++ [65533]) ⟨rfl, rfl, rfl, rfl, trivial⟩ ?_ ?_
                  · exact ⟨by omega, by simp; omega, by rw [hdec, hd, hone, unsur, if_pos ⟨h14_1, h14_4⟩]; simp, M, H, hp, hcell⟩
                  · omega
                ·
                  refine WR.step (Ex.pickT rfl rfl) (Wn.none rfl) rfl rfl ?_
                  refine WR.nil ?_
                  refine WQ.then ?_
                  refine WC.condF rfl ?_
                  refine WC.skip ?_
                  refine WQ.then ?_
                  refine WC.region ?_
                  refine WR.step (Ex.move rfl) (Wn.none rfl) rfl rfl ?_
                  refine WR.step (Ex.move rfl) (Wn.none rfl) rfl rfl ?_
                  refine WR.lit (enc := encR) ty64 [_] H rfl (by rfl) (fun _ => rfl) rfl rfl (Wn.none rfl) rfl ?_
                  intro v66 M w H hle hl66
                  replace hp := hp.mono hle
                  replace hcell := hcell.mono hle
                  refine WR.appendSl ty64 (fun _ => rfl) H rfl (fun _ => by repeat (first | exact Upd.head | apply Upd.tail)) rfl (by assumption) (by first | omega | (simp only [List.length_append, List.length_cons, List.length_nil, List.length_take, List.length_drop]; omega)) (by first | (simp only [maxLen]; omega) | (simp only [maxLen, List.length_append, List.length_cons, List.length_nil, List.length_take, List.length_drop]; omega)) (Wn.none rfl) rfl ?_
                  intro v67 w H
                  refine WR.step (Ex.assign rfl) (Wn.none rfl) rfl rfl ?_
                  refine WR.nil ?_
                  refine WQ.inBlock ?_
                  refine WQ.then ?_
                  refine WC.region ?_
                  refine WR.step (Ex.move rfl) (Wn.none rfl) rfl rfl ?_
                  refine WR.stepE (v' := encN (i + 2)) (Ex.add64 rfl rfl (by omega)) rfl (Wn.none rfl) rfl rfl ?_
                  refine WR.step (Ex.assign rfl) (Wn.none rfl) rfl rfl ?_
                  refine WR.nil ?_
                  refine WQ.again3 (i + 2) (v67) (o ++ [unit x y]) ⟨rfl, rfl, rfl, rfl, trivial⟩ ?_ ?_
                  · exact ⟨by omega, by simp; omega, by rw [hdec, hd, hone, unsur, if_neg (by omega)]; simp, M, H, hp, hcell⟩
                  · omega
              ·
                refine WR.step (Ex.move rfl) (Wn.none rfl) rfl rfl ?_
                refine WR.skipG (b := false) rfl rfl rfl rfl rfl ?_
                refine WR.skipG (b := false) rfl rfl rfl rfl rfl ?_
                refine WR.step (Ex.pickF rfl rfl) (Wn.none rfl) rfl rfl ?_
                refine WR.nil ?_
                refine WQ.then ?_
                refine WC.condF rfl ?_
                refine WC.skip ?_
                refine WQ.then ?_
                refine WC.region ?_
                refine WR.step (Ex.move rfl) (Wn.none rfl) rfl rfl ?_
                refine WR.step (Ex.move rfl) (Wn.none rfl) rfl rfl ?_
                refine WR.lit (enc := encR) ty64 [_] H rfl (by rfl) (fun _ => rfl) rfl rfl (Wn.none rfl) rfl ?_
                intro v66 M w H hle hl66
                replace hp := hp.mono hle
                replace hcell := hcell.mono hle
                refine WR.appendSl ty64 (fun _ => rfl) H rfl (fun _ => by repeat (first | exact Upd.head | apply Upd.tail)) rfl (by assumption) (by first | omega | (simp only [List.length_append, List.length_cons, List.length_nil, List.length_take, List.length_drop]; omega)) (by first | (simp only [maxLen]; omega) | (simp only [maxLen, List.length_append, List.length_cons, List.length_nil, List.length_take, List.length_drop]; omega)) (Wn.none rfl) rfl ?_
                intro v67 w H
                refine WR.step (Ex.assign rfl) (Wn.none rfl) rfl rfl ?_
                refine WR.nil ?_
                refine WQ.inBlock ?_
                refine WQ.then ?_
                refine WC.region ?_
                refine WR.step (Ex.move rfl) (Wn.none rfl) rfl rfl ?_
                refine WR.stepE (v' := encN (i + 2)) (Ex.add64 rfl rfl (by omega)) rfl (Wn.none rfl) rfl rfl ?_
                refine WR.step (Ex.assign rfl) (Wn.none rfl) rfl rfl ?_
                refine WR.nil ?_
                refine WQ.again3 (i + 2) (v67) (o ++ [unit x y]) ⟨rfl, rfl, rfl, rfl, trivial⟩ ?_ ?_
                · exact ⟨by omega, by simp; omega, by rw [hdec, hd, hone, unsur, if_neg (by omega)]; simp, M, H, hp, hcell⟩
                · omega
          ·
            have hone : decW (x :: y :: l.drop (i + 2)) = unsur (unit x y) :: decW (l.drop (i + 2)) := decW_one (by
              rintro ⟨_, c', d', r', hr, _⟩
              have := congrArg List.length hr
              rw [List.length_drop] at this
              simp at this
              omega)
            refine WR.step (Ex.pickT rfl rfl) (Wn.none rfl) rfl rfl ?_
            refine WR.nil ?_
            refine WQ.then ?_
            refine WC.condF rfl ?_
            refine WC.skip ?_
            refine WQ.then ?_
            refine WC.seq ?_
            refine WC.seq ?_
            refine WC.region ?_
            refine WR.step (Ex.move rfl) (Wn.none rfl) rfl rfl ?_
            refine WR.split (Ex.geq rfl rfl) (Wn.none rfl) rfl rfl (fun h14_1 => ?_) (fun h14_1 => ?_)
            ·
              refine WR.step (Ex.move rfl) (Wn.none rfl) rfl rfl ?_
              refine WR.step (Ex.move rfl) (Wn.some rfl rfl rfl) rfl rfl ?_
              refine WR.split (Ex.lss rfl rfl) (Wn.some rfl rfl rfl) rfl rfl (fun h14_4 => ?_) (fun h14_4 => ?_)
              ·
                refine WR.step (Ex.pickT rfl rfl) (Wn.none rfl) rfl rfl ?_
                refine WR.nil ?_
                refine WQ.then ?_
                refine WC.condT rfl ?_
                refine WC.region ?_
                refine WR.step (Ex.assign rfl) (Wn.none rfl) rfl rfl ?_
                refine WR.nil ?_
                refine WQ.then ?_
                refine WC.region ?_
                refine WR.step (Ex.move rfl) (Wn.none rfl) rfl rfl ?_
                refine WR.step (Ex.move rfl) (Wn.none rfl) rfl rfl ?_
                refine WR.lit (enc := encR) ty64 [_] H rfl (by rfl) (fun _ => rfl) rfl rfl (Wn.none rfl) rfl ?_
                intro v66 M w H hle hl66
                replace hp := hp.mono hle
                replace hcell := hcell.mono hle
                refine WR.appendSl ty64 (fun _ => rfl) H rfl (fun _ => by repeat (first | exact Upd.head | apply Upd.tail)) rfl (by assumption) (by first | omega | (simp only [List.length_append, List.length_cons, List.length_nil, List.length_take, List.length_drop]; omega)) (by first | (simp only [maxLen]; omega) | (simp only [maxLen, List.length_append, List.length_cons, List.length_nil, List.length_take, List.length_drop]; omega)) (Wn.none rfl) rfl ?_
                intro v67 w H
                refine WR.step (Ex.assign rfl) (Wn.none rfl) rfl rfl ?_
                refine WR.nil ?_
                refine WQ.inBlock ?_
                refine WQ.then ?_
                refine WC.region ?_
                refine WR.step (Ex.move rfl) (Wn.none rfl) rfl rfl ?_
                refine WR.stepE (v' := encN (i + 2)) (Ex.add64 rfl rfl (by omega)) rfl (Wn.none rfl) rfl rfl ?_
                refine WR.step (Ex.assign rfl) (Wn.none rfl) rfl rfl ?_
                refine WR.nil ?_
                refine WQ.again3 (i + 2) (v67) (o ++ [65533]) ⟨rfl, rfl, rfl, rfl, trivial⟩ ?_ ?_
                · exact ⟨by omega, by simp; omega, by rw [hdec, hd, hone, unsur, if_pos ⟨h14_1, h14_4⟩]; simp, M, H, hp, hcell⟩
                · omega
              ·
                refine WR.step (Ex.pickT rfl rfl) (Wn.none rfl) rfl rfl ?_
                refine WR.nil ?_
                refine WQ.then ?_
                refine WC.condF rfl ?_
                refine WC.skip ?_
                refine WQ.then ?_
                refine WC.region ?_
                refine WR.step (Ex.move rfl) (Wn.none rfl) rfl rfl ?_
                refine WR.step (Ex.move rfl) (Wn.none rfl) rfl rfl ?_
                refine WR.lit (enc := encR) ty64 [_] H rfl (by rfl) (fun _ => rfl) rfl rfl (Wn.none rfl) rfl ?_
                intro v66 M w H hle hl66
                replace hp := hp.mono hle
                replace hcell := hcell.mono hle
                refine WR.appendSl ty64 (fun _ => rfl) H rfl (fun _ => by repeat (first | exact Upd.head | apply Upd.tail)) rfl (by assumption) (by first | omega | (simp only [List.length_append, List.length_cons, List.length_nil, List.length_take, List.length_drop]; omega)) (by first | (simp only [maxLen]; omega) | (simp only [maxLen, List.length_append, List.length_cons, List.length_nil, List.length_take, List.length_drop]; omega)) (Wn.none rfl) rfl ?_
                intro v67 w H
                refine WR.step (Ex.assign rfl) (Wn.none rfl) rfl rfl ?_
                refine WR.nil ?_
                refine WQ.inBlock ?_
                refine WQ.then ?_
                refine WC.region ?_
                refine WR.step (Ex.move rfl) (Wn.none rfl) rfl rfl ?_
                refine WR.stepE (v' := encN (i + 2)) (Ex.add64 rfl rfl (by omega)) rfl (Wn.none rfl) rfl rfl ?_
                refine WR.step (Ex.assign rfl) (Wn.none rfl) rfl rfl ?_
                refine WR.nil ?_
                refine WQ.again3 (i + 2) (v67) (o ++ [unit x y]) ⟨rfl, rfl, rfl, rfl, trivial⟩ ?_ ?_
                · exact ⟨by omega, by simp; omega, by rw [hdec, hd, hone, unsur, if_neg (by omega)]; simp, M, H, hp, hcell⟩
                · omega
            ·
              refine WR.step (Ex.move rfl) (Wn.none rfl) rfl rfl ?_
              refine WR.skipG (b := false) rfl rfl rfl rfl rfl ?_
              refine WR.skipG (b := false) rfl rfl rfl rfl rfl ?_
              refine WR.step (Ex.pickF rfl rfl) (Wn.none rfl) rfl rfl ?_
              refine WR.nil ?_
              refine WQ.then ?_
              refine WC.condF rfl ?_
              refine WC.skip ?_
              refine WQ.then ?_
              refine WC.region ?_
              refine WR.step (Ex.move rfl) (Wn.none rfl) rfl rfl ?_
              refine WR.step (Ex.move rfl) (Wn.none rfl) rfl rfl ?_
              refine WR.lit (enc := encR) ty64 [_] H rfl (by rfl) (fun _ => rfl) rfl rfl (Wn.none rfl) rfl ?_
              intro v66 M w H hle hl66
              replace hp := hp.mono hle
              replace hcell := hcell.mono hle
              refine WR.appendSl ty64 (fun _ => rfl) H rfl (fun _ => by repeat (first | exact Upd.head | apply Upd.tail)) rfl (by assumption) (by first | omega | (simp only [List.length_append, List.length_cons, List.length_nil, List.length_take, List.length_drop]; omega)) (by first | (simp only [maxLen]; omega) | (simp only [maxLen, List.length_append, List.length_cons, List.length_nil, List.length_take, List.length_drop]; omega)) (Wn.none rfl) rfl ?_
              intro v67 w H
              refine WR.step (Ex.assign rfl) (Wn.none rfl) rfl rfl ?_
              refine WR.nil ?_
              refine WQ.inBlock ?_
              refine WQ.then ?_
              refine WC.region ?_
              refine WR.step (Ex.move rfl) (Wn.none rfl) rfl rfl ?_
              refine WR.stepE (v' := encN (i + 2)) (Ex.add64 rfl rfl (by omega)) rfl (Wn.none rfl) rfl rfl ?_
              refine WR.step (Ex.assign rfl) (Wn.none rfl) rfl rfl ?_
              refine WR.nil ?_
              refine WQ.again3 (i + 2) (v67) (o ++ [unit x y]) ⟨rfl, rfl, rfl, rfl, trivial⟩ ?_ ?_
              · exact ⟨by omega, by simp; omega, by rw [hdec, hd, hone, unsur, if_neg (by omega)]; simp, M, H, hp, hcell⟩
              · omega
        ·
          have hone : decW (x :: y :: l.drop (i + 2)) = unsur (unit x y) :: decW (l.drop (i + 2)) := decW_one (fun h => absurd h.1.2 h9_4)
          refine WR.step (Ex.pickT rfl rfl) (Wn.none rfl) rfl rfl ?_
          refine WR.step (Ex.move rfl) (Wn.none rfl) rfl rfl ?_
          refine WR.skipG (b := false) rfl rfl rfl rfl rfl ?_
          refine WR.skipG (b := false) rfl rfl rfl rfl rfl ?_
          refine WR.skipG (b := false) rfl rfl rfl rfl rfl ?_
          refine WR.skipG (b := false) rfl rfl rfl rfl rfl ?_
          refine WR.skipG (b := false) rfl rfl rfl rfl rfl ?_
          refine WR.step (Ex.pickF rfl rfl) (Wn.none rfl) rfl rfl ?_
          refine WR.nil ?_
          refine WQ.then ?_
          refine WC.condF rfl ?_
          refine WC.skip ?_
          refine WQ.then ?_
          refine WC.seq ?_
          refine WC.seq ?_
          refine WC.region ?_
          refine WR.step (Ex.move rfl) (Wn.none rfl) rfl rfl ?_
          refine WR.split (Ex.geq rfl rfl) (Wn.none rfl) rfl rfl (fun h14_1 => ?_) (fun h14_1 => ?_)
          ·
            refine WR.step (Ex.move rfl) (Wn.none rfl) rfl rfl ?_
            refine WR.step (Ex.move rfl) (Wn.some rfl rfl rfl) rfl rfl ?_
            refine WR.split (Ex.lss rfl rfl) (Wn.some rfl rfl rfl) rfl rfl (fun h14_4 => ?_) (fun h14_4 => ?_)
            ·
              refine WR.step (Ex.pickT rfl rfl) (Wn.none rfl) rfl rfl ?_
              refine WR.nil ?_
              refine WQ.then ?_
              refine WC.condT rfl ?_
              refine WC.region ?_
              refine WR.step (Ex.assign rfl) (Wn.none rfl) rfl rfl ?_
              refine WR.nil ?_
              refine WQ.then ?_
              refine WC.region ?_
              refine WR.step (Ex.move rfl) (Wn.none rfl) rfl rfl ?_
              refine WR.step (Ex.move rfl) (Wn.none rfl) rfl rfl ?_
              refine WR.lit (enc := encR) ty64 [_] H rfl (by rfl) (fun _ => rfl) rfl rfl (Wn.none rfl) rfl ?_
              intro v66 M w H hle hl66
              replace hp := hp.mono hle
              replace hcell := hcell.mono hle
              refine WR.appendSl ty64 (fun _ => rfl) H rfl (fun _ => by repeat (first | exact Upd.head | apply Upd.tail)) rfl (by assumption) (by first | omega | (simp only [List.length_append, List.length_cons, List.length_nil, List.length_take, List.length_drop]; omega)) (by first | (simp only [maxLen]; omega) | (simp only [maxLen, List.length_append, List.length_cons, List.length_nil, List.length_take, List.length_drop]; omega)) (Wn.none rfl) rfl ?_
              intro v67 w H
              refine WR.step (Ex.assign rfl) (Wn.none rfl) rfl rfl ?_
              refine WR.nil ?_
              refine WQ.inBlock ?_
              refine WQ.then ?_
              refine WC.region ?_
              refine WR.step (Ex.move rfl) (Wn.none rfl) rfl rfl ?_
              refine WR.stepE (v' := encN (i + 2)) (Ex.add64 rfl rfl (by omega)) rfl (Wn.none rfl) rfl rfl ?_
              refine WR.step (Ex.assign rfl) (Wn.none rfl) rfl rfl ?_
              refine WR.nil ?_
              refine WQ.again3 (i + 2) (v67) (o ++ [65533]) ⟨rfl, rfl, rfl, rfl, trivial⟩ ?_ ?_
              · exact ⟨by omega, by simp; omega, by rw [hdec, hd, hone, unsur, if_pos ⟨h14_1, h14_4⟩]; simp, M, H, hp, hcell⟩
              · omega
            ·
              refine WR.step (Ex.pickT rfl rfl) (Wn.none rfl) rfl rfl ?_
              refine WR.nil ?_
              refine WQ.then ?_
              refine WC.condF rfl ?_
              refine WC.skip ?_
              refine WQ.then ?_
              refine WC.region ?_
              refine WR.step (Ex.move rfl) (Wn.none rfl) rfl rfl ?_
              refine WR.step (Ex.move rfl) (Wn.none rfl) rfl rfl ?_
              refine WR.lit (enc := encR) ty64 [_] H rfl (by rfl) (fun _ => rfl) rfl rfl (Wn.none rfl) rfl ?_
              intro v66 M w H hle hl66
              replace hp := hp.mono hle
              replace hcell := hcell.mono hle
              refine WR.appendSl ty64 (fun _ => rfl) H rfl (fun _ => by repeat (first | exact Upd.head | apply Upd.tail)) rfl (by assumption) (by first | omega | (simp only [List.length_append, List.length_cons, List.length_nil, List.length_take, List.length_drop]; omega)) (by first | (simp only [maxLen]; omega) | (simp only [maxLen, List.length_append, List.length_cons, List.length_nil, List.length_take, List.length_drop]; omega)) (Wn.none rfl) rfl ?_
              intro v67 w H
              refine WR.step (Ex.assign rfl) (Wn.none rfl) rfl rfl ?_
              refine WR.nil ?_
              refine WQ.inBlock ?_
              refine WQ.then ?_
              refine WC.region ?_
              refine WR.step (Ex.move rfl) (Wn.none rfl) rfl rfl ?_
              refine WR.stepE (v' := encN (i + 2)) (Ex.add64 rfl rfl (by omega)) rfl (Wn.none rfl) rfl rfl ?_
              refine WR.step (Ex.assign rfl) (Wn.none rfl) rfl rfl ?_
              refine WR.nil ?_
              refine WQ.again3 (i + 2) (v67) (o ++ [unit x y]) ⟨rfl, rfl, rfl, rfl, trivial⟩ ?_ ?_
              · exact ⟨by omega, by simp; omega, by rw [hdec, hd, hone, unsur, if_neg (by omega)]; simp, M, H, hp, hcell⟩
              · omega
          ·
            refine WR.step (Ex.move rfl) (Wn.none rfl) rfl rfl ?_
            refine WR.skipG (b := false) rfl rfl rfl rfl rfl ?_
            refine WR.skipG (b := false) rfl rfl rfl rfl rfl ?_
            refine WR.step (Ex.pickF rfl rfl) (Wn.none rfl) rfl rfl ?_
            refine WR.nil ?_
            refine WQ.then ?_
            refine WC.condF rfl ?_
            refine WC.skip ?_
            refine WQ.then ?_
            refine WC.region ?_
            refine WR.step (Ex.move rfl) (Wn.none rfl) rfl rfl ?_
            refine WR.step (Ex.move rfl) (Wn.none rfl) rfl rfl ?_
            refine WR.lit (enc := encR) ty64 [_] H rfl (by rfl) (fun _ => rfl) rfl rfl (Wn.none rfl) rfl ?_
            intro v66 M w H hle hl66
            replace hp := hp.mono hle
            replace hcell := hcell.mono hle
            refine WR.appendSl ty64 (fun _ => rfl) H rfl (fun _ => by repeat (first | exact Upd.head | apply Upd.tail)) rfl (by assumption) (by first | omega | (simp only [List.length_append, List.length_cons, List.length_nil, List.length_take, List.length_drop]; omega)) (by first | (simp only [maxLen]; omega) | (simp only [maxLen, List.length_append, List.length_cons, List.length_nil, List.length_take, List.length_drop]; omega)) (Wn.none rfl) rfl ?_
            intro v67 w H
            refine WR.step (Ex.assign rfl) (Wn.none rfl) rfl rfl ?_
            refine WR.nil ?_
            refine WQ.inBlock ?_
            refine WQ.then ?_
            refine WC.region ?_
            refine WR.step (Ex.move rfl) (Wn.none rfl) rfl rfl ?_
            refine WR.stepE (v' := encN (i + 2)) (Ex.add64 rfl rfl (by omega)) rfl (Wn.none rfl) rfl rfl ?_
            refine WR.step (Ex.assign rfl) (Wn.none rfl) rfl rfl ?_
            refine WR.nil ?_
            refine WQ.again3 (i + 2) (v67) (o ++ [unit x y]) ⟨rfl, rfl, rfl, rfl, trivial⟩ ?_ ?_
            · exact ⟨by omega, by simp; omega, by rw [hdec, hd, hone, unsur, if_neg (by omega)]; simp, M, H, hp, hcell⟩
            · omega
      ·
        have hone : decW (x :: y :: l.drop (i + 2)) = unsur (unit x y) :: decW (l.drop (i + 2)) := decW_one (fun h => absurd h.1.1 h9_1)
        refine WR.step (Ex.move rfl) (Wn.none rfl) rfl rfl ?_
        refine WR.skipG (b := false) rfl rfl rfl rfl rfl ?_
        refine WR.skipG (b := false) rfl rfl rfl rfl rfl ?_
        refine WR.step (Ex.pickF rfl rfl) (Wn.none rfl) rfl rfl ?_
        refine WR.step (Ex.move rfl) (Wn.none rfl) rfl rfl ?_
        refine WR.skipG (b := false) rfl rfl rfl rfl rfl ?_
        refine WR.skipG (b := false) rfl rfl rfl rfl rfl ?_
        refine WR.skipG (b := false) rfl rfl rfl rfl rfl ?_
        refine WR.skipG (b := false) rfl rfl rfl rfl rfl ?_
        refine WR.skipG (b := false) rfl rfl rfl rfl rfl ?_
        refine WR.step (Ex.pickF rfl rfl) (Wn.none rfl) rfl rfl ?_
        refine WR.nil ?_
        refine WQ.then ?_
        refine WC.condF rfl ?_
        refine WC.skip ?_
        refine WQ.then ?_
        refine WC.seq ?_
        refine WC.seq ?_
        refine WC.region ?_
        refine WR.step (Ex.move rfl) (Wn.none rfl) rfl rfl ?_
        refine WR.split (Ex.geq rfl rfl) (Wn.none rfl) rfl rfl (fun h14_1 => ?_) (fun h14_1 => ?_)
        ·
          refine WR.step (Ex.move rfl) (Wn.none rfl) rfl rfl ?_
          refine WR.step (Ex.move rfl) (Wn.some rfl rfl rfl) rfl rfl ?_
          refine WR.split (Ex.lss rfl rfl) (Wn.some rfl rfl rfl) rfl rfl (fun h14_4 => ?_) (fun h14_4 => ?_)
          ·
            refine WR.step (Ex.pickT rfl rfl) (Wn.none rfl) rfl rfl ?_
            refine WR.nil ?_
            refine WQ.then ?_
            refine WC.condT rfl ?_
            refine WC.region ?_
            refine WR.step (Ex.assign rfl) (Wn.none rfl) rfl rfl ?_
            refine WR.nil ?_
            refine WQ.then ?_
            refine WC.region ?_
            refine WR.step (Ex.move rfl) (Wn.none rfl) rfl rfl ?_
            refine WR.step (Ex.move rfl) (Wn.none rfl) rfl rfl ?_
            refine WR.lit (enc := encR) ty64 [_] H rfl (by rfl) (fun _ => rfl) rfl rfl (Wn.none rfl) rfl ?_
            intro v66 M w H hle hl66
            replace hp := hp.mono hle
            replace hcell := hcell.mono hle
            refine WR.appendSl ty64 (fun _ => rfl) H rfl (fun _ => by repeat (first | exact Upd.head | apply Upd.tail)) rfl (by assumption) (by first | omega | (simp only [List.length_append, List.length_cons, List.length_nil, List.length_take, List.length_drop]; omega)) (by first | (simp only [maxLen]; omega) | (simp only [maxLen, List.length_append, List.length_cons, List.length_nil, List.length_take, List.length_drop]; omega)) (Wn.none rfl) rfl ?_
            intro v67 w H
            refine WR.step (Ex.assign rfl) (Wn.none rfl) rfl rfl ?_
            refine WR.nil ?_
            refine WQ.inBlock ?_
            refine WQ.then ?_
            refine WC.region ?_
            refine WR.step (Ex.move rfl) (Wn.none rfl) rfl rfl ?_
            refine WR.stepE (v' := encN (i + 2)) (Ex.add64 rfl rfl (by omega)) rfl (Wn.none rfl) rfl rfl ?_
            refine WR.step (Ex.assign rfl) (Wn.none rfl) rfl rfl ?_
            refine WR.nil ?_
            refine WQ.again3 (i + 2) (v67) (o ++ [65533]) ⟨rfl, rfl, rfl, rfl, trivial⟩ ?_ ?_
            · exact ⟨by omega, by simp; omega, by rw [hdec, hd, hone, unsur, if_pos ⟨h14_1, h14_4⟩]; simp, M, H, hp, hcell⟩
            · omega
          ·
            refine WR.step (Ex.pickT rfl rfl) (Wn.none rfl) rfl rfl ?_
            refine WR.nil ?_
            refine WQ.then ?_
            refine WC.condF rfl ?_
            refine WC.skip ?_
            refine WQ.then ?_
            refine WC.region ?_
            refine WR.step (Ex.move rfl) (Wn.none rfl) rfl rfl ?_
            refine WR.step (Ex.move rfl) (Wn.none rfl) rfl rfl ?_
            refine WR.lit (enc := encR) ty64 [_] H rfl (by rfl) (fun _ => rfl) rfl rfl (Wn.none rfl) rfl ?_
            intro v66 M w H hle hl66
            replace hp := hp.mono hle
            replace hcell := hcell.mono hle
            refine WR.appendSl ty64 (fun _ => rfl) H rfl (fun _ => by repeat (first | exact Upd.head | apply Upd.tail)) rfl (by assumption) (by first | omega | (simp only [List.length_append, List.length_cons, List.length_nil, List.length_take, List.length_drop]; omega)) (by first | (simp only [maxLen]; omega) | (simp only [maxLen, List.length_append, List.length_cons, List.length_nil, List.length_take, List.length_drop]; omega)) (Wn.none rfl) rfl ?_
            intro v67 w H
            refine WR.step (Ex.assign rfl) (Wn.none rfl) rfl rfl ?_
            refine WR.nil ?_
            refine WQ.inBlock ?_
            refine WQ.then ?_
            refine WC.region ?_
            refine WR.step (Ex.move rfl) (Wn.none rfl) rfl rfl ?_
            refine WR.stepE (v' := encN (i + 2)) (Ex.add64 rfl rfl (by omega)) rfl (Wn.none rfl) rfl rfl ?_
            refine WR.step (Ex.assign rfl) (Wn.none rfl) rfl rfl ?_
            refine WR.nil ?_
            refine WQ.again3 (i + 2) (v67) (o ++ [unit x y]) ⟨rfl, rfl, rfl, rfl, trivial⟩ ?_ ?_
            · exact ⟨by omega, by simp; omega, by rw [hdec, hd, hone, unsur, if_neg (by omega)]; simp, M, H, hp, hcell⟩
            · omega
        ·
          refine WR.step (Ex.move rfl) (Wn.none rfl) rfl rfl ?_
          refine WR.skipG (b := false) rfl rfl rfl rfl rfl ?_
          refine WR.skipG (b := false) rfl rfl rfl rfl rfl ?_
          refine WR.step (Ex.pickF rfl rfl) (Wn.none rfl) rfl rfl ?_
          refine WR.nil ?_
          refine WQ.then ?_
          refine WC.condF rfl ?_
          refine WC.skip ?_
          refine WQ.then ?_
          refine WC.region ?_
          refine WR.step (Ex.move rfl) (Wn.none rfl) rfl rfl ?_
          refine WR.step (Ex.move rfl) (Wn.none rfl) rfl rfl ?_
          refine WR.lit (enc := encR) ty64 [_] H rfl (by rfl) (fun _ => rfl) rfl rfl (Wn.none rfl) rfl ?_
          intro v66 M w H hle hl66
          replace hp := hp.mono hle
          replace hcell := hcell.mono hle
          refine WR.appendSl ty64 (fun _ => rfl) H rfl (fun _ => by repeat (first | exact Upd.head | apply Upd.tail)) rfl (by assumption) (by first | omega | (simp only [List.length_append, List.length_cons, List.length_nil, List.length_take, List.length_drop]; omega)) (by first | (simp only [maxLen]; omega) | (simp only [maxLen, List.length_append, List.length_cons, List.length_nil, List.length_take, List.length_drop]; omega)) (Wn.none rfl) rfl ?_
          intro v67 w H
          refine WR.step (Ex.assign rfl) (Wn.none rfl) rfl rfl ?_
          refine WR.nil ?_
          refine WQ.inBlock ?_
          refine WQ.then ?_
          refine WC.region ?_
          refine WR.step (Ex.move rfl) (Wn.none rfl) rfl rfl ?_
          refine WR.stepE (v' := encN (i + 2)) (Ex.add64 rfl rfl (by omega)) rfl (Wn.none rfl) rfl rfl ?_
          refine WR.step (Ex.assign rfl) (Wn.none rfl) rfl rfl ?_
          refine WR.nil ?_
          refine WQ.again3 (i + 2) (v67) (o ++ [unit x y]) ⟨rfl, rfl, rfl, rfl, trivial⟩ ?_ ?_
          · exact ⟨by omega, by simp; omega, by rw [hdec, hd, hone, unsur, if_neg (by omega)]; simp, M, H, hp, hcell⟩
          · omega
  ·
    have hend : decW l = o := by rw [hdec, List.drop_eq_nil_of_le (by omega)]; simp [decW]
    refine WR.nil ?_
    refine WQ.then ?_
    refine WC.condF rfl ?_
    refine WC.exit ?_
    refine WQ.thenExit ?_
    refine WQ.thenExit ?_
    refine WQ.exitHere ?_
    refine WQ.then ?_
    refine WC.seq ?_
    refine WC.region ?_
    refine WR.step (Ex.move rfl) (Wn.none rfl) rfl rfl ?_
    refine WR.step (Ex.assign rfl) (Wn.none rfl) rfl rfl ?_
    refine WR.nil ?_
    refine WQ.then ?_
    refine WC.ret ?_
    (repeat (first | refine WQ.thenRet ?_ | refine WQ.inBlockRet ?_))
    obtain ⟨M, hle, hf, H⟩ := H.freezeRow (v := ov) (enc := encR) (t := 21) (by repeat (first | exact Rem.head | apply Rem.tail))
    refine WQ.ret1 rfl rfl H.ext ?_
    refine ?_
    rw [hend]
    exact hf

theorem ub_mod (a : Int) : ub (a % 256) = ub a := by
  unfold ub; rw [Int.emod_emod_of_dvd _ (Int.dvd_refl 256)]
theorem encK0 : encK 0 = encS 128 := rfl
theorem encK1 : encK 1 = encS 256 := rfl
theorem encK2 : encK 2 = encU := rfl
theorem encK3 : encK 3 = encW := rfl
def encWb (c : Int) : List UInt8 := if c < 65536 then [ub (c / 256), ub (c % 256)] else [ub (hiS c / 256), ub (hiS c % 256), ub (loS c / 256), ub (loS c % 256)]
theorem encW_b (c : Int) : encW c = some (encWb c) := rfl

theorem hiS_nat {m : Nat} (h : 65536 ≤ m) : hiS (m : Int) = ((55296 + (m - 65536) / 2 ^ 10 : Nat) : Int) := by unfold hiS; omega
theorem loS_nat {m : Nat} (h : 65536 ≤ m) : loS (m : Int) = ((56320 + (m - 65536) % 1024 : Nat) : Int) := by unfold loS; omega
theorem div256 (n : Nat) : ((n / 2 ^ 8 : Nat) : Int) = (n : Int) / 256 := by omega

theorem double_spec (m : Nat) (hm : m ≤ 1114111) : Ct Tryd.prog 54 [encR (m : Int)] (fun _ => True) (fun r M => ∃ v, r = .tuple #[v, .bool true] ∧ Bs M v (encWb (m : Int))) := by
  refine Ct.of Tryd.func54 (enters Tryd.func54 (by kernel_rfl) rfl) rfl rfl rfl ?_
  intro w0 M0 H hp
  refine WC.seq ?_
  refine WC.region ?_
  refine WR.step (Ex.assign rfl) (Wn.none rfl) rfl rfl ?_
  refine WR.step (Ex.assign rfl) (Wn.none rfl) rfl rfl ?_
  refine WR.nil ?_
  refine WQ.then ?_
  refine WC.seq ?_
  refine WC.seq ?_
  refine WC.region ?_
  refine WR.step (Ex.move rfl) (Wn.none rfl) rfl rfl ?_
  refine WR.split (Ex.lss rfl rfl) (Wn.none rfl) rfl rfl (fun h1_1 => ?_) (fun h1_1 => ?_)
  ·
    refine WR.nil ?_
    refine WQ.then ?_
    refine WC.condT rfl ?_
    refine WC.seq ?_
    refine WC.region ?_
    refine WR.step (Ex.move rfl) (Wn.none rfl) rfl rfl ?_
    refine WR.step (Ex.shrN (m := m) (s := 8) rfl rfl (by first | (show _ ≤ 64; omega) | (show _ ≤ 8; omega) | decide)) (Wn.none rfl) rfl rfl ?_
    refine WR.step (Ex.convU8 Tryd.underlying21 Tryd.underlying5 rfl) (Wn.none rfl) rfl rfl ?_
    refine WR.step (Ex.move rfl) (Wn.none rfl) rfl rfl ?_
    refine WR.step (Ex.convU8 Tryd.underlying21 Tryd.underlying5 rfl) (Wn.none rfl) rfl rfl ?_
    refine WR.lit (enc := encB) ty34 [_, _] H rfl (by rfl) (fun _ => rfl) rfl rfl (Wn.none rfl) rfl ?_
    intro v13 M w H hle hl13
    refine WR.step (Ex.assign rfl) (Wn.none rfl) rfl rfl ?_
    refine WR.step (Ex.assign rfl) (Wn.none rfl) rfl rfl ?_
    refine WR.nil ?_
    refine WQ.then ?_
    refine WC.ret ?_
    (repeat (first | refine WQ.thenRet ?_ | refine WQ.inBlockRet ?_))
    refine WQ.ret2 rfl rfl rfl H.ext ?_
    refine ⟨_, rfl, ?_⟩
    unfold encWb
    rw [if_pos (by omega), ub_mod, ← div256]
    exact hl13
  ·
    refine WR.nil ?_
    refine WQ.then ?_
    refine WC.condF rfl ?_
    refine WC.skip ?_
    refine WQ.then ?_
    refine WC.seq ?_
    refine WC.region ?_
    refine WR.step (Ex.move rfl) (Wn.none rfl) rfl rfl ?_
    refine WR.stepE (v' := encR ((m - 65536 : Nat) : Int)) (Ex.subW rfl rfl (i32_in (by omega))) (congrArg encR (by omega)) (Wn.none rfl) rfl rfl ?_
    refine WR.step (Ex.assign rfl) (Wn.none rfl) rfl rfl ?_
    refine WR.nil ?_
    refine WQ.then ?_
    refine WC.seq ?_
    refine WC.region ?_
    refine WR.step (Ex.move rfl) (Wn.none rfl) rfl rfl ?_
    refine WR.step (Ex.shrN (m := (m - 65536)) (s := 10) rfl rfl (by first | (show _ ≤ 64; omega) | (show _ ≤ 8; omega) | decide)) (Wn.none rfl) rfl rfl ?_
    refine WR.stepE (v' := encR ((55296 + (m - 65536) / 2 ^ 10 : Nat) : Int)) (Ex.addW rfl rfl (i32_in (by omega))) (congrArg encR (by omega)) (Wn.none rfl) rfl rfl ?_
    refine WR.step (Ex.move rfl) (Wn.none rfl) rfl rfl ?_
    refine WR.stepE (v' := encR (((m - 65536) % 1024 : Nat) : Int)) (Ex.andK (m := (m - 65536)) (s := 1023) rfl rfl (by first | decide | (show _ < 256; omega) | (show _ < 4294967296; omega) | (show _ < 18446744073709551616; omega)) (by first | decide | (show _ < 256; omega) | (show _ < 4294967296; omega) | (show _ < 18446744073709551616; omega))) (congrArg encR (by rw [Nat.and_two_pow_sub_one_eq_mod (m - 65536) 10]; exact i32_in (by omega))) (Wn.none rfl) rfl rfl ?_
    refine WR.stepE (v' := encR ((56320 + (m - 65536) % 1024 : Nat) : Int)) (Ex.addW rfl rfl (i32_in (by omega))) (congrArg encR (by omega)) (Wn.none rfl) rfl rfl ?_
    refine WR.step (Ex.assign rfl) (Wn.none rfl) rfl rfl ?_
    refine WR.step (Ex.assign rfl) (Wn.none rfl) rfl rfl ?_
    refine WR.nil ?_
    refine WQ.then ?_
    refine WC.seq ?_
    refine WC.region ?_
    refine WR.step (Ex.move rfl) (Wn.none rfl) rfl rfl ?_
    refine WR.step (Ex.shrN (m := (55296 + (m - 65536) / 2 ^ 10)) (s := 8) rfl rfl (by first | (show _ ≤ 64; omega) | (show _ ≤ 8; omega) | decide)) (Wn.none rfl) rfl rfl ?_
    refine WR.step (Ex.convU8 Tryd.underlying21 Tryd.underlying5 rfl) (Wn.none rfl) rfl rfl ?_
    refine WR.step (Ex.move rfl) (Wn.none rfl) rfl rfl ?_
    refine WR.step (Ex.convU8 Tryd.underlying21 Tryd.underlying5 rfl) (Wn.none rfl) rfl rfl ?_
    refine WR.step (Ex.move rfl) (Wn.none rfl) rfl rfl ?_
    refine WR.step (Ex.shrN (m := (56320 + (m - 65536) % 1024)) (s := 8) rfl rfl (by first | (show _ ≤ 64; omega) | (show _ ≤ 8; omega) | decide)) (Wn.none rfl) rfl rfl ?_
    refine WR.step (Ex.convU8 Tryd.underlying21 Tryd.underlying5 rfl) (Wn.none rfl) rfl rfl ?_
    refine WR.step (Ex.move rfl) (Wn.none rfl) rfl rfl ?_
    refine WR.step (Ex.convU8 Tryd.underlying21 Tryd.underlying5 rfl) (Wn.none rfl) rfl rfl ?_
    refine WR.lit (enc := encB) ty34 [_, _, _, _] H rfl (by rfl) (fun _ => rfl) rfl rfl (Wn.none rfl) rfl ?_
    intro v32 M w H hle hl32
    refine WR.step (Ex.assign rfl) (Wn.none rfl) rfl rfl ?_
    refine WR.step (Ex.assign rfl) (Wn.none rfl) rfl rfl ?_
    refine WR.nil ?_
    refine WQ.then ?_
    refine WC.ret ?_
    (repeat (first | refine WQ.thenRet ?_ | refine WQ.inBlockRet ?_))
    refine WQ.ret2 rfl rfl rfl H.ext ?_
    refine ⟨_, rfl, ?_⟩
    unfold encWb
    rw [if_neg (by omega), ub_mod, ub_mod, hiS_nat (by omega), loS_nat (by omega), ← div256, ← div256]
    exact hl32

theorem single_spec (nm : List UInt8) (bound : Int) : Ct Tryd.prog 49 [S nm, encR bound] (fun _ => True) (fun r M => ∃ b, r = .agg #[S nm, .func (.func 62) #[] #[ptr b 0], .func (.func 63) #[] #[ptr b 0]] ∧ CellM M ⟨b, 0, none⟩ (encR bound)) := by
  refine Ct.of Tryd.func49 (enters Tryd.func49 (by kernel_rfl) rfl) rfl rfl rfl ?_
  intro w0 M0 H hp
  refine WC.seq ?_
  refine WC.region ?_
  refine WR.box [_] H rfl rfl (Wn.none rfl) rfl ?_
  intro b3 w H
  refine WR.alloc [_, _, _] H Tryd.zeroValue61 rfl (Wn.none rfl) rfl ?_
  intro b4 w H
  refine WR.nil ?_
  refine WQ.then ?_
  refine WC.seq ?_
  refine WC.region ?_
  refine WR.step (Ex.move rfl) (Wn.none rfl) rfl rfl ?_
  refine WR.step (Ex.makeFunc rfl) (Wn.none rfl) rfl rfl ?_
  refine WR.step (Ex.makeFunc rfl) (Wn.none rfl) rfl rfl ?_
  refine WR.step (Ex.build [_, _, _] Tryd.underlying61 Tryd.zeroValue61 (places61 Tryd.underlying61) rfl rfl) (Wn.none rfl) rfl rfl ?_
  refine WR.store [_, _, _] H rfl rfl rfl (by repeat (first | exact Upd.head | apply Upd.tail)) Tryd.sizeOf61 rfl (by rfl) (by rfl) (Wn.none rfl) ?_
  intro w H
  refine WR.nil ?_
  refine WQ.then ?_
  refine WC.ret ?_
  (repeat (first | refine WQ.thenRet ?_ | refine WQ.inBlockRet ?_))
  obtain ⟨M, hle, hM, H⟩ := H.freezeBlk (b := b3) (by repeat (first | exact Rem.head | apply Rem.tail))
  refine WQ.ret1 rfl ⟨_, rfl, H.loadAgg (by repeat (first | exact List.Mem.head _ | apply List.Mem.tail)) Tryd.isAgg61 Tryd.sizeOf61 (by rfl)⟩ H.ext ?_
  exact ⟨b3, rfl, rfl, _, _, _, hM, rfl⟩

theorem ty74 : ElemTy Tryd.prog 74 61 (.agg #[.string ⟨#[]⟩, .nilFunc, .nilFunc]) 3 32 := ElemTy.mk' Tryd.underlying74 (by kernel_rfl) rfl (by decide)
abbrev encT (s : Value × Value × Value) : List Value := [s.1, s.2.1, s.2.2]
def rowsV (b0 b1 : Nat) : List (Value × Value × Value) := [(S [97, 115, 99, 105, 105], .func (.func 62) #[] #[ptr b0 0], .func (.func 63) #[] #[ptr b0 0]), (S [108, 97, 116, 105, 110, 49], .func (.func 62) #[] #[ptr b1 0], .func (.func 63) #[] #[ptr b1 0]), (S [117, 116, 102, 56], .func (.func 50) #[] #[], .func (.func 51) #[] #[]), (S [117, 116, 102, 49, 54, 98, 101], .func (.func 53) #[] #[], .func (.func 54) #[] #[])]
theorem row_at (b0 b1 k : Nat) (hk : k < 4) : ∃ x dv fv, setN[k]? = some x ∧ (rowsV b0 b1)[k]? = some (S x, dv, fv) ∧ dv.oneCell' = true ∧ fv.oneCell' = true ∧ x.length ≤ 7 := by
  rcases k with _ | _ | _ | _ | k
  · exact ⟨_, _, _, rfl, rfl, rfl, rfl, by decide⟩
  · exact ⟨_, _, _, rfl, rfl, rfl, rfl, by decide⟩
  · exact ⟨_, _, _, rfl, rfl, rfl, rfl, by decide⟩
  · exact ⟨_, _, _, rfl, rfl, rfl, rfl, by decide⟩
  · omega
def found (b0 b1 : Nat) : Option Nat → Value
  | none => .tuple #[.agg #[S [], .nilFunc, .nilFunc], .bool false]
  | some k => match (rowsV b0 b1)[k]? with
    | some s => .tuple #[.agg (encT s).toArray, .bool true]
    | none => .tuple #[]

theorem find_spec (name : List UInt8) (hs : name.length ≤ maxLen) : Ct Tryd.prog 41 [S name] (fun _ => True) (fun r M => ∃ b0 b1, CellM M ⟨b0, 0, none⟩ (encR 128) ∧ CellM M ⟨b1, 0, none⟩ (encR 256) ∧ r = found b0 b1 (setOf name)) := by
  refine Ct.of Tryd.func41 (enters Tryd.func41 (by kernel_rfl) rfl) rfl rfl rfl ?_
  intro w0 M0 H hp
  refine WC.seq ?_
  refine WC.region ?_
  refine WR.alloc [_, _, _] H Tryd.zeroValue61 rfl (Wn.none rfl) rfl ?_
  intro b2 w H
  refine WR.step (Ex.assign rfl) (Wn.none rfl) rfl rfl ?_
  refine WR.nil ?_
  refine WQ.then ?_
  refine WC.seq ?_
  refine WC.region ?_
  refine WR.call H (single_spec _ _) rfl (trivial) (Wn.none rfl) rfl ?_
  intro v7 M w H hle hr7
  obtain ⟨bb7, rfl, hcell7⟩ := hr7
  refine WR.call H (single_spec _ _) rfl (trivial) (Wn.none rfl) rfl ?_
  intro v8 M w H hle hr8
  replace hcell7 := hcell7.mono hle
  obtain ⟨bb8, rfl, hcell8⟩ := hr8
  refine WR.stepE (v' := .agg #[S [117, 116, 102, 56], .func (.func 50) #[] #[], .func (.func 51) #[] #[]]) (Ex.build [_, _, _] Tryd.underlying61 Tryd.zeroValue61 (places61 Tryd.underlying61) rfl rfl) rfl (Wn.none rfl) rfl rfl ?_
  refine WR.stepE (v' := .agg #[S [117, 116, 102, 49, 54, 98, 101], .func (.func 53) #[] #[], .func (.func 54) #[] #[]]) (Ex.build [_, _, _] Tryd.underlying61 Tryd.zeroValue61 (places61 Tryd.underlying61) rfl rfl) rfl (Wn.none rfl) rfl rfl ?_
  refine WR.litS (enc := encT) ty74 (rowsV bb7 bb8) H (fun _ => rfl) rfl (by kernel_rfl) rfl rfl rfl (Wn.none rfl) rfl ?_
  intro v11 M w H hle hl11
  replace hcell7 := hcell7.mono hle
  replace hcell8 := hcell8.mono hle
  refine WR.step (Ex.assign rfl) (Wn.none rfl) rfl rfl ?_
  refine WR.nil ?_
  refine WQ.then ?_
  refine WC.seq ?_
  refine WC.seq ?_
  refine WC.region ?_
  refine WR.step (Ex.move rfl) (Wn.none rfl) rfl rfl ?_
  refine WR.stepE (v' := I 4) (Ex.lenSlS Tryd.underlying74 (by assumption) rfl) rfl (Wn.none rfl) rfl rfl ?_
  refine WR.step (Ex.move rfl) (Wn.none rfl) rfl rfl ?_
  refine WR.nil ?_
  refine WQ.then ?_
  refine WC.block ?_
  refine WC.loop1 (fun (k : Nat) => [(0, S name), (2, ptr b2 0), (12, v11), (13, I 4), (14, encN k)]) (fun (k : Nat) w => k ≤ 4 ∧ setOf name = ((setN.drop k).findIdx? (same name)).map (· + k) ∧ ∃ M, St w0 M0 M [.blk b2 (.cells #[S [], .nilFunc, .nilFunc] 61)] w ∧ SlS M 3 encT v11 (rowsV bb7 bb8) ∧ CellM M ⟨bb7, 0, none⟩ (encR 128) ∧ CellM M ⟨bb8, 0, none⟩ (encR 256)) (fun (k : Nat) => 4 - k) (0) ⟨rfl, rfl, rfl, rfl, rfl, trivial⟩ (⟨by omega, by rw [List.drop_zero]; simp only [Nat.add_zero, Option.map_id']; rfl, M, H, hl11, hcell7, hcell8⟩) ?_
  intro k w
  rintro ⟨hk, hso, M, H, hl11, hcell7, hcell8⟩
  refine WC.seq ?_
  refine WC.region ?_
  refine WR.split (Ex.lss rfl rfl) (Wn.none rfl) rfl rfl (fun h3_0 => ?_) (fun h3_0 => ?_)
  ·
    obtain ⟨x, dv, fv, hx, hrow, hd1, hf1, hxl⟩ := row_at bb7 bb8 k (by omega)
    refine WR.nil ?_
    refine WQ.then ?_
    refine WC.seq ?_
    refine WC.condT rfl ?_
    refine WC.skip ?_
    refine WQ.then ?_
    refine WC.seq ?_
    refine WC.block ?_
    refine WC.seq ?_
    refine WC.region ?_
    refine WR.idxSlS Tryd.underlying74 Tryd.sizeOf61 (by assumption) rfl rfl (hrow) (Wn.none rfl) rfl ?_
    intro b16 o16 hc16
    first | refine WR.step (Ex.loadAgg H rfl (by repeat (first | exact List.Mem.head _ | apply List.Mem.tail)) Tryd.isAgg61 Tryd.sizeOf61 (by rfl)) (Wn.none rfl) rfl rfl ?_ | refine WR.step (Ex.loadAggM H rfl (by assumption) Tryd.isAgg61 Tryd.sizeOf61 (by rfl)) (Wn.none rfl) rfl rfl ?_
    refine WR.alloc [_, _, _] H Tryd.zeroValue61 rfl (Wn.none rfl) rfl ?_
    intro b6 w H
    refine WR.store [S x, dv, fv] H rfl rfl rfl (by repeat (first | exact Upd.head | apply Upd.tail)) Tryd.sizeOf61 rfl (by rfl) (by show (true && (dv.oneCell' && (fv.oneCell' && true))) = true; rw [hd1, hf1]; rfl) (Wn.none rfl) ?_
    intro w H
    refine WR.nil ?_
    refine WQ.then ?_
    refine WC.seq ?_
    refine WC.region ?_
    refine WR.step (Ex.fieldAddr Tryd.underlying61 rfl Tryd.sizeOf9 (by decide) rfl) (Wn.none rfl) rfl rfl ?_
    first | refine WR.step (Ex.loadM H rfl (by assumption) Tryd.isAgg9) (Wn.none rfl) rfl rfl ?_ | refine WR.step (Ex.load1 H rfl (by repeat (first | exact List.Mem.head _ | apply List.Mem.tail)) Tryd.isAgg9 (by rfl)) (Wn.none rfl) rfl rfl ?_
    refine WR.step (Ex.move rfl) (Wn.none rfl) rfl rfl ?_
    by_cases h5_3 : lower x = lower name
    ·
      have hr := (setOf_from hso hx).1 h5_3
      refine WR.call H (Ct.mono (same_spec _ _ (by simp only [maxLen]; omega) hs) (R' := fun r _ => r = .bool true) (fun _ _ h => h.trans (congrArg Value.bool (decide_eq_true h5_3)))) rfl (trivial) (Wn.none rfl) rfl ?_
      intro v21 M w H hle hr21
      replace hl11 := hl11.mono hle
      replace hcell7 := hcell7.mono hle
      replace hcell8 := hcell8.mono hle
      replace hc16 := hc16.mono hle
      obtain rfl := hr21
      refine WR.nil ?_
      refine WQ.then ?_
      refine WC.condT rfl ?_
      refine WC.seq ?_
      refine WC.region ?_
      first | refine WR.step (Ex.loadAgg H rfl (by repeat (first | exact List.Mem.head _ | apply List.Mem.tail)) Tryd.isAgg61 Tryd.sizeOf61 (by rfl)) (Wn.none rfl) rfl rfl ?_ | refine WR.step (Ex.loadAggM H rfl (by assumption) Tryd.isAgg61 Tryd.sizeOf61 (by rfl)) (Wn.none rfl) rfl rfl ?_
      refine WR.store [S x, dv, fv] H rfl rfl rfl (by repeat (first | exact Upd.head | apply Upd.tail)) Tryd.sizeOf61 rfl (by rfl) (by show (true && (dv.oneCell' && (fv.oneCell' && true))) = true; rw [hd1, hf1]; rfl) (Wn.none rfl) ?_
      intro w H
      refine WR.step (Ex.assign rfl) (Wn.none rfl) rfl rfl ?_
      refine WR.nil ?_
      refine WQ.then ?_
      refine WC.ret ?_
      (repeat (first | refine WQ.thenRet ?_ | refine WQ.inBlockRet ?_))
      refine WQ.ret2 rfl ⟨_, rfl, H.loadAgg (by repeat (first | exact List.Mem.head _ | apply List.Mem.tail)) Tryd.isAgg61 Tryd.sizeOf61 (by rfl)⟩ rfl H.ext ?_
      exact ⟨_, _, hcell7, hcell8, by rw [hr, found, hrow]⟩
    ·
      refine WR.call H (Ct.mono (same_spec _ _ (by simp only [maxLen]; omega) hs) (R' := fun r _ => r = .bool false) (fun _ _ h => h.trans (congrArg Value.bool (decide_eq_false h5_3)))) rfl (trivial) (Wn.none rfl) rfl ?_
      intro v21 M w H hle hr21
      replace hl11 := hl11.mono hle
      replace hcell7 := hcell7.mono hle
      replace hcell8 := hcell8.mono hle
      replace hc16 := hc16.mono hle
      obtain rfl := hr21
      refine WR.nil ?_
      refine WQ.then ?_
      refine WC.condF rfl ?_
      refine WC.skip ?_
      refine WQ.inBlock ?_
      refine WQ.then ?_
      refine WC.region ?_
      refine WR.stepE (v' := encN (k + 1)) (Ex.add64 rfl rfl (by omega)) rfl (Wn.none rfl) rfl rfl ?_
      refine WR.step (Ex.move rfl) (Wn.none rfl) rfl rfl ?_
      refine WR.nil ?_
      refine WQ.again1 (k + 1) ⟨rfl, rfl, rfl, rfl, rfl, trivial⟩ ?_ ?_
      · exact ⟨by omega, (setOf_from hso hx).2 h5_3, M, H.drop (List.sublist_cons_self _ _), hl11, hcell7, hcell8⟩
      · omega
  ·
    have hr : setOf name = none := by rw [hso, List.drop_eq_nil_of_le (show setN.length ≤ k by show 4 ≤ k; omega)]; rfl
    refine WR.nil ?_
    refine WQ.then ?_
    refine WC.seq ?_
    refine WC.condF rfl ?_
    refine WC.exit ?_
    refine WQ.thenExit ?_
    refine WQ.thenExit ?_
    refine WQ.exitHere ?_
    refine WQ.then ?_
    refine WC.seq ?_
    refine WC.region ?_
    refine WR.step (Ex.build [_, _, _] Tryd.underlying61 Tryd.zeroValue61 (places61 Tryd.underlying61) rfl rfl) (Wn.none rfl) rfl rfl ?_
    refine WR.store [_, _, _] H rfl rfl rfl (by repeat (first | exact Upd.head | apply Upd.tail)) Tryd.sizeOf61 rfl (by rfl) (by rfl) (Wn.none rfl) ?_
    intro w H
    refine WR.step (Ex.assign rfl) (Wn.none rfl) rfl rfl ?_
    refine WR.nil ?_
    refine WQ.then ?_
    refine WC.ret ?_
    (repeat (first | refine WQ.thenRet ?_ | refine WQ.inBlockRet ?_))
    refine WQ.ret2 rfl ⟨_, rfl, H.loadAgg (by repeat (first | exact List.Mem.head _ | apply List.Mem.tail)) Tryd.isAgg61 Tryd.sizeOf61 (by rfl)⟩ rfl H.ext ?_
    exact ⟨_, _, hcell7, hcell8, by rw [hr, found]⟩

end Go.Proofs.YtnjglbmaonbcbaaDoor
