/-
  Fnd, Cod, Rdc, Ren, B64Plain, Ref, Dec, Grp, Lp, Wpf, Wpg, Dpf: own texts of this repository (wip/tpl, wip/plans), merged and shaken by wip/tools/pack.py.
-/
import Derived.KernelRfl
import Derived.Test.YtkmjdamkifbddaaGreatDoorE3b
set_option maxRecDepth 100000
set_option linter.unusedVariables false
set_option linter.unusedSimpArgs false
section
namespace Go.Proofs.YtkmjdamkifbddaaGreatDoor
open Go Go.RowKit Go.Ph
open Go.Ph.Gr Go.Ph.Utf Go.Ph.Chs
theorem units_spec (v : Value) (l : List UInt8) (hs : l.length ≤ 12000) : Ct Tryz.prog 197 [v] (fun M => Bs M v l) (fun r M => Sl M encR r (decW l)) := by
 refine Ct.of Tryz.func197 (enters Tryz.func197 (by kernel_rfl) rfl) rfl rfl rfl ?_
 intro w0 M0 H hp
 refine SQ (RG (WR.box [_] H rfl (One.cells (by first | exact One.slice _ _ _ | exact Sl.one (by assumption) | exact StX.rowOne H (by repeat first | exact kMh | apply kMt))) (Wn.none rfl) rfl ?_))
 intro b1 w H
 obtain ⟨M, hle, hM, H⟩ := H.freezeBlk (by repeat first | exact .head | apply Rem.tail)
 replace hp := hp.mono hle
 have hcell : CellM M ⟨b1, 0, none⟩ v := ⟨rfl, _, _, _, hM, rfl⟩
 refine AS rfl rfl (NL (TN (SQ (RG (AS rfl rfl (NL (TN (SQ (RG (ST (Ex.makeFunc rfl) rfl (AS rfl rfl (NL (TN (SQ (SQ (RG (AS rfl rfl (NL (TN (BL ?_))))))))))))))))))))
 replace H := H.newRow 21 encR
 refine WC.loop3 (fun (i : Nat) (ov : Value) (o : List Int) => [(1, ptr b1 0), (3, ov), (4, .func (.func 216) #[] #[ptr b1 0]), (5, encN i)]) (fun (i : Nat) (ov : Value) (o : List Int) w => i ≤ l.length ∧ o.length ≤ i ∧ decW l = o ++ decW (l.drop i) ∧ ∃ M, St w0 M0 M [RowI 21 encR ov o] w ∧ Bs M v l ∧ CellM M ⟨b1, 0, none⟩ v) (fun (i : Nat) (ov : Value) (o : List Int) => l.length - i) (0) (_) (_) ⟨rfl, rfl, rfl, rfl, trivial⟩ (⟨by omega, by simp, rfl, M, H, hp, hcell⟩) ?_
 intro i ov o w
 rintro ⟨hi, hol, hdec, M, H, hp, hcell⟩
 refine SQ (SQ (RG (MV rfl rfl ?_)))
 first | refine WR.step (Ex.loadM H rfl (by assumption) Tryz.isAgg88) (Wn.none rfl) rfl rfl ?_ | refine WR.step (Ex.load1 H rfl (by repeat first | exact kMh | apply kMt) Tryz.isAgg88 (by rfl)) (Wn.none rfl) rfl rfl ?_
 first | refine WR.step (Ex.lenSl Tryz.underlying88 (by assumption) rfl) (Wn.none rfl) rfl rfl ?_ | refine WR.step (Ex.lenRow Tryz.underlying88 H (by repeat first | exact kMh | apply kMt) rfl) (Wn.none rfl) rfl rfl ?_ | refine WR.step (Ex.lenSlice Tryz.underlying88 rfl) (Wn.none rfl) rfl rfl ?_
 refine WR.split (Ex.lss rfl rfl) (Wn.none rfl) rfl rfl (fun h4_3 => ?_) (fun h4_3 => ?_)
 · obtain ⟨x, hx⟩ : ∃ c, l[i]? = some c := ⟨_, List.getElem?_eq_getElem (by omega)⟩
   refine NL (TN (CT rfl (SK (TN (SQ (BL (SQ (SQ (RG (MV rfl rfl (ST (Ex.add64 rfl rfl (by omega)) rfl ?_)))))))))))
   first | refine WR.step (Ex.loadM H rfl (by assumption) Tryz.isAgg88) (Wn.none rfl) rfl rfl ?_ | refine WR.step (Ex.load1 H rfl (by repeat first | exact kMh | apply kMt) Tryz.isAgg88 (by rfl)) (Wn.none rfl) rfl rfl ?_
   first | refine WR.step (Ex.lenSl Tryz.underlying88 (by assumption) rfl) (Wn.none rfl) rfl rfl ?_ | refine WR.step (Ex.lenRow Tryz.underlying88 H (by repeat first | exact kMh | apply kMt) rfl) (Wn.none rfl) rfl rfl ?_ | refine WR.step (Ex.lenSlice Tryz.underlying88 rfl) (Wn.none rfl) rfl rfl ?_
   refine WR.split (Ex.eql rfl rfl) (Wn.none rfl) rfl rfl (fun h6_4 => ?_) (fun h6_4 => ?_)
   · have hlast : l.drop i = [x] := by
      obtain ⟨e1, e2⟩ := List.getElem?_eq_some_iff.1 hx
      rw [List.drop_eq_getElem_cons e1, e2, List.drop_eq_nil_of_le (by omega)]
     refine NL (TN (CT rfl (SQ (RG (MV rfl rfl (WR.lit (enc := encR) ty212 [_] H rfl (by rfl) (fun _ => rfl) rfl rfl (Wn.none rfl) rfl ?_))))))
     intro v21 M w H hle hl21
     replace hp := hp.mono hle
     replace hcell := hcell.mono hle
     refine WR.appendSl ty212 (fun _ => rfl) H rfl (fun _ => by repeat first | exact .head | apply Upd.tail) rfl (by assumption) (by first | omega | (simp only [List.length_append, List.length_cons, List.length_nil, List.length_take, List.length_drop]; omega)) (by first | (simp only [maxLen]; omega) | (simp only [maxLen, List.length_append, List.length_cons, List.length_nil, List.length_take, List.length_drop]; omega)) (Wn.none rfl) rfl ?_
     intro v22 w H
     refine AS rfl rfl (NL (TN (RT ?_)))
     obtain ⟨M, hle, hf, H⟩ := H.freezeRow (v := v22) (enc := encR) (t := 21) (by repeat first | exact .head | apply Rem.tail)
     refine WQ.ret1 rfl rfl H.ext ( ?_)
     rw [hdec, hlast]
     simpa [decW] using hf
   · obtain ⟨y, hy⟩ : ∃ c, l[i + 1]? = some c := ⟨_, List.getElem?_eq_getElem (by omega)⟩
     have hd : l.drop i = x :: y :: l.drop (i + 2) := by
      obtain ⟨e1, e2⟩ := List.getElem?_eq_some_iff.1 hx
      obtain ⟨e3, e4⟩ := List.getElem?_eq_some_iff.1 hy
      rw [List.drop_eq_getElem_cons e1, e2, List.drop_eq_getElem_cons e3, e4]
     have hul := unit_lt x y
     refine NL (TN (CF rfl (SK (TN (SQ (RG (MV rfl rfl (MV rfl rfl (WR.callV (cap := [ptr b1 0]) H (unit_spec v l b1 i x y hs hx hy) rfl rfl (⟨by assumption, by assumption⟩) (Wn.none rfl) rfl ?_)))))))))
     intro v25 M w H hle hr25
     replace hp := hp.mono hle
     replace hcell := hcell.mono hle
     obtain rfl := hr25
     refine AS rfl rfl (NL (TN (SQ (SQ (RG (MV rfl rfl ?_))))))
     refine WR.split (Ex.geq rfl rfl) (Wn.none rfl) rfl rfl (fun h9_1 => ?_) (fun h9_1 => ?_)
     · refine MV rfl rfl (SG (Ex.move rfl) rfl rfl rfl ?_)
       refine WR.split (Ex.lss rfl rfl) (Wn.some rfl rfl rfl) rfl rfl (fun h9_4 => ?_) (fun h9_4 => ?_)
       · refine PT rfl rfl rfl (MV rfl rfl (SG (Ex.move rfl) rfl rfl rfl (SG (Ex.add64 rfl rfl (by omega)) rfl rfl rfl ?_)))
         first | refine WR.step (Ex.loadM H rfl (by assumption) Tryz.isAgg88) (Wn.some rfl rfl rfl) rfl rfl ?_ | refine WR.step (Ex.load1 H rfl (by repeat first | exact kMh | apply kMt) Tryz.isAgg88 (by rfl)) (Wn.some rfl rfl rfl) rfl rfl ?_
         first | refine WR.step (Ex.lenSl Tryz.underlying88 (by assumption) rfl) (Wn.some rfl rfl rfl) rfl rfl ?_ | refine WR.step (Ex.lenRow Tryz.underlying88 H (by repeat first | exact kMh | apply kMt) rfl) (Wn.some rfl rfl rfl) rfl rfl ?_ | refine WR.step (Ex.lenSlice Tryz.underlying88 rfl) (Wn.some rfl rfl rfl) rfl rfl ?_
         refine WR.split (Ex.lss rfl rfl) (Wn.some rfl rfl rfl) rfl rfl (fun h9_11 => ?_) (fun h9_11 => ?_)
         · obtain ⟨x2, hx2⟩ : ∃ c, l[i + 2]? = some c := ⟨_, List.getElem?_eq_getElem (by omega)⟩
           obtain ⟨y2, hy2⟩ : ∃ c, l[i + 3]? = some c := ⟨_, List.getElem?_eq_getElem (by omega)⟩
           have hd2 : l.drop (i + 2) = x2 :: y2 :: l.drop (i + 2 + 2) := by
            obtain ⟨e1, e2⟩ := List.getElem?_eq_some_iff.1 hx2
            obtain ⟨e3, e4⟩ := List.getElem?_eq_some_iff.1 hy2
            rw [List.drop_eq_getElem_cons e1, e2, List.drop_eq_getElem_cons e3, e4]
           have hul2 := unit_lt x2 y2
           refine PT rfl rfl rfl (NL (TN (CT rfl (SQ (RG (MV rfl rfl (MV rfl rfl (WR.stepE (v' := encN (i + 2)) (Ex.add64 rfl rfl (by omega)) rfl (Wn.none rfl) rfl rfl ?_))))))))
           refine WR.callV (cap := [ptr b1 0]) H (unit_spec v l b1 (i + 2) x2 y2 hs hx2 hy2) rfl rfl (⟨by assumption, by assumption⟩) (Wn.none rfl) rfl ?_
           intro v42 M w H hle hr42
           replace hp := hp.mono hle
           replace hcell := hcell.mono hle
           obtain rfl := hr42
           refine AS rfl rfl (NL (TN (SQ (RG (MV rfl rfl ?_)))))
           refine WR.split (Ex.geq rfl rfl) (Wn.none rfl) rfl rfl (fun h11_1 => ?_) (fun h11_1 => ?_)
           · refine MV rfl rfl (SG (Ex.move rfl) rfl rfl rfl ?_)
             refine WR.split (Ex.lss rfl rfl) (Wn.some rfl rfl rfl) rfl rfl (fun h11_4 => ?_) (fun h11_4 => ?_)
             · refine PT rfl rfl rfl (NL (TN (CT rfl (SQ (RG (MV rfl rfl (WR.stepE (v' := encR (((unit x y - 55296).toNat : Nat) : Int)) (Ex.subW rfl rfl (i32_in (by omega))) (congrArg encR (by omega)) (Wn.none rfl) rfl rfl ?_)))))))
               refine WR.stepE (v' := encR (1024 * (unit x y - 55296))) (Ex.shlK (m := (unit x y - 55296).toNat) (s := 10) rfl rfl (by decide)) (congrArg encR (by rw [i32_in (by omega)]; omega)) (Wn.none rfl) rfl rfl ?_
               refine ST (Ex.addW rfl rfl (i32_in (by omega))) rfl ?_
               refine MV rfl rfl (ST (Ex.addW rfl rfl (i32_in (by omega))) rfl ?_)
               refine ST (Ex.subW rfl rfl (i32_in (by omega))) rfl ?_
               refine AS rfl rfl (NL (TN (RG (MV rfl rfl (WR.stepE (v' := encN (i + 2)) (Ex.add64 rfl rfl (by omega)) rfl (Wn.none rfl) rfl rfl ?_)))))
               refine AS rfl rfl (NL (TN (SQ (SQ (RG (MV rfl rfl (WR.stepT (Ex.geq rfl rfl) (by omega) (Wn.none rfl) rfl rfl ?_)))))))
               refine MV rfl rfl (SG (Ex.move rfl) rfl rfl rfl (WR.stepF (Ex.lss rfl rfl) (by omega) (Wn.some rfl rfl rfl) rfl rfl ?_))
               refine PT rfl rfl rfl (NL (TN (CF rfl (SK (TN (RG (MV rfl rfl (MV rfl rfl (WR.lit (enc := encR) ty212 [_] H rfl (by rfl) (fun _ => rfl) rfl rfl (Wn.none rfl) rfl ?_)))))))))
               intro v66 M w H hle hl66
               replace hp := hp.mono hle
               replace hcell := hcell.mono hle
               refine WR.appendSl ty212 (fun _ => rfl) H rfl (fun _ => by repeat first | exact .head | apply Upd.tail) rfl (by assumption) (by first | omega | (simp only [List.length_append, List.length_cons, List.length_nil, List.length_take, List.length_drop]; omega)) (by first | (simp only [maxLen]; omega) | (simp only [maxLen, List.length_append, List.length_cons, List.length_nil, List.length_take, List.length_drop]; omega)) (Wn.none rfl) rfl ?_
               intro v67 w H
               refine AS rfl rfl (NL (IB (TN (RG (MV rfl rfl (WR.stepE (v' := encN (i + 2 + 2)) (Ex.add64 rfl rfl (by omega)) rfl (Wn.none rfl) rfl rfl ?_))))))
               refine AS rfl rfl (NL ?_)
               refine WQ.again3 (i + 2 + 2) (v67) (o ++ [65536 + 1024 * (unit x y - 55296) + unit x2 y2 - 56320]) ⟨rfl, rfl, rfl, rfl, trivial⟩ ?_ ?_
               · exact ⟨by omega, by simp; omega, by rw [hdec, hd, hd2, decW_pair ⟨h9_1, h9_4⟩ ⟨h11_1, h11_4⟩]; simp, M, H, hp, hcell⟩
               · omega
             · have hone : decW (x :: y :: l.drop (i + 2)) = unsur (unit x y) :: decW (l.drop (i + 2)) := decW_one (by
                rintro ⟨_, c', d', r', hr, h3, h4⟩
                rw [hd2] at hr
                cases hr
                omega)
               refine PT rfl rfl rfl (NL (TN (CF rfl (SK (TN (SQ (SQ (RG (MV rfl rfl ?_)))))))))
               refine WR.split (Ex.geq rfl rfl) (Wn.none rfl) rfl rfl (fun h14_1 => ?_) (fun h14_1 => ?_)
               · refine MV rfl rfl (SG (Ex.move rfl) rfl rfl rfl ?_)
                 refine WR.split (Ex.lss rfl rfl) (Wn.some rfl rfl rfl) rfl rfl (fun h14_4 => ?_) (fun h14_4 => ?_)
                 · refine PT rfl rfl rfl (NL (TN (CT rfl (RG (AS rfl rfl (NL (TN (RG (MV rfl rfl (MV rfl rfl (WR.lit (enc := encR) ty212 [_] H rfl (by rfl) (fun _ => rfl) rfl rfl (Wn.none rfl) rfl ?_)))))))))))
                   intro v66 M w H hle hl66
                   replace hp := hp.mono hle
                   replace hcell := hcell.mono hle
                   refine WR.appendSl ty212 (fun _ => rfl) H rfl (fun _ => by repeat first | exact .head | apply Upd.tail) rfl (by assumption) (by first | omega | (simp only [List.length_append, List.length_cons, List.length_nil, List.length_take, List.length_drop]; omega)) (by first | (simp only [maxLen]; omega) | (simp only [maxLen, List.length_append, List.length_cons, List.length_nil, List.length_take, List.length_drop]; omega)) (Wn.none rfl) rfl ?_
                   intro v67 w H
                   refine AS rfl rfl (NL (IB (TN (RG (MV rfl rfl (WR.stepE (v' := encN (i + 2)) (Ex.add64 rfl rfl (by omega)) rfl (Wn.none rfl) rfl rfl ?_))))))
                   refine AS rfl rfl (NL ?_)
                   refine WQ.again3 (i + 2) (v67) (o ++ [65533]) ⟨rfl, rfl, rfl, rfl, trivial⟩ ?_ ?_
                   · exact ⟨by omega, by simp; omega, by rw [hdec, hd, hone, unsur, if_pos ⟨h14_1, h14_4⟩]; simp, M, H, hp, hcell⟩
                   · omega
                 · refine PT rfl rfl rfl (NL (TN (CF rfl (SK (TN (RG (MV rfl rfl (MV rfl rfl (WR.lit (enc := encR) ty212 [_] H rfl (by rfl) (fun _ => rfl) rfl rfl (Wn.none rfl) rfl ?_)))))))))
                   intro v66 M w H hle hl66
                   replace hp := hp.mono hle
                   replace hcell := hcell.mono hle
                   refine WR.appendSl ty212 (fun _ => rfl) H rfl (fun _ => by repeat first | exact .head | apply Upd.tail) rfl (by assumption) (by first | omega | (simp only [List.length_append, List.length_cons, List.length_nil, List.length_take, List.length_drop]; omega)) (by first | (simp only [maxLen]; omega) | (simp only [maxLen, List.length_append, List.length_cons, List.length_nil, List.length_take, List.length_drop]; omega)) (Wn.none rfl) rfl ?_
                   intro v67 w H
                   refine AS rfl rfl (NL (IB (TN (RG (MV rfl rfl (WR.stepE (v' := encN (i + 2)) (Ex.add64 rfl rfl (by omega)) rfl (Wn.none rfl) rfl rfl ?_))))))
                   refine AS rfl rfl (NL ?_)
                   refine WQ.again3 (i + 2) (v67) (o ++ [unit x y]) ⟨rfl, rfl, rfl, rfl, trivial⟩ ?_ ?_
                   · exact ⟨by omega, by simp; omega, by rw [hdec, hd, hone, unsur, if_neg (by omega)]; simp, M, H, hp, hcell⟩
                   · omega
               · refine MV rfl rfl (GF rfl rfl rfl (GF rfl rfl rfl (PF rfl rfl rfl (NL (TN (CF rfl (SK (TN (RG (MV rfl rfl (MV rfl rfl (WR.lit (enc := encR) ty212 [_] H rfl (by rfl) (fun _ => rfl) rfl rfl (Wn.none rfl) rfl ?_))))))))))))
                 intro v66 M w H hle hl66
                 replace hp := hp.mono hle
                 replace hcell := hcell.mono hle
                 refine WR.appendSl ty212 (fun _ => rfl) H rfl (fun _ => by repeat first | exact .head | apply Upd.tail) rfl (by assumption) (by first | omega | (simp only [List.length_append, List.length_cons, List.length_nil, List.length_take, List.length_drop]; omega)) (by first | (simp only [maxLen]; omega) | (simp only [maxLen, List.length_append, List.length_cons, List.length_nil, List.length_take, List.length_drop]; omega)) (Wn.none rfl) rfl ?_
                 intro v67 w H
                 refine AS rfl rfl (NL (IB (TN (RG (MV rfl rfl (WR.stepE (v' := encN (i + 2)) (Ex.add64 rfl rfl (by omega)) rfl (Wn.none rfl) rfl rfl ?_))))))
                 refine AS rfl rfl (NL ?_)
                 refine WQ.again3 (i + 2) (v67) (o ++ [unit x y]) ⟨rfl, rfl, rfl, rfl, trivial⟩ ?_ ?_
                 · exact ⟨by omega, by simp; omega, by rw [hdec, hd, hone, unsur, if_neg (by omega)]; simp, M, H, hp, hcell⟩
                 · omega
           · have hone : decW (x :: y :: l.drop (i + 2)) = unsur (unit x y) :: decW (l.drop (i + 2)) := decW_one (by
              rintro ⟨_, c', d', r', hr, h3, h4⟩
              rw [hd2] at hr
              cases hr
              omega)
             refine MV rfl rfl (GF rfl rfl rfl (GF rfl rfl rfl (PF rfl rfl rfl (NL (TN (CF rfl (SK (TN (SQ (SQ (RG (MV rfl rfl ?_))))))))))))
             refine WR.split (Ex.geq rfl rfl) (Wn.none rfl) rfl rfl (fun h14_1 => ?_) (fun h14_1 => ?_)
             · refine MV rfl rfl (SG (Ex.move rfl) rfl rfl rfl ?_)
               refine WR.split (Ex.lss rfl rfl) (Wn.some rfl rfl rfl) rfl rfl (fun h14_4 => ?_) (fun h14_4 => ?_)
               · refine PT rfl rfl rfl (NL (TN (CT rfl (RG (AS rfl rfl (NL (TN (RG (MV rfl rfl (MV rfl rfl (WR.lit (enc := encR) ty212 [_] H rfl (by rfl) (fun _ => rfl) rfl rfl (Wn.none rfl) rfl ?_)))))))))))
                 intro v66 M w H hle hl66
                 replace hp := hp.mono hle
                 replace hcell := hcell.mono hle
                 refine WR.appendSl ty212 (fun _ => rfl) H rfl (fun _ => by repeat first | exact .head | apply Upd.tail) rfl (by assumption) (by first | omega | (simp only [List.length_append, List.length_cons, List.length_nil, List.length_take, List.length_drop]; omega)) (by first | (simp only [maxLen]; omega) | (simp only [maxLen, List.length_append, List.length_cons, List.length_nil, List.length_take, List.length_drop]; omega)) (Wn.none rfl) rfl ?_
                 intro v67 w H
                 refine AS rfl rfl (NL (IB (TN (RG (MV rfl rfl (WR.stepE (v' := encN (i + 2)) (Ex.add64 rfl rfl (by omega)) rfl (Wn.none rfl) rfl rfl ?_))))))
                 refine AS rfl rfl (NL ?_)
                 refine WQ.again3 (i + 2) (v67) (o ++ [65533]) ⟨rfl, rfl, rfl, rfl, trivial⟩ ?_ ?_
                 · exact ⟨by omega, by simp; omega, by rw [hdec, hd, hone, unsur, if_pos ⟨h14_1, h14_4⟩]; simp, M, H, hp, hcell⟩
                 · omega
               · refine PT rfl rfl rfl (NL (TN (CF rfl (SK (TN (RG (MV rfl rfl (MV rfl rfl (WR.lit (enc := encR) ty212 [_] H rfl (by rfl) (fun _ => rfl) rfl rfl (Wn.none rfl) rfl ?_)))))))))
                 intro v66 M w H hle hl66
                 replace hp := hp.mono hle
                 replace hcell := hcell.mono hle
                 refine WR.appendSl ty212 (fun _ => rfl) H rfl (fun _ => by repeat first | exact .head | apply Upd.tail) rfl (by assumption) (by first | omega | (simp only [List.length_append, List.length_cons, List.length_nil, List.length_take, List.length_drop]; omega)) (by first | (simp only [maxLen]; omega) | (simp only [maxLen, List.length_append, List.length_cons, List.length_nil, List.length_take, List.length_drop]; omega)) (Wn.none rfl) rfl ?_
                 intro v67 w H
                 refine AS rfl rfl (NL (IB (TN (RG (MV rfl rfl (WR.stepE (v' := encN (i + 2)) (Ex.add64 rfl rfl (by omega)) rfl (Wn.none rfl) rfl rfl ?_))))))
                 refine AS rfl rfl (NL ?_)
                 refine WQ.again3 (i + 2) (v67) (o ++ [unit x y]) ⟨rfl, rfl, rfl, rfl, trivial⟩ ?_ ?_
                 · exact ⟨by omega, by simp; omega, by rw [hdec, hd, hone, unsur, if_neg (by omega)]; simp, M, H, hp, hcell⟩
                 · omega
             · refine MV rfl rfl (GF rfl rfl rfl (GF rfl rfl rfl (PF rfl rfl rfl (NL (TN (CF rfl (SK (TN (RG (MV rfl rfl (MV rfl rfl (WR.lit (enc := encR) ty212 [_] H rfl (by rfl) (fun _ => rfl) rfl rfl (Wn.none rfl) rfl ?_))))))))))))
               intro v66 M w H hle hl66
               replace hp := hp.mono hle
               replace hcell := hcell.mono hle
               refine WR.appendSl ty212 (fun _ => rfl) H rfl (fun _ => by repeat first | exact .head | apply Upd.tail) rfl (by assumption) (by first | omega | (simp only [List.length_append, List.length_cons, List.length_nil, List.length_take, List.length_drop]; omega)) (by first | (simp only [maxLen]; omega) | (simp only [maxLen, List.length_append, List.length_cons, List.length_nil, List.length_take, List.length_drop]; omega)) (Wn.none rfl) rfl ?_
               intro v67 w H
               refine AS rfl rfl (NL (IB (TN (RG (MV rfl rfl (WR.stepE (v' := encN (i + 2)) (Ex.add64 rfl rfl (by omega)) rfl (Wn.none rfl) rfl rfl ?_))))))
               refine AS rfl rfl (NL ?_)
               refine WQ.again3 (i + 2) (v67) (o ++ [unit x y]) ⟨rfl, rfl, rfl, rfl, trivial⟩ ?_ ?_
               · exact ⟨by omega, by simp; omega, by rw [hdec, hd, hone, unsur, if_neg (by omega)]; simp, M, H, hp, hcell⟩
               · omega
         · have hone : decW (x :: y :: l.drop (i + 2)) = unsur (unit x y) :: decW (l.drop (i + 2)) := decW_one (by
            rintro ⟨_, c', d', r', hr, _⟩
            have := congrArg List.length hr
            rw [List.length_drop] at this
            simp at this
            omega)
           refine PT rfl rfl rfl (NL (TN (CF rfl (SK (TN (SQ (SQ (RG (MV rfl rfl ?_)))))))))
           refine WR.split (Ex.geq rfl rfl) (Wn.none rfl) rfl rfl (fun h14_1 => ?_) (fun h14_1 => ?_)
           · refine MV rfl rfl (SG (Ex.move rfl) rfl rfl rfl ?_)
             refine WR.split (Ex.lss rfl rfl) (Wn.some rfl rfl rfl) rfl rfl (fun h14_4 => ?_) (fun h14_4 => ?_)
             · refine PT rfl rfl rfl (NL (TN (CT rfl (RG (AS rfl rfl (NL (TN (RG (MV rfl rfl (MV rfl rfl (WR.lit (enc := encR) ty212 [_] H rfl (by rfl) (fun _ => rfl) rfl rfl (Wn.none rfl) rfl ?_)))))))))))
               intro v66 M w H hle hl66
               replace hp := hp.mono hle
               replace hcell := hcell.mono hle
               refine WR.appendSl ty212 (fun _ => rfl) H rfl (fun _ => by repeat first | exact .head | apply Upd.tail) rfl (by assumption) (by first | omega | (simp only [List.length_append, List.length_cons, List.length_nil, List.length_take, List.length_drop]; omega)) (by first | (simp only [maxLen]; omega) | (simp only [maxLen, List.length_append, List.length_cons, List.length_nil, List.length_take, List.length_drop]; omega)) (Wn.none rfl) rfl ?_
               intro v67 w H
               refine AS rfl rfl (NL (IB (TN (RG (MV rfl rfl (WR.stepE (v' := encN (i + 2)) (Ex.add64 rfl rfl (by omega)) rfl (Wn.none rfl) rfl rfl ?_))))))
               refine AS rfl rfl (NL ?_)
               refine WQ.again3 (i + 2) (v67) (o ++ [65533]) ⟨rfl, rfl, rfl, rfl, trivial⟩ ?_ ?_
               · exact ⟨by omega, by simp; omega, by rw [hdec, hd, hone, unsur, if_pos ⟨h14_1, h14_4⟩]; simp, M, H, hp, hcell⟩
               · omega
             · refine PT rfl rfl rfl (NL (TN (CF rfl (SK (TN (RG (MV rfl rfl (MV rfl rfl (WR.lit (enc := encR) ty212 [_] H rfl (by rfl) (fun _ => rfl) rfl rfl (Wn.none rfl) rfl ?_)))))))))
               intro v66 M w H hle hl66
               replace hp := hp.mono hle
               replace hcell := hcell.mono hle
               refine WR.appendSl ty212 (fun _ => rfl) H rfl (fun _ => by repeat first | exact .head | apply Upd.tail) rfl (by assumption) (by first | omega | (simp only [List.length_append, List.length_cons, List.length_nil, List.length_take, List.length_drop]; omega)) (by first | (simp only [maxLen]; omega) | (simp only [maxLen, List.length_append, List.length_cons, List.length_nil, List.length_take, List.length_drop]; omega)) (Wn.none rfl) rfl ?_
               intro v67 w H
               refine AS rfl rfl (NL (IB (TN (RG (MV rfl rfl (WR.stepE (v' := encN (i + 2)) (Ex.add64 rfl rfl (by omega)) rfl (Wn.none rfl) rfl rfl ?_))))))
               refine AS rfl rfl (NL ?_)
               refine WQ.again3 (i + 2) (v67) (o ++ [unit x y]) ⟨rfl, rfl, rfl, rfl, trivial⟩ ?_ ?_
               · exact ⟨by omega, by simp; omega, by rw [hdec, hd, hone, unsur, if_neg (by omega)]; simp, M, H, hp, hcell⟩
               · omega
           · refine MV rfl rfl (GF rfl rfl rfl (GF rfl rfl rfl (PF rfl rfl rfl (NL (TN (CF rfl (SK (TN (RG (MV rfl rfl (MV rfl rfl (WR.lit (enc := encR) ty212 [_] H rfl (by rfl) (fun _ => rfl) rfl rfl (Wn.none rfl) rfl ?_))))))))))))
             intro v66 M w H hle hl66
             replace hp := hp.mono hle
             replace hcell := hcell.mono hle
             refine WR.appendSl ty212 (fun _ => rfl) H rfl (fun _ => by repeat first | exact .head | apply Upd.tail) rfl (by assumption) (by first | omega | (simp only [List.length_append, List.length_cons, List.length_nil, List.length_take, List.length_drop]; omega)) (by first | (simp only [maxLen]; omega) | (simp only [maxLen, List.length_append, List.length_cons, List.length_nil, List.length_take, List.length_drop]; omega)) (Wn.none rfl) rfl ?_
             intro v67 w H
             refine AS rfl rfl (NL (IB (TN (RG (MV rfl rfl (WR.stepE (v' := encN (i + 2)) (Ex.add64 rfl rfl (by omega)) rfl (Wn.none rfl) rfl rfl ?_))))))
             refine AS rfl rfl (NL ?_)
             refine WQ.again3 (i + 2) (v67) (o ++ [unit x y]) ⟨rfl, rfl, rfl, rfl, trivial⟩ ?_ ?_
             · exact ⟨by omega, by simp; omega, by rw [hdec, hd, hone, unsur, if_neg (by omega)]; simp, M, H, hp, hcell⟩
             · omega
       · have hone : decW (x :: y :: l.drop (i + 2)) = unsur (unit x y) :: decW (l.drop (i + 2)) := decW_one (fun h => absurd h.1.2 h9_4)
         refine PT rfl rfl rfl (MV rfl rfl (GF rfl rfl rfl (GF rfl rfl rfl (GF rfl rfl rfl (GF rfl rfl rfl (GF rfl rfl rfl (PF rfl rfl rfl (NL (TN (CF rfl (SK (TN (SQ (SQ (RG (MV rfl rfl ?_))))))))))))))))
         refine WR.split (Ex.geq rfl rfl) (Wn.none rfl) rfl rfl (fun h14_1 => ?_) (fun h14_1 => ?_)
         · refine MV rfl rfl (SG (Ex.move rfl) rfl rfl rfl ?_)
           refine WR.split (Ex.lss rfl rfl) (Wn.some rfl rfl rfl) rfl rfl (fun h14_4 => ?_) (fun h14_4 => ?_)
           · refine PT rfl rfl rfl (NL (TN (CT rfl (RG (AS rfl rfl (NL (TN (RG (MV rfl rfl (MV rfl rfl (WR.lit (enc := encR) ty212 [_] H rfl (by rfl) (fun _ => rfl) rfl rfl (Wn.none rfl) rfl ?_)))))))))))
             intro v66 M w H hle hl66
             replace hp := hp.mono hle
             replace hcell := hcell.mono hle
             refine WR.appendSl ty212 (fun _ => rfl) H rfl (fun _ => by repeat first | exact .head | apply Upd.tail) rfl (by assumption) (by first | omega | (simp only [List.length_append, List.length_cons, List.length_nil, List.length_take, List.length_drop]; omega)) (by first | (simp only [maxLen]; omega) | (simp only [maxLen, List.length_append, List.length_cons, List.length_nil, List.length_take, List.length_drop]; omega)) (Wn.none rfl) rfl ?_
             intro v67 w H
             refine AS rfl rfl (NL (IB (TN (RG (MV rfl rfl (WR.stepE (v' := encN (i + 2)) (Ex.add64 rfl rfl (by omega)) rfl (Wn.none rfl) rfl rfl ?_))))))
             refine AS rfl rfl (NL ?_)
             refine WQ.again3 (i + 2) (v67) (o ++ [65533]) ⟨rfl, rfl, rfl, rfl, trivial⟩ ?_ ?_
             · exact ⟨by omega, by simp; omega, by rw [hdec, hd, hone, unsur, if_pos ⟨h14_1, h14_4⟩]; simp, M, H, hp, hcell⟩
             · omega
           · refine PT rfl rfl rfl (NL (TN (CF rfl (SK (TN (RG (MV rfl rfl (MV rfl rfl (WR.lit (enc := encR) ty212 [_] H rfl (by rfl) (fun _ => rfl) rfl rfl (Wn.none rfl) rfl ?_)))))))))
             intro v66 M w H hle hl66
             replace hp := hp.mono hle
             replace hcell := hcell.mono hle
             refine WR.appendSl ty212 (fun _ => rfl) H rfl (fun _ => by repeat first | exact .head | apply Upd.tail) rfl (by assumption) (by first | omega | (simp only [List.length_append, List.length_cons, List.length_nil, List.length_take, List.length_drop]; omega)) (by first | (simp only [maxLen]; omega) | (simp only [maxLen, List.length_append, List.length_cons, List.length_nil, List.length_take, List.length_drop]; omega)) (Wn.none rfl) rfl ?_
             intro v67 w H
             refine AS rfl rfl (NL (IB (TN (RG (MV rfl rfl (WR.stepE (v' := encN (i + 2)) (Ex.add64 rfl rfl (by omega)) rfl (Wn.none rfl) rfl rfl ?_))))))
             refine AS rfl rfl (NL ?_)
             refine WQ.again3 (i + 2) (v67) (o ++ [unit x y]) ⟨rfl, rfl, rfl, rfl, trivial⟩ ?_ ?_
             · exact ⟨by omega, by simp; omega, by rw [hdec, hd, hone, unsur, if_neg (by omega)]; simp, M, H, hp, hcell⟩
             · omega
         · refine MV rfl rfl (GF rfl rfl rfl (GF rfl rfl rfl (PF rfl rfl rfl (NL (TN (CF rfl (SK (TN (RG (MV rfl rfl (MV rfl rfl (WR.lit (enc := encR) ty212 [_] H rfl (by rfl) (fun _ => rfl) rfl rfl (Wn.none rfl) rfl ?_))))))))))))
           intro v66 M w H hle hl66
           replace hp := hp.mono hle
           replace hcell := hcell.mono hle
           refine WR.appendSl ty212 (fun _ => rfl) H rfl (fun _ => by repeat first | exact .head | apply Upd.tail) rfl (by assumption) (by first | omega | (simp only [List.length_append, List.length_cons, List.length_nil, List.length_take, List.length_drop]; omega)) (by first | (simp only [maxLen]; omega) | (simp only [maxLen, List.length_append, List.length_cons, List.length_nil, List.length_take, List.length_drop]; omega)) (Wn.none rfl) rfl ?_
           intro v67 w H
           refine AS rfl rfl (NL (IB (TN (RG (MV rfl rfl (WR.stepE (v' := encN (i + 2)) (Ex.add64 rfl rfl (by omega)) rfl (Wn.none rfl) rfl rfl ?_))))))
           refine AS rfl rfl (NL ?_)
           refine WQ.again3 (i + 2) (v67) (o ++ [unit x y]) ⟨rfl, rfl, rfl, rfl, trivial⟩ ?_ ?_
           · exact ⟨by omega, by simp; omega, by rw [hdec, hd, hone, unsur, if_neg (by omega)]; simp, M, H, hp, hcell⟩
           · omega
     · have hone : decW (x :: y :: l.drop (i + 2)) = unsur (unit x y) :: decW (l.drop (i + 2)) := decW_one (fun h => absurd h.1.1 h9_1)
       refine MV rfl rfl (GF rfl rfl rfl (GF rfl rfl rfl (PF rfl rfl rfl (MV rfl rfl (GF rfl rfl rfl (GF rfl rfl rfl (GF rfl rfl rfl (GF rfl rfl rfl (GF rfl rfl rfl (PF rfl rfl rfl (NL (TN (CF rfl (SK (TN (SQ (SQ (RG (MV rfl rfl ?_)))))))))))))))))))
       refine WR.split (Ex.geq rfl rfl) (Wn.none rfl) rfl rfl (fun h14_1 => ?_) (fun h14_1 => ?_)
       · refine MV rfl rfl (SG (Ex.move rfl) rfl rfl rfl ?_)
         refine WR.split (Ex.lss rfl rfl) (Wn.some rfl rfl rfl) rfl rfl (fun h14_4 => ?_) (fun h14_4 => ?_)
         · refine PT rfl rfl rfl (NL (TN (CT rfl (RG (AS rfl rfl (NL (TN (RG (MV rfl rfl (MV rfl rfl (WR.lit (enc := encR) ty212 [_] H rfl (by rfl) (fun _ => rfl) rfl rfl (Wn.none rfl) rfl ?_)))))))))))
           intro v66 M w H hle hl66
           replace hp := hp.mono hle
           replace hcell := hcell.mono hle
           refine WR.appendSl ty212 (fun _ => rfl) H rfl (fun _ => by repeat first | exact .head | apply Upd.tail) rfl (by assumption) (by first | omega | (simp only [List.length_append, List.length_cons, List.length_nil, List.length_take, List.length_drop]; omega)) (by first | (simp only [maxLen]; omega) | (simp only [maxLen, List.length_append, List.length_cons, List.length_nil, List.length_take, List.length_drop]; omega)) (Wn.none rfl) rfl ?_
           intro v67 w H
           refine AS rfl rfl (NL (IB (TN (RG (MV rfl rfl (WR.stepE (v' := encN (i + 2)) (Ex.add64 rfl rfl (by omega)) rfl (Wn.none rfl) rfl rfl ?_))))))
           refine AS rfl rfl (NL ?_)
           refine WQ.again3 (i + 2) (v67) (o ++ [65533]) ⟨rfl, rfl, rfl, rfl, trivial⟩ ?_ ?_
           · exact ⟨by omega, by simp; omega, by rw [hdec, hd, hone, unsur, if_pos ⟨h14_1, h14_4⟩]; simp, M, H, hp, hcell⟩
           · omega
         · refine PT rfl rfl rfl (NL (TN (CF rfl (SK (TN (RG (MV rfl rfl (MV rfl rfl (WR.lit (enc := encR) ty212 [_] H rfl (by rfl) (fun _ => rfl) rfl rfl (Wn.none rfl) rfl ?_)))))))))
           intro v66 M w H hle hl66
           replace hp := hp.mono hle
           replace hcell := hcell.mono hle
           refine WR.appendSl ty212 (fun _ => rfl) H rfl (fun _ => by repeat first | exact .head | apply Upd.tail) rfl (by assumption) (by first | omega | (simp only [List.length_append, List.length_cons, List.length_nil, List.length_take, List.length_drop]; omega)) (by first | (simp only [maxLen]; omega) | (simp only [maxLen, List.length_append, List.length_cons, List.length_nil, List.length_take, List.length_drop]; omega)) (Wn.none rfl) rfl ?_
           intro v67 w H
           refine AS rfl rfl (NL (IB (TN (RG (MV rfl rfl (WR.stepE (v' := encN (i + 2)) (Ex.add64 rfl rfl (by omega)) rfl (Wn.none rfl) rfl rfl ?_))))))
           refine AS rfl rfl (NL ?_)
           refine WQ.again3 (i + 2) (v67) (o ++ [unit x y]) ⟨rfl, rfl, rfl, rfl, trivial⟩ ?_ ?_
           · exact ⟨by omega, by simp; omega, by rw [hdec, hd, hone, unsur, if_neg (by omega)]; simp, M, H, hp, hcell⟩
           · omega
       · refine MV rfl rfl (GF rfl rfl rfl (GF rfl rfl rfl (PF rfl rfl rfl (NL (TN (CF rfl (SK (TN (RG (MV rfl rfl (MV rfl rfl (WR.lit (enc := encR) ty212 [_] H rfl (by rfl) (fun _ => rfl) rfl rfl (Wn.none rfl) rfl ?_))))))))))))
         intro v66 M w H hle hl66
         replace hp := hp.mono hle
         replace hcell := hcell.mono hle
         refine WR.appendSl ty212 (fun _ => rfl) H rfl (fun _ => by repeat first | exact .head | apply Upd.tail) rfl (by assumption) (by first | omega | (simp only [List.length_append, List.length_cons, List.length_nil, List.length_take, List.length_drop]; omega)) (by first | (simp only [maxLen]; omega) | (simp only [maxLen, List.length_append, List.length_cons, List.length_nil, List.length_take, List.length_drop]; omega)) (Wn.none rfl) rfl ?_
         intro v67 w H
         refine AS rfl rfl (NL (IB (TN (RG (MV rfl rfl (WR.stepE (v' := encN (i + 2)) (Ex.add64 rfl rfl (by omega)) rfl (Wn.none rfl) rfl rfl ?_))))))
         refine AS rfl rfl (NL ?_)
         refine WQ.again3 (i + 2) (v67) (o ++ [unit x y]) ⟨rfl, rfl, rfl, rfl, trivial⟩ ?_ ?_
         · exact ⟨by omega, by simp; omega, by rw [hdec, hd, hone, unsur, if_neg (by omega)]; simp, M, H, hp, hcell⟩
         · omega
 · have hend : decW l = o := by rw [hdec, List.drop_eq_nil_of_le (by omega)]; simp [decW]
   refine NL (TN (CF rfl (WC.exit (WQ.thenExit (WQ.thenExit (WQ.exitHere (TN (SQ (RG (MV rfl rfl (AS rfl rfl (NL (TN (RT ?_))))))))))))))
   obtain ⟨M, hle, hf, H⟩ := H.freezeRow (v := ov) (enc := encR) (t := 21) (by repeat first | exact .head | apply Rem.tail)
   refine WQ.ret1 rfl rfl H.ext ( ?_)
   rw [hend]
   exact hf
theorem single_spec (nm : List UInt8) (bound : Int) : Ct Tryz.prog 193 [S nm, encR bound] (fun _ => True) (fun r M => ∃ b, r = .agg #[S nm, .func (.func 213) #[] #[ptr b 0], .func (.func 214) #[] #[ptr b 0]] ∧ CellM M ⟨b, 0, none⟩ (encR bound)) := by
 refine Ct.of Tryz.func193 (enters Tryz.func193 (by kernel_rfl) rfl) rfl rfl rfl ?_
 intro w0 M0 H hp
 refine SQ (RG (WR.box [_] H rfl rfl (Wn.none rfl) rfl ?_))
 intro b3 w H
 refine WR.alloc [_, _, _] H Tryz.zeroValue188 rfl (Wn.none rfl) rfl ?_
 intro b4 w H
 refine NL (TN (SQ (RG (MV rfl rfl (ST (Ex.makeFunc rfl) rfl (ST (Ex.makeFunc rfl) rfl (ST (Ex.build [_, _, _] Tryz.underlying188 Tryz.zeroValue188 (places188 Tryz.underlying188) rfl rfl) rfl (WR.store [_, _, _] H rfl rfl rfl (by repeat first | exact .head | apply Upd.tail) Tryz.sizeOf188 rfl (by rfl) (by rfl) (Wn.none rfl) ?_))))))))
 intro w H
 refine NL (TN (RT ?_))
 obtain ⟨M, hle, hM, H⟩ := H.freezeBlk (b := b3) (by repeat first | exact .head | apply Rem.tail)
 refine WQ.ret1 rfl ⟨_, rfl, H.loadAgg (by repeat first | exact kMh | apply kMt) Tryz.isAgg188 Tryz.sizeOf188 (by rfl)⟩ H.ext ?_
 exact ⟨b3, rfl, rfl, _, _, _, hM, rfl⟩
theorem ty214 : ElemTy Tryz.prog 214 188 (.agg #[.string ⟨#[]⟩, .nilFunc, .nilFunc]) 3 32 := ElemTy.mk' Tryz.underlying214 (by kernel_rfl) rfl (by decide)
abbrev encT (s : Value × Value × Value) : List Value := [s.1, s.2.1, s.2.2]
def rowsV (b0 b1 : Nat) : List (Value × Value × Value) := [(S [97, 115, 99, 105, 105], .func (.func 213) #[] #[ptr b0 0], .func (.func 214) #[] #[ptr b0 0]), (S [108, 97, 116, 105, 110, 49], .func (.func 213) #[] #[ptr b1 0], .func (.func 214) #[] #[ptr b1 0]), (S [117, 116, 102, 56], .func (.func 194) #[] #[], .func (.func 195) #[] #[]), (S [117, 116, 102, 49, 54, 98, 101], .func (.func 197) #[] #[], .func (.func 198) #[] #[])]
theorem row_at (b0 b1 k : Nat) (hk : k < 4) : ∃ x dv fv, setN[k]? = some x ∧ (rowsV b0 b1)[k]? = some (S x, dv, fv) ∧ dv.oneCell' = true ∧ fv.oneCell' = true ∧ x.length ≤ 7 := by
 rcases k with _ | _ | _ | _ | k
 · exact ⟨_, _, _, rfl, rfl, rfl, rfl, by decide⟩
 · exact ⟨_, _, _, rfl, rfl, rfl, rfl, by decide⟩
 · exact ⟨_, _, _, rfl, rfl, rfl, rfl, by decide⟩
 · exact ⟨_, _, _, rfl, rfl, rfl, rfl, by decide⟩
 · omega
def found (b0 b1 : Nat) : Option Nat → Value
 | none => .tuple #[.agg #[S [], .nilFunc, .nilFunc], .bool false]
 | some k => match (rowsV b0 b1)[k]? with
   | some s => .tuple #[.agg (encT s).toArray, .bool true]
   | none => .tuple #[]
theorem find_spec (name : List UInt8) (hs : name.length ≤ maxLen) : Ct Tryz.prog 170 [S name] (fun _ => True) (fun r M => ∃ b0 b1, CellM M ⟨b0, 0, none⟩ (encR 128) ∧ CellM M ⟨b1, 0, none⟩ (encR 256) ∧ r = found b0 b1 (setOf name)) := by
 refine Ct.of Tryz.func170 (enters Tryz.func170 (by kernel_rfl) rfl) rfl rfl rfl ?_
 intro w0 M0 H hp
 refine SQ (RG (WR.alloc [_, _, _] H Tryz.zeroValue188 rfl (Wn.none rfl) rfl ?_))
 intro b2 w H
 refine AS rfl rfl (NL (TN (SQ (RG (WR.call H (single_spec _ _) rfl (trivial) (Wn.none rfl) rfl ?_)))))
 intro v7 M w H hle hr7
 obtain ⟨bb7, rfl, hcell7⟩ := hr7
 refine WR.call H (single_spec _ _) rfl (trivial) (Wn.none rfl) rfl ?_
 intro v8 M w H hle hr8
 replace hcell7 := hcell7.mono hle
 obtain ⟨bb8, rfl, hcell8⟩ := hr8
 refine WR.stepE (v' := .agg #[S [117, 116, 102, 56], .func (.func 194) #[] #[], .func (.func 195) #[] #[]]) (Ex.build [_, _, _] Tryz.underlying188 Tryz.zeroValue188 (places188 Tryz.underlying188) rfl rfl) rfl (Wn.none rfl) rfl rfl (WR.stepE (v' := .agg #[S [117, 116, 102, 49, 54, 98, 101], .func (.func 197) #[] #[], .func (.func 198) #[] #[]]) (Ex.build [_, _, _] Tryz.underlying188 Tryz.zeroValue188 (places188 Tryz.underlying188) rfl rfl) rfl (Wn.none rfl) rfl rfl (WR.litS (enc := encT) ty214 (rowsV bb7 bb8) H (fun _ => rfl) rfl (by kernel_rfl) rfl rfl rfl (Wn.none rfl) rfl ?_))
 intro v11 M w H hle hl11
 replace hcell7 := hcell7.mono hle
 replace hcell8 := hcell8.mono hle
 refine AS rfl rfl (NL (TN (SQ (SQ (RG (MV rfl rfl (WR.stepE (v' := I 4) (Ex.lenSlS Tryz.underlying214 (by assumption) rfl) rfl (Wn.none rfl) rfl rfl ?_)))))))
 refine MV rfl rfl (NL (TN (BL (WC.loop1 (fun (k : Nat) => [(0, S name), (2, ptr b2 0), (12, v11), (13, I 4), (14, encN k)]) (fun (k : Nat) w => k ≤ 4 ∧ setOf name = ((setN.drop k).findIdx? (same name)).map (· + k) ∧ ∃ M, St w0 M0 M [.blk b2 (.cells #[S [], .nilFunc, .nilFunc] 188)] w ∧ SlS M 3 encT v11 (rowsV bb7 bb8) ∧ CellM M ⟨bb7, 0, none⟩ (encR 128) ∧ CellM M ⟨bb8, 0, none⟩ (encR 256)) (fun (k : Nat) => 4 - k) (0) ⟨rfl, rfl, rfl, rfl, rfl, trivial⟩ (⟨by omega, by rw [List.drop_zero]; simp only [Nat.add_zero, Option.map_id']; rfl, M, H, hl11, hcell7, hcell8⟩) ?_))))
 intro k w
 rintro ⟨hk, hso, M, H, hl11, hcell7, hcell8⟩
 refine SQ (RG ?_)
 refine WR.split (Ex.lss rfl rfl) (Wn.none rfl) rfl rfl (fun h3_0 => ?_) (fun h3_0 => ?_)
 · obtain ⟨x, dv, fv, hx, hrow, hd1, hf1, hxl⟩ := row_at bb7 bb8 k (by omega)
   refine NL (TN (SQ (CT rfl (SK (TN (SQ (BL (SQ (RG (WR.idxSlS Tryz.underlying214 Tryz.sizeOf188 (by assumption) rfl rfl (hrow) (Wn.none rfl) rfl ?_))))))))))
   intro b16 o16 hc16
   first | refine WR.step (Ex.loadAgg H rfl (by repeat first | exact kMh | apply kMt) Tryz.isAgg188 Tryz.sizeOf188 (by rfl)) (Wn.none rfl) rfl rfl ?_ | refine WR.step (Ex.loadAggM H rfl (by assumption) Tryz.isAgg188 Tryz.sizeOf188 (by rfl)) (Wn.none rfl) rfl rfl ?_
   refine WR.alloc [_, _, _] H Tryz.zeroValue188 rfl (Wn.none rfl) rfl ?_
   intro b6 w H
   refine WR.store [S x, dv, fv] H rfl rfl rfl (by repeat first | exact .head | apply Upd.tail) Tryz.sizeOf188 rfl (by rfl) (by show (true && (dv.oneCell' && (fv.oneCell' && true))) = true; rw [hd1, hf1]; rfl) (Wn.none rfl) ?_
   intro w H
   refine NL (TN (SQ (RG (ST (Ex.fieldAddr Tryz.underlying188 rfl Tryz.sizeOf9 (by decide) rfl) rfl ?_))))
   first | refine WR.step (Ex.loadM H rfl (by assumption) Tryz.isAgg9) (Wn.none rfl) rfl rfl ?_ | refine WR.step (Ex.load1 H rfl (by repeat first | exact kMh | apply kMt) Tryz.isAgg9 (by rfl)) (Wn.none rfl) rfl rfl ?_
   refine MV rfl rfl ?_
   by_cases h5_3 : lower x = lower name
   · have hr := (setOf_from hso hx).1 h5_3
     refine WR.call H (Ct.mono (same_spec _ _ (by simp only [maxLen]; omega) hs) (R' := fun r _ => r = .bool true) (fun _ _ h => h.trans (congrArg Value.bool (decide_eq_true h5_3)))) rfl (trivial) (Wn.none rfl) rfl ?_
     intro v21 M w H hle hr21
     replace hl11 := hl11.mono hle
     replace hcell7 := hcell7.mono hle
     replace hcell8 := hcell8.mono hle
     replace hc16 := hc16.mono hle
     obtain rfl := hr21
     refine NL (TN (CT rfl (SQ (RG ?_))))
     first | refine WR.step (Ex.loadAgg H rfl (by repeat first | exact kMh | apply kMt) Tryz.isAgg188 Tryz.sizeOf188 (by rfl)) (Wn.none rfl) rfl rfl ?_ | refine WR.step (Ex.loadAggM H rfl (by assumption) Tryz.isAgg188 Tryz.sizeOf188 (by rfl)) (Wn.none rfl) rfl rfl ?_
     refine WR.store [S x, dv, fv] H rfl rfl rfl (by repeat first | exact .head | apply Upd.tail) Tryz.sizeOf188 rfl (by rfl) (by show (true && (dv.oneCell' && (fv.oneCell' && true))) = true; rw [hd1, hf1]; rfl) (Wn.none rfl) ?_
     intro w H
     refine AS rfl rfl (NL (TN (RT ?_)))
     refine WQ.ret2 rfl ⟨_, rfl, H.loadAgg (by repeat first | exact kMh | apply kMt) Tryz.isAgg188 Tryz.sizeOf188 (by rfl)⟩ rfl H.ext ?_
     exact ⟨_, _, hcell7, hcell8, by rw [hr, found, hrow]⟩
   · refine WR.call H (Ct.mono (same_spec _ _ (by simp only [maxLen]; omega) hs) (R' := fun r _ => r = .bool false) (fun _ _ h => h.trans (congrArg Value.bool (decide_eq_false h5_3)))) rfl (trivial) (Wn.none rfl) rfl ?_
     intro v21 M w H hle hr21
     replace hl11 := hl11.mono hle
     replace hcell7 := hcell7.mono hle
     replace hcell8 := hcell8.mono hle
     replace hc16 := hc16.mono hle
     obtain rfl := hr21
     refine NL (TN (CF rfl (SK (IB (TN (RG (WR.stepE (v' := encN (k + 1)) (Ex.add64 rfl rfl (by omega)) rfl (Wn.none rfl) rfl rfl ?_)))))))
     refine MV rfl rfl (NL ?_)
     refine WQ.again1 (k + 1) ⟨rfl, rfl, rfl, rfl, rfl, trivial⟩ ?_ ?_
     · exact ⟨by omega, (setOf_from hso hx).2 h5_3, M, H.drop (List.sublist_cons_self _ _), hl11, hcell7, hcell8⟩
     · omega
 · have hr : setOf name = none := by rw [hso, List.drop_eq_nil_of_le (show setN.length ≤ k by show 4 ≤ k; omega)]; rfl
   refine NL (TN (SQ (CF rfl (WC.exit (WQ.thenExit (WQ.thenExit (WQ.exitHere (TN (SQ (RG (ST (Ex.build [_, _, _] Tryz.underlying188 Tryz.zeroValue188 (places188 Tryz.underlying188) rfl rfl) rfl (WR.store [_, _, _] H rfl rfl rfl (by repeat first | exact .head | apply Upd.tail) Tryz.sizeOf188 rfl (by rfl) (by rfl) (Wn.none rfl) ?_))))))))))))
   intro w H
   refine AS rfl rfl (NL (TN (RT ?_)))
   refine WQ.ret2 rfl ⟨_, rfl, H.loadAgg (by repeat first | exact kMh | apply kMt) Tryz.isAgg188 Tryz.sizeOf188 (by rfl)⟩ rfl H.ext ?_
   exact ⟨_, _, hcell7, hcell8, by rw [hr, found]⟩
end Go.Proofs.YtkmjdamkifbddaaGreatDoor
end
section
namespace Go.Proofs.YtkmjdamkifbddaaGreatDoor
open Go Go.RowKit Go.Ph
open Go.Ph.Gr Go.Ph.Utf Go.Ph.Chs
theorem decode_unk (name : List UInt8) (v : Value) (l : List UInt8) (hn : name.length ≤ maxLen) (hs : l.length ≤ 12000) (hk : setOf name = none) : Ct Tryz.prog 186 [S name, v] (fun M => Bs M v l) (fun r _ => r = .tuple #[S [], fault 18 (-2)]) := by
 refine Ct.of Tryz.func186 (enters Tryz.func186 (by kernel_rfl) rfl) rfl rfl rfl ?_
 intro w0 M0 H hp
 refine SQ (RG (AS rfl rfl (WR.alloc [_, _] H Tryz.zeroValue27 rfl (Wn.none rfl) rfl ?_)))
 intro b5 w H
 refine NL (TN (SQ (SQ (RG (MV rfl rfl ?_)))))
 first | refine WR.step (Ex.lenSl Tryz.underlying88 (by assumption) rfl) (Wn.none rfl) rfl rfl ?_ | refine WR.step (Ex.lenRow Tryz.underlying88 H (by repeat first | exact kMh | apply kMt) rfl) (Wn.none rfl) rfl rfl ?_ | refine WR.step (Ex.lenSlice Tryz.underlying88 rfl) (Wn.none rfl) rfl rfl ?_
 refine WR.stepF (Ex.gtr rfl rfl) (by omega) (Wn.none rfl) rfl rfl ?_
 refine NL (TN (CF rfl (SK (TN (SQ (RG (MV rfl rfl (WR.call H (Ct.mono (find_spec name hn) (R' := fun r M => ∃ b0 b1, CellM M ⟨b0, 0, none⟩ (encR 128) ∧ CellM M ⟨b1, 0, none⟩ (encR 256) ∧ r = .tuple #[.agg #[S [], .nilFunc, .nilFunc], .bool false]) (fun _ _ ⟨b0, b1, h0, h1, h⟩ => ⟨b0, b1, h0, h1, by rw [hk] at h; exact h⟩)) rfl (trivial) (Wn.none rfl) rfl ?_))))))))
 intro v14 M w H hle hr14
 replace hp := hp.mono hle
 obtain ⟨b0, b1, hc0, hc1, rfl⟩ := hr14
 refine MV rfl rfl (ST (Ex.extract rfl rfl) rfl (ST (Ex.extract rfl rfl) rfl (WR.alloc [_, _, _] H Tryz.zeroValue188 rfl (Wn.none rfl) rfl ?_)))
 intro b6 w H
 refine WR.store [_, _, _] H rfl rfl rfl (by repeat first | exact .head | apply Upd.tail) Tryz.sizeOf188 rfl (by rfl) (by rfl) (Wn.none rfl) ?_
 intro w H
 refine AS rfl rfl (NL (TN (SQ (SQ (RG (MV rfl rfl (ST (Ex.notF rfl) rfl (NL (TN (CT rfl (SQ (RG (WR.call H (fault_spec _ _) rfl (trivial) (Wn.none rfl) rfl ?_)))))))))))))
 intro v19 M w H hle hr19
 replace hp := hp.mono hle
 replace hc0 := hc0.mono hle
 replace hc1 := hc1.mono hle
 obtain rfl := hr19
 refine AS rfl rfl (WR.store [_, _] H rfl rfl rfl (by repeat first | exact .head | apply Upd.tail) Tryz.sizeOf27 rfl (by rfl) (by rfl) (Wn.none rfl) ?_)
 intro w H
 refine NL (TN (RT ?_))
 refine WQ.ret2 rfl rfl ⟨_, rfl, H.loadAgg (by repeat first | exact kMh | apply kMt) Tryz.isAgg27 Tryz.sizeOf27 (by rfl)⟩ H.ext ?_
 exact rfl
theorem decode_0 (name : List UInt8) (v : Value) (l : List UInt8) (hn : name.length ≤ maxLen) (hs : l.length ≤ 12000) (hk : setOf name = some 0) : Ct Tryz.prog 186 [S name, v] (fun M => Bs M v l) (fun r _ => r = .tuple #[S (decoded 0 l), fault 0 0]) := by
 refine Ct.of Tryz.func186 (enters Tryz.func186 (by kernel_rfl) rfl) rfl rfl rfl ?_
 intro w0 M0 H hp
 refine SQ (RG (AS rfl rfl (WR.alloc [_, _] H Tryz.zeroValue27 rfl (Wn.none rfl) rfl ?_)))
 intro b5 w H
 refine NL (TN (SQ (SQ (RG (MV rfl rfl ?_)))))
 first | refine WR.step (Ex.lenSl Tryz.underlying88 (by assumption) rfl) (Wn.none rfl) rfl rfl ?_ | refine WR.step (Ex.lenRow Tryz.underlying88 H (by repeat first | exact kMh | apply kMt) rfl) (Wn.none rfl) rfl rfl ?_ | refine WR.step (Ex.lenSlice Tryz.underlying88 rfl) (Wn.none rfl) rfl rfl ?_
 refine WR.stepF (Ex.gtr rfl rfl) (by omega) (Wn.none rfl) rfl rfl ?_
 refine NL (TN (CF rfl (SK (TN (SQ (RG (MV rfl rfl (WR.call H (Ct.mono (find_spec name hn) (R' := fun r M => ∃ b0 b1, CellM M ⟨b0, 0, none⟩ (encR 128) ∧ CellM M ⟨b1, 0, none⟩ (encR 256) ∧ r = .tuple #[.agg #[S [97, 115, 99, 105, 105], .func (.func 213) #[] #[ptr b0 0], .func (.func 214) #[] #[ptr b0 0]], .bool true]) (fun _ _ ⟨b0, b1, h0, h1, h⟩ => ⟨b0, b1, h0, h1, by rw [hk] at h; exact h⟩)) rfl (trivial) (Wn.none rfl) rfl ?_))))))))
 intro v14 M w H hle hr14
 replace hp := hp.mono hle
 obtain ⟨b0, b1, hc0, hc1, rfl⟩ := hr14
 refine MV rfl rfl (ST (Ex.extract rfl rfl) rfl (ST (Ex.extract rfl rfl) rfl (WR.alloc [_, _, _] H Tryz.zeroValue188 rfl (Wn.none rfl) rfl ?_)))
 intro b6 w H
 refine WR.store [_, _, _] H rfl rfl rfl (by repeat first | exact .head | apply Upd.tail) Tryz.sizeOf188 rfl (by rfl) (by rfl) (Wn.none rfl) ?_
 intro w H
 refine AS rfl rfl (NL (TN (SQ (SQ (RG (MV rfl rfl (ST (Ex.notT rfl) rfl (NL (TN (CF rfl (SK (TN (SQ (WC.draw (m := 8) rfl rfl H ?_))))))))))))))
 intro w H
 refine WA.take (i := 0) rfl (by kernel_rfl) (by kernel_rfl) (by kernel_rfl) (fun _ => Ex.fieldAddr Tryz.underlying188 rfl Tryz.sizeOf185 (by decide) rfl) (Wn.none rfl) rfl rfl (fun _ _ => rfl) (WA.take (i := 2) rfl (by kernel_rfl) (by kernel_rfl) (by kernel_rfl) (fun _ => Ex.move rfl) (Wn.none rfl) rfl rfl (fun _ _ => rfl) (ON 1 (by kernel_rfl) rfl ?_))
 first | refine WR.step (Ex.loadM H rfl (by assumption) Tryz.isAgg185) (Wn.none rfl) rfl rfl ?_ | refine WR.step (Ex.load1 H rfl (by repeat first | exact kMh | apply kMt) Tryz.isAgg185 (by rfl)) (Wn.none rfl) rfl rfl ?_
 refine NA (ON 3 (by kernel_rfl) rfl (WR.callV (cap := [ptr b0 0]) H (dec1_spec _ l b0 128 (by omega)) rfl rfl (⟨by assumption, by assumption⟩) (Wn.none rfl) rfl ?_))
 intro v23 M w H hle hr23
 replace hp := hp.mono hle
 replace hc0 := hc0.mono hle
 replace hc1 := hc1.mono hle
 have hf23 := hr23
 refine NA ?_
 refine WA.two (i := 4) (j := 5) (by kernel_rfl) rfl rfl ?_ ?_
 · refine ST (Ex.runesStr Tryz.underlying212 Tryz.underlying21 Tryz.underlying9 H (by assumption) rfl) rfl ?_
   refine NA (ON 5 (by kernel_rfl) rfl (WR.call H (none_spec) rfl (trivial) (Wn.none rfl) rfl ?_))
   intro v25 M w H hle hr25
   replace hp := hp.mono hle
   replace hc0 := hc0.mono hle
   replace hc1 := hc1.mono hle
   replace hf23 := hf23.mono hle
   obtain rfl := hr25
   refine NA (ON 6 (by kernel_rfl) rfl (AS rfl rfl (NA (ON 7 (by kernel_rfl) rfl (WR.store [_, _] H rfl rfl rfl (by repeat first | exact .head | apply Upd.tail) Tryz.sizeOf27 rfl (by rfl) (by rfl) (Wn.none rfl) ?_)))))
   intro w H
   refine NA (WA.done (by kernel_rfl) (TN (RT ?_)))
   refine WQ.ret2 rfl rfl ⟨_, rfl, H.loadAgg (by repeat first | exact kMh | apply kMt) Tryz.isAgg27 Tryz.sizeOf27 (by rfl)⟩ H.ext ?_
   exact rfl
 · refine WR.call H (none_spec) rfl (trivial) (Wn.none rfl) rfl ?_
   intro v25 M w H hle hr25
   replace hp := hp.mono hle
   replace hc0 := hc0.mono hle
   replace hc1 := hc1.mono hle
   replace hf23 := hf23.mono hle
   obtain rfl := hr25
   refine NA (ON 4 (by kernel_rfl) rfl (ST (Ex.runesStr Tryz.underlying212 Tryz.underlying21 Tryz.underlying9 H (by assumption) rfl) rfl ?_))
   refine NA (ON 6 (by kernel_rfl) rfl (AS rfl rfl (NA (ON 7 (by kernel_rfl) rfl (WR.store [_, _] H rfl rfl rfl (by repeat first | exact .head | apply Upd.tail) Tryz.sizeOf27 rfl (by rfl) (by rfl) (Wn.none rfl) ?_)))))
   intro w H
   refine NA (WA.done (by kernel_rfl) (TN (RT ?_)))
   refine WQ.ret2 rfl rfl ⟨_, rfl, H.loadAgg (by repeat first | exact kMh | apply kMt) Tryz.isAgg27 Tryz.sizeOf27 (by rfl)⟩ H.ext ?_
   exact rfl
theorem decode_1 (name : List UInt8) (v : Value) (l : List UInt8) (hn : name.length ≤ maxLen) (hs : l.length ≤ 12000) (hk : setOf name = some 1) : Ct Tryz.prog 186 [S name, v] (fun M => Bs M v l) (fun r _ => r = .tuple #[S (decoded 1 l), fault 0 0]) := by
 refine Ct.of Tryz.func186 (enters Tryz.func186 (by kernel_rfl) rfl) rfl rfl rfl ?_
 intro w0 M0 H hp
 refine SQ (RG (AS rfl rfl (WR.alloc [_, _] H Tryz.zeroValue27 rfl (Wn.none rfl) rfl ?_)))
 intro b5 w H
 refine NL (TN (SQ (SQ (RG (MV rfl rfl ?_)))))
 first | refine WR.step (Ex.lenSl Tryz.underlying88 (by assumption) rfl) (Wn.none rfl) rfl rfl ?_ | refine WR.step (Ex.lenRow Tryz.underlying88 H (by repeat first | exact kMh | apply kMt) rfl) (Wn.none rfl) rfl rfl ?_ | refine WR.step (Ex.lenSlice Tryz.underlying88 rfl) (Wn.none rfl) rfl rfl ?_
 refine WR.stepF (Ex.gtr rfl rfl) (by omega) (Wn.none rfl) rfl rfl ?_
 refine NL (TN (CF rfl (SK (TN (SQ (RG (MV rfl rfl (WR.call H (Ct.mono (find_spec name hn) (R' := fun r M => ∃ b0 b1, CellM M ⟨b0, 0, none⟩ (encR 128) ∧ CellM M ⟨b1, 0, none⟩ (encR 256) ∧ r = .tuple #[.agg #[S [108, 97, 116, 105, 110, 49], .func (.func 213) #[] #[ptr b1 0], .func (.func 214) #[] #[ptr b1 0]], .bool true]) (fun _ _ ⟨b0, b1, h0, h1, h⟩ => ⟨b0, b1, h0, h1, by rw [hk] at h; exact h⟩)) rfl (trivial) (Wn.none rfl) rfl ?_))))))))
 intro v14 M w H hle hr14
 replace hp := hp.mono hle
 obtain ⟨b0, b1, hc0, hc1, rfl⟩ := hr14
 refine MV rfl rfl (ST (Ex.extract rfl rfl) rfl (ST (Ex.extract rfl rfl) rfl (WR.alloc [_, _, _] H Tryz.zeroValue188 rfl (Wn.none rfl) rfl ?_)))
 intro b6 w H
 refine WR.store [_, _, _] H rfl rfl rfl (by repeat first | exact .head | apply Upd.tail) Tryz.sizeOf188 rfl (by rfl) (by rfl) (Wn.none rfl) ?_
 intro w H
 refine AS rfl rfl (NL (TN (SQ (SQ (RG (MV rfl rfl (ST (Ex.notT rfl) rfl (NL (TN (CF rfl (SK (TN (SQ (WC.draw (m := 8) rfl rfl H ?_))))))))))))))
 intro w H
 refine WA.take (i := 0) rfl (by kernel_rfl) (by kernel_rfl) (by kernel_rfl) (fun _ => Ex.fieldAddr Tryz.underlying188 rfl Tryz.sizeOf185 (by decide) rfl) (Wn.none rfl) rfl rfl (fun _ _ => rfl) (WA.take (i := 2) rfl (by kernel_rfl) (by kernel_rfl) (by kernel_rfl) (fun _ => Ex.move rfl) (Wn.none rfl) rfl rfl (fun _ _ => rfl) (ON 1 (by kernel_rfl) rfl ?_))
 first | refine WR.step (Ex.loadM H rfl (by assumption) Tryz.isAgg185) (Wn.none rfl) rfl rfl ?_ | refine WR.step (Ex.load1 H rfl (by repeat first | exact kMh | apply kMt) Tryz.isAgg185 (by rfl)) (Wn.none rfl) rfl rfl ?_
 refine NA (ON 3 (by kernel_rfl) rfl (WR.callV (cap := [ptr b1 0]) H (dec1_spec _ l b1 256 (by omega)) rfl rfl (⟨by assumption, by assumption⟩) (Wn.none rfl) rfl ?_))
 intro v23 M w H hle hr23
 replace hp := hp.mono hle
 replace hc0 := hc0.mono hle
 replace hc1 := hc1.mono hle
 have hf23 := hr23
 refine NA ?_
 refine WA.two (i := 4) (j := 5) (by kernel_rfl) rfl rfl ?_ ?_
 · refine ST (Ex.runesStr Tryz.underlying212 Tryz.underlying21 Tryz.underlying9 H (by assumption) rfl) rfl ?_
   refine NA (ON 5 (by kernel_rfl) rfl (WR.call H (none_spec) rfl (trivial) (Wn.none rfl) rfl ?_))
   intro v25 M w H hle hr25
   replace hp := hp.mono hle
   replace hc0 := hc0.mono hle
   replace hc1 := hc1.mono hle
   replace hf23 := hf23.mono hle
   obtain rfl := hr25
   refine NA (ON 6 (by kernel_rfl) rfl (AS rfl rfl (NA (ON 7 (by kernel_rfl) rfl (WR.store [_, _] H rfl rfl rfl (by repeat first | exact .head | apply Upd.tail) Tryz.sizeOf27 rfl (by rfl) (by rfl) (Wn.none rfl) ?_)))))
   intro w H
   refine NA (WA.done (by kernel_rfl) (TN (RT ?_)))
   refine WQ.ret2 rfl rfl ⟨_, rfl, H.loadAgg (by repeat first | exact kMh | apply kMt) Tryz.isAgg27 Tryz.sizeOf27 (by rfl)⟩ H.ext ?_
   exact rfl
 · refine WR.call H (none_spec) rfl (trivial) (Wn.none rfl) rfl ?_
   intro v25 M w H hle hr25
   replace hp := hp.mono hle
   replace hc0 := hc0.mono hle
   replace hc1 := hc1.mono hle
   replace hf23 := hf23.mono hle
   obtain rfl := hr25
   refine NA (ON 4 (by kernel_rfl) rfl (ST (Ex.runesStr Tryz.underlying212 Tryz.underlying21 Tryz.underlying9 H (by assumption) rfl) rfl ?_))
   refine NA (ON 6 (by kernel_rfl) rfl (AS rfl rfl (NA (ON 7 (by kernel_rfl) rfl (WR.store [_, _] H rfl rfl rfl (by repeat first | exact .head | apply Upd.tail) Tryz.sizeOf27 rfl (by rfl) (by rfl) (Wn.none rfl) ?_)))))
   intro w H
   refine NA (WA.done (by kernel_rfl) (TN (RT ?_)))
   refine WQ.ret2 rfl rfl ⟨_, rfl, H.loadAgg (by repeat first | exact kMh | apply kMt) Tryz.isAgg27 Tryz.sizeOf27 (by rfl)⟩ H.ext ?_
   exact rfl
theorem decode_2 (name : List UInt8) (v : Value) (l : List UInt8) (hn : name.length ≤ maxLen) (hs : l.length ≤ 12000) (hk : setOf name = some 2) : Ct Tryz.prog 186 [S name, v] (fun M => Bs M v l) (fun r _ => r = .tuple #[S (decoded 2 l), fault 0 0]) := by
 refine Ct.of Tryz.func186 (enters Tryz.func186 (by kernel_rfl) rfl) rfl rfl rfl ?_
 intro w0 M0 H hp
 refine SQ (RG (AS rfl rfl (WR.alloc [_, _] H Tryz.zeroValue27 rfl (Wn.none rfl) rfl ?_)))
 intro b5 w H
 refine NL (TN (SQ (SQ (RG (MV rfl rfl ?_)))))
 first | refine WR.step (Ex.lenSl Tryz.underlying88 (by assumption) rfl) (Wn.none rfl) rfl rfl ?_ | refine WR.step (Ex.lenRow Tryz.underlying88 H (by repeat first | exact kMh | apply kMt) rfl) (Wn.none rfl) rfl rfl ?_ | refine WR.step (Ex.lenSlice Tryz.underlying88 rfl) (Wn.none rfl) rfl rfl ?_
 refine WR.stepF (Ex.gtr rfl rfl) (by omega) (Wn.none rfl) rfl rfl ?_
 refine NL (TN (CF rfl (SK (TN (SQ (RG (MV rfl rfl (WR.call H (Ct.mono (find_spec name hn) (R' := fun r M => ∃ b0 b1, CellM M ⟨b0, 0, none⟩ (encR 128) ∧ CellM M ⟨b1, 0, none⟩ (encR 256) ∧ r = .tuple #[.agg #[S [117, 116, 102, 56], .func (.func 194) #[] #[], .func (.func 195) #[] #[]], .bool true]) (fun _ _ ⟨b0, b1, h0, h1, h⟩ => ⟨b0, b1, h0, h1, by rw [hk] at h; exact h⟩)) rfl (trivial) (Wn.none rfl) rfl ?_))))))))
 intro v14 M w H hle hr14
 replace hp := hp.mono hle
 obtain ⟨b0, b1, hc0, hc1, rfl⟩ := hr14
 refine MV rfl rfl (ST (Ex.extract rfl rfl) rfl (ST (Ex.extract rfl rfl) rfl (WR.alloc [_, _, _] H Tryz.zeroValue188 rfl (Wn.none rfl) rfl ?_)))
 intro b6 w H
 refine WR.store [_, _, _] H rfl rfl rfl (by repeat first | exact .head | apply Upd.tail) Tryz.sizeOf188 rfl (by rfl) (by rfl) (Wn.none rfl) ?_
 intro w H
 refine AS rfl rfl (NL (TN (SQ (SQ (RG (MV rfl rfl (ST (Ex.notT rfl) rfl (NL (TN (CF rfl (SK (TN (SQ (WC.draw (m := 8) rfl rfl H ?_))))))))))))))
 intro w H
 refine WA.take (i := 0) rfl (by kernel_rfl) (by kernel_rfl) (by kernel_rfl) (fun _ => Ex.fieldAddr Tryz.underlying188 rfl Tryz.sizeOf185 (by decide) rfl) (Wn.none rfl) rfl rfl (fun _ _ => rfl) (WA.take (i := 2) rfl (by kernel_rfl) (by kernel_rfl) (by kernel_rfl) (fun _ => Ex.move rfl) (Wn.none rfl) rfl rfl (fun _ _ => rfl) (ON 1 (by kernel_rfl) rfl ?_))
 first | refine WR.step (Ex.loadM H rfl (by assumption) Tryz.isAgg185) (Wn.none rfl) rfl rfl ?_ | refine WR.step (Ex.load1 H rfl (by repeat first | exact kMh | apply kMt) Tryz.isAgg185 (by rfl)) (Wn.none rfl) rfl rfl ?_
 refine NA (ON 3 (by kernel_rfl) rfl (WR.callV (cap := []) H (decU_spec _ l (by omega)) rfl rfl (by assumption) (Wn.none rfl) rfl ?_))
 intro v23 M w H hle hr23
 replace hp := hp.mono hle
 replace hc0 := hc0.mono hle
 replace hc1 := hc1.mono hle
 have hf23 := hr23
 refine NA ?_
 refine WA.two (i := 4) (j := 5) (by kernel_rfl) rfl rfl ?_ ?_
 · refine ST (Ex.runesStr Tryz.underlying212 Tryz.underlying21 Tryz.underlying9 H (by assumption) rfl) rfl ?_
   refine NA (ON 5 (by kernel_rfl) rfl (WR.call H (none_spec) rfl (trivial) (Wn.none rfl) rfl ?_))
   intro v25 M w H hle hr25
   replace hp := hp.mono hle
   replace hc0 := hc0.mono hle
   replace hc1 := hc1.mono hle
   replace hf23 := hf23.mono hle
   obtain rfl := hr25
   refine NA (ON 6 (by kernel_rfl) rfl (AS rfl rfl (NA (ON 7 (by kernel_rfl) rfl (WR.store [_, _] H rfl rfl rfl (by repeat first | exact .head | apply Upd.tail) Tryz.sizeOf27 rfl (by rfl) (by rfl) (Wn.none rfl) ?_)))))
   intro w H
   refine NA (WA.done (by kernel_rfl) (TN (RT ?_)))
   refine WQ.ret2 rfl rfl ⟨_, rfl, H.loadAgg (by repeat first | exact kMh | apply kMt) Tryz.isAgg27 Tryz.sizeOf27 (by rfl)⟩ H.ext ?_
   exact rfl
 · refine WR.call H (none_spec) rfl (trivial) (Wn.none rfl) rfl ?_
   intro v25 M w H hle hr25
   replace hp := hp.mono hle
   replace hc0 := hc0.mono hle
   replace hc1 := hc1.mono hle
   replace hf23 := hf23.mono hle
   obtain rfl := hr25
   refine NA (ON 4 (by kernel_rfl) rfl (ST (Ex.runesStr Tryz.underlying212 Tryz.underlying21 Tryz.underlying9 H (by assumption) rfl) rfl ?_))
   refine NA (ON 6 (by kernel_rfl) rfl (AS rfl rfl (NA (ON 7 (by kernel_rfl) rfl (WR.store [_, _] H rfl rfl rfl (by repeat first | exact .head | apply Upd.tail) Tryz.sizeOf27 rfl (by rfl) (by rfl) (Wn.none rfl) ?_)))))
   intro w H
   refine NA (WA.done (by kernel_rfl) (TN (RT ?_)))
   refine WQ.ret2 rfl rfl ⟨_, rfl, H.loadAgg (by repeat first | exact kMh | apply kMt) Tryz.isAgg27 Tryz.sizeOf27 (by rfl)⟩ H.ext ?_
   exact rfl
theorem decode_3 (name : List UInt8) (v : Value) (l : List UInt8) (hn : name.length ≤ maxLen) (hs : l.length ≤ 12000) (hk : setOf name = some 3) : Ct Tryz.prog 186 [S name, v] (fun M => Bs M v l) (fun r _ => r = .tuple #[S (decoded 3 l), fault 0 0]) := by
 refine Ct.of Tryz.func186 (enters Tryz.func186 (by kernel_rfl) rfl) rfl rfl rfl ?_
 intro w0 M0 H hp
 refine SQ (RG (AS rfl rfl (WR.alloc [_, _] H Tryz.zeroValue27 rfl (Wn.none rfl) rfl ?_)))
 intro b5 w H
 refine NL (TN (SQ (SQ (RG (MV rfl rfl ?_)))))
 first | refine WR.step (Ex.lenSl Tryz.underlying88 (by assumption) rfl) (Wn.none rfl) rfl rfl ?_ | refine WR.step (Ex.lenRow Tryz.underlying88 H (by repeat first | exact kMh | apply kMt) rfl) (Wn.none rfl) rfl rfl ?_ | refine WR.step (Ex.lenSlice Tryz.underlying88 rfl) (Wn.none rfl) rfl rfl ?_
 refine WR.stepF (Ex.gtr rfl rfl) (by omega) (Wn.none rfl) rfl rfl ?_
 refine NL (TN (CF rfl (SK (TN (SQ (RG (MV rfl rfl (WR.call H (Ct.mono (find_spec name hn) (R' := fun r M => ∃ b0 b1, CellM M ⟨b0, 0, none⟩ (encR 128) ∧ CellM M ⟨b1, 0, none⟩ (encR 256) ∧ r = .tuple #[.agg #[S [117, 116, 102, 49, 54, 98, 101], .func (.func 197) #[] #[], .func (.func 198) #[] #[]], .bool true]) (fun _ _ ⟨b0, b1, h0, h1, h⟩ => ⟨b0, b1, h0, h1, by rw [hk] at h; exact h⟩)) rfl (trivial) (Wn.none rfl) rfl ?_))))))))
 intro v14 M w H hle hr14
 replace hp := hp.mono hle
 obtain ⟨b0, b1, hc0, hc1, rfl⟩ := hr14
 refine MV rfl rfl (ST (Ex.extract rfl rfl) rfl (ST (Ex.extract rfl rfl) rfl (WR.alloc [_, _, _] H Tryz.zeroValue188 rfl (Wn.none rfl) rfl ?_)))
 intro b6 w H
 refine WR.store [_, _, _] H rfl rfl rfl (by repeat first | exact .head | apply Upd.tail) Tryz.sizeOf188 rfl (by rfl) (by rfl) (Wn.none rfl) ?_
 intro w H
 refine AS rfl rfl (NL (TN (SQ (SQ (RG (MV rfl rfl (ST (Ex.notT rfl) rfl (NL (TN (CF rfl (SK (TN (SQ (WC.draw (m := 8) rfl rfl H ?_))))))))))))))
 intro w H
 refine WA.take (i := 0) rfl (by kernel_rfl) (by kernel_rfl) (by kernel_rfl) (fun _ => Ex.fieldAddr Tryz.underlying188 rfl Tryz.sizeOf185 (by decide) rfl) (Wn.none rfl) rfl rfl (fun _ _ => rfl) (WA.take (i := 2) rfl (by kernel_rfl) (by kernel_rfl) (by kernel_rfl) (fun _ => Ex.move rfl) (Wn.none rfl) rfl rfl (fun _ _ => rfl) (ON 1 (by kernel_rfl) rfl ?_))
 first | refine WR.step (Ex.loadM H rfl (by assumption) Tryz.isAgg185) (Wn.none rfl) rfl rfl ?_ | refine WR.step (Ex.load1 H rfl (by repeat first | exact kMh | apply kMt) Tryz.isAgg185 (by rfl)) (Wn.none rfl) rfl rfl ?_
 refine NA (ON 3 (by kernel_rfl) rfl (WR.callV (cap := []) H (units_spec _ l (by omega)) rfl rfl (by assumption) (Wn.none rfl) rfl ?_))
 intro v23 M w H hle hr23
 replace hp := hp.mono hle
 replace hc0 := hc0.mono hle
 replace hc1 := hc1.mono hle
 have hf23 := hr23
 refine NA ?_
 refine WA.two (i := 4) (j := 5) (by kernel_rfl) rfl rfl ?_ ?_
 · refine ST (Ex.runesStr Tryz.underlying212 Tryz.underlying21 Tryz.underlying9 H (by assumption) rfl) rfl ?_
   refine NA (ON 5 (by kernel_rfl) rfl (WR.call H (none_spec) rfl (trivial) (Wn.none rfl) rfl ?_))
   intro v25 M w H hle hr25
   replace hp := hp.mono hle
   replace hc0 := hc0.mono hle
   replace hc1 := hc1.mono hle
   replace hf23 := hf23.mono hle
   obtain rfl := hr25
   refine NA (ON 6 (by kernel_rfl) rfl (AS rfl rfl (NA (ON 7 (by kernel_rfl) rfl (WR.store [_, _] H rfl rfl rfl (by repeat first | exact .head | apply Upd.tail) Tryz.sizeOf27 rfl (by rfl) (by rfl) (Wn.none rfl) ?_)))))
   intro w H
   refine NA (WA.done (by kernel_rfl) (TN (RT ?_)))
   refine WQ.ret2 rfl rfl ⟨_, rfl, H.loadAgg (by repeat first | exact kMh | apply kMt) Tryz.isAgg27 Tryz.sizeOf27 (by rfl)⟩ H.ext ?_
   exact rfl
 · refine WR.call H (none_spec) rfl (trivial) (Wn.none rfl) rfl ?_
   intro v25 M w H hle hr25
   replace hp := hp.mono hle
   replace hc0 := hc0.mono hle
   replace hc1 := hc1.mono hle
   replace hf23 := hf23.mono hle
   obtain rfl := hr25
   refine NA (ON 4 (by kernel_rfl) rfl (ST (Ex.runesStr Tryz.underlying212 Tryz.underlying21 Tryz.underlying9 H (by assumption) rfl) rfl ?_))
   refine NA (ON 6 (by kernel_rfl) rfl (AS rfl rfl (NA (ON 7 (by kernel_rfl) rfl (WR.store [_, _] H rfl rfl rfl (by repeat first | exact .head | apply Upd.tail) Tryz.sizeOf27 rfl (by rfl) (by rfl) (Wn.none rfl) ?_)))))
   intro w H
   refine NA (WA.done (by kernel_rfl) (TN (RT ?_)))
   refine WQ.ret2 rfl rfl ⟨_, rfl, H.loadAgg (by repeat first | exact kMh | apply kMt) Tryz.isAgg27 Tryz.sizeOf27 (by rfl)⟩ H.ext ?_
   exact rfl
theorem decode_spec_k (name : List UInt8) (v : Value) (l : List UInt8) (hn : name.length ≤ maxLen) (hs : l.length ≤ 12000) (k : Nat) (hk : setOf name = some k) : Ct Tryz.prog 186 [S name, v] (fun M => Bs M v l) (fun r _ => r = .tuple #[S (decoded k l), fault 0 0]) := by
 have h4 := setOf_lt hk
 rcases k with _ | _ | _ | _ | k
 · exact decode_0 name v l hn hs hk
 · exact decode_1 name v l hn hs hk
 · exact decode_2 name v l hn hs hk
 · exact decode_3 name v l hn hs hk
 · omega
end Go.Proofs.YtkmjdamkifbddaaGreatDoor
end
section
namespace Go.Proofs.YtkmjdamkifbddaaGreatDoor
open Go Go.RowKit Go.Ph
open Go.Ph.Gr Go.Ph.Utf Go.Ph.Chs
theorem flat_len (ns : List Int) : (ns.flatMap utf8).length ≤ 4 * ns.length := by
 induction ns with
 | nil => simp
 | cons n ns ih =>
   have := Y23 n
   rw [List.flatMap_cons, List.length_append, List.length_cons]; omega
end Go.Proofs.YtkmjdamkifbddaaGreatDoor
end
section
namespace Go.Proofs.YtkmjdamkifbddaaGreatDoor
open Go Go.RowKit Go.Ph
open Go.Ph.Gr Go.Ph.Utf Go.Ph.Chs
end Go.Proofs.YtkmjdamkifbddaaGreatDoor
end
section
namespace Go.Ph.B64
def alpha : List UInt8 := [65, 66, 67, 68, 69, 70, 71, 72, 73, 74, 75, 76, 77, 78, 79, 80, 81, 82, 83, 84, 85, 86, 87, 88, 89, 90, 97, 98, 99, 100, 101, 102, 103, 104, 105, 106, 107, 108, 109, 110, 111, 112, 113, 114, 115, 116, 117, 118, 119, 120, 121, 122, 48, 49, 50, 51, 52, 53, 54, 55, 56, 57, 43, 47]
theorem alpha_len : alpha.length = 64 := rfl
def idx (c : UInt8) : Nat := alpha.idxOf c
def val64 (c : UInt8) : Int := if idx c < 64 then (idx c : Int) else -1
def bits8 (u : Nat) : List Nat := [u / 128 % 2, u / 64 % 2, u / 32 % 2, u / 16 % 2, u / 8 % 2, u / 4 % 2, u / 2 % 2, u / 1 % 2]
def bitsOf (l : List UInt8) : List Nat := l.flatMap fun u => bits8 u.toNat
def sumN (l : List Nat) : Nat := l.foldl (fun n x => 2 * n + x) 0
theorem bits8_len (u : Nat) : (bits8 u).length = 8 := rfl
def padBits (l : List UInt8) : List Nat := bitsOf l ++ List.replicate ((6 - 8 * l.length % 6) % 6) 0
def six (bits : List Nat) (q : Nat) : Nat := sumN ((bits.take (6 * q + 6)).drop (6 * q))
def sext (bits : List Nat) : Nat → List UInt8
 | 0 => []
 | q + 1 => sext bits q ++ (alpha.take (six bits q + 1)).drop (six bits q)
theorem alpha_one (k : Nat) (h : k < 64) : (alpha.take (k + 1)).drop k = [alpha.getD k 0] := by
 have hk : k < alpha.length := by rw [alpha_len]; exact h
 rw [List.take_succ_eq_append_getElem hk, List.drop_append_of_le_length (by rw [List.length_take, alpha_len]; omega), List.drop_eq_nil_of_le (by rw [List.length_take]; omega)]
 simp [List.getD, hk]
def chars64 (l : List UInt8) : List UInt8 :=
 let s := sext (padBits l) ((padBits l).length / 6)
 s ++ List.replicate ((4 - s.length % 4) % 4) 61
def wrapTo (cs : List UInt8) : Nat → List UInt8
 | 0 => []
 | m + 1 => wrapTo cs m ++ (cs.drop (76 * m)).take 76 ++ [13, 10]
def lines64 (cs : List UInt8) : List UInt8 := wrapTo cs ((cs.length - 1) / 76) ++ (if cs.drop (76 * ((cs.length - 1) / 76)) = [] then [] else cs.drop (76 * ((cs.length - 1) / 76)) ++ [13, 10])
def upto61 (l : List UInt8) : List UInt8 := l.takeWhile (· != 61)
theorem upto61_eq (l : List UInt8) (k : Nat) (hb : ∀ j u, l[j]? = some u → j < k → u ≠ 61) (he : l.length ≤ k ∨ l[k]? = some 61) : upto61 l = l.take k := by
 induction l generalizing k with
 | nil => simp [upto61]
 | cons u l ih =>
   cases k with
   | zero =>
     have : u = 61 := by simpa using he
     subst this
     rfl
   | succ k =>
     have h1 : u ≠ 61 := hb 0 u rfl (by omega)
     have h2 := ih k (fun j v hj hk => hb (j + 1) v (by simpa using hj) (by omega)) (by simpa using he)
     unfold upto61 at h2 ⊢
     rw [List.takeWhile_cons_of_pos (by simpa using h1), h2]
     rfl
def lstep (s : List UInt8 × Nat × Nat) (c : UInt8) : List UInt8 × Nat × Nat :=
 if val64 c < 0 then s
 else if s.2.2 + 6 < 8 then (s.1, s.2.1 * 64 + idx c, s.2.2 + 6)
 else (s.1 ++ [UInt8.ofNat ((s.2.1 * 64 + idx c) / 2 ^ (s.2.2 + 6 - 8))], (s.2.1 * 64 + idx c) % 2 ^ (s.2.2 + 6 - 8), s.2.2 + 6 - 8)
def lrun (l : List UInt8) : List UInt8 × Nat × Nat := l.foldl lstep ([], 0, 0)
def lenient (l : List UInt8) : List UInt8 := (lrun (upto61 l)).1
theorem lrun_next {l : List UInt8} {k : Nat} {u : UInt8} (hu : l[k]? = some u) : lrun (l.take (k + 1)) = lstep (lrun (l.take k)) u := by
 obtain ⟨hk, rfl⟩ := List.getElem?_eq_some_iff.1 hu
 rw [List.take_succ_eq_append_getElem hk, lrun, List.foldl_append]
 rfl
theorem val64_idx {c : UInt8} (h : 0 ≤ val64 c) : val64 c = (idx c : Int) ∧ idx c < 64 := by
 unfold val64 at h ⊢
 split <;> rename_i hi
 · exact ⟨rfl, hi⟩
 · rw [if_neg hi] at h; omega
theorem lstep_inv (s : List UInt8 × Nat × Nat) (c : UInt8) (h1 : s.2.2 ≤ 6 ∧ s.2.2 % 2 = 0) (h2 : s.2.1 < 2 ^ s.2.2) : ((lstep s c).2.2 ≤ 6 ∧ (lstep s c).2.2 % 2 = 0) ∧ (lstep s c).2.1 < 2 ^ (lstep s c).2.2 := by
 unfold lstep
 by_cases hv : val64 c < 0
 · rw [if_pos hv]; exact ⟨h1, h2⟩
 · rw [if_neg hv]
   have hi := (val64_idx (c := c) (by omega)).2
   by_cases hb : s.2.2 + 6 < 8
   · rw [if_pos hb]
     have h0 : s.2.2 = 0 := by omega
     rw [h0] at h2 ⊢
     exact ⟨by simp, by simp at h2 ⊢; omega⟩
   · rw [if_neg hb]
     exact ⟨by simp only []; omega, Nat.mod_lt _ (Nat.two_pow_pos _)⟩
theorem lrun_inv (l : List UInt8) : ((lrun l).2.2 ≤ 6 ∧ (lrun l).2.2 % 2 = 0) ∧ (lrun l).2.1 < 2 ^ (lrun l).2.2 := by
 have key : ∀ (l : List UInt8) (s : List UInt8 × Nat × Nat), ((s.2.2 ≤ 6 ∧ s.2.2 % 2 = 0) ∧ s.2.1 < 2 ^ s.2.2) → (((l.foldl lstep s).2.2 ≤ 6 ∧ (l.foldl lstep s).2.2 % 2 = 0) ∧ (l.foldl lstep s).2.1 < 2 ^ (l.foldl lstep s).2.2) := by
  intro l
  induction l with
  | nil => exact fun s h => h
  | cons c l ih => exact fun s h => ih _ (lstep_inv s c h.1 h.2)
 exact key l ([], 0, 0) (by simp)
theorem lrun_len (l : List UInt8) : (lrun l).1.length ≤ l.length := by
 have key : ∀ (l : List UInt8) (s : List UInt8 × Nat × Nat), (l.foldl lstep s).1.length ≤ s.1.length + l.length := by
  intro l
  induction l with
  | nil => intro s; simp
  | cons c l ih =>
    intro s
    have h1 := ih (lstep s c)
    have h2 : (lstep s c).1.length ≤ s.1.length + 1 := by unfold lstep; split <;> (try split) <;> simp
    simp only [List.foldl_cons, List.length_cons]
    omega
 have := key l ([], 0, 0)
 simpa [lrun] using this
theorem or_six (x v : Nat) (hv : v < 64) : x * 2 ^ 6 ||| v = x * 64 + v := by
 have := Nat.two_pow_add_eq_or_of_lt (i := 6) (b := v) (by omega) x
 rw [Nat.mul_comm x, ← this, Nat.mul_comm]
theorem and_mask (x s : Nat) : x &&& (2 ^ s - 1) = x % 2 ^ s := Nat.and_two_pow_sub_one_eq_mod x s
theorem oct_lt (x v b : Nat) (h1 : b ≤ 6 ∧ b % 2 = 0) (h2 : x < 2 ^ b) (hv : v < 64) (hb : 8 ≤ b + 6) : (x * 64 + v) / 2 ^ (b + 6 - 8) < 256 := by
 obtain h | h | h : b = 2 ∨ b = 4 ∨ b = 6 := by omega
 all_goals (subst h; simp at h2 ⊢; omega)
theorem getD_out {α : Type} (l : List α) (i : Nat) (d : α) (h : l.length ≤ i) : l.getD i d = d := by
 rw [List.getD_eq_getElem?_getD, List.getElem?_eq_none h]; rfl
theorem getD_in {α : Type} (l : List α) (i : Nat) (d : α) (h : i < l.length) : l.getD i d = l[i] := by
 rw [List.getD_eq_getElem?_getD, List.getElem?_eq_getElem h]; rfl
def accN (l : List UInt8) : Nat → Nat
 | 0 => 0
 | i + 1 => accN l i * 256 + (l.getD i 0).toNat
theorem accN_out (l : List UInt8) (i : Nat) (h : l.length ≤ i) : accN l i * 256 = accN l (i + 1) := by
 rw [accN, getD_out _ _ _ h]; simp
theorem accN_lt (l : List UInt8) (i : Nat) : accN l i < 256 ^ i := by
 induction i with
 | zero => simp [accN]
 | succ i ih =>
   have := (l.getD i 0).toNat_lt
   rw [accN, Nat.pow_succ]
   omega
def ch (l : List UInt8) (i : Nat) : UInt8 := if min 3 l.length < i then 61 else alpha.getD (accN l 3 / 2 ^ (18 - 6 * i) % 64) 0
def outp (l : List UInt8) (j : Nat) : List UInt8 := (List.range 4).map fun i => if i < j then ch l i else 0
theorem outp_set (l : List UInt8) (j : Nat) (hj : j < 4) : (outp l j).set j (ch l j) = outp l (j + 1) := by
 match j, hj with
 | 0, _ => rfl
 | 1, _ => rfl
 | 2, _ => rfl
 | 3, _ => rfl
def grpAt (l : List UInt8) (k : Nat) : List UInt8 := outp (l.drop (3 * k)) 4
def grpsTo (l : List UInt8) (k : Nat) : List (List UInt8) := (List.range k).map (grpAt l)
def grps (l : List UInt8) : List (List UInt8) := grpsTo l ((l.length + 2) / 3)
theorem grpsTo_next (l : List UInt8) (k : Nat) : grpsTo l (k + 1) = grpsTo l k ++ [grpAt l k] := by
 simp [grpsTo, List.range_succ]
theorem grpsTo_ini (l : List UInt8) (k : Nat) (h : 3 * k < l.length) : (grpsTo l k ++ [grpAt l k]) <+: grps l := by
 rw [← grpsTo_next]
 refine ⟨((List.range' (k + 1) ((l.length + 2) / 3 - (k + 1))).map (grpAt l)), ?_⟩
 unfold grps grpsTo
 rw [← List.map_append]
 have h1 : List.range (k + 1) ++ List.range' (k + 1) ((l.length + 2) / 3 - (k + 1)) = List.range ((l.length + 2) / 3) := by
  have h2 := List.range'_append_1 (s := 0) (m := k + 1) (n := (l.length + 2) / 3 - (k + 1))
  rw [Nat.zero_add] at h2
  rw [List.range_eq_range', List.range_eq_range', h2]
  congr 1
  omega
 rw [h1]
theorem drop_next (l : List UInt8) (k n : Nat) (hn : n = min 3 (l.drop (3 * k)).length) : (l.drop (3 * k)).drop n = l.drop (3 * (k + 1)) := by
 rw [List.drop_drop]
 simp only [List.length_drop] at hn
 by_cases h : 3 ≤ l.length - 3 * k
 · rw [show 3 * k + n = 3 * (k + 1) by omega]
 · rw [List.drop_eq_nil_of_le (by omega), List.drop_eq_nil_of_le (by omega)]
theorem or_eight (x : Nat) (v : UInt8) : x * 2 ^ 8 ||| v.toNat = x * 256 + v.toNat := by
 have := Nat.two_pow_add_eq_or_of_lt (i := 8) (b := v.toNat) (by have := v.toNat_lt; omega) x
 rw [Nat.mul_comm x, ← this, Nat.mul_comm]
def encStep (s : List UInt8 × Nat) (g : List UInt8) : List UInt8 × Nat := if s.2 = 76 then (s.1 ++ [13, 10] ++ g, 4) else (s.1 ++ g, s.2 + 4)
def encRun (gs : List (List UInt8)) : List UInt8 × Nat := gs.foldl encStep ([], 0)
def encode (l : List UInt8) : List UInt8 := if 0 < (encRun (grps l)).2 then (encRun (grps l)).1 ++ [13, 10] else (encRun (grps l)).1
theorem encRun_next (gs : List (List UInt8)) (g : List UInt8) : encRun (gs ++ [g]) = encStep (encRun gs) g := by simp [encRun]
theorem grps_len (l : List UInt8) : (grps l).length = (l.length + 2) / 3 := by simp [grps, grpsTo]
theorem ini_len {l x : List UInt8} {pre : List (List UInt8)} (h : (pre ++ [x]) <+: grps l) : x.length = 4 ∧ (∀ g ∈ pre, g.length = 4) ∧ pre.length + 1 ≤ (l.length + 2) / 3 := by
 refine ⟨?_, fun g hg => ?_, ?_⟩
 · obtain ⟨k, _, rfl⟩ := List.mem_map.1 (h.subset (List.mem_append_right _ (List.mem_singleton.2 rfl))); rfl
 · obtain ⟨k, _, rfl⟩ := List.mem_map.1 (h.subset (List.mem_append_left _ hg)); rfl
 · have := h.length_le
   rw [grps_len] at this
   simpa using this
theorem grps_all (l : List UInt8) : ∀ g ∈ grps l, g.length = 4 := fun g hg => by
 obtain ⟨k, _, rfl⟩ := List.mem_map.1 hg; rfl
theorem encRun_inv (gs : List (List UInt8)) (h : ∀ g ∈ gs, g.length = 4) : (encRun gs).1.length ≤ 6 * gs.length ∧ (encRun gs).2 ≤ 76 ∧ (encRun gs).2 % 4 = 0 := by
 have key : ∀ (gs : List (List UInt8)) (s : List UInt8 × Nat), (∀ g ∈ gs, g.length = 4) → s.2 ≤ 76 → s.2 % 4 = 0 → (gs.foldl encStep s).1.length ≤ s.1.length + 6 * gs.length ∧ (gs.foldl encStep s).2 ≤ 76 ∧ (gs.foldl encStep s).2 % 4 = 0 := by
  intro gs
  induction gs with
  | nil => intro s _ h1 h2; exact ⟨by simp, h1, h2⟩
  | cons g gs ih =>
    intro s hg h1 h2
    have hg4 : g.length = 4 := hg g List.mem_cons_self
    have h3 : (encStep s g).1.length ≤ s.1.length + 6 ∧ (encStep s g).2 ≤ 76 ∧ (encStep s g).2 % 4 = 0 := by
     unfold encStep
     split
     · simp [hg4]
     · simp [hg4]; omega
    have := ih (encStep s g) (fun x hx => hg x (List.mem_cons_of_mem _ hx)) h3.2.1 h3.2.2
    simp only [List.foldl_cons, List.length_cons]
    omega
 have := key gs ([], 0) h (by simp) (by simp)
 simpa [encRun] using this
end Go.Ph.B64
end
section
namespace Go.Proofs.YtkmjdamkifbddaaGreatDoor
open Go Go.RowKit Go.Ph
open Go.Ph.B64
theorem b_eq {a c : UInt8} : ((a.toNat : Int) = (c.toNat : Int)) ↔ a = c := by rw [Int.ofNat_inj, UInt8.toNat_inj]
theorem ub_nat (n : Nat) (h : n < 256) : ub (n : Int) = UInt8.ofNat n := by unfold ub; congr 1; omega
end Go.Proofs.YtkmjdamkifbddaaGreatDoor
end
section
namespace Go.Proofs.YtkmjdamkifbddaaGreatDoor
open Go Go.RowKit Go.Ph
theorem bytesOf_natsB (l : List UInt8) : Lib.bytesOf (l.map fun u => (u.toNat : Int)) = l := by
 unfold Lib.bytesOf
 rw [List.map_map]
 conv => rhs; rw [← List.map_id l]
 apply List.map_congr_left
 intro u _
 simp
theorem indexByte_idx (l : List UInt8) (c : UInt8) : Lib.indexByte l c = if l.idxOf c < l.length then (l.idxOf c : Int) else -1 := by
 induction l with
 | nil => simp [Lib.indexByte]
 | cons b l ih =>
   simp only [Lib.indexByte, List.idxOf_cons, List.length_cons]
   by_cases h : b = c
   · subst h; simp
   · have h' : (b == c) = false := by simpa using h
     rw [h', ih]
     simp only [Bool.false_eq_true, if_false, cond_false]
     by_cases hl : l.idxOf c < l.length
     · have h1 : l.idxOf c + 1 < l.length + 1 := by omega
       have h2 : ¬ (((l.idxOf c : Int) == -1) = true) := by simp only [beq_iff_eq]; omega
       simp only [hl, h1, if_true, h2, if_false, Bool.false_eq_true]
       omega
     · have h1 : ¬ (l.idxOf c + 1 < l.length + 1) := by omega
       simp only [hl, h1, if_false]
       rfl
theorem indexByte_alpha (c : UInt8) : Lib.indexByte B64.alpha c = B64.val64 c := by
 rw [indexByte_idx, B64.alpha_len]; rfl
theorem indexByte_spec (b : Value) (l : List UInt8) (c : UInt8) : Ct Tryz.prog 226 [b, encB c] (fun M => Bs M b l) (fun r _ => r = I (Lib.indexByte l c)) := by
 refine ⟨enters Tryz.func226 (by kernel_rfl) rfl, fun w M ha hp => ?_⟩
 obtain ⟨A, cp, rfl, hc, hn⟩ := hp.cells ha
 have hcv : ((c.toNat : Int)).toNat.toUInt8 = c := by simp
 cases A with
 | none =>
   obtain ⟨rfl, rfl⟩ := hn rfl
   exact (Tryz.bytes_IndexByte_nil (c.toNat : Int) w).mono fun e w' ⟨he, hw⟩ => ⟨_, M, he, by subst hw; exact Ext.refl ha, rfl⟩
 | some ad =>
   refine (Tryz.bytes_IndexByte_at ad l.length cp (l.map fun u => (u.toNat : Int)) (c.toNat : Int) w (by simp) (fun i hi => ?_)).mono fun e w' ⟨he, hw⟩ => ⟨_, M, he, by subst hw; exact Ext.refl ha, ?_⟩
   · have := hc ad rfl i (encB l[i]) (by simp [hi])
     rw [this]
     simp [hi]
   · rw [bytesOf_natsB, hcv]
open Go.Ph.B64
theorem next61 {l : List UInt8} {k : Nat} {u : UInt8} (hb : ∀ j u, l[j]? = some u → j < k → u ≠ 61) (hu : l[k]? = some u) (h : ¬ ((u.toNat : Int) = 61)) : ∀ j u, l[j]? = some u → j < k + 1 → u ≠ 61 := by
 intro j x hj hjk
 rcases Nat.lt_or_ge j k with h1 | h1
 · exact hb j x hj h1
 · obtain rfl : j = k := by omega
   rw [hu] at hj; cases hj
   exact fun e => h (by rw [e]; rfl)
theorem lenient_spec (bv : Value) (l : List UInt8) (hs : l.length ≤ 24000) : Ct Tryz.prog 209 [bv] (fun M => Bs M bv l) (fun r M => ∃ v, r = .tuple #[v, fault 0 0] ∧ Bs M v (lenient l)) := by
 refine Ct.of Tryz.func209 (enters Tryz.func209 (by kernel_rfl) rfl) rfl rfl rfl ?_
 intro w0 M0 H hp
 refine SQ (RG (AS rfl rfl (WR.alloc [_, _] H Tryz.zeroValue27 rfl (Wn.none rfl) rfl ?_)))
 intro b3 w H
 refine NL (TN (SQ (SQ (RG (MV rfl rfl ?_)))))
 first | refine WR.step (Ex.lenSl Tryz.underlying88 (by assumption) rfl) (Wn.none rfl) rfl rfl ?_ | refine WR.step (Ex.lenRow Tryz.underlying88 H (by repeat first | exact kMh | apply kMt) rfl) (Wn.none rfl) rfl rfl ?_ | refine WR.step (Ex.lenSlice Tryz.underlying88 rfl) (Wn.none rfl) rfl rfl ?_
 refine WR.stepF (Ex.gtr rfl rfl) (by omega) (Wn.none rfl) rfl rfl ?_
 refine NL (TN (CF rfl (SK (TN (SQ (RG (AS rfl rfl (NL (TN (SQ (RG (AS rfl rfl (AS rfl rfl (NL (TN ?_)))))))))))))))
 refine WC.cut1 (fun (v : Value) => [(3, ptr b3 0), (4, v)]) (fun (v : Value) w => ∃ M, St w0 M0 M [RowI 5 encB v (lenient l), .blk b3 (.cells #[I 0, I 0] 27)] w) ?_ ?_
 · refine SQ (RG (MV rfl rfl ?_))
   first | refine WR.step (Ex.lenSl Tryz.underlying88 (by assumption) rfl) (Wn.none rfl) rfl rfl ?_ | refine WR.step (Ex.lenRow Tryz.underlying88 H (by repeat first | exact kMh | apply kMt) rfl) (Wn.none rfl) rfl rfl ?_ | refine WR.step (Ex.lenSlice Tryz.underlying88 rfl) (Wn.none rfl) rfl rfl ?_
   refine MV rfl rfl (NL (TN (BL ?_)))
   replace H := H.newRow 5 encB
   refine WC.loop5 (fun (k : Nat) (v : Value) (o : List UInt8) (x : Nat) (b : Nat) => [(3, ptr b3 0), (4, v), (5, encN x), (6, encN b), (14, bv), (15, I (l.length : Int)), (16, I (k : Int))]) (fun (k : Nat) (v : Value) (o : List UInt8) (x : Nat) (b : Nat) w => k ≤ l.length ∧ (∀ j u, l[j]? = some u → j < k → u ≠ 61) ∧ lrun (l.take k) = (o, x, b) ∧ ∃ M, St w0 M0 M [RowI 5 encB v o, .blk b3 (.cells #[I 0, I 0] 27)] w) (fun (k : Nat) (v : Value) (o : List UInt8) (x : Nat) (b : Nat) => l.length - k) (0) (_) (_) (0) (0) ⟨rfl, rfl, rfl, rfl, rfl, rfl, rfl, trivial⟩ (⟨by omega, fun _ _ _ h => absurd h (by omega), rfl, M0, H⟩) ?_
   intro k v o x b w
   rintro ⟨hk, hb61, hst, M, H⟩
   have hb := hp.mono H.ext.le
   have hi := lrun_inv (l.take k)
   have hl2 := lrun_len (l.take k)
   have hl3 : (l.take k).length ≤ l.length := List.length_take_le' _ _
   rw [hst] at hi hl2
   simp only [] at hi hl2
   have hx2 : 2 ^ b ≤ 2 ^ 6 := Nat.pow_le_pow_right (by decide) hi.1.1
   refine SQ (RG ?_)
   refine WR.split (Ex.lss rfl rfl) (Wn.none rfl) rfl rfl (fun h6_0 => ?_) (fun h6_0 => ?_)
   · obtain ⟨u, hu⟩ : ∃ u, l[k]? = some u := ⟨_, List.getElem?_eq_getElem (by omega)⟩
     refine NL (TN (SQ (CT rfl (SK (TN (SQ (BL (SQ (RG (WR.idxSl Tryz.underlying88 Tryz.sizeOf5 (by assumption) rfl rfl (hu) (Wn.none rfl) rfl ?_))))))))))
     intro p18 hc18
     first | refine WR.step (Ex.loadM H rfl (by assumption) Tryz.isAgg5) (Wn.none rfl) rfl rfl ?_ | refine WR.step (Ex.load1 H rfl (by repeat first | exact kMh | apply kMt) Tryz.isAgg5 (by rfl)) (Wn.none rfl) rfl rfl ?_
     refine AS rfl rfl (NL (TN (SQ (SQ (RG (MV rfl rfl ?_))))))
     refine WR.split (Ex.eql rfl rfl) (Wn.none rfl) rfl rfl (fun h8_1 => ?_) (fun h8_1 => ?_)
     · refine NL (TN (CT rfl (WC.exit (WQ.thenExit (WQ.exitOut rfl (WQ.thenExit (WQ.thenExit (WQ.exitHere (WQ.meet1 (v) ⟨rfl, rfl, trivial⟩ ?_)))))))))
       refine ⟨M, ?_⟩
       have hlen : lenient l = o := by rw [lenient, upto61_eq l k hb61 (.inr (by rw [hu]; congr 1; exact b_eq.1 h8_1)), hst]
       rw [hlen]
       exact H
     · refine NL (TN (CF rfl (SK (TN (SQ (RG (WR.litC ty88 Tryz.underlying5 alpha H rfl (by rfl) rfl rfl (Wn.none rfl) rfl (fun _ => Wn.none rfl) rfl ?_)))))))
       intro v23 M w H hle hl23
       replace hb := hb.mono hle
       replace hc18 := hc18.mono hle
       refine MV rfl rfl (WR.call H (indexByte_spec _ alpha _) rfl (by assumption) (Wn.none rfl) rfl ?_)
       intro v25 M w H hle hr25
       replace hb := hb.mono hle
       replace hc18 := hc18.mono hle
       replace hl23 := hl23.mono hle
       obtain rfl := hr25
       rw [indexByte_alpha]
       refine AS rfl rfl (NL (TN (SQ (SQ (RG (MV rfl rfl ?_))))))
       refine WR.split (Ex.lss rfl rfl) (Wn.none rfl) rfl rfl (fun h10_1 => ?_) (fun h10_1 => ?_)
       · refine NL (TN (CT rfl (WC.exit (WQ.thenExit (WQ.exitHere (TN (RG (ST (Ex.add64 rfl rfl (by omega)) rfl ?_))))))))
         refine MV rfl rfl (NL ?_)
         refine WQ.again5 (k + 1) (v) (o) (x) (b) ⟨rfl, rfl, rfl, rfl, rfl, rfl, rfl, trivial⟩ ?_ ?_
         · exact ⟨by omega, next61 hb61 hu h8_1, by rw [lrun_next hu, hst, lstep, if_pos h10_1], M, H⟩
         · omega
       · have hix := val64_idx (c := u) (by omega)
         refine NL (TN (CF rfl (SK (TN (SQ (RG (MV rfl rfl (ST (Ex.shlN (m := x) (s := 6) rfl rfl (by first | (show _ ≤ 64; omega) | (show _ ≤ 8; omega) | decide) (by first | omega | (simp; omega))) rfl ?_))))))))
         refine WR.stepE (v' := encN (idx u)) (Ex.move rfl) (congrArg I hix.1) (Wn.none rfl) rfl rfl (WR.stepE (v' := encN (x * 64 + idx u)) (Ex.orN (m := _) (s := _) rfl rfl (by omega) (by omega)) (congrArg encN (or_six x (idx u) hix.2)) (Wn.none rfl) rfl rfl ?_)
         refine MV rfl rfl (WR.stepE (v' := encN (b + 6)) (Ex.add64 rfl rfl (by omega)) rfl (Wn.none rfl) rfl rfl ?_)
         refine AS rfl rfl (AS rfl rfl (NL (TN (SQ (RG (MV rfl rfl ?_))))))
         refine WR.split (Ex.geq rfl rfl) (Wn.none rfl) rfl rfl (fun h12_1 => ?_) (fun h12_1 => ?_)
         · refine NL (TN (CT rfl (SQ (RG (MV rfl rfl (WR.stepE (v' := encN (b + 6 - 8)) (Ex.sub64 rfl rfl (by omega)) (congrArg I (by omega)) (Wn.none rfl) rfl rfl ?_))))))
           refine AS rfl rfl (NL (TN (SQ (RG (MV rfl rfl (MV rfl rfl (MV rfl rfl (ST (Ex.shrN (m := _) (s := _) rfl rfl (by first | (show _ ≤ 64; omega) | (show _ ≤ 8; omega) | decide)) rfl ?_))))))))
           refine WR.stepE (v' := encB (UInt8.ofNat ((x * 64 + idx u) / 2 ^ (b + 6 - 8)))) (Ex.convU8 Tryz.underlying3 Tryz.underlying5 rfl) (congrArg encB (ub_nat _ (oct_lt x (idx u) b hi.1 hi.2 hix.2 (by omega)))) (Wn.none rfl) rfl rfl ?_
           refine WR.lit (enc := encB) ty88 [_] H rfl (by rfl) (fun _ => rfl) rfl rfl (Wn.none rfl) rfl ?_
           intro v43 M w H hle hl43
           replace hb := hb.mono hle
           replace hc18 := hc18.mono hle
           replace hl23 := hl23.mono hle
           refine WR.appendSl ty88 (fun _ => rfl) H rfl (fun _ => by repeat first | exact .head | apply Upd.tail) rfl (by assumption) (by first | omega | (simp only [List.length_append, List.length_cons, List.length_nil, List.length_take, List.length_drop]; omega)) (by first | (simp only [maxLen]; omega) | (simp only [maxLen, List.length_append, List.length_cons, List.length_nil, List.length_take, List.length_drop]; omega)) (Wn.none rfl) rfl ?_
           intro v44 w H
           refine AS rfl rfl (NL (TN (RG (MV rfl rfl (MV rfl rfl ?_)))))
           obtain ⟨P2, hP2⟩ : ∃ P2, P2 = 2 ^ (b + 6 - 8) := ⟨_, rfl⟩
           have hp2 : P2 ≤ 16 := by rw [hP2]; exact Nat.pow_le_pow_right (n := 2) (j := 4) (by decide) (by omega)
           have hp3 : 0 < P2 := by rw [hP2]; exact Nat.two_pow_pos _
           refine WR.stepE (v' := encN P2) (Ex.shlN (m := 1) (s := b + 6 - 8) rfl rfl (by first | (show _ ≤ 64; omega) | (show _ ≤ 8; omega) | decide) (by first | omega | (simp; omega))) (congrArg encN (by rw [hP2, Nat.one_mul])) (Wn.none rfl) rfl rfl ?_
           refine WR.stepE (v' := encN (P2 - 1)) (Ex.sub64 rfl rfl (by omega)) (congrArg I (by omega)) (Wn.none rfl) rfl rfl ?_
           refine WR.stepE (v' := encN ((x * 64 + idx u) % 2 ^ (b + 6 - 8))) (Ex.andN (m := _) (s := _) rfl rfl (by omega) (by omega)) (congrArg encN (by rw [hP2]; exact and_mask _ _)) (Wn.none rfl) rfl rfl ?_
           refine AS rfl rfl (NL (IB (TN (RG (ST (Ex.add64 rfl rfl (by omega)) rfl ?_)))))
           refine MV rfl rfl (NL ?_)
           refine WQ.again5 (k + 1) (v44) (o ++ [UInt8.ofNat ((x * 64 + idx u) / 2 ^ (b + 6 - 8))]) (_) (_) ⟨rfl, rfl, rfl, rfl, rfl, rfl, rfl, trivial⟩ ?_ ?_
           · exact ⟨by omega, next61 hb61 hu h8_1, by rw [lrun_next hu, hst, lstep, if_neg h10_1, if_neg (by simp only []; omega)], M, H⟩
           · omega
         · refine NL (TN (CF rfl (SK (IB (TN (RG (ST (Ex.add64 rfl rfl (by omega)) rfl ?_)))))))
           refine MV rfl rfl (NL ?_)
           refine WQ.again5 (k + 1) (v) (o) (_) (_) ⟨rfl, rfl, rfl, rfl, rfl, rfl, rfl, trivial⟩ ?_ ?_
           · exact ⟨by omega, next61 hb61 hu h8_1, by rw [lrun_next hu, hst, lstep, if_neg h10_1, if_pos (by simp only []; omega)], M, H⟩
           · omega
   · refine NL (TN (SQ (CF rfl (WC.exit (WQ.thenExit (WQ.thenExit (WQ.exitHere (WQ.meet1 (v) ⟨rfl, rfl, trivial⟩ ?_))))))))
     refine ⟨M, ?_⟩
     have hlen : lenient l = o := by rw [lenient, upto61_eq l k hb61 (.inl (by omega)), hst]
     rw [hlen]
     exact H
 · intro v w
   rintro ⟨M, H⟩
   refine SQ (RG (MV rfl rfl (WR.call H (none_spec) rfl (trivial) (Wn.none rfl) rfl ?_)))
   intro v52 M w H hle hr52
   obtain rfl := hr52
   refine AS rfl rfl (WR.store [_, _] H rfl rfl rfl (by repeat first | exact .head | apply Upd.tail) Tryz.sizeOf27 rfl (by rfl) (by rfl) (Wn.none rfl) ?_)
   intro w H
   refine NL (TN (RT ?_))
   obtain ⟨M, hle, hf, H⟩ := H.freezeRow (v := v) (enc := encB) (t := 5) (by repeat first | exact .head | apply Rem.tail)
   refine WQ.ret2 rfl rfl ⟨_, rfl, H.loadAgg (by repeat first | exact kMh | apply kMt) Tryz.isAgg27 Tryz.sizeOf27 (by rfl)⟩ H.ext ?_
   exact ⟨_, rfl, hf⟩
end Go.Proofs.YtkmjdamkifbddaaGreatDoor
end
section
namespace Go.Proofs.YtkmjdamkifbddaaGreatDoor
open Go Go.RowKit Go.Ph
open Go.Ph.B64
abbrev encG (x : List UInt8) : Value := .agg (x.map encB).toArray
theorem groups_iter (bb : Nat) (v0 : Value) (l : List UInt8) (hs : l.length ≤ 1000000) : IterCt Tryz.prog 217 [ptr bb 0] [.blk bb (.cells #[v0] 88)] (fun M => Bs M v0 l) encG (grps l) := by
 refine ⟨enters Tryz.func217 (by kernel_rfl) rfl, fun lid Z Zx hZ hY L0 w0 M0 hz H hp => calls_of_WC Tryz.func217 rfl rfl rfl ?_⟩
 generalize hC : feet ([.blk bb (.cells #[v0] 88)] ++ L0) = C at H ⊢
 simp only [List.cons_append, List.nil_append] at H
 refine BL (WC.loop3 (fun (k : Nat) (v : Value) (Lc : List Ph.Item) => [(0, yv lid), (1, ptr bb 0)]) (fun (k : Nat) (v : Value) (Lc : List Ph.Item) w => k ≤ (l.length + 2) / 3 ∧ ∃ M, StX C w0 M0 M (.blk bb (.cells #[v] 88) :: Lc) w ∧ Bs M v (l.drop (3 * k)) ∧ Z (grpsTo l k) Lc M) (fun (k : Nat) (v : Value) (Lc : List Ph.Item) => l.length + 2 - 3 * k) (0) (_) (_) ⟨rfl, rfl, trivial⟩ (⟨by omega, M0, H, hp, hz⟩) ?_)
 intro k v Lc w
 rintro ⟨hk, M, H, hb, hzc⟩
 have hlen : (l.drop (3 * k)).length = l.length - 3 * k := List.length_drop
 refine SQ (SQ (RG ?_))
 first | refine WR.step (Ex.loadM H rfl (by assumption) Tryz.isAgg88) (Wn.none rfl) rfl rfl ?_ | refine WR.step (Ex.load1 H rfl (by repeat first | exact kMh | apply kMt) Tryz.isAgg88 (by rfl)) (Wn.none rfl) rfl rfl ?_
 first | refine WR.step (Ex.lenSl Tryz.underlying88 (by assumption) rfl) (Wn.none rfl) rfl rfl ?_ | refine WR.step (Ex.lenRow Tryz.underlying88 H (by repeat first | exact kMh | apply kMt) rfl) (Wn.none rfl) rfl rfl ?_ | refine WR.step (Ex.lenSlice Tryz.underlying88 rfl) (Wn.none rfl) rfl rfl ?_
 refine WR.split (Ex.gtr rfl rfl) (Wn.none rfl) rfl rfl (fun h0_2 => ?_) (fun h0_2 => ?_)
 · refine NL (TN (CT rfl (SK (TN (BL (SQ (RG ?_)))))))
   first | refine WR.step (Ex.loadM H rfl (by assumption) Tryz.isAgg88) (Wn.none rfl) rfl rfl ?_ | refine WR.step (Ex.load1 H rfl (by repeat first | exact kMh | apply kMt) Tryz.isAgg88 (by rfl)) (Wn.none rfl) rfl rfl ?_
   first | refine WR.step (Ex.lenSl Tryz.underlying88 (by assumption) rfl) (Wn.none rfl) rfl rfl ?_ | refine WR.step (Ex.lenRow Tryz.underlying88 H (by repeat first | exact kMh | apply kMt) rfl) (Wn.none rfl) rfl rfl ?_ | refine WR.step (Ex.lenSlice Tryz.underlying88 rfl) (Wn.none rfl) rfl rfl ?_
   refine WR.stepE (v' := encN (min 3 (l.drop (3 * k)).length)) (Ex.min2 rfl rfl) (congrArg I (by omega)) (Wn.none rfl) rfl rfl ?_
   refine AS rfl rfl (NL (TN (SQ (RG (AS rfl rfl (NL (TN (SQ (SQ (RG (MV rfl rfl (NL (TN (BL (WC.loop1 (fun (i : Nat) => [(0, yv lid), (1, ptr bb 0), (3, encN (min 3 (l.drop (3 * k)).length)), (4, encN (accN (l.drop (3 * k)) i)), (14, I (i : Int))]) (fun (i : Nat) w => i ≤ 3 ∧ StX C w0 M0 M (.blk bb (.cells #[v] 88) :: Lc) w) (fun (i : Nat) => 3 - i) (0) ⟨rfl, rfl, rfl, rfl, rfl, trivial⟩ (⟨by omega, H⟩) ?_)))))))))))))))
   intro i w
   rintro ⟨hi, H⟩
   have hac := accN_lt (l.drop (3 * k)) i
   have hac2 : 256 ^ i ≤ 256 ^ 3 := Nat.pow_le_pow_right (by decide) hi
   refine SQ (RG ?_)
   refine WR.split (Ex.lss rfl rfl) (Wn.none rfl) rfl rfl (fun h4_0 => ?_) (fun h4_0 => ?_)
   · refine NL (TN (SQ (CT rfl (SK (TN (SQ (BL (SQ (RG (MV rfl rfl (AS rfl rfl (NL (TN (SQ (RG (MV rfl rfl (WR.stepE (v' := encN (accN (l.drop (3 * k)) i * 256)) (Ex.shlN (m := accN (l.drop (3 * k)) i) (s := 8) rfl rfl (by first | (show _ ≤ 64; omega) | (show _ ≤ 8; omega) | decide) (by first | omega | (simp; omega))) rfl (Wn.none rfl) rfl rfl ?_)))))))))))))))))
     refine AS rfl rfl (NL (TN (SQ (RG (MV rfl rfl (MV rfl rfl ?_))))))
     refine WR.split (Ex.lss rfl rfl) (Wn.none rfl) rfl rfl (fun h7_2 => ?_) (fun h7_2 => ?_)
     · obtain ⟨u, hu⟩ : ∃ u, (l.drop (3 * k))[i]? = some u := ⟨_, List.getElem?_eq_getElem (by omega)⟩
       have hult := u.toNat_lt
       refine NL (TN (CT rfl (RG (MV rfl rfl ?_))))
       first | refine WR.step (Ex.loadM H rfl (by assumption) Tryz.isAgg88) (Wn.none rfl) rfl rfl ?_ | refine WR.step (Ex.load1 H rfl (by repeat first | exact kMh | apply kMt) Tryz.isAgg88 (by rfl)) (Wn.none rfl) rfl rfl ?_
       refine MV rfl rfl (WR.idxSl Tryz.underlying88 Tryz.sizeOf5 (by assumption) rfl rfl (hu) (Wn.none rfl) rfl ?_)
       intro p25 hc25
       first | refine WR.step (Ex.loadM H rfl (by assumption) Tryz.isAgg5) (Wn.none rfl) rfl rfl ?_ | refine WR.step (Ex.load1 H rfl (by repeat first | exact kMh | apply kMt) Tryz.isAgg5 (by rfl)) (Wn.none rfl) rfl rfl ?_
       first | refine WR.step (Ex.convB Tryz.underlying5 Tryz.underlying3 rfl) (Wn.none rfl) rfl rfl ?_ | refine WR.step (Ex.convI Tryz.underlying5 Tryz.underlying3 rfl (by omega)) (Wn.none rfl) rfl rfl ?_
       refine WR.stepE (v' := encN (accN (l.drop (3 * k)) (i + 1))) (Ex.orN (m := accN (l.drop (3 * k)) i * 256) (s := u.toNat) rfl rfl (by omega) (by omega)) (congrArg encN (by rw [show accN (l.drop (3 * k)) i * 256 = accN (l.drop (3 * k)) i * 2 ^ 8 from rfl, or_eight, accN]; simp [List.getD_eq_getElem?_getD, hu])) (Wn.none rfl) rfl rfl ?_
       refine AS rfl rfl (NL (IB (TN (RG (ST (Ex.add64 rfl rfl (by omega)) rfl ?_)))))
       refine MV rfl rfl (NL ?_)
       refine WQ.again1 (i + 1) ⟨rfl, rfl, rfl, rfl, rfl, trivial⟩ ?_ ?_
       · exact ⟨by omega, H⟩
       · omega
     · refine NL (TN (CF rfl (SK (IB (TN (RG (ST (Ex.add64 rfl rfl (by omega)) rfl ?_)))))))
       refine MV rfl rfl (NL ?_)
       refine WQ.again1 (i + 1) ⟨rfl, rfl, rfl, (congrArg (fun x => some (encN x)) (accN_out _ _ (by omega))), rfl, trivial⟩ ?_ ?_
       · exact ⟨by omega, H⟩
       · omega
   · refine NL (TN (SQ (CF rfl (WC.exit (WQ.thenExit (WQ.thenExit (WQ.exitHere (TN (SQ (RG (WR.alloc [_, _, _, _] H Tryz.zeroValue218 rfl (Wn.none rfl) rfl ?_)))))))))))
     intro b6 w H
     refine NL (TN (SQ (SQ (RG (MV rfl rfl (NL (TN (BL ?_))))))))
     obtain rfl : i = 3 := by omega
     refine WC.loop1 (fun (j : Nat) => [(0, yv lid), (1, ptr bb 0), (3, encN (min 3 (l.drop (3 * k)).length)), (4, encN (accN (l.drop (3 * k)) 3)), (6, ptr b6 0), (30, I (j : Int))]) (fun (j : Nat) w => j ≤ 4 ∧ StX C w0 M0 M (.blk b6 (.cells ((outp (l.drop (3 * k)) j).map encB).toArray 218) :: .blk bb (.cells #[v] 88) :: Lc) w) (fun (j : Nat) => 4 - j) (0) ⟨rfl, rfl, rfl, rfl, rfl, rfl, trivial⟩ (⟨by omega, H⟩) ?_
     intro j w
     rintro ⟨hj, H⟩
     have hac := accN_lt (l.drop (3 * k)) 3
     have hol : (outp (l.drop (3 * k)) j).length = 4 := rfl
     refine SQ (RG ?_)
     refine WR.split (Ex.lss rfl rfl) (Wn.none rfl) rfl rfl (fun h12_0 => ?_) (fun h12_0 => ?_)
     · refine NL (TN (SQ (CT rfl (SK (TN (SQ (BL (SQ (RG (MV rfl rfl (AS rfl rfl (NL (TN (SQ (RG (MV rfl rfl (MV rfl rfl (MV rfl rfl (ST (Ex.mul64 rfl rfl (by omega)) rfl ?_)))))))))))))))))))
       refine WR.stepE (v' := I ((18 - 6 * j : Nat) : Int)) (Ex.sub64 rfl rfl (by omega)) (congrArg I (by omega)) (Wn.none rfl) rfl rfl ?_
       refine ST (Ex.shrN (m := _) (s := _) rfl rfl (by first | (show _ ≤ 64; omega) | (show _ ≤ 8; omega) | decide)) rfl ?_
       have hdv : accN (l.drop (3 * k)) 3 / 2 ^ (18 - 6 * j) ≤ accN (l.drop (3 * k)) 3 := Nat.div_le_self _ _
       refine WR.stepE (v' := encN (accN (l.drop (3 * k)) 3 / 2 ^ (18 - 6 * j) % 64)) (Ex.andN (m := _) (s := 63) rfl rfl (by omega) (by omega)) (congrArg encN (Nat.and_two_pow_sub_one_eq_mod _ 6)) (Wn.none rfl) rfl rfl ?_
       refine WR.stepE (v' := encB (alpha.getD (accN (l.drop (3 * k)) 3 / 2 ^ (18 - 6 * j) % 64) 0)) (Ex.idxStr (l := alpha) Tryz.underlying9 rfl rfl (List.getElem?_eq_getElem (by rw [alpha_len]; omega))) (congrArg encB (by rw [getD_in _ _ _ (by rw [alpha_len]; omega)])) (Wn.none rfl) rfl rfl ?_
       refine ST (Ex.idxArr Tryz.underlying218 Tryz.sizeOf5 rfl rfl (by omega)) rfl ?_
       refine WR.store1 (((outp (l.drop (3 * k)) j).set j (alpha.getD (accN (l.drop (3 * k)) 3 / 2 ^ (18 - 6 * j) % 64) 0)).map encB) H rfl rfl (by repeat first | exact .head | apply Upd.tail) (by simp [List.map_set]) Tryz.sizeOf5 (by simp [hol]; omega) rfl rfl (Wn.none rfl) ?_
       intro w H
       refine NL (TN (SQ (RG (MV rfl rfl (MV rfl rfl ?_)))))
       refine WR.split (Ex.gtr rfl rfl) (Wn.none rfl) rfl rfl (fun h15_2 => ?_) (fun h15_2 => ?_)
       · refine NL (TN (CT rfl (RG (MV rfl rfl (ST (Ex.idxArr Tryz.underlying218 Tryz.sizeOf5 rfl rfl (by omega)) rfl ?_)))))
         refine WR.store1 (((outp (l.drop (3 * k)) j).set j 61).map encB) H rfl rfl (by repeat first | exact .head | apply Upd.tail) (by simp [List.map_set]; rfl) Tryz.sizeOf5 (by simp [hol]; omega) rfl rfl (Wn.none rfl) ?_
         intro w H
         refine NL (IB (TN (RG (ST (Ex.add64 rfl rfl (by omega)) rfl ?_))))
         refine MV rfl rfl (NL ?_)
         refine WQ.again1 (j + 1) ⟨rfl, rfl, rfl, rfl, rfl, rfl, trivial⟩ ?_ ?_
         · refine ⟨by omega, ?_⟩
           rw [← outp_set _ _ (by omega), ch, if_pos (by omega)]
           exact H
         · omega
       · refine NL (TN (CF rfl (SK (IB (TN (RG (ST (Ex.add64 rfl rfl (by omega)) rfl ?_)))))))
         refine MV rfl rfl (NL ?_)
         refine WQ.again1 (j + 1) ⟨rfl, rfl, rfl, rfl, rfl, rfl, trivial⟩ ?_ ?_
         · refine ⟨by omega, ?_⟩
           rw [← outp_set _ _ (by omega), ch, if_neg (by omega)]
           exact H
         · omega
     · refine NL (TN (SQ (CF rfl (WC.exit (WQ.thenExit (WQ.thenExit (WQ.exitHere (TN (SQ (SQ (RG (MV rfl rfl ?_))))))))))))
       first | refine WR.step (Ex.loadAgg H rfl (by repeat first | exact kMh | apply kMt) Tryz.isAgg218 Tryz.sizeOf218 (by rfl)) (Wn.none rfl) rfl rfl ?_ | refine WR.step (Ex.loadAggM H rfl (by assumption) Tryz.isAgg218 Tryz.sizeOf218 (by rfl)) (Wn.none rfl) rfl rfl ?_
       obtain rfl : j = 4 := by omega
       have hpre : (grpsTo l k ++ [outp (l.drop (3 * k)) 4]) <+: grps l := grpsTo_ini l k (by omega)
       refine WR.yield (hY _ _ _ _ _ hpre hzc (H.hand (.right (.right (Spl.whole _))))) rfl rfl (Wn.none rfl) rfl ?_
       rintro en w ⟨M, Lc, Hs, hcase⟩
       replace H := (H.back (.right (.right (Spl.whole _))) Hs).perm List.perm_append_comm
       simp only [List.cons_append, List.nil_append] at H
       replace hb := hb.mono Hs.ext.le
       rcases hcase with ⟨rfl, hzc⟩ | ⟨rfl, hzc⟩
       · refine ⟨true, rfl, ?_⟩
         refine ST (Ex.notT rfl) rfl (NL (TN (CF rfl (SK (TN (RG ?_))))))
         first | refine WR.step (Ex.loadM H rfl (by assumption) Tryz.isAgg88) (Wn.none rfl) rfl rfl ?_ | refine WR.step (Ex.load1 H rfl (by repeat first | exact kMh | apply kMt) Tryz.isAgg88 (by rfl)) (Wn.none rfl) rfl rfl ?_
         refine MV rfl rfl (WR.sliceSl (i := min 3 (l.drop (3 * k)).length) (j := (l.drop (3 * k)).length) Tryz.underlying88 Tryz.sizeOf5 (by assumption) rfl (.inl ⟨_, rfl, rfl⟩) (.inr ⟨rfl, rfl⟩) (by omega) (by omega) (Wn.none rfl) rfl ?_)
         intro v54 hs54
         refine WR.putV [_] H rfl rfl (by first | exact One.slice _ _ _ | exact Sl.one (by assumption) | exact StX.rowOne H (by repeat first | exact kMh | apply kMt)) (by repeat first | exact .head | apply Upd.tail) (by rfl) Tryz.sizeOf88 (by first | decide | (simp; done) | (simp; omega)) (Wn.none rfl) ?_
         intro w H
         refine NL (IB ?_)
         refine WQ.again3 (k + 1) (v54) (Lc) ⟨rfl, rfl, trivial⟩ ?_ ?_
         · refine ⟨by omega, M, H.drop (List.sublist_cons_self _ _), ?_, ?_⟩
           · have := drop_next l k (min 3 (l.drop (3 * k)).length) rfl
             rw [List.take_of_length_le (Nat.le_refl _), this] at hs54
             exact hs54
           · rw [grpsTo_next]; exact hzc
         · omega
       · refine ⟨false, rfl, ?_⟩
         refine ST (Ex.notF rfl) rfl (NL (TN (CT rfl (RT ?_))))
         refine WQ.ret0X rfl ?_
         subst hC
         exact ⟨_, M, Lc, rfl, H.drop (by exact (List.sublist_cons_self _ _).trans (List.sublist_cons_self _ _)), .inr ⟨_, hpre, hzc⟩⟩
 · refine NL (TN (CF rfl (WC.exit (WQ.thenExit (WQ.thenExit (WQ.exitHere (WQ.end0X rfl ?_)))))))
   subst hC
   rw [show k = (l.length + 2) / 3 by omega] at hzc
   exact ⟨_, M, Lc, rfl, H.drop (List.sublist_cons_self _ _), .inl hzc⟩
theorem groups_spec (bv : Value) (l : List UInt8) : CtO Tryz.prog 200 [bv] (fun M => Bs M bv l) (fun r _ its => ∃ bb, r = .func (.func 217) #[] #[ptr bb 0] ∧ its = [.blk bb (.cells #[bv] 88)]) := by
 refine CtO.of Tryz.func200 (enters Tryz.func200 (by kernel_rfl) rfl) rfl rfl rfl ?_
 intro w0 M0 H hp
 refine SQ (RG (WR.box [_] H rfl (One.cells (by first | exact One.slice _ _ _ | exact Sl.one (by assumption) | exact StX.rowOne H (by repeat first | exact kMh | apply kMt))) (Wn.none rfl) rfl ?_))
 intro b1 w H
 refine AS rfl rfl (NL (TN (SQ (RG (ST (Ex.makeFunc rfl) rfl (AS rfl rfl (NL (TN (RT ?_)))))))))
 refine WQ.ret1O rfl rfl H (List.Sublist.refl _) ?_
 exact ⟨_, rfl, rfl⟩
theorem encode_spec (bv : Value) (l : List UInt8) (hs : l.length ≤ 12000) : Ct Tryz.prog 171 [bv] (fun M => Bs M bv l) (fun r M => ∃ v, r = .tuple #[v, fault 0 0] ∧ Bs M v (encode l)) := by
 refine Ct.ofM Tryz.func171 (enters Tryz.func171 (by kernel_rfl) rfl) rfl rfl rfl ?_
 intro w0 M0 H hp
 refine SQ (RG (AS rfl rfl (WR.alloc [_, _] H Tryz.zeroValue27 rfl (Wn.none rfl) rfl ?_)))
 intro b3 w H
 refine NL (TN (SQ (SQ (RG (MV rfl rfl ?_)))))
 first | refine WR.step (Ex.lenSl Tryz.underlying88 (by assumption) rfl) (Wn.none rfl) rfl rfl ?_ | refine WR.step (Ex.lenRow Tryz.underlying88 H (by repeat first | exact kMh | apply kMt) rfl) (Wn.none rfl) rfl rfl ?_ | refine WR.step (Ex.lenSlice Tryz.underlying88 rfl) (Wn.none rfl) rfl rfl ?_
 refine WR.stepF (Ex.gtr rfl rfl) (by omega) (Wn.none rfl) rfl rfl ?_
 refine NL (TN (CF rfl (SK (TN (SQ (RG (WR.alloc [_] H Tryz.zeroValue88 rfl (Wn.none rfl) rfl ?_)))))))
 intro b4 w H
 refine NL (TN (SQ (RG (WR.alloc [_] H Tryz.zeroValue3 rfl (Wn.none rfl) rfl ?_))))
 intro b5 w H
 refine WR.store [_] H rfl rfl rfl (by repeat first | exact .head | apply Upd.tail) Tryz.sizeOf3 rfl (by rfl) (by rfl) (Wn.none rfl) ?_
 intro w H
 refine NL (TN (SQ (SQ (RG (MV rfl rfl ?_)))))
 replace H := H.newRow 5 encB
 refine WR.callO H (groups_spec _ _) rfl (by assumption) (Wn.none rfl) rfl ?_
 intro v12 M w its H hle hr12
 replace hp := hp.mono hle
 obtain ⟨bb, rfl, rfl⟩ := hr12
 simp only [List.cons_append, List.nil_append] at H
 refine NL (TN (BL ?_))
 refine WC.rangeFunc H rfl (groups_iter bb bv l (by omega)) (.left (.left (.left (.left (.right .nil))))) (hp) rfl (fun pre Lc _ => ∃ v, Lc = [RowI 5 encB v (encRun pre).1, .blk b5 (.cells #[encN (encRun pre).2] 3), .blk b4 (.cells #[v] 88)]) (fun _ _ _ _ => False) (fun _ _ _ _ h _ => h) (⟨_, rfl⟩) ?_ ?_ ?_
 · intro lid rc hrc pre x Lc w M hpre hz H
   obtain ⟨v, rfl⟩ := hz
   have hi4 := ini_len hpre
   have hiv := encRun_inv pre hi4.2.1
   have hx4 := hi4.1
   refine RG (WR.alloc [_, _, _, _] H Tryz.zeroValue218 rfl (Wn.none rfl) rfl ?_)
   intro b6 w H
   refine WR.store (x.map encB) H rfl rfl rfl (by repeat first | exact .head | apply Upd.tail) Tryz.sizeOf218 (by simp [hx4]) rfl (by simp; exact fun _ _ => rfl) (Wn.none rfl) ?_
   intro w H
   refine NL (WQ.begin hrc H (by repeat first | exact .head | apply Upd.tail) ?_)
   intro w H
   refine BL (SQ (SQ (RG ?_)))
   first | refine WR.step (Ex.loadM H rfl (by assumption) Tryz.isAgg3) (Wn.none rfl) rfl rfl ?_ | refine WR.step (Ex.load1 H rfl (by repeat first | exact kMh | apply kMt) Tryz.isAgg3 (by rfl)) (Wn.none rfl) rfl rfl ?_
   refine WR.split (Ex.eql rfl rfl) (Wn.none rfl) rfl rfl (fun h7_1 => ?_) (fun h7_1 => ?_)
   · refine NL (TN (CT rfl (SQ (RG ?_))))
     first | refine WR.step (Ex.loadM H rfl (by assumption) Tryz.isAgg88) (Wn.none rfl) rfl rfl ?_ | refine WR.step (Ex.load1 H rfl (by repeat first | exact kMh | apply kMt) Tryz.isAgg88 (by rfl)) (Wn.none rfl) rfl rfl ?_
     refine WR.lit (enc := encB) ty88 [13, 10] H rfl (by rfl) (fun _ => rfl) rfl rfl (Wn.none rfl) rfl ?_
     intro v17 M w H hle hl17
     refine WR.appendSl ty88 (fun _ => rfl) H rfl (fun _ => by repeat first | exact .head | apply Upd.tail) rfl (by assumption) (by first | omega | (simp only [List.length_append, List.length_cons, List.length_nil, List.length_take, List.length_drop]; omega)) (by first | (simp only [maxLen]; omega) | (simp only [maxLen, List.length_append, List.length_cons, List.length_nil, List.length_take, List.length_drop]; omega)) (Wn.none rfl) rfl ?_
     intro v18 w H
     refine WR.putV [_] H rfl rfl (by first | exact One.slice _ _ _ | exact Sl.one (by assumption) | exact StX.rowOne H (by repeat first | exact kMh | apply kMt)) (by repeat first | exact .head | apply Upd.tail) (by rfl) Tryz.sizeOf88 (by first | decide | (simp; done) | (simp; omega)) (Wn.none rfl) ?_
     intro w H
     refine NL (TN (RG (WR.store [_] H rfl rfl rfl (by repeat first | exact .head | apply Upd.tail) Tryz.sizeOf3 rfl (by rfl) (by rfl) (Wn.none rfl) ?_)))
     intro w H
     refine NL (TN (SQ (WC.draw (m := 4) rfl rfl H ?_)))
     intro w H
     refine WA.two (i := 0) (j := 1) (by kernel_rfl) rfl rfl ?_ ?_
     · first | refine WR.step (Ex.loadM H rfl (by assumption) Tryz.isAgg88) (Wn.none rfl) rfl rfl ?_ | refine WR.step (Ex.load1 H rfl (by repeat first | exact kMh | apply kMt) Tryz.isAgg88 (by rfl)) (Wn.none rfl) rfl rfl ?_
       refine NA (ON 1 (by kernel_rfl) rfl (WR.stepE (v' := .slice (some ⟨b6, 0, none⟩) x.length x.length) (Ex.sliceArr Tryz.underlying218 Tryz.sizeOf5 rfl) (by rw [hx4]) (Wn.none rfl) rfl rfl ?_))
       refine NA (ON 2 (by kernel_rfl) rfl (WR.appendBlk ty88 (fun _ => rfl) H rfl (fun _ => by repeat first | exact .head | apply Upd.tail) rfl (by repeat first | exact kMh | apply kMt) (by first | omega | (simp only [List.length_append, List.length_cons, List.length_nil, List.length_take, List.length_drop]; omega)) (by first | (simp only [maxLen]; omega) | (simp only [maxLen, List.length_append, List.length_cons, List.length_nil, List.length_take, List.length_drop]; omega)) (Wn.none rfl) rfl ?_))
       intro v21 w H
       refine NA (ON 3 (by kernel_rfl) rfl (WR.putV [_] H rfl rfl (by first | exact One.slice _ _ _ | exact Sl.one (by assumption) | exact StX.rowOne H (by repeat first | exact kMh | apply kMt)) (by repeat first | exact .head | apply Upd.tail) (by rfl) Tryz.sizeOf88 (by first | decide | (simp; done) | (simp; omega)) (Wn.none rfl) ?_))
       intro w H
       refine NA (WA.done (by kernel_rfl) (TN (RG ?_)))
       first | refine WR.step (Ex.loadM H rfl (by assumption) Tryz.isAgg3) (Wn.none rfl) rfl rfl ?_ | refine WR.step (Ex.load1 H rfl (by repeat first | exact kMh | apply kMt) Tryz.isAgg3 (by rfl)) (Wn.none rfl) rfl rfl ?_
       refine ST (Ex.add64 rfl rfl (by omega)) rfl ?_
       refine WR.store [_] H rfl rfl rfl (by repeat first | exact .head | apply Upd.tail) Tryz.sizeOf3 rfl (by rfl) (by rfl) (Wn.none rfl) ?_
       intro w H
       refine NL (IB ?_)
       refine WQ.roundOn hrc (H.drop (List.sublist_cons_self _ _)) ⟨v21, ?_⟩
       rw [encRun_next, encStep, if_pos (by omega)]
       rfl
     · refine WR.stepE (v' := .slice (some ⟨b6, 0, none⟩) x.length x.length) (Ex.sliceArr Tryz.underlying218 Tryz.sizeOf5 rfl) (by rw [hx4]) (Wn.none rfl) rfl rfl ?_
       refine NA (ON 0 (by kernel_rfl) rfl ?_)
       first | refine WR.step (Ex.loadM H rfl (by assumption) Tryz.isAgg88) (Wn.none rfl) rfl rfl ?_ | refine WR.step (Ex.load1 H rfl (by repeat first | exact kMh | apply kMt) Tryz.isAgg88 (by rfl)) (Wn.none rfl) rfl rfl ?_
       refine NA (ON 2 (by kernel_rfl) rfl (WR.appendBlk ty88 (fun _ => rfl) H rfl (fun _ => by repeat first | exact .head | apply Upd.tail) rfl (by repeat first | exact kMh | apply kMt) (by first | omega | (simp only [List.length_append, List.length_cons, List.length_nil, List.length_take, List.length_drop]; omega)) (by first | (simp only [maxLen]; omega) | (simp only [maxLen, List.length_append, List.length_cons, List.length_nil, List.length_take, List.length_drop]; omega)) (Wn.none rfl) rfl ?_))
       intro v21 w H
       refine NA (ON 3 (by kernel_rfl) rfl (WR.putV [_] H rfl rfl (by first | exact One.slice _ _ _ | exact Sl.one (by assumption) | exact StX.rowOne H (by repeat first | exact kMh | apply kMt)) (by repeat first | exact .head | apply Upd.tail) (by rfl) Tryz.sizeOf88 (by first | decide | (simp; done) | (simp; omega)) (Wn.none rfl) ?_))
       intro w H
       refine NA (WA.done (by kernel_rfl) (TN (RG ?_)))
       first | refine WR.step (Ex.loadM H rfl (by assumption) Tryz.isAgg3) (Wn.none rfl) rfl rfl ?_ | refine WR.step (Ex.load1 H rfl (by repeat first | exact kMh | apply kMt) Tryz.isAgg3 (by rfl)) (Wn.none rfl) rfl rfl ?_
       refine ST (Ex.add64 rfl rfl (by omega)) rfl ?_
       refine WR.store [_] H rfl rfl rfl (by repeat first | exact .head | apply Upd.tail) Tryz.sizeOf3 rfl (by rfl) (by rfl) (Wn.none rfl) ?_
       intro w H
       refine NL (IB ?_)
       refine WQ.roundOn hrc (H.drop (List.sublist_cons_self _ _)) ⟨v21, ?_⟩
       rw [encRun_next, encStep, if_pos (by omega)]
       rfl
   · refine NL (TN (CF rfl (SK (TN (SQ (WC.draw (m := 4) rfl rfl H ?_))))))
     intro w H
     refine WA.two (i := 0) (j := 1) (by kernel_rfl) rfl rfl ?_ ?_
     · first | refine WR.step (Ex.loadM H rfl (by assumption) Tryz.isAgg88) (Wn.none rfl) rfl rfl ?_ | refine WR.step (Ex.load1 H rfl (by repeat first | exact kMh | apply kMt) Tryz.isAgg88 (by rfl)) (Wn.none rfl) rfl rfl ?_
       refine NA (ON 1 (by kernel_rfl) rfl (WR.stepE (v' := .slice (some ⟨b6, 0, none⟩) x.length x.length) (Ex.sliceArr Tryz.underlying218 Tryz.sizeOf5 rfl) (by rw [hx4]) (Wn.none rfl) rfl rfl ?_))
       refine NA (ON 2 (by kernel_rfl) rfl (WR.appendBlk ty88 (fun _ => rfl) H rfl (fun _ => by repeat first | exact .head | apply Upd.tail) rfl (by repeat first | exact kMh | apply kMt) (by first | omega | (simp only [List.length_append, List.length_cons, List.length_nil, List.length_take, List.length_drop]; omega)) (by first | (simp only [maxLen]; omega) | (simp only [maxLen, List.length_append, List.length_cons, List.length_nil, List.length_take, List.length_drop]; omega)) (Wn.none rfl) rfl ?_))
       intro v21 w H
       refine NA (ON 3 (by kernel_rfl) rfl (WR.putV [_] H rfl rfl (by first | exact One.slice _ _ _ | exact Sl.one (by assumption) | exact StX.rowOne H (by repeat first | exact kMh | apply kMt)) (by repeat first | exact .head | apply Upd.tail) (by rfl) Tryz.sizeOf88 (by first | decide | (simp; done) | (simp; omega)) (Wn.none rfl) ?_))
       intro w H
       refine NA (WA.done (by kernel_rfl) (TN (RG ?_)))
       first | refine WR.step (Ex.loadM H rfl (by assumption) Tryz.isAgg3) (Wn.none rfl) rfl rfl ?_ | refine WR.step (Ex.load1 H rfl (by repeat first | exact kMh | apply kMt) Tryz.isAgg3 (by rfl)) (Wn.none rfl) rfl rfl ?_
       refine ST (Ex.add64 rfl rfl (by omega)) rfl ?_
       refine WR.store [_] H rfl rfl rfl (by repeat first | exact .head | apply Upd.tail) Tryz.sizeOf3 rfl (by rfl) (by rfl) (Wn.none rfl) ?_
       intro w H
       refine NL (IB ?_)
       refine WQ.roundOn hrc (H.drop (List.sublist_cons_self _ _)) ⟨v21, ?_⟩
       rw [encRun_next, encStep, if_neg (by omega)]
       rfl
     · refine WR.stepE (v' := .slice (some ⟨b6, 0, none⟩) x.length x.length) (Ex.sliceArr Tryz.underlying218 Tryz.sizeOf5 rfl) (by rw [hx4]) (Wn.none rfl) rfl rfl ?_
       refine NA (ON 0 (by kernel_rfl) rfl ?_)
       first | refine WR.step (Ex.loadM H rfl (by assumption) Tryz.isAgg88) (Wn.none rfl) rfl rfl ?_ | refine WR.step (Ex.load1 H rfl (by repeat first | exact kMh | apply kMt) Tryz.isAgg88 (by rfl)) (Wn.none rfl) rfl rfl ?_
       refine NA (ON 2 (by kernel_rfl) rfl (WR.appendBlk ty88 (fun _ => rfl) H rfl (fun _ => by repeat first | exact .head | apply Upd.tail) rfl (by repeat first | exact kMh | apply kMt) (by first | omega | (simp only [List.length_append, List.length_cons, List.length_nil, List.length_take, List.length_drop]; omega)) (by first | (simp only [maxLen]; omega) | (simp only [maxLen, List.length_append, List.length_cons, List.length_nil, List.length_take, List.length_drop]; omega)) (Wn.none rfl) rfl ?_))
       intro v21 w H
       refine NA (ON 3 (by kernel_rfl) rfl (WR.putV [_] H rfl rfl (by first | exact One.slice _ _ _ | exact Sl.one (by assumption) | exact StX.rowOne H (by repeat first | exact kMh | apply kMt)) (by repeat first | exact .head | apply Upd.tail) (by rfl) Tryz.sizeOf88 (by first | decide | (simp; done) | (simp; omega)) (Wn.none rfl) ?_))
       intro w H
       refine NA (WA.done (by kernel_rfl) (TN (RG ?_)))
       first | refine WR.step (Ex.loadM H rfl (by assumption) Tryz.isAgg3) (Wn.none rfl) rfl rfl ?_ | refine WR.step (Ex.load1 H rfl (by repeat first | exact kMh | apply kMt) Tryz.isAgg3 (by rfl)) (Wn.none rfl) rfl rfl ?_
       refine ST (Ex.add64 rfl rfl (by omega)) rfl ?_
       refine WR.store [_] H rfl rfl rfl (by repeat first | exact .head | apply Upd.tail) Tryz.sizeOf3 rfl (by rfl) (by rfl) (Wn.none rfl) ?_
       intro w H
       refine NL (IB ?_)
       refine WQ.roundOn hrc (H.drop (List.sublist_cons_self _ _)) ⟨v21, ?_⟩
       rw [encRun_next, encStep, if_neg (by omega)]
       rfl
 · intro Dm w M Lc H hle hz
   obtain ⟨v, rfl⟩ := hz
   simp only [List.cons_append, List.nil_append] at H
   have hiv := encRun_inv (grps l) (grps_all l)
   have hgl := grps_len l
   refine IB (TN (SQ (SQ (RG ?_))))
   first | refine WR.step (Ex.loadM H rfl (by assumption) Tryz.isAgg3) (Wn.none rfl) rfl rfl ?_ | refine WR.step (Ex.load1 H rfl (by repeat first | exact kMh | apply kMt) Tryz.isAgg3 (by rfl)) (Wn.none rfl) rfl rfl ?_
   refine WR.split (Ex.gtr rfl rfl) (Wn.none rfl) rfl rfl (fun h12_1 => ?_) (fun h12_1 => ?_)
   · refine NL (TN (CT rfl (RG ?_)))
     first | refine WR.step (Ex.loadM H rfl (by assumption) Tryz.isAgg88) (Wn.none rfl) rfl rfl ?_ | refine WR.step (Ex.load1 H rfl (by repeat first | exact kMh | apply kMt) Tryz.isAgg88 (by rfl)) (Wn.none rfl) rfl rfl ?_
     refine WR.lit (enc := encB) ty88 [13, 10] H rfl (by rfl) (fun _ => rfl) rfl rfl (Wn.none rfl) rfl ?_
     intro v27 M w H hle hl27
     refine WR.appendSl ty88 (fun _ => rfl) H rfl (fun _ => by repeat first | exact .head | apply Upd.tail) rfl (by assumption) (by first | omega | (simp only [List.length_append, List.length_cons, List.length_nil, List.length_take, List.length_drop]; omega)) (by first | (simp only [maxLen]; omega) | (simp only [maxLen, List.length_append, List.length_cons, List.length_nil, List.length_take, List.length_drop]; omega)) (Wn.none rfl) rfl ?_
     intro v28 w H
     refine WR.putV [_] H rfl rfl (by first | exact One.slice _ _ _ | exact Sl.one (by assumption) | exact StX.rowOne H (by repeat first | exact kMh | apply kMt)) (by repeat first | exact .head | apply Upd.tail) (by rfl) Tryz.sizeOf88 (by first | decide | (simp; done) | (simp; omega)) (Wn.none rfl) ?_
     intro w H
     refine NL (TN (SQ (WC.draw (m := 4) rfl rfl H ?_)))
     intro w H
     refine WA.two (i := 0) (j := 1) (by kernel_rfl) rfl rfl ?_ ?_
     · first | refine WR.step (Ex.loadM H rfl (by assumption) Tryz.isAgg88) (Wn.none rfl) rfl rfl ?_ | refine WR.step (Ex.load1 H rfl (by repeat first | exact kMh | apply kMt) Tryz.isAgg88 (by rfl)) (Wn.none rfl) rfl rfl ?_
       refine NA (ON 1 (by kernel_rfl) rfl (WR.call H (none_spec) rfl (trivial) (Wn.none rfl) rfl ?_))
       intro v30 M w H hle hr30
       replace hl27 := hl27.mono hle
       obtain rfl := hr30
       refine NA (ON 2 (by kernel_rfl) rfl (AS rfl rfl (NA (ON 3 (by kernel_rfl) rfl (WR.store [_, _] H rfl rfl rfl (by repeat first | exact .head | apply Upd.tail) Tryz.sizeOf27 rfl (by rfl) (by rfl) (Wn.none rfl) ?_)))))
       intro w H
       refine NA (WA.done (by kernel_rfl) (TN (RT ?_)))
       obtain ⟨M, hle, hf, H⟩ := H.freezeRow (v := v28) (enc := encB) (t := 5) (by repeat first | exact .head | apply Rem.tail)
       refine WQ.retM1 H (by repeat first | exact .head | apply Rem.tail) ?_
       intro w H
       refine ⟨_, resv_run2 rfl rfl ⟨_, rfl, H.loadAgg (by repeat first | exact kMh | apply kMt) Tryz.isAgg27 Tryz.sizeOf27 (by rfl)⟩, _, _, rfl, H.ext, ?_⟩
       refine ⟨_, rfl, ?_⟩
       rw [encode, if_pos (by omega)]
       exact hf
     · refine WR.call H (none_spec) rfl (trivial) (Wn.none rfl) rfl ?_
       intro v30 M w H hle hr30
       replace hl27 := hl27.mono hle
       obtain rfl := hr30
       refine NA (ON 0 (by kernel_rfl) rfl ?_)
       first | refine WR.step (Ex.loadM H rfl (by assumption) Tryz.isAgg88) (Wn.none rfl) rfl rfl ?_ | refine WR.step (Ex.load1 H rfl (by repeat first | exact kMh | apply kMt) Tryz.isAgg88 (by rfl)) (Wn.none rfl) rfl rfl ?_
       refine NA (ON 2 (by kernel_rfl) rfl (AS rfl rfl (NA (ON 3 (by kernel_rfl) rfl (WR.store [_, _] H rfl rfl rfl (by repeat first | exact .head | apply Upd.tail) Tryz.sizeOf27 rfl (by rfl) (by rfl) (Wn.none rfl) ?_)))))
       intro w H
       refine NA (WA.done (by kernel_rfl) (TN (RT ?_)))
       obtain ⟨M, hle, hf, H⟩ := H.freezeRow (v := v28) (enc := encB) (t := 5) (by repeat first | exact .head | apply Rem.tail)
       refine WQ.retM1 H (by repeat first | exact .head | apply Rem.tail) ?_
       intro w H
       refine ⟨_, resv_run2 rfl rfl ⟨_, rfl, H.loadAgg (by repeat first | exact kMh | apply kMt) Tryz.isAgg27 Tryz.sizeOf27 (by rfl)⟩, _, _, rfl, H.ext, ?_⟩
       refine ⟨_, rfl, ?_⟩
       rw [encode, if_pos (by omega)]
       exact hf
   · refine NL (TN (CF rfl (SK (TN (SQ (WC.draw (m := 4) rfl rfl H ?_))))))
     intro w H
     refine WA.two (i := 0) (j := 1) (by kernel_rfl) rfl rfl ?_ ?_
     · first | refine WR.step (Ex.loadM H rfl (by assumption) Tryz.isAgg88) (Wn.none rfl) rfl rfl ?_ | refine WR.step (Ex.load1 H rfl (by repeat first | exact kMh | apply kMt) Tryz.isAgg88 (by rfl)) (Wn.none rfl) rfl rfl ?_
       refine NA (ON 1 (by kernel_rfl) rfl (WR.call H (none_spec) rfl (trivial) (Wn.none rfl) rfl ?_))
       intro v30 M w H hle hr30
       obtain rfl := hr30
       refine NA (ON 2 (by kernel_rfl) rfl (AS rfl rfl (NA (ON 3 (by kernel_rfl) rfl (WR.store [_, _] H rfl rfl rfl (by repeat first | exact .head | apply Upd.tail) Tryz.sizeOf27 rfl (by rfl) (by rfl) (Wn.none rfl) ?_)))))
       intro w H
       refine NA (WA.done (by kernel_rfl) (TN (RT ?_)))
       obtain ⟨M, hle, hf, H⟩ := H.freezeRow (v := v) (enc := encB) (t := 5) (by repeat first | exact .head | apply Rem.tail)
       refine WQ.retM1 H (by repeat first | exact .head | apply Rem.tail) ?_
       intro w H
       refine ⟨_, resv_run2 rfl rfl ⟨_, rfl, H.loadAgg (by repeat first | exact kMh | apply kMt) Tryz.isAgg27 Tryz.sizeOf27 (by rfl)⟩, _, _, rfl, H.ext, ?_⟩
       refine ⟨_, rfl, ?_⟩
       rw [encode, if_neg (by omega)]
       exact hf
     · refine WR.call H (none_spec) rfl (trivial) (Wn.none rfl) rfl ?_
       intro v30 M w H hle hr30
       obtain rfl := hr30
       refine NA (ON 0 (by kernel_rfl) rfl ?_)
       first | refine WR.step (Ex.loadM H rfl (by assumption) Tryz.isAgg88) (Wn.none rfl) rfl rfl ?_ | refine WR.step (Ex.load1 H rfl (by repeat first | exact kMh | apply kMt) Tryz.isAgg88 (by rfl)) (Wn.none rfl) rfl rfl ?_
       refine NA (ON 2 (by kernel_rfl) rfl (AS rfl rfl (NA (ON 3 (by kernel_rfl) rfl (WR.store [_, _] H rfl rfl rfl (by repeat first | exact .head | apply Upd.tail) Tryz.sizeOf27 rfl (by rfl) (by rfl) (Wn.none rfl) ?_)))))
       intro w H
       refine NA (WA.done (by kernel_rfl) (TN (RT ?_)))
       obtain ⟨M, hle, hf, H⟩ := H.freezeRow (v := v) (enc := encB) (t := 5) (by repeat first | exact .head | apply Rem.tail)
       refine WQ.retM1 H (by repeat first | exact .head | apply Rem.tail) ?_
       intro w H
       refine ⟨_, resv_run2 rfl rfl ⟨_, rfl, H.loadAgg (by repeat first | exact kMh | apply kMt) Tryz.isAgg27 Tryz.sizeOf27 (by rfl)⟩, _, _, rfl, H.ext, ?_⟩
       refine ⟨_, rfl, ?_⟩
       rw [encode, if_neg (by omega)]
       exact hf
 · intro Dm w M Lc c pre H hle hpre hz
   exact hz.elim
end Go.Proofs.YtkmjdamkifbddaaGreatDoor
end
section
namespace Go.Ph.Pl
theorem drop_cons {α : Type} {l : List α} {i : Nat} (h : i < l.length) : l.drop i = l[i] :: l.drop (i + 1) := List.drop_eq_getElem_cons h
theorem scanL {α β : Type} (L : Nat → Int → Option β) (l : List α) (p : α → Bool) (stop r : β) (hend : ∀ m, L (m + 1) (l.length : Int) = some stop)
 (hstep : ∀ m i (h : i < l.length), L (m + 1) (i : Int) = if p l[i] = true then some r else L m ((i + 1 : Nat) : Int)) :
 ∀ (k i m : Nat), l.length - i ≤ k → k < m → i ≤ l.length → L m (i : Int) = some (if (l.drop i).any p = true then r else stop)
 | 0, i, m, h1, h2, h3 => by
   obtain ⟨m, rfl⟩ : ∃ k, m = k + 1 := ⟨m - 1, by omega⟩
   obtain rfl : i = l.length := by omega
   rw [hend, List.drop_length]; rfl
 | k + 1, i, m, h1, h2, h3 => by
   obtain ⟨m, rfl⟩ : ∃ k, m = k + 1 := ⟨m - 1, by omega⟩
   by_cases hi : i < l.length
   · rw [hstep m i hi, drop_cons hi, List.any_cons]
     by_cases hp : p l[i] = true
     · rw [if_pos hp, hp]; rfl
     · rw [if_neg hp, scanL L l p stop r hend hstep k (i + 1) m (by omega) (by omega) (by omega)]
       have : p l[i] = false := by simpa using hp
       rw [this]; rfl
   · obtain rfl : i = l.length := by omega
     rw [hend, List.drop_length]; rfl
theorem scan0 {α β : Type} {L : Nat → Int → Option β} {l : List α} {p : α → Bool} {stop r : β} {m : Nat} (hm : l.length < m) (hend : ∀ m, L (m + 1) (l.length : Int) = some stop)
 (hstep : ∀ m i (h : i < l.length), L (m + 1) (i : Int) = if p l[i] = true then some r else L m ((i + 1 : Nat) : Int)) : L m 0 = some (if l.any p = true then r else stop) := by
 have := scanL L l p stop r hend hstep l.length 0 m (by omega) hm (by omega)
 simpa using this
theorem FU_gt {n : Nat} (h : n ≤ 9223372036854775807) : n < FU := by rw [FU_eq]; omega
end Go.Ph.Pl
end
section
namespace Go.Ph.Pf
open Go.Ph.Pl
def Y0J (p0 : List UInt8) : Option Bool :=
 if p0.length ≤ 4611686018427387904 then some (Chs.vld p0) else none
def Y34 (p0 : List UInt8) : Option (List UInt8) :=
 if p0.length ≤ 9223372036854775807 then some (Chs.lower p0) else none
def Y2h (p0 : List UInt8) (p1 : List UInt8) : Option (List UInt8 × (Int × Int)) :=
 if p0.length ≤ 9223372036854775807 ∧ p1.length ≤ 12000 then (match Chs.setOf p0 with | some k => some (Chs.decoded k p1, (0, 0)) | none => some ([], (18, -2))) else none
def Y30 (p0 : List UInt8) : Option (List UInt8 × (Int × Int)) :=
 if p0.length ≤ 12000 then some (B64.encode p0, (0, 0)) else none
def Y2P (p0 : List UInt8) : Option (List UInt8 × (Int × Int)) :=
 if p0.length ≤ 24000 then some (B64.lenient p0, (0, 0)) else none
def Y0t (p0 : List UInt8) (p1 : UInt8) : Option Int :=
 some (ixB p0 p1)
def Y0A (p0 : List (List UInt8)) (p1 : List UInt8) : Option (List UInt8) :=
 if p0.length ≤ 140737488355328 ∧ (jn p1 p0).length ≤ 140737488355328 then some (jn p1 p0) else none
def Y1F (p0 : List UInt8) (p1 : List UInt8) (p2 : Int) : Option (List (List UInt8)) :=
 if p0.length < 4294967281 ∧ 1 ≤ p1.length ∧ 1 ≤ p2 ∧ p2 ≤ 9223372036854775807 then some (Lib.splitN p0 p1 p2.toNat) else none
def Y0S (p0 : List UInt8) (p1 : List UInt8) (p2 : List UInt8) : Option (List UInt8) :=
 if p0.length < 4294967281 ∧ 1 ≤ p1.length ∧ p0.length + p0.length * p2.length ≤ 140737488355328 then some (Lib.replaceAll p0 p1 p2) else none
def Y1f (p0 : List UInt8) (p1 : List UInt8) : Option Bool :=
 if p0.length < 4294967281 then some (Lib.contains p0 p1) else none
def Y1y (p0 : List UInt8) (p1 : List UInt8) : Option Int :=
 if p0.length < 4294967281 then some (Lib.index p0 p1) else none
def Y07 (p0 : Int) (p1 : Int) : Option (Int × Int) :=
 some (p0, p1)
def Y0P (p0 : List UInt8) (p1 : List UInt8) : Option Bool :=
 ((if (p1.length : Int) ≤ (p0.length : Int) then (cut p0 0 (p1.length : Int)).bind fun s5 => some (decide (s5 = p1)) else some false)).bind fun b3 => some b3
def Y0E (p0 : List UInt8) (p1 : List UInt8) : Option Bool :=
 (Y0P p0 p1).bind fun b1 => some b1
def Y0B (p0 : List UInt8) (p1 : List UInt8) : Option Bool :=
 ((if (p1.length : Int) ≤ (p0.length : Int) then (chk ((p0.length : Int) - (p1.length : Int))).bind fun n5 => (cut p0 n5 (p0.length : Int)).bind fun s6 => some (decide (s6 = p1)) else some false)).bind fun b3 => some b3
def Y13 (p0 : List UInt8) (p1 : List UInt8) : Option Bool :=
 (Y0B p0 p1).bind fun b1 => some b1
def Y1n (p0 : List UInt8) : Nat → Int → Option (Unit ⊕ Bool)
 | 0, _ => none
 | m4 + 1, n3 => (if n3 < (p0.length : Int) then ((idx p0 n3).bind fun c9 => (if c9.toNat < 32 then some true else (idx p0 n3).bind fun c11 => some (decide (126 < c11.toNat)))).bind fun b8 => (if b8 = true then some (.inr false) else (chk (n3 + 1)).bind fun n14 => Y1n p0 m4 n14) else some (.inl ()))
def Y2F (p0 : List UInt8) : Option Bool :=
 ((Y1n p0 FU 0 : Option (Unit ⊕ Bool))).bind fun o27 => (match o27 with | .inl _ => ((Y0E p0 [32]).bind fun b19 => (if b19 = true then some false else (Y13 p0 [32]).bind fun b21 => (if b21 = true then some false else (Y1f p0 [61, 63]).bind fun b23 => some (!b23)))).bind fun b18 => some b18 | .inr r26 => some r26)
def Y0z  : Option (Int × Int) :=
 some (0, 0)
def Y33 (p0 : List UInt8) : Option (List UInt8) :=
 (Y30 p0).bind fun (l1, (n2, n3)) => (Y0S l1 [13, 10] []).bind fun s5 => some s5
def Y0m (p0 : List UInt8) (p1 : UInt8) : Option (Bool × List UInt8) :=
 (app 1 p0 ([p1] : List UInt8)).bind fun l2 => some (true, l2)
def Y1z (p0 : UInt8) : Option Bool :=
 ((if 97 ≤ p0.toNat then (if p0.toNat ≤ 122 then some true else (if 65 ≤ p0.toNat then (if p0.toNat ≤ 90 then some true else (if 48 ≤ p0.toNat then some (decide (p0.toNat ≤ 57)) else some false)) else (if 48 ≤ p0.toNat then some (decide (p0.toNat ≤ 57)) else some false))) else (if 65 ≤ p0.toNat then (if p0.toNat ≤ 90 then some true else (if 48 ≤ p0.toNat then some (decide (p0.toNat ≤ 57)) else some false)) else (if 48 ≤ p0.toNat then some (decide (p0.toNat ≤ 57)) else some false)))).bind fun b3 => some b3
def Y1v (p0 : List UInt8) : Option (List UInt8) :=
 some p0
def Y3p (p0 : UInt8) : Option (UInt8 × Bool) :=
 ((if 48 ≤ p0.toNat then some (decide (p0.toNat ≤ 57)) else some false)).bind fun b3 => (if b3 = true then some ((p0 - (48 : UInt8)), true) else ((if 65 ≤ p0.toNat then some (decide (p0.toNat ≤ 70)) else some false)).bind fun b9 => (if b9 = true then some (((p0 - (65 : UInt8)) + (10 : UInt8)), true) else ((if 97 ≤ p0.toNat then some (decide (p0.toNat ≤ 102)) else some false)).bind fun b15 => (if b15 = true then some (((p0 - (97 : UInt8)) + (10 : UInt8)), true) else some (0, false))))
def Y2I (p0 : List UInt8) : Option (UInt8 × Bool) :=
 (if (p0.length : Int) < (2 : Int) then some (0, false) else (idx p0 0).bind fun c2 => (Y3p c2).bind fun (c3, b4) => (idx p0 1).bind fun c6 => (Y3p c6).bind fun (c7, b8) => ((if b4 = true then some (((UInt8.ofNat (c3.toNat * 2 ^ 4)) ||| c7), b8) else some (((UInt8.ofNat (c3.toNat * 2 ^ 4)) ||| c7), false))).bind fun (c12, b13) => some (c12, b13))
def Y0K (p1 : List UInt8) : Nat → List UInt8 → Int → Option (List UInt8 ⊕ (List UInt8 × Bool))
 | 0, _, _ => none
 | m29 + 1, l26, n28 => (if n28 < (p1.length : Int) then (idx p1 n28).bind fun c32 => (if c32 = 95 then (app 1 l26 ([32] : List UInt8)).bind fun l34 => (chk (n28 + 1)).bind fun n35 => Y0K p1 m29 l34 n35 else (idx p1 n28).bind fun c36 => (if c36 = 61 then (chk (n28 + 1)).bind fun n38 => (cut p1 n38 (p1.length : Int)).bind fun s39 => (Y2I s39).bind fun (c40, b41) => (if b41 = true then (app 1 l26 ([c40] : List UInt8)).bind fun l44 => (chk (n28 + 2)).bind fun n45 => (chk (n45 + 1)).bind fun n46 => Y0K p1 m29 l44 n46 else some (.inr ([], false))) else ((idx p1 n28).bind fun c50 => (if 33 ≤ c50.toNat then (idx p1 n28).bind fun c52 => some (decide (c52.toNat ≤ 126)) else some false)).bind fun b49 => (if b49 = true then (idx p1 n28).bind fun c55 => (app 1 l26 ([c55] : List UInt8)).bind fun l56 => (chk (n28 + 1)).bind fun n57 => Y0K p1 m29 l56 n57 else some (.inr ([], false))))) else some (.inl l26))
def Y2y (p0 : List UInt8) (p1 : List UInt8) : Option (List UInt8 × Bool) :=
 ((if p0 = [66] then some (decide (p0 = [66])) else some (decide (p0 = [98])))).bind fun b3 => (if b3 = true then (toB p1).bind fun l7 => (Y2P l7).bind fun (l8, (n9, n10)) => (Y33 l8).bind fun s12 => some (l8, decide (s12 = p1)) else ((if p0 = [81] then some (decide (p0 = [81])) else some (decide (p0 = [113])))).bind fun b16 => (if b16 = true then ((Y0K p1 FU [] 0 : Option (List UInt8 ⊕ (List UInt8 × Bool)))).bind fun o61 => (match o61 with | .inl l23 => some (l23, true) | .inr r60 => some r60) else some ([], false)))
def Y19 (p0 : (Int × Int)) : Option Bool :=
 some (!decide (p0.1 = (0 : Int)))
def Y29 (p0 : List UInt8) : Option (List UInt8 × Int × Bool) :=
 (Y0E p0 [61, 63]).bind fun b1 => (if b1 = true then (cut p0 2 (min (p0.length : Int) 75)).bind fun s4 => (Y1F s4 [63] 4).bind fun l5 => ((if (l5.length : Int) < (4 : Int) then some true else (idx l5 3).bind fun a11 => (Y0E a11 [61]).bind fun b12 => some (!b12))).bind fun b9 => (if b9 = true then some ([], 0, false) else (idx l5 1).bind fun a16 => (idx l5 2).bind fun a17 => (Y2y a16 a17).bind fun (l18, b19) => (idx l5 0).bind fun a21 => (Y2h a21 l18).bind fun (s22, (n23, n24)) => ((idx l5 0).bind fun a31 => (chk ((2 : Int) + (a31.length : Int))).bind fun n32 => (idx l5 1).bind fun a33 => (chk (n32 + (a33.length : Int))).bind fun n34 => (idx l5 2).bind fun a35 => (chk (n34 + (a35.length : Int))).bind fun n36 => (chk (n36 + 4)).bind fun n37 => (if b19 = true then (Y19 (n23, n24)).bind fun b38 => some (s22, n37, !b38) else some (s22, n37, false))).bind fun (s28, n29, b30) => some (s28, n29, b30)) else some ([], 0, false))
def Y14 (p0 : UInt8) : Option Bool :=
 ((if p0 = 32 then some true else some (decide (p0 = 9)))).bind fun b3 => some b3
def Y08 (p0 : List UInt8) (p1 : List UInt8) : Option (Int × Bool × List UInt8) :=
 (app 1 p0 p1).bind fun l2 => some ((p1.length : Int), true, l2)
def Y04 (p0 : List UInt8) : Nat → List UInt8 → Int → Int → Option (List UInt8 × Int)
 | 0, _, _, _ => none
 | m20 + 1, l16, n18, n19 => (if n19 < (p0.length : Int) then (cut p0 n19 (p0.length : Int)).bind fun s23 => (Y29 s23).bind fun (s24, n25, b26) => (if b26 = true then (Y08 l16 s24).bind fun (n67, b68, l69) => (chk (n19 + n25)).bind fun n71 => Y04 p0 m20 l69 n71 n71 else ((if n18 < (0 : Int) then (idx p0 n19).bind fun c37 => (Y0m l16 c37).bind fun (b38, l39) => some l39 else some l16)).bind fun l34 => ((if (0 : Int) ≤ n18 then (idx p0 n19).bind fun c46 => (Y14 c46).bind fun b47 => some (!b47) else some false)).bind fun b44 => ((if b44 = true then (chk (n19 + 1)).bind fun n59 => (cut p0 n18 n59).bind fun s60 => (Y08 l34 s60).bind fun (n61, b62, l63) => some (l63, (-1)) else some (l34, n18))).bind fun (l55, n57) => (chk (n19 + 1)).bind fun n66 => Y04 p0 m20 l55 n57 n66) else some (l16, n18))
def Y1a (p0 : List UInt8) : Option (List UInt8 × (Int × Int)) :=
 (if (4000 : Int) < (p0.length : Int) then (Y07 1 (-1)).bind fun (n2, n3) => some ([], (n2, n3)) else (Y04 p0 FU [] (-1) 0).bind fun (l10, n12) => ((if (0 : Int) ≤ n12 then (cut p0 n12 (p0.length : Int)).bind fun s81 => (Y08 l10 s81).bind fun (n82, b83, l84) => some l84 else some l10)).bind fun l78 => (Y1v l78).bind fun s87 => (Y0z).bind fun (n89, n90) => some (s87, (n89, n90)))
end Go.Ph.Pf
end
section
namespace Go.Ph.Pf
open Go.Ph.Pl
def Y1P (p0 : List UInt8) (p1 : (UInt8 → Option Bool)) : Nat → Int → Option (Unit ⊕ Bool)
 | 0, _ => none
 | m4 + 1, n3 => (if n3 < (p0.length : Int) then (idx p0 n3).bind fun c6 => (p1 c6).bind fun b7 => (if b7 = true then (chk (n3 + 1)).bind fun n10 => Y1P p0 p1 m4 n10 else some (.inr false)) else some (.inl ()))
def Y2T (p0 : List UInt8) (p1 : (UInt8 → Option Bool)) : Option Bool :=
 ((Y1P p0 p1 FU 0 : Option (Unit ⊕ Bool))).bind fun o13 => (match o13 with | .inl _ => some true | .inr r12 => some r12)
end Go.Ph.Pf
end
section
namespace Go.Ph.Pf
open Go.Ph.Pl
def Y0F (p0 : List UInt8) : Option (Int × Int) :=
 if p0 ≠ [] then some (((Utf.dr p0).1 : Int), ((Utf.dr p0).2 : Int)) else none
def Y1k (p0 : List UInt8) (p1 : List UInt8) : Option Int :=
 if p1.length = 1 ∧ p0.length ≤ 1000000 then some ((p0.countP fun c => decide (p1 = [c]) : Nat) : Int) else none
def tabk (k : Nat) : List (Option (List UInt8)) := (List.range 256).map fun n => if n = 34 ∧ 1 ≤ k then some [92, 34] else if n = 92 ∧ 2 ≤ k then some [92, 92] else none
def trk (k : Nat) : List (List UInt8) := [[34], [92]].take k
def Y0u (p0 : List (List UInt8)) : Nat → Bool → Int → Option (Bool ⊕ ((List (Option (List UInt8)) × List (List UInt8)) × List (List UInt8)))
 | 0, _, _ => none
 | m15 + 1, b13, n14 => (if n14 < (p0.length : Int) then (idx p0 n14).bind fun a17 => (if (a17.length : Int) = (1 : Int) then (chk (n14 + 1)).bind fun n19 => (idx p0 n19).bind fun a20 => (if (a20.length : Int) = (1 : Int) then (chk (n14 + 2)).bind fun n23 => Y0u p0 m15 b13 n23 else (chk (n14 + 2)).bind fun n22 => Y0u p0 m15 false n22) else none) else some (.inl b13))
def Y22 (p0 : List (List UInt8)) : Option ((List (Option (List UInt8)) × List (List UInt8)) × List (List UInt8)) :=
 ((if (p0.length : Int) = (2 : Int) then (idx p0 0).bind fun a5 => some (decide ((1 : Int) < (a5.length : Int))) else some false)).bind fun b3 => (if b3 = true then none else ((Y0u p0 FU true 0 : Option (Bool ⊕ ((List (Option (List UInt8)) × List (List UInt8)) × List (List UInt8))))).bind fun o30 => (match o30 with | .inl b12 => (if b12 = true then none else (if p0 = [[92], [92, 92], [34], [92, 34]] then some ((tabk 2, trk 2), p0) else none)) | .inr r29 => some r29))
def Y00 (p0 : (List (Option (List UInt8)) × List (List UInt8))) (p1 : List UInt8) : Nat → Int → Bool → Int → Option (Int × Bool)
 | 0, _, _, _ => none
 | m14 + 1, n11, b12, n13 => (if n13 < (p0.2.length : Int) then (idx p0.2 n13).bind fun a16 => (Y1k p1 a16).bind fun n17 => (if n17 = (0 : Int) then (chk (n13 + 1)).bind fun n26 => Y00 p0 p1 m14 n11 b12 n26 else (idx a16 0).bind fun c20 => (idxO p0.1 (c20.toNat : Int)).bind fun q21 => (chk (((q21.getD []).length : Int) - 1)).bind fun n22 => (chk (n17 * n22)).bind fun n23 => (chk (n11 + n23)).bind fun n24 => (chk (n13 + 1)).bind fun n25 => Y00 p0 p1 m14 n24 true n25) else some (n11, b12))
def Y01 (p0 : (List (Option (List UInt8)) × List (List UInt8))) (p1 : List UInt8) : Nat → Int → Bool → Int → Option (Int × Bool)
 | 0, _, _, _ => none
 | m35 + 1, n32, b33, n34 => (if n34 < (p1.length : Int) then (idx p1 n34).bind fun c37 => (idxO p0.1 (c37.toNat : Int)).bind fun q38 => (if q38.isSome = true then (idxO p0.1 (c37.toNat : Int)).bind fun q40 => (chk (((q40.getD []).length : Int) - 1)).bind fun n41 => (chk (n32 + n41)).bind fun n42 => (chk (n34 + 1)).bind fun n43 => Y01 p0 p1 m35 n42 true n43 else (chk (n34 + 1)).bind fun n44 => Y01 p0 p1 m35 n32 b33 n44) else some (n32, b33))
def Y02 (p0 : (List (Option (List UInt8)) × List (List UInt8))) (p1 : List UInt8) : Nat → List UInt8 → Int → Int → Option (List UInt8)
 | 0, _, _, _ => none
 | m56 + 1, l53, n54, n55 => (if n55 < (p1.length : Int) then (idx p1 n55).bind fun c58 => (idxO p0.1 (c58.toNat : Int)).bind fun q59 => (if q59.isSome = true then (frm l53 n54).bind fun n61 => (idxO p0.1 (c58.toNat : Int)).bind fun q62 => (cpyO l53 n61 (q62.getD [])).bind fun (l63, n64) => (chk (n54 + n64)).bind fun n66 => (chk (n55 + 1)).bind fun n67 => Y02 p0 p1 m56 l63 n66 n67 else (idx l53 n54).bind fun c68 => (put l53 n54 c58).bind fun l69 => (chk (n54 + 1)).bind fun n70 => (chk (n55 + 1)).bind fun n71 => Y02 p0 p1 m56 l69 n70 n71) else some l53)
def Y0s (p0 : (List (Option (List UInt8)) × List (List UInt8))) (p1 : List UInt8) : Option (List UInt8) :=
 (chk ((p0.2.length : Int) * 8)).bind fun n1 => ((if n1 ≤ (p1.length : Int) then (Y00 p0 p1 FU (p1.length : Int) false 0).bind fun (n9, b10) => some (n9, b10) else (Y01 p0 p1 FU (p1.length : Int) false 0).bind fun (n30, b31) => some (n30, b31))).bind fun (n4, b5) => (if b5 = true then (mkS 1 n4 n4 (0 : UInt8)).bind fun l48 => (Y02 p0 p1 FU l48 0 0).bind fun l52 => some l52 else some p1)
def Y1t (p0 : List (List UInt8)) : Option Unit :=
 if p0 = [[92], [92, 92], [34], [92, 34]] then some () else none
def Y0R (p0 : List UInt8) : Option (List UInt8) :=
 Y0s (tabk 2, trk 2) p0
def Y1i (p0 : List (List UInt8 × List UInt8 × List UInt8)) : Option (List (List UInt8 × List UInt8 × List UInt8)) := app 48 [] p0
def Y1L (p0 : List UInt8) : Option Int :=
 (if (500 : Int) < (p0.length : Int) then some 1 else (Y0J p0).bind fun b2 => (if b2 = true then some 0 else some 5))
def Y26 (p0 : UInt8) : Option Bool :=
 ((if 32 ≤ p0.toNat then some (decide (p0.toNat ≤ 126)) else some false)).bind fun b3 => some b3
def Y1B (p0 : List UInt8) : Option Bool :=
 ((if p0 = [] then some false else (if (p0.length : Int) ≤ (60 : Int) then (Y2T p0 Y26).bind fun b6 => some b6 else some false))).bind fun b3 => some b3
def Y1b {σ : Type} (Y : σ → (List UInt8) → Option (σ × Bool)) : Nat → List UInt8 → σ → Option ((List UInt8 × σ) ⊕ σ)
 | 0, _, _ => none
 | m8 + 1, s6, s7 => (if (0 : Int) < (s6.length : Int) then (Y0F s6).bind fun (n10, n11) => (cut s6 0 n11).bind fun s13 => (Y s7 s13).bind fun (s14, b15) => (if b15 = true then (cut s6 n11 (s6.length : Int)).bind fun s18 => Y1b Y m8 s18 s14 else some (.inr s14)) else some (.inl (s6, s7)))
def Y0q {σ : Type} (Y : σ → (List UInt8) → Option (σ × Bool)) (p1 : List UInt8) (p3 : Int) : Nat → List UInt8 → σ → Option ((List UInt8 × σ) ⊕ σ)
 | 0, _, _ => none
 | m28 + 1, s26, s27 => (Y1y s26 p1).bind fun n29 => (if n29 < (0 : Int) then some (.inl (s26, s27)) else (chk (n29 + p3)).bind fun n32 => (cut s26 0 n32).bind fun s33 => (Y s27 s33).bind fun (s34, b35) => (if b35 = true then (chk (n29 + (p1.length : Int))).bind fun n38 => (cut s26 n38 (s26.length : Int)).bind fun s39 => Y0q Y p1 p3 m28 s39 s34 else some (.inr s34)))
def Y1d (p1 : List UInt8) (p2 : List UInt8) (p3 : Int) (σ : Type) (Y : σ → (List UInt8) → Option (σ × Bool)) (s0 : σ) : Option σ :=
 (if (p1.length : Int) = (0 : Int) then ((Y1b Y FU p2 s0 : Option ((List UInt8 × σ) ⊕ σ))).bind fun o21 => (match o21 with | .inl (s4, s5) => some s5 | .inr r20 => some r20) else ((Y0q Y p1 p3 FU p2 s0 : Option ((List UInt8 × σ) ⊕ σ))).bind fun o45 => (match o45 with | .inl (s24, s25) => (Y s25 s24).bind fun (s41, b42) => some s41 | .inr r44 => some r44))
def Y1w (p1 : (UInt8 → Option Bool)) (s : (Bool × Nat)) (x6 : List UInt8) : Option (Bool × Nat) :=
 match s with
 | (b1, _) => ((if x6 = [] then some true else (Y2T x6 p1).bind fun b12 => some (!b12))).bind fun b10 => (if b10 = true then some (false, 1) else some (b1, 0))
def Y2b (p0 : List UInt8) (p1 : (UInt8 → Option Bool)) : Option Bool :=
 (Y1d [46] p0 0 (Bool × Nat) (stepY exStop (Y1w p1)) (false, 0)).bind fun (b1, tg3) => (if tg3 = 0 then some true else (if tg3 = 1 then some b1 else none))
def Y1U (p0 : UInt8) : Option Bool :=
 ((Y1z p0).bind fun b4 => (if b4 = true then some true else some (decide (p0 = 45)))).bind fun b3 => some b3
def Y21 (p0 : List UInt8) : Option Bool :=
 ((if (p0.length : Int) ≤ (60 : Int) then (Y2b p0 Y1U).bind fun b5 => some b5 else some false)).bind fun b3 => some b3
def Y1h (p0 : (List UInt8 × List UInt8 × List UInt8)) : Option (Int × Int) :=
 (Y1L p0.1).bind fun n1 => (if n1 = (0 : Int) then (Y1B p0.2.1).bind fun b7 => (if b7 = true then (Y21 p0.2.2).bind fun b13 => (if b13 = true then (Y0z).bind fun (n19, n20) => some (n19, n20) else (Y07 10 (-5)).bind fun (n16, n17) => some (n16, n17)) else (Y07 10 (-4)).bind fun (n10, n11) => some (n10, n11)) else (Y07 n1 (-3)).bind fun (n4, n5) => some (n4, n5))
def Y0T (p0 : (List UInt8 × Bool × List (List UInt8 × List UInt8 × List UInt8))) : Nat → Int → Option (Unit ⊕ Int)
 | 0, _ => none
 | m14 + 1, n13 => (if n13 < (p0.2.2.length : Int) then (idx p0.2.2 n13).bind fun a16 => (Y1h (a16.1, a16.2.1, a16.2.2)).bind fun (n17, n18) => (Y19 (n17, n18)).bind fun b20 => (if b20 = true then some (.inr n17) else (chk (n13 + 1)).bind fun n23 => Y0T p0 m14 n23) else some (.inl ()))
def Y2U (p0 : (List UInt8 × Bool × List (List UInt8 × List UInt8 × List UInt8))) : Option Int :=
 (Y1L p0.1).bind fun n1 => (if n1 = (0 : Int) then ((if p0.2.1 = (!decide (p0.1 = [])) then (if p0.2.1 = true then some false else some (!decide ((p0.2.2.length : Int) = (1 : Int)))) else some true)).bind fun b6 => (if b6 = true then some 5 else ((Y0T p0 FU 0 : Option (Unit ⊕ Int))).bind fun o26 => (match o26 with | .inl _ => some 0 | .inr r25 => some r25)) else some n1)
def Y0L (p0 : List (List UInt8 × Bool × List (List UInt8 × List UInt8 × List UInt8))) : Nat → Int → Int → Option Int
 | 0, _, _ => none
 | m6 + 1, n4, n5 => (if n5 < (p0.length : Int) then (idx p0 n5).bind fun a8 => (chk (n5 + 1)).bind fun n9 => Y0L p0 m6 (IntKind.i64.wrap (n4 + (a8.2.2.length : Int))) n9 else some n4)
def Y0M (p0 : List (List UInt8 × Bool × List (List UInt8 × List UInt8 × List UInt8))) : Nat → Int → Int → Int → Option ((Int × Int) ⊕ (Int × Int))
 | 0, _, _, _ => none
 | m27 + 1, n24, n25, n26 => (if n26 < (p0.length : Int) then (idx p0 n26).bind fun a29 => (Y2U (a29.1, a29.2.1, a29.2.2)).bind fun n30 => (if n30 = (0 : Int) then (chk (n26 + 1)).bind fun n36 => Y0M p0 m27 n24 n25 n36 else (Y07 n30 n26).bind fun (n33, n34) => some (.inr (n33, n34))) else some (.inl (n24, n25)))
def Y1l (p0 : List (List UInt8 × Bool × List (List UInt8 × List UInt8 × List UInt8))) : Option (Int × Int) :=
 (Y0L p0 FU 0 0).bind fun n3 => ((if (60 : Int) < (p0.length : Int) then some true else some (decide ((60 : Int) < n3)))).bind fun b13 => (if b13 = true then (Y07 2 (-1)).bind fun (n17, n18) => some (n17, n18) else ((Y0M p0 FU 0 0 0 : Option ((Int × Int) ⊕ (Int × Int)))).bind fun o42 => (match o42 with | .inl (n22, n23) => (Y0z).bind fun (n38, n39) => some (n38, n39) | .inr r41 => some r41))
def Y27 (p0 : UInt8) : Option Bool :=
 ((Y1z p0).bind fun b4 => (if b4 = true then some true else (Y0t [33, 35, 36, 37, 38, 39, 42, 43, 45, 47, 61, 63, 94, 95, 96, 123, 124, 125, 126] p0).bind fun n6 => some (decide ((0 : Int) ≤ n6)))).bind fun b3 => some b3
def Y1o (p0 : List UInt8) : Option Bool :=
 (Y2b p0 Y27).bind fun b1 => some b1
def Y2j (p0 : List UInt8) : Option (List UInt8) :=
 (Y1t ([[92], [92, 92], [34], [92, 34]] : List (List UInt8))).bind fun _ => (Y0R p0).bind fun s2 => (cat [34] s2).bind fun s3 => (cat s3 [34]).bind fun s4 => some s4
def Y0r (p0 : (List UInt8 × List UInt8 × List UInt8)) : Option (List UInt8) :=
 (Y1o p0.2.1).bind fun b1 => (if b1 = true then (cat p0.2.1 [64]).bind fun s4 => (cat s4 p0.2.2).bind fun s5 => some s5 else (Y2j p0.2.1).bind fun s6 => (cat s6 [64]).bind fun s8 => (cat s8 p0.2.2).bind fun s9 => some s9)
def Y3z (p0 : List UInt8) : Option (List UInt8 × (Int × Int)) :=
 (if (1000 : Int) < (p0.length : Int) then (Y07 1 (-1)).bind fun (n2, n3) => some ([], (n2, n3)) else (Y0J p0).bind fun b5 => (if b5 = true then (Y2F p0).bind fun b11 => (if b11 = true then (Y0z).bind fun (n14, n15) => some (p0, (n14, n15)) else none) else (Y07 5 (-2)).bind fun (n8, n9) => some ([], (n8, n9))))
def Y2K (p0 : List UInt8) (s : (List UInt8 × Nat)) (x11 : List UInt8) : Option (List UInt8 × Nat) :=
 match s with
 | (s6, _) => ((if x11 = [] then some true else (Y2T x11 Y27).bind fun b17 => some (!b17))).bind fun b15 => (if b15 = true then (Y2j p0).bind fun s21 => some (s21, 1) else some (s6, 0))
def Y2Q (p0 : List UInt8) : Option (List UInt8) :=
 (Y3z p0).bind fun (s1, (n2, n3)) => (if s1 = p0 then (Y1d [32] p0 0 (List UInt8 × Nat) (stepY exStop (Y2K p0)) ([], 0)).bind fun (s6, tg8) => (if tg8 = 0 then some p0 else (if tg8 = 1 then some s6 else none)) else some s1)
def Y39 (p0 : (List UInt8 × List UInt8 × List UInt8)) : Option (List UInt8) :=
 (if p0.1 = [] then (Y0r (p0.1, p0.2.1, p0.2.2)).bind fun s2 => some s2 else (Y2Q p0.1).bind fun s4 => (cat s4 [32, 60]).bind fun s6 => (Y0r (p0.1, p0.2.1, p0.2.2)).bind fun s7 => (cat s6 s7).bind fun s9 => (cat s9 [62]).bind fun s10 => some s10)
def Y11 (p0 : List UInt8) (p1 : List UInt8) : Option (List UInt8) :=
 (Y0B p0 p1).bind fun b1 => (if b1 = true then (chk ((p0.length : Int) - (p1.length : Int))).bind fun n4 => (cut p0 0 n4).bind fun s5 => some s5 else some p0)
def Y1C (p0 : List UInt8) (p1 : List UInt8) : Option (List UInt8) :=
 (Y11 p0 p1).bind fun s1 => some s1
def Y1V (a19 : (List UInt8 × Bool × List (List UInt8 × List UInt8 × List UInt8))) : Nat → List (List UInt8) → Int → Option (List (List UInt8))
 | 0, _, _ => none
 | m29 + 1, l26, n28 => (if n28 < (a19.2.2.length : Int) then (idx a19.2.2 n28).bind fun a32 => (Y39 (a32.1, a32.2.1, a32.2.2)).bind fun s33 => (app 16 l26 ([s33] : List (List UInt8))).bind fun l35 => (chk (n28 + 1)).bind fun n36 => Y1V a19 m29 l35 n36 else some l26)
def Y1W (p0 : List (List UInt8 × Bool × List (List UInt8 × List UInt8 × List UInt8))) : Nat → List (List UInt8) → Int → Option (List (List UInt8))
 | 0, _, _ => none
 | m16 + 1, l13, n15 => (if n15 < (p0.length : Int) then (idx p0 n15).bind fun a19 => (Y1V a19 FU [] 0).bind fun l23 => (Y0A l23 [44, 32]).bind fun s39 => ((if a19.2.1 = true then (Y2Q a19.1).bind fun s45 => (cat s45 [58, 32]).bind fun s47 => (cat s47 s39).bind fun s48 => (Y1C s48 [32]).bind fun s49 => (cat s49 [59]).bind fun s51 => some s51 else some s39)).bind fun s43 => (app 16 l13 ([s43] : List (List UInt8))).bind fun l53 => (chk (n15 + 1)).bind fun n54 => Y1W p0 m16 l53 n54 else some l13)
def Y3A (p0 : List (List UInt8 × Bool × List (List UInt8 × List UInt8 × List UInt8))) : Option (List UInt8 × (Int × Int)) :=
 (Y1l p0).bind fun (n1, n2) => (Y19 (n1, n2)).bind fun b4 => (if b4 = true then some ([], (n1, n2)) else (Y1W p0 FU [] 0).bind fun l10 => (Y0A l10 [44, 32]).bind fun s57 => (if (4000 : Int) < (s57.length : Int) then (Y07 1 (-2)).bind fun (n60, n61) => some ([], (n60, n61)) else (Y0z).bind fun (n63, n64) => some (s57, (n63, n64))))
def Y0c (p0 : (List UInt8 × Int)) : Option ((List UInt8 × Int) ⊕ Int) :=
 some (.inr p0.2)
def Y05  : Nat → List UInt8 → Int → Int → Option ((List UInt8 × Int) ⊕ Int)
 | 0, _, _, _ => none
 | m6 + 1, s3, n4, n5 => (((if (s3.length : Int) ≤ n4 then (Y0c (s3, n4)).bind fun o14 => (match o14 with | .inl o12 => some (.inl (o12.1, o12.2)) | .inr n15 => some (.inr (.inr n15))) else some (.inl (s3, n4))) : Option ((List UInt8 × Int) ⊕ ((List UInt8 × Int) ⊕ Int)))).bind fun o36 => (match o36 with | .inl (s9, n10) => (idx s9 n10).bind fun c17 => (((if c17 = 40 then (chk (n5 + 1)).bind fun n24 => some (.inl (s9, n10, n24)) else (if c17 = 41 then (chk (n5 - 1)).bind fun n26 => (if n26 = (0 : Int) then (chk (n10 + 1)).bind fun n28 => some (.inr (.inl (s9, n28))) else some (.inl (s9, n10, n26))) else (if c17 = 92 then (chk (n10 + 1)).bind fun n30 => some (.inl (s9, n30, n5)) else some (.inl (s9, n10, n5))))) : Option ((List UInt8 × Int × Int) ⊕ ((List UInt8 × Int) ⊕ Int)))).bind fun o34 => (match o34 with | .inl (s20, n21, n22) => (chk (n21 + 1)).bind fun n32 => Y05  m6 s20 n32 n22 | .inr r33 => some r33) | .inr r35 => some r35)
def Y12 (p0 : (List UInt8 × Int)) : Option ((List UInt8 × Int) ⊕ Int) :=
 (Y05  FU p0.1 p0.2 0).bind fun r37 => some r37
def Y0b  : Nat → List UInt8 → Int → Option ((List UInt8 × Int) ⊕ ((List UInt8 × Int) ⊕ Int))
 | 0, _, _ => none
 | m7 + 1, s5, n6 => (if n6 < (s5.length : Int) then (idx s5 n6).bind fun c9 => (Y14 c9).bind fun b10 => (if b10 = true then (chk (n6 + 1)).bind fun n13 => Y0b  m7 s5 n13 else (if c9 = 40 then (Y12 (s5, n6)).bind fun o17 => (match o17 with | .inl o15 => Y0b  m7 o15.1 o15.2 | .inr n18 => some (.inr (.inr n18))) else some (.inr (.inl (s5, n6))))) else some (.inl (s5, n6)))
def Y1R (p0 : (List UInt8 × Int)) : Option ((List UInt8 × Int) ⊕ Int) :=
 ((Y0b  FU p0.1 p0.2 : Option ((List UInt8 × Int) ⊕ ((List UInt8 × Int) ⊕ Int)))).bind fun o21 => (match o21 with | .inl (s3, n4) => some (.inl (s3, n4)) | .inr r20 => some r20)
def Y0f  : Nat → List UInt8 → Int → List UInt8 → Option ((List UInt8 × (List UInt8 × Int)) ⊕ Int)
 | 0, _, _, _ => none
 | m9 + 1, s4, n5, l7 => (((if (s4.length : Int) ≤ n5 then (Y0c (s4, n5)).bind fun o18 => (match o18 with | .inl o16 => some (.inl (o16.1, o16.2)) | .inr n19 => some (.inr (.inr n19))) else some (.inl (s4, n5))) : Option ((List UInt8 × Int) ⊕ ((List UInt8 × (List UInt8 × Int)) ⊕ Int)))).bind fun o54 => (match o54 with | .inl (s13, n14) => (idx s13 n14).bind fun c21 => (if c21 = 34 then (chk (n14 + 1)).bind fun n23 => some (.inl (l7, (s13, n23))) else (((if c21 = 92 then (chk (n14 + 1)).bind fun n33 => (((if (s13.length : Int) ≤ n33 then (Y0c (s13, n33)).bind fun o41 => (match o41 with | .inl o39 => some (.inl (o39.1, o39.2)) | .inr n42 => some (.inr (.inr n42))) else some (.inl (s13, n33))) : Option ((List UInt8 × Int) ⊕ ((List UInt8 × (List UInt8 × Int)) ⊕ Int)))).bind fun o47 => (match o47 with | .inl (s36, n37) => (idx s36 n37).bind fun c44 => (app 1 l7 ([c44] : List UInt8)).bind fun l45 => some (.inl (s36, n37, l45)) | .inr r46 => some (.inr r46)) else (app 1 l7 ([c21] : List UInt8)).bind fun l48 => some (.inl (s13, n14, l48))) : Option ((List UInt8 × Int × List UInt8) ⊕ ((List UInt8 × (List UInt8 × Int)) ⊕ Int)))).bind fun o52 => (match o52 with | .inl (s27, n28, l30) => (chk (n28 + 1)).bind fun n50 => Y0f  m9 s27 n50 l30 | .inr r51 => some r51)) | .inr r53 => some r53)
def Y1j (p0 : (List UInt8 × Int)) : Option ((List UInt8 × (List UInt8 × Int)) ⊕ Int) :=
 (chk (p0.2 + 1)).bind fun n1 => (Y0f  FU p0.1 n1 []).bind fun r55 => some r55
def Y0k  : Nat → List UInt8 → Int → Option (List UInt8 × Int)
 | 0, _, _ => none
 | m23 + 1, s21, n22 => ((if n22 < (s21.length : Int) then (idx s21 n22).bind fun c28 => (Y27 c28).bind fun b29 => (if b29 = true then some true else (idx s21 n22).bind fun c31 => some (decide (c31 = 46))) else some false)).bind fun b26 => (if b26 = true then (chk (n22 + 1)).bind fun n34 => Y0k  m23 s21 n34 else some (s21, n22))
def Y0i (p0 : (List UInt8 × Int)) : Option ((Elt × (List UInt8 × Int)) ⊕ Int) :=
 (Y1R (p0.1, p0.2)).bind fun o3 => (match o3 with | .inl o1 => (if (o1.1.length : Int) ≤ o1.2 then some (.inl ((none : Elt), (o1.1, o1.2))) else (idx o1.1 o1.2).bind fun c6 => (if c6 = 34 then (Y1j (o1.1, o1.2)).bind fun o11 => (match o11 with | .inl (s8, o9) => some (.inl ((eltW (s8, true)), (o9.1, o9.2))) | .inr n12 => some (.inr n12)) else (Y0t [58, 59, 44, 64, 60, 62] c6).bind fun n13 => (if (0 : Int) ≤ n13 then (chk (o1.2 + 1)).bind fun n16 => some (.inl ((eltS c6), (o1.1, n16))) else (Y0k  FU o1.1 o1.2).bind fun (s19, n20) => (((if n20 = o1.2 then (Y0c (s19, n20)).bind fun o43 => (match o43 with | .inl o41 => some (.inl (o41.1, o41.2)) | .inr n44 => some (.inr (.inr n44))) else some (.inl (s19, n20))) : Option ((List UInt8 × Int) ⊕ ((Elt × (List UInt8 × Int)) ⊕ Int)))).bind fun o48 => (match o48 with | .inl (s38, n39) => (cut s38 o1.2 n39).bind fun s46 => some (.inl ((eltW (s46, false)), (s38, n39))) | .inr r47 => some r47)))) | .inr n4 => some (.inr n4))
def Y0d (p0 : (List UInt8 × Int)) : Option ((Elt × (List UInt8 × Int)) ⊕ Int) :=
 (Y0i (p0.1, p0.2)).bind fun o4 => (match o4 with | .inl (n1, o2) => some (.inl (n1, (o2.1, p0.2))) | .inr n5 => some (.inr n5))
def Y0g  : Nat → List UInt8 → Int → List (List UInt8 × Bool) → Option ((List (List UInt8 × Bool) × (List UInt8 × Int)) ⊕ Int)
 | 0, _, _, _ => none
 | m8 + 1, s3, n4, l6 => (Y0d (s3, n4)).bind fun o13 => (match o13 with | .inl (n10, o11) => (okW n10).bind fun (w15, b16) => (if b16 = true then (Y0i (o11.1, o11.2)).bind fun o22 => (match o22 with | .inl (n19, o20) => (app 24 l6 ([(w15.1, w15.2)] : List (List UInt8 × Bool))).bind fun l24 => Y0g  m8 o20.1 o20.2 l24 | .inr n23 => some (.inr n23)) else some (.inl (l6, (o11.1, o11.2)))) | .inr n14 => some (.inr n14))
def Y0G (p0 : (List UInt8 × Int)) : Option ((List (List UInt8 × Bool) × (List UInt8 × Int)) ⊕ Int) :=
 (Y0g  FU p0.1 p0.2 []).bind fun r26 => some r26
def Y0v (p0 : (List UInt8 × Int)) (p1 : UInt8) : Option ((Bool × (List UInt8 × Int)) ⊕ Int) :=
 (Y0d (p0.1, p0.2)).bind fun o4 => (match o4 with | .inl (n1, o2) => (if n1 = (eltS p1) then (Y0i (o2.1, o2.2)).bind fun o10 => (match o10 with | .inl (n7, o8) => some (.inl (true, (o8.1, o8.2))) | .inr n11 => some (.inr n11)) else some (.inl (false, (o2.1, o2.2)))) | .inr n5 => some (.inr n5))
def Y0O (p0 : (List UInt8 × Int)) (p1 : UInt8) : Option ((List UInt8 × Int) ⊕ Int) :=
 (Y0v (p0.1, p0.2) p1).bind fun o4 => (match o4 with | .inl (b1, o2) => (if b1 = true then some (.inl (o2.1, o2.2)) else (Y0c (o2.1, o2.2)).bind fun o9 => (match o9 with | .inl o7 => some (.inl (o7.1, o7.2)) | .inr n10 => some (.inr n10))) | .inr n5 => some (.inr n5))
def Y0l (p0 : (List UInt8 × Int)) (p1 : List (List UInt8 × Bool)) : Option (((List UInt8 × List UInt8 × List UInt8) × (List UInt8 × Int)) ⊕ Int) :=
 ((if (p1.length : Int) = (1 : Int) then (idx p1 0).bind fun a5 => (Y1B a5.1).bind fun b6 => (if b6 = true then (idx p1 0).bind fun a8 => (if a8.2 = true then some false else (idx p1 0).bind fun a10 => (Y1o a10.1).bind fun b11 => some (!b11)) else some true) else some true)).bind fun b3 => (((if b3 = true then (Y0c (p0.1, p0.2)).bind fun o21 => (match o21 with | .inl o19 => some (.inl (o19.1, o19.2)) | .inr n22 => some (.inr (.inr n22))) else some (.inl (p0.1, p0.2))) : Option ((List UInt8 × Int) ⊕ (((List UInt8 × List UInt8 × List UInt8) × (List UInt8 × Int)) ⊕ Int)))).bind fun o57 => (match o57 with | .inl (s16, n17) => (Y0O (s16, n17) 64).bind fun o26 => (match o26 with | .inl o24 => (Y0i (o24.1, o24.2)).bind fun o31 => (match o31 with | .inl (n28, o29) => (okW n28).bind fun (w33, b34) => ((if b34 = true then (if w33.2 = true then some true else (Y21 w33.1).bind fun b40 => some (!b40)) else some true)).bind fun b38 => (((if b38 = true then (Y0c (o29.1, o29.2)).bind fun o50 => (match o50 with | .inl o48 => some (.inl (o48.1, o48.2)) | .inr n51 => some (.inr (.inr n51))) else some (.inl (o29.1, o29.2))) : Option ((List UInt8 × Int) ⊕ (((List UInt8 × List UInt8 × List UInt8) × (List UInt8 × Int)) ⊕ Int)))).bind fun o55 => (match o55 with | .inl (s45, n46) => (idx p1 0).bind fun a53 => some (.inl (([], a53.1, w33.1), (s45, n46))) | .inr r54 => some r54) | .inr n32 => some (.inr n32)) | .inr n27 => some (.inr n27)) | .inr r56 => some r56)
def Y1M (p0 : List (List UInt8)) (p1 : List (List UInt8)) : Option (List (List UInt8) × List (List UInt8)) :=
 (if (0 : Int) < (p0.length : Int) then (Y0A p0 [32]).bind fun s4 => (Y1a s4).bind fun (s6, (n7, n8)) => (app 16 p1 ([s6] : List (List UInt8))).bind fun l10 => some ([], l10) else some (p0, p1))
def Y0C (p0 : List (List UInt8 × Bool)) : Nat → List (List UInt8) → List (List UInt8) → Int → Option (List (List UInt8) × List (List UInt8))
 | 0, _, _, _ => none
 | m16 + 1, l10, l13, n15 => (if n15 < (p0.length : Int) then (idx p0 n15).bind fun a20 => (if a20.2 = true then (Y1M l13 l10).bind fun (o22, o23) => (app 16 o23 ([a20.1] : List (List UInt8))).bind fun l25 => (chk (n15 + 1)).bind fun n26 => Y0C p0 m16 l25 o22 n26 else (app 16 l13 ([a20.1] : List (List UInt8))).bind fun l27 => (chk (n15 + 1)).bind fun n28 => Y0C p0 m16 l10 l27 n28) else some (l10, l13))
def Y1D (p0 : List (List UInt8 × Bool)) : Option (List UInt8) :=
 (Y0C p0 FU [] [] 0).bind fun (l4, l7) => (Y1M l7 l4).bind fun (o30, o31) => (Y0A o31 [32]).bind fun s34 => some s34
def Y0w (p0 : (List UInt8 × Int)) (p1 : List (List UInt8 × Bool)) : Option (((List UInt8 × List UInt8 × List UInt8) × (List UInt8 × Int)) ⊕ Int) :=
 (Y0v (p0.1, p0.2) 60).bind fun o4 => (match o4 with | .inl (b1, o2) => (if b1 = true then (Y0G (o2.1, o2.2)).bind fun o17 => (match o17 with | .inl (l14, o15) => (Y0l (o15.1, o15.2) l14).bind fun o24 => (match o24 with | .inl ((s19, s20, s21), o22) => (Y1D p1).bind fun s26 => (Y0O (o22.1, o22.2) 62).bind fun o30 => (match o30 with | .inl o28 => some (.inl ((s26, s20, s21), (o28.1, o28.2))) | .inr n31 => some (.inr n31)) | .inr n25 => some (.inr n25)) | .inr n18 => some (.inr n18)) else (Y0l (o2.1, o2.2) p1).bind fun o12 => (match o12 with | .inl ((s7, s8, s9), o10) => some (.inl ((s7, s8, s9), (o10.1, o10.2))) | .inr n13 => some (.inr n13))) | .inr n5 => some (.inr n5))
def Y0x  : Nat → List UInt8 → Int → List UInt8 → Bool → List (List UInt8 × List UInt8 × List UInt8) → List UInt8 → Bool → List (List UInt8 × List UInt8 × List UInt8) → Option (((List UInt8 × Bool × List (List UInt8 × List UInt8 × List UInt8)) × (List UInt8 × Int)) ⊕ Int)
 | 0, _, _, _, _, _, _, _, _ => none
 | m51 + 1, s39, n40, s41, b42, l43, s46, b47, l49 => (Y0G (s39, n40)).bind fun o56 => (match o56 with | .inl (l53, o54) => (Y0w (o54.1, o54.2) l53).bind fun o63 => (match o63 with | .inl ((s58, s59, s60), o61) => (app 48 l49 ([(s58, s59, s60)] : List (List UInt8 × List UInt8 × List UInt8))).bind fun l65 => (Y0v (o61.1, o61.2) 59).bind fun o70 => (match o70 with | .inl (b67, o68) => (if b67 = true then some (.inl ((s46, b47, l65), (o68.1, o68.2))) else (Y0O (o68.1, o68.2) 44).bind fun o76 => (match o76 with | .inl o74 => Y0x  m51 o74.1 o74.2 s41 b42 l43 s46 b47 l65 | .inr n77 => some (.inr n77))) | .inr n71 => some (.inr n71)) | .inr n64 => some (.inr n64)) | .inr n57 => some (.inr n57))
def Y0j (p0 : (List UInt8 × Int)) : Option (((List UInt8 × Bool × List (List UInt8 × List UInt8 × List UInt8)) × (List UInt8 × Int)) ⊕ Int) :=
 (Y0G (p0.1, p0.2)).bind fun o4 => (match o4 with | .inl (l1, o2) => (Y0v (o2.1, o2.2) 58).bind fun o9 => (match o9 with | .inl (b6, o7) => (if b6 = true then (Y1D l1).bind fun s19 => (((if s19 = [] then (Y0c (o7.1, o7.2)).bind fun o28 => (match o28 with | .inl o26 => some (.inl (o26.1, o26.2)) | .inr n29 => some (.inr (.inr n29))) else some (.inl (o7.1, o7.2))) : Option ((List UInt8 × Int) ⊕ (((List UInt8 × Bool × List (List UInt8 × List UInt8 × List UInt8)) × (List UInt8 × Int)) ⊕ Int)))).bind fun o80 => (match o80 with | .inl (s23, n24) => (Y0v (s23, n24) 59).bind fun o34 => (match o34 with | .inl (b31, o32) => (if b31 = true then some (.inl ((s19, true, []), (o32.1, o32.2))) else (Y0x  FU o32.1 o32.2 [] false [] s19 true []).bind fun r78 => some r78) | .inr n35 => some (.inr n35)) | .inr r79 => some r79) else (Y0w (o7.1, o7.2) l1).bind fun o17 => (match o17 with | .inl ((s12, s13, s14), o15) => some (.inl (([], false, ([(s12, s13, s14)] : List (List UInt8 × List UInt8 × List UInt8))), (o15.1, o15.2))) | .inr n18 => some (.inr n18))) | .inr n10 => some (.inr n10)) | .inr n5 => some (.inr n5))
def Y0X (p0 : List UInt8) : Nat → List (List UInt8 × Bool × List (List UInt8 × List UInt8 × List UInt8)) → List UInt8 → Int → Option ((List (List UInt8 × Bool × List (List UInt8 × List UInt8 × List UInt8)) × List UInt8 × Int) ⊕ (List (List UInt8 × Bool × List (List UInt8 × List UInt8 × List UInt8)) × (Int × Int)))
 | 0, _, _, _ => none
 | m49 + 1, l43, s47, n48 => (Y0v (s47, n48) 44).bind fun o53 => (match o53 with | .inl (b50, o51) => (if b50 = true then (Y0j (o51.1, o51.2)).bind fun o61 => (match o61 with | .inl ((s56, b57, l58), o59) => (app 48 l43 ([(s56, b57, l58)] : List (List UInt8 × Bool × List (List UInt8 × List UInt8 × List UInt8)))).bind fun l64 => Y0X p0 m49 l64 o59.1 o59.2 | .inr n62 => some (.inr ([], ((11 : Int), (min n62 (p0.length : Int)))))) else some (.inl (l43, o51.1, o51.2))) | .inr n54 => some (.inr ([], ((11 : Int), (min n54 (p0.length : Int))))))
def Y0U (p0 : List UInt8) : Option (List (List UInt8 × Bool × List (List UInt8 × List UInt8 × List UInt8)) × (Int × Int)) :=
 (if (4000 : Int) < (p0.length : Int) then (Y07 1 (-1)).bind fun (n2, n3) => some ([], (n2, n3)) else (Y0d (p0, 0)).bind fun o9 => (match o9 with | .inl (n6, o7) => (((if n6 = none then some (.inl []) else (Y0j (o7.1, o7.2)).bind fun o24 => (match o24 with | .inl ((s19, b20, l21), o22) => (app 48 ([] : List (List UInt8 × Bool × List (List UInt8 × List UInt8 × List UInt8))) ([(s19, b20, l21)] : List (List UInt8 × Bool × List (List UInt8 × List UInt8 × List UInt8)))).bind fun l29 => ((Y0X p0 FU l29 o22.1 o22.2 : Option ((List (List UInt8 × Bool × List (List UInt8 × List UInt8 × List UInt8)) × List UInt8 × Int) ⊕ (List (List UInt8 × Bool × List (List UInt8 × List UInt8 × List UInt8)) × (Int × Int))))).bind fun o80 => (match o80 with | .inl (l36, s40, n41) => (Y0d (s40, n41)).bind fun o72 => (match o72 with | .inl (n69, o70) => (if n69 = none then some (.inl l36) else (Y0c (o70.1, o70.2)).bind fun o77 => (match o77 with | .inl o75 => some (.inl l36) | .inr n78 => some (.inr ([], ((11 : Int), (min n78 (p0.length : Int))))))) | .inr n73 => some (.inr ([], ((11 : Int), (min n73 (p0.length : Int)))))) | .inr r79 => some (.inr r79)) | .inr n25 => some (.inr ([], ((11 : Int), (min n25 (p0.length : Int))))))) : Option (List (List UInt8 × Bool × List (List UInt8 × List UInt8 × List UInt8)) ⊕ (List (List UInt8 × Bool × List (List UInt8 × List UInt8 × List UInt8)) × (Int × Int))))).bind fun o98 => (match o98 with | .inl l14 => (Y1l l14).bind fun (n85, n86) => (Y19 (n85, n86)).bind fun b88 => (if b88 = true then (Y07 n85 (-2)).bind fun (n91, n92) => some ([], (n91, n92)) else (Y0z).bind fun (n94, n95) => some (l14, (n94, n95))) | .inr r97 => some r97) | .inr n10 => some ([], ((11 : Int), (min n10 (p0.length : Int))))))
def Y2k (p0 : (List UInt8 × List UInt8 × List UInt8)) : Option (List UInt8 × (Int × Int)) :=
 (Y1h (p0.1, p0.2.1, p0.2.2)).bind fun (n1, n2) => (Y19 (n1, n2)).bind fun b4 => (if b4 = true then some ([], (n1, n2)) else (Y34 p0.2.2).bind fun s7 => (Y0r (p0.1, p0.2.1, s7)).bind fun s9 => (Y0z).bind fun (n11, n12) => some (s9, (n11, n12)))
def Y1p (p0 : List (List UInt8 × Bool × List (List UInt8 × List UInt8 × List UInt8))) : Nat → List (List UInt8 × List UInt8 × List UInt8) → Int → Option (List (List UInt8 × List UInt8 × List UInt8))
 | 0, _, _ => none
 | m16 + 1, l13, n15 => (if n15 < (p0.length : Int) then (idx p0 n15).bind fun a19 => (Y1i a19.2.2).bind fun l20 => (app 48 l13 l20).bind fun l22 => (chk (n15 + 1)).bind fun n23 => Y1p p0 m16 l22 n23 else some l13)
def Y2L (p0 : List (List UInt8 × Bool × List (List UInt8 × List UInt8 × List UInt8))) : Option (List (List UInt8 × List UInt8 × List UInt8) × (Int × Int)) :=
 (Y1l p0).bind fun (n1, n2) => (Y19 (n1, n2)).bind fun b4 => (if b4 = true then some ([], (n1, n2)) else (Y1p p0 FU [] 0).bind fun l10 => (Y0z).bind fun (n25, n26) => some (l10, (n25, n26)))
def Y0N  : Option Bool :=
 (Y3A ([([], false, ([([65, 46, 32, 66], [97], [120])] : List (List UInt8 × List UInt8 × List UInt8)))] : List (List UInt8 × Bool × List (List UInt8 × List UInt8 × List UInt8)))).bind fun (s2, (n3, n4)) => (Y0U [103, 58, 32, 97, 64, 120, 44, 32, 98, 64, 120, 59]).bind fun (l6, (n7, n8)) => (Y2k ([], [65], [88, 46, 69, 120, 97, 109, 112, 108, 101])).bind fun (s10, (n11, n12)) => (Y2L l6).bind fun (l14, (n15, n16)) => ((if n3 = (0 : Int) then (if n7 = (0 : Int) then (if n11 = (0 : Int) then (if n15 = (0 : Int) then (if s2 = [34, 65, 46, 32, 66, 34, 32, 60, 97, 64, 120, 62] then (if (l6.length : Int) = (1 : Int) then (idx l6 0).bind fun a27 => (if a27.2.1 = true then (idx l6 0).bind fun a29 => (if a29.1 = [103] then (if s10 = [65, 64, 120, 46, 101, 120, 97, 109, 112, 108, 101] then (if (l14.length : Int) = (2 : Int) then (idx l14 1).bind fun a33 => some (decide (a33.2.1 = [98])) else some false) else some false) else some false) else some false) else some false) else some false) else some false) else some false) else some false) else some false)).bind fun b20 => some b20
def Y2c (p0 : UInt8) (p1 : List UInt8) : Nat → Int → Option (Unit ⊕ Bool)
 | 0, _ => none
 | m4 + 1, n3 => (if n3 < (p1.length : Int) then (idx p1 n3).bind fun c6 => (if c6 = p0 then some (.inr true) else (chk (n3 + 1)).bind fun n8 => Y2c p0 p1 m4 n8) else some (.inl ()))
def R_OneOf (p0 : UInt8) (p1 : List UInt8) : Option Bool :=
 ((Y2c p0 p1 FU 0 : Option (Unit ⊕ Bool))).bind fun o11 => (match o11 with | .inl _ => some false | .inr r10 => some r10)
def Y0y (p0 : List (List UInt8 × List UInt8 × List UInt8)) (p1 : List (List UInt8 × List UInt8 × List UInt8)) : Nat → Int → Option (Unit ⊕ Bool)
 | 0, _ => none
 | m5 + 1, n4 => (if n4 < (p0.length : Int) then (idx p0 n4).bind fun a7 => (idx p1 n4).bind fun a8 => (if a7.1 = a8.1 ∧ a7.2.1 = a8.2.1 ∧ a7.2.2 = a8.2.2 then (chk (n4 + 1)).bind fun n10 => Y0y p0 p1 m5 n10 else some (.inr false)) else some (.inl ()))
def Y1N (p0 : List (List UInt8 × List UInt8 × List UInt8)) (p1 : List (List UInt8 × List UInt8 × List UInt8)) : Option Bool :=
 (if (p0.length : Int) = (p1.length : Int) then ((Y0y p0 p1 FU 0 : Option (Unit ⊕ Bool))).bind fun o13 => (match o13 with | .inl _ => some true | .inr r12 => some r12) else some false)
def Y17 (p0 : List (List UInt8 × Bool × List (List UInt8 × List UInt8 × List UInt8))) (p1 : List (List UInt8 × Bool × List (List UInt8 × List UInt8 × List UInt8))) : Nat → Int → Option (Unit ⊕ Bool)
 | 0, _ => none
 | m5 + 1, n4 => (if n4 < (p0.length : Int) then ((idx p0 n4).bind fun a10 => (idx p1 n4).bind fun a11 => (if a10.1 = a11.1 then (idx p0 n4).bind fun a13 => (idx p1 n4).bind fun a14 => (if a13.2.1 = a14.2.1 then (idx p0 n4).bind fun a16 => (idx p1 n4).bind fun a17 => (Y1N a16.2.2 a17.2.2).bind fun b18 => some (!b18) else some true) else some true)).bind fun b9 => (if b9 = true then some (.inr false) else (chk (n4 + 1)).bind fun n22 => Y17 p0 p1 m5 n22) else some (.inl ()))
def Y2M (p0 : List (List UInt8 × Bool × List (List UInt8 × List UInt8 × List UInt8))) (p1 : List (List UInt8 × Bool × List (List UInt8 × List UInt8 × List UInt8))) : Option Bool :=
 (if (p0.length : Int) = (p1.length : Int) then ((Y17 p0 p1 FU 0 : Option (Unit ⊕ Bool))).bind fun o25 => (match o25 with | .inl _ => some true | .inr r24 => some r24) else some false)
def Y0e (p1 : List UInt8) : Nat → Int → Option (Unit ⊕ Bool)
 | 0, _ => none
 | m7 + 1, n6 => (if n6 < (p1.length : Int) then (idx p1 n6).bind fun c9 => (R_OneOf c9 [40, 41, 92]).bind fun b10 => (if b10 = true then some (.inr true) else (chk (n6 + 1)).bind fun n13 => Y0e p1 m7 n13) else some (.inl ()))
def Y2d (p0 : List UInt8) (p1 : List UInt8) : Option Bool :=
 (Y0N).bind fun b1 => (if b1 = true then ((Y0e p1 FU 0 : Option (Unit ⊕ Bool))).bind fun o47 => (match o47 with | .inl _ => (chk ((2 : Int) * (p1.length : Int))).bind fun n15 => (chk ((p0.length : Int) + n15)).bind fun n16 => (if (3900 : Int) < n16 then some true else (Y0U p0).bind fun (l18, (n19, n20)) => (cat [32, 40] p1).bind fun s22 => (cat s22 [41]).bind fun s23 => (cat s23 p0).bind fun s24 => (cat s24 [9, 40]).bind fun s25 => (cat s25 p1).bind fun s26 => (cat s26 [41, 32]).bind fun s27 => (Y0U s27).bind fun (l28, (n29, n30)) => (if n19 = (0 : Int) then ((if n29 = (0 : Int) then (Y2M l18 l28).bind fun b43 => some b43 else some false)).bind fun b41 => some b41 else ((if n29 = (0 : Int) then some false else (chk ((l18.length : Int) + (l28.length : Int))).bind fun n37 => some (decide (n37 = (0 : Int))))).bind fun b35 => some b35)) | .inr r46 => some r46) else some false)
end Go.Ph.Pf
end
