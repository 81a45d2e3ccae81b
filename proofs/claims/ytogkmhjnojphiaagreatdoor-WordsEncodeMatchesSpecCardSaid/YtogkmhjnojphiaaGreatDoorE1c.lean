/-
  Rls, GrRef, Rpc, Low, Val, Vst, Sts, Fnd: own texts of this repository (wip/tpl, wip/plans), merged and shaken by wip/tools/pack.py.
-/
import Derived.KernelRfl
import Derived.Lib.DecodeN
import Derived.Test.YtogkmhjnojphiaaGreatDoorE1b
set_option maxRecDepth 100000
section
set_option linter.unusedVariables false
set_option linter.unusedSimpArgs false
namespace Go.Proofs.YtogkmhjnojphiaaGreatDoor
open Go Go.RowKit Go.Ph
open Go.Ph.Gr Go.Ph.Utf
theorem runes_spec (l : List UInt8) (hs : l.length ≤ 1048576) : Ct Tryz.prog 88 [S l] (fun _ => True) (fun r M => Sl M encI r ((chars l).map (·.1))) := by
  refine Ct.of Tryz.func88 (enters Tryz.func88 (by kernel_rfl) rfl) rfl rfl rfl ?_
  intro w0 M0 H hp
  refine SQ (RG (AS rfl rfl (NL (TN (SQ (RG (AS rfl rfl (NL (TN (SQ (SQ (RG (AS rfl rfl (NL (TN (BL ?_))))))))))))))))
  replace H := H.newRow 3 encI
  refine WC.loop3 (fun (q : Nat) (v : Value) (o : List Int) => [(0, S l), (3, v), (4, encN q)]) (fun (q : Nat) (v : Value) (o : List Int) w => (q ≤ l.length ∧ o.length ≤ q) ∧ (chars l).map (·.1) = o ++ (chars (l.drop q)).map (·.1) ∧ ∃ M, St w0 M0 M [RowI 3 encI v o] w) (fun (q : Nat) (v : Value) (o : List Int) => l.length - q) (0) (_) (_) ⟨rfl, rfl, rfl, trivial⟩ (⟨by simp, rfl, M0, H⟩) ?_
  intro q v o w
  rintro ⟨hq, hch, M, H⟩
  refine SQ (SQ (RG (MV rfl rfl (MV rfl rfl (ST (Ex.lenStr Tryz.underlying9 rfl) rfl ?_)))))
  refine WR.split (Ex.lss rfl rfl) (Wn.none rfl) rfl rfl (fun h3_3 => ?_) (fun h3_3 => ?_)
  · have hne := drop_ne (t := l) (n := q) (by omega)
    have hrs := rune_size (l.drop q)
    have hrs3 := hrs.2.2 hne
    rw [List.length_drop] at hrs3
    refine NL (TN (CT rfl (SK (TN (BL (SQ (RG (MV rfl rfl (MV rfl rfl (WR.call H (rune_spec _ _ (by omega) (by omega)) rfl (trivial) (Wn.none rfl) rfl ?_))))))))))
    intro v14 M w H hle hr14
    obtain rfl := hr14
    refine MV rfl rfl (ST (Ex.extract rfl rfl) rfl (ST (Ex.extract rfl rfl) rfl (AS rfl rfl (AS rfl rfl (NL (TN (SQ (RG (MV rfl rfl (MV rfl rfl (WR.lit (enc := encI) ty107 [_] H rfl (by rfl) (fun _ => rfl) rfl rfl (Wn.none rfl) rfl ?_)))))))))))
    intro v19 M w H hle hl19
    refine WR.appendSl ty107 (fun _ => rfl) H rfl (fun _ => by repeat first | exact .head | apply Upd.tail) rfl (by assumption) (by first | omega | (simp only [List.length_append, List.length_cons, List.length_nil, List.length_take, List.length_drop]; omega)) (by first | (simp only [maxLen]; omega) | (simp only [maxLen, List.length_append, List.length_cons, List.length_nil, List.length_take, List.length_drop]; omega)) (Wn.none rfl) rfl ?_
    intro v20 w H
    refine AS rfl rfl (NL (TN (RG (MV rfl rfl (MV rfl rfl (ST (Ex.add64 rfl rfl (by omega)) rfl ?_))))))
    refine AS rfl rfl (NL (IB ?_))
    refine WQ.again3 (q + (rune (l.drop q)).2) (v20) (o ++ [(rune (l.drop q)).1]) ⟨rfl, rfl, rfl, trivial⟩ ?_ ?_
    · refine ⟨by simp only [List.length_append, List.length_cons, List.length_nil]; omega, ?_, M, H⟩
      rw [hch, chars_cons hne, List.map_cons, List.drop_drop, List.append_assoc]; rfl
    · omega
  · refine NL (TN (CF rfl (WC.exit (WQ.thenExit (WQ.thenExit (WQ.exitHere (TN (SQ (RG (MV rfl rfl (AS rfl rfl (NL (TN (RT ?_))))))))))))))
    obtain ⟨M, hle, hf, H⟩ := H.freezeRow (v := v) (enc := encI) (t := 3) (by repeat first | exact .head | apply Rem.tail)
    refine WQ.ret1 rfl rfl H.ext ( ?_)
    rw [hch, List.drop_eq_nil_of_le (by omega), chars_nil, List.map_nil, List.append_nil]
    exact hf
set_option maxHeartbeats 1000000 in
theorem rcont_spec (v : Value) (l : List Int) (i fl : Nat) (a b : Int) (hi0 : 0 < i) (ha : l[i - 1]? = some a) (hb : l[i]? = some b) : Ct Tryz.prog 133 [v, encN i, encN fl] (fun M => Sl M encI v l) (fun r _ => r = .bool (con a b fl)) := by
  refine Ct.of Tryz.func133 (enters Tryz.func133 (by kernel_rfl) rfl) rfl rfl rfl ?_
  intro w0 M0 H hp
  have hsh := hp.short
  simp only [maxLen] at hsh
  have hil := (List.getElem?_eq_some_iff.1 hb).1
  refine SQ (RG (AS rfl rfl (NL (TN (SQ (SQ (RG (MV rfl rfl (MV rfl rfl (WR.stepE (v' := encN (i - 1)) (Ex.sub64 rfl rfl (by omega)) (congrArg I (by omega)) (Wn.none rfl) rfl rfl ?_))))))))))
  refine WR.idxSl Tryz.underlying107 Tryz.sizeOf3 (by assumption) rfl rfl (ha) (Wn.none rfl) rfl ?_
  intro p12 hc12
  first | refine WR.step (Ex.loadM H rfl (by assumption) Tryz.isAgg3) (Wn.none rfl) rfl rfl ?_ | refine WR.step (Ex.load1 H rfl (by repeat (first | exact List.Mem.head _ | apply List.Mem.tail)) Tryz.isAgg3 (by rfl)) (Wn.none rfl) rfl rfl ?_
  refine WR.split (Ex.lss rfl rfl) (Wn.none rfl) rfl rfl (fun h1_5 => ?_) (fun h1_5 => ?_)
  · refine MV rfl rfl (GT rfl rfl rfl (GT rfl rfl rfl (GT rfl rfl rfl (GT rfl rfl rfl (GT rfl rfl rfl (PT rfl rfl rfl (NL (TN (CT rfl (SQ (RG (AS rfl rfl (NL (TN (RT ?_)))))))))))))))
    refine WQ.ret1 rfl rfl H.ext (congrArg Value.bool ?_)
    rw [con_eq, if_pos (by omega)]
  · refine MV rfl rfl (SG (Ex.move rfl) rfl rfl rfl (SG (Ex.move rfl) rfl rfl rfl (WR.idxSl Tryz.underlying107 Tryz.sizeOf3 (by assumption) rfl rfl (hb) (Wn.some rfl rfl rfl) rfl ?_)))
    intro p18 hc18
    first | refine WR.step (Ex.loadM H rfl (by assumption) Tryz.isAgg3) (Wn.some rfl rfl rfl) rfl rfl ?_ | refine WR.step (Ex.load1 H rfl (by repeat (first | exact List.Mem.head _ | apply List.Mem.tail)) Tryz.isAgg3 (by rfl)) (Wn.some rfl rfl rfl) rfl rfl ?_
    refine WR.split (Ex.lss rfl rfl) (Wn.some rfl rfl rfl) rfl rfl (fun h1_11 => ?_) (fun h1_11 => ?_)
    · refine PF rfl rfl rfl (NL (TN (CT rfl (SQ (RG (AS rfl rfl (NL (TN (RT ?_)))))))))
      refine WQ.ret1 rfl rfl H.ext (congrArg Value.bool ?_)
      rw [con_eq, if_pos (by omega)]
    · refine PF rfl rfl rfl (NL (TN (CF rfl (SK (TN (SQ (RG (MV rfl rfl (MV rfl rfl (WR.stepE (v' := encN (i - 1)) (Ex.sub64 rfl rfl (by omega)) (congrArg I (by omega)) (Wn.none rfl) rfl rfl ?_))))))))))
      refine WR.idxSl Tryz.underlying107 Tryz.sizeOf3 (by assumption) rfl rfl (ha) (Wn.none rfl) rfl ?_
      intro p25 hc25
      first | refine WR.step (Ex.loadM H rfl (by assumption) Tryz.isAgg3) (Wn.none rfl) rfl rfl ?_ | refine WR.step (Ex.load1 H rfl (by repeat (first | exact List.Mem.head _ | apply List.Mem.tail)) Tryz.isAgg3 (by rfl)) (Wn.none rfl) rfl rfl ?_
      refine WR.call H (class_spec _) rfl (trivial) (Wn.none rfl) rfl ?_
      intro v27 M w H hle hr27
      replace hp := hp.mono hle
      replace hc12 := hc12.mono hle
      replace hc18 := hc18.mono hle
      replace hc25 := hc25.mono hle
      obtain rfl := hr27
      refine AS rfl rfl (NL (TN (SQ (RG (MV rfl rfl (MV rfl rfl (WR.idxSl Tryz.underlying107 Tryz.sizeOf3 (by assumption) rfl rfl (hb) (Wn.none rfl) rfl ?_)))))))
      intro p30 hc30
      first | refine WR.step (Ex.loadM H rfl (by assumption) Tryz.isAgg3) (Wn.none rfl) rfl rfl ?_ | refine WR.step (Ex.load1 H rfl (by repeat (first | exact List.Mem.head _ | apply List.Mem.tail)) Tryz.isAgg3 (by rfl)) (Wn.none rfl) rfl rfl ?_
      refine WR.call H (class_spec _) rfl (trivial) (Wn.none rfl) rfl ?_
      intro v32 M w H hle hr32
      replace hp := hp.mono hle
      replace hc12 := hc12.mono hle
      replace hc18 := hc18.mono hle
      replace hc25 := hc25.mono hle
      replace hc30 := hc30.mono hle
      obtain rfl := hr32
      refine AS rfl rfl (NL (TN (SQ (SQ (RG (MV rfl rfl ?_))))))
      refine WR.split (Ex.eql rfl rfl) (Wn.none rfl) rfl rfl (fun h5_1 => ?_) (fun h5_1 => ?_)
      · refine MV rfl rfl (SG (Ex.move rfl) rfl rfl rfl ?_)
        refine WR.split (Ex.eql rfl rfl) (Wn.some rfl rfl rfl) rfl rfl (fun h5_4 => ?_) (fun h5_4 => ?_)
        · refine PT rfl rfl rfl (NL (TN (CT rfl (SQ (RG (AS rfl rfl (NL (TN (RT ?_)))))))))
          refine WQ.ret1 rfl rfl H.ext (congrArg Value.bool ?_)
          rw [con_eq, if_neg (by omega)]
          unfold contC
          rw [if_pos (by omega)]
        · refine PT rfl rfl rfl (NL (TN (CF rfl (SK (TN (SQ (SQ (RG (MV rfl rfl ?_)))))))))
          refine WR.callB H (in_spec _ _ _) rfl (trivial) (Wn.none rfl) rfl (fun h7_1 => ?_) (fun h7_1 => ?_)
          · intro M w H hle
            replace hp := hp.mono hle
            replace hc12 := hc12.mono hle
            replace hc18 := hc18.mono hle
            replace hc25 := hc25.mono hle
            replace hc30 := hc30.mono hle
            refine MV rfl rfl (GT rfl rfl rfl (GT rfl rfl rfl (PT rfl rfl rfl (NL (TN (CT rfl (SQ (RG (AS rfl rfl (NL (TN (RT ?_))))))))))))
            refine WQ.ret1 rfl rfl H.ext (congrArg Value.bool ?_)
            rw [con_eq, if_neg (by omega)]
            unfold contC
            rw [if_neg (by omega)]
            rw [if_pos (by omega)]
          · intro M w H hle
            replace hp := hp.mono hle
            replace hc12 := hc12.mono hle
            replace hc18 := hc18.mono hle
            replace hc25 := hc25.mono hle
            replace hc30 := hc30.mono hle
            refine MV rfl rfl (SG (Ex.move rfl) rfl rfl rfl ?_)
            refine WR.callB H (in_spec _ _ _) rfl (trivial) (Wn.some rfl rfl rfl) rfl (fun h7_4 => ?_) (fun h7_4 => ?_)
            · intro M w H hle
              replace hp := hp.mono hle
              replace hc12 := hc12.mono hle
              replace hc18 := hc18.mono hle
              replace hc25 := hc25.mono hle
              replace hc30 := hc30.mono hle
              refine PF rfl rfl rfl (NL (TN (CT rfl (SQ (RG (AS rfl rfl (NL (TN (RT ?_)))))))))
              refine WQ.ret1 rfl rfl H.ext (congrArg Value.bool ?_)
              rw [con_eq, if_neg (by omega)]
              unfold contC
              rw [if_neg (by omega)]
              rw [if_pos (by omega)]
            · intro M w H hle
              replace hp := hp.mono hle
              replace hc12 := hc12.mono hle
              replace hc18 := hc18.mono hle
              replace hc25 := hc25.mono hle
              replace hc30 := hc30.mono hle
              refine PF rfl rfl rfl (NL (TN (CF rfl (SK (TN (SQ (SQ (RG (MV rfl rfl ?_)))))))))
              refine WR.split (Ex.eql rfl rfl) (Wn.none rfl) rfl rfl (fun h9_1 => ?_) (fun h9_1 => ?_)
              · refine MV rfl rfl (GT rfl rfl rfl (GT rfl rfl rfl (PT rfl rfl rfl (NL (TN (CT rfl (SQ (RG (AS rfl rfl (NL (TN (RT ?_))))))))))))
                refine WQ.ret1 rfl rfl H.ext (congrArg Value.bool ?_)
                rw [con_eq, if_neg (by omega)]
                unfold contC
                rw [if_neg (by omega)]
                rw [if_neg (by omega)]
                rw [if_pos (by omega)]
              · refine MV rfl rfl (SG (Ex.move rfl) rfl rfl rfl ?_)
                refine WR.split (Ex.eql rfl rfl) (Wn.some rfl rfl rfl) rfl rfl (fun h9_4 => ?_) (fun h9_4 => ?_)
                · refine PF rfl rfl rfl (NL (TN (CT rfl (SQ (RG (AS rfl rfl (NL (TN (RT ?_)))))))))
                  refine WQ.ret1 rfl rfl H.ext (congrArg Value.bool ?_)
                  rw [con_eq, if_neg (by omega)]
                  unfold contC
                  rw [if_neg (by omega)]
                  rw [if_neg (by omega)]
                  rw [if_pos (by omega)]
                · refine PF rfl rfl rfl (NL (TN (CF rfl (SK (TN (SQ (SQ (RG (MV rfl rfl ?_)))))))))
                  refine WR.split (Ex.eql rfl rfl) (Wn.none rfl) rfl rfl (fun h11_1 => ?_) (fun h11_1 => ?_)
                  · refine NL (TN (CT rfl (SQ (RG (MV rfl rfl (ST (Ex.eql rfl rfl) rfl (AS rfl rfl (NL (TN (RT ?_))))))))))
                    refine WQ.ret1 rfl rfl H.ext (congrArg Value.bool ?_)
                    rw [con_eq, if_neg (by omega)]
                    unfold contC
                    rw [if_neg (by omega)]
                    rw [if_neg (by omega)]
                    rw [if_neg (by omega)]
                    rw [if_pos (by omega)]
                  · refine NL (TN (CF rfl (SK (TN (SQ (SQ (RG (MV rfl rfl ?_))))))))
                    refine WR.split (Ex.eql rfl rfl) (Wn.none rfl) rfl rfl (fun h13_1 => ?_) (fun h13_1 => ?_)
                    · refine NL (TN (CT rfl (SQ (RG (MV rfl rfl (ST (Ex.rem64 rfl rfl (by first | omega | exact ⟨Int.natCast_nonneg _, by decide⟩)) rfl ?_))))))
                      refine ST (Ex.eql rfl rfl) rfl (AS rfl rfl (NL (TN (RT ?_))))
                      refine WQ.ret1 rfl rfl H.ext (congrArg Value.bool ?_)
                      rw [con_eq, if_neg (by omega)]
                      unfold contC
                      rw [if_neg (by omega)]
                      rw [if_neg (by omega)]
                      rw [if_neg (by omega)]
                      rw [if_neg (by omega)]
                      rw [if_pos (by omega)]
                    · refine NL (TN (CF rfl (SK (TN (SQ (RG (MV rfl rfl ?_)))))))
                      refine WR.split (Ex.eql rfl rfl) (Wn.none rfl) rfl rfl (fun h15_1 => ?_) (fun h15_1 => ?_)
                      · refine MV rfl rfl (SG (Ex.move rfl) rfl rfl rfl ?_)
                        refine WR.split (Ex.eql rfl rfl) (Wn.some rfl rfl rfl) rfl rfl (fun h15_4 => ?_) (fun h15_4 => ?_)
                        · refine SG (Ex.move rfl) rfl rfl rfl (GT rfl rfl rfl (GT rfl rfl rfl (SG (Ex.pickT rfl rfl) rfl rfl rfl (PT rfl rfl rfl (MV rfl rfl (GT rfl rfl rfl (GT rfl rfl rfl (GT rfl rfl rfl (GU rfl rfl rfl (GU rfl rfl rfl (GU rfl rfl rfl (GU rfl rfl rfl (GU rfl rfl rfl (GU rfl rfl rfl (GT rfl rfl rfl (PT rfl rfl rfl (MV rfl rfl (GT rfl rfl rfl (GT rfl rfl rfl (GT rfl rfl rfl (GU rfl rfl rfl (GU rfl rfl rfl (GT rfl rfl rfl (PT rfl rfl rfl (AS rfl rfl (NL (TN (RT ?_))))))))))))))))))))))))))))
                          refine WQ.ret1 rfl rfl H.ext (congrArg Value.bool ?_)
                          rw [con_eq, if_neg (by omega)]
                          unfold contC
                          rw [if_neg (by omega)]
                          rw [if_neg (by omega)]
                          rw [if_neg (by omega)]
                          rw [if_neg (by omega)]
                          rw [if_neg (by omega)]
                          first | rfl | exact (decide_eq_true (by omega)).symm | exact (decide_eq_false (by omega)).symm | exact decide_eq_decide.2 (by omega) | (exfalso; omega)
                        · refine SG (Ex.move rfl) rfl rfl rfl (SG (Ex.move rfl) rfl rfl rfl ?_)
                          refine WR.split (Ex.eql rfl rfl) (Wn.some rfl rfl rfl) rfl rfl (fun h15_7 => ?_) (fun h15_7 => ?_)
                          · refine SG (Ex.pickF rfl rfl) rfl rfl rfl (PT rfl rfl rfl (MV rfl rfl (GT rfl rfl rfl (GT rfl rfl rfl (GT rfl rfl rfl (GU rfl rfl rfl (GU rfl rfl rfl (GU rfl rfl rfl (GU rfl rfl rfl (GU rfl rfl rfl (GU rfl rfl rfl (GT rfl rfl rfl (PT rfl rfl rfl (MV rfl rfl (GT rfl rfl rfl (GT rfl rfl rfl (GT rfl rfl rfl (GU rfl rfl rfl (GU rfl rfl rfl (GT rfl rfl rfl (PT rfl rfl rfl (AS rfl rfl (NL (TN (RT ?_)))))))))))))))))))))))))
                            refine WQ.ret1 rfl rfl H.ext (congrArg Value.bool ?_)
                            rw [con_eq, if_neg (by omega)]
                            unfold contC
                            rw [if_neg (by omega)]
                            rw [if_neg (by omega)]
                            rw [if_neg (by omega)]
                            rw [if_neg (by omega)]
                            rw [if_neg (by omega)]
                            first | rfl | exact (decide_eq_true (by omega)).symm | exact (decide_eq_false (by omega)).symm | exact decide_eq_decide.2 (by omega) | (exfalso; omega)
                          · refine SG (Ex.pickF rfl rfl) rfl rfl rfl (PT rfl rfl rfl (MV rfl rfl (SG (Ex.move rfl) rfl rfl rfl ?_)))
                            refine WR.split (Ex.eql rfl rfl) (Wn.some rfl rfl rfl) rfl rfl (fun h15_12 => ?_) (fun h15_12 => ?_)
                            · refine SG (Ex.move rfl) rfl rfl rfl (SG (Ex.move rfl) rfl rfl rfl ?_)
                              refine WR.split (Ex.eql rfl rfl) (Wn.some rfl rfl rfl) rfl rfl (fun h15_15 => ?_) (fun h15_15 => ?_)
                              · refine SG (Ex.move rfl) rfl rfl rfl (GT rfl rfl rfl (GT rfl rfl rfl (SG (Ex.pickT rfl rfl) rfl rfl rfl (SG (Ex.pickT rfl rfl) rfl rfl rfl (PF rfl rfl rfl (MV rfl rfl (GT rfl rfl rfl (GT rfl rfl rfl (GT rfl rfl rfl (GU rfl rfl rfl (GU rfl rfl rfl (GT rfl rfl rfl (PT rfl rfl rfl (AS rfl rfl (NL (TN (RT ?_)))))))))))))))))
                                refine WQ.ret1 rfl rfl H.ext (congrArg Value.bool ?_)
                                rw [con_eq, if_neg (by omega)]
                                unfold contC
                                rw [if_neg (by omega)]
                                rw [if_neg (by omega)]
                                rw [if_neg (by omega)]
                                rw [if_neg (by omega)]
                                rw [if_neg (by omega)]
                                first | rfl | exact (decide_eq_true (by omega)).symm | exact (decide_eq_false (by omega)).symm | exact decide_eq_decide.2 (by omega) | (exfalso; omega)
                              · refine SG (Ex.move rfl) rfl rfl rfl (SG (Ex.move rfl) rfl rfl rfl ?_)
                                refine WR.split (Ex.eql rfl rfl) (Wn.some rfl rfl rfl) rfl rfl (fun h15_18 => ?_) (fun h15_18 => ?_)
                                · refine SG (Ex.pickF rfl rfl) rfl rfl rfl (SG (Ex.pickT rfl rfl) rfl rfl rfl (PF rfl rfl rfl (MV rfl rfl (GT rfl rfl rfl (GT rfl rfl rfl (GT rfl rfl rfl (GU rfl rfl rfl (GU rfl rfl rfl (GT rfl rfl rfl (PT rfl rfl rfl (AS rfl rfl (NL (TN (RT ?_))))))))))))))
                                  refine WQ.ret1 rfl rfl H.ext (congrArg Value.bool ?_)
                                  rw [con_eq, if_neg (by omega)]
                                  unfold contC
                                  rw [if_neg (by omega)]
                                  rw [if_neg (by omega)]
                                  rw [if_neg (by omega)]
                                  rw [if_neg (by omega)]
                                  rw [if_neg (by omega)]
                                  first | rfl | exact (decide_eq_true (by omega)).symm | exact (decide_eq_false (by omega)).symm | exact decide_eq_decide.2 (by omega) | (exfalso; omega)
                                · refine SG (Ex.pickF rfl rfl) rfl rfl rfl (SG (Ex.pickT rfl rfl) rfl rfl rfl (PF rfl rfl rfl (MV rfl rfl (SG (Ex.move rfl) rfl rfl rfl ?_))))
                                  refine WR.split (Ex.eql rfl rfl) (Wn.some rfl rfl rfl) rfl rfl (fun h15_24 => ?_) (fun h15_24 => ?_)
                                  · refine SG (Ex.move rfl) rfl rfl rfl (SG (Ex.move rfl) rfl rfl rfl (SG (Ex.eql rfl rfl) rfl rfl rfl (SG (Ex.pickT rfl rfl) rfl rfl rfl (PF rfl rfl rfl (AS rfl rfl (NL (TN (RT ?_))))))))
                                    refine WQ.ret1 rfl rfl H.ext (congrArg Value.bool ?_)
                                    rw [con_eq, if_neg (by omega)]
                                    unfold contC
                                    rw [if_neg (by omega)]
                                    rw [if_neg (by omega)]
                                    rw [if_neg (by omega)]
                                    rw [if_neg (by omega)]
                                    rw [if_neg (by omega)]
                                    first | rfl | exact (decide_eq_true (by omega)).symm | exact (decide_eq_false (by omega)).symm | exact decide_eq_decide.2 (by omega) | (exfalso; omega)
                                  · refine SG (Ex.move rfl) rfl rfl rfl (GF rfl rfl rfl (GF rfl rfl rfl (SG (Ex.pickF rfl rfl) rfl rfl rfl (PF rfl rfl rfl (AS rfl rfl (NL (TN (RT ?_))))))))
                                    refine WQ.ret1 rfl rfl H.ext (congrArg Value.bool ?_)
                                    rw [con_eq, if_neg (by omega)]
                                    unfold contC
                                    rw [if_neg (by omega)]
                                    rw [if_neg (by omega)]
                                    rw [if_neg (by omega)]
                                    rw [if_neg (by omega)]
                                    rw [if_neg (by omega)]
                                    first | rfl | exact (decide_eq_true (by omega)).symm | exact (decide_eq_false (by omega)).symm | exact decide_eq_decide.2 (by omega) | (exfalso; omega)
                            · refine SG (Ex.move rfl) rfl rfl rfl (GF rfl rfl rfl (GF rfl rfl rfl (GF rfl rfl rfl (GU rfl rfl rfl (GU rfl rfl rfl (GF rfl rfl rfl (SG (Ex.pickF rfl rfl) rfl rfl rfl (PF rfl rfl rfl (MV rfl rfl (SG (Ex.move rfl) rfl rfl rfl ?_))))))))))
                              refine WR.split (Ex.eql rfl rfl) (Wn.some rfl rfl rfl) rfl rfl (fun h15_24 => ?_) (fun h15_24 => ?_)
                              · refine SG (Ex.move rfl) rfl rfl rfl (SG (Ex.move rfl) rfl rfl rfl (SG (Ex.eql rfl rfl) rfl rfl rfl (SG (Ex.pickT rfl rfl) rfl rfl rfl (PF rfl rfl rfl (AS rfl rfl (NL (TN (RT ?_))))))))
                                refine WQ.ret1 rfl rfl H.ext (congrArg Value.bool ?_)
                                rw [con_eq, if_neg (by omega)]
                                unfold contC
                                rw [if_neg (by omega)]
                                rw [if_neg (by omega)]
                                rw [if_neg (by omega)]
                                rw [if_neg (by omega)]
                                rw [if_neg (by omega)]
                                first | rfl | exact (decide_eq_true (by omega)).symm | exact (decide_eq_false (by omega)).symm | exact decide_eq_decide.2 (by omega) | (exfalso; omega)
                              · refine SG (Ex.move rfl) rfl rfl rfl (GF rfl rfl rfl (GF rfl rfl rfl (SG (Ex.pickF rfl rfl) rfl rfl rfl (PF rfl rfl rfl (AS rfl rfl (NL (TN (RT ?_))))))))
                                refine WQ.ret1 rfl rfl H.ext (congrArg Value.bool ?_)
                                rw [con_eq, if_neg (by omega)]
                                unfold contC
                                rw [if_neg (by omega)]
                                rw [if_neg (by omega)]
                                rw [if_neg (by omega)]
                                rw [if_neg (by omega)]
                                rw [if_neg (by omega)]
                                first | rfl | exact (decide_eq_true (by omega)).symm | exact (decide_eq_false (by omega)).symm | exact decide_eq_decide.2 (by omega) | (exfalso; omega)
                      · refine MV rfl rfl (GF rfl rfl rfl (GF rfl rfl rfl (GF rfl rfl rfl (GU rfl rfl rfl (GU rfl rfl rfl (GF rfl rfl rfl (PF rfl rfl rfl (MV rfl rfl (SG (Ex.move rfl) rfl rfl rfl ?_)))))))))
                        refine WR.split (Ex.eql rfl rfl) (Wn.some rfl rfl rfl) rfl rfl (fun h15_12 => ?_) (fun h15_12 => ?_)
                        · refine SG (Ex.move rfl) rfl rfl rfl (SG (Ex.move rfl) rfl rfl rfl ?_)
                          refine WR.split (Ex.eql rfl rfl) (Wn.some rfl rfl rfl) rfl rfl (fun h15_15 => ?_) (fun h15_15 => ?_)
                          · refine SG (Ex.move rfl) rfl rfl rfl (GT rfl rfl rfl (GT rfl rfl rfl (SG (Ex.pickT rfl rfl) rfl rfl rfl (SG (Ex.pickT rfl rfl) rfl rfl rfl (PF rfl rfl rfl (MV rfl rfl (GT rfl rfl rfl (GT rfl rfl rfl (GT rfl rfl rfl (GU rfl rfl rfl (GU rfl rfl rfl (GT rfl rfl rfl (PT rfl rfl rfl (AS rfl rfl (NL (TN (RT ?_)))))))))))))))))
                            refine WQ.ret1 rfl rfl H.ext (congrArg Value.bool ?_)
                            rw [con_eq, if_neg (by omega)]
                            unfold contC
                            rw [if_neg (by omega)]
                            rw [if_neg (by omega)]
                            rw [if_neg (by omega)]
                            rw [if_neg (by omega)]
                            rw [if_neg (by omega)]
                            first | rfl | exact (decide_eq_true (by omega)).symm | exact (decide_eq_false (by omega)).symm | exact decide_eq_decide.2 (by omega) | (exfalso; omega)
                          · refine SG (Ex.move rfl) rfl rfl rfl (SG (Ex.move rfl) rfl rfl rfl ?_)
                            refine WR.split (Ex.eql rfl rfl) (Wn.some rfl rfl rfl) rfl rfl (fun h15_18 => ?_) (fun h15_18 => ?_)
                            · refine SG (Ex.pickF rfl rfl) rfl rfl rfl (SG (Ex.pickT rfl rfl) rfl rfl rfl (PF rfl rfl rfl (MV rfl rfl (GT rfl rfl rfl (GT rfl rfl rfl (GT rfl rfl rfl (GU rfl rfl rfl (GU rfl rfl rfl (GT rfl rfl rfl (PT rfl rfl rfl (AS rfl rfl (NL (TN (RT ?_))))))))))))))
                              refine WQ.ret1 rfl rfl H.ext (congrArg Value.bool ?_)
                              rw [con_eq, if_neg (by omega)]
                              unfold contC
                              rw [if_neg (by omega)]
                              rw [if_neg (by omega)]
                              rw [if_neg (by omega)]
                              rw [if_neg (by omega)]
                              rw [if_neg (by omega)]
                              first | rfl | exact (decide_eq_true (by omega)).symm | exact (decide_eq_false (by omega)).symm | exact decide_eq_decide.2 (by omega) | (exfalso; omega)
                            · refine SG (Ex.pickF rfl rfl) rfl rfl rfl (SG (Ex.pickT rfl rfl) rfl rfl rfl (PF rfl rfl rfl (MV rfl rfl (SG (Ex.move rfl) rfl rfl rfl ?_))))
                              refine WR.split (Ex.eql rfl rfl) (Wn.some rfl rfl rfl) rfl rfl (fun h15_24 => ?_) (fun h15_24 => ?_)
                              · refine SG (Ex.move rfl) rfl rfl rfl (SG (Ex.move rfl) rfl rfl rfl (SG (Ex.eql rfl rfl) rfl rfl rfl (SG (Ex.pickT rfl rfl) rfl rfl rfl (PF rfl rfl rfl (AS rfl rfl (NL (TN (RT ?_))))))))
                                refine WQ.ret1 rfl rfl H.ext (congrArg Value.bool ?_)
                                rw [con_eq, if_neg (by omega)]
                                unfold contC
                                rw [if_neg (by omega)]
                                rw [if_neg (by omega)]
                                rw [if_neg (by omega)]
                                rw [if_neg (by omega)]
                                rw [if_neg (by omega)]
                                first | rfl | exact (decide_eq_true (by omega)).symm | exact (decide_eq_false (by omega)).symm | exact decide_eq_decide.2 (by omega) | (exfalso; omega)
                              · refine SG (Ex.move rfl) rfl rfl rfl (GF rfl rfl rfl (GF rfl rfl rfl (SG (Ex.pickF rfl rfl) rfl rfl rfl (PF rfl rfl rfl (AS rfl rfl (NL (TN (RT ?_))))))))
                                refine WQ.ret1 rfl rfl H.ext (congrArg Value.bool ?_)
                                rw [con_eq, if_neg (by omega)]
                                unfold contC
                                rw [if_neg (by omega)]
                                rw [if_neg (by omega)]
                                rw [if_neg (by omega)]
                                rw [if_neg (by omega)]
                                rw [if_neg (by omega)]
                                first | rfl | exact (decide_eq_true (by omega)).symm | exact (decide_eq_false (by omega)).symm | exact decide_eq_decide.2 (by omega) | (exfalso; omega)
                        · refine SG (Ex.move rfl) rfl rfl rfl (GF rfl rfl rfl (GF rfl rfl rfl (GF rfl rfl rfl (GU rfl rfl rfl (GU rfl rfl rfl (GF rfl rfl rfl (SG (Ex.pickF rfl rfl) rfl rfl rfl (PF rfl rfl rfl (MV rfl rfl (SG (Ex.move rfl) rfl rfl rfl ?_))))))))))
                          refine WR.split (Ex.eql rfl rfl) (Wn.some rfl rfl rfl) rfl rfl (fun h15_24 => ?_) (fun h15_24 => ?_)
                          · refine SG (Ex.move rfl) rfl rfl rfl (SG (Ex.move rfl) rfl rfl rfl (SG (Ex.eql rfl rfl) rfl rfl rfl (SG (Ex.pickT rfl rfl) rfl rfl rfl (PF rfl rfl rfl (AS rfl rfl (NL (TN (RT ?_))))))))
                            refine WQ.ret1 rfl rfl H.ext (congrArg Value.bool ?_)
                            rw [con_eq, if_neg (by omega)]
                            unfold contC
                            rw [if_neg (by omega)]
                            rw [if_neg (by omega)]
                            rw [if_neg (by omega)]
                            rw [if_neg (by omega)]
                            rw [if_neg (by omega)]
                            first | rfl | exact (decide_eq_true (by omega)).symm | exact (decide_eq_false (by omega)).symm | exact decide_eq_decide.2 (by omega) | (exfalso; omega)
                          · refine SG (Ex.move rfl) rfl rfl rfl (GF rfl rfl rfl (GF rfl rfl rfl (SG (Ex.pickF rfl rfl) rfl rfl rfl (PF rfl rfl rfl (AS rfl rfl (NL (TN (RT ?_))))))))
                            refine WQ.ret1 rfl rfl H.ext (congrArg Value.bool ?_)
                            rw [con_eq, if_neg (by omega)]
                            unfold contC
                            rw [if_neg (by omega)]
                            rw [if_neg (by omega)]
                            rw [if_neg (by omega)]
                            rw [if_neg (by omega)]
                            rw [if_neg (by omega)]
                            first | rfl | exact (decide_eq_true (by omega)).symm | exact (decide_eq_false (by omega)).symm | exact decide_eq_decide.2 (by omega) | (exfalso; omega)
      · refine MV rfl rfl (GF rfl rfl rfl (GF rfl rfl rfl (PF rfl rfl rfl (NL (TN (CF rfl (SK (TN (SQ (SQ (RG (MV rfl rfl ?_))))))))))))
        refine WR.callB H (in_spec _ _ _) rfl (trivial) (Wn.none rfl) rfl (fun h7_1 => ?_) (fun h7_1 => ?_)
        · intro M w H hle
          replace hp := hp.mono hle
          replace hc12 := hc12.mono hle
          replace hc18 := hc18.mono hle
          replace hc25 := hc25.mono hle
          replace hc30 := hc30.mono hle
          refine MV rfl rfl (GT rfl rfl rfl (GT rfl rfl rfl (PT rfl rfl rfl (NL (TN (CT rfl (SQ (RG (AS rfl rfl (NL (TN (RT ?_))))))))))))
          refine WQ.ret1 rfl rfl H.ext (congrArg Value.bool ?_)
          rw [con_eq, if_neg (by omega)]
          unfold contC
          rw [if_neg (by omega)]
          rw [if_pos (by omega)]
        · intro M w H hle
          replace hp := hp.mono hle
          replace hc12 := hc12.mono hle
          replace hc18 := hc18.mono hle
          replace hc25 := hc25.mono hle
          replace hc30 := hc30.mono hle
          refine MV rfl rfl (SG (Ex.move rfl) rfl rfl rfl ?_)
          refine WR.callB H (in_spec _ _ _) rfl (trivial) (Wn.some rfl rfl rfl) rfl (fun h7_4 => ?_) (fun h7_4 => ?_)
          · intro M w H hle
            replace hp := hp.mono hle
            replace hc12 := hc12.mono hle
            replace hc18 := hc18.mono hle
            replace hc25 := hc25.mono hle
            replace hc30 := hc30.mono hle
            refine PF rfl rfl rfl (NL (TN (CT rfl (SQ (RG (AS rfl rfl (NL (TN (RT ?_)))))))))
            refine WQ.ret1 rfl rfl H.ext (congrArg Value.bool ?_)
            rw [con_eq, if_neg (by omega)]
            unfold contC
            rw [if_neg (by omega)]
            rw [if_pos (by omega)]
          · intro M w H hle
            replace hp := hp.mono hle
            replace hc12 := hc12.mono hle
            replace hc18 := hc18.mono hle
            replace hc25 := hc25.mono hle
            replace hc30 := hc30.mono hle
            refine PF rfl rfl rfl (NL (TN (CF rfl (SK (TN (SQ (SQ (RG (MV rfl rfl ?_)))))))))
            refine WR.split (Ex.eql rfl rfl) (Wn.none rfl) rfl rfl (fun h9_1 => ?_) (fun h9_1 => ?_)
            · refine MV rfl rfl (GT rfl rfl rfl (GT rfl rfl rfl (PT rfl rfl rfl (NL (TN (CT rfl (SQ (RG (AS rfl rfl (NL (TN (RT ?_))))))))))))
              refine WQ.ret1 rfl rfl H.ext (congrArg Value.bool ?_)
              rw [con_eq, if_neg (by omega)]
              unfold contC
              rw [if_neg (by omega)]
              rw [if_neg (by omega)]
              rw [if_pos (by omega)]
            · refine MV rfl rfl (SG (Ex.move rfl) rfl rfl rfl ?_)
              refine WR.split (Ex.eql rfl rfl) (Wn.some rfl rfl rfl) rfl rfl (fun h9_4 => ?_) (fun h9_4 => ?_)
              · refine PF rfl rfl rfl (NL (TN (CT rfl (SQ (RG (AS rfl rfl (NL (TN (RT ?_)))))))))
                refine WQ.ret1 rfl rfl H.ext (congrArg Value.bool ?_)
                rw [con_eq, if_neg (by omega)]
                unfold contC
                rw [if_neg (by omega)]
                rw [if_neg (by omega)]
                rw [if_pos (by omega)]
              · refine PF rfl rfl rfl (NL (TN (CF rfl (SK (TN (SQ (SQ (RG (MV rfl rfl ?_)))))))))
                refine WR.split (Ex.eql rfl rfl) (Wn.none rfl) rfl rfl (fun h11_1 => ?_) (fun h11_1 => ?_)
                · refine NL (TN (CT rfl (SQ (RG (MV rfl rfl (ST (Ex.eql rfl rfl) rfl (AS rfl rfl (NL (TN (RT ?_))))))))))
                  refine WQ.ret1 rfl rfl H.ext (congrArg Value.bool ?_)
                  rw [con_eq, if_neg (by omega)]
                  unfold contC
                  rw [if_neg (by omega)]
                  rw [if_neg (by omega)]
                  rw [if_neg (by omega)]
                  rw [if_pos (by omega)]
                · refine NL (TN (CF rfl (SK (TN (SQ (SQ (RG (MV rfl rfl ?_))))))))
                  refine WR.split (Ex.eql rfl rfl) (Wn.none rfl) rfl rfl (fun h13_1 => ?_) (fun h13_1 => ?_)
                  · refine NL (TN (CT rfl (SQ (RG (MV rfl rfl (ST (Ex.rem64 rfl rfl (by first | omega | exact ⟨Int.natCast_nonneg _, by decide⟩)) rfl ?_))))))
                    refine ST (Ex.eql rfl rfl) rfl (AS rfl rfl (NL (TN (RT ?_))))
                    refine WQ.ret1 rfl rfl H.ext (congrArg Value.bool ?_)
                    rw [con_eq, if_neg (by omega)]
                    unfold contC
                    rw [if_neg (by omega)]
                    rw [if_neg (by omega)]
                    rw [if_neg (by omega)]
                    rw [if_neg (by omega)]
                    rw [if_pos (by omega)]
                  · refine NL (TN (CF rfl (SK (TN (SQ (RG (MV rfl rfl ?_)))))))
                    refine WR.split (Ex.eql rfl rfl) (Wn.none rfl) rfl rfl (fun h15_1 => ?_) (fun h15_1 => ?_)
                    · refine MV rfl rfl (SG (Ex.move rfl) rfl rfl rfl ?_)
                      refine WR.split (Ex.eql rfl rfl) (Wn.some rfl rfl rfl) rfl rfl (fun h15_4 => ?_) (fun h15_4 => ?_)
                      · refine SG (Ex.move rfl) rfl rfl rfl (GT rfl rfl rfl (GT rfl rfl rfl (SG (Ex.pickT rfl rfl) rfl rfl rfl (PT rfl rfl rfl (MV rfl rfl (GT rfl rfl rfl (GT rfl rfl rfl (GT rfl rfl rfl (GU rfl rfl rfl (GU rfl rfl rfl (GU rfl rfl rfl (GU rfl rfl rfl (GU rfl rfl rfl (GU rfl rfl rfl (GT rfl rfl rfl (PT rfl rfl rfl (MV rfl rfl (GT rfl rfl rfl (GT rfl rfl rfl (GT rfl rfl rfl (GU rfl rfl rfl (GU rfl rfl rfl (GT rfl rfl rfl (PT rfl rfl rfl (AS rfl rfl (NL (TN (RT ?_))))))))))))))))))))))))))))
                        refine WQ.ret1 rfl rfl H.ext (congrArg Value.bool ?_)
                        rw [con_eq, if_neg (by omega)]
                        unfold contC
                        rw [if_neg (by omega)]
                        rw [if_neg (by omega)]
                        rw [if_neg (by omega)]
                        rw [if_neg (by omega)]
                        rw [if_neg (by omega)]
                        first | rfl | exact (decide_eq_true (by omega)).symm | exact (decide_eq_false (by omega)).symm | exact decide_eq_decide.2 (by omega) | (exfalso; omega)
                      · refine SG (Ex.move rfl) rfl rfl rfl (SG (Ex.move rfl) rfl rfl rfl ?_)
                        refine WR.split (Ex.eql rfl rfl) (Wn.some rfl rfl rfl) rfl rfl (fun h15_7 => ?_) (fun h15_7 => ?_)
                        · refine SG (Ex.pickF rfl rfl) rfl rfl rfl (PT rfl rfl rfl (MV rfl rfl (GT rfl rfl rfl (GT rfl rfl rfl (GT rfl rfl rfl (GU rfl rfl rfl (GU rfl rfl rfl (GU rfl rfl rfl (GU rfl rfl rfl (GU rfl rfl rfl (GU rfl rfl rfl (GT rfl rfl rfl (PT rfl rfl rfl (MV rfl rfl (GT rfl rfl rfl (GT rfl rfl rfl (GT rfl rfl rfl (GU rfl rfl rfl (GU rfl rfl rfl (GT rfl rfl rfl (PT rfl rfl rfl (AS rfl rfl (NL (TN (RT ?_)))))))))))))))))))))))))
                          refine WQ.ret1 rfl rfl H.ext (congrArg Value.bool ?_)
                          rw [con_eq, if_neg (by omega)]
                          unfold contC
                          rw [if_neg (by omega)]
                          rw [if_neg (by omega)]
                          rw [if_neg (by omega)]
                          rw [if_neg (by omega)]
                          rw [if_neg (by omega)]
                          first | rfl | exact (decide_eq_true (by omega)).symm | exact (decide_eq_false (by omega)).symm | exact decide_eq_decide.2 (by omega) | (exfalso; omega)
                        · refine SG (Ex.pickF rfl rfl) rfl rfl rfl (PT rfl rfl rfl (MV rfl rfl (SG (Ex.move rfl) rfl rfl rfl ?_)))
                          refine WR.split (Ex.eql rfl rfl) (Wn.some rfl rfl rfl) rfl rfl (fun h15_12 => ?_) (fun h15_12 => ?_)
                          · refine SG (Ex.move rfl) rfl rfl rfl (SG (Ex.move rfl) rfl rfl rfl ?_)
                            refine WR.split (Ex.eql rfl rfl) (Wn.some rfl rfl rfl) rfl rfl (fun h15_15 => ?_) (fun h15_15 => ?_)
                            · refine SG (Ex.move rfl) rfl rfl rfl (GT rfl rfl rfl (GT rfl rfl rfl (SG (Ex.pickT rfl rfl) rfl rfl rfl (SG (Ex.pickT rfl rfl) rfl rfl rfl (PF rfl rfl rfl (MV rfl rfl (GT rfl rfl rfl (GT rfl rfl rfl (GT rfl rfl rfl (GU rfl rfl rfl (GU rfl rfl rfl (GT rfl rfl rfl (PT rfl rfl rfl (AS rfl rfl (NL (TN (RT ?_)))))))))))))))))
                              refine WQ.ret1 rfl rfl H.ext (congrArg Value.bool ?_)
                              rw [con_eq, if_neg (by omega)]
                              unfold contC
                              rw [if_neg (by omega)]
                              rw [if_neg (by omega)]
                              rw [if_neg (by omega)]
                              rw [if_neg (by omega)]
                              rw [if_neg (by omega)]
                              first | rfl | exact (decide_eq_true (by omega)).symm | exact (decide_eq_false (by omega)).symm | exact decide_eq_decide.2 (by omega) | (exfalso; omega)
                            · refine SG (Ex.move rfl) rfl rfl rfl (SG (Ex.move rfl) rfl rfl rfl ?_)
                              refine WR.split (Ex.eql rfl rfl) (Wn.some rfl rfl rfl) rfl rfl (fun h15_18 => ?_) (fun h15_18 => ?_)
                              · refine SG (Ex.pickF rfl rfl) rfl rfl rfl (SG (Ex.pickT rfl rfl) rfl rfl rfl (PF rfl rfl rfl (MV rfl rfl (GT rfl rfl rfl (GT rfl rfl rfl (GT rfl rfl rfl (GU rfl rfl rfl (GU rfl rfl rfl (GT rfl rfl rfl (PT rfl rfl rfl (AS rfl rfl (NL (TN (RT ?_))))))))))))))
                                refine WQ.ret1 rfl rfl H.ext (congrArg Value.bool ?_)
                                rw [con_eq, if_neg (by omega)]
                                unfold contC
                                rw [if_neg (by omega)]
                                rw [if_neg (by omega)]
                                rw [if_neg (by omega)]
                                rw [if_neg (by omega)]
                                rw [if_neg (by omega)]
                                first | rfl | exact (decide_eq_true (by omega)).symm | exact (decide_eq_false (by omega)).symm | exact decide_eq_decide.2 (by omega) | (exfalso; omega)
                              · refine SG (Ex.pickF rfl rfl) rfl rfl rfl (SG (Ex.pickT rfl rfl) rfl rfl rfl (PF rfl rfl rfl (MV rfl rfl (SG (Ex.move rfl) rfl rfl rfl ?_))))
                                refine WR.split (Ex.eql rfl rfl) (Wn.some rfl rfl rfl) rfl rfl (fun h15_24 => ?_) (fun h15_24 => ?_)
                                · refine SG (Ex.move rfl) rfl rfl rfl (SG (Ex.move rfl) rfl rfl rfl (SG (Ex.eql rfl rfl) rfl rfl rfl (SG (Ex.pickT rfl rfl) rfl rfl rfl (PF rfl rfl rfl (AS rfl rfl (NL (TN (RT ?_))))))))
                                  refine WQ.ret1 rfl rfl H.ext (congrArg Value.bool ?_)
                                  rw [con_eq, if_neg (by omega)]
                                  unfold contC
                                  rw [if_neg (by omega)]
                                  rw [if_neg (by omega)]
                                  rw [if_neg (by omega)]
                                  rw [if_neg (by omega)]
                                  rw [if_neg (by omega)]
                                  first | rfl | exact (decide_eq_true (by omega)).symm | exact (decide_eq_false (by omega)).symm | exact decide_eq_decide.2 (by omega) | (exfalso; omega)
                                · refine SG (Ex.move rfl) rfl rfl rfl (GF rfl rfl rfl (GF rfl rfl rfl (SG (Ex.pickF rfl rfl) rfl rfl rfl (PF rfl rfl rfl (AS rfl rfl (NL (TN (RT ?_))))))))
                                  refine WQ.ret1 rfl rfl H.ext (congrArg Value.bool ?_)
                                  rw [con_eq, if_neg (by omega)]
                                  unfold contC
                                  rw [if_neg (by omega)]
                                  rw [if_neg (by omega)]
                                  rw [if_neg (by omega)]
                                  rw [if_neg (by omega)]
                                  rw [if_neg (by omega)]
                                  first | rfl | exact (decide_eq_true (by omega)).symm | exact (decide_eq_false (by omega)).symm | exact decide_eq_decide.2 (by omega) | (exfalso; omega)
                          · refine SG (Ex.move rfl) rfl rfl rfl (GF rfl rfl rfl (GF rfl rfl rfl (GF rfl rfl rfl (GU rfl rfl rfl (GU rfl rfl rfl (GF rfl rfl rfl (SG (Ex.pickF rfl rfl) rfl rfl rfl (PF rfl rfl rfl (MV rfl rfl (SG (Ex.move rfl) rfl rfl rfl ?_))))))))))
                            refine WR.split (Ex.eql rfl rfl) (Wn.some rfl rfl rfl) rfl rfl (fun h15_24 => ?_) (fun h15_24 => ?_)
                            · refine SG (Ex.move rfl) rfl rfl rfl (SG (Ex.move rfl) rfl rfl rfl (SG (Ex.eql rfl rfl) rfl rfl rfl (SG (Ex.pickT rfl rfl) rfl rfl rfl (PF rfl rfl rfl (AS rfl rfl (NL (TN (RT ?_))))))))
                              refine WQ.ret1 rfl rfl H.ext (congrArg Value.bool ?_)
                              rw [con_eq, if_neg (by omega)]
                              unfold contC
                              rw [if_neg (by omega)]
                              rw [if_neg (by omega)]
                              rw [if_neg (by omega)]
                              rw [if_neg (by omega)]
                              rw [if_neg (by omega)]
                              first | rfl | exact (decide_eq_true (by omega)).symm | exact (decide_eq_false (by omega)).symm | exact decide_eq_decide.2 (by omega) | (exfalso; omega)
                            · refine SG (Ex.move rfl) rfl rfl rfl (GF rfl rfl rfl (GF rfl rfl rfl (SG (Ex.pickF rfl rfl) rfl rfl rfl (PF rfl rfl rfl (AS rfl rfl (NL (TN (RT ?_))))))))
                              refine WQ.ret1 rfl rfl H.ext (congrArg Value.bool ?_)
                              rw [con_eq, if_neg (by omega)]
                              unfold contC
                              rw [if_neg (by omega)]
                              rw [if_neg (by omega)]
                              rw [if_neg (by omega)]
                              rw [if_neg (by omega)]
                              rw [if_neg (by omega)]
                              first | rfl | exact (decide_eq_true (by omega)).symm | exact (decide_eq_false (by omega)).symm | exact decide_eq_decide.2 (by omega) | (exfalso; omega)
                    · refine MV rfl rfl (GF rfl rfl rfl (GF rfl rfl rfl (GF rfl rfl rfl (GU rfl rfl rfl (GU rfl rfl rfl (GF rfl rfl rfl (PF rfl rfl rfl (MV rfl rfl (SG (Ex.move rfl) rfl rfl rfl ?_)))))))))
                      refine WR.split (Ex.eql rfl rfl) (Wn.some rfl rfl rfl) rfl rfl (fun h15_12 => ?_) (fun h15_12 => ?_)
                      · refine SG (Ex.move rfl) rfl rfl rfl (SG (Ex.move rfl) rfl rfl rfl ?_)
                        refine WR.split (Ex.eql rfl rfl) (Wn.some rfl rfl rfl) rfl rfl (fun h15_15 => ?_) (fun h15_15 => ?_)
                        · refine SG (Ex.move rfl) rfl rfl rfl (GT rfl rfl rfl (GT rfl rfl rfl (SG (Ex.pickT rfl rfl) rfl rfl rfl (SG (Ex.pickT rfl rfl) rfl rfl rfl (PF rfl rfl rfl (MV rfl rfl (GT rfl rfl rfl (GT rfl rfl rfl (GT rfl rfl rfl (GU rfl rfl rfl (GU rfl rfl rfl (GT rfl rfl rfl (PT rfl rfl rfl (AS rfl rfl (NL (TN (RT ?_)))))))))))))))))
                          refine WQ.ret1 rfl rfl H.ext (congrArg Value.bool ?_)
                          rw [con_eq, if_neg (by omega)]
                          unfold contC
                          rw [if_neg (by omega)]
                          rw [if_neg (by omega)]
                          rw [if_neg (by omega)]
                          rw [if_neg (by omega)]
                          rw [if_neg (by omega)]
                          first | rfl | exact (decide_eq_true (by omega)).symm | exact (decide_eq_false (by omega)).symm | exact decide_eq_decide.2 (by omega) | (exfalso; omega)
                        · refine SG (Ex.move rfl) rfl rfl rfl (SG (Ex.move rfl) rfl rfl rfl ?_)
                          refine WR.split (Ex.eql rfl rfl) (Wn.some rfl rfl rfl) rfl rfl (fun h15_18 => ?_) (fun h15_18 => ?_)
                          · refine SG (Ex.pickF rfl rfl) rfl rfl rfl (SG (Ex.pickT rfl rfl) rfl rfl rfl (PF rfl rfl rfl (MV rfl rfl (GT rfl rfl rfl (GT rfl rfl rfl (GT rfl rfl rfl (GU rfl rfl rfl (GU rfl rfl rfl (GT rfl rfl rfl (PT rfl rfl rfl (AS rfl rfl (NL (TN (RT ?_))))))))))))))
                            refine WQ.ret1 rfl rfl H.ext (congrArg Value.bool ?_)
                            rw [con_eq, if_neg (by omega)]
                            unfold contC
                            rw [if_neg (by omega)]
                            rw [if_neg (by omega)]
                            rw [if_neg (by omega)]
                            rw [if_neg (by omega)]
                            rw [if_neg (by omega)]
                            first | rfl | exact (decide_eq_true (by omega)).symm | exact (decide_eq_false (by omega)).symm | exact decide_eq_decide.2 (by omega) | (exfalso; omega)
                          · refine SG (Ex.pickF rfl rfl) rfl rfl rfl (SG (Ex.pickT rfl rfl) rfl rfl rfl (PF rfl rfl rfl (MV rfl rfl (SG (Ex.move rfl) rfl rfl rfl ?_))))
                            refine WR.split (Ex.eql rfl rfl) (Wn.some rfl rfl rfl) rfl rfl (fun h15_24 => ?_) (fun h15_24 => ?_)
                            · refine SG (Ex.move rfl) rfl rfl rfl (SG (Ex.move rfl) rfl rfl rfl (SG (Ex.eql rfl rfl) rfl rfl rfl (SG (Ex.pickT rfl rfl) rfl rfl rfl (PF rfl rfl rfl (AS rfl rfl (NL (TN (RT ?_))))))))
                              refine WQ.ret1 rfl rfl H.ext (congrArg Value.bool ?_)
                              rw [con_eq, if_neg (by omega)]
                              unfold contC
                              rw [if_neg (by omega)]
                              rw [if_neg (by omega)]
                              rw [if_neg (by omega)]
                              rw [if_neg (by omega)]
                              rw [if_neg (by omega)]
                              first | rfl | exact (decide_eq_true (by omega)).symm | exact (decide_eq_false (by omega)).symm | exact decide_eq_decide.2 (by omega) | (exfalso; omega)
                            · refine SG (Ex.move rfl) rfl rfl rfl (GF rfl rfl rfl (GF rfl rfl rfl (SG (Ex.pickF rfl rfl) rfl rfl rfl (PF rfl rfl rfl (AS rfl rfl (NL (TN (RT ?_))))))))
                              refine WQ.ret1 rfl rfl H.ext (congrArg Value.bool ?_)
                              rw [con_eq, if_neg (by omega)]
                              unfold contC
                              rw [if_neg (by omega)]
                              rw [if_neg (by omega)]
                              rw [if_neg (by omega)]
                              rw [if_neg (by omega)]
                              rw [if_neg (by omega)]
                              first | rfl | exact (decide_eq_true (by omega)).symm | exact (decide_eq_false (by omega)).symm | exact decide_eq_decide.2 (by omega) | (exfalso; omega)
                      · refine SG (Ex.move rfl) rfl rfl rfl (GF rfl rfl rfl (GF rfl rfl rfl (GF rfl rfl rfl (GU rfl rfl rfl (GU rfl rfl rfl (GF rfl rfl rfl (SG (Ex.pickF rfl rfl) rfl rfl rfl (PF rfl rfl rfl (MV rfl rfl (SG (Ex.move rfl) rfl rfl rfl ?_))))))))))
                        refine WR.split (Ex.eql rfl rfl) (Wn.some rfl rfl rfl) rfl rfl (fun h15_24 => ?_) (fun h15_24 => ?_)
                        · refine SG (Ex.move rfl) rfl rfl rfl (SG (Ex.move rfl) rfl rfl rfl (SG (Ex.eql rfl rfl) rfl rfl rfl (SG (Ex.pickT rfl rfl) rfl rfl rfl (PF rfl rfl rfl (AS rfl rfl (NL (TN (RT ?_))))))))
                          refine WQ.ret1 rfl rfl H.ext (congrArg Value.bool ?_)
                          rw [con_eq, if_neg (by omega)]
                          unfold contC
                          rw [if_neg (by omega)]
                          rw [if_neg (by omega)]
                          rw [if_neg (by omega)]
                          rw [if_neg (by omega)]
                          rw [if_neg (by omega)]
                          first | rfl | exact (decide_eq_true (by omega)).symm | exact (decide_eq_false (by omega)).symm | exact decide_eq_decide.2 (by omega) | (exfalso; omega)
                        · refine SG (Ex.move rfl) rfl rfl rfl (GF rfl rfl rfl (GF rfl rfl rfl (SG (Ex.pickF rfl rfl) rfl rfl rfl (PF rfl rfl rfl (AS rfl rfl (NL (TN (RT ?_))))))))
                          refine WQ.ret1 rfl rfl H.ext (congrArg Value.bool ?_)
                          rw [con_eq, if_neg (by omega)]
                          unfold contC
                          rw [if_neg (by omega)]
                          rw [if_neg (by omega)]
                          rw [if_neg (by omega)]
                          rw [if_neg (by omega)]
                          rw [if_neg (by omega)]
                          first | rfl | exact (decide_eq_true (by omega)).symm | exact (decide_eq_false (by omega)).symm | exact decide_eq_decide.2 (by omega) | (exfalso; omega)
end Go.Proofs.YtogkmhjnojphiaaGreatDoor
end
section
set_option linter.unusedVariables false
set_option linter.unusedSimpArgs false
namespace Go.Ph.Gr
open Go Go.Ph.Utf
structure RP (l : List UInt8) (i q : Nat) (o : List (List UInt8)) (fl : Nat) : Prop where
  place : q ≤ l.length
  rest : (chars l).drop i = chars (l.drop q)
  small : i ≤ q ∧ o.length ≤ i ∧ fl ≤ i
  len : o.flatten.length = q
  state : (i = 0 ∧ o = []) ∨ (0 < i ∧ ∃ done cur prev, ((chars l)[i - 1]?).map (·.1) = some prev ∧ o = done.map byts ++ [byts cur] ∧ segs (chars l) = done ++ seg cur prev fl (chars (l.drop q)))
theorem RP.start (l : List UInt8) : RP l 0 0 [] 0 := ⟨Nat.zero_le _, rfl, by simp, rfl, .inl ⟨rfl, rfl⟩⟩
section
variable {l : List UInt8} {i q fl : Nat} {o : List (List UInt8)}
theorem RP.more (h : RP l i q o fl) (hi : i < (chars l).length) : q < l.length ∧ (chars l)[i]? = some ((rune (l.drop q)).1, (l.drop q).take (rune (l.drop q)).2) ∧ (chars l).drop (i + 1) = chars (l.drop (q + (rune (l.drop q)).2)) := by
  have hq : q < l.length := by
    rcases Nat.lt_or_ge q l.length with h1 | h1
    · exact h1
    · have h2 := h.rest
      rw [List.drop_eq_nil_of_le h1, chars_nil] at h2
      have := List.drop_eq_nil_iff.1 h2
      omega
  have hc := chars_cons (drop_ne hq)
  have h3 := h.rest
  rw [hc, List.drop_eq_getElem_cons hi] at h3
  have h4 := List.cons.inj h3
  refine ⟨hq, by rw [List.getElem?_eq_getElem hi, h4.1], ?_⟩
  rw [h4.2, List.drop_drop]
theorem RP.goes (h : RP l i q o fl) (hi : i < (chars l).length) {a : Int} (hpos : 0 < i) (ha : ((chars l)[i - 1]?).map (·.1) = some a) (hc : con a (rune (l.drop q)).1 fl = true) :
    ∃ p, o[o.length - 1]? = some p ∧ RP l (i + 1) (q + (rune (l.drop q)).2) (o.set (o.length - 1) (p ++ (l.drop q).take (rune (l.drop q)).2)) (flN (rune (l.drop q)).1 fl) := by
  obtain ⟨hq, hget, hdrop⟩ := h.more hi
  have hrs := rune_size (l.drop q)
  have hrs3 := hrs.2.2 (drop_ne hq)
  rw [List.length_drop] at hrs3
  rcases h.state with ⟨h0, _⟩ | ⟨_, done, cur, prev, hp, ho, hs⟩
  · omega
  · rw [ha] at hp
    obtain rfl : a = prev := Option.some.inj hp
    refine ⟨byts cur, by rw [ho]; simp, by omega, hdrop, ⟨by have := h.small; omega, by simp; have := h.small; omega, by have := h.small; unfold flN; split <;> omega⟩, ?_, .inr ⟨by omega, done, cur ++ [((rune (l.drop q)).1, (l.drop q).take (rune (l.drop q)).2)], (rune (l.drop q)).1, ?_, ?_, ?_⟩⟩
    · have hlen := h.len
      rw [ho] at hlen ⊢
      simp [List.length_take, List.length_drop] at hlen ⊢
      omega
    · rw [Nat.add_sub_cancel, hget]; rfl
    · rw [ho, byts_snoc]; simp
    · rw [hs, chars_cons (drop_ne hq), seg]
      simp only [hc, if_true, List.drop_drop]
theorem RP.news (h : RP l i q o fl) (hi : i < (chars l).length) (hc : i = 0 ∨ ∃ a, 0 < i ∧ ((chars l)[i - 1]?).map (·.1) = some a ∧ con a (rune (l.drop q)).1 fl = false) :
    RP l (i + 1) (q + (rune (l.drop q)).2) (o ++ [(l.drop q).take (rune (l.drop q)).2]) (flN (rune (l.drop q)).1 0) := by
  obtain ⟨hq, hget, hdrop⟩ := h.more hi
  have hrs := rune_size (l.drop q)
  have hrs3 := hrs.2.2 (drop_ne hq)
  rw [List.length_drop] at hrs3
  have hsm := h.small
  have hone : byts [((rune (l.drop q)).1, (l.drop q).take (rune (l.drop q)).2)] = (l.drop q).take (rune (l.drop q)).2 := by simp [byts]
  refine ⟨by omega, hdrop, ⟨by omega, by simp; omega, by unfold flN; split <;> omega⟩, by have hlen := h.len; simp [List.length_take, List.length_drop] at hlen ⊢; omega, .inr ⟨by omega, ?_⟩⟩
  rcases h.state with ⟨h0, ho⟩ | ⟨hp0, done, cur, prev, hp, ho, hs⟩
  · subst h0
    refine ⟨[], [((rune (l.drop q)).1, (l.drop q).take (rune (l.drop q)).2)], (rune (l.drop q)).1, by rw [Nat.add_sub_cancel, hget]; rfl, by rw [ho, hone]; rfl, ?_⟩
    have h1 := h.rest
    rw [List.drop_zero] at h1
    rw [h1, chars_cons (drop_ne hq), segs, List.drop_drop]; rfl
  · rcases hc with h0 | ⟨a, _, ha, hcf⟩
    · omega
    · rw [ha] at hp
      obtain rfl : a = prev := Option.some.inj hp
      refine ⟨done ++ [cur], [((rune (l.drop q)).1, (l.drop q).take (rune (l.drop q)).2)], (rune (l.drop q)).1, by rw [Nat.add_sub_cancel, hget]; rfl, by rw [ho, hone]; simp, ?_⟩
      rw [hs, chars_cons (drop_ne hq), seg]
      simp only [hcf, Bool.false_eq_true, if_false, List.drop_drop, List.append_assoc, List.cons_append, List.nil_append]
theorem RP.ends (h : RP l i q o fl) (hi : (chars l).length ≤ i) : o = pieces l := by
  have h1 := h.rest
  rw [List.drop_eq_nil_of_le hi] at h1
  unfold pieces
  rcases h.state with ⟨h0, ho⟩ | ⟨_, done, cur, prev, hp, ho, hs⟩
  · subst h0
    rw [ho, List.eq_nil_of_length_eq_zero (Nat.le_zero.1 hi)]; rfl
  · rw [hs, ← h1, seg, ho, List.map_append]; rfl
end
end Go.Ph.Gr
end
section
set_option linter.unusedVariables false
set_option linter.unusedSimpArgs false
namespace Go.Proofs.YtogkmhjnojphiaaGreatDoor
open Go Go.RowKit Go.Ph
open Go.Ph.Gr Go.Ph.Utf
theorem rpieces_spec (l : List UInt8) (hs : l.length ≤ 1048576) : Ct Tryz.prog 89 [S l] (fun _ => True) (fun r M => Sl M encS r (pieces l)) := by
  refine Ct.of Tryz.func89 (enters Tryz.func89 (by kernel_rfl) rfl) rfl rfl rfl ?_
  intro w0 M0 H hp
  refine SQ (RG (AS rfl rfl (NL (TN (SQ (RG (MV rfl rfl (WR.call H (runes_spec _ (by omega)) rfl (trivial) (Wn.none rfl) rfl ?_))))))))
  intro v12 M w H hle hr12
  have hf12 := hr12
  refine AS rfl rfl (NL (TN (SQ (RG (AS rfl rfl (NL (TN (SQ (RG (AS rfl rfl (NL (TN (SQ (RG (AS rfl rfl (NL (TN (SQ (SQ (RG (AS rfl rfl (NL (TN (BL ?_))))))))))))))))))))))))
  replace H := H.newRow 9 encS
  refine WC.loop5 (fun (i : Nat) (q : Nat) (v : Value) (o : List (List UInt8)) (fl : Nat) => [(0, S l), (3, v12), (4, v), (5, encN q), (6, encN fl), (7, encN i)]) (fun (i : Nat) (q : Nat) (v : Value) (o : List (List UInt8)) (fl : Nat) w => RP l i q o fl ∧ ∃ M, St w0 M0 M [RowI 9 encS v o] w ∧ Sl M encI v12 ((chars l).map (·.1))) (fun (i : Nat) (q : Nat) (v : Value) (o : List (List UInt8)) (fl : Nat) => (chars l).length - i) (0) (0) (_) (_) (0) ⟨rfl, rfl, rfl, rfl, rfl, rfl, trivial⟩ (⟨RP.start l, M, H, hf12⟩) ?_
  intro i q v o fl w
  rintro ⟨hR, M, H, hf12⟩
  have hsm := hR.small
  have hpl := hR.place
  have hfl := hR.len
  refine SQ (SQ (RG (MV rfl rfl (MV rfl rfl ?_))))
  first | refine WR.step (Ex.lenSl Tryz.underlying107 (by assumption) rfl) (Wn.none rfl) rfl rfl ?_ | refine WR.step (Ex.lenRow Tryz.underlying107 H (by repeat (first | exact List.Mem.head _ | apply List.Mem.tail)) rfl) (Wn.none rfl) rfl rfl ?_ | refine WR.step (Ex.lenSlice Tryz.underlying107 rfl) (Wn.none rfl) rfl rfl ?_
  refine WR.split (Ex.lss rfl rfl) (Wn.none rfl) rfl rfl (fun h6_3 => ?_) (fun h6_3 => ?_)
  · have hic : i < (chars l).length := by rw [List.length_map] at h6_3; omega
    obtain ⟨hq, hget, hdrop⟩ := hR.more hic
    have hrs := rune_size (l.drop q)
    have hrs3 := hrs.2.2 (drop_ne hq)
    rw [List.length_drop] at hrs3
    have hri : ((chars l).map (·.1))[i]? = some (rune (l.drop q)).1 := by rw [List.getElem?_map, hget]; rfl
    refine NL (TN (CT rfl (SK (TN (SQ (BL (SQ (RG (MV rfl rfl (MV rfl rfl (WR.call H (rune_spec _ _ hq (by omega)) rfl (trivial) (Wn.none rfl) rfl ?_)))))))))))
    intro v22 M w H hle hr22
    replace hf12 := hf12.mono hle
    obtain rfl := hr22
    refine MV rfl rfl (ST (Ex.extract rfl rfl) rfl (ST (Ex.extract rfl rfl) rfl (AS rfl rfl (AS rfl rfl (NL (TN (SQ (RG (MV rfl rfl (MV rfl rfl (MV rfl rfl (MV rfl rfl (WR.stepE (v' := encN (q + (rune (l.drop q)).2)) (Ex.add64 rfl rfl (by omega)) rfl (Wn.none rfl) rfl rfl ?_)))))))))))))
    refine WR.stepE (v' := S ((l.drop q).take (rune (l.drop q)).2)) (Ex.sliceStr (i := q) (j := q + (rune (l.drop q)).2) Tryz.underlying9 rfl (.inl ⟨_, rfl, rfl⟩) (.inl ⟨_, rfl, rfl⟩) (by omega) (by omega)) (by rw [List.drop_take, Nat.add_sub_cancel_left]) (Wn.none rfl) rfl rfl ?_
    refine AS rfl rfl (NL (TN (SQ (SQ (RG (MV rfl rfl ?_))))))
    refine WR.split (Ex.gtr rfl rfl) (Wn.none rfl) rfl rfl (fun h10_1 => ?_) (fun h10_1 => ?_)
    · obtain ⟨a, ha⟩ : ∃ a, ((chars l).map (·.1))[i - 1]? = some a := ⟨_, List.getElem?_eq_getElem (by rw [List.length_map]; omega)⟩
      have ha2 : ((chars l)[i - 1]?).map (·.1) = some a := by rw [← List.getElem?_map]; exact ha
      refine MV rfl rfl (SG (Ex.move rfl) rfl rfl rfl (SG (Ex.move rfl) rfl rfl rfl (SG (Ex.move rfl) rfl rfl rfl ?_)))
      by_cases h10_6 : con a (rune (l.drop q)).1 fl = true
      · obtain ⟨p, hp, hR2⟩ := hR.goes hic (by omega) ha2 h10_6
        have hol := (List.getElem?_eq_some_iff.1 hp).1
        have hpb : p.length ≤ q := by rw [← hfl]; exact (List.sublist_flatten_of_mem (List.mem_of_getElem? hp)).length_le
        refine WR.call H (Ct.mono (Ct.mono (rcont_spec _ _ i fl a (rune (l.drop q)).1 (by omega) ha hri) (R' := fun r _ => r = .bool (decide (con a (rune (l.drop q)).1 fl = true))) (fun _ _ h => h.trans (congrArg Value.bool (by simp)))) (R' := fun r _ => r = .bool true) (fun _ _ h => h.trans (congrArg Value.bool (decide_eq_true h10_6)))) rfl (by assumption) (Wn.some rfl rfl rfl) rfl ?_
        intro v37 M w H hle hr37
        replace hf12 := hf12.mono hle
        obtain rfl := hr37
        refine PT rfl rfl rfl (NL (TN (CT rfl (RG (MV rfl rfl (MV rfl rfl ?_))))))
        first | refine WR.step (Ex.lenSl Tryz.underlying43 (by assumption) rfl) (Wn.none rfl) rfl rfl ?_ | refine WR.step (Ex.lenRow Tryz.underlying43 H (by repeat (first | exact List.Mem.head _ | apply List.Mem.tail)) rfl) (Wn.none rfl) rfl rfl ?_ | refine WR.step (Ex.lenSlice Tryz.underlying43 rfl) (Wn.none rfl) rfl rfl ?_
        refine WR.stepE (v' := encN (o.length - 1)) (Ex.sub64 rfl rfl (by omega)) (congrArg I (by omega)) (Wn.none rfl) rfl rfl ?_
        refine MV rfl rfl (MV rfl rfl ?_)
        first | refine WR.step (Ex.lenSl Tryz.underlying43 (by assumption) rfl) (Wn.none rfl) rfl rfl ?_ | refine WR.step (Ex.lenRow Tryz.underlying43 H (by repeat (first | exact List.Mem.head _ | apply List.Mem.tail)) rfl) (Wn.none rfl) rfl rfl ?_ | refine WR.step (Ex.lenSlice Tryz.underlying43 rfl) (Wn.none rfl) rfl rfl ?_
        refine WR.stepE (v' := encN (o.length - 1)) (Ex.sub64 rfl rfl (by omega)) (congrArg I (by omega)) (Wn.none rfl) rfl rfl ?_
        refine WR.idxRow H Tryz.underlying43 Tryz.sizeOf9 (by repeat (first | exact List.Mem.head _ | apply List.Mem.tail)) rfl rfl hp (Wn.none rfl) rfl ?_
        intro g47 hg47
        refine ST (Ex.loadRow H rfl hg47 (by repeat (first | exact List.Mem.head _ | apply List.Mem.tail)) hp Tryz.isAgg9) rfl ?_
        refine MV rfl rfl (ST (Ex.strAdd rfl rfl (by rw [List.length_take, List.length_drop]; omega)) rfl ?_)
        refine WR.idxRow H Tryz.underlying43 Tryz.sizeOf9 (by repeat (first | exact List.Mem.head _ | apply List.Mem.tail)) rfl rfl hp (Wn.none rfl) rfl ?_
        intro g51 hg51
        refine WR.storeRow (enc := encS) (a := p ++ ((l.drop q).take (rune (l.drop q)).2)) H rfl rfl ⟨rfl, rfl⟩ hg51 (fun _ => by repeat first | exact .head | apply Upd.tail) hol Tryz.sizeOf9 (Wn.none rfl) ?_
        intro w H
        refine NL (TN (SQ (SQ (RG (MV rfl rfl (MV rfl rfl (WR.idxSl Tryz.underlying107 Tryz.sizeOf3 (by assumption) rfl rfl (hri) (Wn.none rfl) rfl ?_)))))))
        intro p58 hc58
        first | refine WR.step (Ex.loadM H rfl (by assumption) Tryz.isAgg3) (Wn.none rfl) rfl rfl ?_ | refine WR.step (Ex.load1 H rfl (by repeat (first | exact List.Mem.head _ | apply List.Mem.tail)) Tryz.isAgg3 (by rfl)) (Wn.none rfl) rfl rfl ?_
        refine WR.split (Ex.geq rfl rfl) (Wn.none rfl) rfl rfl (fun h14_4 => ?_) (fun h14_4 => ?_)
        · refine MV rfl rfl (SG (Ex.move rfl) rfl rfl rfl (SG (Ex.move rfl) rfl rfl rfl (WR.idxSl Tryz.underlying107 Tryz.sizeOf3 (by assumption) rfl rfl (hri) (Wn.some rfl rfl rfl) rfl ?_)))
          intro p64 hc64
          first | refine WR.step (Ex.loadM H rfl (by assumption) Tryz.isAgg3) (Wn.some rfl rfl rfl) rfl rfl ?_ | refine WR.step (Ex.load1 H rfl (by repeat (first | exact List.Mem.head _ | apply List.Mem.tail)) Tryz.isAgg3 (by rfl)) (Wn.some rfl rfl rfl) rfl rfl ?_
          refine WR.call H (class_spec _) rfl (trivial) (Wn.some rfl rfl rfl) rfl ?_
          intro v66 M w H hle hr66
          replace hf12 := hf12.mono hle
          replace hc58 := hc58.mono hle
          replace hc64 := hc64.mono hle
          obtain rfl := hr66
          refine WR.split (Ex.eql rfl rfl) (Wn.some rfl rfl rfl) rfl rfl (fun h14_11 => ?_) (fun h14_11 => ?_)
          · refine PT rfl rfl rfl (NL (TN (CT rfl (RG (MV rfl rfl (ST (Ex.add64 rfl rfl (by omega)) rfl ?_))))))
            refine AS rfl rfl (NL (TN (RG (MV rfl rfl (MV rfl rfl (WR.stepE (v' := encN (q + (rune (l.drop q)).2)) (Ex.add64 rfl rfl (by omega)) rfl (Wn.none rfl) rfl rfl ?_))))))
            refine AS rfl rfl (NL (IB (TN (RG (MV rfl rfl (WR.stepE (v' := encN (i + 1)) (Ex.add64 rfl rfl (by omega)) rfl (Wn.none rfl) rfl rfl ?_))))))
            refine AS rfl rfl (NL ?_)
            refine WQ.again5 (i + 1) (q + (rune (l.drop q)).2) (v) (o.set (o.length - 1) (p ++ ((l.drop q).take (rune (l.drop q)).2))) (fl + 1) ⟨rfl, rfl, rfl, rfl, rfl, rfl, trivial⟩ ?_ ?_
            · refine ⟨?_, M, H, hf12⟩
              rw [show fl + 1 = flN (rune (l.drop q)).1 fl by rw [flN, if_pos ⟨by omega, by omega⟩]]
              exact hR2
            · rw [List.length_map] at h6_3; omega
          · refine PT rfl rfl rfl (NL (TN (CF rfl (RG (AS rfl rfl (NL (TN (RG (MV rfl rfl (MV rfl rfl (WR.stepE (v' := encN (q + (rune (l.drop q)).2)) (Ex.add64 rfl rfl (by omega)) rfl (Wn.none rfl) rfl rfl ?_)))))))))))
            refine AS rfl rfl (NL (IB (TN (RG (MV rfl rfl (WR.stepE (v' := encN (i + 1)) (Ex.add64 rfl rfl (by omega)) rfl (Wn.none rfl) rfl rfl ?_))))))
            refine AS rfl rfl (NL ?_)
            refine WQ.again5 (i + 1) (q + (rune (l.drop q)).2) (v) (o.set (o.length - 1) (p ++ ((l.drop q).take (rune (l.drop q)).2))) (0) ⟨rfl, rfl, rfl, rfl, rfl, rfl, trivial⟩ ?_ ?_
            · refine ⟨?_, M, H, hf12⟩
              rw [show 0 = flN (rune (l.drop q)).1 fl by rw [flN, if_neg (by omega)]]
              exact hR2
            · rw [List.length_map] at h6_3; omega
        · refine MV rfl rfl (GF rfl rfl rfl (GF rfl rfl rfl (GF rfl rfl rfl (GF rfl rfl rfl (GF rfl rfl rfl (GF rfl rfl rfl (PF rfl rfl rfl (NL (TN (CF rfl (RG (AS rfl rfl (NL (TN (RG (MV rfl rfl (MV rfl rfl (WR.stepE (v' := encN (q + (rune (l.drop q)).2)) (Ex.add64 rfl rfl (by omega)) rfl (Wn.none rfl) rfl rfl ?_))))))))))))))))))
          refine AS rfl rfl (NL (IB (TN (RG (MV rfl rfl (WR.stepE (v' := encN (i + 1)) (Ex.add64 rfl rfl (by omega)) rfl (Wn.none rfl) rfl rfl ?_))))))
          refine AS rfl rfl (NL ?_)
          refine WQ.again5 (i + 1) (q + (rune (l.drop q)).2) (v) (o.set (o.length - 1) (p ++ ((l.drop q).take (rune (l.drop q)).2))) (0) ⟨rfl, rfl, rfl, rfl, rfl, rfl, trivial⟩ ?_ ?_
          · refine ⟨?_, M, H, hf12⟩
            rw [show 0 = flN (rune (l.drop q)).1 fl by rw [flN, if_neg (by omega)]]
            exact hR2
          · rw [List.length_map] at h6_3; omega
      · have hR2 := hR.news hic (.inr ⟨a, by omega, ha2, by simpa using h10_6⟩)
        refine WR.call H (Ct.mono (Ct.mono (rcont_spec _ _ i fl a (rune (l.drop q)).1 (by omega) ha hri) (R' := fun r _ => r = .bool (decide (con a (rune (l.drop q)).1 fl = true))) (fun _ _ h => h.trans (congrArg Value.bool (by simp)))) (R' := fun r _ => r = .bool false) (fun _ _ h => h.trans (congrArg Value.bool (decide_eq_false h10_6)))) rfl (by assumption) (Wn.some rfl rfl rfl) rfl ?_
        intro v37 M w H hle hr37
        replace hf12 := hf12.mono hle
        obtain rfl := hr37
        refine PT rfl rfl rfl (NL (TN (CF rfl (SQ (RG (MV rfl rfl (MV rfl rfl (WR.lit (enc := encS) ty43 [_] H rfl (by rfl) (fun _ => rfl) rfl rfl (Wn.none rfl) rfl ?_))))))))
        intro v54 M w H hle hl54
        replace hf12 := hf12.mono hle
        refine WR.appendSl ty43 (fun _ => rfl) H rfl (fun _ => by repeat first | exact .head | apply Upd.tail) rfl (by assumption) (by first | omega | (simp only [List.length_append, List.length_cons, List.length_nil, List.length_take, List.length_drop]; omega)) (by first | (simp only [maxLen]; omega) | (simp only [maxLen, List.length_append, List.length_cons, List.length_nil, List.length_take, List.length_drop]; omega)) (Wn.none rfl) rfl ?_
        intro v55 w H
        refine AS rfl rfl (NL (TN (RG (AS rfl rfl (NL (TN (SQ (SQ (RG (MV rfl rfl (MV rfl rfl (WR.idxSl Tryz.underlying107 Tryz.sizeOf3 (by assumption) rfl rfl (hri) (Wn.none rfl) rfl ?_))))))))))))
        intro p58 hc58
        first | refine WR.step (Ex.loadM H rfl (by assumption) Tryz.isAgg3) (Wn.none rfl) rfl rfl ?_ | refine WR.step (Ex.load1 H rfl (by repeat (first | exact List.Mem.head _ | apply List.Mem.tail)) Tryz.isAgg3 (by rfl)) (Wn.none rfl) rfl rfl ?_
        refine WR.split (Ex.geq rfl rfl) (Wn.none rfl) rfl rfl (fun h14_4 => ?_) (fun h14_4 => ?_)
        · refine MV rfl rfl (SG (Ex.move rfl) rfl rfl rfl (SG (Ex.move rfl) rfl rfl rfl (WR.idxSl Tryz.underlying107 Tryz.sizeOf3 (by assumption) rfl rfl (hri) (Wn.some rfl rfl rfl) rfl ?_)))
          intro p64 hc64
          first | refine WR.step (Ex.loadM H rfl (by assumption) Tryz.isAgg3) (Wn.some rfl rfl rfl) rfl rfl ?_ | refine WR.step (Ex.load1 H rfl (by repeat (first | exact List.Mem.head _ | apply List.Mem.tail)) Tryz.isAgg3 (by rfl)) (Wn.some rfl rfl rfl) rfl rfl ?_
          refine WR.call H (class_spec _) rfl (trivial) (Wn.some rfl rfl rfl) rfl ?_
          intro v66 M w H hle hr66
          replace hf12 := hf12.mono hle
          replace hl54 := hl54.mono hle
          replace hc58 := hc58.mono hle
          replace hc64 := hc64.mono hle
          obtain rfl := hr66
          refine WR.split (Ex.eql rfl rfl) (Wn.some rfl rfl rfl) rfl rfl (fun h14_11 => ?_) (fun h14_11 => ?_)
          · refine PT rfl rfl rfl (NL (TN (CT rfl (RG (MV rfl rfl (ST (Ex.add64 rfl rfl (by omega)) rfl ?_))))))
            refine AS rfl rfl (NL (TN (RG (MV rfl rfl (MV rfl rfl (WR.stepE (v' := encN (q + (rune (l.drop q)).2)) (Ex.add64 rfl rfl (by omega)) rfl (Wn.none rfl) rfl rfl ?_))))))
            refine AS rfl rfl (NL (IB (TN (RG (MV rfl rfl (WR.stepE (v' := encN (i + 1)) (Ex.add64 rfl rfl (by omega)) rfl (Wn.none rfl) rfl rfl ?_))))))
            refine AS rfl rfl (NL ?_)
            refine WQ.again5 (i + 1) (q + (rune (l.drop q)).2) (v55) (o ++ [((l.drop q).take (rune (l.drop q)).2)]) (0 + 1) ⟨rfl, rfl, rfl, rfl, rfl, rfl, trivial⟩ ?_ ?_
            · refine ⟨?_, M, H, hf12⟩
              rw [show 0 + 1 = flN (rune (l.drop q)).1 0 by rw [flN, if_pos ⟨by omega, by omega⟩]]
              exact hR2
            · rw [List.length_map] at h6_3; omega
          · refine PT rfl rfl rfl (NL (TN (CF rfl (RG (AS rfl rfl (NL (TN (RG (MV rfl rfl (MV rfl rfl (WR.stepE (v' := encN (q + (rune (l.drop q)).2)) (Ex.add64 rfl rfl (by omega)) rfl (Wn.none rfl) rfl rfl ?_)))))))))))
            refine AS rfl rfl (NL (IB (TN (RG (MV rfl rfl (WR.stepE (v' := encN (i + 1)) (Ex.add64 rfl rfl (by omega)) rfl (Wn.none rfl) rfl rfl ?_))))))
            refine AS rfl rfl (NL ?_)
            refine WQ.again5 (i + 1) (q + (rune (l.drop q)).2) (v55) (o ++ [((l.drop q).take (rune (l.drop q)).2)]) (0) ⟨rfl, rfl, rfl, rfl, rfl, rfl, trivial⟩ ?_ ?_
            · refine ⟨?_, M, H, hf12⟩
              rw [show 0 = flN (rune (l.drop q)).1 0 by rw [flN, if_neg (by omega)]]
              exact hR2
            · rw [List.length_map] at h6_3; omega
        · refine MV rfl rfl (GF rfl rfl rfl (GF rfl rfl rfl (GF rfl rfl rfl (GF rfl rfl rfl (GF rfl rfl rfl (GF rfl rfl rfl (PF rfl rfl rfl (NL (TN (CF rfl (RG (AS rfl rfl (NL (TN (RG (MV rfl rfl (MV rfl rfl (WR.stepE (v' := encN (q + (rune (l.drop q)).2)) (Ex.add64 rfl rfl (by omega)) rfl (Wn.none rfl) rfl rfl ?_))))))))))))))))))
          refine AS rfl rfl (NL (IB (TN (RG (MV rfl rfl (WR.stepE (v' := encN (i + 1)) (Ex.add64 rfl rfl (by omega)) rfl (Wn.none rfl) rfl rfl ?_))))))
          refine AS rfl rfl (NL ?_)
          refine WQ.again5 (i + 1) (q + (rune (l.drop q)).2) (v55) (o ++ [((l.drop q).take (rune (l.drop q)).2)]) (0) ⟨rfl, rfl, rfl, rfl, rfl, rfl, trivial⟩ ?_ ?_
          · refine ⟨?_, M, H, hf12⟩
            rw [show 0 = flN (rune (l.drop q)).1 0 by rw [flN, if_neg (by omega)]]
            exact hR2
          · rw [List.length_map] at h6_3; omega
    · have hR2 := hR.news hic (.inl (by omega))
      refine MV rfl rfl (GF rfl rfl rfl (GF rfl rfl rfl (GF rfl rfl rfl (GF rfl rfl rfl (PF rfl rfl rfl (NL (TN (CF rfl (SQ (RG (MV rfl rfl (MV rfl rfl (WR.lit (enc := encS) ty43 [_] H rfl (by rfl) (fun _ => rfl) rfl rfl (Wn.none rfl) rfl ?_)))))))))))))
      intro v54 M w H hle hl54
      replace hf12 := hf12.mono hle
      refine WR.appendSl ty43 (fun _ => rfl) H rfl (fun _ => by repeat first | exact .head | apply Upd.tail) rfl (by assumption) (by first | omega | (simp only [List.length_append, List.length_cons, List.length_nil, List.length_take, List.length_drop]; omega)) (by first | (simp only [maxLen]; omega) | (simp only [maxLen, List.length_append, List.length_cons, List.length_nil, List.length_take, List.length_drop]; omega)) (Wn.none rfl) rfl ?_
      intro v55 w H
      refine AS rfl rfl (NL (TN (RG (AS rfl rfl (NL (TN (SQ (SQ (RG (MV rfl rfl (MV rfl rfl (WR.idxSl Tryz.underlying107 Tryz.sizeOf3 (by assumption) rfl rfl (hri) (Wn.none rfl) rfl ?_))))))))))))
      intro p58 hc58
      first | refine WR.step (Ex.loadM H rfl (by assumption) Tryz.isAgg3) (Wn.none rfl) rfl rfl ?_ | refine WR.step (Ex.load1 H rfl (by repeat (first | exact List.Mem.head _ | apply List.Mem.tail)) Tryz.isAgg3 (by rfl)) (Wn.none rfl) rfl rfl ?_
      refine WR.split (Ex.geq rfl rfl) (Wn.none rfl) rfl rfl (fun h14_4 => ?_) (fun h14_4 => ?_)
      · refine MV rfl rfl (SG (Ex.move rfl) rfl rfl rfl (SG (Ex.move rfl) rfl rfl rfl (WR.idxSl Tryz.underlying107 Tryz.sizeOf3 (by assumption) rfl rfl (hri) (Wn.some rfl rfl rfl) rfl ?_)))
        intro p64 hc64
        first | refine WR.step (Ex.loadM H rfl (by assumption) Tryz.isAgg3) (Wn.some rfl rfl rfl) rfl rfl ?_ | refine WR.step (Ex.load1 H rfl (by repeat (first | exact List.Mem.head _ | apply List.Mem.tail)) Tryz.isAgg3 (by rfl)) (Wn.some rfl rfl rfl) rfl rfl ?_
        refine WR.call H (class_spec _) rfl (trivial) (Wn.some rfl rfl rfl) rfl ?_
        intro v66 M w H hle hr66
        replace hf12 := hf12.mono hle
        replace hl54 := hl54.mono hle
        replace hc58 := hc58.mono hle
        replace hc64 := hc64.mono hle
        obtain rfl := hr66
        refine WR.split (Ex.eql rfl rfl) (Wn.some rfl rfl rfl) rfl rfl (fun h14_11 => ?_) (fun h14_11 => ?_)
        · refine PT rfl rfl rfl (NL (TN (CT rfl (RG (MV rfl rfl (ST (Ex.add64 rfl rfl (by omega)) rfl ?_))))))
          refine AS rfl rfl (NL (TN (RG (MV rfl rfl (MV rfl rfl (WR.stepE (v' := encN (q + (rune (l.drop q)).2)) (Ex.add64 rfl rfl (by omega)) rfl (Wn.none rfl) rfl rfl ?_))))))
          refine AS rfl rfl (NL (IB (TN (RG (MV rfl rfl (WR.stepE (v' := encN (i + 1)) (Ex.add64 rfl rfl (by omega)) rfl (Wn.none rfl) rfl rfl ?_))))))
          refine AS rfl rfl (NL ?_)
          refine WQ.again5 (i + 1) (q + (rune (l.drop q)).2) (v55) (o ++ [((l.drop q).take (rune (l.drop q)).2)]) (0 + 1) ⟨rfl, rfl, rfl, rfl, rfl, rfl, trivial⟩ ?_ ?_
          · refine ⟨?_, M, H, hf12⟩
            rw [show 0 + 1 = flN (rune (l.drop q)).1 0 by rw [flN, if_pos ⟨by omega, by omega⟩]]
            exact hR2
          · rw [List.length_map] at h6_3; omega
        · refine PT rfl rfl rfl (NL (TN (CF rfl (RG (AS rfl rfl (NL (TN (RG (MV rfl rfl (MV rfl rfl (WR.stepE (v' := encN (q + (rune (l.drop q)).2)) (Ex.add64 rfl rfl (by omega)) rfl (Wn.none rfl) rfl rfl ?_)))))))))))
          refine AS rfl rfl (NL (IB (TN (RG (MV rfl rfl (WR.stepE (v' := encN (i + 1)) (Ex.add64 rfl rfl (by omega)) rfl (Wn.none rfl) rfl rfl ?_))))))
          refine AS rfl rfl (NL ?_)
          refine WQ.again5 (i + 1) (q + (rune (l.drop q)).2) (v55) (o ++ [((l.drop q).take (rune (l.drop q)).2)]) (0) ⟨rfl, rfl, rfl, rfl, rfl, rfl, trivial⟩ ?_ ?_
          · refine ⟨?_, M, H, hf12⟩
            rw [show 0 = flN (rune (l.drop q)).1 0 by rw [flN, if_neg (by omega)]]
            exact hR2
          · rw [List.length_map] at h6_3; omega
      · refine MV rfl rfl (GF rfl rfl rfl (GF rfl rfl rfl (GF rfl rfl rfl (GF rfl rfl rfl (GF rfl rfl rfl (GF rfl rfl rfl (PF rfl rfl rfl (NL (TN (CF rfl (RG (AS rfl rfl (NL (TN (RG (MV rfl rfl (MV rfl rfl (WR.stepE (v' := encN (q + (rune (l.drop q)).2)) (Ex.add64 rfl rfl (by omega)) rfl (Wn.none rfl) rfl rfl ?_))))))))))))))))))
        refine AS rfl rfl (NL (IB (TN (RG (MV rfl rfl (WR.stepE (v' := encN (i + 1)) (Ex.add64 rfl rfl (by omega)) rfl (Wn.none rfl) rfl rfl ?_))))))
        refine AS rfl rfl (NL ?_)
        refine WQ.again5 (i + 1) (q + (rune (l.drop q)).2) (v55) (o ++ [((l.drop q).take (rune (l.drop q)).2)]) (0) ⟨rfl, rfl, rfl, rfl, rfl, rfl, trivial⟩ ?_ ?_
        · refine ⟨?_, M, H, hf12⟩
          rw [show 0 = flN (rune (l.drop q)).1 0 by rw [flN, if_neg (by omega)]]
          exact hR2
        · rw [List.length_map] at h6_3; omega
  · refine NL (TN (CF rfl (WC.exit (WQ.thenExit (WQ.thenExit (WQ.exitHere (TN (SQ (RG (MV rfl rfl (AS rfl rfl (NL (TN (RT ?_))))))))))))))
    obtain ⟨M, hle, hf, H⟩ := H.freezeRow (v := v) (enc := encS) (t := 9) (by repeat first | exact .head | apply Rem.tail)
    refine WQ.ret1 rfl rfl H.ext ( ?_)
    rw [← hR.ends (by rw [List.length_map] at h6_3; omega)]
    exact hf
end Go.Proofs.YtogkmhjnojphiaaGreatDoor
end
section
set_option linter.unusedVariables false
set_option linter.unusedSimpArgs false
namespace Go.Proofs.YtogkmhjnojphiaaGreatDoor
open Go Go.RowKit Go.Ph
open Go.Ph.Gr Go.Ph.Utf Go.Ph.Chs
theorem low_at {l : List UInt8} {k : Nat} {u : UInt8} (h : l[k]? = some u) : (lower (l.take k) ++ l.drop k)[k]? = some u := by
  have hk := (List.getElem?_eq_some_iff.1 h).1
  rw [List.getElem?_append_right (by rw [lower_len, List.length_take]; omega), lower_len, List.length_take, show k - min k l.length = 0 by omega, List.getElem?_drop, Nat.add_zero]; exact h
theorem low_next {l : List UInt8} {k : Nat} {u : UInt8} (h : l[k]? = some u) : lower (l.take (k + 1)) ++ l.drop (k + 1) = lower (l.take k) ++ lowB u :: l.drop (k + 1) := by
  obtain ⟨hk, hu⟩ := List.getElem?_eq_some_iff.1 h
  rw [List.take_succ_eq_append_getElem hk, hu]; simp [lower]
theorem low_step {l : List UInt8} {k : Nat} {u : UInt8} (h : l[k]? = some u) : (lower (l.take k) ++ l.drop k).set k (lowB u) = lower (l.take (k + 1)) ++ l.drop (k + 1) := by
  obtain ⟨hk, hu⟩ := List.getElem?_eq_some_iff.1 h
  have hl : (lower (l.take k)).length = k := by rw [lower_len, List.length_take]; omega
  rw [low_next h, List.set_append_right _ _ (by omega), hl, Nat.sub_self, List.drop_eq_getElem_cons hk]; rfl
theorem low_keep {l : List UInt8} {k : Nat} {u : UInt8} (h : l[k]? = some u) (hn : ¬ (65 ≤ u.toNat ∧ u.toNat ≤ 90)) : lower (l.take k) ++ l.drop k = lower (l.take (k + 1)) ++ l.drop (k + 1) := by
  obtain ⟨hk, hu⟩ := List.getElem?_eq_some_iff.1 h
  rw [low_next h, List.drop_eq_getElem_cons hk, hu, lowB, if_neg hn]
theorem lowB_enc {u : UInt8} (h : 65 ≤ u.toNat ∧ u.toNat ≤ 90) : encB (lowB u) = .int .u8 ((u.toNat : Int) + 32) := by
  unfold lowB; rw [if_pos h]
  have h1 : (u + 32).toNat = u.toNat + 32 := by rw [UInt8.toNat_add]; show (u.toNat + 32) % 256 = _; omega
  show Value.int .u8 (((u + 32).toNat : Nat) : Int) = _
  rw [h1]; rfl
theorem lower_spec (l : List UInt8) (hs : l.length ≤ maxLen) : Ct Tryz.prog 116 [S l] (fun _ => True) (fun r _ => r = S (lower l)) := by
  refine Ct.of Tryz.func116 (enters Tryz.func116 (by kernel_rfl) rfl) rfl rfl rfl ?_
  intro w0 M0 H hp
  simp only [maxLen] at hs
  refine SQ (RG (AS rfl rfl (NL (TN (SQ (RG (MV rfl rfl (WR.toBytes H Tryz.underlying9 Tryz.underlying30 Tryz.underlying5 rfl (by simp only [maxLen]; omega) (Wn.none rfl) rfl ?_))))))))
  intro g7 c7 w hc7 hm7 H
  refine AS rfl rfl (NL (TN (SQ (SQ (RG (MV rfl rfl ?_))))))
  first | refine WR.step (Ex.lenSl Tryz.underlying30 (by assumption) rfl) (Wn.none rfl) rfl rfl ?_ | refine WR.step (Ex.lenRow Tryz.underlying30 H (by repeat (first | exact List.Mem.head _ | apply List.Mem.tail)) rfl) (Wn.none rfl) rfl rfl ?_ | refine WR.step (Ex.lenSlice Tryz.underlying30 rfl) (Wn.none rfl) rfl rfl ?_
  refine MV rfl rfl (NL (TN (BL (WC.loop2 (fun (k : Nat) (m : List UInt8) => [(3, .slice (some ⟨g7, 0, none⟩) l.length c7), (8, .slice (some ⟨g7, 0, none⟩) l.length c7), (9, I (l.length : Int)), (10, encN k)]) (fun (k : Nat) (m : List UInt8) w => k ≤ l.length ∧ m.length = l.length ∧ m = lower (l.take k) ++ l.drop k ∧ ∃ M, St w0 M0 M [SRow g7 c7 5 m] w) (fun (k : Nat) (m : List UInt8) => l.length - k) (0) (l) ⟨rfl, rfl, rfl, rfl, trivial⟩ (⟨by omega, rfl, by simp [lower], M0, H⟩) ?_))))
  intro k m w
  rintro ⟨hk, hml, hm, M, H⟩
  refine SQ (RG ?_)
  refine WR.split (Ex.lss rfl rfl) (Wn.none rfl) rfl rfl (fun h3_0 => ?_) (fun h3_0 => ?_)
  · obtain ⟨u, hlu⟩ : ∃ u, l[k]? = some u := ⟨_, List.getElem?_eq_getElem (by omega)⟩
    have hcu : m[k]? = some u := by rw [hm]; exact low_at hlu
    have hult := u.toNat_lt
    refine NL (TN (SQ (CT rfl (SK (TN (SQ (BL (SQ (RG (MV rfl rfl (ST (Ex.idxS Tryz.underlying30 Tryz.sizeOf5 rfl rfl (by omega)) rfl ?_)))))))))))
    refine ST (Ex.loadS H rfl (by repeat (first | exact List.Mem.head _ | apply List.Mem.tail)) hcu Tryz.isAgg5) rfl ?_
    refine AS rfl rfl (AS rfl rfl (NL (TN (SQ (RG (MV rfl rfl ?_))))))
    refine WR.split (Ex.geq rfl rfl) (Wn.none rfl) rfl rfl (fun h5_1 => ?_) (fun h5_1 => ?_)
    · refine MV rfl rfl (SG (Ex.move rfl) rfl rfl rfl ?_)
      refine WR.split (Ex.leq rfl rfl) (Wn.some rfl rfl rfl) rfl rfl (fun h5_4 => ?_) (fun h5_4 => ?_)
      · refine PT rfl rfl rfl (NL (TN (CT rfl (RG (MV rfl rfl (MV rfl rfl (MV rfl rfl (ST (Ex.addW rfl rfl (u8_in (by omega))) rfl ?_))))))))
        refine WR.stepE (v' := encB (lowB u)) (Ex.subW rfl rfl (u8_in (by omega))) (by rw [lowB_enc (by omega)]; exact congrArg (Value.int .u8) (by omega)) (Wn.none rfl) rfl rfl ?_
        refine ST (Ex.idxS Tryz.underlying30 Tryz.sizeOf5 rfl rfl (by omega)) rfl ?_
        refine WR.storeS (c := lowB u) H rfl rfl (by repeat first | exact .head | apply Upd.tail) (by omega) (by omega) Tryz.sizeOf5 (Wn.none rfl) ?_
        intro w H
        refine NL (IB (TN (RG (ST (Ex.add64 rfl rfl (by omega)) rfl ?_))))
        refine MV rfl rfl (NL ?_)
        refine WQ.again2 (k + 1) (m.set k (lowB u)) ⟨rfl, rfl, rfl, rfl, trivial⟩ ?_ ?_
        · refine ⟨by omega, by rw [List.length_set]; exact hml, ?_, M, H⟩
          rw [hm]; exact low_step hlu
        · omega
      · refine PT rfl rfl rfl (NL (TN (CF rfl (SK (IB (TN (RG (ST (Ex.add64 rfl rfl (by omega)) rfl ?_))))))))
        refine MV rfl rfl (NL ?_)
        refine WQ.again2 (k + 1) (m) ⟨rfl, rfl, rfl, rfl, trivial⟩ ?_ ?_
        · refine ⟨by omega, hml, ?_, M, H⟩
          rw [hm]; exact low_keep hlu (by omega)
        · omega
    · refine MV rfl rfl (GF rfl rfl rfl (GF rfl rfl rfl (PF rfl rfl rfl (NL (TN (CF rfl (SK (IB (TN (RG (ST (Ex.add64 rfl rfl (by omega)) rfl ?_)))))))))))
      refine MV rfl rfl (NL ?_)
      refine WQ.again2 (k + 1) (m) ⟨rfl, rfl, rfl, rfl, trivial⟩ ?_ ?_
      · refine ⟨by omega, hml, ?_, M, H⟩
        rw [hm]; exact low_keep hlu (by omega)
      · omega
  · refine NL (TN (SQ (CF rfl (WC.exit (WQ.thenExit (WQ.thenExit (WQ.exitHere (TN (SQ (RG (MV rfl rfl (ST (Ex.toStrS Tryz.underlying30 Tryz.underlying5 Tryz.underlying9 H (by repeat (first | exact List.Mem.head _ | apply List.Mem.tail)) hml.symm rfl) rfl ?_))))))))))))
    refine AS rfl rfl (NL (TN (RT ?_)))
    refine WQ.ret1 rfl rfl H.ext ?_
    exact by rw [hm, List.take_of_length_le (by omega), List.drop_eq_nil_of_le (by omega), List.append_nil]
theorem rlower_spec (l : List UInt8) (hs : l.length ≤ maxLen) : Ct Tryz.prog 72 [S l] (fun _ => True) (fun r _ => r = S (lower l)) := by
  refine Ct.of Tryz.func72 (enters Tryz.func72 (by kernel_rfl) rfl) rfl rfl rfl ?_
  intro w0 M0 H hp
  simp only [maxLen] at hs
  refine SQ (RG (AS rfl rfl (NL (TN (SQ (RG (MV rfl rfl (WR.toBytes H Tryz.underlying9 Tryz.underlying30 Tryz.underlying5 rfl (by simp only [maxLen]; omega) (Wn.none rfl) rfl ?_))))))))
  intro g6 c6 w hc6 hm6 H
  refine AS rfl rfl (NL (TN (SQ (SQ (RG (AS rfl rfl (NL (TN (BL (WC.loop2 (fun (k : Nat) (m : List UInt8) => [(3, .slice (some ⟨g6, 0, none⟩) l.length c6), (4, encN k)]) (fun (k : Nat) (m : List UInt8) w => k ≤ l.length ∧ m.length = l.length ∧ m = lower (l.take k) ++ l.drop k ∧ ∃ M, St w0 M0 M [SRow g6 c6 5 m] w) (fun (k : Nat) (m : List UInt8) => l.length - k) (0) (l) ⟨rfl, rfl, trivial⟩ (⟨by omega, rfl, by simp [lower], M0, H⟩) ?_))))))))))
  intro k m w
  rintro ⟨hk, hml, hm, M, H⟩
  refine SQ (SQ (RG (MV rfl rfl (MV rfl rfl ?_))))
  first | refine WR.step (Ex.lenSl Tryz.underlying30 (by assumption) rfl) (Wn.none rfl) rfl rfl ?_ | refine WR.step (Ex.lenRow Tryz.underlying30 H (by repeat (first | exact List.Mem.head _ | apply List.Mem.tail)) rfl) (Wn.none rfl) rfl rfl ?_ | refine WR.step (Ex.lenSlice Tryz.underlying30 rfl) (Wn.none rfl) rfl rfl ?_
  refine WR.split (Ex.lss rfl rfl) (Wn.none rfl) rfl rfl (fun h3_3 => ?_) (fun h3_3 => ?_)
  · obtain ⟨u, hlu⟩ : ∃ u, l[k]? = some u := ⟨_, List.getElem?_eq_getElem (by omega)⟩
    have hcu : m[k]? = some u := by rw [hm]; exact low_at hlu
    have hult := u.toNat_lt
    refine NL (TN (CT rfl (SK (TN (SQ (BL (SQ (RG (MV rfl rfl (MV rfl rfl (ST (Ex.idxS Tryz.underlying30 Tryz.sizeOf5 rfl rfl (by omega)) rfl ?_)))))))))))
    refine ST (Ex.loadS H rfl (by repeat (first | exact List.Mem.head _ | apply List.Mem.tail)) hcu Tryz.isAgg5) rfl ?_
    first | refine WR.step (Ex.convB Tryz.underlying5 Tryz.underlying3 rfl) (Wn.none rfl) rfl rfl ?_ | refine WR.step (Ex.convI Tryz.underlying5 Tryz.underlying3 rfl (by omega)) (Wn.none rfl) rfl rfl ?_
    by_cases h5_5 : (65 : Int) ≤ (u.toNat : Int) ∧ (u.toNat : Int) ≤ 90
    · refine WR.call H (Ct.mono (in_spec _ _ _) (R' := fun r _ => r = .bool true) (fun _ _ h => h.trans (congrArg Value.bool (decide_eq_true h5_5)))) rfl (trivial) (Wn.none rfl) rfl ?_
      intro v18 M w H hle hr18
      obtain rfl := hr18
      refine NL (TN (CT rfl (RG (MV rfl rfl (MV rfl rfl (MV rfl rfl (MV rfl rfl (ST (Ex.idxS Tryz.underlying30 Tryz.sizeOf5 rfl rfl (by omega)) rfl ?_))))))))
      refine ST (Ex.loadS H rfl (by repeat (first | exact List.Mem.head _ | apply List.Mem.tail)) hcu Tryz.isAgg5) rfl ?_
      refine WR.stepE (v' := encB (lowB u)) (Ex.addW rfl rfl (u8_in (by omega))) (by rw [lowB_enc (by omega)]) (Wn.none rfl) rfl rfl ?_
      refine ST (Ex.idxS Tryz.underlying30 Tryz.sizeOf5 rfl rfl (by omega)) rfl ?_
      refine WR.storeS (c := lowB u) H rfl rfl (by repeat first | exact .head | apply Upd.tail) (by omega) (by omega) Tryz.sizeOf5 (Wn.none rfl) ?_
      intro w H
      refine NL (IB (TN (RG (MV rfl rfl (ST (Ex.add64 rfl rfl (by omega)) rfl ?_)))))
      refine AS rfl rfl (NL ?_)
      refine WQ.again2 (k + 1) (m.set k (lowB u)) ⟨rfl, rfl, trivial⟩ ?_ ?_
      · refine ⟨by omega, by rw [List.length_set]; exact hml, ?_, M, H⟩
        rw [hm]; exact low_step hlu
      · omega
    · refine WR.call H (Ct.mono (in_spec _ _ _) (R' := fun r _ => r = .bool false) (fun _ _ h => h.trans (congrArg Value.bool (decide_eq_false h5_5)))) rfl (trivial) (Wn.none rfl) rfl ?_
      intro v18 M w H hle hr18
      obtain rfl := hr18
      refine NL (TN (CF rfl (SK (IB (TN (RG (MV rfl rfl (ST (Ex.add64 rfl rfl (by omega)) rfl ?_))))))))
      refine AS rfl rfl (NL ?_)
      refine WQ.again2 (k + 1) (m) ⟨rfl, rfl, trivial⟩ ?_ ?_
      · refine ⟨by omega, hml, ?_, M, H⟩
        rw [hm]; exact low_keep hlu (by omega)
      · omega
  · refine NL (TN (CF rfl (WC.exit (WQ.thenExit (WQ.thenExit (WQ.exitHere (TN (SQ (RG (MV rfl rfl (ST (Ex.toStrS Tryz.underlying30 Tryz.underlying5 Tryz.underlying9 H (by repeat (first | exact List.Mem.head _ | apply List.Mem.tail)) hml.symm rfl) rfl ?_)))))))))))
    refine AS rfl rfl (NL (TN (RT ?_)))
    refine WQ.ret1 rfl rfl H.ext ?_
    exact by rw [hm, List.take_of_length_le (by omega), List.drop_eq_nil_of_le (by omega), List.append_nil]
theorem lower_ne {a b : List UInt8} (h : a.length ≠ b.length) : ¬ lower a = lower b := fun e => h (by rw [← lower_len a, e, lower_len])
def setI (name : List UInt8) : Int := match setOf name with | some k => (k : Int) | none => -1
def same (name x : List UInt8) : Bool := decide (lower x = lower name)
theorem setOf_from {name x : List UInt8} {k : Nat} (h : setOf name = ((setN.drop k).findIdx? (same name)).map (· + k)) (hx : setN[k]? = some x) :
    (lower x = lower name → setOf name = some k) ∧ (¬ lower x = lower name → setOf name = ((setN.drop (k + 1)).findIdx? (same name)).map (· + (k + 1))) := by
  obtain ⟨hk, he⟩ := List.getElem?_eq_some_iff.1 hx
  rw [List.drop_eq_getElem_cons hk, he, List.findIdx?_cons] at h
  constructor
  · intro hl
    rw [h, same, decide_eq_true hl]; simp
  · intro hl
    rw [h, same, decide_eq_false hl]
    simp only [Bool.false_eq_true, if_false, Option.map_map]
    congr 1
    funext i
    simp only [Function.comp]
    omega
theorem same_spec (a b : List UInt8) (ha : a.length ≤ maxLen) (hb : b.length ≤ maxLen) : Ct Tryz.prog 68 [S a, S b] (fun _ => True) (fun r _ => r = .bool (decide (lower a = lower b))) := by
  refine Ct.of Tryz.func68 (enters Tryz.func68 (by kernel_rfl) rfl) rfl rfl rfl ?_
  intro w0 M0 H hp
  refine SQ (RG (AS rfl rfl (NL (TN (SQ (RG (MV rfl rfl (ST (Ex.lenStr Tryz.underlying9 rfl) rfl (MV rfl rfl (ST (Ex.lenStr Tryz.underlying9 rfl) rfl ?_))))))))))
  refine WR.split (Ex.eql rfl rfl) (Wn.none rfl) rfl rfl (fun h1_4 => ?_) (fun h1_4 => ?_)
  · refine MV rfl rfl (SG (Ex.move rfl) rfl rfl rfl (WR.call H (lower_spec _ ha) rfl (trivial) (Wn.some rfl rfl rfl) rfl ?_))
    intro v12 M w H hle hr12
    obtain rfl := hr12
    refine SG (Ex.move rfl) rfl rfl rfl (WR.call H (lower_spec _ hb) rfl (trivial) (Wn.some rfl rfl rfl) rfl ?_)
    intro v14 M w H hle hr14
    obtain rfl := hr14
    refine SG (Ex.strEql rfl rfl) rfl rfl rfl (PT rfl rfl rfl (AS rfl rfl (NL (TN (RT ?_)))))
    refine WQ.ret1 rfl rfl H.ext ?_
    exact rfl
  · refine MV rfl rfl (GF rfl rfl rfl (GF rfl rfl rfl (GF rfl rfl rfl (GF rfl rfl rfl (GF rfl rfl rfl (PF rfl rfl rfl (AS rfl rfl (NL (TN (RT ?_))))))))))
    refine WQ.ret1 rfl rfl H.ext ?_
    exact (congrArg Value.bool (decide_eq_false (lower_ne (by omega))).symm)
theorem alike_spec (a b : List UInt8) (ha : a.length ≤ maxLen) (hb : b.length ≤ maxLen) : Ct Tryz.prog 31 [S a, S b] (fun _ => True) (fun r _ => r = .bool (decide (lower a = lower b))) := by
  refine Ct.of Tryz.func31 (enters Tryz.func31 (by kernel_rfl) rfl) rfl rfl rfl ?_
  intro w0 M0 H hp
  refine SQ (RG (AS rfl rfl (NL (TN (SQ (RG (MV rfl rfl (WR.call H (rlower_spec _ ha) rfl (trivial) (Wn.none rfl) rfl ?_))))))))
  intro v6 M w H hle hr6
  obtain rfl := hr6
  refine MV rfl rfl (WR.call H (rlower_spec _ hb) rfl (trivial) (Wn.none rfl) rfl ?_)
  intro v8 M w H hle hr8
  obtain rfl := hr8
  refine ST (Ex.strEql rfl rfl) rfl (AS rfl rfl (NL (TN (RT ?_))))
  refine WQ.ret1 rfl rfl H.ext ?_
  exact rfl
theorem setOf_spec (name : List UInt8) (hs : name.length ≤ maxLen) : Ct Tryz.prog 92 [S name] (fun _ => True) (fun r _ => r = I (setI name)) := by
  refine Ct.of Tryz.func92 (enters Tryz.func92 (by kernel_rfl) rfl) rfl rfl rfl ?_
  intro w0 M0 H hp
  refine SQ (RG (AS rfl rfl (NL (TN (SQ (RG (WR.lit (enc := encS) ty43 setN H rfl (by rfl) (fun _ => rfl) rfl rfl (Wn.none rfl) rfl ?_)))))))
  intro v5 M w H hle hl5
  refine AS rfl rfl (NL (TN (SQ (SQ (RG (AS rfl rfl (NL (TN (BL (WC.loop1 (fun (k : Nat) => [(0, S name), (3, v5), (4, encN k)]) (fun (k : Nat) w => k ≤ 4 ∧ setOf name = ((setN.drop k).findIdx? (same name)).map (· + k) ∧ ∃ M, St w0 M0 M [] w ∧ Sl M encS v5 setN) (fun (k : Nat) => 4 - k) (0) ⟨rfl, rfl, rfl, trivial⟩ (⟨by omega, by rw [List.drop_zero]; simp only [Nat.add_zero, Option.map_id']; rfl, M, H, hl5⟩) ?_))))))))))
  intro k w
  rintro ⟨hk, hso, M, H, hl5⟩
  have hsl : setN.length = 4 := rfl
  refine SQ (SQ (RG (MV rfl rfl (MV rfl rfl ?_))))
  first | refine WR.step (Ex.lenSl Tryz.underlying43 (by assumption) rfl) (Wn.none rfl) rfl rfl ?_ | refine WR.step (Ex.lenRow Tryz.underlying43 H (by repeat (first | exact List.Mem.head _ | apply List.Mem.tail)) rfl) (Wn.none rfl) rfl rfl ?_ | refine WR.step (Ex.lenSlice Tryz.underlying43 rfl) (Wn.none rfl) rfl rfl ?_
  refine WR.split (Ex.lss rfl rfl) (Wn.none rfl) rfl rfl (fun h3_3 => ?_) (fun h3_3 => ?_)
  · obtain ⟨x, hx⟩ : ∃ x, setN[k]? = some x := ⟨_, List.getElem?_eq_getElem (by omega)⟩
    have hxl : x.length ≤ maxLen := by
      have h1 : ∀ y ∈ setN, y.length ≤ maxLen := by decide
      exact h1 x (List.mem_of_getElem? hx)
    refine NL (TN (CT rfl (SK (TN (SQ (BL (SQ (RG (MV rfl rfl (MV rfl rfl (WR.idxSl Tryz.underlying43 Tryz.sizeOf9 (by assumption) rfl rfl (hx) (Wn.none rfl) rfl ?_)))))))))))
    intro p14 hc14
    first | refine WR.step (Ex.loadM H rfl (by assumption) Tryz.isAgg9) (Wn.none rfl) rfl rfl ?_ | refine WR.step (Ex.load1 H rfl (by repeat (first | exact List.Mem.head _ | apply List.Mem.tail)) Tryz.isAgg9 (by rfl)) (Wn.none rfl) rfl rfl ?_
    refine MV rfl rfl ?_
    by_cases h5_5 : lower x = lower name
    · have hr := (setOf_from hso hx).1 h5_5
      refine WR.call H (Ct.mono (alike_spec _ _ hxl hs) (R' := fun r _ => r = .bool true) (fun _ _ h => h.trans (congrArg Value.bool (decide_eq_true h5_5)))) rfl (trivial) (Wn.none rfl) rfl ?_
      intro v17 M w H hle hr17
      replace hl5 := hl5.mono hle
      replace hc14 := hc14.mono hle
      obtain rfl := hr17
      refine NL (TN (CT rfl (SQ (RG (MV rfl rfl (AS rfl rfl (NL (TN (RT ?_)))))))))
      refine WQ.ret1 rfl rfl H.ext ?_
      exact by unfold setI; rw [hr]
    · refine WR.call H (Ct.mono (alike_spec _ _ hxl hs) (R' := fun r _ => r = .bool false) (fun _ _ h => h.trans (congrArg Value.bool (decide_eq_false h5_5)))) rfl (trivial) (Wn.none rfl) rfl ?_
      intro v17 M w H hle hr17
      replace hl5 := hl5.mono hle
      replace hc14 := hc14.mono hle
      obtain rfl := hr17
      refine NL (TN (CF rfl (SK (IB (TN (RG (MV rfl rfl (ST (Ex.add64 rfl rfl (by omega)) rfl ?_))))))))
      refine AS rfl rfl (NL ?_)
      refine WQ.again1 (k + 1) ⟨rfl, rfl, rfl, trivial⟩ ?_ ?_
      · exact ⟨by omega, (setOf_from hso hx).2 h5_5, M, H, hl5⟩
      · omega
  · have hr : setOf name = none := by rw [hso, List.drop_eq_nil_of_le (by omega)]; rfl
    refine NL (TN (CF rfl (WC.exit (WQ.thenExit (WQ.thenExit (WQ.exitHere (TN (SQ (RG (AS rfl rfl (NL (TN (RT ?_)))))))))))))
    refine WQ.ret1 rfl rfl H.ext ?_
    exact by unfold setI; rw [hr]
theorem utf8_spec (n : Int) : Ct Tryz.prog 90 [I n] (fun _ => True) (fun r _ => r = S (utf8 n)) := by
  refine Ct.of Tryz.func90 (enters Tryz.func90 (by kernel_rfl) rfl) rfl rfl rfl ?_
  intro w0 M0 H hp
  refine SQ (RG (AS rfl rfl (NL (TN ?_))))
  refine WC.cut1 (fun (m : Int) => [(0, I m)]) (fun (m : Int) w => m = fixN n ∧ ∃ M, St w0 M0 M [] w) ?_ ?_
  · refine SQ (RG (MV rfl rfl ?_))
    by_cases h1_1 : (0 : Int) ≤ n ∧ n ≤ 1114111
    · refine WR.call H (Ct.mono (in_spec _ _ _) (R' := fun r _ => r = .bool true) (fun _ _ h => h.trans (congrArg Value.bool (decide_eq_true h1_1)))) rfl (trivial) (Wn.none rfl) rfl ?_
      intro v4 M w H hle hr4
      obtain rfl := hr4
      refine ST (Ex.notT rfl) rfl (MV rfl rfl (SG (Ex.move rfl) rfl rfl rfl ?_))
      by_cases h1_5 : (55296 : Int) ≤ n ∧ n ≤ 57343
      · refine WR.call H (Ct.mono (in_spec _ _ _) (R' := fun r _ => r = .bool true) (fun _ _ h => h.trans (congrArg Value.bool (decide_eq_true h1_5)))) rfl (trivial) (Wn.some rfl rfl rfl) rfl ?_
        intro v8 M w H hle hr8
        obtain rfl := hr8
        refine PF rfl rfl rfl (NL (TN (CT rfl (RG (AS rfl rfl (NL (WQ.meet1 (65533) ⟨rfl, trivial⟩ ?_)))))))
        · exact ⟨(fixN_bad (by omega)).symm, M, H⟩
      · refine WR.call H (Ct.mono (in_spec _ _ _) (R' := fun r _ => r = .bool false) (fun _ _ h => h.trans (congrArg Value.bool (decide_eq_false h1_5)))) rfl (trivial) (Wn.some rfl rfl rfl) rfl ?_
        intro v8 M w H hle hr8
        obtain rfl := hr8
        refine PF rfl rfl rfl (NL (TN (CF rfl (SK (WQ.meet1 (n) ⟨rfl, trivial⟩ ?_)))))
        · exact ⟨(fixN_id (by omega) (by omega) (by omega)).symm, M, H⟩
    · refine WR.call H (Ct.mono (in_spec _ _ _) (R' := fun r _ => r = .bool false) (fun _ _ h => h.trans (congrArg Value.bool (decide_eq_false h1_1)))) rfl (trivial) (Wn.none rfl) rfl ?_
      intro v4 M w H hle hr4
      obtain rfl := hr4
      refine ST (Ex.notF rfl) rfl (MV rfl rfl (GT rfl rfl rfl (GT rfl rfl rfl (PT rfl rfl rfl (NL (TN (CT rfl (RG (AS rfl rfl (NL (WQ.meet1 (65533) ⟨rfl, trivial⟩ ?_)))))))))))
      · exact ⟨(fixN_bad (by omega)).symm, M, H⟩
  · intro m w
    rintro ⟨hm, M, H⟩
    have hfx := fixN_ok n
    rw [← hm] at hfx
    refine SQ (SQ (RG (MV rfl rfl ?_)))
    refine WR.split (Ex.lss rfl rfl) (Wn.none rfl) rfl rfl (fun h3_1 => ?_) (fun h3_1 => ?_)
    · refine NL (TN (CT rfl (SQ (RG (MV rfl rfl (ST (Ex.convU8 Tryz.underlying3 Tryz.underlying5 rfl) rfl (WR.lit (enc := encB) ty30 [_] H rfl (by rfl) (fun _ => rfl) rfl rfl (Wn.none rfl) rfl ?_)))))))
      intro v14 M w H hle hl14
      refine ST (Ex.toStr Tryz.underlying30 Tryz.underlying5 Tryz.underlying9 H (by assumption) rfl) rfl ?_
      refine AS rfl rfl (NL (TN (RT ?_)))
      refine WQ.ret1 rfl rfl H.ext ?_
      exact by unfold utf8; rw [← hm]; unfold utf8M; rw [if_pos (by omega)]
    · refine NL (TN (CF rfl (SK (TN (SQ (SQ (RG (MV rfl rfl ?_))))))))
      refine WR.split (Ex.lss rfl rfl) (Wn.none rfl) rfl rfl (fun h5_1 => ?_) (fun h5_1 => ?_)
      · refine NL (TN (CT rfl (SQ (RG (MV rfl rfl (ST (Ex.quo64 rfl rfl (by first | omega | exact ⟨Int.natCast_nonneg _, by decide⟩)) rfl ?_))))))
        refine ST (Ex.add64 rfl rfl (by omega)) rfl ?_
        refine ST (Ex.convU8 Tryz.underlying3 Tryz.underlying5 rfl) rfl (MV rfl rfl (ST (Ex.rem64 rfl rfl (by first | omega | exact ⟨Int.natCast_nonneg _, by decide⟩)) rfl ?_))
        refine ST (Ex.add64 rfl rfl (by omega)) rfl ?_
        refine ST (Ex.convU8 Tryz.underlying3 Tryz.underlying5 rfl) rfl (WR.lit (enc := encB) ty30 [_, _] H rfl (by rfl) (fun _ => rfl) rfl rfl (Wn.none rfl) rfl ?_)
        intro v26 M w H hle hl26
        refine ST (Ex.toStr Tryz.underlying30 Tryz.underlying5 Tryz.underlying9 H (by assumption) rfl) rfl ?_
        refine AS rfl rfl (NL (TN (RT ?_)))
        refine WQ.ret1 rfl rfl H.ext ?_
        exact by unfold utf8; rw [← hm]; unfold utf8M; rw [if_neg (by omega), if_pos (by omega)]
      · refine NL (TN (CF rfl (SK (TN (SQ (SQ (RG (MV rfl rfl ?_))))))))
        refine WR.split (Ex.lss rfl rfl) (Wn.none rfl) rfl rfl (fun h7_1 => ?_) (fun h7_1 => ?_)
        · refine NL (TN (CT rfl (SQ (RG (MV rfl rfl (ST (Ex.quo64 rfl rfl (by first | omega | exact ⟨Int.natCast_nonneg _, by decide⟩)) rfl ?_))))))
          refine ST (Ex.add64 rfl rfl (by omega)) rfl ?_
          refine ST (Ex.convU8 Tryz.underlying3 Tryz.underlying5 rfl) rfl (MV rfl rfl (ST (Ex.quo64 rfl rfl (by first | omega | exact ⟨Int.natCast_nonneg _, by decide⟩)) rfl ?_))
          refine ST (Ex.rem64 rfl rfl (by first | omega | exact ⟨Int.natCast_nonneg _, by decide⟩)) rfl ?_
          refine ST (Ex.add64 rfl rfl (by omega)) rfl ?_
          refine ST (Ex.convU8 Tryz.underlying3 Tryz.underlying5 rfl) rfl (MV rfl rfl (ST (Ex.rem64 rfl rfl (by first | omega | exact ⟨Int.natCast_nonneg _, by decide⟩)) rfl ?_))
          refine ST (Ex.add64 rfl rfl (by omega)) rfl ?_
          refine ST (Ex.convU8 Tryz.underlying3 Tryz.underlying5 rfl) rfl (WR.lit (enc := encB) ty30 [_, _, _] H rfl (by rfl) (fun _ => rfl) rfl rfl (Wn.none rfl) rfl ?_)
          intro v43 M w H hle hl43
          refine ST (Ex.toStr Tryz.underlying30 Tryz.underlying5 Tryz.underlying9 H (by assumption) rfl) rfl ?_
          refine AS rfl rfl (NL (TN (RT ?_)))
          refine WQ.ret1 rfl rfl H.ext ?_
          exact by unfold utf8; rw [← hm]; unfold utf8M; rw [if_neg (by omega), if_neg (by omega), if_pos (by omega)]
        · refine NL (TN (CF rfl (SK (TN (SQ (RG (MV rfl rfl (ST (Ex.quo64 rfl rfl (by first | omega | exact ⟨Int.natCast_nonneg _, by decide⟩)) rfl ?_))))))))
          refine ST (Ex.add64 rfl rfl (by omega)) rfl ?_
          refine ST (Ex.convU8 Tryz.underlying3 Tryz.underlying5 rfl) rfl (MV rfl rfl (ST (Ex.quo64 rfl rfl (by first | omega | exact ⟨Int.natCast_nonneg _, by decide⟩)) rfl ?_))
          refine ST (Ex.rem64 rfl rfl (by first | omega | exact ⟨Int.natCast_nonneg _, by decide⟩)) rfl ?_
          refine ST (Ex.add64 rfl rfl (by omega)) rfl ?_
          refine ST (Ex.convU8 Tryz.underlying3 Tryz.underlying5 rfl) rfl (MV rfl rfl (ST (Ex.quo64 rfl rfl (by first | omega | exact ⟨Int.natCast_nonneg _, by decide⟩)) rfl ?_))
          refine ST (Ex.rem64 rfl rfl (by first | omega | exact ⟨Int.natCast_nonneg _, by decide⟩)) rfl ?_
          refine ST (Ex.add64 rfl rfl (by omega)) rfl ?_
          refine ST (Ex.convU8 Tryz.underlying3 Tryz.underlying5 rfl) rfl (MV rfl rfl (ST (Ex.rem64 rfl rfl (by first | omega | exact ⟨Int.natCast_nonneg _, by decide⟩)) rfl ?_))
          refine ST (Ex.add64 rfl rfl (by omega)) rfl ?_
          refine ST (Ex.convU8 Tryz.underlying3 Tryz.underlying5 rfl) rfl (WR.lit (enc := encB) ty30 [_, _, _, _] H rfl (by rfl) (fun _ => rfl) rfl rfl (Wn.none rfl) rfl ?_)
          intro v63 M w H hle hl63
          refine ST (Ex.toStr Tryz.underlying30 Tryz.underlying5 Tryz.underlying9 H (by assumption) rfl) rfl ?_
          refine AS rfl rfl (NL (TN (RT ?_)))
          refine WQ.ret1 rfl rfl H.ext ?_
          exact by unfold utf8; rw [← hm]; unfold utf8M; rw [if_neg (by omega), if_neg (by omega), if_neg (by omega)]
theorem valid_spec (l : List UInt8) (hs : l.length ≤ 4611686018427387904) : Ct Tryz.prog 15 [S l] (fun _ => True) (fun r _ => r = .bool (vld l)) := by
  refine Ct.of Tryz.func15 (enters Tryz.func15 (by kernel_rfl) rfl) rfl rfl rfl ?_
  intro w0 M0 H hp
  refine SQ (RG (AS rfl rfl (NL (TN (SQ (SQ (RG (AS rfl rfl (NL (TN (BL (WC.loop1 (fun (q : Nat) => [(0, S l), (3, encN q)]) (fun (q : Nat) w => q ≤ l.length ∧ vld l = vld (l.drop q) ∧ ∃ M, St w0 M0 M [] w) (fun (q : Nat) => l.length - q) (0) ⟨rfl, rfl, trivial⟩ (⟨by omega, rfl, M0, H⟩) ?_))))))))))))
  intro q w
  rintro ⟨hq, hv, M, H⟩
  refine SQ (SQ (RG (MV rfl rfl (MV rfl rfl (ST (Ex.lenStr Tryz.underlying9 rfl) rfl ?_)))))
  refine WR.split (Ex.lss rfl rfl) (Wn.none rfl) rfl rfl (fun h2_3 => ?_) (fun h2_3 => ?_)
  · have hne := drop_ne (t := l) (n := q) (by omega)
    have hrs := rune_size (l.drop q)
    have hrs3 := hrs.2.2 hne
    rw [List.length_drop] at hrs3
    refine NL (TN (CT rfl (SK (TN (BL (SQ (RG (MV rfl rfl (MV rfl rfl (WR.call H (rune_spec _ _ (by omega) (by omega)) rfl (trivial) (Wn.none rfl) rfl ?_))))))))))
    intro v13 M w H hle hr13
    obtain rfl := hr13
    refine MV rfl rfl (ST (Ex.extract rfl rfl) rfl (ST (Ex.extract rfl rfl) rfl (AS rfl rfl (AS rfl rfl (NL (TN (SQ (SQ (RG (MV rfl rfl ?_))))))))))
    refine WR.split (Ex.lss rfl rfl) (Wn.none rfl) rfl rfl (fun h4_1 => ?_) (fun h4_1 => ?_)
    · have hr : vld l = false := by rw [hv, vld_cons hne, decide_eq_false (by omega), Bool.false_and]
      refine NL (TN (CT rfl (SQ (RG (AS rfl rfl (NL (TN (RT ?_))))))))
      refine WQ.ret1 rfl rfl H.ext ?_
      exact by rw [hr]
    · refine NL (TN (CF rfl (SK (TN (RG (MV rfl rfl (MV rfl rfl (ST (Ex.add64 rfl rfl (by omega)) rfl ?_))))))))
      refine AS rfl rfl (NL (IB ?_))
      refine WQ.again1 (q + (rune (l.drop q)).2) ⟨rfl, rfl, trivial⟩ ?_ ?_
      · refine ⟨by omega, ?_, M, H⟩
        rw [hv, vld_cons hne, decide_eq_true (by omega), Bool.true_and, List.drop_drop]
      · omega
  · have hr : vld l = true := by rw [hv, List.drop_eq_nil_of_le (by omega)]; rfl
    refine NL (TN (CF rfl (WC.exit (WQ.thenExit (WQ.thenExit (WQ.exitHere (TN (SQ (RG (AS rfl rfl (NL (TN (RT ?_)))))))))))))
    refine WQ.ret1 rfl rfl H.ext ?_
    exact by rw [hr]
end Go.Proofs.YtogkmhjnojphiaaGreatDoor
end
section
set_option linter.unusedVariables false
set_option linter.unusedSimpArgs false
namespace Go.Ph
open Go Go.RowKit
section
variable {P : Program} {e : Env} {w : World} {x : Operand} {v : Value} {dst : Option Tmp} {ty t : TypeId} {pos : String} {af : Array Edge} {g : Option (Nat × Bool)}
theorem Ex.loadCell {p : Addr} (hx : ev e x = some (.pointer (some p))) (hc : w.cell? p = some v) (ha : ∀ w, (isAgg t).run P w = .ok false w) : Ex P ⟨dst, .load t x, ty, pos, af, g⟩ e w v w := Ex.loadK hx (by
  simp only [loadVar, Sem.run_bind, ha, Result.andThen_ok, Bool.false_eq_true, if_false]
  simp [load, Sem.run, hc])
theorem Ex.loadAggW {b o s : Nat} {cs : List Value} (hx : ev e x = some (ptr b o)) (hc : ∀ j u, cs[j]? = some u → w.cell? ⟨b, o + j, none⟩ = some u) (ha : ∀ w, (isAgg t).run P w = .ok true w) (hs : ∀ w, (sizeOf t).run P w = .ok s w) (hl : cs.length = s) : Ex P ⟨dst, .load t x, ty, pos, af, g⟩ e w (.agg cs.toArray) w := Ex.loadK hx (by
  subst hl
  have hlc : (loadCells ⟨b, o, none⟩ cs.length).run P w = .ok cs.toArray w :=
    run_loadCells_list (P := P) w ⟨b, o, none⟩ cs (fun j v hv => by rw [Addr.add_lit]; exact hc j v hv)
  simp only [loadVar, Sem.run_bind, ha, Result.andThen_ok, if_true, hs, hlc, Sem.run_pure])
end
end Go.Ph
namespace Go.Ph.Chs
open Go Go.Ph.Utf Go.Ph.Gr
theorem and64 {m s : Nat} (hm : m < 2 ^ 64) : IntKind.u64.wrap ((m &&& s : Nat) : Int) = ((m &&& s : Nat) : Int) := by
  have h : m &&& s ≤ m := Nat.and_le_left
  exact u64_in (by omega)
theorem or64 {m s : Nat} (hm : m < 2 ^ 64) (hs : s < 2 ^ 64) : IntKind.u64.wrap ((m ||| s : Nat) : Int) = ((m ||| s : Nat) : Int) := by
  have h := Nat.or_lt_two_pow hm hs
  exact u64_in (by omega)
theorem shl64 {b k : Nat} (hb : b < 256) (hk : k ≤ 56) : b <<< k < 2 ^ 64 ∧ IntKind.u64.wrap ((b * 2 ^ k : Nat) : Int) = ((b <<< k : Nat) : Int) := by
  have h2 : 2 ^ k ≤ 2 ^ 56 := Nat.pow_le_pow_right (by decide) hk
  have h3 : b * 2 ^ k < 2 ^ 64 := Nat.lt_of_le_of_lt (Nat.mul_le_mul (show b ≤ 255 by omega) h2) (by decide)
  rw [Nat.shiftLeft_eq]
  exact ⟨h3, u64_in (by omega)⟩
def FF (c : Nat) : Prop := ∃ sz ai lo hi, Lib.firstT c < 256 ∧ Lib.firstT c &&& 7 = sz ∧ Lib.firstT c / 2 ^ 4 = ai ∧ ai < 16 ∧ Lib.accLo ai = lo ∧ Lib.accHi ai = hi ∧ lo < 256 ∧ hi < 256 ∧ (sz = 1 ∨ sz = 2 ∨ sz = 3 ∨ sz = 4) ∧
    (sz = 1 → ¬ (194 ≤ c ∧ c ≤ 244)) ∧ (sz = 2 → 194 ≤ c ∧ c ≤ 223 ∧ lo = 128 ∧ hi = 191) ∧ (sz = 3 → 224 ≤ c ∧ c ≤ 239 ∧ lo = (if c = 224 then 160 else 128) ∧ hi = (if c = 237 then 159 else 191)) ∧ (sz = 4 → 240 ≤ c ∧ c ≤ 244 ∧ lo = (if c = 240 then 144 else 128) ∧ hi = (if c = 244 then 143 else 191))
theorem first_facts (c : Nat) (h : 128 ≤ c) (h2 : c < 256) : FF c := by
  have key : ∀ F sz ai lo hi : Nat, Lib.firstT c = F → F < 256 → F &&& 7 = sz → F / 2 ^ 4 = ai → ai < 16 → Lib.accLo ai = lo → Lib.accHi ai = hi → lo < 256 → hi < 256 → (sz = 1 ∨ sz = 2 ∨ sz = 3 ∨ sz = 4) →
      (sz = 1 → ¬ (194 ≤ c ∧ c ≤ 244)) → (sz = 2 → 194 ≤ c ∧ c ≤ 223 ∧ lo = 128 ∧ hi = 191) → (sz = 3 → 224 ≤ c ∧ c ≤ 239 ∧ lo = (if c = 224 then 160 else 128) ∧ hi = (if c = 237 then 159 else 191)) → (sz = 4 → 240 ≤ c ∧ c ≤ 244 ∧ lo = (if c = 240 then 144 else 128) ∧ hi = (if c = 244 then 143 else 191)) → FF c :=
    fun F sz ai lo hi e1 e2 e3 e4 e5 e6 e7 e8 e9 ea eb ec ed ee => ⟨sz, ai, lo, hi, by rw [e1]; exact e2, by rw [e1]; exact e3, by rw [e1]; exact e4, e5, e6, e7, e8, e9, ea, eb, ec, ed, ee⟩
  have hF : Lib.firstT c = if c < 194 then 241 else if c < 224 then 2 else if c = 224 then 19 else if c < 237 then 3 else if c = 237 then 35 else if c < 240 then 3 else if c = 240 then 52 else if c < 244 then 4 else if c = 244 then 68 else 241 := by
    unfold Lib.firstT; rw [if_neg (by omega)]
  by_cases c1 : c < 194
  · exact key 241 1 15 0 0 (by rw [hF, if_pos c1]) (by decide) (by decide) (by decide) (by decide) (by decide) (by decide) (by decide) (by decide) (by decide) (fun _ => by omega) (fun h => by omega) (fun h => by omega) (fun h => by omega)
  · by_cases c2 : c < 224
    · exact key 2 2 0 128 191 (by rw [hF, if_neg c1, if_pos c2]) (by decide) (by decide) (by decide) (by decide) (by decide) (by decide) (by decide) (by decide) (by decide) (fun h => by omega) (fun h => ⟨by omega, by omega, rfl, rfl⟩) (fun h => by omega) (fun h => by omega)
    · by_cases c3 : c = 224
      · exact key 19 3 1 160 191 (by rw [hF, if_neg c1, if_neg c2, if_pos c3]) (by decide) (by decide) (by decide) (by decide) (by decide) (by decide) (by decide) (by decide) (by decide) (fun h => by omega) (fun h => by omega) (fun h => ⟨by omega, by omega, by rw [if_pos c3], by rw [if_neg (by omega)]⟩) (fun h => by omega)
      · by_cases c4 : c < 237
        · exact key 3 3 0 128 191 (by rw [hF, if_neg c1, if_neg c2, if_neg c3, if_pos c4]) (by decide) (by decide) (by decide) (by decide) (by decide) (by decide) (by decide) (by decide) (by decide) (fun h => by omega) (fun h => by omega) (fun h => ⟨by omega, by omega, by rw [if_neg c3], by rw [if_neg (by omega)]⟩) (fun h => by omega)
        · by_cases c5 : c = 237
          · exact key 35 3 2 128 159 (by rw [hF, if_neg c1, if_neg c2, if_neg c3, if_neg c4, if_pos c5]) (by decide) (by decide) (by decide) (by decide) (by decide) (by decide) (by decide) (by decide) (by decide) (fun h => by omega) (fun h => by omega) (fun h => ⟨by omega, by omega, by rw [if_neg c3], by rw [if_pos c5]⟩) (fun h => by omega)
          · by_cases c6 : c < 240
            · exact key 3 3 0 128 191 (by rw [hF, if_neg c1, if_neg c2, if_neg c3, if_neg c4, if_neg c5, if_pos c6]) (by decide) (by decide) (by decide) (by decide) (by decide) (by decide) (by decide) (by decide) (by decide) (fun h => by omega) (fun h => by omega) (fun h => ⟨by omega, by omega, by rw [if_neg c3], by rw [if_neg c5]⟩) (fun h => by omega)
            · by_cases c7 : c = 240
              · exact key 52 4 3 144 191 (by rw [hF, if_neg c1, if_neg c2, if_neg c3, if_neg c4, if_neg c5, if_neg c6, if_pos c7]) (by decide) (by decide) (by decide) (by decide) (by decide) (by decide) (by decide) (by decide) (by decide) (fun h => by omega) (fun h => by omega) (fun h => by omega) (fun h => ⟨by omega, by omega, by rw [if_pos c7], by rw [if_neg (by omega)]⟩)
              · by_cases c8 : c < 244
                · exact key 4 4 0 128 191 (by rw [hF, if_neg c1, if_neg c2, if_neg c3, if_neg c4, if_neg c5, if_neg c6, if_neg c7, if_pos c8]) (by decide) (by decide) (by decide) (by decide) (by decide) (by decide) (by decide) (by decide) (by decide) (fun h => by omega) (fun h => by omega) (fun h => by omega) (fun h => ⟨by omega, by omega, by rw [if_neg c7], by rw [if_neg (by omega)]⟩)
                · by_cases c9 : c = 244
                  · exact key 68 4 4 128 143 (by rw [hF, if_neg c1, if_neg c2, if_neg c3, if_neg c4, if_neg c5, if_neg c6, if_neg c7, if_neg c8, if_pos c9]) (by decide) (by decide) (by decide) (by decide) (by decide) (by decide) (by decide) (by decide) (by decide) (fun h => by omega) (fun h => by omega) (fun h => by omega) (fun h => ⟨by omega, by omega, by rw [if_neg c7], by rw [if_pos c9]⟩)
                  · exact key 241 1 15 0 0 (by rw [hF, if_neg c1, if_neg c2, if_neg c3, if_neg c4, if_neg c5, if_neg c6, if_neg c7, if_neg c8, if_neg c9]) (by decide) (by decide) (by decide) (by decide) (by decide) (by decide) (by decide) (by decide) (by decide) (fun _ => by omega) (fun h => by omega) (fun h => by omega) (fun h => by omega)
theorem runeN_else {m b0 b1 b2 b3 : Nat} (h : 128 ≤ b0) (h1 : ¬ (192 ≤ b0 ∧ b0 ≤ 247)) : runeN m b0 b1 b2 b3 = (-1, 1) := by
  unfold runeN
  rw [if_neg (by omega), if_neg (by omega), if_neg (by omega), if_neg (by omega)]
theorem multi1 {t : List UInt8} (h : 128 ≤ nat t 0) (h1 : ¬ (194 ≤ nat t 0 ∧ nat t 0 ≤ 244)) : (rune t).1 < 0 := by
  rw [rune_eq]
  have n1 := nat_lt t 1
  by_cases k0 : 192 ≤ nat t 0 ∧ nat t 0 ≤ 247
  · unfold runeN
    rw [if_neg (by omega)]
    by_cases k1 : nat t 0 ≤ 223
    · rw [if_pos (by omega)]
      split
      · rename_i hc
        have ho := hc.2
        unfold okC at ho
        rw [chk, if_pos (by unfold badN; omega)]; decide
      · decide
    · rw [if_neg (by omega), if_neg (by omega), if_pos (by omega)]
      split
      · rename_i hc
        obtain ⟨_, o1, o2, o3⟩ := hc
        unfold okC at o1 o2 o3
        rw [chk, if_pos (by unfold badN; omega)]; decide
      · decide
  · rw [runeN_else h k0]; decide
theorem multi2 {t : List UInt8} (h : 194 ≤ nat t 0 ∧ nat t 0 ≤ 223) : (2 ≤ t.length ∧ 128 ≤ nat t 1 ∧ nat t 1 ≤ 191 → 0 ≤ (rune t).1 ∧ (rune t).2 = 2) ∧ (¬ (2 ≤ t.length ∧ 128 ≤ nat t 1 ∧ nat t 1 ≤ 191) → (rune t).1 < 0) := by
  rw [rune_eq]
  unfold runeN
  rw [if_neg (by omega), if_pos (by omega)]
  constructor
  · intro hc
    rw [if_pos ⟨hc.1, by unfold okC; omega⟩, chk, if_neg (by unfold badN; omega)]
    exact ⟨by simp only []; omega, rfl⟩
  · intro hc
    rw [if_neg (by unfold okC; omega)]; decide
theorem multi3 {t : List UInt8} {lo hi : Nat} (h : 224 ≤ nat t 0 ∧ nat t 0 ≤ 239) (hlo : lo = if nat t 0 = 224 then 160 else 128) (hhi : hi = if nat t 0 = 237 then 159 else 191) :
    (3 ≤ t.length ∧ lo ≤ nat t 1 ∧ nat t 1 ≤ hi ∧ 128 ≤ nat t 2 ∧ nat t 2 ≤ 191 → 0 ≤ (rune t).1 ∧ (rune t).2 = 3) ∧ (¬ (3 ≤ t.length ∧ lo ≤ nat t 1 ∧ nat t 1 ≤ hi ∧ 128 ≤ nat t 2 ∧ nat t 2 ≤ 191) → (rune t).1 < 0) := by
  rw [rune_eq]
  unfold runeN
  rw [if_neg (by omega), if_neg (by omega), if_pos (by omega)]
  have hl : lo = 160 ∧ nat t 0 = 224 ∨ lo = 128 ∧ nat t 0 ≠ 224 := by split at hlo <;> omega
  have hh : hi = 159 ∧ nat t 0 = 237 ∨ hi = 191 ∧ nat t 0 ≠ 237 := by split at hhi <;> omega
  constructor
  · intro hc
    rw [if_pos ⟨hc.1, by unfold okC; omega, by unfold okC; omega⟩, chk, if_neg (by unfold badN; omega)]
    exact ⟨by simp only []; omega, rfl⟩
  · intro hc
    split
    · rename_i hd
      obtain ⟨d0, d1, d2⟩ := hd
      unfold okC at d1 d2
      rw [chk, if_pos (by unfold badN; omega)]; decide
    · decide
theorem multi4 {t : List UInt8} {lo hi : Nat} (h : 240 ≤ nat t 0 ∧ nat t 0 ≤ 244) (hlo : lo = if nat t 0 = 240 then 144 else 128) (hhi : hi = if nat t 0 = 244 then 143 else 191) :
    (4 ≤ t.length ∧ lo ≤ nat t 1 ∧ nat t 1 ≤ hi ∧ (128 ≤ nat t 2 ∧ nat t 2 ≤ 191) ∧ (128 ≤ nat t 3 ∧ nat t 3 ≤ 191) → 0 ≤ (rune t).1 ∧ (rune t).2 = 4) ∧ (¬ (4 ≤ t.length ∧ lo ≤ nat t 1 ∧ nat t 1 ≤ hi ∧ (128 ≤ nat t 2 ∧ nat t 2 ≤ 191) ∧ (128 ≤ nat t 3 ∧ nat t 3 ≤ 191)) → (rune t).1 < 0) := by
  rw [rune_eq]
  unfold runeN
  rw [if_neg (by omega), if_neg (by omega), if_neg (by omega), if_pos (by omega)]
  have hl : lo = 144 ∧ nat t 0 = 240 ∨ lo = 128 ∧ nat t 0 ≠ 240 := by split at hlo <;> omega
  have hh : hi = 143 ∧ nat t 0 = 244 ∨ hi = 191 ∧ nat t 0 ≠ 244 := by split at hhi <;> omega
  constructor
  · intro hc
    rw [if_pos ⟨hc.1, by unfold okC; omega, by unfold okC; omega, by unfold okC; omega⟩, chk, if_neg (by unfold badN; omega)]
    exact ⟨by simp only []; omega, rfl⟩
  · intro hc
    split
    · rename_i hd
      obtain ⟨d0, d1, d2, d3⟩ := hd
      unfold okC at d1 d2 d3
      rw [chk, if_pos (by unfold badN; omega)]; decide
    · decide
theorem vld_32 {x : List UInt8} (hx : 32 ≤ x.length) (h1 : ∀ i, i < 8 → nat x i < 128) (h2 : ∀ i, i < 8 → nat (x.drop 8) i < 128) (h3 : ∀ i, i < 8 → nat (x.drop 16) i < 128) (h4 : ∀ i, i < 8 → nat (x.drop 24) i < 128) : vld x = vld (x.drop 32) := by
  have e1 := vld_asciis 8 x (by omega) h1
  have e2 := vld_asciis 8 (x.drop 8) (by rw [List.length_drop]; omega) h2
  have e3 := vld_asciis 8 (x.drop 16) (by rw [List.length_drop]; omega) h3
  have e4 := vld_asciis 8 (x.drop 24) (by rw [List.length_drop]; omega) h4
  rw [List.drop_drop] at e2 e3 e4
  exact (e1.trans e2).trans (e3.trans e4)
theorem vld_bad {t : List UInt8} (hne : t ≠ []) (h : (rune t).1 < 0) : vld t = false := by rw [vld_cons hne, decide_eq_false (by omega), Bool.false_and]
theorem vld_good {t : List UInt8} {k : Nat} (hne : t ≠ []) (h : 0 ≤ (rune t).1 ∧ (rune t).2 = k) : vld t = vld (t.drop k) := by rw [vld_cons hne, decide_eq_true h.1, Bool.true_and, h.2]
end Go.Ph.Chs
end
section
set_option linter.unusedVariables false
set_option linter.unusedSimpArgs false
namespace Go.Proofs.YtogkmhjnojphiaaGreatDoor
open Go Go.RowKit Go.Ph
open Go.Ph.Gr Go.Ph.Utf Go.Ph.Chs
theorem word_spec (l : List UInt8) (hl : 8 ≤ l.length) : Ct Tryz.prog 78 [S l] (fun _ => True) (fun r _ => r = .int .u64 ((w8 l : Nat) : Int)) := by
  refine Ct.of Tryz.func78 (enters Tryz.func78 (by kernel_rfl) rfl) rfl rfl rfl ?_
  intro w0 M0 H hp
  obtain ⟨b0, hb0⟩ : ∃ u, l[0]? = some u := ⟨_, List.getElem?_eq_getElem (by omega)⟩
  have hlt0 := b0.toNat_lt
  have hn0 := nat_of hb0
  obtain ⟨b1, hb1⟩ : ∃ u, l[1]? = some u := ⟨_, List.getElem?_eq_getElem (by omega)⟩
  have hlt1 := b1.toNat_lt
  have hn1 := nat_of hb1
  obtain ⟨b2, hb2⟩ : ∃ u, l[2]? = some u := ⟨_, List.getElem?_eq_getElem (by omega)⟩
  have hlt2 := b2.toNat_lt
  have hn2 := nat_of hb2
  obtain ⟨b3, hb3⟩ : ∃ u, l[3]? = some u := ⟨_, List.getElem?_eq_getElem (by omega)⟩
  have hlt3 := b3.toNat_lt
  have hn3 := nat_of hb3
  obtain ⟨b4, hb4⟩ : ∃ u, l[4]? = some u := ⟨_, List.getElem?_eq_getElem (by omega)⟩
  have hlt4 := b4.toNat_lt
  have hn4 := nat_of hb4
  obtain ⟨b5, hb5⟩ : ∃ u, l[5]? = some u := ⟨_, List.getElem?_eq_getElem (by omega)⟩
  have hlt5 := b5.toNat_lt
  have hn5 := nat_of hb5
  obtain ⟨b6, hb6⟩ : ∃ u, l[6]? = some u := ⟨_, List.getElem?_eq_getElem (by omega)⟩
  have hlt6 := b6.toNat_lt
  have hn6 := nat_of hb6
  obtain ⟨b7, hb7⟩ : ∃ u, l[7]? = some u := ⟨_, List.getElem?_eq_getElem (by omega)⟩
  have hlt7 := b7.toNat_lt
  have hn7 := nat_of hb7
  have hw0 : b0.toNat < 2 ^ 64 := by omega
  have hs1 := shl64 (b := b1.toNat) (k := 8) hlt1 (by decide)
  have hw1 : b0.toNat ||| b1.toNat <<< 8 < 2 ^ 64 := Nat.or_lt_two_pow hw0 hs1.1
  have hs2 := shl64 (b := b2.toNat) (k := 16) hlt2 (by decide)
  have hw2 : b0.toNat ||| b1.toNat <<< 8 ||| b2.toNat <<< 16 < 2 ^ 64 := Nat.or_lt_two_pow hw1 hs2.1
  have hs3 := shl64 (b := b3.toNat) (k := 24) hlt3 (by decide)
  have hw3 : b0.toNat ||| b1.toNat <<< 8 ||| b2.toNat <<< 16 ||| b3.toNat <<< 24 < 2 ^ 64 := Nat.or_lt_two_pow hw2 hs3.1
  have hs4 := shl64 (b := b4.toNat) (k := 32) hlt4 (by decide)
  have hw4 : b0.toNat ||| b1.toNat <<< 8 ||| b2.toNat <<< 16 ||| b3.toNat <<< 24 ||| b4.toNat <<< 32 < 2 ^ 64 := Nat.or_lt_two_pow hw3 hs4.1
  have hs5 := shl64 (b := b5.toNat) (k := 40) hlt5 (by decide)
  have hw5 : b0.toNat ||| b1.toNat <<< 8 ||| b2.toNat <<< 16 ||| b3.toNat <<< 24 ||| b4.toNat <<< 32 ||| b5.toNat <<< 40 < 2 ^ 64 := Nat.or_lt_two_pow hw4 hs5.1
  have hs6 := shl64 (b := b6.toNat) (k := 48) hlt6 (by decide)
  have hw6 : b0.toNat ||| b1.toNat <<< 8 ||| b2.toNat <<< 16 ||| b3.toNat <<< 24 ||| b4.toNat <<< 32 ||| b5.toNat <<< 40 ||| b6.toNat <<< 48 < 2 ^ 64 := Nat.or_lt_two_pow hw5 hs6.1
  have hs7 := shl64 (b := b7.toNat) (k := 56) hlt7 (by decide)
  have hw7 : b0.toNat ||| b1.toNat <<< 8 ||| b2.toNat <<< 16 ||| b3.toNat <<< 24 ||| b4.toNat <<< 32 ||| b5.toNat <<< 40 ||| b6.toNat <<< 48 ||| b7.toNat <<< 56 < 2 ^ 64 := Nat.or_lt_two_pow hw6 hs7.1
  refine SQ (RG (AS rfl rfl (NL (TN (SQ (CF rfl (SK (TN (SQ (WC.draw (m := 39) rfl rfl H ?_))))))))))
  intro w H
  refine WA.take (i := 0) rfl (by kernel_rfl) (by kernel_rfl) (by kernel_rfl) (fun _ => Ex.move rfl) (Wn.none rfl) rfl rfl (fun _ _ => rfl) (WA.take (i := 1) rfl (by kernel_rfl) (by kernel_rfl) (by kernel_rfl) (fun _ => Ex.idxStr Tryz.underlying9 rfl rfl (hb0)) (Wn.none rfl) rfl rfl (fun _ _ => rfl) (WA.take (i := 2) rfl (by kernel_rfl) (by kernel_rfl) (by kernel_rfl) (fun _ => Ex.convU64 Tryz.underlying5 Tryz.underlying151 rfl (by omega)) (Wn.none rfl) rfl rfl (fun _ _ => rfl) ?_))
  refine WA.take (i := 3) rfl (by kernel_rfl) (by kernel_rfl) (by kernel_rfl) (fun _ => Ex.move rfl) (Wn.none rfl) rfl rfl (fun _ _ => rfl) (WA.take (i := 4) rfl (by kernel_rfl) (by kernel_rfl) (by kernel_rfl) (fun _ => Ex.idxStr Tryz.underlying9 rfl rfl (hb1)) (Wn.none rfl) rfl rfl (fun _ _ => rfl) (WA.take (i := 5) rfl (by kernel_rfl) (by kernel_rfl) (by kernel_rfl) (fun _ => Ex.convU64 Tryz.underlying5 Tryz.underlying151 rfl (by omega)) (Wn.none rfl) rfl rfl (fun _ _ => rfl) ?_))
  refine WA.takeE (v' := .int .u64 ((b1.toNat <<< 8 : Nat) : Int)) (i := 6) rfl (by kernel_rfl) (by kernel_rfl) (by kernel_rfl) (fun _ => Ex.shlK (m := b1.toNat) (s := 8) rfl rfl (by decide)) (congrArg (Value.int .u64) hs1.2) (Wn.none rfl) rfl rfl (fun _ _ => rfl) (WA.takeE (v' := .int .u64 ((b0.toNat ||| b1.toNat <<< 8 : Nat) : Int)) (i := 7) rfl (by kernel_rfl) (by kernel_rfl) (by kernel_rfl) (fun _ => Ex.orK (m := (b0.toNat)) (s := (b1.toNat <<< 8)) rfl rfl hw0 hs1.1) (congrArg (Value.int .u64) (or64 hw0 hs1.1)) (Wn.none rfl) rfl rfl (fun _ _ => rfl) (WA.take (i := 8) rfl (by kernel_rfl) (by kernel_rfl) (by kernel_rfl) (fun _ => Ex.move rfl) (Wn.none rfl) rfl rfl (fun _ _ => rfl) (WA.take (i := 9) rfl (by kernel_rfl) (by kernel_rfl) (by kernel_rfl) (fun _ => Ex.idxStr Tryz.underlying9 rfl rfl (hb2)) (Wn.none rfl) rfl rfl (fun _ _ => rfl) (WA.take (i := 10) rfl (by kernel_rfl) (by kernel_rfl) (by kernel_rfl) (fun _ => Ex.convU64 Tryz.underlying5 Tryz.underlying151 rfl (by omega)) (Wn.none rfl) rfl rfl (fun _ _ => rfl) ?_))))
  refine WA.takeE (v' := .int .u64 ((b2.toNat <<< 16 : Nat) : Int)) (i := 11) rfl (by kernel_rfl) (by kernel_rfl) (by kernel_rfl) (fun _ => Ex.shlK (m := b2.toNat) (s := 16) rfl rfl (by decide)) (congrArg (Value.int .u64) hs2.2) (Wn.none rfl) rfl rfl (fun _ _ => rfl) (WA.takeE (v' := .int .u64 ((b0.toNat ||| b1.toNat <<< 8 ||| b2.toNat <<< 16 : Nat) : Int)) (i := 12) rfl (by kernel_rfl) (by kernel_rfl) (by kernel_rfl) (fun _ => Ex.orK (m := (b0.toNat ||| b1.toNat <<< 8)) (s := (b2.toNat <<< 16)) rfl rfl hw1 hs2.1) (congrArg (Value.int .u64) (or64 hw1 hs2.1)) (Wn.none rfl) rfl rfl (fun _ _ => rfl) (WA.take (i := 13) rfl (by kernel_rfl) (by kernel_rfl) (by kernel_rfl) (fun _ => Ex.move rfl) (Wn.none rfl) rfl rfl (fun _ _ => rfl) (WA.take (i := 14) rfl (by kernel_rfl) (by kernel_rfl) (by kernel_rfl) (fun _ => Ex.idxStr Tryz.underlying9 rfl rfl (hb3)) (Wn.none rfl) rfl rfl (fun _ _ => rfl) (WA.take (i := 15) rfl (by kernel_rfl) (by kernel_rfl) (by kernel_rfl) (fun _ => Ex.convU64 Tryz.underlying5 Tryz.underlying151 rfl (by omega)) (Wn.none rfl) rfl rfl (fun _ _ => rfl) ?_))))
  refine WA.takeE (v' := .int .u64 ((b3.toNat <<< 24 : Nat) : Int)) (i := 16) rfl (by kernel_rfl) (by kernel_rfl) (by kernel_rfl) (fun _ => Ex.shlK (m := b3.toNat) (s := 24) rfl rfl (by decide)) (congrArg (Value.int .u64) hs3.2) (Wn.none rfl) rfl rfl (fun _ _ => rfl) (WA.takeE (v' := .int .u64 ((b0.toNat ||| b1.toNat <<< 8 ||| b2.toNat <<< 16 ||| b3.toNat <<< 24 : Nat) : Int)) (i := 17) rfl (by kernel_rfl) (by kernel_rfl) (by kernel_rfl) (fun _ => Ex.orK (m := (b0.toNat ||| b1.toNat <<< 8 ||| b2.toNat <<< 16)) (s := (b3.toNat <<< 24)) rfl rfl hw2 hs3.1) (congrArg (Value.int .u64) (or64 hw2 hs3.1)) (Wn.none rfl) rfl rfl (fun _ _ => rfl) (WA.take (i := 18) rfl (by kernel_rfl) (by kernel_rfl) (by kernel_rfl) (fun _ => Ex.move rfl) (Wn.none rfl) rfl rfl (fun _ _ => rfl) (WA.take (i := 19) rfl (by kernel_rfl) (by kernel_rfl) (by kernel_rfl) (fun _ => Ex.idxStr Tryz.underlying9 rfl rfl (hb4)) (Wn.none rfl) rfl rfl (fun _ _ => rfl) ?_)))
  refine WA.take (i := 20) rfl (by kernel_rfl) (by kernel_rfl) (by kernel_rfl) (fun _ => Ex.convU64 Tryz.underlying5 Tryz.underlying151 rfl (by omega)) (Wn.none rfl) rfl rfl (fun _ _ => rfl) ?_
  refine WA.takeE (v' := .int .u64 ((b4.toNat <<< 32 : Nat) : Int)) (i := 21) rfl (by kernel_rfl) (by kernel_rfl) (by kernel_rfl) (fun _ => Ex.shlK (m := b4.toNat) (s := 32) rfl rfl (by decide)) (congrArg (Value.int .u64) hs4.2) (Wn.none rfl) rfl rfl (fun _ _ => rfl) (WA.takeE (v' := .int .u64 ((b0.toNat ||| b1.toNat <<< 8 ||| b2.toNat <<< 16 ||| b3.toNat <<< 24 ||| b4.toNat <<< 32 : Nat) : Int)) (i := 22) rfl (by kernel_rfl) (by kernel_rfl) (by kernel_rfl) (fun _ => Ex.orK (m := (b0.toNat ||| b1.toNat <<< 8 ||| b2.toNat <<< 16 ||| b3.toNat <<< 24)) (s := (b4.toNat <<< 32)) rfl rfl hw3 hs4.1) (congrArg (Value.int .u64) (or64 hw3 hs4.1)) (Wn.none rfl) rfl rfl (fun _ _ => rfl) (WA.take (i := 23) rfl (by kernel_rfl) (by kernel_rfl) (by kernel_rfl) (fun _ => Ex.move rfl) (Wn.none rfl) rfl rfl (fun _ _ => rfl) (WA.take (i := 24) rfl (by kernel_rfl) (by kernel_rfl) (by kernel_rfl) (fun _ => Ex.idxStr Tryz.underlying9 rfl rfl (hb5)) (Wn.none rfl) rfl rfl (fun _ _ => rfl) ?_)))
  refine WA.take (i := 25) rfl (by kernel_rfl) (by kernel_rfl) (by kernel_rfl) (fun _ => Ex.convU64 Tryz.underlying5 Tryz.underlying151 rfl (by omega)) (Wn.none rfl) rfl rfl (fun _ _ => rfl) ?_
  refine WA.takeE (v' := .int .u64 ((b5.toNat <<< 40 : Nat) : Int)) (i := 26) rfl (by kernel_rfl) (by kernel_rfl) (by kernel_rfl) (fun _ => Ex.shlK (m := b5.toNat) (s := 40) rfl rfl (by decide)) (congrArg (Value.int .u64) hs5.2) (Wn.none rfl) rfl rfl (fun _ _ => rfl) (WA.takeE (v' := .int .u64 ((b0.toNat ||| b1.toNat <<< 8 ||| b2.toNat <<< 16 ||| b3.toNat <<< 24 ||| b4.toNat <<< 32 ||| b5.toNat <<< 40 : Nat) : Int)) (i := 27) rfl (by kernel_rfl) (by kernel_rfl) (by kernel_rfl) (fun _ => Ex.orK (m := (b0.toNat ||| b1.toNat <<< 8 ||| b2.toNat <<< 16 ||| b3.toNat <<< 24 ||| b4.toNat <<< 32)) (s := (b5.toNat <<< 40)) rfl rfl hw4 hs5.1) (congrArg (Value.int .u64) (or64 hw4 hs5.1)) (Wn.none rfl) rfl rfl (fun _ _ => rfl) (WA.take (i := 28) rfl (by kernel_rfl) (by kernel_rfl) (by kernel_rfl) (fun _ => Ex.move rfl) (Wn.none rfl) rfl rfl (fun _ _ => rfl) (WA.take (i := 29) rfl (by kernel_rfl) (by kernel_rfl) (by kernel_rfl) (fun _ => Ex.idxStr Tryz.underlying9 rfl rfl (hb6)) (Wn.none rfl) rfl rfl (fun _ _ => rfl) ?_)))
  refine WA.take (i := 30) rfl (by kernel_rfl) (by kernel_rfl) (by kernel_rfl) (fun _ => Ex.convU64 Tryz.underlying5 Tryz.underlying151 rfl (by omega)) (Wn.none rfl) rfl rfl (fun _ _ => rfl) ?_
  refine WA.takeE (v' := .int .u64 ((b6.toNat <<< 48 : Nat) : Int)) (i := 31) rfl (by kernel_rfl) (by kernel_rfl) (by kernel_rfl) (fun _ => Ex.shlK (m := b6.toNat) (s := 48) rfl rfl (by decide)) (congrArg (Value.int .u64) hs6.2) (Wn.none rfl) rfl rfl (fun _ _ => rfl) (WA.takeE (v' := .int .u64 ((b0.toNat ||| b1.toNat <<< 8 ||| b2.toNat <<< 16 ||| b3.toNat <<< 24 ||| b4.toNat <<< 32 ||| b5.toNat <<< 40 ||| b6.toNat <<< 48 : Nat) : Int)) (i := 32) rfl (by kernel_rfl) (by kernel_rfl) (by kernel_rfl) (fun _ => Ex.orK (m := (b0.toNat ||| b1.toNat <<< 8 ||| b2.toNat <<< 16 ||| b3.toNat <<< 24 ||| b4.toNat <<< 32 ||| b5.toNat <<< 40)) (s := (b6.toNat <<< 48)) rfl rfl hw5 hs6.1) (congrArg (Value.int .u64) (or64 hw5 hs6.1)) (Wn.none rfl) rfl rfl (fun _ _ => rfl) (ON 33 (by kernel_rfl) rfl (MV rfl rfl (NA (ON 34 (by kernel_rfl) rfl (ST (Ex.idxStr Tryz.underlying9 rfl rfl (hb7)) rfl (NA (ON 35 (by kernel_rfl) rfl ?_))))))))
  refine ST (Ex.convU64 Tryz.underlying5 Tryz.underlying151 rfl (by omega)) rfl ?_
  refine NA (ON 36 (by kernel_rfl) rfl (WR.stepE (v' := .int .u64 ((b7.toNat <<< 56 : Nat) : Int)) (Ex.shlK (m := b7.toNat) (s := 56) rfl rfl (by decide)) (congrArg (Value.int .u64) hs7.2) (Wn.none rfl) rfl rfl (NA (ON 37 (by kernel_rfl) rfl (WR.stepE (v' := .int .u64 ((b0.toNat ||| b1.toNat <<< 8 ||| b2.toNat <<< 16 ||| b3.toNat <<< 24 ||| b4.toNat <<< 32 ||| b5.toNat <<< 40 ||| b6.toNat <<< 48 ||| b7.toNat <<< 56 : Nat) : Int)) (Ex.orK (m := (b0.toNat ||| b1.toNat <<< 8 ||| b2.toNat <<< 16 ||| b3.toNat <<< 24 ||| b4.toNat <<< 32 ||| b5.toNat <<< 40 ||| b6.toNat <<< 48)) (s := (b7.toNat <<< 56)) rfl rfl hw6 hs7.1) (congrArg (Value.int .u64) (or64 hw6 hs7.1)) (Wn.none rfl) rfl rfl (NA (ON 38 (by kernel_rfl) rfl (AS rfl rfl (NA (WA.done (by kernel_rfl) (TN (RT ?_))))))))))))
  refine WQ.ret1 rfl rfl H.ext ?_
  exact by unfold w8; rw [hn0, hn1, hn2, hn3, hn4, hn5, hn6, hn7]
theorem tab_acc {w : World} (h : Lib.Utf8Tabs 0 1 w) {ai lo hi : Nat} (ha : ai < 16) (hlo : Lib.accLo ai = lo) (hhi : Lib.accHi ai = hi) : ∀ j u, ([.int .u8 ((lo : Nat) : Int), .int .u8 ((hi : Nat) : Int)] : List Value)[j]? = some u → w.cell? ⟨1, 2 * ai + j, none⟩ = some u := by
  obtain ⟨h1, h2⟩ := h.2 ai ha
  rw [hlo] at h1
  rw [hhi] at h2
  intro j u hj
  rcases j with _ | _ | j
  · cases hj; exact h1
  · cases hj; exact h2
  · simp at hj
theorem validString_spec (l : List UInt8) (hs : l.length ≤ 4611686018427387904) : Ct Tryz.prog 38 [S l] (fun M => Tabs M) (fun r _ => r = .bool (vld l)) := by
  refine Ct.of Tryz.func38 (enters Tryz.func38 (by kernel_rfl) rfl) rfl rfl rfl ?_
  intro w0 M0 H hp
  refine SQ (RG (AS rfl rfl (NL (TN (SQ (BL (WC.loop1 (fun (t : List UInt8) => [(0, S t)]) (fun (t : List UInt8) w => t.length ≤ l.length ∧ vld l = vld t ∧ ∃ M, St w0 M0 M [] w ∧ Tabs M) (fun (t : List UInt8) => t.length) (l) ⟨rfl, trivial⟩ (⟨Nat.le_refl _, rfl, M0, H, hp⟩) ?_)))))))
  intro t w
  rintro ⟨htl, hv, M, H, hp⟩
  refine SQ (SQ (RG (MV rfl rfl (ST (Ex.lenStr Tryz.underlying9 rfl) rfl ?_))))
  refine WR.split (Ex.gtr rfl rfl) (Wn.none rfl) rfl rfl (fun h1_2 => ?_) (fun h1_2 => ?_)
  · have hne : t ≠ [] := by rintro rfl; simp at h1_2
    obtain ⟨c, hc⟩ : ∃ c, t[0]? = some c := ⟨_, List.getElem?_eq_getElem (by omega)⟩
    have hcn := nat_of hc
    have hclt := c.toNat_lt
    refine NL (TN (CT rfl (SK (TN (BL (SQ (RG (MV rfl rfl (ST (Ex.idxStr Tryz.underlying9 rfl rfl (hc)) rfl (AS rfl rfl (NL (TN (SQ (SQ (RG (MV rfl rfl ?_))))))))))))))))
    refine WR.split (Ex.lss rfl rfl) (Wn.none rfl) rfl rfl (fun h3_1 => ?_) (fun h3_1 => ?_)
    · have hc128 : nat t 0 < 128 := by omega
      refine NL (TN (CT rfl (SQ (RG (MV rfl rfl (WR.stepE (v' := S (t.drop 1)) (Ex.sliceStr (i := 1) (j := t.length) Tryz.underlying9 rfl (.inl ⟨_, rfl, rfl⟩) (.inr ⟨rfl, rfl⟩) (by omega) (by omega)) (by rw [List.take_length]) (Wn.none rfl) rfl rfl ?_))))))
      refine AS rfl rfl (NL (TN (SQ (SQ (RG ?_)))))
      obtain ⟨u, hu⟩ : ∃ u, u = t.drop 1 := ⟨_, rfl⟩
      rw [← hu]
      have hv1 := vld_ascii hne hc128
      rw [← hu] at hv1
      have hul : u.length = t.length - 1 := by rw [hu, List.length_drop]
      refine MV rfl rfl (ST (Ex.lenStr Tryz.underlying9 rfl) rfl ?_)
      refine WR.split (Ex.gtr rfl rfl) (Wn.none rfl) rfl rfl (fun h5_2 => ?_) (fun h5_2 => ?_)
      · refine MV rfl rfl (SG (Ex.move rfl) rfl rfl rfl (WR.call H (word_spec u (by omega)) rfl (trivial) (Wn.some rfl rfl rfl) rfl ?_))
        intro v21 M w H hle hr21
        replace hp := hp.mono hle
        obtain rfl := hr21
        refine WR.stepE (v' := .int .u64 ((w8 u) &&& 9259542123273814144 : Nat)) (Ex.andK (m := (w8 u)) (s := 9259542123273814144) rfl rfl (w8_lt u) (by decide)) (congrArg (Value.int .u64) (and64 (w8_lt u))) (Wn.some rfl rfl rfl) rfl rfl ?_
        refine WR.split (Ex.eql rfl rfl) (Wn.some rfl rfl rfl) rfl rfl (fun h5_7 => ?_) (fun h5_7 => ?_)
        · have h8 : ∀ i, i < 8 → nat u i < 128 := w8_small (x := 0) (by rw [Nat.or_zero]; omega)
          have hv8 := vld_asciis 8 u (by omega) h8
          refine PT rfl rfl rfl (NL (TN (CT rfl (SQ (RG (MV rfl rfl (WR.stepE (v' := S (u.drop 8)) (Ex.sliceStr (i := 8) (j := u.length) Tryz.underlying9 rfl (.inl ⟨_, rfl, rfl⟩) (.inr ⟨rfl, rfl⟩) (by omega) (by omega)) (by rw [List.take_length]) (Wn.none rfl) rfl rfl ?_)))))))
          obtain ⟨u2, hu2⟩ : ∃ u2, u2 = u.drop 8 := ⟨_, rfl⟩
          rw [← hu2]
          have hul2 : u2.length = u.length - 8 := by rw [hu2, List.length_drop]
          refine AS rfl rfl (NL (TN (SQ (WC.draw (m := 13) rfl rfl H ?_))))
          intro w H
          refine ON 0 (by kernel_rfl) rfl (MV rfl rfl (NA (ON 1 (by kernel_rfl) rfl (ST (Ex.lenStr Tryz.underlying9 rfl) rfl (NA (ON 2 (by kernel_rfl) rfl ?_))))))
          refine WR.split (Ex.gtr rfl rfl) (Wn.none rfl) rfl rfl (fun h7_2 => ?_) (fun h7_2 => ?_)
          · refine NA (ON 3 (by kernel_rfl) rfl (MV rfl rfl (NA (WA.take (i := 4) rfl (by kernel_rfl) (by kernel_rfl) (by kernel_rfl) (fun _ => Ex.move rfl) (Wn.some rfl rfl rfl) rfl rfl (fun _ _ => rfl) (WA.take (i := 6) rfl (by kernel_rfl) (by kernel_rfl) (by kernel_rfl) (fun _ => Ex.move rfl) (Wn.some rfl rfl rfl) rfl rfl (fun _ _ => rfl) (WA.takeE (v' := S (u2.drop 8)) (i := 7) rfl (by kernel_rfl) (by kernel_rfl) (by kernel_rfl) (fun _ => Ex.sliceStr (i := 8) (j := u2.length) Tryz.underlying9 rfl (.inl ⟨_, rfl, rfl⟩) (.inr ⟨rfl, rfl⟩) (by omega) (by omega)) (by rw [List.take_length]) (Wn.some rfl rfl rfl) rfl rfl (fun _ _ => rfl) ?_))))))
            refine ON 5 (by kernel_rfl) rfl (WR.call H (word_spec u2 (by omega)) rfl (trivial) (Wn.some rfl rfl rfl) rfl ?_)
            intro v32 M w H hle hr32
            replace hp := hp.mono hle
            obtain rfl := hr32
            refine NA (ON 8 (by kernel_rfl) rfl (WR.call H (word_spec (u2.drop 8) (by rw [List.length_drop]; omega)) rfl (trivial) (Wn.some rfl rfl rfl) rfl ?_))
            intro v35 M w H hle hr35
            replace hp := hp.mono hle
            obtain rfl := hr35
            refine NA (ON 9 (by kernel_rfl) rfl (WR.stepE (v' := .int .u64 ((w8 u2) ||| (w8 (u2.drop 8)) : Nat)) (Ex.orK (m := (w8 u2)) (s := (w8 (u2.drop 8))) rfl rfl (w8_lt u2) (w8_lt (u2.drop 8))) (congrArg (Value.int .u64) (or64 (w8_lt u2) (w8_lt (u2.drop 8)))) (Wn.some rfl rfl rfl) rfl rfl (NA (ON 10 (by kernel_rfl) rfl (WR.stepE (v' := .int .u64 ((w8 u2 ||| w8 (u2.drop 8)) &&& 9259542123273814144 : Nat)) (Ex.andK (m := (w8 u2 ||| w8 (u2.drop 8))) (s := 9259542123273814144) rfl rfl (Nat.or_lt_two_pow (w8_lt u2) (w8_lt (u2.drop 8))) (by decide)) (congrArg (Value.int .u64) (and64 (Nat.or_lt_two_pow (w8_lt u2) (w8_lt (u2.drop 8))))) (Wn.some rfl rfl rfl) rfl rfl (NA (ON 11 (by kernel_rfl) rfl ?_)))))))
            refine WR.split (Ex.eql rfl rfl) (Wn.some rfl rfl rfl) rfl rfl (fun h7_11 => ?_) (fun h7_11 => ?_)
            · have ha := w8_small (l := u2) (x := w8 (u2.drop 8)) (by omega)
              have hb := w8_small (l := u2.drop 8) (x := w8 u2) (by rw [Nat.or_comm]; omega)
              have hv16 := (vld_asciis 8 u2 (by omega) ha).trans (vld_asciis 8 (u2.drop 8) (by rw [List.length_drop]; omega) hb)
              rw [List.drop_drop] at hv16
              refine NA (ON 12 (by kernel_rfl) rfl (PT rfl rfl rfl (NA (WA.done (by kernel_rfl) (TN (CT rfl (SQ (RG (MV rfl rfl (WR.stepE (v' := S (u2.drop 16)) (Ex.sliceStr (i := 16) (j := u2.length) Tryz.underlying9 rfl (.inl ⟨_, rfl, rfl⟩) (.inr ⟨rfl, rfl⟩) (by omega) (by omega)) (by rw [List.take_length]) (Wn.none rfl) rfl rfl ?_))))))))))
              refine AS rfl rfl (NL (TN (BL (WC.loop1 (fun (x : List UInt8) => [(0, S x)]) (fun (x : List UInt8) w => x.length < t.length ∧ vld l = vld x ∧ ∃ M, St w0 M0 M [] w ∧ Tabs M) (fun (x : List UInt8) => x.length) (u2.drop 16) ⟨rfl, trivial⟩ (⟨by rw [List.length_drop, hu2, hu, List.length_drop, List.length_drop]; omega, by rw [hv, hv1, hv8, ← hu2, hv16], M, H, hp⟩) ?_))))
              intro x w
              rintro ⟨hxt, hvx, M, H, hp⟩
              refine SQ (SQ (WC.draw (m := 21) rfl rfl H ?_))
              intro w H
              refine ON 0 (by kernel_rfl) rfl (MV rfl rfl (NA (ON 1 (by kernel_rfl) rfl (ST (Ex.lenStr Tryz.underlying9 rfl) rfl (NA (ON 2 (by kernel_rfl) rfl ?_))))))
              refine WR.split (Ex.gtr rfl rfl) (Wn.none rfl) rfl rfl (fun h9_2 => ?_) (fun h9_2 => ?_)
              · refine NA (ON 3 (by kernel_rfl) rfl (MV rfl rfl (NA (WA.take (i := 4) rfl (by kernel_rfl) (by kernel_rfl) (by kernel_rfl) (fun _ => Ex.move rfl) (Wn.some rfl rfl rfl) rfl rfl (fun _ _ => rfl) (WA.take (i := 6) rfl (by kernel_rfl) (by kernel_rfl) (by kernel_rfl) (fun _ => Ex.move rfl) (Wn.some rfl rfl rfl) rfl rfl (fun _ _ => rfl) (WA.takeE (v' := S (x.drop 8)) (i := 7) rfl (by kernel_rfl) (by kernel_rfl) (by kernel_rfl) (fun _ => Ex.sliceStr (i := 8) (j := x.length) Tryz.underlying9 rfl (.inl ⟨_, rfl, rfl⟩) (.inr ⟨rfl, rfl⟩) (by omega) (by omega)) (by rw [List.take_length]) (Wn.some rfl rfl rfl) rfl rfl (fun _ _ => rfl) ?_))))))
                refine WA.take (i := 10) rfl (by kernel_rfl) (by kernel_rfl) (by kernel_rfl) (fun _ => Ex.move rfl) (Wn.some rfl rfl rfl) rfl rfl (fun _ _ => rfl) (WA.takeE (v' := S (x.drop 16)) (i := 11) rfl (by kernel_rfl) (by kernel_rfl) (by kernel_rfl) (fun _ => Ex.sliceStr (i := 16) (j := x.length) Tryz.underlying9 rfl (.inl ⟨_, rfl, rfl⟩) (.inr ⟨rfl, rfl⟩) (by omega) (by omega)) (by rw [List.take_length]) (Wn.some rfl rfl rfl) rfl rfl (fun _ _ => rfl) ?_)
                refine WA.take (i := 13) rfl (by kernel_rfl) (by kernel_rfl) (by kernel_rfl) (fun _ => Ex.move rfl) (Wn.some rfl rfl rfl) rfl rfl (fun _ _ => rfl) (WA.takeE (v' := S (x.drop 24)) (i := 14) rfl (by kernel_rfl) (by kernel_rfl) (by kernel_rfl) (fun _ => Ex.sliceStr (i := 24) (j := x.length) Tryz.underlying9 rfl (.inl ⟨_, rfl, rfl⟩) (.inr ⟨rfl, rfl⟩) (by omega) (by omega)) (by rw [List.take_length]) (Wn.some rfl rfl rfl) rfl rfl (fun _ _ => rfl) ?_)
                refine ON 5 (by kernel_rfl) rfl (WR.call H (word_spec x (by omega)) rfl (trivial) (Wn.some rfl rfl rfl) rfl ?_)
                intro v47 M w H hle hr47
                replace hp := hp.mono hle
                obtain rfl := hr47
                refine NA (ON 8 (by kernel_rfl) rfl (WR.call H (word_spec (x.drop 8) (by rw [List.length_drop]; omega)) rfl (trivial) (Wn.some rfl rfl rfl) rfl ?_))
                intro v50 M w H hle hr50
                replace hp := hp.mono hle
                obtain rfl := hr50
                refine NA (WA.takeE (v' := .int .u64 ((w8 x) ||| (w8 (x.drop 8)) : Nat)) (i := 9) rfl (by kernel_rfl) (by kernel_rfl) (by kernel_rfl) (fun _ => Ex.orK (m := (w8 x)) (s := (w8 (x.drop 8))) rfl rfl (w8_lt x) (w8_lt (x.drop 8))) (congrArg (Value.int .u64) (or64 (w8_lt x) (w8_lt (x.drop 8)))) (Wn.some rfl rfl rfl) rfl rfl (fun _ _ => rfl) (ON 12 (by kernel_rfl) rfl (WR.call H (word_spec (x.drop 16) (by rw [List.length_drop]; omega)) rfl (trivial) (Wn.some rfl rfl rfl) rfl ?_)))
                intro v54 M w H hle hr54
                replace hp := hp.mono hle
                obtain rfl := hr54
                refine NA (ON 15 (by kernel_rfl) rfl (WR.call H (word_spec (x.drop 24) (by rw [List.length_drop]; omega)) rfl (trivial) (Wn.some rfl rfl rfl) rfl ?_))
                intro v57 M w H hle hr57
                replace hp := hp.mono hle
                obtain rfl := hr57
                refine NA (ON 16 (by kernel_rfl) rfl (WR.stepE (v' := .int .u64 ((w8 (x.drop 16)) ||| (w8 (x.drop 24)) : Nat)) (Ex.orK (m := (w8 (x.drop 16))) (s := (w8 (x.drop 24))) rfl rfl (w8_lt (x.drop 16)) (w8_lt (x.drop 24))) (congrArg (Value.int .u64) (or64 (w8_lt (x.drop 16)) (w8_lt (x.drop 24)))) (Wn.some rfl rfl rfl) rfl rfl (NA (ON 17 (by kernel_rfl) rfl (WR.stepE (v' := .int .u64 ((w8 x ||| w8 (x.drop 8)) ||| (w8 (x.drop 16) ||| w8 (x.drop 24)) : Nat)) (Ex.orK (m := (w8 x ||| w8 (x.drop 8))) (s := (w8 (x.drop 16) ||| w8 (x.drop 24))) rfl rfl (Nat.or_lt_two_pow (w8_lt x) (w8_lt (x.drop 8))) (Nat.or_lt_two_pow (w8_lt (x.drop 16)) (w8_lt (x.drop 24)))) (congrArg (Value.int .u64) (or64 (Nat.or_lt_two_pow (w8_lt x) (w8_lt (x.drop 8))) (Nat.or_lt_two_pow (w8_lt (x.drop 16)) (w8_lt (x.drop 24))))) (Wn.some rfl rfl rfl) rfl rfl (NA (ON 18 (by kernel_rfl) rfl (WR.stepE (v' := .int .u64 (((w8 x ||| w8 (x.drop 8)) ||| (w8 (x.drop 16) ||| w8 (x.drop 24))) &&& 9259542123273814144 : Nat)) (Ex.andK (m := ((w8 x ||| w8 (x.drop 8)) ||| (w8 (x.drop 16) ||| w8 (x.drop 24)))) (s := 9259542123273814144) rfl rfl (Nat.or_lt_two_pow (Nat.or_lt_two_pow (w8_lt x) (w8_lt (x.drop 8))) (Nat.or_lt_two_pow (w8_lt (x.drop 16)) (w8_lt (x.drop 24)))) (by decide)) (congrArg (Value.int .u64) (and64 (Nat.or_lt_two_pow (Nat.or_lt_two_pow (w8_lt x) (w8_lt (x.drop 8))) (Nat.or_lt_two_pow (w8_lt (x.drop 16)) (w8_lt (x.drop 24)))))) (Wn.some rfl rfl rfl) rfl rfl ?_))))))))
                refine NA (ON 19 (by kernel_rfl) rfl ?_)
                refine WR.split (Ex.eql rfl rfl) (Wn.some rfl rfl rfl) rfl rfl (fun h9_19 => ?_) (fun h9_19 => ?_)
                · have h1 := w8_small (l := x) (x := w8 (x.drop 8) ||| (w8 (x.drop 16) ||| w8 (x.drop 24))) (by rw [← Nat.or_assoc]; omega)
                  have h2 := w8_small (l := x.drop 8) (x := w8 x ||| (w8 (x.drop 16) ||| w8 (x.drop 24))) (by rw [← Nat.or_assoc, Nat.or_comm (w8 (x.drop 8))]; omega)
                  have h3 := w8_small (l := x.drop 16) (x := w8 (x.drop 24) ||| (w8 x ||| w8 (x.drop 8))) (by rw [← Nat.or_assoc, Nat.or_comm (w8 (x.drop 16) ||| w8 (x.drop 24))]; omega)
                  have h4 := w8_small (l := x.drop 24) (x := w8 (x.drop 16) ||| (w8 x ||| w8 (x.drop 8))) (by rw [← Nat.or_assoc, Nat.or_comm (w8 (x.drop 24)), Nat.or_comm (w8 (x.drop 16) ||| w8 (x.drop 24))]; omega)
                  have hv32 := vld_32 (by omega) h1 h2 h3 h4
                  refine NA (ON 20 (by kernel_rfl) rfl (PT rfl rfl rfl (NA (WA.done (by kernel_rfl) (TN (CT rfl (SK (TN (BL (RG (MV rfl rfl (WR.stepE (v' := S (x.drop 32)) (Ex.sliceStr (i := 32) (j := x.length) Tryz.underlying9 rfl (.inl ⟨_, rfl, rfl⟩) (.inr ⟨rfl, rfl⟩) (by omega) (by omega)) (by rw [List.take_length]) (Wn.none rfl) rfl rfl ?_))))))))))))
                  refine AS rfl rfl (NL (IB ?_))
                  refine WQ.again1 (x.drop 32) ⟨rfl, trivial⟩ ?_ ?_
                  · exact ⟨by rw [List.length_drop]; omega, hvx.trans hv32, M, H, hp⟩
                  · rw [List.length_drop]; omega
                · refine NA (ON 20 (by kernel_rfl) rfl (PT rfl rfl rfl (NA (WA.done (by kernel_rfl) (TN (CF rfl (WC.exit (WQ.thenExit (WQ.thenExit (WQ.exitHere (TN (WC.exit (WQ.thenExit (WQ.exitHere ?_))))))))))))))
                  refine WQ.again1 (x) ⟨rfl, trivial⟩ ?_ ?_
                  · exact ⟨by omega, hvx, M, H.drop (List.nil_sublist _), hp⟩
                  · omega
              · refine NA (ON 3 (by kernel_rfl) rfl (MV rfl rfl (NA (WA.takeN (i := 4) rfl (by kernel_rfl) (by kernel_rfl) (by kernel_rfl) (wanted_g (b := false) rfl rfl rfl) rfl rfl (fun _ _ => rfl) (WA.takeN (i := 6) rfl (by kernel_rfl) (by kernel_rfl) (by kernel_rfl) (wanted_g (b := false) rfl rfl rfl) rfl rfl (fun _ _ => rfl) (WA.takeN (i := 7) rfl (by kernel_rfl) (by kernel_rfl) (by kernel_rfl) (wanted_g (b := false) rfl rfl rfl) rfl rfl (fun _ _ => rfl) (WA.takeN (i := 10) rfl (by kernel_rfl) (by kernel_rfl) (by kernel_rfl) (wanted_g (b := false) rfl rfl rfl) rfl rfl (fun _ _ => rfl) (WA.takeN (i := 11) rfl (by kernel_rfl) (by kernel_rfl) (by kernel_rfl) (wanted_g (b := false) rfl rfl rfl) rfl rfl (fun _ _ => rfl) (WA.takeN (i := 13) rfl (by kernel_rfl) (by kernel_rfl) (by kernel_rfl) (wanted_g (b := false) rfl rfl rfl) rfl rfl (fun _ _ => rfl) (WA.takeN (i := 14) rfl (by kernel_rfl) (by kernel_rfl) (by kernel_rfl) (wanted_g (b := false) rfl rfl rfl) rfl rfl (fun _ _ => rfl) ?_))))))))))
                refine ON 5 (by kernel_rfl) rfl (GF rfl rfl rfl (NA (ON 8 (by kernel_rfl) rfl (GF rfl rfl rfl (NA (WA.takeN (i := 9) rfl (by kernel_rfl) (by kernel_rfl) (by kernel_rfl) (wanted_g (b := false) rfl rfl rfl) rfl rfl (fun _ _ => rfl) (ON 12 (by kernel_rfl) rfl (GF rfl rfl rfl (NA (ON 15 (by kernel_rfl) rfl (GF rfl rfl rfl (NA (ON 16 (by kernel_rfl) rfl (GF rfl rfl rfl (NA (ON 17 (by kernel_rfl) rfl (GF rfl rfl rfl (NA (ON 18 (by kernel_rfl) rfl (GF rfl rfl rfl (NA (ON 19 (by kernel_rfl) rfl (GF rfl rfl rfl (NA (ON 20 (by kernel_rfl) rfl (PF rfl rfl rfl (NA (WA.done (by kernel_rfl) (TN (CF rfl (WC.exit (WQ.thenExit (WQ.thenExit (WQ.exitHere (TN (WC.exit (WQ.thenExit (WQ.exitHere ?_))))))))))))))))))))))))))))))))))))))
                refine WQ.again1 (x) ⟨rfl, trivial⟩ ?_ ?_
                · exact ⟨by omega, hvx, M, H.drop (List.nil_sublist _), hp⟩
                · omega
            · refine NA (ON 12 (by kernel_rfl) rfl (PT rfl rfl rfl (NA (WA.done (by kernel_rfl) (TN (CF rfl (SK (TN (WC.exit (WQ.thenExit (WQ.exitHere ?_)))))))))))
              refine WQ.again1 (u2) ⟨rfl, trivial⟩ ?_ ?_
              · exact ⟨by rw [hu2, hu, List.length_drop, List.length_drop]; omega, (by rw [hv, hv1, hv8, ← hu2]), M, H.drop (List.nil_sublist _), hp⟩
              · rw [hu2, hu, List.length_drop, List.length_drop]; omega
          · refine NA (ON 3 (by kernel_rfl) rfl (MV rfl rfl (NA (WA.takeN (i := 4) rfl (by kernel_rfl) (by kernel_rfl) (by kernel_rfl) (wanted_g (b := false) rfl rfl rfl) rfl rfl (fun _ _ => rfl) (WA.takeN (i := 6) rfl (by kernel_rfl) (by kernel_rfl) (by kernel_rfl) (wanted_g (b := false) rfl rfl rfl) rfl rfl (fun _ _ => rfl) (WA.takeN (i := 7) rfl (by kernel_rfl) (by kernel_rfl) (by kernel_rfl) (wanted_g (b := false) rfl rfl rfl) rfl rfl (fun _ _ => rfl) (ON 5 (by kernel_rfl) rfl (GF rfl rfl rfl (NA (ON 8 (by kernel_rfl) rfl (GF rfl rfl rfl (NA (ON 9 (by kernel_rfl) rfl (GF rfl rfl rfl (NA (ON 10 (by kernel_rfl) rfl (GF rfl rfl rfl (NA (ON 11 (by kernel_rfl) rfl (GF rfl rfl rfl (NA (ON 12 (by kernel_rfl) rfl (PF rfl rfl rfl (NA (WA.done (by kernel_rfl) (TN (CF rfl (SK (TN (WC.exit (WQ.thenExit (WQ.exitHere ?_))))))))))))))))))))))))))))))))
            refine WQ.again1 (u2) ⟨rfl, trivial⟩ ?_ ?_
            · exact ⟨by rw [hu2, hu, List.length_drop, List.length_drop]; omega, (by rw [hv, hv1, hv8, ← hu2]), M, H.drop (List.nil_sublist _), hp⟩
            · rw [hu2, hu, List.length_drop, List.length_drop]; omega
        · refine PT rfl rfl rfl (NL (TN (CF rfl (SK (TN (WC.exit (WQ.thenExit (WQ.exitHere ?_))))))))
          refine WQ.again1 (u) ⟨rfl, trivial⟩ ?_ ?_
          · exact ⟨by rw [hu, List.length_drop]; omega, (by rw [hv, hv1]), M, H.drop (List.nil_sublist _), hp⟩
          · rw [hu, List.length_drop]; omega
      · refine MV rfl rfl (GF rfl rfl rfl (GF rfl rfl rfl (GF rfl rfl rfl (GF rfl rfl rfl (PF rfl rfl rfl (NL (TN (CF rfl (SK (TN (WC.exit (WQ.thenExit (WQ.exitHere ?_)))))))))))))
        refine WQ.again1 (u) ⟨rfl, trivial⟩ ?_ ?_
        · exact ⟨by rw [hu, List.length_drop]; omega, (by rw [hv, hv1]), M, H.drop (List.nil_sublist _), hp⟩
        · rw [hu, List.length_drop]; omega
    · obtain ⟨sz, ai, lo, hi, hF, hsz, hai, hai16, hlo, hhi, hlo2, hhi2, hszs, hc1, hc2, hc3, hc4⟩ := first_facts c.toNat (by omega) (by omega)
      refine NL (TN (CF rfl (SK (TN (SQ (RG (MV rfl rfl (WR.stepE (v' := ptr 0 c.toNat) (Ex.idxArr Tryz.underlying98 Tryz.sizeOf5 rfl rfl (by omega)) (by rw [Nat.zero_add, Nat.mul_one]) (Wn.none rfl) rfl rfl ?_))))))))
      refine ST (Ex.loadCell rfl ((hp _ H.ag).1 c.toNat (by omega)) Tryz.isAgg5) rfl ?_
      refine AS rfl rfl (NL (TN (SQ (RG (MV rfl rfl (WR.stepE (v' := .int .u8 ((sz : Nat) : Int)) (Ex.andK (m := (Lib.firstT c.toNat)) (s := 7) rfl rfl (by show _ < 256; omega) (by decide)) (congrArg (Value.int .u8) (by rw [hsz]; exact u8_in (by omega))) (Wn.none rfl) rfl rfl ?_))))))
      first | refine WR.step (Ex.convB Tryz.underlying5 Tryz.underlying3 rfl) (Wn.none rfl) rfl rfl ?_ | refine WR.step (Ex.convI Tryz.underlying5 Tryz.underlying3 rfl (by omega)) (Wn.none rfl) rfl rfl ?_
      refine AS rfl rfl (NL (TN (SQ (RG (MV rfl rfl (WR.stepE (v' := .int .u8 ((ai : Nat) : Int)) (Ex.shrN (m := (Lib.firstT c.toNat)) (s := 4) rfl rfl (by first | (show _ ≤ 64; omega) | (show _ ≤ 8; omega) | decide)) (congrArg (Value.int .u8) (by rw [hai])) (Wn.none rfl) rfl rfl ?_))))))
      refine WR.stepE (v' := ptr 1 (2 * ai)) (Ex.idxArr Tryz.underlying101 Tryz.sizeOf100 rfl rfl (by omega)) (by rw [Nat.zero_add, Nat.mul_comm]) (Wn.none rfl) rfl rfl ?_
      refine ST (Ex.loadAggW (cs := [.int .u8 ((lo : Nat) : Int), .int .u8 ((hi : Nat) : Int)]) rfl (tab_acc (hp _ H.ag) hai16 hlo hhi) Tryz.isAgg100 Tryz.sizeOf100 rfl) rfl (WR.alloc [_, _] H Tryz.zeroValue100 rfl (Wn.none rfl) rfl ?_)
      intro b6 w H
      refine WR.store [_, _] H rfl rfl rfl (by repeat first | exact .head | apply Upd.tail) Tryz.sizeOf100 rfl (by rfl) (by rfl) (Wn.none rfl) ?_
      intro w H
      refine NL (TN (SQ (RG (MV rfl rfl (NL (TN (BL (SQ (RG ?_)))))))))
      refine WR.split (Ex.eql rfl rfl) (Wn.none rfl) rfl rfl (fun h16_0 => ?_) (fun h16_0 => ?_)
      · obtain ⟨hq1, hq2, hq3, hq4⟩ := hc2 (by omega)
        have hm := multi2 (t := t) (by rw [hcn]; exact ⟨hq1, hq2⟩)
        subst hq3 hq4
        refine AS rfl rfl (NL (TN (CT rfl (SQ (SQ (WC.draw (m := 17) rfl rfl H ?_))))))
        intro w H
        refine ON 0 (by kernel_rfl) rfl (MV rfl rfl (NA (ON 1 (by kernel_rfl) rfl (ST (Ex.lenStr Tryz.underlying9 rfl) rfl (NA (ON 2 (by kernel_rfl) rfl ?_))))))
        refine WR.split (Ex.lss rfl rfl) (Wn.none rfl) rfl rfl (fun h17_2 => ?_) (fun h17_2 => ?_)
        · have hbad := vld_bad hne (hm.2 (by omega))
          refine NA (ON 3 (by kernel_rfl) rfl (MV rfl rfl (NA (WA.takeN (i := 4) rfl (by kernel_rfl) (by kernel_rfl) (by kernel_rfl) (wanted_g (b := true) rfl rfl rfl) rfl rfl (fun _ _ => rfl) (WA.takeN (i := 5) rfl (by kernel_rfl) (by kernel_rfl) (by kernel_rfl) (wanted_g (b := true) rfl rfl rfl) rfl rfl (fun _ _ => rfl) (ON 6 (by kernel_rfl) rfl (GT rfl rfl rfl (NA (ON 7 (by kernel_rfl) rfl (GT rfl rfl rfl (NA (ON 8 (by kernel_rfl) rfl (GT rfl rfl rfl (NA (ON 9 (by kernel_rfl) rfl (PT rfl rfl rfl (NA (ON 10 (by kernel_rfl) rfl (MV rfl rfl (NA (WA.takeN (i := 11) rfl (by kernel_rfl) (by kernel_rfl) (by kernel_rfl) (wanted_g (b := true) rfl rfl rfl) rfl rfl (fun _ _ => rfl) (WA.takeN (i := 12) rfl (by kernel_rfl) (by kernel_rfl) (by kernel_rfl) (wanted_g (b := true) rfl rfl rfl) rfl rfl (fun _ _ => rfl) (ON 13 (by kernel_rfl) rfl (GT rfl rfl rfl (NA (ON 14 (by kernel_rfl) rfl (GT rfl rfl rfl ?_)))))))))))))))))))))))))))
          refine NA (ON 15 (by kernel_rfl) rfl (GT rfl rfl rfl (NA (ON 16 (by kernel_rfl) rfl (PT rfl rfl rfl (NA (WA.done (by kernel_rfl) (TN (CT rfl (SQ (RG (AS rfl rfl (NL (TN (RT ?_)))))))))))))))
          refine WQ.ret1 rfl rfl H.ext ?_
          exact by rw [hv, hbad]
        · obtain ⟨x1, hx1⟩ : ∃ x, t[1]? = some x := ⟨_, List.getElem?_eq_getElem (by omega)⟩
          have hnx1 := nat_of hx1
          have hxl1 := x1.toNat_lt
          refine NA (ON 3 (by kernel_rfl) rfl (MV rfl rfl (NA (WA.take (i := 4) rfl (by kernel_rfl) (by kernel_rfl) (by kernel_rfl) (fun _ => Ex.move rfl) (Wn.some rfl rfl rfl) rfl rfl (fun _ _ => rfl) (WA.take (i := 5) rfl (by kernel_rfl) (by kernel_rfl) (by kernel_rfl) (fun _ => Ex.idxStr Tryz.underlying9 rfl rfl (hx1)) (Wn.some rfl rfl rfl) rfl rfl (fun _ _ => rfl) (ON 6 (by kernel_rfl) rfl (SG (Ex.fieldAddr Tryz.underlying100 rfl Tryz.sizeOf5 (by decide) rfl) rfl rfl rfl (NA (ON 7 (by kernel_rfl) rfl ?_)))))))))
          first | refine WR.step (Ex.loadM H rfl (by assumption) Tryz.isAgg5) (Wn.some rfl rfl rfl) rfl rfl ?_ | refine WR.step (Ex.load1 H rfl (by repeat (first | exact List.Mem.head _ | apply List.Mem.tail)) Tryz.isAgg5 (by rfl)) (Wn.some rfl rfl rfl) rfl rfl ?_
          refine NA (ON 8 (by kernel_rfl) rfl ?_)
          refine WR.split (Ex.lss rfl rfl) (Wn.some rfl rfl rfl) rfl rfl (fun h17_8 => ?_) (fun h17_8 => ?_)
          · have hbad := vld_bad hne (hm.2 (by omega))
            refine NA (ON 9 (by kernel_rfl) rfl (PF rfl rfl rfl (NA (ON 10 (by kernel_rfl) rfl (MV rfl rfl (NA (WA.takeN (i := 11) rfl (by kernel_rfl) (by kernel_rfl) (by kernel_rfl) (wanted_g (b := true) rfl rfl rfl) rfl rfl (fun _ _ => rfl) (WA.takeN (i := 12) rfl (by kernel_rfl) (by kernel_rfl) (by kernel_rfl) (wanted_g (b := true) rfl rfl rfl) rfl rfl (fun _ _ => rfl) (ON 13 (by kernel_rfl) rfl (GT rfl rfl rfl (NA (ON 14 (by kernel_rfl) rfl (GT rfl rfl rfl (NA (ON 15 (by kernel_rfl) rfl (GT rfl rfl rfl (NA (ON 16 (by kernel_rfl) rfl (PT rfl rfl rfl (NA (WA.done (by kernel_rfl) (TN (CT rfl (SQ (RG (AS rfl rfl (NL (TN (RT ?_)))))))))))))))))))))))))))))
            refine WQ.ret1 rfl rfl H.ext ?_
            exact by rw [hv, hbad]
          · refine NA (ON 9 (by kernel_rfl) rfl (PF rfl rfl rfl (NA (ON 10 (by kernel_rfl) rfl (MV rfl rfl (NA (WA.take (i := 11) rfl (by kernel_rfl) (by kernel_rfl) (by kernel_rfl) (fun _ => Ex.fieldAddr Tryz.underlying100 rfl Tryz.sizeOf5 (by decide) rfl) (Wn.some rfl rfl rfl) rfl rfl (fun _ _ => rfl) (WA.take (i := 13) rfl (by kernel_rfl) (by kernel_rfl) (by kernel_rfl) (fun _ => Ex.move rfl) (Wn.some rfl rfl rfl) rfl rfl (fun _ _ => rfl) (WA.take (i := 14) rfl (by kernel_rfl) (by kernel_rfl) (by kernel_rfl) (fun _ => Ex.idxStr Tryz.underlying9 rfl rfl (hx1)) (Wn.some rfl rfl rfl) rfl rfl (fun _ _ => rfl) (ON 12 (by kernel_rfl) rfl ?_))))))))))
            first | refine WR.step (Ex.loadM H rfl (by assumption) Tryz.isAgg5) (Wn.some rfl rfl rfl) rfl rfl ?_ | refine WR.step (Ex.load1 H rfl (by repeat (first | exact List.Mem.head _ | apply List.Mem.tail)) Tryz.isAgg5 (by rfl)) (Wn.some rfl rfl rfl) rfl rfl ?_
            refine NA (ON 15 (by kernel_rfl) rfl ?_)
            refine WR.split (Ex.lss rfl rfl) (Wn.some rfl rfl rfl) rfl rfl (fun h17_15 => ?_) (fun h17_15 => ?_)
            · have hbad := vld_bad hne (hm.2 (by omega))
              refine NA (ON 16 (by kernel_rfl) rfl (PF rfl rfl rfl (NA (WA.done (by kernel_rfl) (TN (CT rfl (SQ (RG (AS rfl rfl (NL (TN (RT ?_))))))))))))
              refine WQ.ret1 rfl rfl H.ext ?_
              exact by rw [hv, hbad]
            · refine NA (ON 16 (by kernel_rfl) rfl (PF rfl rfl rfl (NA (WA.done (by kernel_rfl) (TN (CF rfl (SK (TN (RG (MV rfl rfl (WR.stepE (v' := S (t.drop 2)) (Ex.sliceStr (i := 2) (j := t.length) Tryz.underlying9 rfl (.inl ⟨_, rfl, rfl⟩) (.inr ⟨rfl, rfl⟩) (by omega) (by omega)) (by rw [List.take_length]) (Wn.none rfl) rfl rfl ?_)))))))))))
              refine AS rfl rfl (NL (IB (IB ?_)))
              refine WQ.again1 (t.drop 2) ⟨rfl, trivial⟩ ?_ ?_
              · exact ⟨by rw [List.length_drop]; omega, by rw [hv]; exact vld_good hne (hm.1 (by omega)), M, H.drop (List.nil_sublist _), hp⟩
              · rw [List.length_drop]; omega
      · refine AS rfl rfl (NL (TN (CF rfl (SQ (RG ?_)))))
        refine WR.split (Ex.eql rfl rfl) (Wn.none rfl) rfl rfl (fun h20_0 => ?_) (fun h20_0 => ?_)
        · obtain ⟨hq1, hq2, hq3, hq4⟩ := hc3 (by omega)
          have hm := multi3 (t := t) (lo := lo) (hi := hi) (by rw [hcn]; exact ⟨hq1, hq2⟩) (by rw [hcn]; exact hq3) (by rw [hcn]; exact hq4)
          refine AS rfl rfl (NL (TN (CT rfl (SQ (SQ (WC.draw (m := 27) rfl rfl H ?_))))))
          intro w H
          refine ON 0 (by kernel_rfl) rfl (MV rfl rfl (NA (ON 1 (by kernel_rfl) rfl (ST (Ex.lenStr Tryz.underlying9 rfl) rfl (NA (ON 2 (by kernel_rfl) rfl ?_))))))
          refine WR.split (Ex.lss rfl rfl) (Wn.none rfl) rfl rfl (fun h21_2 => ?_) (fun h21_2 => ?_)
          · have hbad := vld_bad hne (hm.2 (by omega))
            refine NA (ON 3 (by kernel_rfl) rfl (MV rfl rfl (NA (WA.takeN (i := 4) rfl (by kernel_rfl) (by kernel_rfl) (by kernel_rfl) (wanted_g (b := true) rfl rfl rfl) rfl rfl (fun _ _ => rfl) (WA.takeN (i := 5) rfl (by kernel_rfl) (by kernel_rfl) (by kernel_rfl) (wanted_g (b := true) rfl rfl rfl) rfl rfl (fun _ _ => rfl) (ON 6 (by kernel_rfl) rfl (GT rfl rfl rfl (NA (ON 7 (by kernel_rfl) rfl (GT rfl rfl rfl (NA (ON 8 (by kernel_rfl) rfl (GT rfl rfl rfl (NA (ON 9 (by kernel_rfl) rfl (PT rfl rfl rfl (NA (ON 10 (by kernel_rfl) rfl (MV rfl rfl (NA (WA.takeN (i := 11) rfl (by kernel_rfl) (by kernel_rfl) (by kernel_rfl) (wanted_g (b := true) rfl rfl rfl) rfl rfl (fun _ _ => rfl) (WA.takeN (i := 12) rfl (by kernel_rfl) (by kernel_rfl) (by kernel_rfl) (wanted_g (b := true) rfl rfl rfl) rfl rfl (fun _ _ => rfl) (ON 13 (by kernel_rfl) rfl (GT rfl rfl rfl (NA (ON 14 (by kernel_rfl) rfl (GT rfl rfl rfl ?_)))))))))))))))))))))))))))
            refine NA (ON 15 (by kernel_rfl) rfl (GT rfl rfl rfl (NA (ON 16 (by kernel_rfl) rfl (PT rfl rfl rfl (NA (ON 17 (by kernel_rfl) rfl (MV rfl rfl (NA (ON 18 (by kernel_rfl) rfl (GT rfl rfl rfl (NA (ON 19 (by kernel_rfl) rfl (GT rfl rfl rfl (NA (ON 20 (by kernel_rfl) rfl (GT rfl rfl rfl (NA (ON 21 (by kernel_rfl) rfl (PT rfl rfl rfl (NA (ON 22 (by kernel_rfl) rfl (MV rfl rfl (NA (ON 23 (by kernel_rfl) rfl (GT rfl rfl rfl (NA (ON 24 (by kernel_rfl) rfl (GT rfl rfl rfl (NA (ON 25 (by kernel_rfl) rfl (GT rfl rfl rfl (NA (ON 26 (by kernel_rfl) rfl (PT rfl rfl rfl (NA (WA.done (by kernel_rfl) (TN (CT rfl (SQ (RG (AS rfl rfl (NL (TN (RT ?_)))))))))))))))))))))))))))))))))))))))))))))
            refine WQ.ret1 rfl rfl H.ext ?_
            exact by rw [hv, hbad]
          · obtain ⟨x1, hx1⟩ : ∃ x, t[1]? = some x := ⟨_, List.getElem?_eq_getElem (by omega)⟩
            have hnx1 := nat_of hx1
            have hxl1 := x1.toNat_lt
            obtain ⟨x2, hx2⟩ : ∃ x, t[2]? = some x := ⟨_, List.getElem?_eq_getElem (by omega)⟩
            have hnx2 := nat_of hx2
            have hxl2 := x2.toNat_lt
            refine NA (ON 3 (by kernel_rfl) rfl (MV rfl rfl (NA (WA.take (i := 4) rfl (by kernel_rfl) (by kernel_rfl) (by kernel_rfl) (fun _ => Ex.move rfl) (Wn.some rfl rfl rfl) rfl rfl (fun _ _ => rfl) (WA.take (i := 5) rfl (by kernel_rfl) (by kernel_rfl) (by kernel_rfl) (fun _ => Ex.idxStr Tryz.underlying9 rfl rfl (hx1)) (Wn.some rfl rfl rfl) rfl rfl (fun _ _ => rfl) (ON 6 (by kernel_rfl) rfl (SG (Ex.fieldAddr Tryz.underlying100 rfl Tryz.sizeOf5 (by decide) rfl) rfl rfl rfl (NA (ON 7 (by kernel_rfl) rfl ?_)))))))))
            first | refine WR.step (Ex.loadM H rfl (by assumption) Tryz.isAgg5) (Wn.some rfl rfl rfl) rfl rfl ?_ | refine WR.step (Ex.load1 H rfl (by repeat (first | exact List.Mem.head _ | apply List.Mem.tail)) Tryz.isAgg5 (by rfl)) (Wn.some rfl rfl rfl) rfl rfl ?_
            refine NA (ON 8 (by kernel_rfl) rfl ?_)
            refine WR.split (Ex.lss rfl rfl) (Wn.some rfl rfl rfl) rfl rfl (fun h21_8 => ?_) (fun h21_8 => ?_)
            · have hbad := vld_bad hne (hm.2 (by omega))
              refine NA (ON 9 (by kernel_rfl) rfl (PF rfl rfl rfl (NA (ON 10 (by kernel_rfl) rfl (MV rfl rfl (NA (WA.takeN (i := 11) rfl (by kernel_rfl) (by kernel_rfl) (by kernel_rfl) (wanted_g (b := true) rfl rfl rfl) rfl rfl (fun _ _ => rfl) (WA.takeN (i := 12) rfl (by kernel_rfl) (by kernel_rfl) (by kernel_rfl) (wanted_g (b := true) rfl rfl rfl) rfl rfl (fun _ _ => rfl) (ON 13 (by kernel_rfl) rfl (GT rfl rfl rfl (NA (ON 14 (by kernel_rfl) rfl (GT rfl rfl rfl (NA (ON 15 (by kernel_rfl) rfl (GT rfl rfl rfl (NA (ON 16 (by kernel_rfl) rfl (PT rfl rfl rfl (NA (ON 17 (by kernel_rfl) rfl (MV rfl rfl (NA (ON 18 (by kernel_rfl) rfl (GT rfl rfl rfl (NA (ON 19 (by kernel_rfl) rfl (GT rfl rfl rfl (NA (ON 20 (by kernel_rfl) rfl (GT rfl rfl rfl (NA (ON 21 (by kernel_rfl) rfl (PT rfl rfl rfl (NA (ON 22 (by kernel_rfl) rfl (MV rfl rfl (NA (ON 23 (by kernel_rfl) rfl (GT rfl rfl rfl ?_))))))))))))))))))))))))))))))))))))))))
              refine NA (ON 24 (by kernel_rfl) rfl (GT rfl rfl rfl (NA (ON 25 (by kernel_rfl) rfl (GT rfl rfl rfl (NA (ON 26 (by kernel_rfl) rfl (PT rfl rfl rfl (NA (WA.done (by kernel_rfl) (TN (CT rfl (SQ (RG (AS rfl rfl (NL (TN (RT ?_))))))))))))))))))
              refine WQ.ret1 rfl rfl H.ext ?_
              exact by rw [hv, hbad]
            · refine NA (ON 9 (by kernel_rfl) rfl (PF rfl rfl rfl (NA (ON 10 (by kernel_rfl) rfl (MV rfl rfl (NA (WA.take (i := 11) rfl (by kernel_rfl) (by kernel_rfl) (by kernel_rfl) (fun _ => Ex.fieldAddr Tryz.underlying100 rfl Tryz.sizeOf5 (by decide) rfl) (Wn.some rfl rfl rfl) rfl rfl (fun _ _ => rfl) (WA.take (i := 13) rfl (by kernel_rfl) (by kernel_rfl) (by kernel_rfl) (fun _ => Ex.move rfl) (Wn.some rfl rfl rfl) rfl rfl (fun _ _ => rfl) (WA.take (i := 14) rfl (by kernel_rfl) (by kernel_rfl) (by kernel_rfl) (fun _ => Ex.idxStr Tryz.underlying9 rfl rfl (hx1)) (Wn.some rfl rfl rfl) rfl rfl (fun _ _ => rfl) (ON 12 (by kernel_rfl) rfl ?_))))))))))
              first | refine WR.step (Ex.loadM H rfl (by assumption) Tryz.isAgg5) (Wn.some rfl rfl rfl) rfl rfl ?_ | refine WR.step (Ex.load1 H rfl (by repeat (first | exact List.Mem.head _ | apply List.Mem.tail)) Tryz.isAgg5 (by rfl)) (Wn.some rfl rfl rfl) rfl rfl ?_
              refine NA (ON 15 (by kernel_rfl) rfl ?_)
              refine WR.split (Ex.lss rfl rfl) (Wn.some rfl rfl rfl) rfl rfl (fun h21_15 => ?_) (fun h21_15 => ?_)
              · have hbad := vld_bad hne (hm.2 (by omega))
                refine NA (ON 16 (by kernel_rfl) rfl (PF rfl rfl rfl (NA (ON 17 (by kernel_rfl) rfl (MV rfl rfl (NA (ON 18 (by kernel_rfl) rfl (GT rfl rfl rfl (NA (ON 19 (by kernel_rfl) rfl (GT rfl rfl rfl (NA (ON 20 (by kernel_rfl) rfl (GT rfl rfl rfl (NA (ON 21 (by kernel_rfl) rfl (PT rfl rfl rfl (NA (ON 22 (by kernel_rfl) rfl (MV rfl rfl (NA (ON 23 (by kernel_rfl) rfl (GT rfl rfl rfl (NA (ON 24 (by kernel_rfl) rfl (GT rfl rfl rfl (NA (ON 25 (by kernel_rfl) rfl (GT rfl rfl rfl (NA (ON 26 (by kernel_rfl) rfl (PT rfl rfl rfl (NA (WA.done (by kernel_rfl) (TN (CT rfl (SQ (RG (AS rfl rfl (NL (TN (RT ?_))))))))))))))))))))))))))))))))))))))))))
                refine WQ.ret1 rfl rfl H.ext ?_
                exact by rw [hv, hbad]
              · refine NA (ON 16 (by kernel_rfl) rfl (PF rfl rfl rfl (NA (ON 17 (by kernel_rfl) rfl (MV rfl rfl (NA (ON 18 (by kernel_rfl) rfl (SG (Ex.move rfl) rfl rfl rfl (NA (ON 19 (by kernel_rfl) rfl (SG (Ex.idxStr Tryz.underlying9 rfl rfl (hx2)) rfl rfl rfl (NA (ON 20 (by kernel_rfl) rfl ?_)))))))))))))
                refine WR.split (Ex.lss rfl rfl) (Wn.some rfl rfl rfl) rfl rfl (fun h21_20 => ?_) (fun h21_20 => ?_)
                · have hbad := vld_bad hne (hm.2 (by omega))
                  refine NA (ON 21 (by kernel_rfl) rfl (PF rfl rfl rfl (NA (ON 22 (by kernel_rfl) rfl (MV rfl rfl (NA (ON 23 (by kernel_rfl) rfl (GT rfl rfl rfl (NA (ON 24 (by kernel_rfl) rfl (GT rfl rfl rfl (NA (ON 25 (by kernel_rfl) rfl (GT rfl rfl rfl (NA (ON 26 (by kernel_rfl) rfl (PT rfl rfl rfl (NA (WA.done (by kernel_rfl) (TN (CT rfl (SQ (RG (AS rfl rfl (NL (TN (RT ?_)))))))))))))))))))))))))))
                  refine WQ.ret1 rfl rfl H.ext ?_
                  exact by rw [hv, hbad]
                · refine NA (ON 21 (by kernel_rfl) rfl (PF rfl rfl rfl (NA (ON 22 (by kernel_rfl) rfl (MV rfl rfl (NA (ON 23 (by kernel_rfl) rfl (SG (Ex.move rfl) rfl rfl rfl (NA (ON 24 (by kernel_rfl) rfl (SG (Ex.idxStr Tryz.underlying9 rfl rfl (hx2)) rfl rfl rfl (NA (ON 25 (by kernel_rfl) rfl ?_)))))))))))))
                  refine WR.split (Ex.lss rfl rfl) (Wn.some rfl rfl rfl) rfl rfl (fun h21_25 => ?_) (fun h21_25 => ?_)
                  · have hbad := vld_bad hne (hm.2 (by omega))
                    refine NA (ON 26 (by kernel_rfl) rfl (PF rfl rfl rfl (NA (WA.done (by kernel_rfl) (TN (CT rfl (SQ (RG (AS rfl rfl (NL (TN (RT ?_))))))))))))
                    refine WQ.ret1 rfl rfl H.ext ?_
                    exact by rw [hv, hbad]
                  · refine NA (ON 26 (by kernel_rfl) rfl (PF rfl rfl rfl (NA (WA.done (by kernel_rfl) (TN (CF rfl (SK (TN (RG (MV rfl rfl (WR.stepE (v' := S (t.drop 3)) (Ex.sliceStr (i := 3) (j := t.length) Tryz.underlying9 rfl (.inl ⟨_, rfl, rfl⟩) (.inr ⟨rfl, rfl⟩) (by omega) (by omega)) (by rw [List.take_length]) (Wn.none rfl) rfl rfl ?_)))))))))))
                    refine AS rfl rfl (NL (IB (IB ?_)))
                    refine WQ.again1 (t.drop 3) ⟨rfl, trivial⟩ ?_ ?_
                    · exact ⟨by rw [List.length_drop]; omega, by rw [hv]; exact vld_good hne (hm.1 (by omega)), M, H.drop (List.nil_sublist _), hp⟩
                    · rw [List.length_drop]; omega
        · refine AS rfl rfl (NL (TN (CF rfl (SQ (RG ?_)))))
          refine WR.split (Ex.eql rfl rfl) (Wn.none rfl) rfl rfl (fun h24_0 => ?_) (fun h24_0 => ?_)
          · obtain ⟨hq1, hq2, hq3, hq4⟩ := hc4 (by omega)
            have hm := multi4 (t := t) (lo := lo) (hi := hi) (by rw [hcn]; exact ⟨hq1, hq2⟩) (by rw [hcn]; exact hq3) (by rw [hcn]; exact hq4)
            refine AS rfl rfl (NL (TN (CT rfl (SQ (SQ (WC.draw (m := 37) rfl rfl H ?_))))))
            intro w H
            refine ON 0 (by kernel_rfl) rfl (MV rfl rfl (NA (ON 1 (by kernel_rfl) rfl (ST (Ex.lenStr Tryz.underlying9 rfl) rfl (NA (ON 2 (by kernel_rfl) rfl ?_))))))
            refine WR.split (Ex.lss rfl rfl) (Wn.none rfl) rfl rfl (fun h25_2 => ?_) (fun h25_2 => ?_)
            · have hbad := vld_bad hne (hm.2 (by omega))
              refine NA (ON 3 (by kernel_rfl) rfl (MV rfl rfl (NA (WA.takeN (i := 4) rfl (by kernel_rfl) (by kernel_rfl) (by kernel_rfl) (wanted_g (b := true) rfl rfl rfl) rfl rfl (fun _ _ => rfl) (WA.takeN (i := 5) rfl (by kernel_rfl) (by kernel_rfl) (by kernel_rfl) (wanted_g (b := true) rfl rfl rfl) rfl rfl (fun _ _ => rfl) (ON 6 (by kernel_rfl) rfl (GT rfl rfl rfl (NA (ON 7 (by kernel_rfl) rfl (GT rfl rfl rfl (NA (ON 8 (by kernel_rfl) rfl (GT rfl rfl rfl (NA (ON 9 (by kernel_rfl) rfl (PT rfl rfl rfl (NA (ON 10 (by kernel_rfl) rfl (MV rfl rfl (NA (WA.takeN (i := 11) rfl (by kernel_rfl) (by kernel_rfl) (by kernel_rfl) (wanted_g (b := true) rfl rfl rfl) rfl rfl (fun _ _ => rfl) (WA.takeN (i := 12) rfl (by kernel_rfl) (by kernel_rfl) (by kernel_rfl) (wanted_g (b := true) rfl rfl rfl) rfl rfl (fun _ _ => rfl) (ON 13 (by kernel_rfl) rfl (GT rfl rfl rfl (NA (ON 14 (by kernel_rfl) rfl (GT rfl rfl rfl ?_)))))))))))))))))))))))))))
              refine NA (ON 15 (by kernel_rfl) rfl (GT rfl rfl rfl (NA (ON 16 (by kernel_rfl) rfl (PT rfl rfl rfl (NA (ON 17 (by kernel_rfl) rfl (MV rfl rfl (NA (ON 18 (by kernel_rfl) rfl (GT rfl rfl rfl (NA (ON 19 (by kernel_rfl) rfl (GT rfl rfl rfl (NA (ON 20 (by kernel_rfl) rfl (GT rfl rfl rfl (NA (ON 21 (by kernel_rfl) rfl (PT rfl rfl rfl (NA (ON 22 (by kernel_rfl) rfl (MV rfl rfl (NA (ON 23 (by kernel_rfl) rfl (GT rfl rfl rfl (NA (ON 24 (by kernel_rfl) rfl (GT rfl rfl rfl (NA (ON 25 (by kernel_rfl) rfl (GT rfl rfl rfl (NA (ON 26 (by kernel_rfl) rfl (PT rfl rfl rfl (NA (ON 27 (by kernel_rfl) rfl (MV rfl rfl (NA (ON 28 (by kernel_rfl) rfl (GT rfl rfl rfl (NA (ON 29 (by kernel_rfl) rfl (GT rfl rfl rfl (NA (ON 30 (by kernel_rfl) rfl (GT rfl rfl rfl (NA (ON 31 (by kernel_rfl) rfl (PT rfl rfl rfl (NA (ON 32 (by kernel_rfl) rfl (MV rfl rfl (NA (ON 33 (by kernel_rfl) rfl ?_)))))))))))))))))))))))))))))))))))))))))))))))))))))))
              refine GT rfl rfl rfl (NA (ON 34 (by kernel_rfl) rfl (GT rfl rfl rfl (NA (ON 35 (by kernel_rfl) rfl (GT rfl rfl rfl (NA (ON 36 (by kernel_rfl) rfl (PT rfl rfl rfl (NA (WA.done (by kernel_rfl) (TN (CT rfl (SQ (RG (AS rfl rfl (NL (TN (RT ?_)))))))))))))))))))
              refine WQ.ret1 rfl rfl H.ext ?_
              exact by rw [hv, hbad]
            · obtain ⟨x1, hx1⟩ : ∃ x, t[1]? = some x := ⟨_, List.getElem?_eq_getElem (by omega)⟩
              have hnx1 := nat_of hx1
              have hxl1 := x1.toNat_lt
              obtain ⟨x2, hx2⟩ : ∃ x, t[2]? = some x := ⟨_, List.getElem?_eq_getElem (by omega)⟩
              have hnx2 := nat_of hx2
              have hxl2 := x2.toNat_lt
              obtain ⟨x3, hx3⟩ : ∃ x, t[3]? = some x := ⟨_, List.getElem?_eq_getElem (by omega)⟩
              have hnx3 := nat_of hx3
              have hxl3 := x3.toNat_lt
              refine NA (ON 3 (by kernel_rfl) rfl (MV rfl rfl (NA (WA.take (i := 4) rfl (by kernel_rfl) (by kernel_rfl) (by kernel_rfl) (fun _ => Ex.move rfl) (Wn.some rfl rfl rfl) rfl rfl (fun _ _ => rfl) (WA.take (i := 5) rfl (by kernel_rfl) (by kernel_rfl) (by kernel_rfl) (fun _ => Ex.idxStr Tryz.underlying9 rfl rfl (hx1)) (Wn.some rfl rfl rfl) rfl rfl (fun _ _ => rfl) (ON 6 (by kernel_rfl) rfl (SG (Ex.fieldAddr Tryz.underlying100 rfl Tryz.sizeOf5 (by decide) rfl) rfl rfl rfl (NA (ON 7 (by kernel_rfl) rfl ?_)))))))))
              first | refine WR.step (Ex.loadM H rfl (by assumption) Tryz.isAgg5) (Wn.some rfl rfl rfl) rfl rfl ?_ | refine WR.step (Ex.load1 H rfl (by repeat (first | exact List.Mem.head _ | apply List.Mem.tail)) Tryz.isAgg5 (by rfl)) (Wn.some rfl rfl rfl) rfl rfl ?_
              refine NA (ON 8 (by kernel_rfl) rfl ?_)
              refine WR.split (Ex.lss rfl rfl) (Wn.some rfl rfl rfl) rfl rfl (fun h25_8 => ?_) (fun h25_8 => ?_)
              · have hbad := vld_bad hne (hm.2 (by omega))
                refine NA (ON 9 (by kernel_rfl) rfl (PF rfl rfl rfl (NA (ON 10 (by kernel_rfl) rfl (MV rfl rfl (NA (WA.takeN (i := 11) rfl (by kernel_rfl) (by kernel_rfl) (by kernel_rfl) (wanted_g (b := true) rfl rfl rfl) rfl rfl (fun _ _ => rfl) (WA.takeN (i := 12) rfl (by kernel_rfl) (by kernel_rfl) (by kernel_rfl) (wanted_g (b := true) rfl rfl rfl) rfl rfl (fun _ _ => rfl) (ON 13 (by kernel_rfl) rfl (GT rfl rfl rfl (NA (ON 14 (by kernel_rfl) rfl (GT rfl rfl rfl (NA (ON 15 (by kernel_rfl) rfl (GT rfl rfl rfl (NA (ON 16 (by kernel_rfl) rfl (PT rfl rfl rfl (NA (ON 17 (by kernel_rfl) rfl (MV rfl rfl (NA (ON 18 (by kernel_rfl) rfl (GT rfl rfl rfl (NA (ON 19 (by kernel_rfl) rfl (GT rfl rfl rfl (NA (ON 20 (by kernel_rfl) rfl (GT rfl rfl rfl (NA (ON 21 (by kernel_rfl) rfl (PT rfl rfl rfl (NA (ON 22 (by kernel_rfl) rfl (MV rfl rfl (NA (ON 23 (by kernel_rfl) rfl (GT rfl rfl rfl ?_))))))))))))))))))))))))))))))))))))))))
                refine NA (ON 24 (by kernel_rfl) rfl (GT rfl rfl rfl (NA (ON 25 (by kernel_rfl) rfl (GT rfl rfl rfl (NA (ON 26 (by kernel_rfl) rfl (PT rfl rfl rfl (NA (ON 27 (by kernel_rfl) rfl (MV rfl rfl (NA (ON 28 (by kernel_rfl) rfl (GT rfl rfl rfl (NA (ON 29 (by kernel_rfl) rfl (GT rfl rfl rfl (NA (ON 30 (by kernel_rfl) rfl (GT rfl rfl rfl (NA (ON 31 (by kernel_rfl) rfl (PT rfl rfl rfl (NA (ON 32 (by kernel_rfl) rfl (MV rfl rfl (NA (ON 33 (by kernel_rfl) rfl (GT rfl rfl rfl (NA (ON 34 (by kernel_rfl) rfl (GT rfl rfl rfl (NA (ON 35 (by kernel_rfl) rfl (GT rfl rfl rfl (NA (ON 36 (by kernel_rfl) rfl (PT rfl rfl rfl (NA (WA.done (by kernel_rfl) (TN (CT rfl (SQ (RG (AS rfl rfl (NL (TN (RT ?_))))))))))))))))))))))))))))))))))))))))))))))))
                refine WQ.ret1 rfl rfl H.ext ?_
                exact by rw [hv, hbad]
              · refine NA (ON 9 (by kernel_rfl) rfl (PF rfl rfl rfl (NA (ON 10 (by kernel_rfl) rfl (MV rfl rfl (NA (WA.take (i := 11) rfl (by kernel_rfl) (by kernel_rfl) (by kernel_rfl) (fun _ => Ex.fieldAddr Tryz.underlying100 rfl Tryz.sizeOf5 (by decide) rfl) (Wn.some rfl rfl rfl) rfl rfl (fun _ _ => rfl) (WA.take (i := 13) rfl (by kernel_rfl) (by kernel_rfl) (by kernel_rfl) (fun _ => Ex.move rfl) (Wn.some rfl rfl rfl) rfl rfl (fun _ _ => rfl) (WA.take (i := 14) rfl (by kernel_rfl) (by kernel_rfl) (by kernel_rfl) (fun _ => Ex.idxStr Tryz.underlying9 rfl rfl (hx1)) (Wn.some rfl rfl rfl) rfl rfl (fun _ _ => rfl) (ON 12 (by kernel_rfl) rfl ?_))))))))))
                first | refine WR.step (Ex.loadM H rfl (by assumption) Tryz.isAgg5) (Wn.some rfl rfl rfl) rfl rfl ?_ | refine WR.step (Ex.load1 H rfl (by repeat (first | exact List.Mem.head _ | apply List.Mem.tail)) Tryz.isAgg5 (by rfl)) (Wn.some rfl rfl rfl) rfl rfl ?_
                refine NA (ON 15 (by kernel_rfl) rfl ?_)
                refine WR.split (Ex.lss rfl rfl) (Wn.some rfl rfl rfl) rfl rfl (fun h25_15 => ?_) (fun h25_15 => ?_)
                · have hbad := vld_bad hne (hm.2 (by omega))
                  refine NA (ON 16 (by kernel_rfl) rfl (PF rfl rfl rfl (NA (ON 17 (by kernel_rfl) rfl (MV rfl rfl (NA (ON 18 (by kernel_rfl) rfl (GT rfl rfl rfl (NA (ON 19 (by kernel_rfl) rfl (GT rfl rfl rfl (NA (ON 20 (by kernel_rfl) rfl (GT rfl rfl rfl (NA (ON 21 (by kernel_rfl) rfl (PT rfl rfl rfl (NA (ON 22 (by kernel_rfl) rfl (MV rfl rfl (NA (ON 23 (by kernel_rfl) rfl (GT rfl rfl rfl (NA (ON 24 (by kernel_rfl) rfl (GT rfl rfl rfl (NA (ON 25 (by kernel_rfl) rfl (GT rfl rfl rfl (NA (ON 26 (by kernel_rfl) rfl (PT rfl rfl rfl (NA (ON 27 (by kernel_rfl) rfl (MV rfl rfl (NA (ON 28 (by kernel_rfl) rfl (GT rfl rfl rfl (NA (ON 29 (by kernel_rfl) rfl (GT rfl rfl rfl (NA (ON 30 (by kernel_rfl) rfl (GT rfl rfl rfl (NA (ON 31 (by kernel_rfl) rfl (PT rfl rfl rfl (NA (ON 32 (by kernel_rfl) rfl (MV rfl rfl (NA (ON 33 (by kernel_rfl) rfl (GT rfl rfl rfl (NA (ON 34 (by kernel_rfl) rfl ?_)))))))))))))))))))))))))))))))))))))))))))))))))))))))
                  refine GT rfl rfl rfl (NA (ON 35 (by kernel_rfl) rfl (GT rfl rfl rfl (NA (ON 36 (by kernel_rfl) rfl (PT rfl rfl rfl (NA (WA.done (by kernel_rfl) (TN (CT rfl (SQ (RG (AS rfl rfl (NL (TN (RT ?_))))))))))))))))
                  refine WQ.ret1 rfl rfl H.ext ?_
                  exact by rw [hv, hbad]
                · refine NA (ON 16 (by kernel_rfl) rfl (PF rfl rfl rfl (NA (ON 17 (by kernel_rfl) rfl (MV rfl rfl (NA (ON 18 (by kernel_rfl) rfl (SG (Ex.move rfl) rfl rfl rfl (NA (ON 19 (by kernel_rfl) rfl (SG (Ex.idxStr Tryz.underlying9 rfl rfl (hx2)) rfl rfl rfl (NA (ON 20 (by kernel_rfl) rfl ?_)))))))))))))
                  refine WR.split (Ex.lss rfl rfl) (Wn.some rfl rfl rfl) rfl rfl (fun h25_20 => ?_) (fun h25_20 => ?_)
                  · have hbad := vld_bad hne (hm.2 (by omega))
                    refine NA (ON 21 (by kernel_rfl) rfl (PF rfl rfl rfl (NA (ON 22 (by kernel_rfl) rfl (MV rfl rfl (NA (ON 23 (by kernel_rfl) rfl (GT rfl rfl rfl (NA (ON 24 (by kernel_rfl) rfl (GT rfl rfl rfl (NA (ON 25 (by kernel_rfl) rfl (GT rfl rfl rfl (NA (ON 26 (by kernel_rfl) rfl (PT rfl rfl rfl (NA (ON 27 (by kernel_rfl) rfl (MV rfl rfl (NA (ON 28 (by kernel_rfl) rfl (GT rfl rfl rfl (NA (ON 29 (by kernel_rfl) rfl (GT rfl rfl rfl (NA (ON 30 (by kernel_rfl) rfl (GT rfl rfl rfl (NA (ON 31 (by kernel_rfl) rfl (PT rfl rfl rfl (NA (ON 32 (by kernel_rfl) rfl (MV rfl rfl (NA (ON 33 (by kernel_rfl) rfl (GT rfl rfl rfl (NA (ON 34 (by kernel_rfl) rfl (GT rfl rfl rfl (NA (ON 35 (by kernel_rfl) rfl (GT rfl rfl rfl (NA (ON 36 (by kernel_rfl) rfl (PT rfl rfl rfl (NA (WA.done (by kernel_rfl) (TN (CT rfl (SQ (RG (AS rfl rfl (NL (TN (RT ?_)))))))))))))))))))))))))))))))))))))))))))))))))))))))))
                    refine WQ.ret1 rfl rfl H.ext ?_
                    exact by rw [hv, hbad]
                  · refine NA (ON 21 (by kernel_rfl) rfl (PF rfl rfl rfl (NA (ON 22 (by kernel_rfl) rfl (MV rfl rfl (NA (ON 23 (by kernel_rfl) rfl (SG (Ex.move rfl) rfl rfl rfl (NA (ON 24 (by kernel_rfl) rfl (SG (Ex.idxStr Tryz.underlying9 rfl rfl (hx2)) rfl rfl rfl (NA (ON 25 (by kernel_rfl) rfl ?_)))))))))))))
                    refine WR.split (Ex.lss rfl rfl) (Wn.some rfl rfl rfl) rfl rfl (fun h25_25 => ?_) (fun h25_25 => ?_)
                    · have hbad := vld_bad hne (hm.2 (by omega))
                      refine NA (ON 26 (by kernel_rfl) rfl (PF rfl rfl rfl (NA (ON 27 (by kernel_rfl) rfl (MV rfl rfl (NA (ON 28 (by kernel_rfl) rfl (GT rfl rfl rfl (NA (ON 29 (by kernel_rfl) rfl (GT rfl rfl rfl (NA (ON 30 (by kernel_rfl) rfl (GT rfl rfl rfl (NA (ON 31 (by kernel_rfl) rfl (PT rfl rfl rfl (NA (ON 32 (by kernel_rfl) rfl (MV rfl rfl (NA (ON 33 (by kernel_rfl) rfl (GT rfl rfl rfl (NA (ON 34 (by kernel_rfl) rfl (GT rfl rfl rfl (NA (ON 35 (by kernel_rfl) rfl (GT rfl rfl rfl (NA (ON 36 (by kernel_rfl) rfl (PT rfl rfl rfl (NA (WA.done (by kernel_rfl) (TN (CT rfl (SQ (RG (AS rfl rfl (NL (TN (RT ?_))))))))))))))))))))))))))))))))))))))))))
                      refine WQ.ret1 rfl rfl H.ext ?_
                      exact by rw [hv, hbad]
                    · refine NA (ON 26 (by kernel_rfl) rfl (PF rfl rfl rfl (NA (ON 27 (by kernel_rfl) rfl (MV rfl rfl (NA (ON 28 (by kernel_rfl) rfl (SG (Ex.move rfl) rfl rfl rfl (NA (ON 29 (by kernel_rfl) rfl (SG (Ex.idxStr Tryz.underlying9 rfl rfl (hx3)) rfl rfl rfl (NA (ON 30 (by kernel_rfl) rfl ?_)))))))))))))
                      refine WR.split (Ex.lss rfl rfl) (Wn.some rfl rfl rfl) rfl rfl (fun h25_30 => ?_) (fun h25_30 => ?_)
                      · have hbad := vld_bad hne (hm.2 (by omega))
                        refine NA (ON 31 (by kernel_rfl) rfl (PF rfl rfl rfl (NA (ON 32 (by kernel_rfl) rfl (MV rfl rfl (NA (ON 33 (by kernel_rfl) rfl (GT rfl rfl rfl (NA (ON 34 (by kernel_rfl) rfl (GT rfl rfl rfl (NA (ON 35 (by kernel_rfl) rfl (GT rfl rfl rfl (NA (ON 36 (by kernel_rfl) rfl (PT rfl rfl rfl (NA (WA.done (by kernel_rfl) (TN (CT rfl (SQ (RG (AS rfl rfl (NL (TN (RT ?_)))))))))))))))))))))))))))
                        refine WQ.ret1 rfl rfl H.ext ?_
                        exact by rw [hv, hbad]
                      · refine NA (ON 31 (by kernel_rfl) rfl (PF rfl rfl rfl (NA (ON 32 (by kernel_rfl) rfl (MV rfl rfl (NA (ON 33 (by kernel_rfl) rfl (SG (Ex.move rfl) rfl rfl rfl (NA (ON 34 (by kernel_rfl) rfl (SG (Ex.idxStr Tryz.underlying9 rfl rfl (hx3)) rfl rfl rfl (NA (ON 35 (by kernel_rfl) rfl ?_)))))))))))))
                        refine WR.split (Ex.lss rfl rfl) (Wn.some rfl rfl rfl) rfl rfl (fun h25_35 => ?_) (fun h25_35 => ?_)
                        · have hbad := vld_bad hne (hm.2 (by omega))
                          refine NA (ON 36 (by kernel_rfl) rfl (PF rfl rfl rfl (NA (WA.done (by kernel_rfl) (TN (CT rfl (SQ (RG (AS rfl rfl (NL (TN (RT ?_))))))))))))
                          refine WQ.ret1 rfl rfl H.ext ?_
                          exact by rw [hv, hbad]
                        · refine NA (ON 36 (by kernel_rfl) rfl (PF rfl rfl rfl (NA (WA.done (by kernel_rfl) (TN (CF rfl (SK (TN (RG (MV rfl rfl (WR.stepE (v' := S (t.drop 4)) (Ex.sliceStr (i := 4) (j := t.length) Tryz.underlying9 rfl (.inl ⟨_, rfl, rfl⟩) (.inr ⟨rfl, rfl⟩) (by omega) (by omega)) (by rw [List.take_length]) (Wn.none rfl) rfl rfl ?_)))))))))))
                          refine AS rfl rfl (NL (IB (IB ?_)))
                          refine WQ.again1 (t.drop 4) ⟨rfl, trivial⟩ ?_ ?_
                          · exact ⟨by rw [List.length_drop]; omega, by rw [hv]; exact vld_good hne (hm.1 (by omega)), M, H.drop (List.nil_sublist _), hp⟩
                          · rw [List.length_drop]; omega
          · have hbad := vld_bad hne (multi1 (t := t) (by omega) (by rw [hcn]; exact hc1 (by omega)))
            refine AS rfl rfl (NL (TN (CF rfl (SQ (RG (AS rfl rfl (NL (TN (RT ?_)))))))))
            refine WQ.ret1 rfl rfl H.ext ?_
            exact by rw [hv, hbad]
  · have hr : vld l = true := by rw [hv, List.eq_nil_of_length_eq_zero (show t.length = 0 by omega)]; rfl
    refine NL (TN (CF rfl (WC.exit (WQ.thenExit (WQ.thenExit (WQ.exitHere (TN (SQ (RG (AS rfl rfl (NL (TN (RT ?_)))))))))))))
    refine WQ.ret1 rfl rfl H.ext ?_
    exact by rw [hr]
end Go.Proofs.YtogkmhjnojphiaaGreatDoor
end
section
set_option linter.unusedVariables false
set_option linter.unusedSimpArgs false
namespace Go.Proofs.YtogkmhjnojphiaaGreatDoor
open Go Go.RowKit Go.Ph
open Go.Ph.Gr Go.Ph.Utf Go.Ph.Chs
theorem grown_alloc {w w' : World} {o : Obj} {row : Option Nat} (h : (w.alloc o).grownBy w' row) (hr : row = none) : w.grownBy w' none := by
  subst hr
  have h1 : w.grownBy (w.alloc o) none := grownBy_alloc' w o
  exact ⟨h.os.trans h1.os, h.tape.trans h1.tape, h.output.trans h1.output, Nat.le_trans h1.size h.size, fun k hk hn => (h.block k (Nat.lt_of_lt_of_le hk h1.size) (by simp)).trans (h1.block k hk (by simp))⟩
theorem utf8_Z (c : Int) : utf8 c = (Lib.encodeRuneZ c).map ub := by
  unfold utf8
  by_cases h1 : 0 ≤ c ∧ c ≤ 127
  · rw [fixN_id (by omega) (by omega) (by omega), Lib.encodeRuneZ_one h1.1 h1.2, utf8M, if_pos (by omega)]; rfl
  · by_cases h2 : 128 ≤ c ∧ c ≤ 2047
    · rw [fixN_id (by omega) (by omega) (by omega), Lib.encodeRuneZ_two h2.1 h2.2, utf8M, if_neg (by omega), if_pos (by omega)]; rfl
    · by_cases h3 : (2048 ≤ c ∧ c < 55296) ∨ (57343 < c ∧ c ≤ 65535)
      · rw [fixN_id (by omega) (by omega) (by omega), Lib.encodeRuneZ_three h3, utf8M, if_neg (by omega), if_neg (by omega), if_pos (by omega)]; rfl
      · by_cases h4 : 65536 ≤ c ∧ c ≤ 1114111
        · rw [fixN_id (by omega) (by omega) (by omega), Lib.encodeRuneZ_four h4.1 h4.2, utf8M, if_neg (by omega), if_neg (by omega), if_neg (by omega)]; rfl
        · rw [fixN_bad (by omega), Lib.encodeRuneZ_bad (by omega)]; decide
theorem runeCells_utf8 (c : Int) : Lib.runeCells c = (utf8 c).map encB := by
  unfold Lib.runeCells
  rw [utf8_Z, List.map_map]
  apply List.map_congr_left
  intro x hx
  have h := Lib.encodeRuneZ_byte c x hx
  show Value.int .u8 x = Value.int .u8 ((ub x).toNat : Int)
  rw [ub_nat h.1 h.2]
theorem appendRune_spec (c : Int) (h0 : -2147483648 ≤ c) (h1 : c ≤ 2147483647) : Ct Tryz.prog 160 [.slice none 0 0, encR c] (fun _ => True) (fun r M => Bs M r (utf8 c)) := by
  refine ⟨enters Tryz.func160 (by kernel_rfl) rfl, fun w M ha hp => ?_⟩
  have hlen := utf8_len c
  refine (Tryz.utf8_AppendRune_plain w.heap.size (.slice none 0 0) 0 [] c h0 h1 w (World.ownsRow_nil _ _ _ _) (by decide) (Nat.le_refl _)).mono fun e w' => ?_
  rintro ⟨v', rfl, hown, o, hg⟩
  have hgr := grown_alloc hg rfl
  rw [runeCells_utf8, List.nil_append, List.length_map, Nat.zero_add] at hown
  have hh : (RowI 5 encB v' (utf8 c)).holds w' := by
    refine ⟨hown.1, ?_⟩
    rcases hown.2 with h | ⟨g, cap, cur, hv, hb, hgg⟩
    · exact .inl h
    · exact .inr ⟨g, cap, cur, hv, Nat.zero_le _, hgg⟩
  have H1 : St w M M [RowI 5 encB v' (utf8 c)] w' := (StX.start ha).new hgr hh (fun b hb => (World.ownsRow.lt hown b hb).1)
  obtain ⟨M', hle, hS, H2⟩ := H1.freezeRow (L' := []) .head
  exact ⟨_, M', rfl, H2.ext, hS⟩
theorem dec1_spec (v : Value) (l : List UInt8) (b : Nat) (bound : Int) (hs : l.length ≤ 12000) : Ct Tryz.prog 186 [v, ptr b 0] (fun M => Bs M v l ∧ CellM M ⟨b, 0, none⟩ (encR bound)) (fun r M => Sl M encR r (decS bound l)) := by
  refine Ct.of Tryz.func186 (enters Tryz.func186 (by kernel_rfl) rfl) rfl rfl rfl ?_
  intro w0 M0 H hp
  obtain ⟨hb, hcell⟩ := hp
  refine SQ (RG (AS rfl rfl (NL (TN (SQ (RG (AS rfl rfl (NL (TN (SQ (SQ (RG (MV rfl rfl ?_)))))))))))))
  first | refine WR.step (Ex.lenSl Tryz.underlying30 (by assumption) rfl) (Wn.none rfl) rfl rfl ?_ | refine WR.step (Ex.lenRow Tryz.underlying30 H (by repeat (first | exact List.Mem.head _ | apply List.Mem.tail)) rfl) (Wn.none rfl) rfl rfl ?_ | refine WR.step (Ex.lenSlice Tryz.underlying30 rfl) (Wn.none rfl) rfl rfl ?_
  refine MV rfl rfl (NL (TN (BL ?_)))
  replace H := H.newRow 21 encR
  refine WC.loop3 (fun (k : Nat) (ov : Value) (o : List Int) => [(1, ptr b 0), (4, ov), (8, v), (9, I (l.length : Int)), (10, encN k)]) (fun (k : Nat) (ov : Value) (o : List Int) w => k ≤ l.length ∧ o = decS bound (l.take k) ∧ ∃ M, St w0 M0 M [RowI 21 encR ov o] w ∧ Bs M v l ∧ CellM M ⟨b, 0, none⟩ (encR bound)) (fun (k : Nat) (ov : Value) (o : List Int) => l.length - k) (0) (_) (_) ⟨rfl, rfl, rfl, rfl, rfl, trivial⟩ (⟨by omega, rfl, M0, H, hb, hcell⟩) ?_
  intro k ov o w
  rintro ⟨hk, ho, M, H, hb, hcell⟩
  have hol : o.length = k := by rw [ho]; simp [decS]; omega
  refine SQ (RG ?_)
  refine WR.split (Ex.lss rfl rfl) (Wn.none rfl) rfl rfl (fun h3_0 => ?_) (fun h3_0 => ?_)
  · obtain ⟨c, hc⟩ : ∃ c, l[k]? = some c := ⟨_, List.getElem?_eq_getElem (by omega)⟩
    have hclt := c.toNat_lt
    have hdn : decS bound (l.take (k + 1)) = decS bound (l.take k) ++ [if bound ≤ (c.toNat : Int) then 65533 else (c.toNat : Int)] := by
      obtain ⟨e1, e2⟩ := List.getElem?_eq_some_iff.1 hc
      rw [List.take_succ_eq_append_getElem e1, e2]; simp [decS]
    refine NL (TN (SQ (CT rfl (SK (TN (SQ (BL (SQ (RG (WR.idxSl Tryz.underlying30 Tryz.sizeOf5 (by assumption) rfl rfl (hc) (Wn.none rfl) rfl ?_))))))))))
    intro p12 hc12
    first | refine WR.step (Ex.loadM H rfl (by assumption) Tryz.isAgg5) (Wn.none rfl) rfl rfl ?_ | refine WR.step (Ex.load1 H rfl (by repeat (first | exact List.Mem.head _ | apply List.Mem.tail)) Tryz.isAgg5 (by rfl)) (Wn.none rfl) rfl rfl ?_
    refine AS rfl rfl (NL (TN (SQ (RG (MV rfl rfl (WR.stepE (v' := encR (c.toNat : Int)) (Ex.conv Tryz.underlying5 Tryz.underlying21 rfl) (congrArg encR (i32_in (by omega))) (Wn.none rfl) rfl rfl ?_))))))
    refine AS rfl rfl (NL (TN (SQ (SQ (RG (MV rfl rfl ?_))))))
    first | refine WR.step (Ex.loadM H rfl (by assumption) Tryz.isAgg21) (Wn.none rfl) rfl rfl ?_ | refine WR.step (Ex.load1 H rfl (by repeat (first | exact List.Mem.head _ | apply List.Mem.tail)) Tryz.isAgg21 (by rfl)) (Wn.none rfl) rfl rfl ?_
    refine WR.split (Ex.geq rfl rfl) (Wn.none rfl) rfl rfl (fun h6_2 => ?_) (fun h6_2 => ?_)
    · refine NL (TN (CT rfl (RG (AS rfl rfl (NL (TN (RG (MV rfl rfl (MV rfl rfl (WR.lit (enc := encR) ty170 [_] H rfl (by rfl) (fun _ => rfl) rfl rfl (Wn.none rfl) rfl ?_))))))))))
      intro v21 M w H hle hl21
      replace hb := hb.mono hle
      replace hcell := hcell.mono hle
      replace hc12 := hc12.mono hle
      refine WR.appendSl ty170 (fun _ => rfl) H rfl (fun _ => by repeat first | exact .head | apply Upd.tail) rfl (by assumption) (by first | omega | (simp only [List.length_append, List.length_cons, List.length_nil, List.length_take, List.length_drop]; omega)) (by first | (simp only [maxLen]; omega) | (simp only [maxLen, List.length_append, List.length_cons, List.length_nil, List.length_take, List.length_drop]; omega)) (Wn.none rfl) rfl ?_
      intro v22 w H
      refine AS rfl rfl (NL (IB (TN (RG (ST (Ex.add64 rfl rfl (by omega)) rfl ?_)))))
      refine MV rfl rfl (NL ?_)
      refine WQ.again3 (k + 1) (v22) (o ++ [65533]) ⟨rfl, rfl, rfl, rfl, rfl, trivial⟩ ?_ ?_
      · refine ⟨by omega, ?_, M, H, hb, hcell⟩
        rw [hdn, ← ho, if_pos h6_2]
      · omega
    · refine NL (TN (CF rfl (SK (TN (RG (MV rfl rfl (MV rfl rfl (WR.lit (enc := encR) ty170 [_] H rfl (by rfl) (fun _ => rfl) rfl rfl (Wn.none rfl) rfl ?_))))))))
      intro v21 M w H hle hl21
      replace hb := hb.mono hle
      replace hcell := hcell.mono hle
      replace hc12 := hc12.mono hle
      refine WR.appendSl ty170 (fun _ => rfl) H rfl (fun _ => by repeat first | exact .head | apply Upd.tail) rfl (by assumption) (by first | omega | (simp only [List.length_append, List.length_cons, List.length_nil, List.length_take, List.length_drop]; omega)) (by first | (simp only [maxLen]; omega) | (simp only [maxLen, List.length_append, List.length_cons, List.length_nil, List.length_take, List.length_drop]; omega)) (Wn.none rfl) rfl ?_
      intro v22 w H
      refine AS rfl rfl (NL (IB (TN (RG (ST (Ex.add64 rfl rfl (by omega)) rfl ?_)))))
      refine MV rfl rfl (NL ?_)
      refine WQ.again3 (k + 1) (v22) (o ++ [(c.toNat : Int)]) ⟨rfl, rfl, rfl, rfl, rfl, trivial⟩ ?_ ?_
      · refine ⟨by omega, ?_, M, H, hb, hcell⟩
        rw [hdn, ← ho, if_neg h6_2]
      · omega
  · refine NL (TN (SQ (CF rfl (WC.exit (WQ.thenExit (WQ.thenExit (WQ.exitHere (TN (SQ (RG (MV rfl rfl (AS rfl rfl (NL (TN (RT ?_)))))))))))))))
    obtain ⟨M, hle, hf, H⟩ := H.freezeRow (v := ov) (enc := encR) (t := 21) (by repeat first | exact .head | apply Rem.tail)
    refine WQ.ret1 rfl rfl H.ext ( ?_)
    rw [ho, List.take_of_length_le (by omega)] at hf
    exact hf
theorem enc1_spec (c : Int) (b : Nat) (bound : Int) : Ct Tryz.prog 187 [encR c, ptr b 0] (fun M => CellM M ⟨b, 0, none⟩ (encR bound)) (fun r M => ∃ v, r = .tuple #[v, .bool (decide (c < bound))] ∧ Bs M v ([ub c])) := by
  refine Ct.of Tryz.func187 (enters Tryz.func187 (by kernel_rfl) rfl) rfl rfl rfl ?_
  intro w0 M0 H hp
  refine SQ (RG (AS rfl rfl (AS rfl rfl (NL (TN (SQ (WC.draw (m := 8) rfl rfl H ?_)))))))
  intro w H
  refine WA.take (i := 0) rfl (by kernel_rfl) (by kernel_rfl) (by kernel_rfl) (fun _ => Ex.move rfl) (Wn.none rfl) rfl rfl (fun _ _ => rfl) (WA.take (i := 1) rfl (by kernel_rfl) (by kernel_rfl) (by kernel_rfl) (fun _ => Ex.convU8 Tryz.underlying21 Tryz.underlying5 rfl) (Wn.none rfl) rfl rfl (fun _ _ => rfl) (WA.take (i := 3) rfl (by kernel_rfl) (by kernel_rfl) (by kernel_rfl) (fun _ => Ex.move rfl) (Wn.none rfl) rfl rfl (fun _ _ => rfl) ?_))
  refine WA.two (i := 2) (j := 4) (by kernel_rfl) rfl rfl ?_ ?_
  · refine WR.lit (enc := encB) ty30 [_] H rfl (by rfl) (fun _ => rfl) rfl rfl (Wn.none rfl) rfl ?_
    intro v7 M w H hle hl7
    replace hp := hp.mono hle
    refine NA (WA.take (i := 6) rfl (by kernel_rfl) (by kernel_rfl) (by kernel_rfl) (fun _ => Ex.assign rfl) (Wn.none rfl) rfl rfl (fun _ _ => rfl) (ON 4 (by kernel_rfl) rfl ?_))
    first | refine WR.step (Ex.loadM H rfl (by assumption) Tryz.isAgg21) (Wn.none rfl) rfl rfl ?_ | refine WR.step (Ex.load1 H rfl (by repeat (first | exact List.Mem.head _ | apply List.Mem.tail)) Tryz.isAgg21 (by rfl)) (Wn.none rfl) rfl rfl ?_
    refine NA (ON 5 (by kernel_rfl) rfl (ST (Ex.lss rfl rfl) rfl (NA (ON 7 (by kernel_rfl) rfl (AS rfl rfl (NA (WA.done (by kernel_rfl) (TN (RT ?_)))))))))
    refine WQ.ret2 rfl rfl rfl H.ext ?_
    exact ⟨_, rfl, hl7⟩
  · first | refine WR.step (Ex.loadM H rfl (by assumption) Tryz.isAgg21) (Wn.none rfl) rfl rfl ?_ | refine WR.step (Ex.load1 H rfl (by repeat (first | exact List.Mem.head _ | apply List.Mem.tail)) Tryz.isAgg21 (by rfl)) (Wn.none rfl) rfl rfl ?_
    refine NA (WA.take (i := 5) rfl (by kernel_rfl) (by kernel_rfl) (by kernel_rfl) (fun _ => Ex.lss rfl rfl) (Wn.none rfl) rfl rfl (fun _ _ => rfl) (ON 2 (by kernel_rfl) rfl (WR.lit (enc := encB) ty30 [_] H rfl (by rfl) (fun _ => rfl) rfl rfl (Wn.none rfl) rfl ?_)))
    intro v7 M w H hle hl7
    replace hp := hp.mono hle
    refine NA (ON 6 (by kernel_rfl) rfl (AS rfl rfl (NA (ON 7 (by kernel_rfl) rfl (AS rfl rfl (NA (WA.done (by kernel_rfl) (TN (RT ?_)))))))))
    refine WQ.ret2 rfl rfl rfl H.ext ?_
    exact ⟨_, rfl, hl7⟩
theorem decU_spec (v : Value) (l : List UInt8) (hs : l.length ≤ 12000) : Ct Tryz.prog 158 [v] (fun M => Bs M v l) (fun r M => Sl M encR r (decU l)) := by
  refine Ct.of Tryz.func158 (enters Tryz.func158 (by kernel_rfl) rfl) rfl rfl rfl ?_
  intro w0 M0 H hp
  refine SQ (RG (AS rfl rfl (NL (TN (SQ (RG (MV rfl rfl (ST (Ex.toStr Tryz.underlying30 Tryz.underlying5 Tryz.underlying9 H (by assumption) rfl) rfl ?_))))))))
  refine WR.runesOf H Tryz.underlying9 Tryz.underlying170 Tryz.underlying21 rfl (by omega) (Wn.none rfl) rfl ?_
  intro v5 M w H hle hl5
  replace hp := hp.mono hle
  refine AS rfl rfl (NL (TN (RT ?_)))
  refine WQ.ret1 rfl rfl H.ext ?_
  exact hl5
theorem encU_spec (c : Int) (h0 : -2147483648 ≤ c) (h1 : c ≤ 2147483647) : Ct Tryz.prog 159 [encR c] (fun _ => True) (fun r M => ∃ v, r = .tuple #[v, .bool true] ∧ Bs M v (utf8 c)) := by
  refine Ct.of Tryz.func159 (enters Tryz.func159 (by kernel_rfl) rfl) rfl rfl rfl ?_
  intro w0 M0 H hp
  refine SQ (RG (AS rfl rfl (AS rfl rfl (NL (TN (SQ (RG (MV rfl rfl (WR.call H (appendRune_spec _ (by omega) (by omega)) rfl (trivial) (Wn.none rfl) rfl ?_)))))))))
  intro v5 M w H hle hr5
  have hf5 := hr5
  refine AS rfl rfl (AS rfl rfl (NL (TN (RT ?_))))
  refine WQ.ret2 rfl rfl rfl H.ext ?_
  exact ⟨_, rfl, hf5⟩
theorem unit_or (x y : UInt8) : ((x.toNat * 2 ^ 8 ||| y.toNat : Nat) : Int) = unit x y := by
  have hy := y.toNat_lt
  have h := Nat.shiftLeft_add_eq_or_of_lt (a := x.toNat) (b := y.toNat) (i := 8) hy
  rw [Nat.shiftLeft_eq] at h
  rw [← h]; unfold unit; omega
theorem unit_spec (v : Value) (l : List UInt8) (b i : Nat) (x y : UInt8) (hs : l.length ≤ 12000) (hx : l[i]? = some x) (hy : l[i + 1]? = some y) : Ct Tryz.prog 189 [encN i, ptr b 0] (fun M => Bs M v l ∧ CellM M ⟨b, 0, none⟩ v) (fun r _ => r = encR (unit x y)) := by
  refine Ct.of Tryz.func189 (enters Tryz.func189 (by kernel_rfl) rfl) rfl rfl rfl ?_
  intro w0 M0 H hp
  obtain ⟨hb, hcell⟩ := hp
  have hxl := x.toNat_lt
  have hyl := y.toNat_lt
  have hil := (List.getElem?_eq_some_iff.1 hy).1
  have hul := unit_lt x y
  refine SQ (RG (AS rfl rfl (NL (TN (SQ (WC.draw (m := 14) rfl rfl H ?_))))))
  intro w H
  refine WA.take (i := 1) rfl (by kernel_rfl) (by kernel_rfl) (by kernel_rfl) (fun _ => Ex.move rfl) (Wn.none rfl) rfl rfl (fun _ _ => rfl) (WA.take (i := 7) rfl (by kernel_rfl) (by kernel_rfl) (by kernel_rfl) (fun _ => Ex.move rfl) (Wn.none rfl) rfl rfl (fun _ _ => rfl) (WA.takeE (v' := encN (i + 1)) (i := 8) rfl (by kernel_rfl) (by kernel_rfl) (by kernel_rfl) (fun _ => Ex.add64 rfl rfl (by omega)) rfl (Wn.none rfl) rfl rfl (fun _ _ => rfl) ?_))
  refine WA.two (i := 0) (j := 6) (by kernel_rfl) rfl rfl ?_ ?_
  · first | refine WR.step (Ex.loadM H rfl (by assumption) Tryz.isAgg30) (Wn.none rfl) rfl rfl ?_ | refine WR.step (Ex.load1 H rfl (by repeat (first | exact List.Mem.head _ | apply List.Mem.tail)) Tryz.isAgg30 (by rfl)) (Wn.none rfl) rfl rfl ?_
    refine NA (WA.takeIdx (i := 2) rfl (by kernel_rfl) (by kernel_rfl) (by kernel_rfl) Tryz.underlying30 Tryz.sizeOf5 (by assumption) rfl rfl (hx) (Wn.none rfl) rfl ?_)
    intro p6 hc6
    refine WA.two (i := 3) (j := 6) (by kernel_rfl) rfl rfl ?_ ?_
    · first | refine WR.step (Ex.loadM H rfl (by assumption) Tryz.isAgg5) (Wn.none rfl) rfl rfl ?_ | refine WR.step (Ex.load1 H rfl (by repeat (first | exact List.Mem.head _ | apply List.Mem.tail)) Tryz.isAgg5 (by rfl)) (Wn.none rfl) rfl rfl ?_
      refine NA (WA.takeE (v' := encR (x.toNat : Int)) (i := 4) rfl (by kernel_rfl) (by kernel_rfl) (by kernel_rfl) (fun _ => Ex.conv Tryz.underlying5 Tryz.underlying21 rfl) (congrArg encR (i32_in (by omega))) (Wn.none rfl) rfl rfl (fun _ _ => rfl) ?_)
      refine WA.takeE (v' := encR ((x.toNat * 2 ^ 8 : Nat) : Int)) (i := 5) rfl (by kernel_rfl) (by kernel_rfl) (by kernel_rfl) (fun _ => Ex.shlK (m := x.toNat) (s := 8) rfl rfl (by decide)) (congrArg encR (i32_in (by omega))) (Wn.none rfl) rfl rfl (fun _ _ => rfl) ?_
      refine ON 6 (by kernel_rfl) rfl ?_
      first | refine WR.step (Ex.loadM H rfl (by assumption) Tryz.isAgg30) (Wn.none rfl) rfl rfl ?_ | refine WR.step (Ex.load1 H rfl (by repeat (first | exact List.Mem.head _ | apply List.Mem.tail)) Tryz.isAgg30 (by rfl)) (Wn.none rfl) rfl rfl ?_
      refine NA (ON 9 (by kernel_rfl) rfl (WR.idxSl Tryz.underlying30 Tryz.sizeOf5 (by assumption) rfl rfl (hy) (Wn.none rfl) rfl ?_))
      intro p13 hc13
      refine NA (ON 10 (by kernel_rfl) rfl ?_)
      first | refine WR.step (Ex.loadM H rfl (by assumption) Tryz.isAgg5) (Wn.none rfl) rfl rfl ?_ | refine WR.step (Ex.load1 H rfl (by repeat (first | exact List.Mem.head _ | apply List.Mem.tail)) Tryz.isAgg5 (by rfl)) (Wn.none rfl) rfl rfl ?_
      refine NA (ON 11 (by kernel_rfl) rfl (WR.stepE (v' := encR (y.toNat : Int)) (Ex.conv Tryz.underlying5 Tryz.underlying21 rfl) (congrArg encR (i32_in (by omega))) (Wn.none rfl) rfl rfl ?_))
      refine NA (ON 12 (by kernel_rfl) rfl (WR.stepE (v' := encR (unit x y)) (Ex.orK (m := (x.toNat * 2 ^ 8)) (s := y.toNat) rfl rfl (by first | decide | (show _ < 256; omega) | (show _ < 4294967296; omega) | (show _ < 18446744073709551616; omega)) (by first | decide | (show _ < 256; omega) | (show _ < 4294967296; omega) | (show _ < 18446744073709551616; omega))) (congrArg encR (by rw [unit_or]; exact i32_in (by omega))) (Wn.none rfl) rfl rfl ?_))
      refine NA (ON 13 (by kernel_rfl) rfl (AS rfl rfl (NA (WA.done (by kernel_rfl) (TN (RT ?_))))))
      refine WQ.ret1 rfl rfl H.ext ?_
      exact rfl
    · first | refine WR.step (Ex.loadM H rfl (by assumption) Tryz.isAgg30) (Wn.none rfl) rfl rfl ?_ | refine WR.step (Ex.load1 H rfl (by repeat (first | exact List.Mem.head _ | apply List.Mem.tail)) Tryz.isAgg30 (by rfl)) (Wn.none rfl) rfl rfl ?_
      refine NA (WA.takeIdx (i := 9) rfl (by kernel_rfl) (by kernel_rfl) (by kernel_rfl) Tryz.underlying30 Tryz.sizeOf5 (by assumption) rfl rfl (hy) (Wn.none rfl) rfl ?_)
      intro p13 hc13
      refine WA.two (i := 3) (j := 10) (by kernel_rfl) rfl rfl ?_ ?_
      · first | refine WR.step (Ex.loadM H rfl (by assumption) Tryz.isAgg5) (Wn.none rfl) rfl rfl ?_ | refine WR.step (Ex.load1 H rfl (by repeat (first | exact List.Mem.head _ | apply List.Mem.tail)) Tryz.isAgg5 (by rfl)) (Wn.none rfl) rfl rfl ?_
        refine NA (WA.takeE (v' := encR (x.toNat : Int)) (i := 4) rfl (by kernel_rfl) (by kernel_rfl) (by kernel_rfl) (fun _ => Ex.conv Tryz.underlying5 Tryz.underlying21 rfl) (congrArg encR (i32_in (by omega))) (Wn.none rfl) rfl rfl (fun _ _ => rfl) ?_)
        refine WA.takeE (v' := encR ((x.toNat * 2 ^ 8 : Nat) : Int)) (i := 5) rfl (by kernel_rfl) (by kernel_rfl) (by kernel_rfl) (fun _ => Ex.shlK (m := x.toNat) (s := 8) rfl rfl (by decide)) (congrArg encR (i32_in (by omega))) (Wn.none rfl) rfl rfl (fun _ _ => rfl) ?_
        refine ON 10 (by kernel_rfl) rfl ?_
        first | refine WR.step (Ex.loadM H rfl (by assumption) Tryz.isAgg5) (Wn.none rfl) rfl rfl ?_ | refine WR.step (Ex.load1 H rfl (by repeat (first | exact List.Mem.head _ | apply List.Mem.tail)) Tryz.isAgg5 (by rfl)) (Wn.none rfl) rfl rfl ?_
        refine NA (ON 11 (by kernel_rfl) rfl (WR.stepE (v' := encR (y.toNat : Int)) (Ex.conv Tryz.underlying5 Tryz.underlying21 rfl) (congrArg encR (i32_in (by omega))) (Wn.none rfl) rfl rfl ?_))
        refine NA (ON 12 (by kernel_rfl) rfl (WR.stepE (v' := encR (unit x y)) (Ex.orK (m := (x.toNat * 2 ^ 8)) (s := y.toNat) rfl rfl (by first | decide | (show _ < 256; omega) | (show _ < 4294967296; omega) | (show _ < 18446744073709551616; omega)) (by first | decide | (show _ < 256; omega) | (show _ < 4294967296; omega) | (show _ < 18446744073709551616; omega))) (congrArg encR (by rw [unit_or]; exact i32_in (by omega))) (Wn.none rfl) rfl rfl ?_))
        refine NA (ON 13 (by kernel_rfl) rfl (AS rfl rfl (NA (WA.done (by kernel_rfl) (TN (RT ?_))))))
        refine WQ.ret1 rfl rfl H.ext ?_
        exact rfl
      · first | refine WR.step (Ex.loadM H rfl (by assumption) Tryz.isAgg5) (Wn.none rfl) rfl rfl ?_ | refine WR.step (Ex.load1 H rfl (by repeat (first | exact List.Mem.head _ | apply List.Mem.tail)) Tryz.isAgg5 (by rfl)) (Wn.none rfl) rfl rfl ?_
        refine NA (WA.takeE (v' := encR (y.toNat : Int)) (i := 11) rfl (by kernel_rfl) (by kernel_rfl) (by kernel_rfl) (fun _ => Ex.conv Tryz.underlying5 Tryz.underlying21 rfl) (congrArg encR (i32_in (by omega))) (Wn.none rfl) rfl rfl (fun _ _ => rfl) ?_)
        refine ON 3 (by kernel_rfl) rfl ?_
        first | refine WR.step (Ex.loadM H rfl (by assumption) Tryz.isAgg5) (Wn.none rfl) rfl rfl ?_ | refine WR.step (Ex.load1 H rfl (by repeat (first | exact List.Mem.head _ | apply List.Mem.tail)) Tryz.isAgg5 (by rfl)) (Wn.none rfl) rfl rfl ?_
        refine NA (ON 4 (by kernel_rfl) rfl (WR.stepE (v' := encR (x.toNat : Int)) (Ex.conv Tryz.underlying5 Tryz.underlying21 rfl) (congrArg encR (i32_in (by omega))) (Wn.none rfl) rfl rfl ?_))
        refine NA (ON 5 (by kernel_rfl) rfl (WR.stepE (v' := encR ((x.toNat * 2 ^ 8 : Nat) : Int)) (Ex.shlK (m := x.toNat) (s := 8) rfl rfl (by decide)) (congrArg encR (i32_in (by omega))) (Wn.none rfl) rfl rfl ?_))
        refine NA (ON 12 (by kernel_rfl) rfl (WR.stepE (v' := encR (unit x y)) (Ex.orK (m := (x.toNat * 2 ^ 8)) (s := y.toNat) rfl rfl (by first | decide | (show _ < 256; omega) | (show _ < 4294967296; omega) | (show _ < 18446744073709551616; omega)) (by first | decide | (show _ < 256; omega) | (show _ < 4294967296; omega) | (show _ < 18446744073709551616; omega))) (congrArg encR (by rw [unit_or]; exact i32_in (by omega))) (Wn.none rfl) rfl rfl ?_))
        refine NA (ON 13 (by kernel_rfl) rfl (AS rfl rfl (NA (WA.done (by kernel_rfl) (TN (RT ?_))))))
        refine WQ.ret1 rfl rfl H.ext ?_
        exact rfl
  · first | refine WR.step (Ex.loadM H rfl (by assumption) Tryz.isAgg30) (Wn.none rfl) rfl rfl ?_ | refine WR.step (Ex.load1 H rfl (by repeat (first | exact List.Mem.head _ | apply List.Mem.tail)) Tryz.isAgg30 (by rfl)) (Wn.none rfl) rfl rfl ?_
    refine NA (WA.takeIdx (i := 9) rfl (by kernel_rfl) (by kernel_rfl) (by kernel_rfl) Tryz.underlying30 Tryz.sizeOf5 (by assumption) rfl rfl (hy) (Wn.none rfl) rfl ?_)
    intro p13 hc13
    refine WA.two (i := 0) (j := 10) (by kernel_rfl) rfl rfl ?_ ?_
    · first | refine WR.step (Ex.loadM H rfl (by assumption) Tryz.isAgg30) (Wn.none rfl) rfl rfl ?_ | refine WR.step (Ex.load1 H rfl (by repeat (first | exact List.Mem.head _ | apply List.Mem.tail)) Tryz.isAgg30 (by rfl)) (Wn.none rfl) rfl rfl ?_
      refine NA (WA.takeIdx (i := 2) rfl (by kernel_rfl) (by kernel_rfl) (by kernel_rfl) Tryz.underlying30 Tryz.sizeOf5 (by assumption) rfl rfl (hx) (Wn.none rfl) rfl ?_)
      intro p6 hc6
      refine WA.two (i := 3) (j := 10) (by kernel_rfl) rfl rfl ?_ ?_
      · first | refine WR.step (Ex.loadM H rfl (by assumption) Tryz.isAgg5) (Wn.none rfl) rfl rfl ?_ | refine WR.step (Ex.load1 H rfl (by repeat (first | exact List.Mem.head _ | apply List.Mem.tail)) Tryz.isAgg5 (by rfl)) (Wn.none rfl) rfl rfl ?_
        refine NA (WA.takeE (v' := encR (x.toNat : Int)) (i := 4) rfl (by kernel_rfl) (by kernel_rfl) (by kernel_rfl) (fun _ => Ex.conv Tryz.underlying5 Tryz.underlying21 rfl) (congrArg encR (i32_in (by omega))) (Wn.none rfl) rfl rfl (fun _ _ => rfl) ?_)
        refine WA.takeE (v' := encR ((x.toNat * 2 ^ 8 : Nat) : Int)) (i := 5) rfl (by kernel_rfl) (by kernel_rfl) (by kernel_rfl) (fun _ => Ex.shlK (m := x.toNat) (s := 8) rfl rfl (by decide)) (congrArg encR (i32_in (by omega))) (Wn.none rfl) rfl rfl (fun _ _ => rfl) ?_
        refine ON 10 (by kernel_rfl) rfl ?_
        first | refine WR.step (Ex.loadM H rfl (by assumption) Tryz.isAgg5) (Wn.none rfl) rfl rfl ?_ | refine WR.step (Ex.load1 H rfl (by repeat (first | exact List.Mem.head _ | apply List.Mem.tail)) Tryz.isAgg5 (by rfl)) (Wn.none rfl) rfl rfl ?_
        refine NA (ON 11 (by kernel_rfl) rfl (WR.stepE (v' := encR (y.toNat : Int)) (Ex.conv Tryz.underlying5 Tryz.underlying21 rfl) (congrArg encR (i32_in (by omega))) (Wn.none rfl) rfl rfl ?_))
        refine NA (ON 12 (by kernel_rfl) rfl (WR.stepE (v' := encR (unit x y)) (Ex.orK (m := (x.toNat * 2 ^ 8)) (s := y.toNat) rfl rfl (by first | decide | (show _ < 256; omega) | (show _ < 4294967296; omega) | (show _ < 18446744073709551616; omega)) (by first | decide | (show _ < 256; omega) | (show _ < 4294967296; omega) | (show _ < 18446744073709551616; omega))) (congrArg encR (by rw [unit_or]; exact i32_in (by omega))) (Wn.none rfl) rfl rfl ?_))
        refine NA (ON 13 (by kernel_rfl) rfl (AS rfl rfl (NA (WA.done (by kernel_rfl) (TN (RT ?_))))))
        refine WQ.ret1 rfl rfl H.ext ?_
        exact rfl
      · first | refine WR.step (Ex.loadM H rfl (by assumption) Tryz.isAgg5) (Wn.none rfl) rfl rfl ?_ | refine WR.step (Ex.load1 H rfl (by repeat (first | exact List.Mem.head _ | apply List.Mem.tail)) Tryz.isAgg5 (by rfl)) (Wn.none rfl) rfl rfl ?_
        refine NA (WA.takeE (v' := encR (y.toNat : Int)) (i := 11) rfl (by kernel_rfl) (by kernel_rfl) (by kernel_rfl) (fun _ => Ex.conv Tryz.underlying5 Tryz.underlying21 rfl) (congrArg encR (i32_in (by omega))) (Wn.none rfl) rfl rfl (fun _ _ => rfl) ?_)
        refine ON 3 (by kernel_rfl) rfl ?_
        first | refine WR.step (Ex.loadM H rfl (by assumption) Tryz.isAgg5) (Wn.none rfl) rfl rfl ?_ | refine WR.step (Ex.load1 H rfl (by repeat (first | exact List.Mem.head _ | apply List.Mem.tail)) Tryz.isAgg5 (by rfl)) (Wn.none rfl) rfl rfl ?_
        refine NA (ON 4 (by kernel_rfl) rfl (WR.stepE (v' := encR (x.toNat : Int)) (Ex.conv Tryz.underlying5 Tryz.underlying21 rfl) (congrArg encR (i32_in (by omega))) (Wn.none rfl) rfl rfl ?_))
        refine NA (ON 5 (by kernel_rfl) rfl (WR.stepE (v' := encR ((x.toNat * 2 ^ 8 : Nat) : Int)) (Ex.shlK (m := x.toNat) (s := 8) rfl rfl (by decide)) (congrArg encR (i32_in (by omega))) (Wn.none rfl) rfl rfl ?_))
        refine NA (ON 12 (by kernel_rfl) rfl (WR.stepE (v' := encR (unit x y)) (Ex.orK (m := (x.toNat * 2 ^ 8)) (s := y.toNat) rfl rfl (by first | decide | (show _ < 256; omega) | (show _ < 4294967296; omega) | (show _ < 18446744073709551616; omega)) (by first | decide | (show _ < 256; omega) | (show _ < 4294967296; omega) | (show _ < 18446744073709551616; omega))) (congrArg encR (by rw [unit_or]; exact i32_in (by omega))) (Wn.none rfl) rfl rfl ?_))
        refine NA (ON 13 (by kernel_rfl) rfl (AS rfl rfl (NA (WA.done (by kernel_rfl) (TN (RT ?_))))))
        refine WQ.ret1 rfl rfl H.ext ?_
        exact rfl
    · first | refine WR.step (Ex.loadM H rfl (by assumption) Tryz.isAgg5) (Wn.none rfl) rfl rfl ?_ | refine WR.step (Ex.load1 H rfl (by repeat (first | exact List.Mem.head _ | apply List.Mem.tail)) Tryz.isAgg5 (by rfl)) (Wn.none rfl) rfl rfl ?_
      refine NA (WA.takeE (v' := encR (y.toNat : Int)) (i := 11) rfl (by kernel_rfl) (by kernel_rfl) (by kernel_rfl) (fun _ => Ex.conv Tryz.underlying5 Tryz.underlying21 rfl) (congrArg encR (i32_in (by omega))) (Wn.none rfl) rfl rfl (fun _ _ => rfl) ?_)
      refine ON 0 (by kernel_rfl) rfl ?_
      first | refine WR.step (Ex.loadM H rfl (by assumption) Tryz.isAgg30) (Wn.none rfl) rfl rfl ?_ | refine WR.step (Ex.load1 H rfl (by repeat (first | exact List.Mem.head _ | apply List.Mem.tail)) Tryz.isAgg30 (by rfl)) (Wn.none rfl) rfl rfl ?_
      refine NA (ON 2 (by kernel_rfl) rfl (WR.idxSl Tryz.underlying30 Tryz.sizeOf5 (by assumption) rfl rfl (hx) (Wn.none rfl) rfl ?_))
      intro p6 hc6
      refine NA (ON 3 (by kernel_rfl) rfl ?_)
      first | refine WR.step (Ex.loadM H rfl (by assumption) Tryz.isAgg5) (Wn.none rfl) rfl rfl ?_ | refine WR.step (Ex.load1 H rfl (by repeat (first | exact List.Mem.head _ | apply List.Mem.tail)) Tryz.isAgg5 (by rfl)) (Wn.none rfl) rfl rfl ?_
      refine NA (ON 4 (by kernel_rfl) rfl (WR.stepE (v' := encR (x.toNat : Int)) (Ex.conv Tryz.underlying5 Tryz.underlying21 rfl) (congrArg encR (i32_in (by omega))) (Wn.none rfl) rfl rfl ?_))
      refine NA (ON 5 (by kernel_rfl) rfl (WR.stepE (v' := encR ((x.toNat * 2 ^ 8 : Nat) : Int)) (Ex.shlK (m := x.toNat) (s := 8) rfl rfl (by decide)) (congrArg encR (i32_in (by omega))) (Wn.none rfl) rfl rfl ?_))
      refine NA (ON 12 (by kernel_rfl) rfl (WR.stepE (v' := encR (unit x y)) (Ex.orK (m := (x.toNat * 2 ^ 8)) (s := y.toNat) rfl rfl (by first | decide | (show _ < 256; omega) | (show _ < 4294967296; omega) | (show _ < 18446744073709551616; omega)) (by first | decide | (show _ < 256; omega) | (show _ < 4294967296; omega) | (show _ < 18446744073709551616; omega))) (congrArg encR (by rw [unit_or]; exact i32_in (by omega))) (Wn.none rfl) rfl rfl ?_))
      refine NA (ON 13 (by kernel_rfl) rfl (AS rfl rfl (NA (WA.done (by kernel_rfl) (TN (RT ?_))))))
      refine WQ.ret1 rfl rfl H.ext ?_
      exact rfl
end Go.Proofs.YtogkmhjnojphiaaGreatDoor
end
section
set_option linter.unusedVariables false
set_option linter.unusedSimpArgs false
namespace Go.Proofs.YtogkmhjnojphiaaGreatDoor
open Go Go.RowKit Go.Ph
open Go.Ph.Gr Go.Ph.Utf Go.Ph.Chs
theorem units_spec (v : Value) (l : List UInt8) (hs : l.length ≤ 12000) : Ct Tryz.prog 161 [v] (fun M => Bs M v l) (fun r M => Sl M encR r (decW l)) := by
  refine Ct.of Tryz.func161 (enters Tryz.func161 (by kernel_rfl) rfl) rfl rfl rfl ?_
  intro w0 M0 H hp
  refine SQ (RG (WR.box [_] H rfl (One.cells (by first | exact One.slice _ _ _ | exact Sl.one (by assumption) | exact StX.rowOne H (by repeat (first | exact List.Mem.head _ | apply List.Mem.tail)))) (Wn.none rfl) rfl ?_))
  intro b1 w H
  obtain ⟨M, hle, hM, H⟩ := H.freezeBlk (by repeat first | exact .head | apply Rem.tail)
  replace hp := hp.mono hle
  have hcell : CellM M ⟨b1, 0, none⟩ v := ⟨rfl, _, _, _, hM, rfl⟩
  refine AS rfl rfl (NL (TN (SQ (RG (AS rfl rfl (NL (TN (SQ (RG (ST (Ex.makeFunc rfl) rfl (AS rfl rfl (NL (TN (SQ (SQ (RG (AS rfl rfl (NL (TN (BL ?_))))))))))))))))))))
  replace H := H.newRow 21 encR
  refine WC.loop3 (fun (i : Nat) (ov : Value) (o : List Int) => [(1, ptr b1 0), (3, ov), (4, .func (.func 189) #[] #[ptr b1 0]), (5, encN i)]) (fun (i : Nat) (ov : Value) (o : List Int) w => i ≤ l.length ∧ o.length ≤ i ∧ decW l = o ++ decW (l.drop i) ∧ ∃ M, St w0 M0 M [RowI 21 encR ov o] w ∧ Bs M v l ∧ CellM M ⟨b1, 0, none⟩ v) (fun (i : Nat) (ov : Value) (o : List Int) => l.length - i) (0) (_) (_) ⟨rfl, rfl, rfl, rfl, trivial⟩ (⟨by omega, by simp, rfl, M, H, hp, hcell⟩) ?_
  intro i ov o w
  rintro ⟨hi, hol, hdec, M, H, hp, hcell⟩
  refine SQ (SQ (RG (MV rfl rfl ?_)))
  first | refine WR.step (Ex.loadM H rfl (by assumption) Tryz.isAgg30) (Wn.none rfl) rfl rfl ?_ | refine WR.step (Ex.load1 H rfl (by repeat (first | exact List.Mem.head _ | apply List.Mem.tail)) Tryz.isAgg30 (by rfl)) (Wn.none rfl) rfl rfl ?_
  first | refine WR.step (Ex.lenSl Tryz.underlying30 (by assumption) rfl) (Wn.none rfl) rfl rfl ?_ | refine WR.step (Ex.lenRow Tryz.underlying30 H (by repeat (first | exact List.Mem.head _ | apply List.Mem.tail)) rfl) (Wn.none rfl) rfl rfl ?_ | refine WR.step (Ex.lenSlice Tryz.underlying30 rfl) (Wn.none rfl) rfl rfl ?_
  refine WR.split (Ex.lss rfl rfl) (Wn.none rfl) rfl rfl (fun h4_3 => ?_) (fun h4_3 => ?_)
  · obtain ⟨x, hx⟩ : ∃ c, l[i]? = some c := ⟨_, List.getElem?_eq_getElem (by omega)⟩
    refine NL (TN (CT rfl (SK (TN (SQ (BL (SQ (SQ (RG (MV rfl rfl (ST (Ex.add64 rfl rfl (by omega)) rfl ?_)))))))))))
    first | refine WR.step (Ex.loadM H rfl (by assumption) Tryz.isAgg30) (Wn.none rfl) rfl rfl ?_ | refine WR.step (Ex.load1 H rfl (by repeat (first | exact List.Mem.head _ | apply List.Mem.tail)) Tryz.isAgg30 (by rfl)) (Wn.none rfl) rfl rfl ?_
    first | refine WR.step (Ex.lenSl Tryz.underlying30 (by assumption) rfl) (Wn.none rfl) rfl rfl ?_ | refine WR.step (Ex.lenRow Tryz.underlying30 H (by repeat (first | exact List.Mem.head _ | apply List.Mem.tail)) rfl) (Wn.none rfl) rfl rfl ?_ | refine WR.step (Ex.lenSlice Tryz.underlying30 rfl) (Wn.none rfl) rfl rfl ?_
    refine WR.split (Ex.eql rfl rfl) (Wn.none rfl) rfl rfl (fun h6_4 => ?_) (fun h6_4 => ?_)
    · have hlast : l.drop i = [x] := by
        obtain ⟨e1, e2⟩ := List.getElem?_eq_some_iff.1 hx
        rw [List.drop_eq_getElem_cons e1, e2, List.drop_eq_nil_of_le (by omega)]
      refine NL (TN (CT rfl (SQ (RG (MV rfl rfl (WR.lit (enc := encR) ty170 [_] H rfl (by rfl) (fun _ => rfl) rfl rfl (Wn.none rfl) rfl ?_))))))
      intro v21 M w H hle hl21
      replace hp := hp.mono hle
      replace hcell := hcell.mono hle
      refine WR.appendSl ty170 (fun _ => rfl) H rfl (fun _ => by repeat first | exact .head | apply Upd.tail) rfl (by assumption) (by first | omega | (simp only [List.length_append, List.length_cons, List.length_nil, List.length_take, List.length_drop]; omega)) (by first | (simp only [maxLen]; omega) | (simp only [maxLen, List.length_append, List.length_cons, List.length_nil, List.length_take, List.length_drop]; omega)) (Wn.none rfl) rfl ?_
      intro v22 w H
      refine AS rfl rfl (NL (TN (RT ?_)))
      obtain ⟨M, hle, hf, H⟩ := H.freezeRow (v := v22) (enc := encR) (t := 21) (by repeat first | exact .head | apply Rem.tail)
      refine WQ.ret1 rfl rfl H.ext ( ?_)
      rw [hdec, hlast]
      simpa [decW] using hf
    · obtain ⟨y, hy⟩ : ∃ c, l[i + 1]? = some c := ⟨_, List.getElem?_eq_getElem (by omega)⟩
      have hd : l.drop i = x :: y :: l.drop (i + 2) := by
        obtain ⟨e1, e2⟩ := List.getElem?_eq_some_iff.1 hx
        obtain ⟨e3, e4⟩ := List.getElem?_eq_some_iff.1 hy
        rw [List.drop_eq_getElem_cons e1, e2, List.drop_eq_getElem_cons e3, e4]
      have hul := unit_lt x y
      refine NL (TN (CF rfl (SK (TN (SQ (RG (MV rfl rfl (MV rfl rfl (WR.callV (cap := [ptr b1 0]) H (unit_spec v l b1 i x y hs hx hy) rfl rfl (⟨by assumption, by assumption⟩) (Wn.none rfl) rfl ?_)))))))))
      intro v25 M w H hle hr25
      replace hp := hp.mono hle
      replace hcell := hcell.mono hle
      obtain rfl := hr25
      refine AS rfl rfl (NL (TN (SQ (SQ (RG (MV rfl rfl ?_))))))
      refine WR.split (Ex.geq rfl rfl) (Wn.none rfl) rfl rfl (fun h9_1 => ?_) (fun h9_1 => ?_)
      · refine MV rfl rfl (SG (Ex.move rfl) rfl rfl rfl ?_)
        refine WR.split (Ex.lss rfl rfl) (Wn.some rfl rfl rfl) rfl rfl (fun h9_4 => ?_) (fun h9_4 => ?_)
        · refine PT rfl rfl rfl (MV rfl rfl (SG (Ex.move rfl) rfl rfl rfl (SG (Ex.add64 rfl rfl (by omega)) rfl rfl rfl ?_)))
          first | refine WR.step (Ex.loadM H rfl (by assumption) Tryz.isAgg30) (Wn.some rfl rfl rfl) rfl rfl ?_ | refine WR.step (Ex.load1 H rfl (by repeat (first | exact List.Mem.head _ | apply List.Mem.tail)) Tryz.isAgg30 (by rfl)) (Wn.some rfl rfl rfl) rfl rfl ?_
          first | refine WR.step (Ex.lenSl Tryz.underlying30 (by assumption) rfl) (Wn.some rfl rfl rfl) rfl rfl ?_ | refine WR.step (Ex.lenRow Tryz.underlying30 H (by repeat (first | exact List.Mem.head _ | apply List.Mem.tail)) rfl) (Wn.some rfl rfl rfl) rfl rfl ?_ | refine WR.step (Ex.lenSlice Tryz.underlying30 rfl) (Wn.some rfl rfl rfl) rfl rfl ?_
          refine WR.split (Ex.lss rfl rfl) (Wn.some rfl rfl rfl) rfl rfl (fun h9_11 => ?_) (fun h9_11 => ?_)
          · obtain ⟨x2, hx2⟩ : ∃ c, l[i + 2]? = some c := ⟨_, List.getElem?_eq_getElem (by omega)⟩
            obtain ⟨y2, hy2⟩ : ∃ c, l[i + 3]? = some c := ⟨_, List.getElem?_eq_getElem (by omega)⟩
            have hd2 : l.drop (i + 2) = x2 :: y2 :: l.drop (i + 2 + 2) := by
              obtain ⟨e1, e2⟩ := List.getElem?_eq_some_iff.1 hx2
              obtain ⟨e3, e4⟩ := List.getElem?_eq_some_iff.1 hy2
              rw [List.drop_eq_getElem_cons e1, e2, List.drop_eq_getElem_cons e3, e4]
            have hul2 := unit_lt x2 y2
            refine PT rfl rfl rfl (NL (TN (CT rfl (SQ (RG (MV rfl rfl (MV rfl rfl (WR.stepE (v' := encN (i + 2)) (Ex.add64 rfl rfl (by omega)) rfl (Wn.none rfl) rfl rfl ?_))))))))
            refine WR.callV (cap := [ptr b1 0]) H (unit_spec v l b1 (i + 2) x2 y2 hs hx2 hy2) rfl rfl (⟨by assumption, by assumption⟩) (Wn.none rfl) rfl ?_
            intro v42 M w H hle hr42
            replace hp := hp.mono hle
            replace hcell := hcell.mono hle
            obtain rfl := hr42
            refine AS rfl rfl (NL (TN (SQ (RG (MV rfl rfl ?_)))))
            refine WR.split (Ex.geq rfl rfl) (Wn.none rfl) rfl rfl (fun h11_1 => ?_) (fun h11_1 => ?_)
            · refine MV rfl rfl (SG (Ex.move rfl) rfl rfl rfl ?_)
              refine WR.split (Ex.lss rfl rfl) (Wn.some rfl rfl rfl) rfl rfl (fun h11_4 => ?_) (fun h11_4 => ?_)
              · refine PT rfl rfl rfl (NL (TN (CT rfl (SQ (RG (MV rfl rfl (WR.stepE (v' := encR (((unit x y - 55296).toNat : Nat) : Int)) (Ex.subW rfl rfl (i32_in (by omega))) (congrArg encR (by omega)) (Wn.none rfl) rfl rfl ?_)))))))
                refine WR.stepE (v' := encR (1024 * (unit x y - 55296))) (Ex.shlK (m := (unit x y - 55296).toNat) (s := 10) rfl rfl (by decide)) (congrArg encR (by rw [i32_in (by omega)]; omega)) (Wn.none rfl) rfl rfl ?_
                refine ST (Ex.addW rfl rfl (i32_in (by omega))) rfl ?_
                refine MV rfl rfl (ST (Ex.addW rfl rfl (i32_in (by omega))) rfl ?_)
                refine ST (Ex.subW rfl rfl (i32_in (by omega))) rfl ?_
                refine AS rfl rfl (NL (TN (RG (MV rfl rfl (WR.stepE (v' := encN (i + 2)) (Ex.add64 rfl rfl (by omega)) rfl (Wn.none rfl) rfl rfl ?_)))))
                refine AS rfl rfl (NL (TN (SQ (SQ (RG (MV rfl rfl (WR.stepT (Ex.geq rfl rfl) (by omega) (Wn.none rfl) rfl rfl ?_)))))))
                refine MV rfl rfl (SG (Ex.move rfl) rfl rfl rfl (WR.stepF (Ex.lss rfl rfl) (by omega) (Wn.some rfl rfl rfl) rfl rfl ?_))
                refine PT rfl rfl rfl (NL (TN (CF rfl (SK (TN (RG (MV rfl rfl (MV rfl rfl (WR.lit (enc := encR) ty170 [_] H rfl (by rfl) (fun _ => rfl) rfl rfl (Wn.none rfl) rfl ?_)))))))))
                intro v66 M w H hle hl66
                replace hp := hp.mono hle
                replace hcell := hcell.mono hle
                refine WR.appendSl ty170 (fun _ => rfl) H rfl (fun _ => by repeat first | exact .head | apply Upd.tail) rfl (by assumption) (by first | omega | (simp only [List.length_append, List.length_cons, List.length_nil, List.length_take, List.length_drop]; omega)) (by first | (simp only [maxLen]; omega) | (simp only [maxLen, List.length_append, List.length_cons, List.length_nil, List.length_take, List.length_drop]; omega)) (Wn.none rfl) rfl ?_
                intro v67 w H
                refine AS rfl rfl (NL (IB (TN (RG (MV rfl rfl (WR.stepE (v' := encN (i + 2 + 2)) (Ex.add64 rfl rfl (by omega)) rfl (Wn.none rfl) rfl rfl ?_))))))
                refine AS rfl rfl (NL ?_)
                refine WQ.again3 (i + 2 + 2) (v67) (o ++ [65536 + 1024 * (unit x y - 55296) + unit x2 y2 - 56320]) ⟨rfl, rfl, rfl, rfl, trivial⟩ ?_ ?_
                · exact ⟨by omega, by simp; omega, by rw [hdec, hd, hd2, decW_pair ⟨h9_1, h9_4⟩ ⟨h11_1, h11_4⟩]; simp, M, H, hp, hcell⟩
                · omega
              · have hone : decW (x :: y :: l.drop (i + 2)) = unsur (unit x y) :: decW (l.drop (i + 2)) := decW_one (by
                  rintro ⟨_, c', d', r', hr, h3, h4⟩
                  rw [hd2] at hr
                  cases hr
                  omega)
                refine PT rfl rfl rfl (NL (TN (CF rfl (SK (TN (SQ (SQ (RG (MV rfl rfl ?_)))))))))
                refine WR.split (Ex.geq rfl rfl) (Wn.none rfl) rfl rfl (fun h14_1 => ?_) (fun h14_1 => ?_)
                · refine MV rfl rfl (SG (Ex.move rfl) rfl rfl rfl ?_)
                  refine WR.split (Ex.lss rfl rfl) (Wn.some rfl rfl rfl) rfl rfl (fun h14_4 => ?_) (fun h14_4 => ?_)
                  · refine PT rfl rfl rfl (NL (TN (CT rfl (RG (AS rfl rfl (NL (TN (RG (MV rfl rfl (MV rfl rfl (WR.lit (enc := encR) ty170 [_] H rfl (by rfl) (fun _ => rfl) rfl rfl (Wn.none rfl) rfl ?_)))))))))))
                    intro v66 M w H hle hl66
                    replace hp := hp.mono hle
                    replace hcell := hcell.mono hle
                    refine WR.appendSl ty170 (fun _ => rfl) H rfl (fun _ => by repeat first | exact .head | apply Upd.tail) rfl (by assumption) (by first | omega | (simp only [List.length_append, List.length_cons, List.length_nil, List.length_take, List.length_drop]; omega)) (by first | (simp only [maxLen]; omega) | (simp only [maxLen, List.length_append, List.length_cons, List.length_nil, List.length_take, List.length_drop]; omega)) (Wn.none rfl) rfl ?_
                    intro v67 w H
                    refine AS rfl rfl (NL (IB (TN (RG (MV rfl rfl (WR.stepE (v' := encN (i + 2)) (Ex.add64 rfl rfl (by omega)) rfl (Wn.none rfl) rfl rfl ?_))))))
                    refine AS rfl rfl (NL ?_)
                    refine WQ.again3 (i + 2) (v67) (o ++ [65533]) ⟨rfl, rfl, rfl, rfl, trivial⟩ ?_ ?_
                    · exact ⟨by omega, by simp; omega, by rw [hdec, hd, hone, unsur, if_pos ⟨h14_1, h14_4⟩]; simp, M, H, hp, hcell⟩
                    · omega
                  · refine PT rfl rfl rfl (NL (TN (CF rfl (SK (TN (RG (MV rfl rfl (MV rfl rfl (WR.lit (enc := encR) ty170 [_] H rfl (by rfl) (fun _ => rfl) rfl rfl (Wn.none rfl) rfl ?_)))))))))
                    intro v66 M w H hle hl66
                    replace hp := hp.mono hle
                    replace hcell := hcell.mono hle
                    refine WR.appendSl ty170 (fun _ => rfl) H rfl (fun _ => by repeat first | exact .head | apply Upd.tail) rfl (by assumption) (by first | omega | (simp only [List.length_append, List.length_cons, List.length_nil, List.length_take, List.length_drop]; omega)) (by first | (simp only [maxLen]; omega) | (simp only [maxLen, List.length_append, List.length_cons, List.length_nil, List.length_take, List.length_drop]; omega)) (Wn.none rfl) rfl ?_
                    intro v67 w H
                    refine AS rfl rfl (NL (IB (TN (RG (MV rfl rfl (WR.stepE (v' := encN (i + 2)) (Ex.add64 rfl rfl (by omega)) rfl (Wn.none rfl) rfl rfl ?_))))))
                    refine AS rfl rfl (NL ?_)
                    refine WQ.again3 (i + 2) (v67) (o ++ [unit x y]) ⟨rfl, rfl, rfl, rfl, trivial⟩ ?_ ?_
                    · exact ⟨by omega, by simp; omega, by rw [hdec, hd, hone, unsur, if_neg (by omega)]; simp, M, H, hp, hcell⟩
                    · omega
                · refine MV rfl rfl (GF rfl rfl rfl (GF rfl rfl rfl (PF rfl rfl rfl (NL (TN (CF rfl (SK (TN (RG (MV rfl rfl (MV rfl rfl (WR.lit (enc := encR) ty170 [_] H rfl (by rfl) (fun _ => rfl) rfl rfl (Wn.none rfl) rfl ?_))))))))))))
                  intro v66 M w H hle hl66
                  replace hp := hp.mono hle
                  replace hcell := hcell.mono hle
                  refine WR.appendSl ty170 (fun _ => rfl) H rfl (fun _ => by repeat first | exact .head | apply Upd.tail) rfl (by assumption) (by first | omega | (simp only [List.length_append, List.length_cons, List.length_nil, List.length_take, List.length_drop]; omega)) (by first | (simp only [maxLen]; omega) | (simp only [maxLen, List.length_append, List.length_cons, List.length_nil, List.length_take, List.length_drop]; omega)) (Wn.none rfl) rfl ?_
                  intro v67 w H
                  refine AS rfl rfl (NL (IB (TN (RG (MV rfl rfl (WR.stepE (v' := encN (i + 2)) (Ex.add64 rfl rfl (by omega)) rfl (Wn.none rfl) rfl rfl ?_))))))
                  refine AS rfl rfl (NL ?_)
                  refine WQ.again3 (i + 2) (v67) (o ++ [unit x y]) ⟨rfl, rfl, rfl, rfl, trivial⟩ ?_ ?_
                  · exact ⟨by omega, by simp; omega, by rw [hdec, hd, hone, unsur, if_neg (by omega)]; simp, M, H, hp, hcell⟩
                  · omega
            · have hone : decW (x :: y :: l.drop (i + 2)) = unsur (unit x y) :: decW (l.drop (i + 2)) := decW_one (by
                rintro ⟨_, c', d', r', hr, h3, h4⟩
                rw [hd2] at hr
                cases hr
                omega)
              refine MV rfl rfl (GF rfl rfl rfl (GF rfl rfl rfl (PF rfl rfl rfl (NL (TN (CF rfl (SK (TN (SQ (SQ (RG (MV rfl rfl ?_))))))))))))
              refine WR.split (Ex.geq rfl rfl) (Wn.none rfl) rfl rfl (fun h14_1 => ?_) (fun h14_1 => ?_)
              · refine MV rfl rfl (SG (Ex.move rfl) rfl rfl rfl ?_)
                refine WR.split (Ex.lss rfl rfl) (Wn.some rfl rfl rfl) rfl rfl (fun h14_4 => ?_) (fun h14_4 => ?_)
                · refine PT rfl rfl rfl (NL (TN (CT rfl (RG (AS rfl rfl (NL (TN (RG (MV rfl rfl (MV rfl rfl (WR.lit (enc := encR) ty170 [_] H rfl (by rfl) (fun _ => rfl) rfl rfl (Wn.none rfl) rfl ?_)))))))))))
                  intro v66 M w H hle hl66
                  replace hp := hp.mono hle
                  replace hcell := hcell.mono hle
                  refine WR.appendSl ty170 (fun _ => rfl) H rfl (fun _ => by repeat first | exact .head | apply Upd.tail) rfl (by assumption) (by first | omega | (simp only [List.length_append, List.length_cons, List.length_nil, List.length_take, List.length_drop]; omega)) (by first | (simp only [maxLen]; omega) | (simp only [maxLen, List.length_append, List.length_cons, List.length_nil, List.length_take, List.length_drop]; omega)) (Wn.none rfl) rfl ?_
                  intro v67 w H
                  refine AS rfl rfl (NL (IB (TN (RG (MV rfl rfl (WR.stepE (v' := encN (i + 2)) (Ex.add64 rfl rfl (by omega)) rfl (Wn.none rfl) rfl rfl ?_))))))
                  refine AS rfl rfl (NL ?_)
                  refine WQ.again3 (i + 2) (v67) (o ++ [65533]) ⟨rfl, rfl, rfl, rfl, trivial⟩ ?_ ?_
                  · exact ⟨by omega, by simp; omega, by rw [hdec, hd, hone, unsur, if_pos ⟨h14_1, h14_4⟩]; simp, M, H, hp, hcell⟩
                  · omega
                · refine PT rfl rfl rfl (NL (TN (CF rfl (SK (TN (RG (MV rfl rfl (MV rfl rfl (WR.lit (enc := encR) ty170 [_] H rfl (by rfl) (fun _ => rfl) rfl rfl (Wn.none rfl) rfl ?_)))))))))
                  intro v66 M w H hle hl66
                  replace hp := hp.mono hle
                  replace hcell := hcell.mono hle
                  refine WR.appendSl ty170 (fun _ => rfl) H rfl (fun _ => by repeat first | exact .head | apply Upd.tail) rfl (by assumption) (by first | omega | (simp only [List.length_append, List.length_cons, List.length_nil, List.length_take, List.length_drop]; omega)) (by first | (simp only [maxLen]; omega) | (simp only [maxLen, List.length_append, List.length_cons, List.length_nil, List.length_take, List.length_drop]; omega)) (Wn.none rfl) rfl ?_
                  intro v67 w H
                  refine AS rfl rfl (NL (IB (TN (RG (MV rfl rfl (WR.stepE (v' := encN (i + 2)) (Ex.add64 rfl rfl (by omega)) rfl (Wn.none rfl) rfl rfl ?_))))))
                  refine AS rfl rfl (NL ?_)
                  refine WQ.again3 (i + 2) (v67) (o ++ [unit x y]) ⟨rfl, rfl, rfl, rfl, trivial⟩ ?_ ?_
                  · exact ⟨by omega, by simp; omega, by rw [hdec, hd, hone, unsur, if_neg (by omega)]; simp, M, H, hp, hcell⟩
                  · omega
              · refine MV rfl rfl (GF rfl rfl rfl (GF rfl rfl rfl (PF rfl rfl rfl (NL (TN (CF rfl (SK (TN (RG (MV rfl rfl (MV rfl rfl (WR.lit (enc := encR) ty170 [_] H rfl (by rfl) (fun _ => rfl) rfl rfl (Wn.none rfl) rfl ?_))))))))))))
                intro v66 M w H hle hl66
                replace hp := hp.mono hle
                replace hcell := hcell.mono hle
                refine WR.appendSl ty170 (fun _ => rfl) H rfl (fun _ => by repeat first | exact .head | apply Upd.tail) rfl (by assumption) (by first | omega | (simp only [List.length_append, List.length_cons, List.length_nil, List.length_take, List.length_drop]; omega)) (by first | (simp only [maxLen]; omega) | (simp only [maxLen, List.length_append, List.length_cons, List.length_nil, List.length_take, List.length_drop]; omega)) (Wn.none rfl) rfl ?_
                intro v67 w H
                refine AS rfl rfl (NL (IB (TN (RG (MV rfl rfl (WR.stepE (v' := encN (i + 2)) (Ex.add64 rfl rfl (by omega)) rfl (Wn.none rfl) rfl rfl ?_))))))
                refine AS rfl rfl (NL ?_)
                refine WQ.again3 (i + 2) (v67) (o ++ [unit x y]) ⟨rfl, rfl, rfl, rfl, trivial⟩ ?_ ?_
                · exact ⟨by omega, by simp; omega, by rw [hdec, hd, hone, unsur, if_neg (by omega)]; simp, M, H, hp, hcell⟩
                · omega
          · have hone : decW (x :: y :: l.drop (i + 2)) = unsur (unit x y) :: decW (l.drop (i + 2)) := decW_one (by
              rintro ⟨_, c', d', r', hr, _⟩
              have := congrArg List.length hr
              rw [List.length_drop] at this
              simp at this
              omega)
            refine PT rfl rfl rfl (NL (TN (CF rfl (SK (TN (SQ (SQ (RG (MV rfl rfl ?_)))))))))
            refine WR.split (Ex.geq rfl rfl) (Wn.none rfl) rfl rfl (fun h14_1 => ?_) (fun h14_1 => ?_)
            · refine MV rfl rfl (SG (Ex.move rfl) rfl rfl rfl ?_)
              refine WR.split (Ex.lss rfl rfl) (Wn.some rfl rfl rfl) rfl rfl (fun h14_4 => ?_) (fun h14_4 => ?_)
              · refine PT rfl rfl rfl (NL (TN (CT rfl (RG (AS rfl rfl (NL (TN (RG (MV rfl rfl (MV rfl rfl (WR.lit (enc := encR) ty170 [_] H rfl (by rfl) (fun _ => rfl) rfl rfl (Wn.none rfl) rfl ?_)))))))))))
                intro v66 M w H hle hl66
                replace hp := hp.mono hle
                replace hcell := hcell.mono hle
                refine WR.appendSl ty170 (fun _ => rfl) H rfl (fun _ => by repeat first | exact .head | apply Upd.tail) rfl (by assumption) (by first | omega | (simp only [List.length_append, List.length_cons, List.length_nil, List.length_take, List.length_drop]; omega)) (by first | (simp only [maxLen]; omega) | (simp only [maxLen, List.length_append, List.length_cons, List.length_nil, List.length_take, List.length_drop]; omega)) (Wn.none rfl) rfl ?_
                intro v67 w H
                refine AS rfl rfl (NL (IB (TN (RG (MV rfl rfl (WR.stepE (v' := encN (i + 2)) (Ex.add64 rfl rfl (by omega)) rfl (Wn.none rfl) rfl rfl ?_))))))
                refine AS rfl rfl (NL ?_)
                refine WQ.again3 (i + 2) (v67) (o ++ [65533]) ⟨rfl, rfl, rfl, rfl, trivial⟩ ?_ ?_
                · exact ⟨by omega, by simp; omega, by rw [hdec, hd, hone, unsur, if_pos ⟨h14_1, h14_4⟩]; simp, M, H, hp, hcell⟩
                · omega
              · refine PT rfl rfl rfl (NL (TN (CF rfl (SK (TN (RG (MV rfl rfl (MV rfl rfl (WR.lit (enc := encR) ty170 [_] H rfl (by rfl) (fun _ => rfl) rfl rfl (Wn.none rfl) rfl ?_)))))))))
                intro v66 M w H hle hl66
                replace hp := hp.mono hle
                replace hcell := hcell.mono hle
                refine WR.appendSl ty170 (fun _ => rfl) H rfl (fun _ => by repeat first | exact .head | apply Upd.tail) rfl (by assumption) (by first | omega | (simp only [List.length_append, List.length_cons, List.length_nil, List.length_take, List.length_drop]; omega)) (by first | (simp only [maxLen]; omega) | (simp only [maxLen, List.length_append, List.length_cons, List.length_nil, List.length_take, List.length_drop]; omega)) (Wn.none rfl) rfl ?_
                intro v67 w H
                refine AS rfl rfl (NL (IB (TN (RG (MV rfl rfl (WR.stepE (v' := encN (i + 2)) (Ex.add64 rfl rfl (by omega)) rfl (Wn.none rfl) rfl rfl ?_))))))
                refine AS rfl rfl (NL ?_)
                refine WQ.again3 (i + 2) (v67) (o ++ [unit x y]) ⟨rfl, rfl, rfl, rfl, trivial⟩ ?_ ?_
                · exact ⟨by omega, by simp; omega, by rw [hdec, hd, hone, unsur, if_neg (by omega)]; simp, M, H, hp, hcell⟩
                · omega
            · refine MV rfl rfl (GF rfl rfl rfl (GF rfl rfl rfl (PF rfl rfl rfl (NL (TN (CF rfl (SK (TN (RG (MV rfl rfl (MV rfl rfl (WR.lit (enc := encR) ty170 [_] H rfl (by rfl) (fun _ => rfl) rfl rfl (Wn.none rfl) rfl ?_))))))))))))
              intro v66 M w H hle hl66
              replace hp := hp.mono hle
              replace hcell := hcell.mono hle
              refine WR.appendSl ty170 (fun _ => rfl) H rfl (fun _ => by repeat first | exact .head | apply Upd.tail) rfl (by assumption) (by first | omega | (simp only [List.length_append, List.length_cons, List.length_nil, List.length_take, List.length_drop]; omega)) (by first | (simp only [maxLen]; omega) | (simp only [maxLen, List.length_append, List.length_cons, List.length_nil, List.length_take, List.length_drop]; omega)) (Wn.none rfl) rfl ?_
              intro v67 w H
              refine AS rfl rfl (NL (IB (TN (RG (MV rfl rfl (WR.stepE (v' := encN (i + 2)) (Ex.add64 rfl rfl (by omega)) rfl (Wn.none rfl) rfl rfl ?_))))))
              refine AS rfl rfl (NL ?_)
              refine WQ.again3 (i + 2) (v67) (o ++ [unit x y]) ⟨rfl, rfl, rfl, rfl, trivial⟩ ?_ ?_
              · exact ⟨by omega, by simp; omega, by rw [hdec, hd, hone, unsur, if_neg (by omega)]; simp, M, H, hp, hcell⟩
              · omega
        · have hone : decW (x :: y :: l.drop (i + 2)) = unsur (unit x y) :: decW (l.drop (i + 2)) := decW_one (fun h => absurd h.1.2 h9_4)
          refine PT rfl rfl rfl (MV rfl rfl (GF rfl rfl rfl (GF rfl rfl rfl (GF rfl rfl rfl (GF rfl rfl rfl (GF rfl rfl rfl (PF rfl rfl rfl (NL (TN (CF rfl (SK (TN (SQ (SQ (RG (MV rfl rfl ?_))))))))))))))))
          refine WR.split (Ex.geq rfl rfl) (Wn.none rfl) rfl rfl (fun h14_1 => ?_) (fun h14_1 => ?_)
          · refine MV rfl rfl (SG (Ex.move rfl) rfl rfl rfl ?_)
            refine WR.split (Ex.lss rfl rfl) (Wn.some rfl rfl rfl) rfl rfl (fun h14_4 => ?_) (fun h14_4 => ?_)
            · refine PT rfl rfl rfl (NL (TN (CT rfl (RG (AS rfl rfl (NL (TN (RG (MV rfl rfl (MV rfl rfl (WR.lit (enc := encR) ty170 [_] H rfl (by rfl) (fun _ => rfl) rfl rfl (Wn.none rfl) rfl ?_)))))))))))
              intro v66 M w H hle hl66
              replace hp := hp.mono hle
              replace hcell := hcell.mono hle
              refine WR.appendSl ty170 (fun _ => rfl) H rfl (fun _ => by repeat first | exact .head | apply Upd.tail) rfl (by assumption) (by first | omega | (simp only [List.length_append, List.length_cons, List.length_nil, List.length_take, List.length_drop]; omega)) (by first | (simp only [maxLen]; omega) | (simp only [maxLen, List.length_append, List.length_cons, List.length_nil, List.length_take, List.length_drop]; omega)) (Wn.none rfl) rfl ?_
              intro v67 w H
              refine AS rfl rfl (NL (IB (TN (RG (MV rfl rfl (WR.stepE (v' := encN (i + 2)) (Ex.add64 rfl rfl (by omega)) rfl (Wn.none rfl) rfl rfl ?_))))))
              refine AS rfl rfl (NL ?_)
              refine WQ.again3 (i + 2) (v67) (o ++ [65533]) ⟨rfl, rfl, rfl, rfl, trivial⟩ ?_ ?_
              · exact ⟨by omega, by simp; omega, by rw [hdec, hd, hone, unsur, if_pos ⟨h14_1, h14_4⟩]; simp, M, H, hp, hcell⟩
              · omega
            · refine PT rfl rfl rfl (NL (TN (CF rfl (SK (TN (RG (MV rfl rfl (MV rfl rfl (WR.lit (enc := encR) ty170 [_] H rfl (by rfl) (fun _ => rfl) rfl rfl (Wn.none rfl) rfl ?_)))))))))
              intro v66 M w H hle hl66
              replace hp := hp.mono hle
              replace hcell := hcell.mono hle
              refine WR.appendSl ty170 (fun _ => rfl) H rfl (fun _ => by repeat first | exact .head | apply Upd.tail) rfl (by assumption) (by first | omega | (simp only [List.length_append, List.length_cons, List.length_nil, List.length_take, List.length_drop]; omega)) (by first | (simp only [maxLen]; omega) | (simp only [maxLen, List.length_append, List.length_cons, List.length_nil, List.length_take, List.length_drop]; omega)) (Wn.none rfl) rfl ?_
              intro v67 w H
              refine AS rfl rfl (NL (IB (TN (RG (MV rfl rfl (WR.stepE (v' := encN (i + 2)) (Ex.add64 rfl rfl (by omega)) rfl (Wn.none rfl) rfl rfl ?_))))))
              refine AS rfl rfl (NL ?_)
              refine WQ.again3 (i + 2) (v67) (o ++ [unit x y]) ⟨rfl, rfl, rfl, rfl, trivial⟩ ?_ ?_
              · exact ⟨by omega, by simp; omega, by rw [hdec, hd, hone, unsur, if_neg (by omega)]; simp, M, H, hp, hcell⟩
              · omega
          · refine MV rfl rfl (GF rfl rfl rfl (GF rfl rfl rfl (PF rfl rfl rfl (NL (TN (CF rfl (SK (TN (RG (MV rfl rfl (MV rfl rfl (WR.lit (enc := encR) ty170 [_] H rfl (by rfl) (fun _ => rfl) rfl rfl (Wn.none rfl) rfl ?_))))))))))))
            intro v66 M w H hle hl66
            replace hp := hp.mono hle
            replace hcell := hcell.mono hle
            refine WR.appendSl ty170 (fun _ => rfl) H rfl (fun _ => by repeat first | exact .head | apply Upd.tail) rfl (by assumption) (by first | omega | (simp only [List.length_append, List.length_cons, List.length_nil, List.length_take, List.length_drop]; omega)) (by first | (simp only [maxLen]; omega) | (simp only [maxLen, List.length_append, List.length_cons, List.length_nil, List.length_take, List.length_drop]; omega)) (Wn.none rfl) rfl ?_
            intro v67 w H
            refine AS rfl rfl (NL (IB (TN (RG (MV rfl rfl (WR.stepE (v' := encN (i + 2)) (Ex.add64 rfl rfl (by omega)) rfl (Wn.none rfl) rfl rfl ?_))))))
            refine AS rfl rfl (NL ?_)
            refine WQ.again3 (i + 2) (v67) (o ++ [unit x y]) ⟨rfl, rfl, rfl, rfl, trivial⟩ ?_ ?_
            · exact ⟨by omega, by simp; omega, by rw [hdec, hd, hone, unsur, if_neg (by omega)]; simp, M, H, hp, hcell⟩
            · omega
      · have hone : decW (x :: y :: l.drop (i + 2)) = unsur (unit x y) :: decW (l.drop (i + 2)) := decW_one (fun h => absurd h.1.1 h9_1)
        refine MV rfl rfl (GF rfl rfl rfl (GF rfl rfl rfl (PF rfl rfl rfl (MV rfl rfl (GF rfl rfl rfl (GF rfl rfl rfl (GF rfl rfl rfl (GF rfl rfl rfl (GF rfl rfl rfl (PF rfl rfl rfl (NL (TN (CF rfl (SK (TN (SQ (SQ (RG (MV rfl rfl ?_)))))))))))))))))))
        refine WR.split (Ex.geq rfl rfl) (Wn.none rfl) rfl rfl (fun h14_1 => ?_) (fun h14_1 => ?_)
        · refine MV rfl rfl (SG (Ex.move rfl) rfl rfl rfl ?_)
          refine WR.split (Ex.lss rfl rfl) (Wn.some rfl rfl rfl) rfl rfl (fun h14_4 => ?_) (fun h14_4 => ?_)
          · refine PT rfl rfl rfl (NL (TN (CT rfl (RG (AS rfl rfl (NL (TN (RG (MV rfl rfl (MV rfl rfl (WR.lit (enc := encR) ty170 [_] H rfl (by rfl) (fun _ => rfl) rfl rfl (Wn.none rfl) rfl ?_)))))))))))
            intro v66 M w H hle hl66
            replace hp := hp.mono hle
            replace hcell := hcell.mono hle
            refine WR.appendSl ty170 (fun _ => rfl) H rfl (fun _ => by repeat first | exact .head | apply Upd.tail) rfl (by assumption) (by first | omega | (simp only [List.length_append, List.length_cons, List.length_nil, List.length_take, List.length_drop]; omega)) (by first | (simp only [maxLen]; omega) | (simp only [maxLen, List.length_append, List.length_cons, List.length_nil, List.length_take, List.length_drop]; omega)) (Wn.none rfl) rfl ?_
            intro v67 w H
            refine AS rfl rfl (NL (IB (TN (RG (MV rfl rfl (WR.stepE (v' := encN (i + 2)) (Ex.add64 rfl rfl (by omega)) rfl (Wn.none rfl) rfl rfl ?_))))))
            refine AS rfl rfl (NL ?_)
            refine WQ.again3 (i + 2) (v67) (o ++ [65533]) ⟨rfl, rfl, rfl, rfl, trivial⟩ ?_ ?_
            · exact ⟨by omega, by simp; omega, by rw [hdec, hd, hone, unsur, if_pos ⟨h14_1, h14_4⟩]; simp, M, H, hp, hcell⟩
            · omega
          · refine PT rfl rfl rfl (NL (TN (CF rfl (SK (TN (RG (MV rfl rfl (MV rfl rfl (WR.lit (enc := encR) ty170 [_] H rfl (by rfl) (fun _ => rfl) rfl rfl (Wn.none rfl) rfl ?_)))))))))
            intro v66 M w H hle hl66
            replace hp := hp.mono hle
            replace hcell := hcell.mono hle
            refine WR.appendSl ty170 (fun _ => rfl) H rfl (fun _ => by repeat first | exact .head | apply Upd.tail) rfl (by assumption) (by first | omega | (simp only [List.length_append, List.length_cons, List.length_nil, List.length_take, List.length_drop]; omega)) (by first | (simp only [maxLen]; omega) | (simp only [maxLen, List.length_append, List.length_cons, List.length_nil, List.length_take, List.length_drop]; omega)) (Wn.none rfl) rfl ?_
            intro v67 w H
            refine AS rfl rfl (NL (IB (TN (RG (MV rfl rfl (WR.stepE (v' := encN (i + 2)) (Ex.add64 rfl rfl (by omega)) rfl (Wn.none rfl) rfl rfl ?_))))))
            refine AS rfl rfl (NL ?_)
            refine WQ.again3 (i + 2) (v67) (o ++ [unit x y]) ⟨rfl, rfl, rfl, rfl, trivial⟩ ?_ ?_
            · exact ⟨by omega, by simp; omega, by rw [hdec, hd, hone, unsur, if_neg (by omega)]; simp, M, H, hp, hcell⟩
            · omega
        · refine MV rfl rfl (GF rfl rfl rfl (GF rfl rfl rfl (PF rfl rfl rfl (NL (TN (CF rfl (SK (TN (RG (MV rfl rfl (MV rfl rfl (WR.lit (enc := encR) ty170 [_] H rfl (by rfl) (fun _ => rfl) rfl rfl (Wn.none rfl) rfl ?_))))))))))))
          intro v66 M w H hle hl66
          replace hp := hp.mono hle
          replace hcell := hcell.mono hle
          refine WR.appendSl ty170 (fun _ => rfl) H rfl (fun _ => by repeat first | exact .head | apply Upd.tail) rfl (by assumption) (by first | omega | (simp only [List.length_append, List.length_cons, List.length_nil, List.length_take, List.length_drop]; omega)) (by first | (simp only [maxLen]; omega) | (simp only [maxLen, List.length_append, List.length_cons, List.length_nil, List.length_take, List.length_drop]; omega)) (Wn.none rfl) rfl ?_
          intro v67 w H
          refine AS rfl rfl (NL (IB (TN (RG (MV rfl rfl (WR.stepE (v' := encN (i + 2)) (Ex.add64 rfl rfl (by omega)) rfl (Wn.none rfl) rfl rfl ?_))))))
          refine AS rfl rfl (NL ?_)
          refine WQ.again3 (i + 2) (v67) (o ++ [unit x y]) ⟨rfl, rfl, rfl, rfl, trivial⟩ ?_ ?_
          · exact ⟨by omega, by simp; omega, by rw [hdec, hd, hone, unsur, if_neg (by omega)]; simp, M, H, hp, hcell⟩
          · omega
  · have hend : decW l = o := by rw [hdec, List.drop_eq_nil_of_le (by omega)]; simp [decW]
    refine NL (TN (CF rfl (WC.exit (WQ.thenExit (WQ.thenExit (WQ.exitHere (TN (SQ (RG (MV rfl rfl (AS rfl rfl (NL (TN (RT ?_))))))))))))))
    obtain ⟨M, hle, hf, H⟩ := H.freezeRow (v := ov) (enc := encR) (t := 21) (by repeat first | exact .head | apply Rem.tail)
    refine WQ.ret1 rfl rfl H.ext ( ?_)
    rw [hend]
    exact hf
theorem ub_mod (a : Int) : ub (a % 256) = ub a := by
  unfold ub; rw [Int.emod_emod_of_dvd _ (Int.dvd_refl 256)]
theorem encK0 : encK 0 = encS 128 := rfl
theorem encK1 : encK 1 = encS 256 := rfl
theorem encK2 : encK 2 = encU := rfl
theorem encK3 : encK 3 = encW := rfl
def encWb (c : Int) : List UInt8 := if c < 65536 then [ub (c / 256), ub (c % 256)] else [ub (hiS c / 256), ub (hiS c % 256), ub (loS c / 256), ub (loS c % 256)]
theorem hiS_nat {m : Nat} (h : 65536 ≤ m) : hiS (m : Int) = ((55296 + (m - 65536) / 2 ^ 10 : Nat) : Int) := by unfold hiS; omega
theorem loS_nat {m : Nat} (h : 65536 ≤ m) : loS (m : Int) = ((56320 + (m - 65536) % 1024 : Nat) : Int) := by unfold loS; omega
theorem div256 (n : Nat) : ((n / 2 ^ 8 : Nat) : Int) = (n : Int) / 256 := by omega
theorem double_spec (m : Nat) (hm : m ≤ 1114111) : Ct Tryz.prog 162 [encR (m : Int)] (fun _ => True) (fun r M => ∃ v, r = .tuple #[v, .bool true] ∧ Bs M v (encWb (m : Int))) := by
  refine Ct.of Tryz.func162 (enters Tryz.func162 (by kernel_rfl) rfl) rfl rfl rfl ?_
  intro w0 M0 H hp
  refine SQ (RG (AS rfl rfl (AS rfl rfl (NL (TN (SQ (SQ (RG (MV rfl rfl ?_)))))))))
  refine WR.split (Ex.lss rfl rfl) (Wn.none rfl) rfl rfl (fun h1_1 => ?_) (fun h1_1 => ?_)
  · refine NL (TN (CT rfl (SQ (RG (MV rfl rfl (ST (Ex.shrN (m := m) (s := 8) rfl rfl (by first | (show _ ≤ 64; omega) | (show _ ≤ 8; omega) | decide)) rfl ?_))))))
    refine ST (Ex.convU8 Tryz.underlying21 Tryz.underlying5 rfl) rfl (MV rfl rfl (ST (Ex.convU8 Tryz.underlying21 Tryz.underlying5 rfl) rfl (WR.lit (enc := encB) ty30 [_, _] H rfl (by rfl) (fun _ => rfl) rfl rfl (Wn.none rfl) rfl ?_)))
    intro v13 M w H hle hl13
    refine AS rfl rfl (AS rfl rfl (NL (TN (RT ?_))))
    refine WQ.ret2 rfl rfl rfl H.ext ?_
    refine ⟨_, rfl, ?_⟩
    unfold encWb
    rw [if_pos (by omega), ub_mod, ← div256]
    exact hl13
  · refine NL (TN (CF rfl (SK (TN (SQ (RG (MV rfl rfl (WR.stepE (v' := encR ((m - 65536 : Nat) : Int)) (Ex.subW rfl rfl (i32_in (by omega))) (congrArg encR (by omega)) (Wn.none rfl) rfl rfl ?_))))))))
    refine AS rfl rfl (NL (TN (SQ (RG (MV rfl rfl (ST (Ex.shrN (m := (m - 65536)) (s := 10) rfl rfl (by first | (show _ ≤ 64; omega) | (show _ ≤ 8; omega) | decide)) rfl ?_))))))
    refine WR.stepE (v' := encR ((55296 + (m - 65536) / 2 ^ 10 : Nat) : Int)) (Ex.addW rfl rfl (i32_in (by omega))) (congrArg encR (by omega)) (Wn.none rfl) rfl rfl ?_
    refine MV rfl rfl (WR.stepE (v' := encR (((m - 65536) % 1024 : Nat) : Int)) (Ex.andK (m := (m - 65536)) (s := 1023) rfl rfl (by first | decide | (show _ < 256; omega) | (show _ < 4294967296; omega) | (show _ < 18446744073709551616; omega)) (by first | decide | (show _ < 256; omega) | (show _ < 4294967296; omega) | (show _ < 18446744073709551616; omega))) (congrArg encR (by rw [Nat.and_two_pow_sub_one_eq_mod (m - 65536) 10]; exact i32_in (by omega))) (Wn.none rfl) rfl rfl ?_)
    refine WR.stepE (v' := encR ((56320 + (m - 65536) % 1024 : Nat) : Int)) (Ex.addW rfl rfl (i32_in (by omega))) (congrArg encR (by omega)) (Wn.none rfl) rfl rfl ?_
    refine AS rfl rfl (AS rfl rfl (NL (TN (SQ (RG (MV rfl rfl (ST (Ex.shrN (m := (55296 + (m - 65536) / 2 ^ 10)) (s := 8) rfl rfl (by first | (show _ ≤ 64; omega) | (show _ ≤ 8; omega) | decide)) rfl ?_)))))))
    refine ST (Ex.convU8 Tryz.underlying21 Tryz.underlying5 rfl) rfl (MV rfl rfl (ST (Ex.convU8 Tryz.underlying21 Tryz.underlying5 rfl) rfl (MV rfl rfl (ST (Ex.shrN (m := (56320 + (m - 65536) % 1024)) (s := 8) rfl rfl (by first | (show _ ≤ 64; omega) | (show _ ≤ 8; omega) | decide)) rfl ?_))))
    refine ST (Ex.convU8 Tryz.underlying21 Tryz.underlying5 rfl) rfl (MV rfl rfl (ST (Ex.convU8 Tryz.underlying21 Tryz.underlying5 rfl) rfl (WR.lit (enc := encB) ty30 [_, _, _, _] H rfl (by rfl) (fun _ => rfl) rfl rfl (Wn.none rfl) rfl ?_)))
    intro v32 M w H hle hl32
    refine AS rfl rfl (AS rfl rfl (NL (TN (RT ?_))))
    refine WQ.ret2 rfl rfl rfl H.ext ?_
    refine ⟨_, rfl, ?_⟩
    unfold encWb
    rw [if_neg (by omega), ub_mod, ub_mod, hiS_nat (by omega), loS_nat (by omega), ← div256, ← div256]
    exact hl32
theorem single_spec (nm : List UInt8) (bound : Int) : Ct Tryz.prog 157 [S nm, encR bound] (fun _ => True) (fun r M => ∃ b, r = .agg #[S nm, .func (.func 186) #[] #[ptr b 0], .func (.func 187) #[] #[ptr b 0]] ∧ CellM M ⟨b, 0, none⟩ (encR bound)) := by
  refine Ct.of Tryz.func157 (enters Tryz.func157 (by kernel_rfl) rfl) rfl rfl rfl ?_
  intro w0 M0 H hp
  refine SQ (RG (WR.box [_] H rfl rfl (Wn.none rfl) rfl ?_))
  intro b3 w H
  refine WR.alloc [_, _, _] H Tryz.zeroValue156 rfl (Wn.none rfl) rfl ?_
  intro b4 w H
  refine NL (TN (SQ (RG (MV rfl rfl (ST (Ex.makeFunc rfl) rfl (ST (Ex.makeFunc rfl) rfl (ST (Ex.build [_, _, _] Tryz.underlying156 Tryz.zeroValue156 (places156 Tryz.underlying156) rfl rfl) rfl (WR.store [_, _, _] H rfl rfl rfl (by repeat first | exact .head | apply Upd.tail) Tryz.sizeOf156 rfl (by rfl) (by rfl) (Wn.none rfl) ?_))))))))
  intro w H
  refine NL (TN (RT ?_))
  obtain ⟨M, hle, hM, H⟩ := H.freezeBlk (b := b3) (by repeat first | exact .head | apply Rem.tail)
  refine WQ.ret1 rfl ⟨_, rfl, H.loadAgg (by repeat (first | exact List.Mem.head _ | apply List.Mem.tail)) Tryz.isAgg156 Tryz.sizeOf156 (by rfl)⟩ H.ext ?_
  exact ⟨b3, rfl, rfl, _, _, _, hM, rfl⟩
theorem ty185 : ElemTy Tryz.prog 185 156 (.agg #[.string ⟨#[]⟩, .nilFunc, .nilFunc]) 3 32 := ElemTy.mk' Tryz.underlying185 (by kernel_rfl) rfl (by decide)
abbrev encT (s : Value × Value × Value) : List Value := [s.1, s.2.1, s.2.2]
def rowsV (b0 b1 : Nat) : List (Value × Value × Value) := [(S [97, 115, 99, 105, 105], .func (.func 186) #[] #[ptr b0 0], .func (.func 187) #[] #[ptr b0 0]), (S [108, 97, 116, 105, 110, 49], .func (.func 186) #[] #[ptr b1 0], .func (.func 187) #[] #[ptr b1 0]), (S [117, 116, 102, 56], .func (.func 158) #[] #[], .func (.func 159) #[] #[]), (S [117, 116, 102, 49, 54, 98, 101], .func (.func 161) #[] #[], .func (.func 162) #[] #[])]
theorem row_at (b0 b1 k : Nat) (hk : k < 4) : ∃ x dv fv, setN[k]? = some x ∧ (rowsV b0 b1)[k]? = some (S x, dv, fv) ∧ dv.oneCell' = true ∧ fv.oneCell' = true ∧ x.length ≤ 7 := by
  rcases k with _ | _ | _ | _ | k
  · exact ⟨_, _, _, rfl, rfl, rfl, rfl, by decide⟩
  · exact ⟨_, _, _, rfl, rfl, rfl, rfl, by decide⟩
  · exact ⟨_, _, _, rfl, rfl, rfl, rfl, by decide⟩
  · exact ⟨_, _, _, rfl, rfl, rfl, rfl, by decide⟩
  · omega
def found (b0 b1 : Nat) : Option Nat → Value
  | none => .tuple #[.agg #[S [], .nilFunc, .nilFunc], .bool false]
  | some k => match (rowsV b0 b1)[k]? with
    | some s => .tuple #[.agg (encT s).toArray, .bool true]
    | none => .tuple #[]
theorem find_spec (name : List UInt8) (hs : name.length ≤ maxLen) : Ct Tryz.prog 126 [S name] (fun _ => True) (fun r M => ∃ b0 b1, CellM M ⟨b0, 0, none⟩ (encR 128) ∧ CellM M ⟨b1, 0, none⟩ (encR 256) ∧ r = found b0 b1 (setOf name)) := by
  refine Ct.of Tryz.func126 (enters Tryz.func126 (by kernel_rfl) rfl) rfl rfl rfl ?_
  intro w0 M0 H hp
  refine SQ (RG (WR.alloc [_, _, _] H Tryz.zeroValue156 rfl (Wn.none rfl) rfl ?_))
  intro b2 w H
  refine AS rfl rfl (NL (TN (SQ (RG (WR.call H (single_spec _ _) rfl (trivial) (Wn.none rfl) rfl ?_)))))
  intro v7 M w H hle hr7
  obtain ⟨bb7, rfl, hcell7⟩ := hr7
  refine WR.call H (single_spec _ _) rfl (trivial) (Wn.none rfl) rfl ?_
  intro v8 M w H hle hr8
  replace hcell7 := hcell7.mono hle
  obtain ⟨bb8, rfl, hcell8⟩ := hr8
  refine WR.stepE (v' := .agg #[S [117, 116, 102, 56], .func (.func 158) #[] #[], .func (.func 159) #[] #[]]) (Ex.build [_, _, _] Tryz.underlying156 Tryz.zeroValue156 (places156 Tryz.underlying156) rfl rfl) rfl (Wn.none rfl) rfl rfl (WR.stepE (v' := .agg #[S [117, 116, 102, 49, 54, 98, 101], .func (.func 161) #[] #[], .func (.func 162) #[] #[]]) (Ex.build [_, _, _] Tryz.underlying156 Tryz.zeroValue156 (places156 Tryz.underlying156) rfl rfl) rfl (Wn.none rfl) rfl rfl (WR.litS (enc := encT) ty185 (rowsV bb7 bb8) H (fun _ => rfl) rfl (by kernel_rfl) rfl rfl rfl (Wn.none rfl) rfl ?_))
  intro v11 M w H hle hl11
  replace hcell7 := hcell7.mono hle
  replace hcell8 := hcell8.mono hle
  refine AS rfl rfl (NL (TN (SQ (SQ (RG (MV rfl rfl (WR.stepE (v' := I 4) (Ex.lenSlS Tryz.underlying185 (by assumption) rfl) rfl (Wn.none rfl) rfl rfl ?_)))))))
  refine MV rfl rfl (NL (TN (BL (WC.loop1 (fun (k : Nat) => [(0, S name), (2, ptr b2 0), (12, v11), (13, I 4), (14, encN k)]) (fun (k : Nat) w => k ≤ 4 ∧ setOf name = ((setN.drop k).findIdx? (same name)).map (· + k) ∧ ∃ M, St w0 M0 M [.blk b2 (.cells #[S [], .nilFunc, .nilFunc] 156)] w ∧ SlS M 3 encT v11 (rowsV bb7 bb8) ∧ CellM M ⟨bb7, 0, none⟩ (encR 128) ∧ CellM M ⟨bb8, 0, none⟩ (encR 256)) (fun (k : Nat) => 4 - k) (0) ⟨rfl, rfl, rfl, rfl, rfl, trivial⟩ (⟨by omega, by rw [List.drop_zero]; simp only [Nat.add_zero, Option.map_id']; rfl, M, H, hl11, hcell7, hcell8⟩) ?_))))
  intro k w
  rintro ⟨hk, hso, M, H, hl11, hcell7, hcell8⟩
  refine SQ (RG ?_)
  refine WR.split (Ex.lss rfl rfl) (Wn.none rfl) rfl rfl (fun h3_0 => ?_) (fun h3_0 => ?_)
  · obtain ⟨x, dv, fv, hx, hrow, hd1, hf1, hxl⟩ := row_at bb7 bb8 k (by omega)
    refine NL (TN (SQ (CT rfl (SK (TN (SQ (BL (SQ (RG (WR.idxSlS Tryz.underlying185 Tryz.sizeOf156 (by assumption) rfl rfl (hrow) (Wn.none rfl) rfl ?_))))))))))
    intro b16 o16 hc16
    first | refine WR.step (Ex.loadAgg H rfl (by repeat (first | exact List.Mem.head _ | apply List.Mem.tail)) Tryz.isAgg156 Tryz.sizeOf156 (by rfl)) (Wn.none rfl) rfl rfl ?_ | refine WR.step (Ex.loadAggM H rfl (by assumption) Tryz.isAgg156 Tryz.sizeOf156 (by rfl)) (Wn.none rfl) rfl rfl ?_
    refine WR.alloc [_, _, _] H Tryz.zeroValue156 rfl (Wn.none rfl) rfl ?_
    intro b6 w H
    refine WR.store [S x, dv, fv] H rfl rfl rfl (by repeat first | exact .head | apply Upd.tail) Tryz.sizeOf156 rfl (by rfl) (by show (true && (dv.oneCell' && (fv.oneCell' && true))) = true; rw [hd1, hf1]; rfl) (Wn.none rfl) ?_
    intro w H
    refine NL (TN (SQ (RG (ST (Ex.fieldAddr Tryz.underlying156 rfl Tryz.sizeOf9 (by decide) rfl) rfl ?_))))
    first | refine WR.step (Ex.loadM H rfl (by assumption) Tryz.isAgg9) (Wn.none rfl) rfl rfl ?_ | refine WR.step (Ex.load1 H rfl (by repeat (first | exact List.Mem.head _ | apply List.Mem.tail)) Tryz.isAgg9 (by rfl)) (Wn.none rfl) rfl rfl ?_
    refine MV rfl rfl ?_
    by_cases h5_3 : lower x = lower name
    · have hr := (setOf_from hso hx).1 h5_3
      refine WR.call H (Ct.mono (same_spec _ _ (by simp only [maxLen]; omega) hs) (R' := fun r _ => r = .bool true) (fun _ _ h => h.trans (congrArg Value.bool (decide_eq_true h5_3)))) rfl (trivial) (Wn.none rfl) rfl ?_
      intro v21 M w H hle hr21
      replace hl11 := hl11.mono hle
      replace hcell7 := hcell7.mono hle
      replace hcell8 := hcell8.mono hle
      replace hc16 := hc16.mono hle
      obtain rfl := hr21
      refine NL (TN (CT rfl (SQ (RG ?_))))
      first | refine WR.step (Ex.loadAgg H rfl (by repeat (first | exact List.Mem.head _ | apply List.Mem.tail)) Tryz.isAgg156 Tryz.sizeOf156 (by rfl)) (Wn.none rfl) rfl rfl ?_ | refine WR.step (Ex.loadAggM H rfl (by assumption) Tryz.isAgg156 Tryz.sizeOf156 (by rfl)) (Wn.none rfl) rfl rfl ?_
      refine WR.store [S x, dv, fv] H rfl rfl rfl (by repeat first | exact .head | apply Upd.tail) Tryz.sizeOf156 rfl (by rfl) (by show (true && (dv.oneCell' && (fv.oneCell' && true))) = true; rw [hd1, hf1]; rfl) (Wn.none rfl) ?_
      intro w H
      refine AS rfl rfl (NL (TN (RT ?_)))
      refine WQ.ret2 rfl ⟨_, rfl, H.loadAgg (by repeat (first | exact List.Mem.head _ | apply List.Mem.tail)) Tryz.isAgg156 Tryz.sizeOf156 (by rfl)⟩ rfl H.ext ?_
      exact ⟨_, _, hcell7, hcell8, by rw [hr, found, hrow]⟩
    · refine WR.call H (Ct.mono (same_spec _ _ (by simp only [maxLen]; omega) hs) (R' := fun r _ => r = .bool false) (fun _ _ h => h.trans (congrArg Value.bool (decide_eq_false h5_3)))) rfl (trivial) (Wn.none rfl) rfl ?_
      intro v21 M w H hle hr21
      replace hl11 := hl11.mono hle
      replace hcell7 := hcell7.mono hle
      replace hcell8 := hcell8.mono hle
      replace hc16 := hc16.mono hle
      obtain rfl := hr21
      refine NL (TN (CF rfl (SK (IB (TN (RG (WR.stepE (v' := encN (k + 1)) (Ex.add64 rfl rfl (by omega)) rfl (Wn.none rfl) rfl rfl ?_)))))))
      refine MV rfl rfl (NL ?_)
      refine WQ.again1 (k + 1) ⟨rfl, rfl, rfl, rfl, rfl, trivial⟩ ?_ ?_
      · exact ⟨by omega, (setOf_from hso hx).2 h5_3, M, H.drop (List.sublist_cons_self _ _), hl11, hcell7, hcell8⟩
      · omega
  · have hr : setOf name = none := by rw [hso, List.drop_eq_nil_of_le (show setN.length ≤ k by show 4 ≤ k; omega)]; rfl
    refine NL (TN (SQ (CF rfl (WC.exit (WQ.thenExit (WQ.thenExit (WQ.exitHere (TN (SQ (RG (ST (Ex.build [_, _, _] Tryz.underlying156 Tryz.zeroValue156 (places156 Tryz.underlying156) rfl rfl) rfl (WR.store [_, _, _] H rfl rfl rfl (by repeat first | exact .head | apply Upd.tail) Tryz.sizeOf156 rfl (by rfl) (by rfl) (Wn.none rfl) ?_))))))))))))
    intro w H
    refine AS rfl rfl (NL (TN (RT ?_)))
    refine WQ.ret2 rfl ⟨_, rfl, H.loadAgg (by repeat (first | exact List.Mem.head _ | apply List.Mem.tail)) Tryz.isAgg156 Tryz.sizeOf156 (by rfl)⟩ rfl H.ext ?_
    exact ⟨_, _, hcell7, hcell8, by rw [hr, found]⟩
end Go.Proofs.YtogkmhjnojphiaaGreatDoor
end
