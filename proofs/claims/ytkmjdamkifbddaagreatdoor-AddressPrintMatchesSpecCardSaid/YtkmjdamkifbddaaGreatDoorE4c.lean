/-
  Rpc, Low, Val, Vst, Sts, Fnd, Cod, Rdc, Ren, B64Plain, Ref, Dec, Grp, Lp, Wpf, Wpg, Epf: own texts of this repository (wip/tpl, wip/plans), merged and shaken by wip/tools/pack.py.
-/
import Derived.KernelRfl
import Derived.Lib.DecodeN
import Derived.Test.YtkmjdamkifbddaaGreatDoorE4b
set_option maxRecDepth 100000
set_option linter.unusedVariables false
set_option linter.unusedSimpArgs false
section
namespace Go.Proofs.YtkmjdamkifbddaaGreatDoor
open Go Go.RowKit Go.Ph
open Go.Ph.Gr Go.Ph.Utf
theorem rpieces_spec (l : Ls) (hs : l.length ≤ 1048576) : Ct Tryz.prog 149 [S l] (fun _ => True) (fun r M => Sl M encS r (pieces l)) := by
 refine Ct.of Tryz.func149 (enters Tryz.func149 Kr G) G G G ?_
 intro w0 M0 H hp
 refine SQ (RG (AS G G (NL (TN (SQ (RG (MV G G (q05 H (runes_spec _ Om) G (trivial) (q00 G) G ?_))))))))
 intro v12 M w H hle hr12
 have hf12 := hr12
 refine AS G G (NL (TN (SQ (RG (AS G G (NL (TN (SQ (RG (AS G G (NL (TN (SQ (RG (AS G G (NL (TN (SQ (SQ (RG (AS G G (NL (TN (BL ?_))))))))))))))))))))))))
 replace H := H.newRow 9 encS
 refine WC.loop5 (fun (i : Nat) (q : Nat) (v : Value) (o : List Ls) (fl : Nat) => [(0, S l), (3, v12), (4, v), (5, encN q), (6, encN fl), (7, encN i)]) (fun (i : Nat) (q : Nat) (v : Value) (o : List Ls) (fl : Nat) w => RP l i q o fl ∧ ∃ M, St w0 M0 M [RowI 9 encS v o] w ∧ Sl M encI v12 ((chars l).map (·.1))) (fun (i : Nat) (q : Nat) (v : Value) (o : List Ls) (fl : Nat) => (chars l).length - i) (0) (0) (_) (_) (0) ⟨rfl, rfl, rfl, rfl, rfl, rfl, trivial⟩ (⟨RP.start l, M, H, hf12⟩) ?_
 intro i q v o fl w
 rintro ⟨hR, M, H, hf12⟩
 have hsm := hR.small
 have hpl := hR.place
 have hfl := hR.len
 refine SQ (SQ (RG (MV G G (MV G G ?_))))
 first | refine q01 (q0A Tu168 (by assumption) rfl) (q00 rfl) rfl rfl ?_ | refine q01 (q0G Tu168 H Km rfl) (q00 rfl) rfl rfl ?_ | refine q01 (q0z Tu168 rfl) (q00 rfl) rfl rfl ?_
 refine q0a (q0n G G) (q00 G) G G (fun h6_3 => ?_) (fun h6_3 => ?_)
 · have hic : i < (chars l).length := by rw [l0c] at h6_3; omega
   obtain ⟨hq, hget, hdrop⟩ := hR.more hic
   have hrs := rune_size (l.drop q)
   have hrs3 := hrs.2.2 (drop_ne hq)
   rw [l01] at hrs3
   have hri : ((chars l).map (·.1))[i]? = some (rune (l.drop q)).1 := by rw [List.getElem?_map, hget]; rfl
   refine NL (TN (CT G (SK (TN (SQ (BL (SQ (RG (MV G G (MV G G (q05 H (rune_spec _ _ hq Om) G (trivial) (q00 G) G ?_)))))))))))
   intro v22 M w H hle hr22
   replace hf12 := hf12.mono hle
   obtain rfl := hr22
   refine MV G G (ST (q0e G G) G (ST (q0e G G) G (AS G G (AS G G (NL (TN (SQ (RG (MV G G (MV G G (MV G G (MV G G (q09 (v' := encN (q + (rune (l.drop q)).2)) (q0d G G Om) G (q00 G) G G ?_)))))))))))))
   refine q09 (v' := S ((l.drop q).take (rune (l.drop q)).2)) (q1d (i := q) (j := q + (rune (l.drop q)).2) Tu9 G (.inl ⟨_, G, G⟩) (.inl ⟨_, G, G⟩) Om Om) (by rw [l0Z, l2g]) (q00 G) G G ?_
   refine AS G G (NL (TN (SQ (SQ (RG (MV G G ?_))))))
   refine q0a (q0K G G) (q00 G) G G (fun h10_1 => ?_) (fun h10_1 => ?_)
   · obtain ⟨a, ha⟩ : ∃ a, ((chars l).map (·.1))[i - 1]? = some a := ⟨_, List.getElem?_eq_getElem (by rw [l0c]; omega)⟩
     have ha2 : ((chars l)[i - 1]?).map (·.1) = some a := by rw [← List.getElem?_map]; exact ha
     refine MV G G (SG (q02 G) G G G (SG (q02 G) G G G (SG (q02 G) G G G ?_)))
     by_cases h10_6 : con a (rune (l.drop q)).1 fl = true
     · obtain ⟨p, hp, hR2⟩ := hR.goes hic Om ha2 h10_6
       have hol := (List.getElem?_eq_some_iff.1 hp).1
       have hpb : p.length ≤ q := by rw [← hfl]; exact (List.sublist_flatten_of_mem (l1k hp)).length_le
       refine q05 H (q0y (q0y (rcont_spec _ _ i fl a (rune (l.drop q)).1 Om ha hri) (R' := fun r _ => r = .bool (decide (con a (rune (l.drop q)).1 fl = true))) (fun _ _ h => h.trans (congrArg Value.bool Sm))) (R' := fun r _ => r = .bool true) (fun _ _ h => h.trans (congrArg Value.bool (decide_eq_true h10_6)))) G (by assumption) (q04 G G G) G ?_
       intro v37 M w H hle hr37
       replace hf12 := hf12.mono hle
       obtain rfl := hr37
       refine PT G G G (NL (TN (CT G (RG (MV G G (MV G G ?_))))))
       first | refine q01 (q0A Tu55 (by assumption) rfl) (q00 rfl) rfl rfl ?_ | refine q01 (q0G Tu55 H Km rfl) (q00 rfl) rfl rfl ?_ | refine q01 (q0z Tu55 rfl) (q00 rfl) rfl rfl ?_
       refine q09 (v' := encN (o.length - 1)) (q1h G G Om) (congrArg I Om) (q00 G) G G ?_
       refine MV G G (MV G G ?_)
       first | refine q01 (q0A Tu55 (by assumption) rfl) (q00 rfl) rfl rfl ?_ | refine q01 (q0G Tu55 H Km rfl) (q00 rfl) rfl rfl ?_ | refine q01 (q0z Tu55 rfl) (q00 rfl) rfl rfl ?_
       refine q09 (v' := encN (o.length - 1)) (q1h G G Om) (congrArg I Om) (q00 G) G G ?_
       refine WR.idxRow H Tu55 Ts9 Km G G hp (q00 G) G ?_
       intro g47 hg47
       refine ST (Ex.loadRow H G hg47 Km hp Ta9) G ?_
       refine MV G G (ST (q1j G G (by rw [l04, l01]; omega)) G ?_)
       refine WR.idxRow H Tu55 Ts9 Km G G hp (q00 G) G ?_
       intro g51 hg51
       refine WR.storeRow (enc := encS) (a := p ++ ((l.drop q).take (rune (l.drop q)).2)) H G G ⟨G, G⟩ hg51 (fun _ => by repeat first | exact .head | apply Upd.tail) hol Ts9 (q00 G) ?_
       intro w H
       refine NL (TN (SQ (SQ (RG (MV G G (MV G G (q1g Tu168 Ts3 (by assumption) G G (hri) (q00 G) G ?_)))))))
       intro p58 hc58
       first | refine q01 (q08 H rfl (by assumption) Ta3) (q00 rfl) rfl rfl ?_ | refine q01 (XL H Ta3) (q00 rfl) rfl rfl ?_
       refine q0a (q1b G G) (q00 G) G G (fun h14_4 => ?_) (fun h14_4 => ?_)
       · refine MV G G (SG (q02 G) G G G (SG (q02 G) G G G (q1g Tu168 Ts3 (by assumption) G G (hri) (q04 G G G) G ?_)))
         intro p64 hc64
         first | refine q01 (q08 H rfl (by assumption) Ta3) (q04 rfl rfl rfl) rfl rfl ?_ | refine q01 (XL H Ta3) (q04 rfl rfl rfl) rfl rfl ?_
         refine q05 H (class_spec _) G (trivial) (q04 G G G) G ?_
         intro v66 M w H hle hr66
         replace hf12 := hf12.mono hle
         replace hc58 := hc58.mono hle
         replace hc64 := hc64.mono hle
         obtain rfl := hr66
         refine q0a (q0c G G) (q04 G G G) G G (fun h14_11 => ?_) (fun h14_11 => ?_)
         · refine PT G G G (NL (TN (CT G (RG (MV G G (ST (q0d G G Om) G ?_))))))
           refine AS G G (NL (TN (RG (MV G G (MV G G (q09 (v' := encN (q + (rune (l.drop q)).2)) (q0d G G Om) G (q00 G) G G ?_))))))
           refine AS G G (NL (IB (TN (RG (MV G G (q09 (v' := encN (i + 1)) (q0d G G Om) G (q00 G) G G ?_))))))
           refine AS G G (NL ?_)
           refine q1B (i + 1) (q + (rune (l.drop q)).2) (v) (o.set (o.length - 1) (p ++ ((l.drop q).take (rune (l.drop q)).2))) (fl + 1) ⟨G, G, G, G, G, G, trivial⟩ ?_ ?_
           · refine ⟨?_, M, H, hf12⟩
             rw [show fl + 1 = flN (rune (l.drop q)).1 fl by rw [flN, if_pos ⟨by omega, by omega⟩]]
             exact hR2
           rw [l0c] at h6_3; omega
         refine PT G G G (NL (TN (CF G (RG (AS G G (NL (TN (RG (MV G G (MV G G (q09 (v' := encN (q + (rune (l.drop q)).2)) (q0d G G Om) G (q00 G) G G ?_)))))))))))
         refine AS G G (NL (IB (TN (RG (MV G G (q09 (v' := encN (i + 1)) (q0d G G Om) G (q00 G) G G ?_))))))
         refine AS G G (NL ?_)
         refine q1B (i + 1) (q + (rune (l.drop q)).2) (v) (o.set (o.length - 1) (p ++ ((l.drop q).take (rune (l.drop q)).2))) (0) ⟨G, G, G, G, G, G, trivial⟩ ?_ ?_
         · refine ⟨?_, M, H, hf12⟩
           rw [show 0 = flN (rune (l.drop q)).1 fl by rw [flN, if_neg Om]]
           exact hR2
         rw [l0c] at h6_3; omega
       refine MV G G (GF G G G (GF G G G (GF G G G (GF G G G (GF G G G (GF G G G (PF G G G (NL (TN (CF G (RG (AS G G (NL (TN (RG (MV G G (MV G G (q09 (v' := encN (q + (rune (l.drop q)).2)) (q0d G G Om) G (q00 G) G G ?_))))))))))))))))))
       refine AS G G (NL (IB (TN (RG (MV G G (q09 (v' := encN (i + 1)) (q0d G G Om) G (q00 G) G G ?_))))))
       refine AS G G (NL ?_)
       refine q1B (i + 1) (q + (rune (l.drop q)).2) (v) (o.set (o.length - 1) (p ++ ((l.drop q).take (rune (l.drop q)).2))) (0) ⟨G, G, G, G, G, G, trivial⟩ ?_ ?_
       · refine ⟨?_, M, H, hf12⟩
         rw [show 0 = flN (rune (l.drop q)).1 fl by rw [flN, if_neg Om]]
         exact hR2
       rw [l0c] at h6_3; omega
     have hR2 := hR.news hic (.inr ⟨a, by omega, ha2, by simpa using h10_6⟩)
     refine q05 H (q0y (q0y (rcont_spec _ _ i fl a (rune (l.drop q)).1 Om ha hri) (R' := fun r _ => r = .bool (decide (con a (rune (l.drop q)).1 fl = true))) (fun _ _ h => h.trans (congrArg Value.bool Sm))) (R' := fun r _ => r = .bool false) (fun _ _ h => h.trans (congrArg Value.bool (decide_eq_false h10_6)))) G (by assumption) (q04 G G G) G ?_
     intro v37 M w H hle hr37
     replace hf12 := hf12.mono hle
     obtain rfl := hr37
     refine PT G G G (NL (TN (CF G (SQ (RG (MV G G (MV G G (q0B (enc := encS) ty55 [_] H G Kf (fun _ => G) G G (q00 G) G ?_))))))))
     intro v54 M w H hle hl54
     replace hf12 := hf12.mono hle
     refine q0D ty55 (fun _ => G) H G (fun _ => by repeat first | exact .head | apply Upd.tail) G (by assumption) (by first | omega | (simp only [l00, l02, l03, l04, l01]; omega)) (by first | (simp only [maxLen]; omega) | (simp only [maxLen, l00, l02, l03, l04, l01]; omega)) (q00 G) G ?_
     intro v55 w H
     refine AS G G (NL (TN (RG (AS G G (NL (TN (SQ (SQ (RG (MV G G (MV G G (q1g Tu168 Ts3 (by assumption) G G (hri) (q00 G) G ?_))))))))))))
     intro p58 hc58
     first | refine q01 (q08 H rfl (by assumption) Ta3) (q00 rfl) rfl rfl ?_ | refine q01 (XL H Ta3) (q00 rfl) rfl rfl ?_
     refine q0a (q1b G G) (q00 G) G G (fun h14_4 => ?_) (fun h14_4 => ?_)
     · refine MV G G (SG (q02 G) G G G (SG (q02 G) G G G (q1g Tu168 Ts3 (by assumption) G G (hri) (q04 G G G) G ?_)))
       intro p64 hc64
       first | refine q01 (q08 H rfl (by assumption) Ta3) (q04 rfl rfl rfl) rfl rfl ?_ | refine q01 (XL H Ta3) (q04 rfl rfl rfl) rfl rfl ?_
       refine q05 H (class_spec _) G (trivial) (q04 G G G) G ?_
       intro v66 M w H hle hr66
       replace hf12 := hf12.mono hle
       replace hl54 := hl54.mono hle
       replace hc58 := hc58.mono hle
       replace hc64 := hc64.mono hle
       obtain rfl := hr66
       refine q0a (q0c G G) (q04 G G G) G G (fun h14_11 => ?_) (fun h14_11 => ?_)
       · refine PT G G G (NL (TN (CT G (RG (MV G G (ST (q0d G G Om) G ?_))))))
         refine AS G G (NL (TN (RG (MV G G (MV G G (q09 (v' := encN (q + (rune (l.drop q)).2)) (q0d G G Om) G (q00 G) G G ?_))))))
         refine AS G G (NL (IB (TN (RG (MV G G (q09 (v' := encN (i + 1)) (q0d G G Om) G (q00 G) G G ?_))))))
         refine AS G G (NL ?_)
         refine q1B (i + 1) (q + (rune (l.drop q)).2) (v55) (o ++ [((l.drop q).take (rune (l.drop q)).2)]) (0 + 1) ⟨G, G, G, G, G, G, trivial⟩ ?_ ?_
         · refine ⟨?_, M, H, hf12⟩
           rw [show 0 + 1 = flN (rune (l.drop q)).1 0 by rw [flN, if_pos ⟨by omega, by omega⟩]]
           exact hR2
         rw [l0c] at h6_3; omega
       refine PT G G G (NL (TN (CF G (RG (AS G G (NL (TN (RG (MV G G (MV G G (q09 (v' := encN (q + (rune (l.drop q)).2)) (q0d G G Om) G (q00 G) G G ?_)))))))))))
       refine AS G G (NL (IB (TN (RG (MV G G (q09 (v' := encN (i + 1)) (q0d G G Om) G (q00 G) G G ?_))))))
       refine AS G G (NL ?_)
       refine q1B (i + 1) (q + (rune (l.drop q)).2) (v55) (o ++ [((l.drop q).take (rune (l.drop q)).2)]) (0) ⟨G, G, G, G, G, G, trivial⟩ ?_ ?_
       · refine ⟨?_, M, H, hf12⟩
         rw [show 0 = flN (rune (l.drop q)).1 0 by rw [flN, if_neg Om]]
         exact hR2
       rw [l0c] at h6_3; omega
     refine MV G G (GF G G G (GF G G G (GF G G G (GF G G G (GF G G G (GF G G G (PF G G G (NL (TN (CF G (RG (AS G G (NL (TN (RG (MV G G (MV G G (q09 (v' := encN (q + (rune (l.drop q)).2)) (q0d G G Om) G (q00 G) G G ?_))))))))))))))))))
     refine AS G G (NL (IB (TN (RG (MV G G (q09 (v' := encN (i + 1)) (q0d G G Om) G (q00 G) G G ?_))))))
     refine AS G G (NL ?_)
     refine q1B (i + 1) (q + (rune (l.drop q)).2) (v55) (o ++ [((l.drop q).take (rune (l.drop q)).2)]) (0) ⟨G, G, G, G, G, G, trivial⟩ ?_ ?_
     · refine ⟨?_, M, H, hf12⟩
       rw [show 0 = flN (rune (l.drop q)).1 0 by rw [flN, if_neg Om]]
       exact hR2
     rw [l0c] at h6_3; omega
   have hR2 := hR.news hic (.inl Om)
   refine MV G G (GF G G G (GF G G G (GF G G G (GF G G G (PF G G G (NL (TN (CF G (SQ (RG (MV G G (MV G G (q0B (enc := encS) ty55 [_] H G Kf (fun _ => G) G G (q00 G) G ?_)))))))))))))
   intro v54 M w H hle hl54
   replace hf12 := hf12.mono hle
   refine q0D ty55 (fun _ => G) H G (fun _ => by repeat first | exact .head | apply Upd.tail) G (by assumption) (by first | omega | (simp only [l00, l02, l03, l04, l01]; omega)) (by first | (simp only [maxLen]; omega) | (simp only [maxLen, l00, l02, l03, l04, l01]; omega)) (q00 G) G ?_
   intro v55 w H
   refine AS G G (NL (TN (RG (AS G G (NL (TN (SQ (SQ (RG (MV G G (MV G G (q1g Tu168 Ts3 (by assumption) G G (hri) (q00 G) G ?_))))))))))))
   intro p58 hc58
   first | refine q01 (q08 H rfl (by assumption) Ta3) (q00 rfl) rfl rfl ?_ | refine q01 (XL H Ta3) (q00 rfl) rfl rfl ?_
   refine q0a (q1b G G) (q00 G) G G (fun h14_4 => ?_) (fun h14_4 => ?_)
   · refine MV G G (SG (q02 G) G G G (SG (q02 G) G G G (q1g Tu168 Ts3 (by assumption) G G (hri) (q04 G G G) G ?_)))
     intro p64 hc64
     first | refine q01 (q08 H rfl (by assumption) Ta3) (q04 rfl rfl rfl) rfl rfl ?_ | refine q01 (XL H Ta3) (q04 rfl rfl rfl) rfl rfl ?_
     refine q05 H (class_spec _) G (trivial) (q04 G G G) G ?_
     intro v66 M w H hle hr66
     replace hf12 := hf12.mono hle
     replace hl54 := hl54.mono hle
     replace hc58 := hc58.mono hle
     replace hc64 := hc64.mono hle
     obtain rfl := hr66
     refine q0a (q0c G G) (q04 G G G) G G (fun h14_11 => ?_) (fun h14_11 => ?_)
     · refine PT G G G (NL (TN (CT G (RG (MV G G (ST (q0d G G Om) G ?_))))))
       refine AS G G (NL (TN (RG (MV G G (MV G G (q09 (v' := encN (q + (rune (l.drop q)).2)) (q0d G G Om) G (q00 G) G G ?_))))))
       refine AS G G (NL (IB (TN (RG (MV G G (q09 (v' := encN (i + 1)) (q0d G G Om) G (q00 G) G G ?_))))))
       refine AS G G (NL ?_)
       refine q1B (i + 1) (q + (rune (l.drop q)).2) (v55) (o ++ [((l.drop q).take (rune (l.drop q)).2)]) (0 + 1) ⟨G, G, G, G, G, G, trivial⟩ ?_ ?_
       · refine ⟨?_, M, H, hf12⟩
         rw [show 0 + 1 = flN (rune (l.drop q)).1 0 by rw [flN, if_pos ⟨by omega, by omega⟩]]
         exact hR2
       rw [l0c] at h6_3; omega
     refine PT G G G (NL (TN (CF G (RG (AS G G (NL (TN (RG (MV G G (MV G G (q09 (v' := encN (q + (rune (l.drop q)).2)) (q0d G G Om) G (q00 G) G G ?_)))))))))))
     refine AS G G (NL (IB (TN (RG (MV G G (q09 (v' := encN (i + 1)) (q0d G G Om) G (q00 G) G G ?_))))))
     refine AS G G (NL ?_)
     refine q1B (i + 1) (q + (rune (l.drop q)).2) (v55) (o ++ [((l.drop q).take (rune (l.drop q)).2)]) (0) ⟨G, G, G, G, G, G, trivial⟩ ?_ ?_
     · refine ⟨?_, M, H, hf12⟩
       rw [show 0 = flN (rune (l.drop q)).1 0 by rw [flN, if_neg Om]]
       exact hR2
     rw [l0c] at h6_3; omega
   refine MV G G (GF G G G (GF G G G (GF G G G (GF G G G (GF G G G (GF G G G (PF G G G (NL (TN (CF G (RG (AS G G (NL (TN (RG (MV G G (MV G G (q09 (v' := encN (q + (rune (l.drop q)).2)) (q0d G G Om) G (q00 G) G G ?_))))))))))))))))))
   refine AS G G (NL (IB (TN (RG (MV G G (q09 (v' := encN (i + 1)) (q0d G G Om) G (q00 G) G G ?_))))))
   refine AS G G (NL ?_)
   refine q1B (i + 1) (q + (rune (l.drop q)).2) (v55) (o ++ [((l.drop q).take (rune (l.drop q)).2)]) (0) ⟨G, G, G, G, G, G, trivial⟩ ?_ ?_
   · refine ⟨?_, M, H, hf12⟩
     rw [show 0 = flN (rune (l.drop q)).1 0 by rw [flN, if_neg Om]]
     exact hR2
   rw [l0c] at h6_3; omega
 refine NL (TN (CF G (q0m (q06 (q06 (q0f (TN (SQ (RG (MV G G (AS G G (NL (TN (RT ?_))))))))))))))
 obtain ⟨M, hle, hf, H⟩ := H.freezeRow (v := v) (enc := encS) (t := 9) Kv
 refine q07 G G H.ext ( ?_)
 rw [← hR.ends (by rw [l0c] at h6_3; omega)]
 exact hf
end Go.Proofs.YtkmjdamkifbddaaGreatDoor
end
section
namespace Go.Proofs.YtkmjdamkifbddaaGreatDoor
open Go Go.RowKit Go.Ph
open Go.Ph.Gr Go.Ph.Utf Go.Ph.Chs
theorem low_at {l : Ls} {k : Nat} {u : UInt8} (h : l[k]? = some u) : (lower (l.take k) ++ l.drop k)[k]? = some u := by
 have hk := (List.getElem?_eq_some_iff.1 h).1
 rw [List.getElem?_append_right (by rw [lower_len, l04]; omega), lower_len, l04, show k - min k l.length = 0 by omega, List.getElem?_drop, l1t]; exact h
theorem low_next {l : Ls} {k : Nat} {u : UInt8} (h : l[k]? = some u) : lower (l.take (k + 1)) ++ l.drop (k + 1) = lower (l.take k) ++ lowB u :: l.drop (k + 1) := by
 obtain ⟨hk, hu⟩ := List.getElem?_eq_some_iff.1 h
 rw [l0m hk, hu]; simp [lower]
theorem low_step {l : Ls} {k : Nat} {u : UInt8} (h : l[k]? = some u) : (lower (l.take k) ++ l.drop k).set k (lowB u) = lower (l.take (k + 1)) ++ l.drop (k + 1) := by
 obtain ⟨hk, hu⟩ := List.getElem?_eq_some_iff.1 h
 have hl : (lower (l.take k)).length = k := by rw [lower_len, l04]; omega
 rw [low_next h, l1V _ _ Om, hl, Nat.sub_self, l09 hk]; rfl
theorem low_keep {l : Ls} {k : Nat} {u : UInt8} (h : l[k]? = some u) (hn : ¬ (65 ≤ u.toNat ∧ u.toNat ≤ 90)) : lower (l.take k) ++ l.drop k = lower (l.take (k + 1)) ++ l.drop (k + 1) := by
 obtain ⟨hk, hu⟩ := List.getElem?_eq_some_iff.1 h
 rw [low_next h, l09 hk, hu, lowB, if_neg hn]
theorem lowB_enc {u : UInt8} (h : 65 ≤ u.toNat ∧ u.toNat ≤ 90) : encB (lowB u) = .int .u8 ((u.toNat : Int) + 32) := by
 unfold lowB; rw [if_pos h]
 have h1 : (u + 32).toNat = u.toNat + 32 := by rw [UInt8.toNat_add]; show (u.toNat + 32) % 256 = _; omega
 show Value.int .u8 (((u + 32).toNat : Nat) : Int) = _
 rw [h1]; rfl
theorem lower_spec (l : Ls) (hs : l.length ≤ maxLen) : Ct Tryz.prog 55 [S l] (fun _ => True) (fun r _ => r = S (lower l)) := by
 refine Ct.of Tryz.func55 (enters Tryz.func55 Kr G) G G G ?_
 intro w0 M0 H hp
 simp only [maxLen] at hs
 refine SQ (RG (AS G G (NL (TN (SQ (RG (MV G G (WR.toBytes H Tu9 Tu88 Tu5 G (by simp only [maxLen]; omega) (q00 G) G ?_))))))))
 intro g7 c7 w hc7 hm7 H
 refine AS G G (NL (TN (SQ (SQ (RG (MV G G ?_))))))
 first | refine q01 (q0A Tu88 (by assumption) rfl) (q00 rfl) rfl rfl ?_ | refine q01 (q0G Tu88 H Km rfl) (q00 rfl) rfl rfl ?_ | refine q01 (q0z Tu88 rfl) (q00 rfl) rfl rfl ?_
 refine MV rfl rfl (NL (TN (BL (q1D (fun (k : Nat) (m : Ls) => [(3, .slice (some ⟨g7, 0, none⟩) l.length c7), (8, .slice (some ⟨g7, 0, none⟩) l.length c7), (9, I (l.length : Int)), (10, encN k)]) (fun (k : Nat) (m : Ls) w => k ≤ l.length ∧ m.length = l.length ∧ m = lower (l.take k) ++ l.drop k ∧ ∃ M, St w0 M0 M [SRow g7 c7 5 m] w) (fun (k : Nat) (m : Ls) => l.length - k) (0) (l) ⟨rfl, rfl, rfl, rfl, trivial⟩ (⟨by omega, rfl, by simp [lower], M0, H⟩) ?_))))
 intro k m w
 rintro ⟨hk, hml, hm, M, H⟩
 refine SQ (RG ?_)
 refine q0a (q0n G G) (q00 G) G G (fun h3_0 => ?_) (fun h3_0 => ?_)
 · obtain ⟨u, hlu⟩ : ∃ u, l[k]? = some u := ⟨_, List.getElem?_eq_getElem Om⟩
   have hcu : m[k]? = some u := by rw [hm]; exact low_at hlu
   have hult := u.toNat_lt
   refine NL (TN (SQ (CT G (SK (TN (SQ (BL (SQ (RG (MV G G (ST (Ex.idxS Tu88 Ts5 G G Om) G ?_)))))))))))
   refine ST (Ex.loadS H G Km hcu Ta5) G ?_
   refine AS G G (AS G G (NL (TN (SQ (RG (MV G G ?_))))))
   refine q0a (q1b G G) (q00 G) G G (fun h5_1 => ?_) (fun h5_1 => ?_)
   · refine MV G G (SG (q02 G) G G G ?_)
     refine q0a (q1G G G) (q04 G G G) G G (fun h5_4 => ?_) (fun h5_4 => ?_)
     · refine PT G G G (NL (TN (CT G (RG (MV G G (MV G G (MV G G (ST (Ex.addW G G (u8_in Om)) G ?_))))))))
       refine q09 (v' := encB (lowB u)) (Ex.subW G G (u8_in Om)) (by rw [lowB_enc Om]; exact congrArg (Value.int .u8) Om) (q00 G) G G ?_
       refine ST (Ex.idxS Tu88 Ts5 G G Om) G ?_
       refine WR.storeS (c := lowB u) H G G Ku Om Om Ts5 (q00 G) ?_
       intro w H
       refine NL (IB (TN (RG (ST (q0d G G Om) G ?_))))
       refine MV G G (NL ?_)
       refine q0Q (k + 1) (m.set k (lowB u)) ⟨G, G, G, G, trivial⟩ ?_ ?_
       · refine ⟨by omega, by rw [l1j]; exact hml, ?_, M, H⟩
         rw [hm]; exact low_step hlu
       omega
     refine PT G G G (NL (TN (CF G (SK (IB (TN (RG (ST (q0d G G Om) G ?_))))))))
     refine MV G G (NL ?_)
     refine q0Q (k + 1) (m) ⟨G, G, G, G, trivial⟩ ?_ ?_
     · refine ⟨by omega, hml, ?_, M, H⟩
       rw [hm]; exact low_keep hlu Om
     omega
   refine MV G G (GF G G G (GF G G G (PF G G G (NL (TN (CF G (SK (IB (TN (RG (ST (q0d G G Om) G ?_)))))))))))
   refine MV G G (NL ?_)
   refine q0Q (k + 1) (m) ⟨G, G, G, G, trivial⟩ ?_ ?_
   · refine ⟨by omega, hml, ?_, M, H⟩
     rw [hm]; exact low_keep hlu Om
   omega
 refine NL (TN (SQ (CF G (q0m (q06 (q06 (q0f (TN (SQ (RG (MV G G (ST (Ex.toStrS Tu88 Tu5 Tu9 H Km hml.symm G) G ?_))))))))))))
 refine AS G G (NL (TN (RT ?_)))
 refine q07 G G H.ext ?_
 exact by rw [hm, l0r Om, l08 Om, l0j]
theorem rlower_spec (l : Ls) (hs : l.length ≤ maxLen) : Ct Tryz.prog 24 [S l] (fun _ => True) (fun r _ => r = S (lower l)) := by
 refine Ct.of Tryz.func24 (enters Tryz.func24 Kr G) G G G ?_
 intro w0 M0 H hp
 simp only [maxLen] at hs
 refine SQ (RG (AS G G (NL (TN (SQ (RG (MV G G (WR.toBytes H Tu9 Tu88 Tu5 G (by simp only [maxLen]; omega) (q00 G) G ?_))))))))
 intro g6 c6 w hc6 hm6 H
 refine AS rfl rfl (NL (TN (SQ (SQ (RG (AS rfl rfl (NL (TN (BL (q1D (fun (k : Nat) (m : Ls) => [(3, .slice (some ⟨g6, 0, none⟩) l.length c6), (4, encN k)]) (fun (k : Nat) (m : Ls) w => k ≤ l.length ∧ m.length = l.length ∧ m = lower (l.take k) ++ l.drop k ∧ ∃ M, St w0 M0 M [SRow g6 c6 5 m] w) (fun (k : Nat) (m : Ls) => l.length - k) (0) (l) ⟨rfl, rfl, trivial⟩ (⟨by omega, rfl, by simp [lower], M0, H⟩) ?_))))))))))
 intro k m w
 rintro ⟨hk, hml, hm, M, H⟩
 refine SQ (SQ (RG (MV G G (MV G G ?_))))
 first | refine q01 (q0A Tu88 (by assumption) rfl) (q00 rfl) rfl rfl ?_ | refine q01 (q0G Tu88 H Km rfl) (q00 rfl) rfl rfl ?_ | refine q01 (q0z Tu88 rfl) (q00 rfl) rfl rfl ?_
 refine q0a (q0n G G) (q00 G) G G (fun h3_3 => ?_) (fun h3_3 => ?_)
 · obtain ⟨u, hlu⟩ : ∃ u, l[k]? = some u := ⟨_, List.getElem?_eq_getElem Om⟩
   have hcu : m[k]? = some u := by rw [hm]; exact low_at hlu
   have hult := u.toNat_lt
   refine NL (TN (CT G (SK (TN (SQ (BL (SQ (RG (MV G G (MV G G (ST (Ex.idxS Tu88 Ts5 G G Om) G ?_)))))))))))
   refine ST (Ex.loadS H G Km hcu Ta5) G ?_
   first | refine q01 (q1i Tu5 Tu3 rfl) (q00 rfl) rfl rfl ?_ | refine q01 (q1C Tu5 Tu3 rfl Om) (q00 rfl) rfl rfl ?_
   by_cases h5_5 : (65 : Int) ≤ (u.toNat : Int) ∧ (u.toNat : Int) ≤ 90
   · refine q05 H (q0y (in_spec _ _ _) (R' := fun r _ => r = .bool true) (fun _ _ h => h.trans (congrArg Value.bool (decide_eq_true h5_5)))) G (trivial) (q00 G) G ?_
     intro v18 M w H hle hr18
     obtain rfl := hr18
     refine NL (TN (CT G (RG (MV G G (MV G G (MV G G (MV G G (ST (Ex.idxS Tu88 Ts5 G G Om) G ?_))))))))
     refine ST (Ex.loadS H G Km hcu Ta5) G ?_
     refine q09 (v' := encB (lowB u)) (Ex.addW G G (u8_in Om)) (by rw [lowB_enc Om]) (q00 G) G G ?_
     refine ST (Ex.idxS Tu88 Ts5 G G Om) G ?_
     refine WR.storeS (c := lowB u) H G G Ku Om Om Ts5 (q00 G) ?_
     intro w H
     refine NL (IB (TN (RG (MV G G (ST (q0d G G Om) G ?_)))))
     refine AS G G (NL ?_)
     refine q0Q (k + 1) (m.set k (lowB u)) ⟨G, G, trivial⟩ ?_ ?_
     · refine ⟨by omega, by rw [l1j]; exact hml, ?_, M, H⟩
       rw [hm]; exact low_step hlu
     omega
   refine q05 H (q0y (in_spec _ _ _) (R' := fun r _ => r = .bool false) (fun _ _ h => h.trans (congrArg Value.bool (decide_eq_false h5_5)))) G (trivial) (q00 G) G ?_
   intro v18 M w H hle hr18
   obtain rfl := hr18
   refine NL (TN (CF G (SK (IB (TN (RG (MV G G (ST (q0d G G Om) G ?_))))))))
   refine AS G G (NL ?_)
   refine q0Q (k + 1) (m) ⟨G, G, trivial⟩ ?_ ?_
   · refine ⟨by omega, hml, ?_, M, H⟩
     rw [hm]; exact low_keep hlu Om
   omega
 refine NL (TN (CF G (q0m (q06 (q06 (q0f (TN (SQ (RG (MV G G (ST (Ex.toStrS Tu88 Tu5 Tu9 H Km hml.symm G) G ?_)))))))))))
 refine AS G G (NL (TN (RT ?_)))
 refine q07 G G H.ext ?_
 exact by rw [hm, l0r Om, l08 Om, l0j]
theorem lower_ne {a b : Ls} (h : a.length ≠ b.length) : ¬ lower a = lower b := fun e => h (by rw [← lower_len a, e, lower_len])
def setI (name : Ls) : Int := match setOf name with | some k => (k : Int) | none => -1
def same (name x : Ls) : Bool := decide (lower x = lower name)
theorem setOf_from {name x : Ls} {k : Nat} (h : setOf name = ((setN.drop k).findIdx? (same name)).map (· + k)) (hx : setN[k]? = some x) :
 (lower x = lower name → setOf name = some k) ∧ (¬ lower x = lower name → setOf name = ((setN.drop (k + 1)).findIdx? (same name)).map (· + (k + 1))) := by
 obtain ⟨hk, he⟩ := List.getElem?_eq_some_iff.1 hx
 rw [l09 hk, he, List.findIdx?_cons] at h
 constructor
 · intro hl
   rw [h, same, decide_eq_true hl]; simp
 intro hl
 rw [h, same, decide_eq_false hl]
 simp only [l0k, if_false, Option.map_map]
 congr 1
 funext i
 simp only [Function.comp]
 omega
theorem same_spec (a b : Ls) (ha : a.length ≤ maxLen) (hb : b.length ≤ maxLen) : Ct Tryz.prog 199 [S a, S b] (fun _ => True) (fun r _ => r = .bool (decide (lower a = lower b))) := by
 refine Ct.of Tryz.func199 (enters Tryz.func199 Kr G) G G G ?_
 intro w0 M0 H hp
 refine SQ (RG (AS G G (NL (TN (SQ (RG (MV G G (ST (q0k Tu9 G) G (MV G G (ST (q0k Tu9 G) G ?_))))))))))
 refine q0a (q0c G G) (q00 G) G G (fun h1_4 => ?_) (fun h1_4 => ?_)
 · refine MV G G (SG (q02 G) G G G (q05 H (lower_spec _ ha) G (trivial) (q04 G G G) G ?_))
   intro v12 M w H hle hr12
   obtain rfl := hr12
   refine SG (q02 G) G G G (q05 H (lower_spec _ hb) G (trivial) (q04 G G G) G ?_)
   intro v14 M w H hle hr14
   obtain rfl := hr14
   refine SG (q0I G G) G G G (PT G G G (AS G G (NL (TN (RT ?_)))))
   refine q07 G G H.ext ?_
   exact G
 refine MV G G (GF G G G (GF G G G (GF G G G (GF G G G (GF G G G (PF G G G (AS G G (NL (TN (RT ?_))))))))))
 refine q07 G G H.ext ?_
 exact (congrArg Value.bool (decide_eq_false (lower_ne Om)).symm)
theorem alike_spec (a b : Ls) (ha : a.length ≤ maxLen) (hb : b.length ≤ maxLen) : Ct Tryz.prog 181 [S a, S b] (fun _ => True) (fun r _ => r = .bool (decide (lower a = lower b))) := by
 refine Ct.of Tryz.func181 (enters Tryz.func181 Kr G) G G G ?_
 intro w0 M0 H hp
 refine SQ (RG (AS G G (NL (TN (SQ (RG (MV G G (q05 H (rlower_spec _ ha) G (trivial) (q00 G) G ?_))))))))
 intro v6 M w H hle hr6
 obtain rfl := hr6
 refine MV G G (q05 H (rlower_spec _ hb) G (trivial) (q00 G) G ?_)
 intro v8 M w H hle hr8
 obtain rfl := hr8
 refine ST (q0I G G) G (AS G G (NL (TN (RT ?_))))
 refine q07 G G H.ext ?_
 exact G
theorem setOf_spec (name : Ls) (hs : name.length ≤ maxLen) : Ct Tryz.prog 152 [S name] (fun _ => True) (fun r _ => r = I (setI name)) := by
 refine Ct.of Tryz.func152 (enters Tryz.func152 Kr G) G G G ?_
 intro w0 M0 H hp
 refine SQ (RG (AS G G (NL (TN (SQ (RG (q0B (enc := encS) ty55 setN H G Kf (fun _ => G) G G (q00 G) G ?_)))))))
 intro v5 M w H hle hl5
 refine AS rfl rfl (NL (TN (SQ (SQ (RG (AS rfl rfl (NL (TN (BL (q1R (fun (k : Nat) => [(0, S name), (3, v5), (4, encN k)]) (fun (k : Nat) w => k ≤ 4 ∧ setOf name = ((setN.drop k).findIdx? (same name)).map (· + k) ∧ ∃ M, St w0 M0 M [] w ∧ Sl M encS v5 setN) (fun (k : Nat) => 4 - k) (0) ⟨rfl, rfl, rfl, trivial⟩ (⟨by omega, by rw [l0s]; simp only [l1t, Option.map_id']; rfl, M, H, hl5⟩) ?_))))))))))
 intro k w
 rintro ⟨hk, hso, M, H, hl5⟩
 have hsl : setN.length = 4 := rfl
 refine SQ (SQ (RG (MV G G (MV G G ?_))))
 first | refine q01 (q0A Tu55 (by assumption) rfl) (q00 rfl) rfl rfl ?_ | refine q01 (q0G Tu55 H Km rfl) (q00 rfl) rfl rfl ?_ | refine q01 (q0z Tu55 rfl) (q00 rfl) rfl rfl ?_
 refine q0a (q0n G G) (q00 G) G G (fun h3_3 => ?_) (fun h3_3 => ?_)
 · obtain ⟨x, hx⟩ : ∃ x, setN[k]? = some x := ⟨_, List.getElem?_eq_getElem Om⟩
   have hxl : x.length ≤ maxLen := by
    have h1 : ∀ y ∈ setN, y.length ≤ maxLen := by decide
    exact h1 x (l1k hx)
   refine NL (TN (CT G (SK (TN (SQ (BL (SQ (RG (MV G G (MV G G (q1g Tu55 Ts9 (by assumption) G G (hx) (q00 G) G ?_)))))))))))
   intro p14 hc14
   first | refine q01 (q08 H rfl (by assumption) Ta9) (q00 rfl) rfl rfl ?_ | refine q01 (XL H Ta9) (q00 rfl) rfl rfl ?_
   refine MV G G ?_
   by_cases h5_5 : lower x = lower name
   · have hr := (setOf_from hso hx).1 h5_5
     refine q05 H (q0y (alike_spec _ _ hxl hs) (R' := fun r _ => r = .bool true) (fun _ _ h => h.trans (congrArg Value.bool (decide_eq_true h5_5)))) G (trivial) (q00 G) G ?_
     intro v17 M w H hle hr17
     replace hl5 := hl5.mono hle
     replace hc14 := hc14.mono hle
     obtain rfl := hr17
     refine NL (TN (CT G (SQ (RG (MV G G (AS G G (NL (TN (RT ?_)))))))))
     refine q07 G G H.ext ?_
     exact by unfold setI; rw [hr]
   refine q05 H (q0y (alike_spec _ _ hxl hs) (R' := fun r _ => r = .bool false) (fun _ _ h => h.trans (congrArg Value.bool (decide_eq_false h5_5)))) G (trivial) (q00 G) G ?_
   intro v17 M w H hle hr17
   replace hl5 := hl5.mono hle
   replace hc14 := hc14.mono hle
   obtain rfl := hr17
   refine NL (TN (CF G (SK (IB (TN (RG (MV G G (ST (q0d G G Om) G ?_))))))))
   refine AS G G (NL ?_)
   refine q1f (k + 1) ⟨G, G, G, trivial⟩ ?_ ?_
   · exact ⟨by omega, (setOf_from hso hx).2 h5_5, M, H, hl5⟩
   omega
 have hr : setOf name = none := by rw [hso, l08 Om]; rfl
 refine NL (TN (CF G (q0m (q06 (q06 (q0f (TN (SQ (RG (AS G G (NL (TN (RT ?_)))))))))))))
 refine q07 G G H.ext ?_
 exact by unfold setI; rw [hr]
theorem Y16 (n : Int) : Ct Tryz.prog 150 [I n] (fun _ => True) (fun r _ => r = S (utf8 n)) := by
 refine Ct.of Tryz.func150 (enters Tryz.func150 Kr G) G G G ?_
 intro w0 M0 H hp
 refine SQ (RG (AS G G (NL (TN ?_))))
 refine WC.cut1 (fun (m : Int) => [(0, I m)]) (fun (m : Int) w => m = fixN n ∧ ∃ M, St w0 M0 M [] w) ?_ ?_
 · refine SQ (RG (MV G G ?_))
   by_cases h1_1 : (0 : Int) ≤ n ∧ n ≤ 1114111
   · refine q05 H (q0y (in_spec _ _ _) (R' := fun r _ => r = .bool true) (fun _ _ h => h.trans (congrArg Value.bool (decide_eq_true h1_1)))) G (trivial) (q00 G) G ?_
     intro v4 M w H hle hr4
     obtain rfl := hr4
     refine ST (q1o G) G (MV G G (SG (q02 G) G G G ?_))
     by_cases h1_5 : (55296 : Int) ≤ n ∧ n ≤ 57343
     · refine q05 H (q0y (in_spec _ _ _) (R' := fun r _ => r = .bool true) (fun _ _ h => h.trans (congrArg Value.bool (decide_eq_true h1_5)))) G (trivial) (q04 G G G) G ?_
       intro v8 M w H hle hr8
       obtain rfl := hr8
       refine PF G G G (NL (TN (CT G (RG (AS G G (NL (q1W (65533) ⟨G, trivial⟩ ?_)))))))
       exact ⟨(fixN_bad Om).symm, M, H⟩
     refine q05 H (q0y (in_spec _ _ _) (R' := fun r _ => r = .bool false) (fun _ _ h => h.trans (congrArg Value.bool (decide_eq_false h1_5)))) G (trivial) (q04 G G G) G ?_
     intro v8 M w H hle hr8
     obtain rfl := hr8
     refine PF G G G (NL (TN (CF G (SK (q1W (n) ⟨G, trivial⟩ ?_)))))
     exact ⟨(fixN_id Om Om Om).symm, M, H⟩
   refine q05 H (q0y (in_spec _ _ _) (R' := fun r _ => r = .bool false) (fun _ _ h => h.trans (congrArg Value.bool (decide_eq_false h1_1)))) G (trivial) (q00 G) G ?_
   intro v4 M w H hle hr4
   obtain rfl := hr4
   refine ST (q1T G) G (MV G G (GT G G G (GT G G G (PT G G G (NL (TN (CT G (RG (AS G G (NL (q1W (65533) ⟨G, trivial⟩ ?_)))))))))))
   exact ⟨(fixN_bad Om).symm, M, H⟩
 intro m w
 rintro ⟨hm, M, H⟩
 have hfx := fixN_ok n
 rw [← hm] at hfx
 refine SQ (SQ (RG (MV G G ?_)))
 refine q0a (q0n G G) (q00 G) G G (fun h3_1 => ?_) (fun h3_1 => ?_)
 · refine NL (TN (CT G (SQ (RG (MV G G (ST (q0Z Tu3 Tu5 G) G (q0B (enc := encB) ty88 [_] H G Kf (fun _ => G) G G (q00 G) G ?_)))))))
   intro v14 M w H hle hl14
   refine ST (q1S Tu88 Tu5 Tu9 H (by assumption) G) G ?_
   refine AS G G (NL (TN (RT ?_)))
   refine q07 G G H.ext ?_
   exact by unfold utf8; rw [← hm]; unfold utf8M; rw [if_pos Om]
 refine NL (TN (CF G (SK (TN (SQ (SQ (RG (MV G G ?_))))))))
 refine q0a (q0n G G) (q00 G) G G (fun h5_1 => ?_) (fun h5_1 => ?_)
 · refine NL (TN (CT G (SQ (RG (MV G G (ST (q2b G G (by first | omega | exact ⟨l0g _, by decide⟩)) G ?_))))))
   refine ST (q0d G G Om) G ?_
   refine ST (q0Z Tu3 Tu5 G) G (MV G G (ST (q1y G G (by first | omega | exact ⟨l0g _, by decide⟩)) G ?_))
   refine ST (q0d G G Om) G ?_
   refine ST (q0Z Tu3 Tu5 G) G (q0B (enc := encB) ty88 [_, _] H G Kf (fun _ => G) G G (q00 G) G ?_)
   intro v26 M w H hle hl26
   refine ST (q1S Tu88 Tu5 Tu9 H (by assumption) G) G ?_
   refine AS G G (NL (TN (RT ?_)))
   refine q07 G G H.ext ?_
   exact by unfold utf8; rw [← hm]; unfold utf8M; rw [if_neg Om, if_pos Om]
 refine NL (TN (CF G (SK (TN (SQ (SQ (RG (MV G G ?_))))))))
 refine q0a (q0n G G) (q00 G) G G (fun h7_1 => ?_) (fun h7_1 => ?_)
 · refine NL (TN (CT G (SQ (RG (MV G G (ST (q2b G G (by first | omega | exact ⟨l0g _, by decide⟩)) G ?_))))))
   refine ST (q0d G G Om) G ?_
   refine ST (q0Z Tu3 Tu5 G) G (MV G G (ST (q2b G G (by first | omega | exact ⟨l0g _, by decide⟩)) G ?_))
   refine ST (q1y G G (by first | omega | exact ⟨l0g _, by decide⟩)) G ?_
   refine ST (q0d G G Om) G ?_
   refine ST (q0Z Tu3 Tu5 G) G (MV G G (ST (q1y G G (by first | omega | exact ⟨l0g _, by decide⟩)) G ?_))
   refine ST (q0d G G Om) G ?_
   refine ST (q0Z Tu3 Tu5 G) G (q0B (enc := encB) ty88 [_, _, _] H G Kf (fun _ => G) G G (q00 G) G ?_)
   intro v43 M w H hle hl43
   refine ST (q1S Tu88 Tu5 Tu9 H (by assumption) G) G ?_
   refine AS G G (NL (TN (RT ?_)))
   refine q07 G G H.ext ?_
   exact by unfold utf8; rw [← hm]; unfold utf8M; rw [if_neg Om, if_neg Om, if_pos Om]
 refine NL (TN (CF G (SK (TN (SQ (RG (MV G G (ST (q2b G G (by first | omega | exact ⟨l0g _, by decide⟩)) G ?_))))))))
 refine ST (q0d G G Om) G ?_
 refine ST (q0Z Tu3 Tu5 G) G (MV G G (ST (q2b G G (by first | omega | exact ⟨l0g _, by decide⟩)) G ?_))
 refine ST (q1y G G (by first | omega | exact ⟨l0g _, by decide⟩)) G ?_
 refine ST (q0d G G Om) G ?_
 refine ST (q0Z Tu3 Tu5 G) G (MV G G (ST (q2b G G (by first | omega | exact ⟨l0g _, by decide⟩)) G ?_))
 refine ST (q1y G G (by first | omega | exact ⟨l0g _, by decide⟩)) G ?_
 refine ST (q0d G G Om) G ?_
 refine ST (q0Z Tu3 Tu5 G) G (MV G G (ST (q1y G G (by first | omega | exact ⟨l0g _, by decide⟩)) G ?_))
 refine ST (q0d G G Om) G ?_
 refine ST (q0Z Tu3 Tu5 G) G (q0B (enc := encB) ty88 [_, _, _, _] H G Kf (fun _ => G) G G (q00 G) G ?_)
 intro v63 M w H hle hl63
 refine ST (q1S Tu88 Tu5 Tu9 H (by assumption) G) G ?_
 refine AS G G (NL (TN (RT ?_)))
 refine q07 G G H.ext ?_
 exact by unfold utf8; rw [← hm]; unfold utf8M; rw [if_neg Om, if_neg Om, if_neg Om]
theorem valid_spec (l : Ls) (hs : l.length ≤ 4611686018427387904) : Ct Tryz.prog 71 [S l] (fun _ => True) (fun r _ => r = .bool (vld l)) := by
 refine Ct.of Tryz.func71 (enters Tryz.func71 Kr G) G G G ?_
 intro w0 M0 H hp
 refine SQ (RG (AS rfl rfl (NL (TN (SQ (SQ (RG (AS rfl rfl (NL (TN (BL (q1R (fun (q : Nat) => [(0, S l), (3, encN q)]) (fun (q : Nat) w => q ≤ l.length ∧ vld l = vld (l.drop q) ∧ ∃ M, St w0 M0 M [] w) (fun (q : Nat) => l.length - q) (0) ⟨rfl, rfl, trivial⟩ (⟨by omega, rfl, M0, H⟩) ?_))))))))))))
 intro q w
 rintro ⟨hq, hv, M, H⟩
 refine SQ (SQ (RG (MV G G (MV G G (ST (q0k Tu9 G) G ?_)))))
 refine q0a (q0n G G) (q00 G) G G (fun h2_3 => ?_) (fun h2_3 => ?_)
 · have hne := drop_ne (t := l) (n := q) Om
   have hrs := rune_size (l.drop q)
   have hrs3 := hrs.2.2 hne
   rw [l01] at hrs3
   refine NL (TN (CT G (SK (TN (BL (SQ (RG (MV G G (MV G G (q05 H (rune_spec _ _ Om Om) G (trivial) (q00 G) G ?_))))))))))
   intro v13 M w H hle hr13
   obtain rfl := hr13
   refine MV G G (ST (q0e G G) G (ST (q0e G G) G (AS G G (AS G G (NL (TN (SQ (SQ (RG (MV G G ?_))))))))))
   refine q0a (q0n G G) (q00 G) G G (fun h4_1 => ?_) (fun h4_1 => ?_)
   · have hr : vld l = false := by rw [hv, vld_cons hne, decide_eq_false Om, Bool.false_and]
     refine NL (TN (CT G (SQ (RG (AS G G (NL (TN (RT ?_))))))))
     refine q07 G G H.ext ?_
     exact by rw [hr]
   refine NL (TN (CF G (SK (TN (RG (MV G G (MV G G (ST (q0d G G Om) G ?_))))))))
   refine AS G G (NL (IB ?_))
   refine q1f (q + (rune (l.drop q)).2) ⟨G, G, trivial⟩ ?_ ?_
   · refine ⟨by omega, ?_, M, H⟩
     rw [hv, vld_cons hne, decide_eq_true Om, l1S, l0l]
   omega
 have hr : vld l = true := by rw [hv, l08 Om]; rfl
 refine NL (TN (CF G (q0m (q06 (q06 (q0f (TN (SQ (RG (AS G G (NL (TN (RT ?_)))))))))))))
 refine q07 G G H.ext ?_
 exact by rw [hr]
end Go.Proofs.YtkmjdamkifbddaaGreatDoor
end
section
namespace Go.Ph
open Go Go.RowKit
section
variable {P : Program} {e : Env} {w : World} {x : Operand} {v : Value} {dst : Option Tmp} {ty t : TypeId} {pos : String} {af : Array Edge} {g : Option (Nat × Bool)}
theorem Ex.loadCell {p : Addr} (hx : ev e x = some (.pointer (some p))) (hc : w.cell? p = some v) (ha : ∀ w, (isAgg t).run P w = .ok false w) : Ex P ⟨dst, .load t x, ty, pos, af, g⟩ e w v w := Ex.loadK hx (by
 simp only [loadVar, Sem.run_bind, ha, Result.andThen_ok, l0k, if_false]
 simp [load, Sem.run, hc])
theorem Ex.loadAggW {b o s : Nat} {cs : List Value} (hx : ev e x = some (ptr b o)) (hc : ∀ j u, cs[j]? = some u → w.cell? ⟨b, o + j, none⟩ = some u) (ha : ∀ w, (isAgg t).run P w = .ok true w) (hs : ∀ w, (sizeOf t).run P w = .ok s w) (hl : cs.length = s) : Ex P ⟨dst, .load t x, ty, pos, af, g⟩ e w (.agg cs.toArray) w := Ex.loadK hx (by
 subst hl
 have hlc : (loadCells ⟨b, o, none⟩ cs.length).run P w = .ok cs.toArray w :=
  run_loadCells_list (P := P) w ⟨b, o, none⟩ cs (fun j v hv => by rw [Addr.add_lit]; exact hc j v hv)
 simp only [loadVar, Sem.run_bind, ha, Result.andThen_ok, if_true, hs, hlc, Sem.run_pure])
end
end Go.Ph
namespace Go.Ph.Chs
open Go Go.Ph.Utf Go.Ph.Gr
theorem and64 {m s : Nat} (hm : m < 2 ^ 64) : IntKind.u64.wrap ((m &&& s : Nat) : Int) = ((m &&& s : Nat) : Int) := by
 have h : m &&& s ≤ m := Nat.and_le_left
 exact u64_in Om
theorem or64 {m s : Nat} (hm : m < 2 ^ 64) (hs : s < 2 ^ 64) : IntKind.u64.wrap ((m ||| s : Nat) : Int) = ((m ||| s : Nat) : Int) := by
 have h := l0o hm hs
 exact u64_in Om
theorem shl64 {b k : Nat} (hb : b < 256) (hk : k ≤ 56) : b <<< k < 2 ^ 64 ∧ IntKind.u64.wrap ((b * 2 ^ k : Nat) : Int) = ((b <<< k : Nat) : Int) := by
 have h2 : 2 ^ k ≤ 2 ^ 56 := l1d Dc hk
 have h3 : b * 2 ^ k < 2 ^ 64 := Nat.lt_of_le_of_lt (Nat.mul_le_mul (show b ≤ 255 by omega) h2) Dc
 rw [Nat.shiftLeft_eq]
 exact ⟨h3, u64_in Om⟩
def FF (c : Nat) : Prop := ∃ sz ai lo hi, Lib.firstT c < 256 ∧ Lib.firstT c &&& 7 = sz ∧ Lib.firstT c / 2 ^ 4 = ai ∧ ai < 16 ∧ Lib.accLo ai = lo ∧ Lib.accHi ai = hi ∧ lo < 256 ∧ hi < 256 ∧ (sz = 1 ∨ sz = 2 ∨ sz = 3 ∨ sz = 4) ∧
 (sz = 1 → ¬ (194 ≤ c ∧ c ≤ 244)) ∧ (sz = 2 → 194 ≤ c ∧ c ≤ 223 ∧ lo = 128 ∧ hi = 191) ∧ (sz = 3 → 224 ≤ c ∧ c ≤ 239 ∧ lo = (if c = 224 then 160 else 128) ∧ hi = (if c = 237 then 159 else 191)) ∧ (sz = 4 → 240 ≤ c ∧ c ≤ 244 ∧ lo = (if c = 240 then 144 else 128) ∧ hi = (if c = 244 then 143 else 191))
theorem first_facts (c : Nat) (h : 128 ≤ c) (h2 : c < 256) : FF c := by
 have key : ∀ F sz ai lo hi : Nat, Lib.firstT c = F → F < 256 → F &&& 7 = sz → F / 2 ^ 4 = ai → ai < 16 → Lib.accLo ai = lo → Lib.accHi ai = hi → lo < 256 → hi < 256 → (sz = 1 ∨ sz = 2 ∨ sz = 3 ∨ sz = 4) →
  (sz = 1 → ¬ (194 ≤ c ∧ c ≤ 244)) → (sz = 2 → 194 ≤ c ∧ c ≤ 223 ∧ lo = 128 ∧ hi = 191) → (sz = 3 → 224 ≤ c ∧ c ≤ 239 ∧ lo = (if c = 224 then 160 else 128) ∧ hi = (if c = 237 then 159 else 191)) → (sz = 4 → 240 ≤ c ∧ c ≤ 244 ∧ lo = (if c = 240 then 144 else 128) ∧ hi = (if c = 244 then 143 else 191)) → FF c :=
  fun F sz ai lo hi e1 e2 e3 e4 e5 e6 e7 e8 e9 ea eb ec ed ee => ⟨sz, ai, lo, hi, by rw [e1]; exact e2, by rw [e1]; exact e3, by rw [e1]; exact e4, e5, e6, e7, e8, e9, ea, eb, ec, ed, ee⟩
 have hF : Lib.firstT c = if c < 194 then 241 else if c < 224 then 2 else if c = 224 then 19 else if c < 237 then 3 else if c = 237 then 35 else if c < 240 then 3 else if c = 240 then 52 else if c < 244 then 4 else if c = 244 then 68 else 241 := by
  unfold Lib.firstT; rw [if_neg Om]
 by_cases c1 : c < 194
 · exact key 241 1 15 0 0 (by rw [hF, if_pos c1]) Dc Dc Dc Dc Dc Dc Dc Dc Dc (fun _ => by omega) (fun h => by omega) (fun h => by omega) (fun h => by omega)
 by_cases c2 : c < 224
 · exact key 2 2 0 128 191 (by rw [hF, if_neg c1, if_pos c2]) Dc Dc Dc Dc Dc Dc Dc Dc Dc (fun h => by omega) (fun h => ⟨by omega, by omega, G, G⟩) (fun h => by omega) (fun h => by omega)
 by_cases c3 : c = 224
 · exact key 19 3 1 160 191 (by rw [hF, if_neg c1, if_neg c2, if_pos c3]) Dc Dc Dc Dc Dc Dc Dc Dc Dc (fun h => by omega) (fun h => by omega) (fun h => ⟨by omega, by omega, by rw [if_pos c3], by rw [if_neg Om]⟩) (fun h => by omega)
 by_cases c4 : c < 237
 · exact key 3 3 0 128 191 (by rw [hF, if_neg c1, if_neg c2, if_neg c3, if_pos c4]) Dc Dc Dc Dc Dc Dc Dc Dc Dc (fun h => by omega) (fun h => by omega) (fun h => ⟨by omega, by omega, by rw [if_neg c3], by rw [if_neg Om]⟩) (fun h => by omega)
 by_cases c5 : c = 237
 · exact key 35 3 2 128 159 (by rw [hF, if_neg c1, if_neg c2, if_neg c3, if_neg c4, if_pos c5]) Dc Dc Dc Dc Dc Dc Dc Dc Dc (fun h => by omega) (fun h => by omega) (fun h => ⟨by omega, by omega, by rw [if_neg c3], by rw [if_pos c5]⟩) (fun h => by omega)
 by_cases c6 : c < 240
 · exact key 3 3 0 128 191 (by rw [hF, if_neg c1, if_neg c2, if_neg c3, if_neg c4, if_neg c5, if_pos c6]) Dc Dc Dc Dc Dc Dc Dc Dc Dc (fun h => by omega) (fun h => by omega) (fun h => ⟨by omega, by omega, by rw [if_neg c3], by rw [if_neg c5]⟩) (fun h => by omega)
 by_cases c7 : c = 240
 · exact key 52 4 3 144 191 (by rw [hF, if_neg c1, if_neg c2, if_neg c3, if_neg c4, if_neg c5, if_neg c6, if_pos c7]) Dc Dc Dc Dc Dc Dc Dc Dc Dc (fun h => by omega) (fun h => by omega) (fun h => by omega) (fun h => ⟨by omega, by omega, by rw [if_pos c7], by rw [if_neg Om]⟩)
 by_cases c8 : c < 244
 · exact key 4 4 0 128 191 (by rw [hF, if_neg c1, if_neg c2, if_neg c3, if_neg c4, if_neg c5, if_neg c6, if_neg c7, if_pos c8]) Dc Dc Dc Dc Dc Dc Dc Dc Dc (fun h => by omega) (fun h => by omega) (fun h => by omega) (fun h => ⟨by omega, by omega, by rw [if_neg c7], by rw [if_neg Om]⟩)
 by_cases c9 : c = 244
 · exact key 68 4 4 128 143 (by rw [hF, if_neg c1, if_neg c2, if_neg c3, if_neg c4, if_neg c5, if_neg c6, if_neg c7, if_neg c8, if_pos c9]) Dc Dc Dc Dc Dc Dc Dc Dc Dc (fun h => by omega) (fun h => by omega) (fun h => by omega) (fun h => ⟨by omega, by omega, by rw [if_neg c7], by rw [if_pos c9]⟩)
 exact key 241 1 15 0 0 (by rw [hF, if_neg c1, if_neg c2, if_neg c3, if_neg c4, if_neg c5, if_neg c6, if_neg c7, if_neg c8, if_neg c9]) Dc Dc Dc Dc Dc Dc Dc Dc Dc (fun _ => by omega) (fun h => by omega) (fun h => by omega) (fun h => by omega)
theorem runeN_else {m b0 b1 b2 b3 : Nat} (h : 128 ≤ b0) (h1 : ¬ (192 ≤ b0 ∧ b0 ≤ 247)) : runeN m b0 b1 b2 b3 = (-1, 1) := by
 unfold runeN
 rw [if_neg Om, if_neg Om, if_neg Om, if_neg Om]
theorem multi1 {t : Ls} (h : 128 ≤ nat t 0) (h1 : ¬ (194 ≤ nat t 0 ∧ nat t 0 ≤ 244)) : (rune t).1 < 0 := by
 rw [rune_eq]
 have n1 := nat_lt t 1
 by_cases k0 : 192 ≤ nat t 0 ∧ nat t 0 ≤ 247
 · unfold runeN
   rw [if_neg Om]
   by_cases k1 : nat t 0 ≤ 223
   · rw [if_pos Om]
     split
     · rename_i hc
       have ho := hc.2
       unfold okC at ho
       rw [chk, if_pos (by unfold badN; omega)]; decide
     decide
   rw [if_neg Om, if_neg Om, if_pos Om]
   split
   · rename_i hc
     obtain ⟨_, o1, o2, o3⟩ := hc
     unfold okC at o1 o2 o3
     rw [chk, if_pos (by unfold badN; omega)]; decide
   decide
 rw [runeN_else h k0]; decide
theorem multi2 {t : Ls} (h : 194 ≤ nat t 0 ∧ nat t 0 ≤ 223) : (2 ≤ t.length ∧ 128 ≤ nat t 1 ∧ nat t 1 ≤ 191 → 0 ≤ (rune t).1 ∧ (rune t).2 = 2) ∧ (¬ (2 ≤ t.length ∧ 128 ≤ nat t 1 ∧ nat t 1 ≤ 191) → (rune t).1 < 0) := by
 rw [rune_eq]
 unfold runeN
 rw [if_neg Om, if_pos Om]
 constructor
 · intro hc
   rw [if_pos ⟨hc.1, by unfold okC; omega⟩, chk, if_neg (by unfold badN; omega)]
   exact ⟨by simp only []; omega, G⟩
 intro hc
 rw [if_neg (by unfold okC; omega)]; decide
theorem multi3 {t : Ls} {lo hi : Nat} (h : 224 ≤ nat t 0 ∧ nat t 0 ≤ 239) (hlo : lo = if nat t 0 = 224 then 160 else 128) (hhi : hi = if nat t 0 = 237 then 159 else 191) :
 (3 ≤ t.length ∧ lo ≤ nat t 1 ∧ nat t 1 ≤ hi ∧ 128 ≤ nat t 2 ∧ nat t 2 ≤ 191 → 0 ≤ (rune t).1 ∧ (rune t).2 = 3) ∧ (¬ (3 ≤ t.length ∧ lo ≤ nat t 1 ∧ nat t 1 ≤ hi ∧ 128 ≤ nat t 2 ∧ nat t 2 ≤ 191) → (rune t).1 < 0) := by
 rw [rune_eq]
 unfold runeN
 rw [if_neg Om, if_neg Om, if_pos Om]
 have hl : lo = 160 ∧ nat t 0 = 224 ∨ lo = 128 ∧ nat t 0 ≠ 224 := by split at hlo <;> omega
 have hh : hi = 159 ∧ nat t 0 = 237 ∨ hi = 191 ∧ nat t 0 ≠ 237 := by split at hhi <;> omega
 constructor
 · intro hc
   rw [if_pos ⟨hc.1, by unfold okC; omega, by unfold okC; omega⟩, chk, if_neg (by unfold badN; omega)]
   exact ⟨by simp only []; omega, G⟩
 intro hc
 split
 · rename_i hd
   obtain ⟨d0, d1, d2⟩ := hd
   unfold okC at d1 d2
   rw [chk, if_pos (by unfold badN; omega)]; decide
 decide
theorem multi4 {t : Ls} {lo hi : Nat} (h : 240 ≤ nat t 0 ∧ nat t 0 ≤ 244) (hlo : lo = if nat t 0 = 240 then 144 else 128) (hhi : hi = if nat t 0 = 244 then 143 else 191) :
 (4 ≤ t.length ∧ lo ≤ nat t 1 ∧ nat t 1 ≤ hi ∧ (128 ≤ nat t 2 ∧ nat t 2 ≤ 191) ∧ (128 ≤ nat t 3 ∧ nat t 3 ≤ 191) → 0 ≤ (rune t).1 ∧ (rune t).2 = 4) ∧ (¬ (4 ≤ t.length ∧ lo ≤ nat t 1 ∧ nat t 1 ≤ hi ∧ (128 ≤ nat t 2 ∧ nat t 2 ≤ 191) ∧ (128 ≤ nat t 3 ∧ nat t 3 ≤ 191)) → (rune t).1 < 0) := by
 rw [rune_eq]
 unfold runeN
 rw [if_neg Om, if_neg Om, if_neg Om, if_pos Om]
 have hl : lo = 144 ∧ nat t 0 = 240 ∨ lo = 128 ∧ nat t 0 ≠ 240 := by split at hlo <;> omega
 have hh : hi = 143 ∧ nat t 0 = 244 ∨ hi = 191 ∧ nat t 0 ≠ 244 := by split at hhi <;> omega
 constructor
 · intro hc
   rw [if_pos ⟨hc.1, by unfold okC; omega, by unfold okC; omega, by unfold okC; omega⟩, chk, if_neg (by unfold badN; omega)]
   exact ⟨by simp only []; omega, G⟩
 intro hc
 split
 · rename_i hd
   obtain ⟨d0, d1, d2, d3⟩ := hd
   unfold okC at d1 d2 d3
   rw [chk, if_pos (by unfold badN; omega)]; decide
 decide
theorem vld_32 {x : Ls} (hx : 32 ≤ x.length) (h1 : ∀ i, i < 8 → nat x i < 128) (h2 : ∀ i, i < 8 → nat (x.drop 8) i < 128) (h3 : ∀ i, i < 8 → nat (x.drop 16) i < 128) (h4 : ∀ i, i < 8 → nat (x.drop 24) i < 128) : vld x = vld (x.drop 32) := by
 have e1 := vld_asciis 8 x Om h1
 have e2 := vld_asciis 8 (x.drop 8) (by rw [l01]; omega) h2
 have e3 := vld_asciis 8 (x.drop 16) (by rw [l01]; omega) h3
 have e4 := vld_asciis 8 (x.drop 24) (by rw [l01]; omega) h4
 rw [l0l] at e2 e3 e4
 exact (e1.trans e2).trans (e3.trans e4)
theorem vld_bad {t : Ls} (hne : t ≠ []) (h : (rune t).1 < 0) : vld t = false := by rw [vld_cons hne, decide_eq_false Om, Bool.false_and]
theorem vld_good {t : Ls} {k : Nat} (hne : t ≠ []) (h : 0 ≤ (rune t).1 ∧ (rune t).2 = k) : vld t = vld (t.drop k) := by rw [vld_cons hne, decide_eq_true h.1, l1S, h.2]
end Go.Ph.Chs
end
section
namespace Go.Proofs.YtkmjdamkifbddaaGreatDoor
open Go Go.RowKit Go.Ph
open Go.Ph.Gr Go.Ph.Utf Go.Ph.Chs
theorem word_spec (l : Ls) (hl : 8 ≤ l.length) : Ct Tryz.prog 104 [S l] (fun _ => True) (fun r _ => r = .int .u64 ((w8 l : Nat) : Int)) := by
 refine Ct.of Tryz.func104 (enters Tryz.func104 Kr G) G G G ?_
 intro w0 M0 H hp
 obtain ⟨b0, hb0⟩ : ∃ u, l[0]? = some u := ⟨_, List.getElem?_eq_getElem Om⟩
 have hlt0 := b0.toNat_lt
 have hn0 := nat_of hb0
 obtain ⟨b1, hb1⟩ : ∃ u, l[1]? = some u := ⟨_, List.getElem?_eq_getElem Om⟩
 have hlt1 := b1.toNat_lt
 have hn1 := nat_of hb1
 obtain ⟨b2, hb2⟩ : ∃ u, l[2]? = some u := ⟨_, List.getElem?_eq_getElem Om⟩
 have hlt2 := b2.toNat_lt
 have hn2 := nat_of hb2
 obtain ⟨b3, hb3⟩ : ∃ u, l[3]? = some u := ⟨_, List.getElem?_eq_getElem Om⟩
 have hlt3 := b3.toNat_lt
 have hn3 := nat_of hb3
 obtain ⟨b4, hb4⟩ : ∃ u, l[4]? = some u := ⟨_, List.getElem?_eq_getElem Om⟩
 have hlt4 := b4.toNat_lt
 have hn4 := nat_of hb4
 obtain ⟨b5, hb5⟩ : ∃ u, l[5]? = some u := ⟨_, List.getElem?_eq_getElem Om⟩
 have hlt5 := b5.toNat_lt
 have hn5 := nat_of hb5
 obtain ⟨b6, hb6⟩ : ∃ u, l[6]? = some u := ⟨_, List.getElem?_eq_getElem Om⟩
 have hlt6 := b6.toNat_lt
 have hn6 := nat_of hb6
 obtain ⟨b7, hb7⟩ : ∃ u, l[7]? = some u := ⟨_, List.getElem?_eq_getElem Om⟩
 have hlt7 := b7.toNat_lt
 have hn7 := nat_of hb7
 have hw0 : b0.toNat < 2 ^ 64 := by omega
 have hs1 := shl64 (b := b1.toNat) (k := 8) hlt1 Dc
 have hw1 : b0.toNat ||| b1.toNat <<< 8 < 2 ^ 64 := l0o hw0 hs1.1
 have hs2 := shl64 (b := b2.toNat) (k := 16) hlt2 Dc
 have hw2 : b0.toNat ||| b1.toNat <<< 8 ||| b2.toNat <<< 16 < 2 ^ 64 := l0o hw1 hs2.1
 have hs3 := shl64 (b := b3.toNat) (k := 24) hlt3 Dc
 have hw3 : b0.toNat ||| b1.toNat <<< 8 ||| b2.toNat <<< 16 ||| b3.toNat <<< 24 < 2 ^ 64 := l0o hw2 hs3.1
 have hs4 := shl64 (b := b4.toNat) (k := 32) hlt4 Dc
 have hw4 : b0.toNat ||| b1.toNat <<< 8 ||| b2.toNat <<< 16 ||| b3.toNat <<< 24 ||| b4.toNat <<< 32 < 2 ^ 64 := l0o hw3 hs4.1
 have hs5 := shl64 (b := b5.toNat) (k := 40) hlt5 Dc
 have hw5 : b0.toNat ||| b1.toNat <<< 8 ||| b2.toNat <<< 16 ||| b3.toNat <<< 24 ||| b4.toNat <<< 32 ||| b5.toNat <<< 40 < 2 ^ 64 := l0o hw4 hs5.1
 have hs6 := shl64 (b := b6.toNat) (k := 48) hlt6 Dc
 have hw6 : b0.toNat ||| b1.toNat <<< 8 ||| b2.toNat <<< 16 ||| b3.toNat <<< 24 ||| b4.toNat <<< 32 ||| b5.toNat <<< 40 ||| b6.toNat <<< 48 < 2 ^ 64 := l0o hw5 hs6.1
 have hs7 := shl64 (b := b7.toNat) (k := 56) hlt7 Dc
 have hw7 : b0.toNat ||| b1.toNat <<< 8 ||| b2.toNat <<< 16 ||| b3.toNat <<< 24 ||| b4.toNat <<< 32 ||| b5.toNat <<< 40 ||| b6.toNat <<< 48 ||| b7.toNat <<< 56 < 2 ^ 64 := l0o hw6 hs7.1
 refine SQ (RG (AS G G (NL (TN (SQ (CF G (SK (TN (SQ (q0F (m := 39) G G H ?_))))))))))
 intro w H
 refine TK 0 G (fun _ => q02 G) G (TK 1 G (fun _ => q1a Tu9 G G (hb0)) G (TK 2 G (fun _ => q1N Tu5 Tu143 G Om) G ?_))
 refine TK 3 G (fun _ => q02 G) G (TK 4 G (fun _ => q1a Tu9 G G (hb1)) G (TK 5 G (fun _ => q1N Tu5 Tu143 G Om) G ?_))
 refine q0Y (v' := .int .u64 ((b1.toNat <<< 8 : Nat) : Int)) (i := 6) G Kr Kr Kr (fun _ => q1K (m := b1.toNat) (s := 8) G G Dc) (congrArg (Value.int .u64) hs1.2) (q00 G) G G (fun _ _ => G) (q0Y (v' := .int .u64 ((b0.toNat ||| b1.toNat <<< 8 : Nat) : Int)) (i := 7) G Kr Kr Kr (fun _ => q1J (m := (b0.toNat)) (s := (b1.toNat <<< 8)) G G hw0 hs1.1) (congrArg (Value.int .u64) (or64 hw0 hs1.1)) (q00 G) G G (fun _ _ => G) (TK 8 G (fun _ => q02 G) G (TK 9 G (fun _ => q1a Tu9 G G (hb2)) G (TK 10 G (fun _ => q1N Tu5 Tu143 G Om) G ?_))))
 refine q0Y (v' := .int .u64 ((b2.toNat <<< 16 : Nat) : Int)) (i := 11) G Kr Kr Kr (fun _ => q1K (m := b2.toNat) (s := 16) G G Dc) (congrArg (Value.int .u64) hs2.2) (q00 G) G G (fun _ _ => G) (q0Y (v' := .int .u64 ((b0.toNat ||| b1.toNat <<< 8 ||| b2.toNat <<< 16 : Nat) : Int)) (i := 12) G Kr Kr Kr (fun _ => q1J (m := (b0.toNat ||| b1.toNat <<< 8)) (s := (b2.toNat <<< 16)) G G hw1 hs2.1) (congrArg (Value.int .u64) (or64 hw1 hs2.1)) (q00 G) G G (fun _ _ => G) (TK 13 G (fun _ => q02 G) G (TK 14 G (fun _ => q1a Tu9 G G (hb3)) G (TK 15 G (fun _ => q1N Tu5 Tu143 G Om) G ?_))))
 refine q0Y (v' := .int .u64 ((b3.toNat <<< 24 : Nat) : Int)) (i := 16) G Kr Kr Kr (fun _ => q1K (m := b3.toNat) (s := 24) G G Dc) (congrArg (Value.int .u64) hs3.2) (q00 G) G G (fun _ _ => G) (q0Y (v' := .int .u64 ((b0.toNat ||| b1.toNat <<< 8 ||| b2.toNat <<< 16 ||| b3.toNat <<< 24 : Nat) : Int)) (i := 17) G Kr Kr Kr (fun _ => q1J (m := (b0.toNat ||| b1.toNat <<< 8 ||| b2.toNat <<< 16)) (s := (b3.toNat <<< 24)) G G hw2 hs3.1) (congrArg (Value.int .u64) (or64 hw2 hs3.1)) (q00 G) G G (fun _ _ => G) (TK 18 G (fun _ => q02 G) G (TK 19 G (fun _ => q1a Tu9 G G (hb4)) G ?_)))
 refine TK 20 G (fun _ => q1N Tu5 Tu143 G Om) G ?_
 refine q0Y (v' := .int .u64 ((b4.toNat <<< 32 : Nat) : Int)) (i := 21) G Kr Kr Kr (fun _ => q1K (m := b4.toNat) (s := 32) G G Dc) (congrArg (Value.int .u64) hs4.2) (q00 G) G G (fun _ _ => G) (q0Y (v' := .int .u64 ((b0.toNat ||| b1.toNat <<< 8 ||| b2.toNat <<< 16 ||| b3.toNat <<< 24 ||| b4.toNat <<< 32 : Nat) : Int)) (i := 22) G Kr Kr Kr (fun _ => q1J (m := (b0.toNat ||| b1.toNat <<< 8 ||| b2.toNat <<< 16 ||| b3.toNat <<< 24)) (s := (b4.toNat <<< 32)) G G hw3 hs4.1) (congrArg (Value.int .u64) (or64 hw3 hs4.1)) (q00 G) G G (fun _ _ => G) (TK 23 G (fun _ => q02 G) G (TK 24 G (fun _ => q1a Tu9 G G (hb5)) G ?_)))
 refine TK 25 G (fun _ => q1N Tu5 Tu143 G Om) G ?_
 refine q0Y (v' := .int .u64 ((b5.toNat <<< 40 : Nat) : Int)) (i := 26) G Kr Kr Kr (fun _ => q1K (m := b5.toNat) (s := 40) G G Dc) (congrArg (Value.int .u64) hs5.2) (q00 G) G G (fun _ _ => G) (q0Y (v' := .int .u64 ((b0.toNat ||| b1.toNat <<< 8 ||| b2.toNat <<< 16 ||| b3.toNat <<< 24 ||| b4.toNat <<< 32 ||| b5.toNat <<< 40 : Nat) : Int)) (i := 27) G Kr Kr Kr (fun _ => q1J (m := (b0.toNat ||| b1.toNat <<< 8 ||| b2.toNat <<< 16 ||| b3.toNat <<< 24 ||| b4.toNat <<< 32)) (s := (b5.toNat <<< 40)) G G hw4 hs5.1) (congrArg (Value.int .u64) (or64 hw4 hs5.1)) (q00 G) G G (fun _ _ => G) (TK 28 G (fun _ => q02 G) G (TK 29 G (fun _ => q1a Tu9 G G (hb6)) G ?_)))
 refine TK 30 G (fun _ => q1N Tu5 Tu143 G Om) G ?_
 refine q0Y (v' := .int .u64 ((b6.toNat <<< 48 : Nat) : Int)) (i := 31) G Kr Kr Kr (fun _ => q1K (m := b6.toNat) (s := 48) G G Dc) (congrArg (Value.int .u64) hs6.2) (q00 G) G G (fun _ _ => G) (q0Y (v' := .int .u64 ((b0.toNat ||| b1.toNat <<< 8 ||| b2.toNat <<< 16 ||| b3.toNat <<< 24 ||| b4.toNat <<< 32 ||| b5.toNat <<< 40 ||| b6.toNat <<< 48 : Nat) : Int)) (i := 32) G Kr Kr Kr (fun _ => q1J (m := (b0.toNat ||| b1.toNat <<< 8 ||| b2.toNat <<< 16 ||| b3.toNat <<< 24 ||| b4.toNat <<< 32 ||| b5.toNat <<< 40)) (s := (b6.toNat <<< 48)) G G hw5 hs6.1) (congrArg (Value.int .u64) (or64 hw5 hs6.1)) (q00 G) G G (fun _ _ => G) (ON 33 Kr G (MV G G (NA (ON 34 Kr G (ST (q1a Tu9 G G (hb7)) G (NA (ON 35 Kr G ?_))))))))
 refine ST (q1N Tu5 Tu143 G Om) G ?_
 refine NA (ON 36 Kr G (q09 (v' := .int .u64 ((b7.toNat <<< 56 : Nat) : Int)) (q1K (m := b7.toNat) (s := 56) G G Dc) (congrArg (Value.int .u64) hs7.2) (q00 G) G G (NA (ON 37 Kr G (q09 (v' := .int .u64 ((b0.toNat ||| b1.toNat <<< 8 ||| b2.toNat <<< 16 ||| b3.toNat <<< 24 ||| b4.toNat <<< 32 ||| b5.toNat <<< 40 ||| b6.toNat <<< 48 ||| b7.toNat <<< 56 : Nat) : Int)) (q1J (m := (b0.toNat ||| b1.toNat <<< 8 ||| b2.toNat <<< 16 ||| b3.toNat <<< 24 ||| b4.toNat <<< 32 ||| b5.toNat <<< 40 ||| b6.toNat <<< 48)) (s := (b7.toNat <<< 56)) G G hw6 hs7.1) (congrArg (Value.int .u64) (or64 hw6 hs7.1)) (q00 G) G G (NA (ON 38 Kr G (AS G G (NA (q0h Kr (TN (RT ?_))))))))))))
 refine q07 G G H.ext ?_
 exact by unfold w8; rw [hn0, hn1, hn2, hn3, hn4, hn5, hn6, hn7]
theorem tab_acc {w : World} (h : Lib.Utf8Tabs 0 1 w) {ai lo hi : Nat} (ha : ai < 16) (hlo : Lib.accLo ai = lo) (hhi : Lib.accHi ai = hi) : ∀ j u, ([.int .u8 ((lo : Nat) : Int), .int .u8 ((hi : Nat) : Int)] : List Value)[j]? = some u → w.cell? ⟨1, 2 * ai + j, none⟩ = some u := by
 obtain ⟨h1, h2⟩ := h.2 ai ha
 rw [hlo] at h1
 rw [hhi] at h2
 intro j u hj
 rcases j with _ | _ | j
 · cases hj; exact h1
 · cases hj; exact h2
 simp at hj
theorem validString_spec (l : Ls) (hs : l.length ≤ 4611686018427387904) : Ct Tryz.prog 65 [S l] (fun M => Tabs M) (fun r _ => r = .bool (vld l)) := by
 refine Ct.of Tryz.func65 (enters Tryz.func65 Kr G) G G G ?_
 intro w0 M0 H hp
 refine SQ (RG (AS rfl rfl (NL (TN (SQ (BL (q1R (fun (t : Ls) => [(0, S t)]) (fun (t : Ls) w => t.length ≤ l.length ∧ vld l = vld t ∧ ∃ M, St w0 M0 M [] w ∧ Tabs M) (fun (t : Ls) => t.length) (l) ⟨rfl, trivial⟩ (⟨l0h _, rfl, M0, H, hp⟩) ?_)))))))
 intro t w
 rintro ⟨htl, hv, M, H, hp⟩
 refine SQ (SQ (RG (MV G G (ST (q0k Tu9 G) G ?_))))
 refine q0a (q0K G G) (q00 G) G G (fun h1_2 => ?_) (fun h1_2 => ?_)
 · have hne : t ≠ [] := by rintro rfl; simp at h1_2
   obtain ⟨c, hc⟩ : ∃ c, t[0]? = some c := ⟨_, List.getElem?_eq_getElem Om⟩
   have hcn := nat_of hc
   have hclt := c.toNat_lt
   refine NL (TN (CT G (SK (TN (BL (SQ (RG (MV G G (ST (q1a Tu9 G G (hc)) G (AS G G (NL (TN (SQ (SQ (RG (MV G G ?_))))))))))))))))
   refine q0a (q0n G G) (q00 G) G G (fun h3_1 => ?_) (fun h3_1 => ?_)
   · have hc128 : nat t 0 < 128 := by omega
     refine NL (TN (CT G (SQ (RG (MV G G (q09 (v' := S (t.drop 1)) (q1d (i := 1) (j := t.length) Tu9 G (.inl ⟨_, G, G⟩) (.inr ⟨G, G⟩) Om Om) (by rw [l0F]) (q00 G) G G ?_))))))
     refine AS G G (NL (TN (SQ (SQ (RG ?_)))))
     obtain ⟨u, hu⟩ : ∃ u, u = t.drop 1 := ⟨_, rfl⟩
     rw [← hu]
     have hv1 := vld_ascii hne hc128
     rw [← hu] at hv1
     have hul : u.length = t.length - 1 := by rw [hu, l01]
     refine MV G G (ST (q0k Tu9 G) G ?_)
     refine q0a (q0K G G) (q00 G) G G (fun h5_2 => ?_) (fun h5_2 => ?_)
     · refine MV G G (SG (q02 G) G G G (q05 H (word_spec u Om) G (trivial) (q04 G G G) G ?_))
       intro v21 M w H hle hr21
       replace hp := hp.mono hle
       obtain rfl := hr21
       refine q09 (v' := .int .u64 ((w8 u) &&& 9259542123273814144 : Nat)) (Ex.andK (m := (w8 u)) (s := 9259542123273814144) G G (w8_lt u) Dc) (congrArg (Value.int .u64) (and64 (w8_lt u))) (q04 G G G) G G ?_
       refine q0a (q0c G G) (q04 G G G) G G (fun h5_7 => ?_) (fun h5_7 => ?_)
       · have h8 : ∀ i, i < 8 → nat u i < 128 := w8_small (x := 0) (by rw [Nat.or_zero]; omega)
         have hv8 := vld_asciis 8 u Om h8
         refine PT G G G (NL (TN (CT G (SQ (RG (MV G G (q09 (v' := S (u.drop 8)) (q1d (i := 8) (j := u.length) Tu9 G (.inl ⟨_, G, G⟩) (.inr ⟨G, G⟩) Om Om) (by rw [l0F]) (q00 G) G G ?_)))))))
         obtain ⟨u2, hu2⟩ : ∃ u2, u2 = u.drop 8 := ⟨_, rfl⟩
         rw [← hu2]
         have hul2 : u2.length = u.length - 8 := by rw [hu2, l01]
         refine AS G G (NL (TN (SQ (q0F (m := 13) G G H ?_))))
         intro w H
         refine ON 0 Kr G (MV G G (NA (ON 1 Kr G (ST (q0k Tu9 G) G (NA (ON 2 Kr G ?_))))))
         refine q0a (q0K G G) (q00 G) G G (fun h7_2 => ?_) (fun h7_2 => ?_)
         · refine NA (ON 3 Kr G (MV G G (NA (q0x (i := 4) G Kr Kr Kr (fun _ => q02 G) (q04 G G G) G G (fun _ _ => G) (q0x (i := 6) G Kr Kr Kr (fun _ => q02 G) (q04 G G G) G G (fun _ _ => G) (q0Y (v' := S (u2.drop 8)) (i := 7) G Kr Kr Kr (fun _ => q1d (i := 8) (j := u2.length) Tu9 G (.inl ⟨_, G, G⟩) (.inr ⟨G, G⟩) Om Om) (by rw [l0F]) (q04 G G G) G G (fun _ _ => G) ?_))))))
           refine ON 5 Kr G (q05 H (word_spec u2 Om) G (trivial) (q04 G G G) G ?_)
           intro v32 M w H hle hr32
           replace hp := hp.mono hle
           obtain rfl := hr32
           refine NA (ON 8 Kr G (q05 H (word_spec (u2.drop 8) (by rw [l01]; omega)) G (trivial) (q04 G G G) G ?_))
           intro v35 M w H hle hr35
           replace hp := hp.mono hle
           obtain rfl := hr35
           refine NA (ON 9 Kr G (q09 (v' := .int .u64 ((w8 u2) ||| (w8 (u2.drop 8)) : Nat)) (q1J (m := (w8 u2)) (s := (w8 (u2.drop 8))) G G (w8_lt u2) (w8_lt (u2.drop 8))) (congrArg (Value.int .u64) (or64 (w8_lt u2) (w8_lt (u2.drop 8)))) (q04 G G G) G G (NA (ON 10 Kr G (q09 (v' := .int .u64 ((w8 u2 ||| w8 (u2.drop 8)) &&& 9259542123273814144 : Nat)) (Ex.andK (m := (w8 u2 ||| w8 (u2.drop 8))) (s := 9259542123273814144) G G (l0o (w8_lt u2) (w8_lt (u2.drop 8))) Dc) (congrArg (Value.int .u64) (and64 (l0o (w8_lt u2) (w8_lt (u2.drop 8))))) (q04 G G G) G G (NA (ON 11 Kr G ?_)))))))
           refine q0a (q0c G G) (q04 G G G) G G (fun h7_11 => ?_) (fun h7_11 => ?_)
           · have ha := w8_small (l := u2) (x := w8 (u2.drop 8)) Om
             have hb := w8_small (l := u2.drop 8) (x := w8 u2) (by rw [l2z]; omega)
             have hv16 := (vld_asciis 8 u2 Om ha).trans (vld_asciis 8 (u2.drop 8) (by rw [l01]; omega) hb)
             rw [l0l] at hv16
             refine NA (ON 12 Kr G (PT G G G (NA (q0h Kr (TN (CT G (SQ (RG (MV G G (q09 (v' := S (u2.drop 16)) (q1d (i := 16) (j := u2.length) Tu9 G (.inl ⟨_, G, G⟩) (.inr ⟨G, G⟩) Om Om) (by rw [l0F]) (q00 G) G G ?_))))))))))
             refine AS rfl rfl (NL (TN (BL (q1R (fun (x : Ls) => [(0, S x)]) (fun (x : Ls) w => x.length < t.length ∧ vld l = vld x ∧ ∃ M, St w0 M0 M [] w ∧ Tabs M) (fun (x : Ls) => x.length) (u2.drop 16) ⟨rfl, trivial⟩ (⟨by rw [l01, hu2, hu, l01, l01]; omega, by rw [hv, hv1, hv8, ← hu2, hv16], M, H, hp⟩) ?_))))
             intro x w
             rintro ⟨hxt, hvx, M, H, hp⟩
             refine SQ (SQ (q0F (m := 21) G G H ?_))
             intro w H
             refine ON 0 Kr G (MV G G (NA (ON 1 Kr G (ST (q0k Tu9 G) G (NA (ON 2 Kr G ?_))))))
             refine q0a (q0K G G) (q00 G) G G (fun h9_2 => ?_) (fun h9_2 => ?_)
             · refine NA (ON 3 Kr G (MV G G (NA (q0x (i := 4) G Kr Kr Kr (fun _ => q02 G) (q04 G G G) G G (fun _ _ => G) (q0x (i := 6) G Kr Kr Kr (fun _ => q02 G) (q04 G G G) G G (fun _ _ => G) (q0Y (v' := S (x.drop 8)) (i := 7) G Kr Kr Kr (fun _ => q1d (i := 8) (j := x.length) Tu9 G (.inl ⟨_, G, G⟩) (.inr ⟨G, G⟩) Om Om) (by rw [l0F]) (q04 G G G) G G (fun _ _ => G) ?_))))))
               refine q0x (i := 10) G Kr Kr Kr (fun _ => q02 G) (q04 G G G) G G (fun _ _ => G) (q0Y (v' := S (x.drop 16)) (i := 11) G Kr Kr Kr (fun _ => q1d (i := 16) (j := x.length) Tu9 G (.inl ⟨_, G, G⟩) (.inr ⟨G, G⟩) Om Om) (by rw [l0F]) (q04 G G G) G G (fun _ _ => G) ?_)
               refine q0x (i := 13) G Kr Kr Kr (fun _ => q02 G) (q04 G G G) G G (fun _ _ => G) (q0Y (v' := S (x.drop 24)) (i := 14) G Kr Kr Kr (fun _ => q1d (i := 24) (j := x.length) Tu9 G (.inl ⟨_, G, G⟩) (.inr ⟨G, G⟩) Om Om) (by rw [l0F]) (q04 G G G) G G (fun _ _ => G) ?_)
               refine ON 5 Kr G (q05 H (word_spec x Om) G (trivial) (q04 G G G) G ?_)
               intro v47 M w H hle hr47
               replace hp := hp.mono hle
               obtain rfl := hr47
               refine NA (ON 8 Kr G (q05 H (word_spec (x.drop 8) (by rw [l01]; omega)) G (trivial) (q04 G G G) G ?_))
               intro v50 M w H hle hr50
               replace hp := hp.mono hle
               obtain rfl := hr50
               refine NA (q0Y (v' := .int .u64 ((w8 x) ||| (w8 (x.drop 8)) : Nat)) (i := 9) G Kr Kr Kr (fun _ => q1J (m := (w8 x)) (s := (w8 (x.drop 8))) G G (w8_lt x) (w8_lt (x.drop 8))) (congrArg (Value.int .u64) (or64 (w8_lt x) (w8_lt (x.drop 8)))) (q04 G G G) G G (fun _ _ => G) (ON 12 Kr G (q05 H (word_spec (x.drop 16) (by rw [l01]; omega)) G (trivial) (q04 G G G) G ?_)))
               intro v54 M w H hle hr54
               replace hp := hp.mono hle
               obtain rfl := hr54
               refine NA (ON 15 Kr G (q05 H (word_spec (x.drop 24) (by rw [l01]; omega)) G (trivial) (q04 G G G) G ?_))
               intro v57 M w H hle hr57
               replace hp := hp.mono hle
               obtain rfl := hr57
               refine NA (ON 16 Kr G (q09 (v' := .int .u64 ((w8 (x.drop 16)) ||| (w8 (x.drop 24)) : Nat)) (q1J (m := (w8 (x.drop 16))) (s := (w8 (x.drop 24))) G G (w8_lt (x.drop 16)) (w8_lt (x.drop 24))) (congrArg (Value.int .u64) (or64 (w8_lt (x.drop 16)) (w8_lt (x.drop 24)))) (q04 G G G) G G (NA (ON 17 Kr G (q09 (v' := .int .u64 ((w8 x ||| w8 (x.drop 8)) ||| (w8 (x.drop 16) ||| w8 (x.drop 24)) : Nat)) (q1J (m := (w8 x ||| w8 (x.drop 8))) (s := (w8 (x.drop 16) ||| w8 (x.drop 24))) G G (l0o (w8_lt x) (w8_lt (x.drop 8))) (l0o (w8_lt (x.drop 16)) (w8_lt (x.drop 24)))) (congrArg (Value.int .u64) (or64 (l0o (w8_lt x) (w8_lt (x.drop 8))) (l0o (w8_lt (x.drop 16)) (w8_lt (x.drop 24))))) (q04 G G G) G G (NA (ON 18 Kr G (q09 (v' := .int .u64 (((w8 x ||| w8 (x.drop 8)) ||| (w8 (x.drop 16) ||| w8 (x.drop 24))) &&& 9259542123273814144 : Nat)) (Ex.andK (m := ((w8 x ||| w8 (x.drop 8)) ||| (w8 (x.drop 16) ||| w8 (x.drop 24)))) (s := 9259542123273814144) G G (l0o (l0o (w8_lt x) (w8_lt (x.drop 8))) (l0o (w8_lt (x.drop 16)) (w8_lt (x.drop 24)))) Dc) (congrArg (Value.int .u64) (and64 (l0o (l0o (w8_lt x) (w8_lt (x.drop 8))) (l0o (w8_lt (x.drop 16)) (w8_lt (x.drop 24)))))) (q04 G G G) G G ?_))))))))
               refine NA (ON 19 Kr G ?_)
               refine q0a (q0c G G) (q04 G G G) G G (fun h9_19 => ?_) (fun h9_19 => ?_)
               · have h1 := w8_small (l := x) (x := w8 (x.drop 8) ||| (w8 (x.drop 16) ||| w8 (x.drop 24))) (by rw [← Nat.or_assoc]; omega)
                 have h2 := w8_small (l := x.drop 8) (x := w8 x ||| (w8 (x.drop 16) ||| w8 (x.drop 24))) (by rw [← Nat.or_assoc, l2z (w8 (x.drop 8))]; omega)
                 have h3 := w8_small (l := x.drop 16) (x := w8 (x.drop 24) ||| (w8 x ||| w8 (x.drop 8))) (by rw [← Nat.or_assoc, l2z (w8 (x.drop 16) ||| w8 (x.drop 24))]; omega)
                 have h4 := w8_small (l := x.drop 24) (x := w8 (x.drop 16) ||| (w8 x ||| w8 (x.drop 8))) (by rw [← Nat.or_assoc, l2z (w8 (x.drop 24)), l2z (w8 (x.drop 16) ||| w8 (x.drop 24))]; omega)
                 have hv32 := vld_32 Om h1 h2 h3 h4
                 refine NA (ON 20 Kr G (PT G G G (NA (q0h Kr (TN (CT G (SK (TN (BL (RG (MV G G (q09 (v' := S (x.drop 32)) (q1d (i := 32) (j := x.length) Tu9 G (.inl ⟨_, G, G⟩) (.inr ⟨G, G⟩) Om Om) (by rw [l0F]) (q00 G) G G ?_))))))))))))
                 refine AS G G (NL (IB ?_))
                 refine q1f (x.drop 32) ⟨G, trivial⟩ ?_ ?_
                 · exact ⟨by rw [l01]; omega, hvx.trans hv32, M, H, hp⟩
                 rw [l01]; omega
               refine NA (ON 20 Kr G (PT G G G (NA (q0h Kr (TN (CF G (q0m (q06 (q06 (q0f (TN (q0m (q06 (q0f ?_))))))))))))))
               refine q1f (x) ⟨G, trivial⟩ ?_ ?_
               · exact ⟨by omega, hvx, M, H.drop (l0Y _), hp⟩
               omega
             refine NA (ON 3 Kr G (MV G G (NA (q18 (i := 4) G Kr Kr Kr (wanted_g (b := false) G G G) G G (fun _ _ => G) (q18 (i := 6) G Kr Kr Kr (wanted_g (b := false) G G G) G G (fun _ _ => G) (q18 (i := 7) G Kr Kr Kr (wanted_g (b := false) G G G) G G (fun _ _ => G) (q18 (i := 10) G Kr Kr Kr (wanted_g (b := false) G G G) G G (fun _ _ => G) (q18 (i := 11) G Kr Kr Kr (wanted_g (b := false) G G G) G G (fun _ _ => G) (q18 (i := 13) G Kr Kr Kr (wanted_g (b := false) G G G) G G (fun _ _ => G) (q18 (i := 14) G Kr Kr Kr (wanted_g (b := false) G G G) G G (fun _ _ => G) ?_))))))))))
             refine ON 5 Kr G (GF G G G (NA (ON 8 Kr G (GF G G G (NA (q18 (i := 9) G Kr Kr Kr (wanted_g (b := false) G G G) G G (fun _ _ => G) (ON 12 Kr G (GF G G G (NA (ON 15 Kr G (GF G G G (NA (ON 16 Kr G (GF G G G (NA (ON 17 Kr G (GF G G G (NA (ON 18 Kr G (GF G G G (NA (ON 19 Kr G (GF G G G (NA (ON 20 Kr G (PF G G G (NA (q0h Kr (TN (CF G (q0m (q06 (q06 (q0f (TN (q0m (q06 (q0f ?_))))))))))))))))))))))))))))))))))))))
             refine q1f (x) ⟨G, trivial⟩ ?_ ?_
             · exact ⟨by omega, hvx, M, H.drop (l0Y _), hp⟩
             omega
           refine NA (ON 12 Kr G (PT G G G (NA (q0h Kr (TN (CF G (SK (TN (q0m (q06 (q0f ?_)))))))))))
           refine q1f (u2) ⟨G, trivial⟩ ?_ ?_
           · exact ⟨by rw [hu2, hu, l01, l01]; omega, (by rw [hv, hv1, hv8, ← hu2]), M, H.drop (l0Y _), hp⟩
           rw [hu2, hu, l01, l01]; omega
         refine NA (ON 3 Kr G (MV G G (NA (q18 (i := 4) G Kr Kr Kr (wanted_g (b := false) G G G) G G (fun _ _ => G) (q18 (i := 6) G Kr Kr Kr (wanted_g (b := false) G G G) G G (fun _ _ => G) (q18 (i := 7) G Kr Kr Kr (wanted_g (b := false) G G G) G G (fun _ _ => G) (ON 5 Kr G (GF G G G (NA (ON 8 Kr G (GF G G G (NA (ON 9 Kr G (GF G G G (NA (ON 10 Kr G (GF G G G (NA (ON 11 Kr G (GF G G G (NA (ON 12 Kr G (PF G G G (NA (q0h Kr (TN (CF G (SK (TN (q0m (q06 (q0f ?_))))))))))))))))))))))))))))))))
         refine q1f (u2) ⟨G, trivial⟩ ?_ ?_
         · exact ⟨by rw [hu2, hu, l01, l01]; omega, (by rw [hv, hv1, hv8, ← hu2]), M, H.drop (l0Y _), hp⟩
         rw [hu2, hu, l01, l01]; omega
       refine PT G G G (NL (TN (CF G (SK (TN (q0m (q06 (q0f ?_))))))))
       refine q1f (u) ⟨G, trivial⟩ ?_ ?_
       · exact ⟨by rw [hu, l01]; omega, (by rw [hv, hv1]), M, H.drop (l0Y _), hp⟩
       rw [hu, l01]; omega
     refine MV G G (GF G G G (GF G G G (GF G G G (GF G G G (PF G G G (NL (TN (CF G (SK (TN (q0m (q06 (q0f ?_)))))))))))))
     refine q1f (u) ⟨G, trivial⟩ ?_ ?_
     · exact ⟨by rw [hu, l01]; omega, (by rw [hv, hv1]), M, H.drop (l0Y _), hp⟩
     rw [hu, l01]; omega
   obtain ⟨sz, ai, lo, hi, hF, hsz, hai, hai16, hlo, hhi, hlo2, hhi2, hszs, hc1, hc2, hc3, hc4⟩ := first_facts c.toNat Om Om
   refine NL (TN (CF G (SK (TN (SQ (RG (MV G G (q09 (v' := ptr 0 c.toNat) (q1V Tu121 Ts5 G G Om) (by rw [l0v, l0G]) (q00 G) G G ?_))))))))
   refine ST (Ex.loadCell G ((hp _ H.ag).1 c.toNat Om) Ta5) G ?_
   refine AS G G (NL (TN (SQ (RG (MV G G (q09 (v' := .int .u8 ((sz : Nat) : Int)) (Ex.andK (m := (Lib.firstT c.toNat)) (s := 7) G G (by show _ < 256; omega) Dc) (congrArg (Value.int .u8) (by rw [hsz]; exact u8_in Om)) (q00 G) G G ?_))))))
   first | refine q01 (q1i Tu5 Tu3 rfl) (q00 rfl) rfl rfl ?_ | refine q01 (q1C Tu5 Tu3 rfl Om) (q00 rfl) rfl rfl ?_
   refine AS G G (NL (TN (SQ (RG (MV G G (q09 (v' := .int .u8 ((ai : Nat) : Int)) (Ex.shrN (m := (Lib.firstT c.toNat)) (s := 4) G G (by first | (show _ ≤ 64; omega) | (show _ ≤ 8; omega) | decide)) (congrArg (Value.int .u8) (by rw [hai])) (q00 G) G G ?_))))))
   refine q09 (v' := ptr 1 (2 * ai)) (q1V Tu124 Ts123 G G Om) (by rw [l0v, l1I]) (q00 G) G G ?_
   refine ST (Ex.loadAggW (cs := [.int .u8 ((lo : Nat) : Int), .int .u8 ((hi : Nat) : Int)]) G (tab_acc (hp _ H.ag) hai16 hlo hhi) Ta123 Ts123 G) G (q0g [_, _] H Tz123 G (q00 G) G ?_)
   intro b6 w H
   refine q0b [_, _] H G G G Ku Ts123 G Kf Kf (q00 G) ?_
   intro w H
   refine NL (TN (SQ (RG (MV G G (NL (TN (BL (SQ (RG ?_)))))))))
   refine q0a (q0c G G) (q00 G) G G (fun h16_0 => ?_) (fun h16_0 => ?_)
   · obtain ⟨hq1, hq2, hq3, hq4⟩ := hc2 Om
     have hm := multi2 (t := t) (by rw [hcn]; exact ⟨hq1, hq2⟩)
     subst hq3 hq4
     refine AS G G (NL (TN (CT G (SQ (SQ (q0F (m := 17) G G H ?_))))))
     intro w H
     refine ON 0 Kr G (MV G G (NA (ON 1 Kr G (ST (q0k Tu9 G) G (NA (ON 2 Kr G ?_))))))
     refine q0a (q0n G G) (q00 G) G G (fun h17_2 => ?_) (fun h17_2 => ?_)
     · have hbad := vld_bad hne (hm.2 Om)
       refine NA (ON 3 Kr G (MV G G (NA (q18 (i := 4) G Kr Kr Kr (wanted_g (b := true) G G G) G G (fun _ _ => G) (q18 (i := 5) G Kr Kr Kr (wanted_g (b := true) G G G) G G (fun _ _ => G) (ON 6 Kr G (GT G G G (NA (ON 7 Kr G (GT G G G (NA (ON 8 Kr G (GT G G G (NA (ON 9 Kr G (PT G G G (NA (ON 10 Kr G (MV G G (NA (q18 (i := 11) G Kr Kr Kr (wanted_g (b := true) G G G) G G (fun _ _ => G) (q18 (i := 12) G Kr Kr Kr (wanted_g (b := true) G G G) G G (fun _ _ => G) (ON 13 Kr G (GT G G G (NA (ON 14 Kr G (GT G G G ?_)))))))))))))))))))))))))))
       refine NA (ON 15 Kr G (GT G G G (NA (ON 16 Kr G (PT G G G (NA (q0h Kr (TN (CT G (SQ (RG (AS G G (NL (TN (RT ?_)))))))))))))))
       refine q07 G G H.ext ?_
       exact by rw [hv, hbad]
     obtain ⟨x1, hx1⟩ : ∃ x, t[1]? = some x := ⟨_, List.getElem?_eq_getElem Om⟩
     have hnx1 := nat_of hx1
     have hxl1 := x1.toNat_lt
     refine NA (ON 3 Kr G (MV G G (NA (q0x (i := 4) G Kr Kr Kr (fun _ => q02 G) (q04 G G G) G G (fun _ _ => G) (q0x (i := 5) G Kr Kr Kr (fun _ => q1a Tu9 G G (hx1)) (q04 G G G) G G (fun _ _ => G) (ON 6 Kr G (SG (q03 Tu123 G Ts5 Dc G) G G G (NA (ON 7 Kr G ?_)))))))))
     first | refine q01 (q08 H rfl (by assumption) Ta5) (q04 rfl rfl rfl) rfl rfl ?_ | refine q01 (XL H Ta5) (q04 rfl rfl rfl) rfl rfl ?_
     refine NA (ON 8 Kr G ?_)
     refine q0a (q0n G G) (q04 G G G) G G (fun h17_8 => ?_) (fun h17_8 => ?_)
     · have hbad := vld_bad hne (hm.2 Om)
       refine NA (ON 9 Kr G (PF G G G (NA (ON 10 Kr G (MV G G (NA (q18 (i := 11) G Kr Kr Kr (wanted_g (b := true) G G G) G G (fun _ _ => G) (q18 (i := 12) G Kr Kr Kr (wanted_g (b := true) G G G) G G (fun _ _ => G) (ON 13 Kr G (GT G G G (NA (ON 14 Kr G (GT G G G (NA (ON 15 Kr G (GT G G G (NA (ON 16 Kr G (PT G G G (NA (q0h Kr (TN (CT G (SQ (RG (AS G G (NL (TN (RT ?_)))))))))))))))))))))))))))))
       refine q07 G G H.ext ?_
       exact by rw [hv, hbad]
     refine NA (ON 9 Kr G (PF G G G (NA (ON 10 Kr G (MV G G (NA (q0x (i := 11) G Kr Kr Kr (fun _ => q03 Tu123 G Ts5 Dc G) (q04 G G G) G G (fun _ _ => G) (q0x (i := 13) G Kr Kr Kr (fun _ => q02 G) (q04 G G G) G G (fun _ _ => G) (q0x (i := 14) G Kr Kr Kr (fun _ => q1a Tu9 G G (hx1)) (q04 G G G) G G (fun _ _ => G) (ON 12 Kr G ?_))))))))))
     first | refine q01 (q08 H rfl (by assumption) Ta5) (q04 rfl rfl rfl) rfl rfl ?_ | refine q01 (XL H Ta5) (q04 rfl rfl rfl) rfl rfl ?_
     refine NA (ON 15 Kr G ?_)
     refine q0a (q0n G G) (q04 G G G) G G (fun h17_15 => ?_) (fun h17_15 => ?_)
     · have hbad := vld_bad hne (hm.2 Om)
       refine NA (ON 16 Kr G (PF G G G (NA (q0h Kr (TN (CT G (SQ (RG (AS G G (NL (TN (RT ?_))))))))))))
       refine q07 G G H.ext ?_
       exact by rw [hv, hbad]
     refine NA (ON 16 Kr G (PF G G G (NA (q0h Kr (TN (CF G (SK (TN (RG (MV G G (q09 (v' := S (t.drop 2)) (q1d (i := 2) (j := t.length) Tu9 G (.inl ⟨_, G, G⟩) (.inr ⟨G, G⟩) Om Om) (by rw [l0F]) (q00 G) G G ?_)))))))))))
     refine AS G G (NL (IB (IB ?_)))
     refine q1f (t.drop 2) ⟨G, trivial⟩ ?_ ?_
     · exact ⟨by rw [l01]; omega, by rw [hv]; exact vld_good hne (hm.1 Om), M, H.drop (l0Y _), hp⟩
     rw [l01]; omega
   refine AS G G (NL (TN (CF G (SQ (RG ?_)))))
   refine q0a (q0c G G) (q00 G) G G (fun h20_0 => ?_) (fun h20_0 => ?_)
   · obtain ⟨hq1, hq2, hq3, hq4⟩ := hc3 Om
     have hm := multi3 (t := t) (lo := lo) (hi := hi) (by rw [hcn]; exact ⟨hq1, hq2⟩) (by rw [hcn]; exact hq3) (by rw [hcn]; exact hq4)
     refine AS G G (NL (TN (CT G (SQ (SQ (q0F (m := 27) G G H ?_))))))
     intro w H
     refine ON 0 Kr G (MV G G (NA (ON 1 Kr G (ST (q0k Tu9 G) G (NA (ON 2 Kr G ?_))))))
     refine q0a (q0n G G) (q00 G) G G (fun h21_2 => ?_) (fun h21_2 => ?_)
     · have hbad := vld_bad hne (hm.2 Om)
       refine NA (ON 3 Kr G (MV G G (NA (q18 (i := 4) G Kr Kr Kr (wanted_g (b := true) G G G) G G (fun _ _ => G) (q18 (i := 5) G Kr Kr Kr (wanted_g (b := true) G G G) G G (fun _ _ => G) (ON 6 Kr G (GT G G G (NA (ON 7 Kr G (GT G G G (NA (ON 8 Kr G (GT G G G (NA (ON 9 Kr G (PT G G G (NA (ON 10 Kr G (MV G G (NA (q18 (i := 11) G Kr Kr Kr (wanted_g (b := true) G G G) G G (fun _ _ => G) (q18 (i := 12) G Kr Kr Kr (wanted_g (b := true) G G G) G G (fun _ _ => G) (ON 13 Kr G (GT G G G (NA (ON 14 Kr G (GT G G G ?_)))))))))))))))))))))))))))
       refine NA (ON 15 Kr G (GT G G G (NA (ON 16 Kr G (PT G G G (NA (ON 17 Kr G (MV G G (NA (ON 18 Kr G (GT G G G (NA (ON 19 Kr G (GT G G G (NA (ON 20 Kr G (GT G G G (NA (ON 21 Kr G (PT G G G (NA (ON 22 Kr G (MV G G (NA (ON 23 Kr G (GT G G G (NA (ON 24 Kr G (GT G G G (NA (ON 25 Kr G (GT G G G (NA (ON 26 Kr G (PT G G G (NA (q0h Kr (TN (CT G (SQ (RG (AS G G (NL (TN (RT ?_)))))))))))))))))))))))))))))))))))))))))))))
       refine q07 G G H.ext ?_
       exact by rw [hv, hbad]
     obtain ⟨x1, hx1⟩ : ∃ x, t[1]? = some x := ⟨_, List.getElem?_eq_getElem Om⟩
     have hnx1 := nat_of hx1
     have hxl1 := x1.toNat_lt
     obtain ⟨x2, hx2⟩ : ∃ x, t[2]? = some x := ⟨_, List.getElem?_eq_getElem Om⟩
     have hnx2 := nat_of hx2
     have hxl2 := x2.toNat_lt
     refine NA (ON 3 Kr G (MV G G (NA (q0x (i := 4) G Kr Kr Kr (fun _ => q02 G) (q04 G G G) G G (fun _ _ => G) (q0x (i := 5) G Kr Kr Kr (fun _ => q1a Tu9 G G (hx1)) (q04 G G G) G G (fun _ _ => G) (ON 6 Kr G (SG (q03 Tu123 G Ts5 Dc G) G G G (NA (ON 7 Kr G ?_)))))))))
     first | refine q01 (q08 H rfl (by assumption) Ta5) (q04 rfl rfl rfl) rfl rfl ?_ | refine q01 (XL H Ta5) (q04 rfl rfl rfl) rfl rfl ?_
     refine NA (ON 8 Kr G ?_)
     refine q0a (q0n G G) (q04 G G G) G G (fun h21_8 => ?_) (fun h21_8 => ?_)
     · have hbad := vld_bad hne (hm.2 Om)
       refine NA (ON 9 Kr G (PF G G G (NA (ON 10 Kr G (MV G G (NA (q18 (i := 11) G Kr Kr Kr (wanted_g (b := true) G G G) G G (fun _ _ => G) (q18 (i := 12) G Kr Kr Kr (wanted_g (b := true) G G G) G G (fun _ _ => G) (ON 13 Kr G (GT G G G (NA (ON 14 Kr G (GT G G G (NA (ON 15 Kr G (GT G G G (NA (ON 16 Kr G (PT G G G (NA (ON 17 Kr G (MV G G (NA (ON 18 Kr G (GT G G G (NA (ON 19 Kr G (GT G G G (NA (ON 20 Kr G (GT G G G (NA (ON 21 Kr G (PT G G G (NA (ON 22 Kr G (MV G G (NA (ON 23 Kr G (GT G G G ?_))))))))))))))))))))))))))))))))))))))))
       refine NA (ON 24 Kr G (GT G G G (NA (ON 25 Kr G (GT G G G (NA (ON 26 Kr G (PT G G G (NA (q0h Kr (TN (CT G (SQ (RG (AS G G (NL (TN (RT ?_))))))))))))))))))
       refine q07 G G H.ext ?_
       exact by rw [hv, hbad]
     refine NA (ON 9 Kr G (PF G G G (NA (ON 10 Kr G (MV G G (NA (q0x (i := 11) G Kr Kr Kr (fun _ => q03 Tu123 G Ts5 Dc G) (q04 G G G) G G (fun _ _ => G) (q0x (i := 13) G Kr Kr Kr (fun _ => q02 G) (q04 G G G) G G (fun _ _ => G) (q0x (i := 14) G Kr Kr Kr (fun _ => q1a Tu9 G G (hx1)) (q04 G G G) G G (fun _ _ => G) (ON 12 Kr G ?_))))))))))
     first | refine q01 (q08 H rfl (by assumption) Ta5) (q04 rfl rfl rfl) rfl rfl ?_ | refine q01 (XL H Ta5) (q04 rfl rfl rfl) rfl rfl ?_
     refine NA (ON 15 Kr G ?_)
     refine q0a (q0n G G) (q04 G G G) G G (fun h21_15 => ?_) (fun h21_15 => ?_)
     · have hbad := vld_bad hne (hm.2 Om)
       refine NA (ON 16 Kr G (PF G G G (NA (ON 17 Kr G (MV G G (NA (ON 18 Kr G (GT G G G (NA (ON 19 Kr G (GT G G G (NA (ON 20 Kr G (GT G G G (NA (ON 21 Kr G (PT G G G (NA (ON 22 Kr G (MV G G (NA (ON 23 Kr G (GT G G G (NA (ON 24 Kr G (GT G G G (NA (ON 25 Kr G (GT G G G (NA (ON 26 Kr G (PT G G G (NA (q0h Kr (TN (CT G (SQ (RG (AS G G (NL (TN (RT ?_))))))))))))))))))))))))))))))))))))))))))
       refine q07 G G H.ext ?_
       exact by rw [hv, hbad]
     refine NA (ON 16 Kr G (PF G G G (NA (ON 17 Kr G (MV G G (NA (ON 18 Kr G (SG (q02 G) G G G (NA (ON 19 Kr G (SG (q1a Tu9 G G (hx2)) G G G (NA (ON 20 Kr G ?_)))))))))))))
     refine q0a (q0n G G) (q04 G G G) G G (fun h21_20 => ?_) (fun h21_20 => ?_)
     · have hbad := vld_bad hne (hm.2 Om)
       refine NA (ON 21 Kr G (PF G G G (NA (ON 22 Kr G (MV G G (NA (ON 23 Kr G (GT G G G (NA (ON 24 Kr G (GT G G G (NA (ON 25 Kr G (GT G G G (NA (ON 26 Kr G (PT G G G (NA (q0h Kr (TN (CT G (SQ (RG (AS G G (NL (TN (RT ?_)))))))))))))))))))))))))))
       refine q07 G G H.ext ?_
       exact by rw [hv, hbad]
     refine NA (ON 21 Kr G (PF G G G (NA (ON 22 Kr G (MV G G (NA (ON 23 Kr G (SG (q02 G) G G G (NA (ON 24 Kr G (SG (q1a Tu9 G G (hx2)) G G G (NA (ON 25 Kr G ?_)))))))))))))
     refine q0a (q0n G G) (q04 G G G) G G (fun h21_25 => ?_) (fun h21_25 => ?_)
     · have hbad := vld_bad hne (hm.2 Om)
       refine NA (ON 26 Kr G (PF G G G (NA (q0h Kr (TN (CT G (SQ (RG (AS G G (NL (TN (RT ?_))))))))))))
       refine q07 G G H.ext ?_
       exact by rw [hv, hbad]
     refine NA (ON 26 Kr G (PF G G G (NA (q0h Kr (TN (CF G (SK (TN (RG (MV G G (q09 (v' := S (t.drop 3)) (q1d (i := 3) (j := t.length) Tu9 G (.inl ⟨_, G, G⟩) (.inr ⟨G, G⟩) Om Om) (by rw [l0F]) (q00 G) G G ?_)))))))))))
     refine AS G G (NL (IB (IB ?_)))
     refine q1f (t.drop 3) ⟨G, trivial⟩ ?_ ?_
     · exact ⟨by rw [l01]; omega, by rw [hv]; exact vld_good hne (hm.1 Om), M, H.drop (l0Y _), hp⟩
     rw [l01]; omega
   refine AS G G (NL (TN (CF G (SQ (RG ?_)))))
   refine q0a (q0c G G) (q00 G) G G (fun h24_0 => ?_) (fun h24_0 => ?_)
   · obtain ⟨hq1, hq2, hq3, hq4⟩ := hc4 Om
     have hm := multi4 (t := t) (lo := lo) (hi := hi) (by rw [hcn]; exact ⟨hq1, hq2⟩) (by rw [hcn]; exact hq3) (by rw [hcn]; exact hq4)
     refine AS G G (NL (TN (CT G (SQ (SQ (q0F (m := 37) G G H ?_))))))
     intro w H
     refine ON 0 Kr G (MV G G (NA (ON 1 Kr G (ST (q0k Tu9 G) G (NA (ON 2 Kr G ?_))))))
     refine q0a (q0n G G) (q00 G) G G (fun h25_2 => ?_) (fun h25_2 => ?_)
     · have hbad := vld_bad hne (hm.2 Om)
       refine NA (ON 3 Kr G (MV G G (NA (q18 (i := 4) G Kr Kr Kr (wanted_g (b := true) G G G) G G (fun _ _ => G) (q18 (i := 5) G Kr Kr Kr (wanted_g (b := true) G G G) G G (fun _ _ => G) (ON 6 Kr G (GT G G G (NA (ON 7 Kr G (GT G G G (NA (ON 8 Kr G (GT G G G (NA (ON 9 Kr G (PT G G G (NA (ON 10 Kr G (MV G G (NA (q18 (i := 11) G Kr Kr Kr (wanted_g (b := true) G G G) G G (fun _ _ => G) (q18 (i := 12) G Kr Kr Kr (wanted_g (b := true) G G G) G G (fun _ _ => G) (ON 13 Kr G (GT G G G (NA (ON 14 Kr G (GT G G G ?_)))))))))))))))))))))))))))
       refine NA (ON 15 Kr G (GT G G G (NA (ON 16 Kr G (PT G G G (NA (ON 17 Kr G (MV G G (NA (ON 18 Kr G (GT G G G (NA (ON 19 Kr G (GT G G G (NA (ON 20 Kr G (GT G G G (NA (ON 21 Kr G (PT G G G (NA (ON 22 Kr G (MV G G (NA (ON 23 Kr G (GT G G G (NA (ON 24 Kr G (GT G G G (NA (ON 25 Kr G (GT G G G (NA (ON 26 Kr G (PT G G G (NA (ON 27 Kr G (MV G G (NA (ON 28 Kr G (GT G G G (NA (ON 29 Kr G (GT G G G (NA (ON 30 Kr G (GT G G G (NA (ON 31 Kr G (PT G G G (NA (ON 32 Kr G (MV G G (NA (ON 33 Kr G ?_)))))))))))))))))))))))))))))))))))))))))))))))))))))))
       refine GT G G G (NA (ON 34 Kr G (GT G G G (NA (ON 35 Kr G (GT G G G (NA (ON 36 Kr G (PT G G G (NA (q0h Kr (TN (CT G (SQ (RG (AS G G (NL (TN (RT ?_)))))))))))))))))))
       refine q07 G G H.ext ?_
       exact by rw [hv, hbad]
     obtain ⟨x1, hx1⟩ : ∃ x, t[1]? = some x := ⟨_, List.getElem?_eq_getElem Om⟩
     have hnx1 := nat_of hx1
     have hxl1 := x1.toNat_lt
     obtain ⟨x2, hx2⟩ : ∃ x, t[2]? = some x := ⟨_, List.getElem?_eq_getElem Om⟩
     have hnx2 := nat_of hx2
     have hxl2 := x2.toNat_lt
     obtain ⟨x3, hx3⟩ : ∃ x, t[3]? = some x := ⟨_, List.getElem?_eq_getElem Om⟩
     have hnx3 := nat_of hx3
     have hxl3 := x3.toNat_lt
     refine NA (ON 3 Kr G (MV G G (NA (q0x (i := 4) G Kr Kr Kr (fun _ => q02 G) (q04 G G G) G G (fun _ _ => G) (q0x (i := 5) G Kr Kr Kr (fun _ => q1a Tu9 G G (hx1)) (q04 G G G) G G (fun _ _ => G) (ON 6 Kr G (SG (q03 Tu123 G Ts5 Dc G) G G G (NA (ON 7 Kr G ?_)))))))))
     first | refine q01 (q08 H rfl (by assumption) Ta5) (q04 rfl rfl rfl) rfl rfl ?_ | refine q01 (XL H Ta5) (q04 rfl rfl rfl) rfl rfl ?_
     refine NA (ON 8 Kr G ?_)
     refine q0a (q0n G G) (q04 G G G) G G (fun h25_8 => ?_) (fun h25_8 => ?_)
     · have hbad := vld_bad hne (hm.2 Om)
       refine NA (ON 9 Kr G (PF G G G (NA (ON 10 Kr G (MV G G (NA (q18 (i := 11) G Kr Kr Kr (wanted_g (b := true) G G G) G G (fun _ _ => G) (q18 (i := 12) G Kr Kr Kr (wanted_g (b := true) G G G) G G (fun _ _ => G) (ON 13 Kr G (GT G G G (NA (ON 14 Kr G (GT G G G (NA (ON 15 Kr G (GT G G G (NA (ON 16 Kr G (PT G G G (NA (ON 17 Kr G (MV G G (NA (ON 18 Kr G (GT G G G (NA (ON 19 Kr G (GT G G G (NA (ON 20 Kr G (GT G G G (NA (ON 21 Kr G (PT G G G (NA (ON 22 Kr G (MV G G (NA (ON 23 Kr G (GT G G G ?_))))))))))))))))))))))))))))))))))))))))
       refine NA (ON 24 Kr G (GT G G G (NA (ON 25 Kr G (GT G G G (NA (ON 26 Kr G (PT G G G (NA (ON 27 Kr G (MV G G (NA (ON 28 Kr G (GT G G G (NA (ON 29 Kr G (GT G G G (NA (ON 30 Kr G (GT G G G (NA (ON 31 Kr G (PT G G G (NA (ON 32 Kr G (MV G G (NA (ON 33 Kr G (GT G G G (NA (ON 34 Kr G (GT G G G (NA (ON 35 Kr G (GT G G G (NA (ON 36 Kr G (PT G G G (NA (q0h Kr (TN (CT G (SQ (RG (AS G G (NL (TN (RT ?_))))))))))))))))))))))))))))))))))))))))))))))))
       refine q07 G G H.ext ?_
       exact by rw [hv, hbad]
     refine NA (ON 9 Kr G (PF G G G (NA (ON 10 Kr G (MV G G (NA (q0x (i := 11) G Kr Kr Kr (fun _ => q03 Tu123 G Ts5 Dc G) (q04 G G G) G G (fun _ _ => G) (q0x (i := 13) G Kr Kr Kr (fun _ => q02 G) (q04 G G G) G G (fun _ _ => G) (q0x (i := 14) G Kr Kr Kr (fun _ => q1a Tu9 G G (hx1)) (q04 G G G) G G (fun _ _ => G) (ON 12 Kr G ?_))))))))))
     first | refine q01 (q08 H rfl (by assumption) Ta5) (q04 rfl rfl rfl) rfl rfl ?_ | refine q01 (XL H Ta5) (q04 rfl rfl rfl) rfl rfl ?_
     refine NA (ON 15 Kr G ?_)
     refine q0a (q0n G G) (q04 G G G) G G (fun h25_15 => ?_) (fun h25_15 => ?_)
     · have hbad := vld_bad hne (hm.2 Om)
       refine NA (ON 16 Kr G (PF G G G (NA (ON 17 Kr G (MV G G (NA (ON 18 Kr G (GT G G G (NA (ON 19 Kr G (GT G G G (NA (ON 20 Kr G (GT G G G (NA (ON 21 Kr G (PT G G G (NA (ON 22 Kr G (MV G G (NA (ON 23 Kr G (GT G G G (NA (ON 24 Kr G (GT G G G (NA (ON 25 Kr G (GT G G G (NA (ON 26 Kr G (PT G G G (NA (ON 27 Kr G (MV G G (NA (ON 28 Kr G (GT G G G (NA (ON 29 Kr G (GT G G G (NA (ON 30 Kr G (GT G G G (NA (ON 31 Kr G (PT G G G (NA (ON 32 Kr G (MV G G (NA (ON 33 Kr G (GT G G G (NA (ON 34 Kr G ?_)))))))))))))))))))))))))))))))))))))))))))))))))))))))
       refine GT G G G (NA (ON 35 Kr G (GT G G G (NA (ON 36 Kr G (PT G G G (NA (q0h Kr (TN (CT G (SQ (RG (AS G G (NL (TN (RT ?_))))))))))))))))
       refine q07 G G H.ext ?_
       exact by rw [hv, hbad]
     refine NA (ON 16 Kr G (PF G G G (NA (ON 17 Kr G (MV G G (NA (ON 18 Kr G (SG (q02 G) G G G (NA (ON 19 Kr G (SG (q1a Tu9 G G (hx2)) G G G (NA (ON 20 Kr G ?_)))))))))))))
     refine q0a (q0n G G) (q04 G G G) G G (fun h25_20 => ?_) (fun h25_20 => ?_)
     · have hbad := vld_bad hne (hm.2 Om)
       refine NA (ON 21 Kr G (PF G G G (NA (ON 22 Kr G (MV G G (NA (ON 23 Kr G (GT G G G (NA (ON 24 Kr G (GT G G G (NA (ON 25 Kr G (GT G G G (NA (ON 26 Kr G (PT G G G (NA (ON 27 Kr G (MV G G (NA (ON 28 Kr G (GT G G G (NA (ON 29 Kr G (GT G G G (NA (ON 30 Kr G (GT G G G (NA (ON 31 Kr G (PT G G G (NA (ON 32 Kr G (MV G G (NA (ON 33 Kr G (GT G G G (NA (ON 34 Kr G (GT G G G (NA (ON 35 Kr G (GT G G G (NA (ON 36 Kr G (PT G G G (NA (q0h Kr (TN (CT G (SQ (RG (AS G G (NL (TN (RT ?_)))))))))))))))))))))))))))))))))))))))))))))))))))))))))
       refine q07 G G H.ext ?_
       exact by rw [hv, hbad]
     refine NA (ON 21 Kr G (PF G G G (NA (ON 22 Kr G (MV G G (NA (ON 23 Kr G (SG (q02 G) G G G (NA (ON 24 Kr G (SG (q1a Tu9 G G (hx2)) G G G (NA (ON 25 Kr G ?_)))))))))))))
     refine q0a (q0n G G) (q04 G G G) G G (fun h25_25 => ?_) (fun h25_25 => ?_)
     · have hbad := vld_bad hne (hm.2 Om)
       refine NA (ON 26 Kr G (PF G G G (NA (ON 27 Kr G (MV G G (NA (ON 28 Kr G (GT G G G (NA (ON 29 Kr G (GT G G G (NA (ON 30 Kr G (GT G G G (NA (ON 31 Kr G (PT G G G (NA (ON 32 Kr G (MV G G (NA (ON 33 Kr G (GT G G G (NA (ON 34 Kr G (GT G G G (NA (ON 35 Kr G (GT G G G (NA (ON 36 Kr G (PT G G G (NA (q0h Kr (TN (CT G (SQ (RG (AS G G (NL (TN (RT ?_))))))))))))))))))))))))))))))))))))))))))
       refine q07 G G H.ext ?_
       exact by rw [hv, hbad]
     refine NA (ON 26 Kr G (PF G G G (NA (ON 27 Kr G (MV G G (NA (ON 28 Kr G (SG (q02 G) G G G (NA (ON 29 Kr G (SG (q1a Tu9 G G (hx3)) G G G (NA (ON 30 Kr G ?_)))))))))))))
     refine q0a (q0n G G) (q04 G G G) G G (fun h25_30 => ?_) (fun h25_30 => ?_)
     · have hbad := vld_bad hne (hm.2 Om)
       refine NA (ON 31 Kr G (PF G G G (NA (ON 32 Kr G (MV G G (NA (ON 33 Kr G (GT G G G (NA (ON 34 Kr G (GT G G G (NA (ON 35 Kr G (GT G G G (NA (ON 36 Kr G (PT G G G (NA (q0h Kr (TN (CT G (SQ (RG (AS G G (NL (TN (RT ?_)))))))))))))))))))))))))))
       refine q07 G G H.ext ?_
       exact by rw [hv, hbad]
     refine NA (ON 31 Kr G (PF G G G (NA (ON 32 Kr G (MV G G (NA (ON 33 Kr G (SG (q02 G) G G G (NA (ON 34 Kr G (SG (q1a Tu9 G G (hx3)) G G G (NA (ON 35 Kr G ?_)))))))))))))
     refine q0a (q0n G G) (q04 G G G) G G (fun h25_35 => ?_) (fun h25_35 => ?_)
     · have hbad := vld_bad hne (hm.2 Om)
       refine NA (ON 36 Kr G (PF G G G (NA (q0h Kr (TN (CT G (SQ (RG (AS G G (NL (TN (RT ?_))))))))))))
       refine q07 G G H.ext ?_
       exact by rw [hv, hbad]
     refine NA (ON 36 Kr G (PF G G G (NA (q0h Kr (TN (CF G (SK (TN (RG (MV G G (q09 (v' := S (t.drop 4)) (q1d (i := 4) (j := t.length) Tu9 G (.inl ⟨_, G, G⟩) (.inr ⟨G, G⟩) Om Om) (by rw [l0F]) (q00 G) G G ?_)))))))))))
     refine AS G G (NL (IB (IB ?_)))
     refine q1f (t.drop 4) ⟨G, trivial⟩ ?_ ?_
     · exact ⟨by rw [l01]; omega, by rw [hv]; exact vld_good hne (hm.1 Om), M, H.drop (l0Y _), hp⟩
     rw [l01]; omega
   have hbad := vld_bad hne (multi1 (t := t) Om (by rw [hcn]; exact hc1 Om))
   refine AS G G (NL (TN (CF G (SQ (RG (AS G G (NL (TN (RT ?_)))))))))
   refine q07 G G H.ext ?_
   exact by rw [hv, hbad]
 have hr : vld l = true := by rw [hv, l0b (show t.length = 0 by omega)]; rfl
 refine NL (TN (CF G (q0m (q06 (q06 (q0f (TN (SQ (RG (AS G G (NL (TN (RT ?_)))))))))))))
 refine q07 G G H.ext ?_
 exact by rw [hr]
end Go.Proofs.YtkmjdamkifbddaaGreatDoor
end
section
namespace Go.Proofs.YtkmjdamkifbddaaGreatDoor
open Go Go.RowKit Go.Ph
open Go.Ph.Gr Go.Ph.Utf Go.Ph.Chs
theorem grown_alloc {w w' : World} {o : Obj} {row : Option Nat} (h : (w.alloc o).grownBy w' row) (hr : row = none) : w.grownBy w' none := by
 subst hr
 have h1 : w.grownBy (w.alloc o) none := grownBy_alloc' w o
 exact ⟨h.os.trans h1.os, h.tape.trans h1.tape, h.output.trans h1.output, l0W h1.size h.size, fun k hk hn => (h.block k (l1g hk h1.size) Sm).trans (h1.block k hk Sm)⟩
theorem utf8_Z (c : Int) : utf8 c = (Lib.encodeRuneZ c).map ub := by
 unfold utf8
 by_cases h1 : 0 ≤ c ∧ c ≤ 127
 · rw [fixN_id Om Om Om, Lib.encodeRuneZ_one h1.1 h1.2, utf8M, if_pos Om]; rfl
 by_cases h2 : 128 ≤ c ∧ c ≤ 2047
 · rw [fixN_id Om Om Om, Lib.encodeRuneZ_two h2.1 h2.2, utf8M, if_neg Om, if_pos Om]; rfl
 by_cases h3 : (2048 ≤ c ∧ c < 55296) ∨ (57343 < c ∧ c ≤ 65535)
 · rw [fixN_id Om Om Om, Lib.encodeRuneZ_three h3, utf8M, if_neg Om, if_neg Om, if_pos Om]; rfl
 by_cases h4 : 65536 ≤ c ∧ c ≤ 1114111
 · rw [fixN_id Om Om Om, Lib.encodeRuneZ_four h4.1 h4.2, utf8M, if_neg Om, if_neg Om, if_neg Om]; rfl
 rw [fixN_bad Om, Lib.encodeRuneZ_bad Om]; decide
theorem runeCells_utf8 (c : Int) : Lib.runeCells c = (utf8 c).map encB := by
 unfold Lib.runeCells
 rw [utf8_Z, l1u]
 apply l1n
 intro x hx
 have h := Lib.encodeRuneZ_byte c x hx
 show Value.int .u8 x = Value.int .u8 ((ub x).toNat : Int)
 rw [ub_nat h.1 h.2]
theorem appendRune_spec (c : Int) (h0 : -2147483648 ≤ c) (h1 : c ≤ 2147483647) : Ct Tryz.prog 196 [.slice none 0 0, encR c] (fun _ => True) (fun r M => Bs M r (utf8 c)) := by
 refine ⟨enters Tryz.func196 Kr G, fun w M ha hp => ?_⟩
 have hlen := Y2d c
 refine (Tryz.utf8_AppendRune_plain w.heap.size (.slice none 0 0) 0 [] c h0 h1 w (World.ownsRow_nil _ _ _ _) Dc (l0h _)).mono fun e w' => ?_
 rintro ⟨v', rfl, hown, o, hg⟩
 have hgr := grown_alloc hg rfl
 rw [runeCells_utf8, l06, l0c, l0v] at hown
 have hh : (RowI 5 encB v' (utf8 c)).holds w' := by
  refine ⟨hown.1, ?_⟩
  rcases hown.2 with h | ⟨g, cap, cur, hv, hb, hgg⟩
  · exact .inl h
  exact .inr ⟨g, cap, cur, hv, l1f _, hgg⟩
 have H1 : St w M M [RowI 5 encB v' (utf8 c)] w' := (StX.start ha).new hgr hh (fun b hb => (World.ownsRow.lt hown b hb).1)
 obtain ⟨M', hle, hS, H2⟩ := H1.freezeRow (L' := []) .head
 exact ⟨_, M', G, H2.ext, hS⟩
theorem enc1_spec (c : Int) (b : Nat) (bound : Int) : Ct Tryz.prog 214 [encR c, ptr b 0] (fun M => CellM M ⟨b, 0, none⟩ (encR bound)) (fun r M => ∃ v, r = .tuple #[v, .bool (decide (c < bound))] ∧ Bs M v ([ub c])) := by
 refine Ct.of Tryz.func214 (enters Tryz.func214 Kr G) G G G ?_
 intro w0 M0 H hp
 refine SQ (RG (AS G G (AS G G (NL (TN (SQ (q0F (m := 8) G G H ?_)))))))
 intro w H
 refine TK 0 G (fun _ => q02 G) G (TK 1 G (fun _ => q0Z Tu21 Tu5 G) G (TK 3 G (fun _ => q02 G) G ?_))
 refine q0P (i := 2) (j := 4) Kr G G ?_ ?_
 · refine q0B (enc := encB) ty88 [_] H G Kf (fun _ => G) G G (q00 G) G ?_
   intro v7 M w H hle hl7
   replace hp := hp.mono hle
   refine NA (TK 6 G (fun _ => Ex.assign G) G (ON 4 Kr G ?_))
   first | refine q01 (q08 H rfl (by assumption) Ta21) (q00 rfl) rfl rfl ?_ | refine q01 (XL H Ta21) (q00 rfl) rfl rfl ?_
   refine NA (ON 5 Kr G (ST (q0n G G) G (NA (ON 7 Kr G (AS G G (NA (q0h Kr (TN (RT ?_)))))))))
   refine q0H G G G H.ext ?_
   exact ⟨_, G, hl7⟩
 first | refine q01 (q08 H rfl (by assumption) Ta21) (q00 rfl) rfl rfl ?_ | refine q01 (XL H Ta21) (q00 rfl) rfl rfl ?_
 refine NA (TK 5 G (fun _ => q0n G G) G (ON 2 Kr G (q0B (enc := encB) ty88 [_] H G Kf (fun _ => G) G G (q00 G) G ?_)))
 intro v7 M w H hle hl7
 replace hp := hp.mono hle
 refine NA (ON 6 Kr G (AS G G (NA (ON 7 Kr G (AS G G (NA (q0h Kr (TN (RT ?_)))))))))
 refine q0H G G G H.ext ?_
 exact ⟨_, G, hl7⟩
theorem encU_spec (c : Int) (h0 : -2147483648 ≤ c) (h1 : c ≤ 2147483647) : Ct Tryz.prog 195 [encR c] (fun _ => True) (fun r M => ∃ v, r = .tuple #[v, .bool true] ∧ Bs M v (utf8 c)) := by
 refine Ct.of Tryz.func195 (enters Tryz.func195 Kr G) G G G ?_
 intro w0 M0 H hp
 refine SQ (RG (AS G G (AS G G (NL (TN (SQ (RG (MV G G (q05 H (appendRune_spec _ Om Om) G (trivial) (q00 G) G ?_)))))))))
 intro v5 M w H hle hr5
 have hf5 := hr5
 refine AS G G (AS G G (NL (TN (RT ?_))))
 refine q0H G G G H.ext ?_
 exact ⟨_, G, hf5⟩
end Go.Proofs.YtkmjdamkifbddaaGreatDoor
end
section
namespace Go.Proofs.YtkmjdamkifbddaaGreatDoor
open Go Go.RowKit Go.Ph
open Go.Ph.Gr Go.Ph.Utf Go.Ph.Chs
theorem ub_mod (a : Int) : ub (a % 256) = ub a := by
 unfold ub; rw [Int.emod_emod_of_dvd _ (Int.dvd_refl 256)]
theorem encK0 : encK 0 = encS 128 := rfl
theorem encK1 : encK 1 = encS 256 := rfl
theorem encK2 : encK 2 = encU := rfl
theorem encK3 : encK 3 = encW := rfl
def encWb (c : Int) : Ls := if c < 65536 then [ub (c / 256), ub (c % 256)] else [ub (hiS c / 256), ub (hiS c % 256), ub (loS c / 256), ub (loS c % 256)]
theorem hiS_nat {m : Nat} (h : 65536 ≤ m) : hiS (m : Int) = ((55296 + (m - 65536) / 2 ^ 10 : Nat) : Int) := by unfold hiS; omega
theorem loS_nat {m : Nat} (h : 65536 ≤ m) : loS (m : Int) = ((56320 + (m - 65536) % 1024 : Nat) : Int) := by unfold loS; omega
theorem div256 (n : Nat) : ((n / 2 ^ 8 : Nat) : Int) = (n : Int) / 256 := by omega
theorem double_spec (m : Nat) (hm : m ≤ 1114111) : Ct Tryz.prog 198 [encR (m : Int)] (fun _ => True) (fun r M => ∃ v, r = .tuple #[v, .bool true] ∧ Bs M v (encWb (m : Int))) := by
 refine Ct.of Tryz.func198 (enters Tryz.func198 Kr G) G G G ?_
 intro w0 M0 H hp
 refine SQ (RG (AS G G (AS G G (NL (TN (SQ (SQ (RG (MV G G ?_)))))))))
 refine q0a (q0n G G) (q00 G) G G (fun h1_1 => ?_) (fun h1_1 => ?_)
 · refine NL (TN (CT G (SQ (RG (MV G G (ST (Ex.shrN (m := m) (s := 8) G G (by first | (show _ ≤ 64; omega) | (show _ ≤ 8; omega) | decide)) G ?_))))))
   refine ST (q0Z Tu21 Tu5 G) G (MV G G (ST (q0Z Tu21 Tu5 G) G (q0B (enc := encB) ty88 [_, _] H G Kf (fun _ => G) G G (q00 G) G ?_)))
   intro v13 M w H hle hl13
   refine AS G G (AS G G (NL (TN (RT ?_))))
   refine q0H G G G H.ext ?_
   refine ⟨_, G, ?_⟩
   unfold encWb
   rw [if_pos Om, ub_mod, ← div256]
   exact hl13
 refine NL (TN (CF G (SK (TN (SQ (RG (MV G G (q09 (v' := encR ((m - 65536 : Nat) : Int)) (Ex.subW G G (i32_in Om)) (congrArg encR Om) (q00 G) G G ?_))))))))
 refine AS G G (NL (TN (SQ (RG (MV G G (ST (Ex.shrN (m := (m - 65536)) (s := 10) G G (by first | (show _ ≤ 64; omega) | (show _ ≤ 8; omega) | decide)) G ?_))))))
 refine q09 (v' := encR ((55296 + (m - 65536) / 2 ^ 10 : Nat) : Int)) (Ex.addW G G (i32_in Om)) (congrArg encR Om) (q00 G) G G ?_
 refine MV G G (q09 (v' := encR (((m - 65536) % 1024 : Nat) : Int)) (Ex.andK (m := (m - 65536)) (s := 1023) G G (by first | decide | (show _ < 256; omega) | (show _ < 4294967296; omega) | (show _ < 18446744073709551616; omega)) (by first | decide | (show _ < 256; omega) | (show _ < 4294967296; omega) | (show _ < 18446744073709551616; omega))) (congrArg encR (by rw [l1T (m - 65536) 10]; exact i32_in Om)) (q00 G) G G ?_)
 refine q09 (v' := encR ((56320 + (m - 65536) % 1024 : Nat) : Int)) (Ex.addW G G (i32_in Om)) (congrArg encR Om) (q00 G) G G ?_
 refine AS G G (AS G G (NL (TN (SQ (RG (MV G G (ST (Ex.shrN (m := (55296 + (m - 65536) / 2 ^ 10)) (s := 8) G G (by first | (show _ ≤ 64; omega) | (show _ ≤ 8; omega) | decide)) G ?_)))))))
 refine ST (q0Z Tu21 Tu5 G) G (MV G G (ST (q0Z Tu21 Tu5 G) G (MV G G (ST (Ex.shrN (m := (56320 + (m - 65536) % 1024)) (s := 8) G G (by first | (show _ ≤ 64; omega) | (show _ ≤ 8; omega) | decide)) G ?_))))
 refine ST (q0Z Tu21 Tu5 G) G (MV G G (ST (q0Z Tu21 Tu5 G) G (q0B (enc := encB) ty88 [_, _, _, _] H G Kf (fun _ => G) G G (q00 G) G ?_)))
 intro v32 M w H hle hl32
 refine AS G G (AS G G (NL (TN (RT ?_))))
 refine q0H G G G H.ext ?_
 refine ⟨_, G, ?_⟩
 unfold encWb
 rw [if_neg Om, ub_mod, ub_mod, hiS_nat Om, loS_nat Om, ← div256, ← div256]
 exact hl32
theorem single_spec (nm : Ls) (bound : Int) : Ct Tryz.prog 193 [S nm, encR bound] (fun _ => True) (fun r M => ∃ b, r = .agg #[S nm, .func (.func 213) #[] #[ptr b 0], .func (.func 214) #[] #[ptr b 0]] ∧ CellM M ⟨b, 0, none⟩ (encR bound)) := by
 refine Ct.of Tryz.func193 (enters Tryz.func193 Kr G) G G G ?_
 intro w0 M0 H hp
 refine SQ (RG (q1t [_] H G G (q00 G) G ?_))
 intro b3 w H
 refine q0g [_, _, _] H Tz188 G (q00 G) G ?_
 intro b4 w H
 refine NL (TN (SQ (RG (MV G G (ST (q1Q G) G (ST (q1Q G) G (ST (q0L [_, _, _] Tu188 Tz188 (places188 Tu188) G G) G (q0b [_, _, _] H G G G Ku Ts188 G Kf Kf (q00 G) ?_))))))))
 intro w H
 refine NL (TN (RT ?_))
 obtain ⟨M, hle, hM, H⟩ := H.freezeBlk (b := b3) Kv
 refine q07 G ⟨_, G, H.loadAgg Km Ta188 Ts188 Kf⟩ H.ext ?_
 exact ⟨b3, G, G, _, _, _, hM, G⟩
theorem ty214 : ElemTy Tryz.prog 214 188 (.agg #[.string ⟨#[]⟩, .nilFunc, .nilFunc]) 3 32 := q1I Tu214 Kr rfl Dc
abbrev encT (s : Value × Value × Value) : List Value := [s.1, s.2.1, s.2.2]
def rowsV (b0 b1 : Nat) : List (Value × Value × Value) := [(S [97, 115, 99, 105, 105], .func (.func 213) #[] #[ptr b0 0], .func (.func 214) #[] #[ptr b0 0]), (S [108, 97, 116, 105, 110, 49], .func (.func 213) #[] #[ptr b1 0], .func (.func 214) #[] #[ptr b1 0]), (S [117, 116, 102, 56], .func (.func 194) #[] #[], .func (.func 195) #[] #[]), (S [117, 116, 102, 49, 54, 98, 101], .func (.func 197) #[] #[], .func (.func 198) #[] #[])]
theorem row_at (b0 b1 k : Nat) (hk : k < 4) : ∃ x dv fv, setN[k]? = some x ∧ (rowsV b0 b1)[k]? = some (S x, dv, fv) ∧ dv.oneCell' = true ∧ fv.oneCell' = true ∧ x.length ≤ 7 := by
 rcases k with _ | _ | _ | _ | k
 · exact ⟨_, _, _, G, G, G, G, by decide⟩
 · exact ⟨_, _, _, G, G, G, G, by decide⟩
 · exact ⟨_, _, _, G, G, G, G, by decide⟩
 · exact ⟨_, _, _, G, G, G, G, by decide⟩
 omega
def found (b0 b1 : Nat) : Option Nat → Value
 | none => .tuple #[.agg #[S [], .nilFunc, .nilFunc], .bool false]
 | some k => match (rowsV b0 b1)[k]? with
   | some s => .tuple #[.agg (encT s).toArray, .bool true]
   | none => .tuple #[]
theorem find_spec (name : Ls) (hs : name.length ≤ maxLen) : Ct Tryz.prog 170 [S name] (fun _ => True) (fun r M => ∃ b0 b1, CellM M ⟨b0, 0, none⟩ (encR 128) ∧ CellM M ⟨b1, 0, none⟩ (encR 256) ∧ r = found b0 b1 (setOf name)) := by
 refine Ct.of Tryz.func170 (enters Tryz.func170 Kr G) G G G ?_
 intro w0 M0 H hp
 refine SQ (RG (q0g [_, _, _] H Tz188 G (q00 G) G ?_))
 intro b2 w H
 refine AS G G (NL (TN (SQ (RG (q05 H (single_spec _ _) G (trivial) (q00 G) G ?_)))))
 intro v7 M w H hle hr7
 obtain ⟨bb7, rfl, hcell7⟩ := hr7
 refine q05 H (single_spec _ _) G (trivial) (q00 G) G ?_
 intro v8 M w H hle hr8
 replace hcell7 := hcell7.mono hle
 obtain ⟨bb8, rfl, hcell8⟩ := hr8
 refine q09 (v' := .agg #[S [117, 116, 102, 56], .func (.func 194) #[] #[], .func (.func 195) #[] #[]]) (q0L [_, _, _] Tu188 Tz188 (places188 Tu188) G G) G (q00 G) G G (q09 (v' := .agg #[S [117, 116, 102, 49, 54, 98, 101], .func (.func 197) #[] #[], .func (.func 198) #[] #[]]) (q0L [_, _, _] Tu188 Tz188 (places188 Tu188) G G) G (q00 G) G G (q1E (enc := encT) ty214 (rowsV bb7 bb8) H (fun _ => G) G Kr G G G (q00 G) G ?_))
 intro v11 M w H hle hl11
 replace hcell7 := hcell7.mono hle
 replace hcell8 := hcell8.mono hle
 refine AS G G (NL (TN (SQ (SQ (RG (MV G G (q09 (v' := I 4) (q1k Tu214 (by assumption) G) G (q00 G) G G ?_)))))))
 refine MV rfl rfl (NL (TN (BL (q1R (fun (k : Nat) => [(0, S name), (2, ptr b2 0), (12, v11), (13, I 4), (14, encN k)]) (fun (k : Nat) w => k ≤ 4 ∧ setOf name = ((setN.drop k).findIdx? (same name)).map (· + k) ∧ ∃ M, St w0 M0 M [.blk b2 (.cells #[S [], .nilFunc, .nilFunc] 188)] w ∧ SlS M 3 encT v11 (rowsV bb7 bb8) ∧ CellM M ⟨bb7, 0, none⟩ (encR 128) ∧ CellM M ⟨bb8, 0, none⟩ (encR 256)) (fun (k : Nat) => 4 - k) (0) ⟨rfl, rfl, rfl, rfl, rfl, trivial⟩ (⟨by omega, by rw [l0s]; simp only [l1t, Option.map_id']; rfl, M, H, hl11, hcell7, hcell8⟩) ?_))))
 intro k w
 rintro ⟨hk, hso, M, H, hl11, hcell7, hcell8⟩
 refine SQ (RG ?_)
 refine q0a (q0n G G) (q00 G) G G (fun h3_0 => ?_) (fun h3_0 => ?_)
 · obtain ⟨x, dv, fv, hx, hrow, hd1, hf1, hxl⟩ := row_at bb7 bb8 k Om
   refine NL (TN (SQ (CT G (SK (TN (SQ (BL (SQ (RG (WR.idxSlS Tu214 Ts188 (by assumption) G G (hrow) (q00 G) G ?_))))))))))
   intro b16 o16 hc16
   first | refine q01 (q0v H rfl Km Ta188 Ts188 Kf) (q00 rfl) rfl rfl ?_ | refine q01 (q1e H rfl (by assumption) Ta188 Ts188 Kf) (q00 rfl) rfl rfl ?_
   refine q0g [_, _, _] H Tz188 G (q00 G) G ?_
   intro b6 w H
   refine q0b [S x, dv, fv] H G G G Ku Ts188 G Kf (by show (true && (dv.oneCell' && (fv.oneCell' && true))) = true; rw [hd1, hf1]; rfl) (q00 G) ?_
   intro w H
   refine NL (TN (SQ (RG (ST (q03 Tu188 G Ts9 Dc G) G ?_))))
   first | refine q01 (q08 H rfl (by assumption) Ta9) (q00 rfl) rfl rfl ?_ | refine q01 (XL H Ta9) (q00 rfl) rfl rfl ?_
   refine MV G G ?_
   by_cases h5_3 : lower x = lower name
   · have hr := (setOf_from hso hx).1 h5_3
     refine q05 H (q0y (same_spec _ _ (by simp only [maxLen]; omega) hs) (R' := fun r _ => r = .bool true) (fun _ _ h => h.trans (congrArg Value.bool (decide_eq_true h5_3)))) G (trivial) (q00 G) G ?_
     intro v21 M w H hle hr21
     replace hl11 := hl11.mono hle
     replace hcell7 := hcell7.mono hle
     replace hcell8 := hcell8.mono hle
     replace hc16 := hc16.mono hle
     obtain rfl := hr21
     refine NL (TN (CT G (SQ (RG ?_))))
     first | refine q01 (q0v H rfl Km Ta188 Ts188 Kf) (q00 rfl) rfl rfl ?_ | refine q01 (q1e H rfl (by assumption) Ta188 Ts188 Kf) (q00 rfl) rfl rfl ?_
     refine q0b [S x, dv, fv] H G G G Ku Ts188 G Kf (by show (true && (dv.oneCell' && (fv.oneCell' && true))) = true; rw [hd1, hf1]; rfl) (q00 G) ?_
     intro w H
     refine AS G G (NL (TN (RT ?_)))
     refine q0H G ⟨_, G, H.loadAgg Km Ta188 Ts188 Kf⟩ G H.ext ?_
     exact ⟨_, _, hcell7, hcell8, by rw [hr, found, hrow]⟩
   refine q05 H (q0y (same_spec _ _ (by simp only [maxLen]; omega) hs) (R' := fun r _ => r = .bool false) (fun _ _ h => h.trans (congrArg Value.bool (decide_eq_false h5_3)))) G (trivial) (q00 G) G ?_
   intro v21 M w H hle hr21
   replace hl11 := hl11.mono hle
   replace hcell7 := hcell7.mono hle
   replace hcell8 := hcell8.mono hle
   replace hc16 := hc16.mono hle
   obtain rfl := hr21
   refine NL (TN (CF G (SK (IB (TN (RG (q09 (v' := encN (k + 1)) (q0d G G Om) G (q00 G) G G ?_)))))))
   refine MV G G (NL ?_)
   refine q1f (k + 1) ⟨G, G, G, G, G, trivial⟩ ?_ ?_
   · exact ⟨by omega, (setOf_from hso hx).2 h5_3, M, H.drop (l0q _ _), hl11, hcell7, hcell8⟩
   omega
 have hr : setOf name = none := by rw [hso, l08 (show setN.length ≤ k by show 4 ≤ k; omega)]; rfl
 refine NL (TN (SQ (CF G (q0m (q06 (q06 (q0f (TN (SQ (RG (ST (q0L [_, _, _] Tu188 Tz188 (places188 Tu188) G G) G (q0b [_, _, _] H G G G Ku Ts188 G Kf Kf (q00 G) ?_))))))))))))
 intro w H
 refine AS G G (NL (TN (RT ?_)))
 refine q0H G ⟨_, G, H.loadAgg Km Ta188 Ts188 Kf⟩ G H.ext ?_
 exact ⟨_, _, hcell7, hcell8, by rw [hr, found]⟩
end Go.Proofs.YtkmjdamkifbddaaGreatDoor
end
section
namespace Go.Proofs.YtkmjdamkifbddaaGreatDoor
open Go Go.RowKit Go.Ph
open Go.Ph.Gr Go.Ph.Utf Go.Ph.Chs
theorem dr_fix0 (l : Ls) : ((dr l).1 : Int) = fix0 (rune l).1 := by
 rw [rune_dr]; unfold fix0
 split
 · rfl
 simp only []; omega
theorem fix0_id {n : Int} (h : 0 ≤ n) : fix0 n = n := by unfold fix0; rw [if_neg Om]
theorem encode_unk (name l : Ls) (hn : name.length ≤ maxLen) (hs : l.length ≤ 12000) (hk : setOf name = none) : Ct Tryz.prog 140 [S name, S l] (fun M => Tabs M) (fun r _ => r = .tuple #[.slice none 0 0, fault 18 (-2)]) := by
 refine Ct.of Tf140 (enters Tf140 Kr G) G G G ?_
 intro w0 M0 H hp
 refine SQ (RG (AS G G (q0g [_, _] H Tz27 G (q00 G) G ?_)))
 intro b5 w H
 refine NL (TN (SQ (SQ (RG (MV G G (ST (q0k Tu9 G) G (q0U (q0K G G) Om (q00 G) G G ?_)))))))
 refine NL (TN (CF rfl (SK (TN (SQ (RG (MV rfl rfl (q05 H (q0y (find_spec name hn) (R' := fun r M => ∃ b0 b1, CellM M ⟨b0, 0, none⟩ (encR 128) ∧ CellM M ⟨b1, 0, none⟩ (encR 256) ∧ r = .tuple #[.agg #[S [], .nilFunc, .nilFunc], .bool false]) (fun _ _ ⟨b0, b1, h0, h1, h⟩ => ⟨b0, b1, h0, h1, by rw [hk] at h; exact h⟩)) rfl (trivial) (q00 rfl) rfl ?_))))))))
 intro v19 M w H hle hr19
 replace hp := hp.mono hle
 obtain ⟨b0, b1, hc0, hc1, rfl⟩ := hr19
 refine MV G G (ST (q0e G G) G (ST (q0e G G) G (q0g [_, _, _] H Tz188 G (q00 G) G ?_)))
 intro b6 w H
 refine q0b [_, _, _] H G G G Ku Ts188 G Kf Kf (q00 G) ?_
 intro w H
 refine AS G G (NL (TN (SQ (SQ (RG (MV G G (ST (q1T G) G (NL (TN (CT G (SQ (RG (q05 H (fault_spec _ _) G (trivial) (q00 G) G ?_)))))))))))))
 intro v24 M w H hle hr24
 replace hp := hp.mono hle
 replace hc0 := hc0.mono hle
 replace hc1 := hc1.mono hle
 obtain rfl := hr24
 refine AS G G (q0b [_, _] H G G G Ku Ts27 G Kf Kf (q00 G) ?_)
 intro w H
 refine NL (TN (RT ?_))
 refine q0H G G ⟨_, G, H.loadAgg Km Ta27 Ts27 Kf⟩ H.ext ?_
 exact G
theorem encode_mal0 (name l : Ls) (hn : name.length ≤ maxLen) (hs : l.length ≤ 12000) (hk : setOf name = some 0) (hv : vld l = false) : Ct Tryz.prog 140 [S name, S l] (fun M => Tabs M) (fun r _ => r = .tuple #[.slice none 0 0, fault 5 (-3)]) := by
 refine Ct.of Tf140 (enters Tf140 Kr G) G G G ?_
 intro w0 M0 H hp
 refine SQ (RG (AS G G (q0g [_, _] H Tz27 G (q00 G) G ?_)))
 intro b5 w H
 refine NL (TN (SQ (SQ (RG (MV G G (ST (q0k Tu9 G) G (q0U (q0K G G) Om (q00 G) G G ?_)))))))
 refine NL (TN (CF rfl (SK (TN (SQ (RG (MV rfl rfl (q05 H (q0y (find_spec name hn) (R' := fun r M => ∃ b0 b1, CellM M ⟨b0, 0, none⟩ (encR 128) ∧ CellM M ⟨b1, 0, none⟩ (encR 256) ∧ r = .tuple #[.agg #[S [97, 115, 99, 105, 105], .func (.func 213) #[] #[ptr b0 0], .func (.func 214) #[] #[ptr b0 0]], .bool true]) (fun _ _ ⟨b0, b1, h0, h1, h⟩ => ⟨b0, b1, h0, h1, by rw [hk] at h; exact h⟩)) rfl (trivial) (q00 rfl) rfl ?_))))))))
 intro v19 M w H hle hr19
 replace hp := hp.mono hle
 obtain ⟨b0, b1, hc0, hc1, rfl⟩ := hr19
 refine MV G G (ST (q0e G G) G (ST (q0e G G) G (q0g [_, _, _] H Tz188 G (q00 G) G ?_)))
 intro b6 w H
 refine q0b [_, _, _] H G G G Ku Ts188 G Kf Kf (q00 G) ?_
 intro w H
 refine AS G G (NL (TN (SQ (SQ (RG (MV G G (ST (q1o G) G (NL (TN (CF G (SK (TN (SQ (SQ (RG (MV G G (q05 H (q0y (validString_spec l Om) (R' := fun r _ => r = .bool false) (fun _ _ h => by rw [hv] at h; exact h)) G (by assumption) (q00 G) G ?_)))))))))))))))))
 intro v26 M w H hle hr26
 replace hp := hp.mono hle
 replace hc0 := hc0.mono hle
 replace hc1 := hc1.mono hle
 obtain rfl := hr26
 refine ST (q1T G) G (NL (TN (CT G (SQ (RG (q05 H (fault_spec _ _) G (trivial) (q00 G) G ?_))))))
 intro v28 M w H hle hr28
 replace hp := hp.mono hle
 replace hc0 := hc0.mono hle
 replace hc1 := hc1.mono hle
 obtain rfl := hr28
 refine AS G G (q0b [_, _] H G G G Ku Ts27 G Kf Kf (q00 G) ?_)
 intro w H
 refine NL (TN (RT ?_))
 refine q0H G G ⟨_, G, H.loadAgg Km Ta27 Ts27 Kf⟩ H.ext ?_
 exact G
theorem encode_mal1 (name l : Ls) (hn : name.length ≤ maxLen) (hs : l.length ≤ 12000) (hk : setOf name = some 1) (hv : vld l = false) : Ct Tryz.prog 140 [S name, S l] (fun M => Tabs M) (fun r _ => r = .tuple #[.slice none 0 0, fault 5 (-3)]) := by
 refine Ct.of Tf140 (enters Tf140 Kr G) G G G ?_
 intro w0 M0 H hp
 refine SQ (RG (AS G G (q0g [_, _] H Tz27 G (q00 G) G ?_)))
 intro b5 w H
 refine NL (TN (SQ (SQ (RG (MV G G (ST (q0k Tu9 G) G (q0U (q0K G G) Om (q00 G) G G ?_)))))))
 refine NL (TN (CF rfl (SK (TN (SQ (RG (MV rfl rfl (q05 H (q0y (find_spec name hn) (R' := fun r M => ∃ b0 b1, CellM M ⟨b0, 0, none⟩ (encR 128) ∧ CellM M ⟨b1, 0, none⟩ (encR 256) ∧ r = .tuple #[.agg #[S [108, 97, 116, 105, 110, 49], .func (.func 213) #[] #[ptr b1 0], .func (.func 214) #[] #[ptr b1 0]], .bool true]) (fun _ _ ⟨b0, b1, h0, h1, h⟩ => ⟨b0, b1, h0, h1, by rw [hk] at h; exact h⟩)) rfl (trivial) (q00 rfl) rfl ?_))))))))
 intro v19 M w H hle hr19
 replace hp := hp.mono hle
 obtain ⟨b0, b1, hc0, hc1, rfl⟩ := hr19
 refine MV G G (ST (q0e G G) G (ST (q0e G G) G (q0g [_, _, _] H Tz188 G (q00 G) G ?_)))
 intro b6 w H
 refine q0b [_, _, _] H G G G Ku Ts188 G Kf Kf (q00 G) ?_
 intro w H
 refine AS G G (NL (TN (SQ (SQ (RG (MV G G (ST (q1o G) G (NL (TN (CF G (SK (TN (SQ (SQ (RG (MV G G (q05 H (q0y (validString_spec l Om) (R' := fun r _ => r = .bool false) (fun _ _ h => by rw [hv] at h; exact h)) G (by assumption) (q00 G) G ?_)))))))))))))))))
 intro v26 M w H hle hr26
 replace hp := hp.mono hle
 replace hc0 := hc0.mono hle
 replace hc1 := hc1.mono hle
 obtain rfl := hr26
 refine ST (q1T G) G (NL (TN (CT G (SQ (RG (q05 H (fault_spec _ _) G (trivial) (q00 G) G ?_))))))
 intro v28 M w H hle hr28
 replace hp := hp.mono hle
 replace hc0 := hc0.mono hle
 replace hc1 := hc1.mono hle
 obtain rfl := hr28
 refine AS G G (q0b [_, _] H G G G Ku Ts27 G Kf Kf (q00 G) ?_)
 intro w H
 refine NL (TN (RT ?_))
 refine q0H G G ⟨_, G, H.loadAgg Km Ta27 Ts27 Kf⟩ H.ext ?_
 exact G
theorem encode_mal2 (name l : Ls) (hn : name.length ≤ maxLen) (hs : l.length ≤ 12000) (hk : setOf name = some 2) (hv : vld l = false) : Ct Tryz.prog 140 [S name, S l] (fun M => Tabs M) (fun r _ => r = .tuple #[.slice none 0 0, fault 5 (-3)]) := by
 refine Ct.of Tf140 (enters Tf140 Kr G) G G G ?_
 intro w0 M0 H hp
 refine SQ (RG (AS G G (q0g [_, _] H Tz27 G (q00 G) G ?_)))
 intro b5 w H
 refine NL (TN (SQ (SQ (RG (MV G G (ST (q0k Tu9 G) G (q0U (q0K G G) Om (q00 G) G G ?_)))))))
 refine NL (TN (CF rfl (SK (TN (SQ (RG (MV rfl rfl (q05 H (q0y (find_spec name hn) (R' := fun r M => ∃ b0 b1, CellM M ⟨b0, 0, none⟩ (encR 128) ∧ CellM M ⟨b1, 0, none⟩ (encR 256) ∧ r = .tuple #[.agg #[S [117, 116, 102, 56], .func (.func 194) #[] #[], .func (.func 195) #[] #[]], .bool true]) (fun _ _ ⟨b0, b1, h0, h1, h⟩ => ⟨b0, b1, h0, h1, by rw [hk] at h; exact h⟩)) rfl (trivial) (q00 rfl) rfl ?_))))))))
 intro v19 M w H hle hr19
 replace hp := hp.mono hle
 obtain ⟨b0, b1, hc0, hc1, rfl⟩ := hr19
 refine MV G G (ST (q0e G G) G (ST (q0e G G) G (q0g [_, _, _] H Tz188 G (q00 G) G ?_)))
 intro b6 w H
 refine q0b [_, _, _] H G G G Ku Ts188 G Kf Kf (q00 G) ?_
 intro w H
 refine AS G G (NL (TN (SQ (SQ (RG (MV G G (ST (q1o G) G (NL (TN (CF G (SK (TN (SQ (SQ (RG (MV G G (q05 H (q0y (validString_spec l Om) (R' := fun r _ => r = .bool false) (fun _ _ h => by rw [hv] at h; exact h)) G (by assumption) (q00 G) G ?_)))))))))))))))))
 intro v26 M w H hle hr26
 replace hp := hp.mono hle
 replace hc0 := hc0.mono hle
 replace hc1 := hc1.mono hle
 obtain rfl := hr26
 refine ST (q1T G) G (NL (TN (CT G (SQ (RG (q05 H (fault_spec _ _) G (trivial) (q00 G) G ?_))))))
 intro v28 M w H hle hr28
 replace hp := hp.mono hle
 replace hc0 := hc0.mono hle
 replace hc1 := hc1.mono hle
 obtain rfl := hr28
 refine AS G G (q0b [_, _] H G G G Ku Ts27 G Kf Kf (q00 G) ?_)
 intro w H
 refine NL (TN (RT ?_))
 refine q0H G G ⟨_, G, H.loadAgg Km Ta27 Ts27 Kf⟩ H.ext ?_
 exact G
theorem encode_mal3 (name l : Ls) (hn : name.length ≤ maxLen) (hs : l.length ≤ 12000) (hk : setOf name = some 3) (hv : vld l = false) : Ct Tryz.prog 140 [S name, S l] (fun M => Tabs M) (fun r _ => r = .tuple #[.slice none 0 0, fault 5 (-3)]) := by
 refine Ct.of Tf140 (enters Tf140 Kr G) G G G ?_
 intro w0 M0 H hp
 refine SQ (RG (AS G G (q0g [_, _] H Tz27 G (q00 G) G ?_)))
 intro b5 w H
 refine NL (TN (SQ (SQ (RG (MV G G (ST (q0k Tu9 G) G (q0U (q0K G G) Om (q00 G) G G ?_)))))))
 refine NL (TN (CF rfl (SK (TN (SQ (RG (MV rfl rfl (q05 H (q0y (find_spec name hn) (R' := fun r M => ∃ b0 b1, CellM M ⟨b0, 0, none⟩ (encR 128) ∧ CellM M ⟨b1, 0, none⟩ (encR 256) ∧ r = .tuple #[.agg #[S [117, 116, 102, 49, 54, 98, 101], .func (.func 197) #[] #[], .func (.func 198) #[] #[]], .bool true]) (fun _ _ ⟨b0, b1, h0, h1, h⟩ => ⟨b0, b1, h0, h1, by rw [hk] at h; exact h⟩)) rfl (trivial) (q00 rfl) rfl ?_))))))))
 intro v19 M w H hle hr19
 replace hp := hp.mono hle
 obtain ⟨b0, b1, hc0, hc1, rfl⟩ := hr19
 refine MV G G (ST (q0e G G) G (ST (q0e G G) G (q0g [_, _, _] H Tz188 G (q00 G) G ?_)))
 intro b6 w H
 refine q0b [_, _, _] H G G G Ku Ts188 G Kf Kf (q00 G) ?_
 intro w H
 refine AS G G (NL (TN (SQ (SQ (RG (MV G G (ST (q1o G) G (NL (TN (CF G (SK (TN (SQ (SQ (RG (MV G G (q05 H (q0y (validString_spec l Om) (R' := fun r _ => r = .bool false) (fun _ _ h => by rw [hv] at h; exact h)) G (by assumption) (q00 G) G ?_)))))))))))))))))
 intro v26 M w H hle hr26
 replace hp := hp.mono hle
 replace hc0 := hc0.mono hle
 replace hc1 := hc1.mono hle
 obtain rfl := hr26
 refine ST (q1T G) G (NL (TN (CT G (SQ (RG (q05 H (fault_spec _ _) G (trivial) (q00 G) G ?_))))))
 intro v28 M w H hle hr28
 replace hp := hp.mono hle
 replace hc0 := hc0.mono hle
 replace hc1 := hc1.mono hle
 obtain rfl := hr28
 refine AS G G (q0b [_, _] H G G G Ku Ts27 G Kf Kf (q00 G) ?_)
 intro w H
 refine NL (TN (RT ?_))
 refine q0H G G ⟨_, G, H.loadAgg Km Ta27 Ts27 Kf⟩ H.ext ?_
 exact G
theorem encode_0 (name l : Ls) (hn : name.length ≤ maxLen) (hs : l.length ≤ 12000) (hk : setOf name = some 0) (hv : vld l = true) : Ct Tryz.prog 140 [S name, S l] (fun M => Tabs M) (fun r M => match encGo (encK 0) (chars l) 0 with | .ok b => ∃ v, r = .tuple #[v, fault 0 0] ∧ Bs M v b | .error e => r = .tuple #[.slice none 0 0, fault 17 (e : Int)]) := by
 refine Ct.of Tf140 (enters Tf140 Kr G) G G G ?_
 intro w0 M0 H hp
 refine SQ (RG (AS G G (q0g [_, _] H Tz27 G (q00 G) G ?_)))
 intro b5 w H
 refine NL (TN (SQ (SQ (RG (MV G G (ST (q0k Tu9 G) G (q0U (q0K G G) Om (q00 G) G G ?_)))))))
 refine NL (TN (CF rfl (SK (TN (SQ (RG (MV rfl rfl (q05 H (q0y (find_spec name hn) (R' := fun r M => ∃ b0 b1, CellM M ⟨b0, 0, none⟩ (encR 128) ∧ CellM M ⟨b1, 0, none⟩ (encR 256) ∧ r = .tuple #[.agg #[S [97, 115, 99, 105, 105], .func (.func 213) #[] #[ptr b0 0], .func (.func 214) #[] #[ptr b0 0]], .bool true]) (fun _ _ ⟨b0, b1, h0, h1, h⟩ => ⟨b0, b1, h0, h1, by rw [hk] at h; exact h⟩)) rfl (trivial) (q00 rfl) rfl ?_))))))))
 intro v19 M w H hle hr19
 replace hp := hp.mono hle
 obtain ⟨b0, b1, hc0, hc1, rfl⟩ := hr19
 refine MV G G (ST (q0e G G) G (ST (q0e G G) G (q0g [_, _, _] H Tz188 G (q00 G) G ?_)))
 intro b6 w H
 refine q0b [_, _, _] H G G G Ku Ts188 G Kf Kf (q00 G) ?_
 intro w H
 refine AS G G (NL (TN (SQ (SQ (RG (MV G G (ST (q1o G) G (NL (TN (CF G (SK (TN (SQ (SQ (RG (MV G G (q05 H (q0y (validString_spec l Om) (R' := fun r _ => r = .bool true) (fun _ _ h => by rw [hv] at h; exact h)) G (by assumption) (q00 G) G ?_)))))))))))))))))
 intro v26 M w H hle hr26
 replace hp := hp.mono hle
 replace hc0 := hc0.mono hle
 replace hc1 := hc1.mono hle
 obtain rfl := hr26
 refine ST (q1o G) G (NL (TN (CF G (SK (TN (SQ (RG ?_)))))))
 replace H := H.newRow 5 encB
 refine AS G G (NL (TN (SQ (SQ (RG (MV G G (q2g H Tu9 G (q00 G) G ?_)))))))
 intro b30 w H
 refine NL (TN (BL (q1L (fun (q : Nat) (ov : Value) (o : Ls) => [(5, ptr b5 0), (6, ptr b6 0), (8, ov), (30, ptr b30 0)]) (fun (q : Nat) (ov : Value) (o : Ls) w => (q ≤ l.length ∧ o.length ≤ 4 * q) ∧ vld (l.drop q) = true ∧ encGo (encK 0) (chars l) 0 = pre o (encGo (encK 0) (chars (l.drop q)) q) ∧ ∃ M, St w0 M0 M [.blk b30 (.stringIter ⟨l.toArray⟩ q), RowI 5 encB ov o, .blk b6 (.cells #[S [97, 115, 99, 105, 105], .func (.func 213) #[] #[ptr b0 0], .func (.func 214) #[] #[ptr b0 0]] 188), .blk b5 (.cells #[I 0, I 0] 27)] w ∧ CellM M ⟨b0, 0, none⟩ (encR 128)) (fun (q : Nat) (ov : Value) (o : Ls) => l.length - q) (0) (_) (_) ⟨rfl, rfl, rfl, rfl, trivial⟩ (⟨by simp, hv, (pre_nil _).symm, M, H, hc0⟩) ?_)))
 intro q ov o w
 rintro ⟨hq, hvq, hgo, M, H, hc0⟩
 refine SQ (RG ?_)
 by_cases h10_0 : q < l.length
 · have hne := drop_ne (t := l) (n := q) h10_0
   have hrs := rune_size (l.drop q)
   have hrs3 := hrs.2.2 hne
   rw [l01] at hrs3
   rw [vld_cons hne, l0i] at hvq
   have hr0 := of_decide_eq_true hvq.1
   have hvn := hvq.2
   have hrl := rune_lt (l.drop q)
   have hdr : ((dr (l.drop q)).1 : Int) = (rune (l.drop q)).1 := by rw [dr_fix0, fix0_id hr0]
   have hch : chars (l.drop q) = ((rune (l.drop q)).1, (l.drop q).take (rune (l.drop q)).2) :: chars (l.drop (q + (rune (l.drop q)).2)) := by rw [chars_cons hne, l0l]
   refine WR.nextT H h10_0 G Ku (q00 G) G ?_
   intro w H
   refine ST (q0e G G) G (NL (TN (SQ (CT G (SK (TN (BL (SQ (RG (ST (q0e G G) G (q09 (v' := encR (rune (l.drop q)).1) (q0e G G) (congrArg encR hdr) (q00 G) G G (AS G G (AS G G (NL (TN (SQ (RG (ST (q03 Tu188 G Ts186 Dc G) G ?_))))))))))))))))))
   first | refine q01 (q08 H rfl (by assumption) Ta186) (q00 rfl) rfl rfl ?_ | refine q01 (XL H Ta186) (q00 rfl) rfl rfl ?_
   refine MV G G ?_
   by_cases hok : (rune (l.drop q)).1 < 128
   · have hstep : encK 0 (rune (l.drop q)).1 = some ([ub (rune (l.drop q)).1]) := by rw [encK0, Chs.encS, if_pos hok]
     have hbl := encK_len hstep
     refine q1r (cap := [ptr b0 0]) H (q0y (enc1_spec (rune (l.drop q)).1 b0 128) (R' := fun r M => ∃ v, r = .tuple #[v, .bool true] ∧ Bs M v ([ub (rune (l.drop q)).1])) (fun _ _ ⟨v, h1, h2⟩ => ⟨v, by rw [decide_eq_true hok] at h1; exact h1, h2⟩)) rfl rfl (by assumption) (q00 rfl) rfl ?_
     intro v39 M w H hle hr39
     replace hc0 := hc0.mono hle
     obtain ⟨v39, rfl, hf39⟩ := hr39
     refine MV G G (ST (q0e G G) G (ST (q0e G G) G (AS G G (AS G G (NL (TN (SQ (SQ (RG (MV G G (ST (q1o G) G (NL (TN (CF G (SK (TN (RG (MV G G (MV G G (q0D ty88 (fun _ => G) H G (fun _ => by repeat first | exact .head | apply Upd.tail) G (by assumption) (by first | omega | (simp only [l00, l02, l03, l04, l01]; omega)) (by first | (simp only [maxLen]; omega) | (simp only [maxLen, l00, l02, l03, l04, l01]; omega)) (q00 G) G ?_))))))))))))))))))))
     intro v48 w H
     refine AS G G (NL (IB ?_))
     refine q0V (q + (dr (l.drop q)).2) (v48) (o ++ ([ub (rune (l.drop q)).1])) ⟨G, G, G, G, trivial⟩ ?_ ?_
     · refine ⟨by rw [dr_size, l00]; omega, ?_, ?_, M, H, hc0⟩
       · rw [dr_size, ← l0l]; exact hvn
       rw [hgo, hch, encGo_step o hstep, dr_size]
       simp only [l04, l01]
       rw [l0P Om]
     rw [dr_size]; omega
   have hres : encGo (encK 0) (chars l) 0 = .error q := by rw [hgo, hch]; exact encGo_stop o (by rw [encK0, Chs.encS, if_neg hok])
   refine q1r (cap := [ptr b0 0]) H (q0y (enc1_spec (rune (l.drop q)).1 b0 128) (R' := fun r M => ∃ v, r = .tuple #[v, .bool false] ∧ Bs M v ([ub (rune (l.drop q)).1])) (fun _ _ ⟨v, h1, h2⟩ => ⟨v, by rw [decide_eq_false hok] at h1; exact h1, h2⟩)) rfl rfl (by assumption) (q00 rfl) rfl ?_
   intro v39 M w H hle hr39
   replace hc0 := hc0.mono hle
   obtain ⟨v39, rfl, hf39⟩ := hr39
   refine MV G G (ST (q0e G G) G (ST (q0e G G) G (AS G G (AS G G (NL (TN (SQ (SQ (RG (MV G G (ST (q1T G) G (NL (TN (CT G (SQ (RG (MV G G (q05 H (fault_spec _ _) G (trivial) (q00 G) G ?_))))))))))))))))))
   intro v45 M w H hle hr45
   replace hc0 := hc0.mono hle
   replace hf39 := hf39.mono hle
   obtain rfl := hr45
   refine AS G G (q0b [_, _] H G G G Ku Ts27 G Kf Kf (q00 G) ?_)
   intro w H
   refine NL (TN (RT ?_))
   refine q0H G G ⟨_, G, H.loadAgg Km Ta27 Ts27 Kf⟩ H.ext ?_
   refine  ?_
   rw [hres]
 have hres : encGo (encK 0) (chars l) 0 = .ok o := by rw [hgo, l08 Om, chars_nil]; simp [encGo, pre]
 refine WR.nextF H (l1Q h10_0) G Km (q00 G) G ?_
 refine ST (q0e G G) G (NL (TN (SQ (CF G (q0m (q06 (q06 (q0f (TN (SQ (RG (MV G G (q05 H (none_spec) G (trivial) (q00 G) G ?_)))))))))))))
 intro v50 M w H hle hr50
 replace hc0 := hc0.mono hle
 obtain rfl := hr50
 refine AS G G (q0b [_, _] H G G G Ku Ts27 G Kf Kf (q00 G) ?_)
 intro w H
 refine NL (TN (RT ?_))
 obtain ⟨M, hle, hf, H⟩ := H.freezeRow (v := ov) (enc := encB) (t := 5) Kv
 refine q0H G G ⟨_, G, H.loadAgg Km Ta27 Ts27 Kf⟩ H.ext ?_
 refine  ?_
 rw [hres]
 exact ⟨_, G, hf⟩
theorem encode_1 (name l : Ls) (hn : name.length ≤ maxLen) (hs : l.length ≤ 12000) (hk : setOf name = some 1) (hv : vld l = true) : Ct Tryz.prog 140 [S name, S l] (fun M => Tabs M) (fun r M => match encGo (encK 1) (chars l) 0 with | .ok b => ∃ v, r = .tuple #[v, fault 0 0] ∧ Bs M v b | .error e => r = .tuple #[.slice none 0 0, fault 17 (e : Int)]) := by
 refine Ct.of Tf140 (enters Tf140 Kr G) G G G ?_
 intro w0 M0 H hp
 refine SQ (RG (AS G G (q0g [_, _] H Tz27 G (q00 G) G ?_)))
 intro b5 w H
 refine NL (TN (SQ (SQ (RG (MV G G (ST (q0k Tu9 G) G (q0U (q0K G G) Om (q00 G) G G ?_)))))))
 refine NL (TN (CF rfl (SK (TN (SQ (RG (MV rfl rfl (q05 H (q0y (find_spec name hn) (R' := fun r M => ∃ b0 b1, CellM M ⟨b0, 0, none⟩ (encR 128) ∧ CellM M ⟨b1, 0, none⟩ (encR 256) ∧ r = .tuple #[.agg #[S [108, 97, 116, 105, 110, 49], .func (.func 213) #[] #[ptr b1 0], .func (.func 214) #[] #[ptr b1 0]], .bool true]) (fun _ _ ⟨b0, b1, h0, h1, h⟩ => ⟨b0, b1, h0, h1, by rw [hk] at h; exact h⟩)) rfl (trivial) (q00 rfl) rfl ?_))))))))
 intro v19 M w H hle hr19
 replace hp := hp.mono hle
 obtain ⟨b0, b1, hc0, hc1, rfl⟩ := hr19
 refine MV G G (ST (q0e G G) G (ST (q0e G G) G (q0g [_, _, _] H Tz188 G (q00 G) G ?_)))
 intro b6 w H
 refine q0b [_, _, _] H G G G Ku Ts188 G Kf Kf (q00 G) ?_
 intro w H
 refine AS G G (NL (TN (SQ (SQ (RG (MV G G (ST (q1o G) G (NL (TN (CF G (SK (TN (SQ (SQ (RG (MV G G (q05 H (q0y (validString_spec l Om) (R' := fun r _ => r = .bool true) (fun _ _ h => by rw [hv] at h; exact h)) G (by assumption) (q00 G) G ?_)))))))))))))))))
 intro v26 M w H hle hr26
 replace hp := hp.mono hle
 replace hc0 := hc0.mono hle
 replace hc1 := hc1.mono hle
 obtain rfl := hr26
 refine ST (q1o G) G (NL (TN (CF G (SK (TN (SQ (RG ?_)))))))
 replace H := H.newRow 5 encB
 refine AS G G (NL (TN (SQ (SQ (RG (MV G G (q2g H Tu9 G (q00 G) G ?_)))))))
 intro b30 w H
 refine NL (TN (BL (q1L (fun (q : Nat) (ov : Value) (o : Ls) => [(5, ptr b5 0), (6, ptr b6 0), (8, ov), (30, ptr b30 0)]) (fun (q : Nat) (ov : Value) (o : Ls) w => (q ≤ l.length ∧ o.length ≤ 4 * q) ∧ vld (l.drop q) = true ∧ encGo (encK 1) (chars l) 0 = pre o (encGo (encK 1) (chars (l.drop q)) q) ∧ ∃ M, St w0 M0 M [.blk b30 (.stringIter ⟨l.toArray⟩ q), RowI 5 encB ov o, .blk b6 (.cells #[S [108, 97, 116, 105, 110, 49], .func (.func 213) #[] #[ptr b1 0], .func (.func 214) #[] #[ptr b1 0]] 188), .blk b5 (.cells #[I 0, I 0] 27)] w ∧ CellM M ⟨b1, 0, none⟩ (encR 256)) (fun (q : Nat) (ov : Value) (o : Ls) => l.length - q) (0) (_) (_) ⟨rfl, rfl, rfl, rfl, trivial⟩ (⟨by simp, hv, (pre_nil _).symm, M, H, hc1⟩) ?_)))
 intro q ov o w
 rintro ⟨hq, hvq, hgo, M, H, hc1⟩
 refine SQ (RG ?_)
 by_cases h10_0 : q < l.length
 · have hne := drop_ne (t := l) (n := q) h10_0
   have hrs := rune_size (l.drop q)
   have hrs3 := hrs.2.2 hne
   rw [l01] at hrs3
   rw [vld_cons hne, l0i] at hvq
   have hr0 := of_decide_eq_true hvq.1
   have hvn := hvq.2
   have hrl := rune_lt (l.drop q)
   have hdr : ((dr (l.drop q)).1 : Int) = (rune (l.drop q)).1 := by rw [dr_fix0, fix0_id hr0]
   have hch : chars (l.drop q) = ((rune (l.drop q)).1, (l.drop q).take (rune (l.drop q)).2) :: chars (l.drop (q + (rune (l.drop q)).2)) := by rw [chars_cons hne, l0l]
   refine WR.nextT H h10_0 G Ku (q00 G) G ?_
   intro w H
   refine ST (q0e G G) G (NL (TN (SQ (CT G (SK (TN (BL (SQ (RG (ST (q0e G G) G (q09 (v' := encR (rune (l.drop q)).1) (q0e G G) (congrArg encR hdr) (q00 G) G G (AS G G (AS G G (NL (TN (SQ (RG (ST (q03 Tu188 G Ts186 Dc G) G ?_))))))))))))))))))
   first | refine q01 (q08 H rfl (by assumption) Ta186) (q00 rfl) rfl rfl ?_ | refine q01 (XL H Ta186) (q00 rfl) rfl rfl ?_
   refine MV G G ?_
   by_cases hok : (rune (l.drop q)).1 < 256
   · have hstep : encK 1 (rune (l.drop q)).1 = some ([ub (rune (l.drop q)).1]) := by rw [encK1, Chs.encS, if_pos hok]
     have hbl := encK_len hstep
     refine q1r (cap := [ptr b1 0]) H (q0y (enc1_spec (rune (l.drop q)).1 b1 256) (R' := fun r M => ∃ v, r = .tuple #[v, .bool true] ∧ Bs M v ([ub (rune (l.drop q)).1])) (fun _ _ ⟨v, h1, h2⟩ => ⟨v, by rw [decide_eq_true hok] at h1; exact h1, h2⟩)) rfl rfl (by assumption) (q00 rfl) rfl ?_
     intro v39 M w H hle hr39
     replace hc1 := hc1.mono hle
     obtain ⟨v39, rfl, hf39⟩ := hr39
     refine MV G G (ST (q0e G G) G (ST (q0e G G) G (AS G G (AS G G (NL (TN (SQ (SQ (RG (MV G G (ST (q1o G) G (NL (TN (CF G (SK (TN (RG (MV G G (MV G G (q0D ty88 (fun _ => G) H G (fun _ => by repeat first | exact .head | apply Upd.tail) G (by assumption) (by first | omega | (simp only [l00, l02, l03, l04, l01]; omega)) (by first | (simp only [maxLen]; omega) | (simp only [maxLen, l00, l02, l03, l04, l01]; omega)) (q00 G) G ?_))))))))))))))))))))
     intro v48 w H
     refine AS G G (NL (IB ?_))
     refine q0V (q + (dr (l.drop q)).2) (v48) (o ++ ([ub (rune (l.drop q)).1])) ⟨G, G, G, G, trivial⟩ ?_ ?_
     · refine ⟨by rw [dr_size, l00]; omega, ?_, ?_, M, H, hc1⟩
       · rw [dr_size, ← l0l]; exact hvn
       rw [hgo, hch, encGo_step o hstep, dr_size]
       simp only [l04, l01]
       rw [l0P Om]
     rw [dr_size]; omega
   have hres : encGo (encK 1) (chars l) 0 = .error q := by rw [hgo, hch]; exact encGo_stop o (by rw [encK1, Chs.encS, if_neg hok])
   refine q1r (cap := [ptr b1 0]) H (q0y (enc1_spec (rune (l.drop q)).1 b1 256) (R' := fun r M => ∃ v, r = .tuple #[v, .bool false] ∧ Bs M v ([ub (rune (l.drop q)).1])) (fun _ _ ⟨v, h1, h2⟩ => ⟨v, by rw [decide_eq_false hok] at h1; exact h1, h2⟩)) rfl rfl (by assumption) (q00 rfl) rfl ?_
   intro v39 M w H hle hr39
   replace hc1 := hc1.mono hle
   obtain ⟨v39, rfl, hf39⟩ := hr39
   refine MV G G (ST (q0e G G) G (ST (q0e G G) G (AS G G (AS G G (NL (TN (SQ (SQ (RG (MV G G (ST (q1T G) G (NL (TN (CT G (SQ (RG (MV G G (q05 H (fault_spec _ _) G (trivial) (q00 G) G ?_))))))))))))))))))
   intro v45 M w H hle hr45
   replace hc1 := hc1.mono hle
   replace hf39 := hf39.mono hle
   obtain rfl := hr45
   refine AS G G (q0b [_, _] H G G G Ku Ts27 G Kf Kf (q00 G) ?_)
   intro w H
   refine NL (TN (RT ?_))
   refine q0H G G ⟨_, G, H.loadAgg Km Ta27 Ts27 Kf⟩ H.ext ?_
   refine  ?_
   rw [hres]
 have hres : encGo (encK 1) (chars l) 0 = .ok o := by rw [hgo, l08 Om, chars_nil]; simp [encGo, pre]
 refine WR.nextF H (l1Q h10_0) G Km (q00 G) G ?_
 refine ST (q0e G G) G (NL (TN (SQ (CF G (q0m (q06 (q06 (q0f (TN (SQ (RG (MV G G (q05 H (none_spec) G (trivial) (q00 G) G ?_)))))))))))))
 intro v50 M w H hle hr50
 replace hc1 := hc1.mono hle
 obtain rfl := hr50
 refine AS G G (q0b [_, _] H G G G Ku Ts27 G Kf Kf (q00 G) ?_)
 intro w H
 refine NL (TN (RT ?_))
 obtain ⟨M, hle, hf, H⟩ := H.freezeRow (v := ov) (enc := encB) (t := 5) Kv
 refine q0H G G ⟨_, G, H.loadAgg Km Ta27 Ts27 Kf⟩ H.ext ?_
 refine  ?_
 rw [hres]
 exact ⟨_, G, hf⟩
theorem encode_2 (name l : Ls) (hn : name.length ≤ maxLen) (hs : l.length ≤ 12000) (hk : setOf name = some 2) (hv : vld l = true) : Ct Tryz.prog 140 [S name, S l] (fun M => Tabs M) (fun r M => match encGo (encK 2) (chars l) 0 with | .ok b => ∃ v, r = .tuple #[v, fault 0 0] ∧ Bs M v b | .error e => r = .tuple #[.slice none 0 0, fault 17 (e : Int)]) := by
 refine Ct.of Tf140 (enters Tf140 Kr G) G G G ?_
 intro w0 M0 H hp
 refine SQ (RG (AS G G (q0g [_, _] H Tz27 G (q00 G) G ?_)))
 intro b5 w H
 refine NL (TN (SQ (SQ (RG (MV G G (ST (q0k Tu9 G) G (q0U (q0K G G) Om (q00 G) G G ?_)))))))
 refine NL (TN (CF rfl (SK (TN (SQ (RG (MV rfl rfl (q05 H (q0y (find_spec name hn) (R' := fun r M => ∃ b0 b1, CellM M ⟨b0, 0, none⟩ (encR 128) ∧ CellM M ⟨b1, 0, none⟩ (encR 256) ∧ r = .tuple #[.agg #[S [117, 116, 102, 56], .func (.func 194) #[] #[], .func (.func 195) #[] #[]], .bool true]) (fun _ _ ⟨b0, b1, h0, h1, h⟩ => ⟨b0, b1, h0, h1, by rw [hk] at h; exact h⟩)) rfl (trivial) (q00 rfl) rfl ?_))))))))
 intro v19 M w H hle hr19
 replace hp := hp.mono hle
 obtain ⟨b0, b1, hc0, hc1, rfl⟩ := hr19
 refine MV G G (ST (q0e G G) G (ST (q0e G G) G (q0g [_, _, _] H Tz188 G (q00 G) G ?_)))
 intro b6 w H
 refine q0b [_, _, _] H G G G Ku Ts188 G Kf Kf (q00 G) ?_
 intro w H
 refine AS G G (NL (TN (SQ (SQ (RG (MV G G (ST (q1o G) G (NL (TN (CF G (SK (TN (SQ (SQ (RG (MV G G (q05 H (q0y (validString_spec l Om) (R' := fun r _ => r = .bool true) (fun _ _ h => by rw [hv] at h; exact h)) G (by assumption) (q00 G) G ?_)))))))))))))))))
 intro v26 M w H hle hr26
 replace hp := hp.mono hle
 replace hc0 := hc0.mono hle
 replace hc1 := hc1.mono hle
 obtain rfl := hr26
 refine ST (q1o G) G (NL (TN (CF G (SK (TN (SQ (RG ?_)))))))
 replace H := H.newRow 5 encB
 refine AS G G (NL (TN (SQ (SQ (RG (MV G G (q2g H Tu9 G (q00 G) G ?_)))))))
 intro b30 w H
 refine NL (TN (BL (q1L (fun (q : Nat) (ov : Value) (o : Ls) => [(5, ptr b5 0), (6, ptr b6 0), (8, ov), (30, ptr b30 0)]) (fun (q : Nat) (ov : Value) (o : Ls) w => (q ≤ l.length ∧ o.length ≤ 4 * q) ∧ vld (l.drop q) = true ∧ encGo (encK 2) (chars l) 0 = pre o (encGo (encK 2) (chars (l.drop q)) q) ∧ ∃ M, St w0 M0 M [.blk b30 (.stringIter ⟨l.toArray⟩ q), RowI 5 encB ov o, .blk b6 (.cells #[S [117, 116, 102, 56], .func (.func 194) #[] #[], .func (.func 195) #[] #[]] 188), .blk b5 (.cells #[I 0, I 0] 27)] w) (fun (q : Nat) (ov : Value) (o : Ls) => l.length - q) (0) (_) (_) ⟨rfl, rfl, rfl, rfl, trivial⟩ (⟨by simp, hv, (pre_nil _).symm, M, H⟩) ?_)))
 intro q ov o w
 rintro ⟨hq, hvq, hgo, M, H⟩
 refine SQ (RG ?_)
 by_cases h10_0 : q < l.length
 · have hne := drop_ne (t := l) (n := q) h10_0
   have hrs := rune_size (l.drop q)
   have hrs3 := hrs.2.2 hne
   rw [l01] at hrs3
   rw [vld_cons hne, l0i] at hvq
   have hr0 := of_decide_eq_true hvq.1
   have hvn := hvq.2
   have hrl := rune_lt (l.drop q)
   have hdr : ((dr (l.drop q)).1 : Int) = (rune (l.drop q)).1 := by rw [dr_fix0, fix0_id hr0]
   have hch : chars (l.drop q) = ((rune (l.drop q)).1, (l.drop q).take (rune (l.drop q)).2) :: chars (l.drop (q + (rune (l.drop q)).2)) := by rw [chars_cons hne, l0l]
   have hstep : encK 2 (rune (l.drop q)).1 = some (utf8 (rune (l.drop q)).1) := by rw [encK2]; rfl
   have hbl := encK_len hstep
   refine WR.nextT H h10_0 G Ku (q00 G) G ?_
   intro w H
   refine ST (q0e G G) G (NL (TN (SQ (CT G (SK (TN (BL (SQ (RG (ST (q0e G G) G (q09 (v' := encR (rune (l.drop q)).1) (q0e G G) (congrArg encR hdr) (q00 G) G G (AS G G (AS G G (NL (TN (SQ (RG (ST (q03 Tu188 G Ts186 Dc G) G ?_))))))))))))))))))
   first | refine q01 (q08 H rfl (by assumption) Ta186) (q00 rfl) rfl rfl ?_ | refine q01 (XL H Ta186) (q00 rfl) rfl rfl ?_
   refine MV G G (q1r (cap := []) H (encU_spec (rune (l.drop q)).1 Om Om) G G (trivial) (q00 G) G ?_)
   intro v39 M w H hle hr39
   obtain ⟨v39, rfl, hf39⟩ := hr39
   refine MV G G (ST (q0e G G) G (ST (q0e G G) G (AS G G (AS G G (NL (TN (SQ (SQ (RG (MV G G (ST (q1o G) G (NL (TN (CF G (SK (TN (RG (MV G G (MV G G (q0D ty88 (fun _ => G) H G (fun _ => by repeat first | exact .head | apply Upd.tail) G (by assumption) (by first | omega | (simp only [l00, l02, l03, l04, l01]; omega)) (by first | (simp only [maxLen]; omega) | (simp only [maxLen, l00, l02, l03, l04, l01]; omega)) (q00 G) G ?_))))))))))))))))))))
   intro v48 w H
   refine AS G G (NL (IB ?_))
   refine q0V (q + (dr (l.drop q)).2) (v48) (o ++ (utf8 (rune (l.drop q)).1)) ⟨G, G, G, G, trivial⟩ ?_ ?_
   · refine ⟨by rw [dr_size, l00]; omega, ?_, ?_, M, H⟩
     · rw [dr_size, ← l0l]; exact hvn
     rw [hgo, hch, encGo_step o hstep, dr_size]
     simp only [l04, l01]
     rw [l0P Om]
   rw [dr_size]; omega
 have hres : encGo (encK 2) (chars l) 0 = .ok o := by rw [hgo, l08 Om, chars_nil]; simp [encGo, pre]
 refine WR.nextF H (l1Q h10_0) G Km (q00 G) G ?_
 refine ST (q0e G G) G (NL (TN (SQ (CF G (q0m (q06 (q06 (q0f (TN (SQ (RG (MV G G (q05 H (none_spec) G (trivial) (q00 G) G ?_)))))))))))))
 intro v50 M w H hle hr50
 obtain rfl := hr50
 refine AS G G (q0b [_, _] H G G G Ku Ts27 G Kf Kf (q00 G) ?_)
 intro w H
 refine NL (TN (RT ?_))
 obtain ⟨M, hle, hf, H⟩ := H.freezeRow (v := ov) (enc := encB) (t := 5) Kv
 refine q0H G G ⟨_, G, H.loadAgg Km Ta27 Ts27 Kf⟩ H.ext ?_
 refine  ?_
 rw [hres]
 exact ⟨_, G, hf⟩
theorem encode_3 (name l : Ls) (hn : name.length ≤ maxLen) (hs : l.length ≤ 12000) (hk : setOf name = some 3) (hv : vld l = true) : Ct Tryz.prog 140 [S name, S l] (fun M => Tabs M) (fun r M => match encGo (encK 3) (chars l) 0 with | .ok b => ∃ v, r = .tuple #[v, fault 0 0] ∧ Bs M v b | .error e => r = .tuple #[.slice none 0 0, fault 17 (e : Int)]) := by
 refine Ct.of Tf140 (enters Tf140 Kr G) G G G ?_
 intro w0 M0 H hp
 refine SQ (RG (AS G G (q0g [_, _] H Tz27 G (q00 G) G ?_)))
 intro b5 w H
 refine NL (TN (SQ (SQ (RG (MV G G (ST (q0k Tu9 G) G (q0U (q0K G G) Om (q00 G) G G ?_)))))))
 refine NL (TN (CF rfl (SK (TN (SQ (RG (MV rfl rfl (q05 H (q0y (find_spec name hn) (R' := fun r M => ∃ b0 b1, CellM M ⟨b0, 0, none⟩ (encR 128) ∧ CellM M ⟨b1, 0, none⟩ (encR 256) ∧ r = .tuple #[.agg #[S [117, 116, 102, 49, 54, 98, 101], .func (.func 197) #[] #[], .func (.func 198) #[] #[]], .bool true]) (fun _ _ ⟨b0, b1, h0, h1, h⟩ => ⟨b0, b1, h0, h1, by rw [hk] at h; exact h⟩)) rfl (trivial) (q00 rfl) rfl ?_))))))))
 intro v19 M w H hle hr19
 replace hp := hp.mono hle
 obtain ⟨b0, b1, hc0, hc1, rfl⟩ := hr19
 refine MV G G (ST (q0e G G) G (ST (q0e G G) G (q0g [_, _, _] H Tz188 G (q00 G) G ?_)))
 intro b6 w H
 refine q0b [_, _, _] H G G G Ku Ts188 G Kf Kf (q00 G) ?_
 intro w H
 refine AS G G (NL (TN (SQ (SQ (RG (MV G G (ST (q1o G) G (NL (TN (CF G (SK (TN (SQ (SQ (RG (MV G G (q05 H (q0y (validString_spec l Om) (R' := fun r _ => r = .bool true) (fun _ _ h => by rw [hv] at h; exact h)) G (by assumption) (q00 G) G ?_)))))))))))))))))
 intro v26 M w H hle hr26
 replace hp := hp.mono hle
 replace hc0 := hc0.mono hle
 replace hc1 := hc1.mono hle
 obtain rfl := hr26
 refine ST (q1o G) G (NL (TN (CF G (SK (TN (SQ (RG ?_)))))))
 replace H := H.newRow 5 encB
 refine AS G G (NL (TN (SQ (SQ (RG (MV G G (q2g H Tu9 G (q00 G) G ?_)))))))
 intro b30 w H
 refine NL (TN (BL (q1L (fun (q : Nat) (ov : Value) (o : Ls) => [(5, ptr b5 0), (6, ptr b6 0), (8, ov), (30, ptr b30 0)]) (fun (q : Nat) (ov : Value) (o : Ls) w => (q ≤ l.length ∧ o.length ≤ 4 * q) ∧ vld (l.drop q) = true ∧ encGo (encK 3) (chars l) 0 = pre o (encGo (encK 3) (chars (l.drop q)) q) ∧ ∃ M, St w0 M0 M [.blk b30 (.stringIter ⟨l.toArray⟩ q), RowI 5 encB ov o, .blk b6 (.cells #[S [117, 116, 102, 49, 54, 98, 101], .func (.func 197) #[] #[], .func (.func 198) #[] #[]] 188), .blk b5 (.cells #[I 0, I 0] 27)] w) (fun (q : Nat) (ov : Value) (o : Ls) => l.length - q) (0) (_) (_) ⟨rfl, rfl, rfl, rfl, trivial⟩ (⟨by simp, hv, (pre_nil _).symm, M, H⟩) ?_)))
 intro q ov o w
 rintro ⟨hq, hvq, hgo, M, H⟩
 refine SQ (RG ?_)
 by_cases h10_0 : q < l.length
 · have hne := drop_ne (t := l) (n := q) h10_0
   have hrs := rune_size (l.drop q)
   have hrs3 := hrs.2.2 hne
   rw [l01] at hrs3
   rw [vld_cons hne, l0i] at hvq
   have hr0 := of_decide_eq_true hvq.1
   have hvn := hvq.2
   have hrl := rune_lt (l.drop q)
   have hdr : ((dr (l.drop q)).1 : Int) = (rune (l.drop q)).1 := by rw [dr_fix0, fix0_id hr0]
   have hch : chars (l.drop q) = ((rune (l.drop q)).1, (l.drop q).take (rune (l.drop q)).2) :: chars (l.drop (q + (rune (l.drop q)).2)) := by rw [chars_cons hne, l0l]
   have hstep : encK 3 (rune (l.drop q)).1 = some (encWb (rune (l.drop q)).1) := by rw [encK3]; rfl
   have hbl := encK_len hstep
   refine WR.nextT H h10_0 G Ku (q00 G) G ?_
   intro w H
   refine ST (q0e G G) G (NL (TN (SQ (CT G (SK (TN (BL (SQ (RG (ST (q0e G G) G (q09 (v' := encR (rune (l.drop q)).1) (q0e G G) (congrArg encR hdr) (q00 G) G G (AS G G (AS G G (NL (TN (SQ (RG (ST (q03 Tu188 G Ts186 Dc G) G ?_))))))))))))))))))
   first | refine q01 (q08 H rfl (by assumption) Ta186) (q00 rfl) rfl rfl ?_ | refine q01 (XL H Ta186) (q00 rfl) rfl rfl ?_
   refine MV G G ?_
   refine q1r (cap := []) H ((show Ct Tryz.prog 198 [encR (rune (l.drop q)).1] (fun _ => True) (fun r M => ∃ v, r = .tuple #[v, .bool true] ∧ Bs M v (encWb (rune (l.drop q)).1)) by
    have h := double_spec (rune (l.drop q)).1.toNat Om
    rw [l0u hr0] at h
    exact h)) G G (trivial) (q00 G) G ?_
   intro v39 M w H hle hr39
   obtain ⟨v39, rfl, hf39⟩ := hr39
   refine MV G G (ST (q0e G G) G (ST (q0e G G) G (AS G G (AS G G (NL (TN (SQ (SQ (RG (MV G G (ST (q1o G) G (NL (TN (CF G (SK (TN (RG (MV G G (MV G G (q0D ty88 (fun _ => G) H G (fun _ => by repeat first | exact .head | apply Upd.tail) G (by assumption) (by first | omega | (simp only [l00, l02, l03, l04, l01]; omega)) (by first | (simp only [maxLen]; omega) | (simp only [maxLen, l00, l02, l03, l04, l01]; omega)) (q00 G) G ?_))))))))))))))))))))
   intro v48 w H
   refine AS G G (NL (IB ?_))
   refine q0V (q + (dr (l.drop q)).2) (v48) (o ++ (encWb (rune (l.drop q)).1)) ⟨G, G, G, G, trivial⟩ ?_ ?_
   · refine ⟨by rw [dr_size, l00]; omega, ?_, ?_, M, H⟩
     · rw [dr_size, ← l0l]; exact hvn
     rw [hgo, hch, encGo_step o hstep, dr_size]
     simp only [l04, l01]
     rw [l0P Om]
   rw [dr_size]; omega
 have hres : encGo (encK 3) (chars l) 0 = .ok o := by rw [hgo, l08 Om, chars_nil]; simp [encGo, pre]
 refine WR.nextF H (l1Q h10_0) G Km (q00 G) G ?_
 refine ST (q0e G G) G (NL (TN (SQ (CF G (q0m (q06 (q06 (q0f (TN (SQ (RG (MV G G (q05 H (none_spec) G (trivial) (q00 G) G ?_)))))))))))))
 intro v50 M w H hle hr50
 obtain rfl := hr50
 refine AS G G (q0b [_, _] H G G G Ku Ts27 G Kf Kf (q00 G) ?_)
 intro w H
 refine NL (TN (RT ?_))
 obtain ⟨M, hle, hf, H⟩ := H.freezeRow (v := ov) (enc := encB) (t := 5) Kv
 refine q0H G G ⟨_, G, H.loadAgg Km Ta27 Ts27 Kf⟩ H.ext ?_
 refine  ?_
 rw [hres]
 exact ⟨_, G, hf⟩
end Go.Proofs.YtkmjdamkifbddaaGreatDoor
end
section
namespace Go.Proofs.YtkmjdamkifbddaaGreatDoor
open Go Go.RowKit Go.Ph
open Go.Ph.Gr Go.Ph.Utf Go.Ph.Chs
theorem chars_lt (l : Ls) : ∀ c ∈ chars l, c.1 ≤ 1114111 := by
 have key : ∀ (k : Nat) (l : Ls), l.length ≤ k → ∀ c ∈ chars l, c.1 ≤ 1114111 := by
  intro k
  induction k with
  | zero => intro l h c hc; obtain rfl := l0b (Nat.le_zero.1 h); cases hc
  | succ k ih =>
    intro l h c hc
    by_cases hl : l = []
    · subst hl; cases hc
    obtain ⟨h1, _, h2⟩ := rune_size l
    have h3 := h2 hl
    rw [chars_cons hl] at hc
    rcases List.mem_cons.1 hc with rfl | hc
    · exact (rune_lt l).2
    exact ih _ (by rw [l01]; omega) c hc
 exact key _ l (l0h _)
theorem flat_len (ns : List Int) : (ns.flatMap utf8).length ≤ 4 * ns.length := by
 induction ns with
 | nil => simp
 | cons n ns ih =>
   have := Y2d n
   rw [l0p, l00, l02]; omega
def bestN (l : Ls) : Ls := setN.getD (bestK l) []
theorem best_spec (l : Ls) : Ct Tryz.prog 110 [S l] (fun _ => True) (fun r _ => r = S (bestN l)) := by
 refine Ct.of Tryz.func110 (enters Tryz.func110 Kr G) G G G ?_
 intro w0 M0 H hp
 refine SQ (RG (AS G G (NL (TN (SQ (RG (AS G G (NL (TN (SQ (SQ (RG (MV G G (q2g H Tu9 G (q00 G) G ?_))))))))))))))
 intro b7 w H
 refine NL (TN (BL (q1D (fun (q : Nat) (seen : Bool) => [(3, S (if seen then [108, 97, 116, 105, 110, 49] else [97, 115, 99, 105, 105])), (7, ptr b7 0)]) (fun (q : Nat) (seen : Bool) w => q ≤ l.length ∧ (chars l).any (fun c : Ch => decide (255 < fix0 c.1)) = (chars (l.drop q)).any (fun c : Ch => decide (255 < fix0 c.1)) ∧ (chars l).any (fun c : Ch => decide (127 < fix0 c.1)) = (seen || (chars (l.drop q)).any (fun c : Ch => decide (127 < fix0 c.1))) ∧ ∃ M, St w0 M0 M [.blk b7 (.stringIter ⟨l.toArray⟩ q)] w) (fun (q : Nat) (seen : Bool) => l.length - q) (0) (false) ⟨rfl, rfl, trivial⟩ (⟨by omega, rfl, rfl, M0, H⟩) ?_)))
 intro q seen w
 rintro ⟨hq, h255, h127, M, H⟩
 refine SQ (RG ?_)
 by_cases h3_0 : q < l.length
 · have hne := drop_ne (t := l) (n := q) h3_0
   have hrs := rune_size (l.drop q)
   have hrs3 := hrs.2.2 hne
   rw [l01] at hrs3
   have hch : chars (l.drop q) = ((rune (l.drop q)).1, (l.drop q).take (rune (l.drop q)).2) :: chars (l.drop (q + (rune (l.drop q)).2)) := by rw [chars_cons hne, l0l]
   refine WR.nextT H h3_0 G Ku (q00 G) G ?_
   intro w H
   refine ST (q0e G G) G (NL (TN (SQ (CT G (SK (TN (BL (SQ (RG (q09 (v' := encR (fix0 (rune (l.drop q)).1)) (q0e G G) (congrArg encR (dr_fix0 _)) (q00 G) G G (AS G G (NL (TN (BL (SQ (RG (MV G G ?_)))))))))))))))))
   refine q0a (q0K G G) (q00 G) G G (fun h5_1 => ?_) (fun h5_1 => ?_)
   · have hr : bestK l = 2 := by unfold bestK; rw [h255, hch, l0T, decide_eq_true Om]; rfl
     refine AS G G (NL (TN (CT G (SQ (RG (AS G G (NL (TN (RT ?_)))))))))
     refine q07 G G H.ext ?_
     exact by unfold bestN; rw [hr]; rfl
   refine AS G G (NL (TN (CF G (SQ (RG (MV G G ?_))))))
   refine q0a (q0K G G) (q00 G) G G (fun h7_1 => ?_) (fun h7_1 => ?_)
   · refine AS G G (NL (TN (CT G (RG (AS G G (NL (IB (IB ?_))))))))
     refine q0Q (q + (dr (l.drop q)).2) (true) ⟨G, G, trivial⟩ ?_ ?_
     · refine ⟨by rw [dr_size]; omega, ?_, ?_, M, H⟩
       · rw [h255, hch, dr_size, l0T, decide_eq_false Om, l1A]
       rw [h127, hch, dr_size, l0T, decide_eq_true Om]; simp
     rw [dr_size]; omega
   refine AS G G (NL (TN (CF G (SK (IB (IB ?_))))))
   refine q0Q (q + (dr (l.drop q)).2) (seen) ⟨G, G, trivial⟩ ?_ ?_
   · refine ⟨by rw [dr_size]; omega, ?_, ?_, M, H⟩
     · rw [h255, hch, dr_size, l0T, decide_eq_false Om, l1A]
     rw [h127, hch, dr_size, l0T, decide_eq_false Om]; simp
   rw [dr_size]; omega
 have hr : bestK l = if seen then 1 else 0 := by
  unfold bestK
  rw [h255, h127, l08 Om, chars_nil]
  simp
 refine WR.nextF H (l1Q h3_0) G Km (q00 G) G ?_
 refine ST (q0e G G) G (NL (TN (SQ (CF G (q0m (q06 (q06 (q0f (TN (SQ (RG (MV G G (AS G G (NL (TN (RT ?_))))))))))))))))
 refine q07 G G H.ext ?_
 exact by unfold bestN; rw [hr]; cases seen <;> rfl
theorem rbest_spec (l : Ls) (hs : l.length ≤ 1048576) : Ct Tryz.prog 118 [S l] (fun _ => True) (fun r _ => r = S (bestN l)) := by
 refine Ct.of Tryz.func118 (enters Tryz.func118 Kr G) G G G ?_
 intro w0 M0 H hp
 refine SQ (RG (AS G G (NL (TN (SQ (RG (AS G G (NL (TN (SQ (RG (MV G G (q05 H (runes_spec _ Om) G (trivial) (q00 G) G ?_)))))))))))))
 intro v8 M w H hle hr8
 have hf8 := hr8
 refine AS rfl rfl (NL (TN (SQ (SQ (RG (AS rfl rfl (NL (TN (BL (q1D (fun (k : Nat) (most : Int) => [(3, I most), (4, v8), (5, encN k)]) (fun (k : Nat) (most : Int) w => k ≤ (chars l).length ∧ (0 ≤ most ∧ most ≤ 1114111) ∧ decide (255 < most) = ((chars l).take k).any (fun c : Ch => decide (255 < fix0 c.1)) ∧ decide (127 < most) = ((chars l).take k).any (fun c : Ch => decide (127 < fix0 c.1)) ∧ ∃ M, St w0 M0 M [] w ∧ Sl M encI v8 ((chars l).map (·.1))) (fun (k : Nat) (most : Int) => (chars l).length - k) (0) (0) ⟨rfl, rfl, rfl, trivial⟩ (⟨by omega, by omega, by simp, by simp, M, H, hf8⟩) ?_))))))))))
 intro k most w
 rintro ⟨hk, hmo, h255, h127, M, H, hf8⟩
 have hml : ((chars l).map (·.1)).length = (chars l).length := l0c _
 have hcl := decU_len l
 rw [decU, l0c] at hcl
 refine SQ (SQ (RG (MV G G (MV G G ?_))))
 first | refine q01 (q0A Tu168 (by assumption) rfl) (q00 rfl) rfl rfl ?_ | refine q01 (q0G Tu168 H Km rfl) (q00 rfl) rfl rfl ?_ | refine q01 (q0z Tu168 rfl) (q00 rfl) rfl rfl ?_
 refine q0a (q0n G G) (q00 G) G G (fun h4_3 => ?_) (fun h4_3 => ?_)
 · obtain ⟨c, hc⟩ : ∃ c, (chars l)[k]? = some c := ⟨_, List.getElem?_eq_getElem Om⟩
   obtain ⟨n, hn⟩ : ∃ n, c.1 = n := ⟨_, rfl⟩
   have hx : ((chars l).map (·.1))[k]? = some n := by rw [List.getElem?_map, hc, ← hn]; rfl
   have hsn : (chars l).take (k + 1) = (chars l).take k ++ [c] := by
    have e := List.getElem?_eq_some_iff.1 hc
    rw [l0m e.1, e.2]
   have hnl : n ≤ 1114111 := by rw [← hn]; exact (chars_lt l c (l1k hc))
   refine NL (TN (CT G (SK (TN (SQ (BL (SQ (RG (MV G G (MV G G (q1g Tu168 Ts3 (by assumption) G G (hx) (q00 G) G ?_)))))))))))
   intro p17 hc17
   first | refine q01 (q08 H rfl (by assumption) Ta3) (q00 rfl) rfl rfl ?_ | refine q01 (XL H Ta3) (q00 rfl) rfl rfl ?_
   refine AS G G (NL (TN (SQ (SQ (RG (MV G G ?_))))))
   refine q0a (q0n G G) (q00 G) G G (fun h7_1 => ?_) (fun h7_1 => ?_)
   · have hfx : fix0 c.1 = 65533 := by unfold fix0; rw [hn, if_pos h7_1]
     refine NL (TN (CT G (RG (AS G G (NL (TN (SQ (RG (MV G G (MV G G ?_))))))))))
     refine q0a (q0K G G) (q00 G) G G (fun h9_2 => ?_) (fun h9_2 => ?_)
     · refine NL (TN (CT G (RG (MV G G (AS G G (NL (IB (TN (RG (MV G G (ST (q0d G G Om) G ?_)))))))))))
       refine AS G G (NL ?_)
       refine q0Q (k + 1) (65533) ⟨G, G, G, trivial⟩ ?_ ?_
       · refine ⟨by omega, by omega, ?_, ?_, M, H, hf8⟩
         · rw [hsn, l1w, ← h255]; simp only [l0T, l1R, l1M]; rw [hfx, ← l1E]; exact decide_eq_decide.2 Om
         rw [hsn, l1w, ← h127]; simp only [l0T, l1R, l1M]; rw [hfx, ← l1E]; exact decide_eq_decide.2 Om
       omega
     refine NL (TN (CF G (SK (IB (TN (RG (MV G G (ST (q0d G G Om) G ?_))))))))
     refine AS G G (NL ?_)
     refine q0Q (k + 1) (most) ⟨G, G, G, trivial⟩ ?_ ?_
     · refine ⟨by omega, by omega, ?_, ?_, M, H, hf8⟩
       · rw [hsn, l1w, ← h255]; simp only [l0T, l1R, l1M]; rw [hfx, ← l1E]; exact decide_eq_decide.2 Om
       rw [hsn, l1w, ← h127]; simp only [l0T, l1R, l1M]; rw [hfx, ← l1E]; exact decide_eq_decide.2 Om
     omega
   have hfx : fix0 c.1 = n := by unfold fix0; rw [hn, if_neg h7_1]
   refine NL (TN (CF G (SK (TN (SQ (RG (MV G G (MV G G ?_))))))))
   refine q0a (q0K G G) (q00 G) G G (fun h9_2 => ?_) (fun h9_2 => ?_)
   · refine NL (TN (CT G (RG (MV G G (AS G G (NL (IB (TN (RG (MV G G (ST (q0d G G Om) G ?_)))))))))))
     refine AS G G (NL ?_)
     refine q0Q (k + 1) (n) ⟨G, G, G, trivial⟩ ?_ ?_
     · refine ⟨by omega, by omega, ?_, ?_, M, H, hf8⟩
       · rw [hsn, l1w, ← h255]; simp only [l0T, l1R, l1M]; rw [hfx, ← l1E]; exact decide_eq_decide.2 Om
       rw [hsn, l1w, ← h127]; simp only [l0T, l1R, l1M]; rw [hfx, ← l1E]; exact decide_eq_decide.2 Om
     omega
   refine NL (TN (CF G (SK (IB (TN (RG (MV G G (ST (q0d G G Om) G ?_))))))))
   refine AS G G (NL ?_)
   refine q0Q (k + 1) (most) ⟨G, G, G, trivial⟩ ?_ ?_
   · refine ⟨by omega, by omega, ?_, ?_, M, H, hf8⟩
     · rw [hsn, l1w, ← h255]; simp only [l0T, l1R, l1M]; rw [hfx, ← l1E]; exact decide_eq_decide.2 Om
     rw [hsn, l1w, ← h127]; simp only [l0T, l1R, l1M]; rw [hfx, ← l1E]; exact decide_eq_decide.2 Om
   omega
 rw [l0r Om] at h255 h127
 refine NL (TN (CF G (q0m (q06 (q06 (q0f (TN (SQ (SQ (RG (MV G G ?_)))))))))))
 refine q0a (q0n G G) (q00 G) G G (fun h11_1 => ?_) (fun h11_1 => ?_)
 · refine NL (TN (CT G (SQ (RG (AS G G (NL (TN (RT ?_))))))))
   refine q07 G G H.ext ?_
   exact by unfold bestN bestK; rw [← h255, ← h127, decide_eq_false Om, decide_eq_false Om]; rfl
 refine NL (TN (CF G (SK (TN (SQ (SQ (RG (MV G G ?_))))))))
 refine q0a (q0n G G) (q00 G) G G (fun h13_1 => ?_) (fun h13_1 => ?_)
 · refine NL (TN (CT G (SQ (RG (AS G G (NL (TN (RT ?_))))))))
   refine q07 G G H.ext ?_
   exact by unfold bestN bestK; rw [← h255, ← h127, decide_eq_false Om, decide_eq_true Om]; rfl
 refine NL (TN (CF G (SK (TN (SQ (RG (AS G G (NL (TN (RT ?_))))))))))
 refine q07 G G H.ext ?_
 exact by unfold bestN bestK; rw [← h255, decide_eq_true Om]; rfl
end Go.Proofs.YtkmjdamkifbddaaGreatDoor
end
section
namespace Go.Proofs.YtkmjdamkifbddaaGreatDoor
open Go Go.RowKit Go.Ph
open Go.Ph.Gr Go.Ph.Utf Go.Ph.Chs
theorem encoded_0 (l : Ls) (hs : l.length ≤ 1048576) (hv : vld l = true) : Ct Tryz.prog 151 [I 0, S l] (fun _ => True) (fun r M => match encGo (encK 0) (chars l) 0 with | .ok b => ∃ v, r = .tuple #[v, I (-1)] ∧ Bs M v b | .error e => r = .tuple #[.slice none 0 0, encN e]) := by
 refine Ct.of Tf151 (enters Tf151 Kr G) G G G ?_
 intro w0 M0 H hp
 refine SQ (RG (AS G G (AS G G (NL (TN (SQ (RG (AS G G (NL (TN (SQ (SQ (RG (AS G G (NL (TN (BL ?_)))))))))))))))))
 replace H := H.newRow 5 encB
 refine q1L (fun (q : Nat) (ov : Value) (o : Ls) => [(0, I 0), (1, S l), (6, ov), (7, encN q)]) (fun (q : Nat) (ov : Value) (o : Ls) w => (q ≤ l.length ∧ o.length ≤ 4 * q) ∧ vld (l.drop q) = true ∧ encGo (encK 0) (chars l) 0 = pre o (encGo (encK 0) (chars (l.drop q)) q) ∧ ∃ M, St w0 M0 M [RowI 5 encB ov o] w) (fun (q : Nat) (ov : Value) (o : Ls) => l.length - q) (0) (_) (_) ⟨rfl, rfl, rfl, rfl, trivial⟩ (⟨by simp, hv, (pre_nil _).symm, M0, H⟩) ?_
 intro q ov o w
 rintro ⟨hq, hvq, hgo, M, H⟩
 refine SQ (SQ (RG (MV G G (MV G G (ST (q0k Tu9 G) G ?_)))))
 refine q0a (q0n G G) (q00 G) G G (fun h3_3 => ?_) (fun h3_3 => ?_)
 · have hne := drop_ne (t := l) (n := q) Om
   have hrs := rune_size (l.drop q)
   have hrs3 := hrs.2.2 hne
   rw [l01] at hrs3
   rw [vld_cons hne, l0i] at hvq
   have hr0 := of_decide_eq_true hvq.1
   have hvn := hvq.2
   have hrl := rune_lt (l.drop q)
   have hch : chars (l.drop q) = ((rune (l.drop q)).1, (l.drop q).take (rune (l.drop q)).2) :: chars (l.drop (q + (rune (l.drop q)).2)) := by rw [chars_cons hne, l0l]
   have hhi : hiS (rune (l.drop q)).1 ≤ 57343 := by unfold hiS; omega
   have hlo : loS (rune (l.drop q)).1 ≤ 57343 := by unfold loS; omega
   refine NL (TN (CT G (SK (TN (BL (SQ (RG (MV G G (MV G G (q05 H (rune_spec _ _ Om Om) G (trivial) (q00 G) G ?_))))))))))
   intro v19 M w H hle hr19
   obtain rfl := hr19
   refine MV G G (ST (q0e G G) G (ST (q0e G G) G (AS G G (AS G G (NL (TN (SQ (BL (SQ (RG (MV G G (q1z (q0c G G) G (q00 G) G G (MV G G (SG (q02 G) G G G ?_))))))))))))))
   refine q0a (q0K G G) (q04 G G G) G G (fun h8_4 => ?_) (fun h8_4 => ?_)
   · have hres : encGo (encK 0) (chars l) 0 = .error q := by rw [hgo, hch]; exact encGo_stop o (by rw [encK0, Chs.encS, if_neg Om])
     refine PT G G G (MV G G (GT G G G (GT G G G (GT G G G (GU G G G (GU G G G (GT G G G (PT G G G (AS G G (NL (TN (CT G (SQ (RG (MV G G (AS G G (AS G G (NL (TN (RT ?_))))))))))))))))))))
     refine q0H G G G H.ext ( ?_)
     rw [hres]
   refine PT G G G (MV G G (SG (q02 G) G G G (q0U (q0c G G) Dc (q04 G G G) G G (SG (q02 G) G G G (GF G G G (GF G G G (SG (q0r G G) G G G (PF G G G (AS G G (NL (TN (CF G (SQ (RG (MV G G (q1z (q1G G G) Dc (q00 G) G G (AS G G (NL (TN (CT G (RG (MV G G (MV G G (ST (q0Z Tu3 Tu5 G) G (q0B (enc := encB) ty88 [_] H G Kf (fun _ => G) G G (q00 G) G ?_)))))))))))))))))))))))))
   intro v67 M w H hle hl67
   refine q0D ty88 (fun _ => G) H G (fun _ => by repeat first | exact .head | apply Upd.tail) G (by assumption) (by first | omega | (simp only [l00, l02, l03, l04, l01]; omega)) (by first | (simp only [maxLen]; omega) | (simp only [maxLen, l00, l02, l03, l04, l01]; omega)) (q00 G) G ?_
   intro v68 w H
   refine AS G G (NL (IB (TN (RG (MV G G (MV G G (q09 (v' := encN (q + (rune (l.drop q)).2)) (q0d G G Om) G (q00 G) G G ?_)))))))
   refine AS G G (NL (IB ?_))
   refine q0V (q + (rune (l.drop q)).2) (v68) (o ++ [ub (rune (l.drop q)).1]) ⟨G, G, G, G, trivial⟩ ?_ ?_
   · have hstep : encK 0 (rune (l.drop q)).1 = some [ub (rune (l.drop q)).1] := by rw [encK0, Chs.encS, if_pos Om]
     have hbl := encK_len hstep
     refine ⟨by rw [l00]; omega, ?_, ?_, M, H⟩
     · rw [← l0l]; exact hvn
     rw [hgo, hch, encGo_step o hstep]
     simp only [l04, l01]
     rw [l0P Om]
   omega
 have hres : encGo (encK 0) (chars l) 0 = .ok o := by rw [hgo, l08 Om, chars_nil]; simp [encGo, pre]
 refine NL (TN (CF G (q0m (q06 (q06 (q0f (TN (SQ (RG (MV G G (AS G G (AS G G (NL (TN (RT ?_)))))))))))))))
 obtain ⟨M, hle, hf, H⟩ := H.freezeRow (v := ov) (enc := encB) (t := 5) Kv
 refine q0H G G G H.ext ( ?_)
 rw [hres]
 exact ⟨_, G, hf⟩
theorem encoded_1 (l : Ls) (hs : l.length ≤ 1048576) (hv : vld l = true) : Ct Tryz.prog 151 [I 1, S l] (fun _ => True) (fun r M => match encGo (encK 1) (chars l) 0 with | .ok b => ∃ v, r = .tuple #[v, I (-1)] ∧ Bs M v b | .error e => r = .tuple #[.slice none 0 0, encN e]) := by
 refine Ct.of Tf151 (enters Tf151 Kr G) G G G ?_
 intro w0 M0 H hp
 refine SQ (RG (AS G G (AS G G (NL (TN (SQ (RG (AS G G (NL (TN (SQ (SQ (RG (AS G G (NL (TN (BL ?_)))))))))))))))))
 replace H := H.newRow 5 encB
 refine q1L (fun (q : Nat) (ov : Value) (o : Ls) => [(0, I 1), (1, S l), (6, ov), (7, encN q)]) (fun (q : Nat) (ov : Value) (o : Ls) w => (q ≤ l.length ∧ o.length ≤ 4 * q) ∧ vld (l.drop q) = true ∧ encGo (encK 1) (chars l) 0 = pre o (encGo (encK 1) (chars (l.drop q)) q) ∧ ∃ M, St w0 M0 M [RowI 5 encB ov o] w) (fun (q : Nat) (ov : Value) (o : Ls) => l.length - q) (0) (_) (_) ⟨rfl, rfl, rfl, rfl, trivial⟩ (⟨by simp, hv, (pre_nil _).symm, M0, H⟩) ?_
 intro q ov o w
 rintro ⟨hq, hvq, hgo, M, H⟩
 refine SQ (SQ (RG (MV G G (MV G G (ST (q0k Tu9 G) G ?_)))))
 refine q0a (q0n G G) (q00 G) G G (fun h3_3 => ?_) (fun h3_3 => ?_)
 · have hne := drop_ne (t := l) (n := q) Om
   have hrs := rune_size (l.drop q)
   have hrs3 := hrs.2.2 hne
   rw [l01] at hrs3
   rw [vld_cons hne, l0i] at hvq
   have hr0 := of_decide_eq_true hvq.1
   have hvn := hvq.2
   have hrl := rune_lt (l.drop q)
   have hch : chars (l.drop q) = ((rune (l.drop q)).1, (l.drop q).take (rune (l.drop q)).2) :: chars (l.drop (q + (rune (l.drop q)).2)) := by rw [chars_cons hne, l0l]
   have hhi : hiS (rune (l.drop q)).1 ≤ 57343 := by unfold hiS; omega
   have hlo : loS (rune (l.drop q)).1 ≤ 57343 := by unfold loS; omega
   refine NL (TN (CT G (SK (TN (BL (SQ (RG (MV G G (MV G G (q05 H (rune_spec _ _ Om Om) G (trivial) (q00 G) G ?_))))))))))
   intro v19 M w H hle hr19
   obtain rfl := hr19
   refine MV G G (ST (q0e G G) G (ST (q0e G G) G (AS G G (AS G G (NL (TN (SQ (BL (SQ (RG (MV G G (q0U (q0c G G) Dc (q00 G) G G (MV G G (GF G G G (GF G G G (PF G G G (MV G G (SG (q02 G) G G G (q1z (q0c G G) G (q04 G G G) G G (SG (q02 G) G G G (SG (q02 G) G G G ?_)))))))))))))))))))))
   refine q0a (q0K G G) (q04 G G G) G G (fun h8_11 => ?_) (fun h8_11 => ?_)
   · have hres : encGo (encK 1) (chars l) 0 = .error q := by rw [hgo, hch]; exact encGo_stop o (by rw [encK1, Chs.encS, if_neg Om])
     refine SG (q0q G G) G G G (PF G G G (AS G G (NL (TN (CT G (SQ (RG (MV G G (AS G G (AS G G (NL (TN (RT ?_)))))))))))))
     refine q0H G G G H.ext ( ?_)
     rw [hres]
   refine SG (q0q G G) G G G (PF G G G (AS G G (NL (TN (CF G (SQ (RG (MV G G (q1z (q1G G G) Dc (q00 G) G G (AS G G (NL (TN (CT G (RG (MV G G (MV G G (ST (q0Z Tu3 Tu5 G) G (q0B (enc := encB) ty88 [_] H G Kf (fun _ => G) G G (q00 G) G ?_))))))))))))))))))
   intro v67 M w H hle hl67
   refine q0D ty88 (fun _ => G) H G (fun _ => by repeat first | exact .head | apply Upd.tail) G (by assumption) (by first | omega | (simp only [l00, l02, l03, l04, l01]; omega)) (by first | (simp only [maxLen]; omega) | (simp only [maxLen, l00, l02, l03, l04, l01]; omega)) (q00 G) G ?_
   intro v68 w H
   refine AS G G (NL (IB (TN (RG (MV G G (MV G G (q09 (v' := encN (q + (rune (l.drop q)).2)) (q0d G G Om) G (q00 G) G G ?_)))))))
   refine AS G G (NL (IB ?_))
   refine q0V (q + (rune (l.drop q)).2) (v68) (o ++ [ub (rune (l.drop q)).1]) ⟨G, G, G, G, trivial⟩ ?_ ?_
   · have hstep : encK 1 (rune (l.drop q)).1 = some [ub (rune (l.drop q)).1] := by rw [encK1, Chs.encS, if_pos Om]
     have hbl := encK_len hstep
     refine ⟨by rw [l00]; omega, ?_, ?_, M, H⟩
     · rw [← l0l]; exact hvn
     rw [hgo, hch, encGo_step o hstep]
     simp only [l04, l01]
     rw [l0P Om]
   omega
 have hres : encGo (encK 1) (chars l) 0 = .ok o := by rw [hgo, l08 Om, chars_nil]; simp [encGo, pre]
 refine NL (TN (CF G (q0m (q06 (q06 (q0f (TN (SQ (RG (MV G G (AS G G (AS G G (NL (TN (RT ?_)))))))))))))))
 obtain ⟨M, hle, hf, H⟩ := H.freezeRow (v := ov) (enc := encB) (t := 5) Kv
 refine q0H G G G H.ext ( ?_)
 rw [hres]
 exact ⟨_, G, hf⟩
theorem encoded_2 (l : Ls) (hs : l.length ≤ 1048576) (hv : vld l = true) : Ct Tryz.prog 151 [I 2, S l] (fun _ => True) (fun r M => match encGo (encK 2) (chars l) 0 with | .ok b => ∃ v, r = .tuple #[v, I (-1)] ∧ Bs M v b | .error e => r = .tuple #[.slice none 0 0, encN e]) := by
 refine Ct.of Tf151 (enters Tf151 Kr G) G G G ?_
 intro w0 M0 H hp
 refine SQ (RG (AS G G (AS G G (NL (TN (SQ (RG (AS G G (NL (TN (SQ (SQ (RG (AS G G (NL (TN (BL ?_)))))))))))))))))
 replace H := H.newRow 5 encB
 refine q1L (fun (q : Nat) (ov : Value) (o : Ls) => [(0, I 2), (1, S l), (6, ov), (7, encN q)]) (fun (q : Nat) (ov : Value) (o : Ls) w => (q ≤ l.length ∧ o.length ≤ 4 * q) ∧ vld (l.drop q) = true ∧ encGo (encK 2) (chars l) 0 = pre o (encGo (encK 2) (chars (l.drop q)) q) ∧ ∃ M, St w0 M0 M [RowI 5 encB ov o] w) (fun (q : Nat) (ov : Value) (o : Ls) => l.length - q) (0) (_) (_) ⟨rfl, rfl, rfl, rfl, trivial⟩ (⟨by simp, hv, (pre_nil _).symm, M0, H⟩) ?_
 intro q ov o w
 rintro ⟨hq, hvq, hgo, M, H⟩
 refine SQ (SQ (RG (MV G G (MV G G (ST (q0k Tu9 G) G ?_)))))
 refine q0a (q0n G G) (q00 G) G G (fun h3_3 => ?_) (fun h3_3 => ?_)
 · have hne := drop_ne (t := l) (n := q) Om
   have hrs := rune_size (l.drop q)
   have hrs3 := hrs.2.2 hne
   rw [l01] at hrs3
   rw [vld_cons hne, l0i] at hvq
   have hr0 := of_decide_eq_true hvq.1
   have hvn := hvq.2
   have hrl := rune_lt (l.drop q)
   have hch : chars (l.drop q) = ((rune (l.drop q)).1, (l.drop q).take (rune (l.drop q)).2) :: chars (l.drop (q + (rune (l.drop q)).2)) := by rw [chars_cons hne, l0l]
   have hhi : hiS (rune (l.drop q)).1 ≤ 57343 := by unfold hiS; omega
   have hlo : loS (rune (l.drop q)).1 ≤ 57343 := by unfold loS; omega
   refine NL (TN (CT G (SK (TN (BL (SQ (RG (MV G G (MV G G (q05 H (rune_spec _ _ Om Om) G (trivial) (q00 G) G ?_))))))))))
   intro v19 M w H hle hr19
   obtain rfl := hr19
   refine MV G G (ST (q0e G G) G (ST (q0e G G) G (AS G G (AS G G (NL (TN (SQ (BL (SQ (RG (MV G G (q0U (q0c G G) Dc (q00 G) G G (MV G G (GF G G G (GF G G G (PF G G G (MV G G (SG (q02 G) G G G (q0U (q0c G G) Dc (q04 G G G) G G (SG (q02 G) G G G (GF G G G (GF G G G (SG (q0r G G) G G G (PF G G G (AS G G (NL (TN (CF G (SQ (RG (MV G G (q0U (q1G G G) Dc (q00 G) G G (AS G G (NL (TN (CF G (SQ (RG (MV G G (q1z (q0c G G) G (q00 G) G G (AS G G (NL (TN (CT G (RG (MV G G (MV G G (MV G G (MV G G (MV G G (q09 (v' := encN (q + (rune (l.drop q)).2)) (q0d G G Om) G (q00 G) G G ?_)))))))))))))))))))))))))))))))))))))))))))))))))))
   refine q09 (v' := S ((l.drop q).take (rune (l.drop q)).2)) (q1d (i := q) (j := q + (rune (l.drop q)).2) Tu9 G (.inl ⟨_, G, G⟩) (.inl ⟨_, G, G⟩) Om Om) (by rw [l0Z, l2g]) (q00 G) G G ?_
   refine WR.appendStr ty88 Tu9 H G (fun _ => by repeat first | exact .head | apply Upd.tail) G (by first | omega | (simp only [l00, l02, l03, l04, l01]; omega)) (q00 G) G ?_
   intro v79 w H
   refine AS G G (NL (IB (TN (RG (MV G G (MV G G (q09 (v' := encN (q + (rune (l.drop q)).2)) (q0d G G Om) G (q00 G) G G ?_)))))))
   refine AS G G (NL (IB ?_))
   refine q0V (q + (rune (l.drop q)).2) (v79) (o ++ ((l.drop q).take (rune (l.drop q)).2)) ⟨G, G, G, G, trivial⟩ ?_ ?_
   · have hstep : encK 2 (rune (l.drop q)).1 = some ((l.drop q).take (rune (l.drop q)).2) := by rw [encK2, encU, Y4h _ hne hr0]
     have hbl := encK_len hstep
     refine ⟨by rw [l00]; omega, ?_, ?_, M, H⟩
     · rw [← l0l]; exact hvn
     rw [hgo, hch, encGo_step o hstep]
     simp only [l04, l01]
     rw [l0P Om]
   omega
 have hres : encGo (encK 2) (chars l) 0 = .ok o := by rw [hgo, l08 Om, chars_nil]; simp [encGo, pre]
 refine NL (TN (CF G (q0m (q06 (q06 (q0f (TN (SQ (RG (MV G G (AS G G (AS G G (NL (TN (RT ?_)))))))))))))))
 obtain ⟨M, hle, hf, H⟩ := H.freezeRow (v := ov) (enc := encB) (t := 5) Kv
 refine q0H G G G H.ext ( ?_)
 rw [hres]
 exact ⟨_, G, hf⟩
theorem encoded_3 (l : Ls) (hs : l.length ≤ 1048576) (hv : vld l = true) : Ct Tryz.prog 151 [I 3, S l] (fun _ => True) (fun r M => match encGo (encK 3) (chars l) 0 with | .ok b => ∃ v, r = .tuple #[v, I (-1)] ∧ Bs M v b | .error e => r = .tuple #[.slice none 0 0, encN e]) := by
 refine Ct.of Tf151 (enters Tf151 Kr G) G G G ?_
 intro w0 M0 H hp
 refine SQ (RG (AS G G (AS G G (NL (TN (SQ (RG (AS G G (NL (TN (SQ (SQ (RG (AS G G (NL (TN (BL ?_)))))))))))))))))
 replace H := H.newRow 5 encB
 refine q1L (fun (q : Nat) (ov : Value) (o : Ls) => [(0, I 3), (1, S l), (6, ov), (7, encN q)]) (fun (q : Nat) (ov : Value) (o : Ls) w => (q ≤ l.length ∧ o.length ≤ 4 * q) ∧ vld (l.drop q) = true ∧ encGo (encK 3) (chars l) 0 = pre o (encGo (encK 3) (chars (l.drop q)) q) ∧ ∃ M, St w0 M0 M [RowI 5 encB ov o] w) (fun (q : Nat) (ov : Value) (o : Ls) => l.length - q) (0) (_) (_) ⟨rfl, rfl, rfl, rfl, trivial⟩ (⟨by simp, hv, (pre_nil _).symm, M0, H⟩) ?_
 intro q ov o w
 rintro ⟨hq, hvq, hgo, M, H⟩
 refine SQ (SQ (RG (MV G G (MV G G (ST (q0k Tu9 G) G ?_)))))
 refine q0a (q0n G G) (q00 G) G G (fun h3_3 => ?_) (fun h3_3 => ?_)
 · have hne := drop_ne (t := l) (n := q) Om
   have hrs := rune_size (l.drop q)
   have hrs3 := hrs.2.2 hne
   rw [l01] at hrs3
   rw [vld_cons hne, l0i] at hvq
   have hr0 := of_decide_eq_true hvq.1
   have hvn := hvq.2
   have hrl := rune_lt (l.drop q)
   have hch : chars (l.drop q) = ((rune (l.drop q)).1, (l.drop q).take (rune (l.drop q)).2) :: chars (l.drop (q + (rune (l.drop q)).2)) := by rw [chars_cons hne, l0l]
   have hhi : hiS (rune (l.drop q)).1 ≤ 57343 := by unfold hiS; omega
   have hlo : loS (rune (l.drop q)).1 ≤ 57343 := by unfold loS; omega
   refine NL (TN (CT G (SK (TN (BL (SQ (RG (MV G G (MV G G (q05 H (rune_spec _ _ Om Om) G (trivial) (q00 G) G ?_))))))))))
   intro v19 M w H hle hr19
   obtain rfl := hr19
   refine MV G G (ST (q0e G G) G (ST (q0e G G) G (AS G G (AS G G (NL (TN (SQ (BL (SQ (RG (MV G G (q0U (q0c G G) Dc (q00 G) G G (MV G G (GF G G G (GF G G G (PF G G G (MV G G (SG (q02 G) G G G (q0U (q0c G G) Dc (q04 G G G) G G (SG (q02 G) G G G (GF G G G (GF G G G (SG (q0r G G) G G G (PF G G G (AS G G (NL (TN (CF G (SQ (RG (MV G G (q0U (q1G G G) Dc (q00 G) G G (AS G G (NL (TN (CF G (SQ (RG (MV G G (q0U (q0c G G) Dc (q00 G) G G (AS G G (NL (TN (CF G (SQ (RG (MV G G ?_)))))))))))))))))))))))))))))))))))))))))))))))
   refine q0a (q0n G G) (q00 G) G G (fun h14_1 => ?_) (fun h14_1 => ?_)
   · refine AS G G (NL (TN (CT G (RG (MV G G (MV G G (ST (q2b G G (by first | omega | exact ⟨l0g _, by decide⟩)) G ?_)))))))
     refine ST (q0Z Tu3 Tu5 G) G (MV G G (ST (q1y G G (by first | omega | exact ⟨l0g _, by decide⟩)) G ?_))
     refine ST (q0Z Tu3 Tu5 G) G (q0B (enc := encB) ty88 [_, _] H G Kf (fun _ => G) G G (q00 G) G ?_)
     intro v90 M w H hle hl90
     refine q0D ty88 (fun _ => G) H G (fun _ => by repeat first | exact .head | apply Upd.tail) G (by assumption) (by first | omega | (simp only [l00, l02, l03, l04, l01]; omega)) (by first | (simp only [maxLen]; omega) | (simp only [maxLen, l00, l02, l03, l04, l01]; omega)) (q00 G) G ?_
     intro v91 w H
     refine AS G G (NL (IB (TN (RG (MV G G (MV G G (q09 (v' := encN (q + (rune (l.drop q)).2)) (q0d G G Om) G (q00 G) G G ?_)))))))
     refine AS G G (NL (IB ?_))
     refine q0V (q + (rune (l.drop q)).2) (v91) (o ++ [ub ((rune (l.drop q)).1 / 256), ub ((rune (l.drop q)).1 % 256)]) ⟨G, G, G, G, trivial⟩ ?_ ?_
     · have hstep : encK 3 (rune (l.drop q)).1 = some [ub ((rune (l.drop q)).1 / 256), ub ((rune (l.drop q)).1 % 256)] := by rw [encK3, encW, if_pos Om]
       have hbl := encK_len hstep
       refine ⟨by rw [l00]; omega, ?_, ?_, M, H⟩
       · rw [← l0l]; exact hvn
       rw [hgo, hch, encGo_step o hstep]
       simp only [l04, l01]
       rw [l0P Om]
     omega
   have hhi0 : 55296 ≤ hiS (rune (l.drop q)).1 := by unfold hiS; omega
   have hlo0 : 56320 ≤ loS (rune (l.drop q)).1 := by unfold loS; omega
   refine AS G G (NL (TN (CF G (SQ (RG (MV G G (ST (q1h G G Om) G ?_)))))))
   refine ST (q2b G G (by first | omega | exact ⟨l0g _, by decide⟩)) G ?_
   refine q09 (v' := I (hiS (rune (l.drop q)).1)) (q0d G G Om) (congrArg I (by unfold hiS; rfl)) (q00 G) G G ?_
   refine AS G G (NL (TN (SQ (RG (MV G G (ST (q1h G G Om) G ?_))))))
   refine ST (q1y G G (by first | omega | exact ⟨l0g _, by decide⟩)) G ?_
   refine q09 (v' := I (loS (rune (l.drop q)).1)) (q0d G G Om) (congrArg I (by unfold loS; rfl)) (q00 G) G G ?_
   refine AS G G (NL (TN (RG (MV G G (MV G G (ST (q2b G G (by first | omega | exact ⟨l0g _, by decide⟩)) G ?_))))))
   refine ST (q0Z Tu3 Tu5 G) G (MV G G (ST (q1y G G (by first | omega | exact ⟨l0g _, by decide⟩)) G ?_))
   refine ST (q0Z Tu3 Tu5 G) G (MV G G (ST (q2b G G (by first | omega | exact ⟨l0g _, by decide⟩)) G ?_))
   refine ST (q0Z Tu3 Tu5 G) G (MV G G (ST (q1y G G (by first | omega | exact ⟨l0g _, by decide⟩)) G ?_))
   refine ST (q0Z Tu3 Tu5 G) G (q0B (enc := encB) ty88 [_, _, _, _] H G Kf (fun _ => G) G G (q00 G) G ?_)
   intro v43 M w H hle hl43
   refine q0D ty88 (fun _ => G) H G (fun _ => by repeat first | exact .head | apply Upd.tail) G (by assumption) (by first | omega | (simp only [l00, l02, l03, l04, l01]; omega)) (by first | (simp only [maxLen]; omega) | (simp only [maxLen, l00, l02, l03, l04, l01]; omega)) (q00 G) G ?_
   intro v44 w H
   refine AS G G (NL (IB (TN (RG (MV G G (MV G G (q09 (v' := encN (q + (rune (l.drop q)).2)) (q0d G G Om) G (q00 G) G G ?_)))))))
   refine AS G G (NL (IB ?_))
   refine q0V (q + (rune (l.drop q)).2) (v44) (o ++ [ub (hiS (rune (l.drop q)).1 / 256), ub (hiS (rune (l.drop q)).1 % 256), ub (loS (rune (l.drop q)).1 / 256), ub (loS (rune (l.drop q)).1 % 256)]) ⟨G, G, G, G, trivial⟩ ?_ ?_
   · have hstep : encK 3 (rune (l.drop q)).1 = some [ub (hiS (rune (l.drop q)).1 / 256), ub (hiS (rune (l.drop q)).1 % 256), ub (loS (rune (l.drop q)).1 / 256), ub (loS (rune (l.drop q)).1 % 256)] := by rw [encK3, encW, if_neg Om]
     have hbl := encK_len hstep
     refine ⟨by rw [l00]; omega, ?_, ?_, M, H⟩
     · rw [← l0l]; exact hvn
     rw [hgo, hch, encGo_step o hstep]
     simp only [l04, l01]
     rw [l0P Om]
   omega
 have hres : encGo (encK 3) (chars l) 0 = .ok o := by rw [hgo, l08 Om, chars_nil]; simp [encGo, pre]
 refine NL (TN (CF G (q0m (q06 (q06 (q0f (TN (SQ (RG (MV G G (AS G G (AS G G (NL (TN (RT ?_)))))))))))))))
 obtain ⟨M, hle, hf, H⟩ := H.freezeRow (v := ov) (enc := encB) (t := 5) Kv
 refine q0H G G G H.ext ( ?_)
 rw [hres]
 exact ⟨_, G, hf⟩
abbrev encPost (k : Nat) (l : Ls) (r : Value) (M : Mem) : Prop := match encGo (encK k) (chars l) 0 with | .ok b => ∃ v, r = .tuple #[v, I (-1)] ∧ Bs M v b | .error e => r = .tuple #[.slice none 0 0, encN e]
theorem encoded_ok {l b : Ls} {k : Nat} (hk : k < 4) (hs : l.length ≤ 1048576) (hv : vld l = true) (h : encGo (encK k) (chars l) 0 = .ok b) : Ct Tryz.prog 151 [I (k : Int), S l] (fun _ => True) (fun r M => ∃ v, r = .tuple #[v, I (-1)] ∧ Bs M v b) := by
 have key : Ct Tryz.prog 151 [I (k : Int), S l] (fun _ => True) (fun r M => encPost k l r M) := by
  rcases k with _ | _ | _ | _ | k
  · exact encoded_0 l hs hv
  · exact encoded_1 l hs hv
  · exact encoded_2 l hs hv
  · exact encoded_3 l hs hv
  omega
 exact q0y key fun r M hr => by unfold encPost at hr; rw [h] at hr; exact hr
theorem encoded_err {l : Ls} {k e : Nat} (hk : k < 4) (hs : l.length ≤ 1048576) (hv : vld l = true) (h : encGo (encK k) (chars l) 0 = .error e) : Ct Tryz.prog 151 [I (k : Int), S l] (fun _ => True) (fun r M => r = .tuple #[.slice none 0 0, encN e]) := by
 have key : Ct Tryz.prog 151 [I (k : Int), S l] (fun _ => True) (fun r M => encPost k l r M) := by
  rcases k with _ | _ | _ | _ | k
  · exact encoded_0 l hs hv
  · exact encoded_1 l hs hv
  · exact encoded_2 l hs hv
  · exact encoded_3 l hs hv
  omega
 exact q0y key fun r M hr => by unfold encPost at hr; rw [h] at hr; exact hr
abbrev encPostP (k : Nat) (l : Ls) (r : Value) (M : Mem) : Prop := match encGo (encK k) (chars l) 0 with | .ok b => ∃ v, r = .tuple #[v, fault 0 0] ∧ Bs M v b | .error e => r = .tuple #[.slice none 0 0, fault 17 (e : Int)]
theorem encode_k (name l : Ls) (hn : name.length ≤ maxLen) (hs : l.length ≤ 12000) (k : Nat) (hk : setOf name = some k) (hv : vld l = true) : Ct Tryz.prog 140 [S name, S l] (fun M => Tabs M) (fun r M => encPostP k l r M) := by
 have h4 := setOf_lt hk
 rcases k with _ | _ | _ | _ | k
 · exact encode_0 name l hn hs hk hv
 · exact encode_1 name l hn hs hk hv
 · exact encode_2 name l hn hs hk hv
 · exact encode_3 name l hn hs hk hv
 omega
theorem encode_ok {name l b : Ls} (hn : name.length ≤ maxLen) (hs : l.length ≤ 12000) {k : Nat} (hk : setOf name = some k) (hv : vld l = true) (h : encGo (encK k) (chars l) 0 = .ok b) : Ct Tryz.prog 140 [S name, S l] (fun M => Tabs M) (fun r M => ∃ v, r = .tuple #[v, fault 0 0] ∧ Bs M v b) :=
 q0y (encode_k name l hn hs k hk hv) fun r M hr => by unfold encPostP at hr; rw [h] at hr; exact hr
theorem encode_err {name l : Ls} {e : Nat} (hn : name.length ≤ maxLen) (hs : l.length ≤ 12000) {k : Nat} (hk : setOf name = some k) (hv : vld l = true) (h : encGo (encK k) (chars l) 0 = .error e) : Ct Tryz.prog 140 [S name, S l] (fun M => Tabs M) (fun r M => r = .tuple #[.slice none 0 0, fault 17 (e : Int)]) :=
 q0y (encode_k name l hn hs k hk hv) fun r M hr => by unfold encPostP at hr; rw [h] at hr; exact hr
theorem encode_mal (name l : Ls) (hn : name.length ≤ maxLen) (hs : l.length ≤ 12000) (k : Nat) (hk : setOf name = some k) (hv : vld l = false) : Ct Tryz.prog 140 [S name, S l] (fun M => Tabs M) (fun r _ => r = .tuple #[.slice none 0 0, fault 5 (-3)]) := by
 have h4 := setOf_lt hk
 rcases k with _ | _ | _ | _ | k
 · exact encode_mal0 name l hn hs hk hv
 · exact encode_mal1 name l hn hs hk hv
 · exact encode_mal2 name l hn hs hk hv
 · exact encode_mal3 name l hn hs hk hv
 omega
end Go.Proofs.YtkmjdamkifbddaaGreatDoor
end
section
namespace Go.Ph.B64
def alpha : Ls := [65, 66, 67, 68, 69, 70, 71, 72, 73, 74, 75, 76, 77, 78, 79, 80, 81, 82, 83, 84, 85, 86, 87, 88, 89, 90, 97, 98, 99, 100, 101, 102, 103, 104, 105, 106, 107, 108, 109, 110, 111, 112, 113, 114, 115, 116, 117, 118, 119, 120, 121, 122, 48, 49, 50, 51, 52, 53, 54, 55, 56, 57, 43, 47]
theorem alpha_len : alpha.length = 64 := rfl
def idx (c : UInt8) : Nat := alpha.idxOf c
def val64 (c : UInt8) : Int := if idx c < 64 then (idx c : Int) else -1
def bits8 (u : Nat) : List Nat := [u / 128 % 2, u / 64 % 2, u / 32 % 2, u / 16 % 2, u / 8 % 2, u / 4 % 2, u / 2 % 2, u / 1 % 2]
def bitsOf (l : Ls) : List Nat := l.flatMap fun u => bits8 u.toNat
def sumN (l : List Nat) : Nat := l.foldl (fun n x => 2 * n + x) 0
theorem bits8_len (u : Nat) : (bits8 u).length = 8 := rfl
theorem bits8_at (u j : Nat) (hj : j < 8) : (bits8 u)[j]'(by rw [bits8_len]; exact hj) = u / 2 ^ (7 - j) % 2 := by
 match j, hj with
 | 0, _ => rfl
 | 1, _ => rfl
 | 2, _ => rfl
 | 3, _ => rfl
 | 4, _ => rfl
 | 5, _ => rfl
 | 6, _ => rfl
 | 7, _ => rfl
theorem bitsOf_len (l : Ls) : (bitsOf l).length = 8 * l.length := by
 induction l with
 | nil => rfl
 | cons u l ih => simp only [bitsOf, l0p, l00, bits8_len, l02] at ih ⊢; omega
theorem bitsOf_take (l : Ls) (k : Nat) (hk : k < l.length) : bitsOf (l.take (k + 1)) = bitsOf (l.take k) ++ bits8 (l[k]).toNat := by
 rw [l0m hk]
 unfold bitsOf
 rw [l0O]
 simp only [l0p, l1F, l0j]
theorem sumN_snoc (l : List Nat) (x : Nat) : sumN (l ++ [x]) = 2 * sumN l + x := by simp [sumN]
theorem sumN_acc (l : List Nat) (h : ∀ x ∈ l, x ≤ 1) : ∀ a, l.foldl (fun n x => 2 * n + x) a < (a + 1) * 2 ^ l.length := by
 induction l with
 | nil => intro a; simp
 | cons x l ih =>
   intro a
   have h1 := ih (fun y hy => h y (by simp [hy])) (2 * a + x)
   have h2 := h x Sm
   rw [l0J, l02, Nat.pow_succ]
   refine l1g h1 ?_
   rw [l1I (2 ^ l.length) 2, ← Nat.mul_assoc]
   exact l0D _ Om
theorem sumN_lt (l : List Nat) (h : ∀ x ∈ l, x ≤ 1) : sumN l < 2 ^ l.length := by
 have := sumN_acc l h 0
 simpa [sumN] using this
theorem bitsOf_next {l : Ls} {k : Nat} {u : UInt8} (hu : l[k]? = some u) : bitsOf (l.take (k + 1)) = bitsOf (l.take k) ++ bits8 u.toNat := by
 obtain ⟨hk, rfl⟩ := List.getElem?_eq_some_iff.1 hu
 exact bitsOf_take l k hk
theorem bits8_next (u j : Nat) (hj : j < 8) : (bits8 u).take (j + 1) = (bits8 u).take j ++ [u / 2 ^ (7 - j) % 2] := by
 rw [l0m (by rw [bits8_len]; exact hj), bits8_at u j hj]
def padBits (l : Ls) : List Nat := bitsOf l ++ List.replicate ((6 - 8 * l.length % 6) % 6) 0
theorem padBits_len (l : Ls) : (padBits l).length = 8 * l.length + (6 - 8 * l.length % 6) % 6 := by simp [padBits, bitsOf_len]
theorem bits8_le (u : Nat) : ∀ x ∈ bits8 u, x ≤ 1 := by
 intro x hx
 simp only [bits8, l1a, l0U, or_false] at hx
 omega
theorem bitsOf_le (l : Ls) : ∀ x ∈ bitsOf l, x ≤ 1 := by
 intro x hx
 obtain ⟨u, _, h⟩ := List.mem_flatMap.1 hx
 exact bits8_le _ x h
theorem padBits_le (l : Ls) : ∀ x ∈ padBits l, x ≤ 1 := by
 intro x hx
 rcases List.mem_append.1 hx with h | h
 · exact bitsOf_le l x h
 rw [(List.mem_replicate.1 h).2]; omega
theorem part_le {l : List Nat} (h : ∀ x ∈ l, x ≤ 1) (i j : Nat) : ∀ x ∈ (l.take j).drop i, x ≤ 1 := fun x hx => h x (l1v (l2q hx))
def six (bits : List Nat) (q : Nat) : Nat := sumN ((bits.take (6 * q + 6)).drop (6 * q))
theorem six_lt {bits : List Nat} (h : ∀ x ∈ bits, x ≤ 1) (q : Nat) : six bits q < 64 := by
 have h1 := sumN_lt _ (part_le h (6 * q) (6 * q + 6))
 have h2 : 2 ^ ((bits.take (6 * q + 6)).drop (6 * q)).length ≤ 2 ^ 6 := l1d Dc (by simp only [l01, l04]; omega)
 unfold six
 omega
def sext (bits : List Nat) : Nat → Ls
 | 0 => []
 | q + 1 => sext bits q ++ (alpha.take (six bits q + 1)).drop (six bits q)
theorem alpha_one (k : Nat) (h : k < 64) : (alpha.take (k + 1)).drop k = [alpha.getD k 0] := by
 have hk : k < alpha.length := by rw [alpha_len]; exact h
 rw [l0m hk, l0M (by rw [l04, alpha_len]; omega), l08 (by rw [l04]; omega)]
 simp [List.getD, hk]
theorem sext_len {bits : List Nat} (h : ∀ x ∈ bits, x ≤ 1) (q : Nat) : (sext bits q).length = q := by
 induction q with
 | zero => rfl
 | succ q ih => rw [sext, l00, ih, alpha_one _ (six_lt h q)]; rfl
def chars64 (l : Ls) : Ls :=
 let s := sext (padBits l) ((padBits l).length / 6)
 s ++ List.replicate ((4 - s.length % 4) % 4) 61
def wrapTo (cs : Ls) : Nat → Ls
 | 0 => []
 | m + 1 => wrapTo cs m ++ (cs.drop (76 * m)).take 76 ++ [13, 10]
def lines64 (cs : Ls) : Ls := wrapTo cs ((cs.length - 1) / 76) ++ (if cs.drop (76 * ((cs.length - 1) / 76)) = [] then [] else cs.drop (76 * ((cs.length - 1) / 76)) ++ [13, 10])
def upto61 (l : Ls) : Ls := l.takeWhile (· != 61)
def lstep (s : Ls × Nat × Nat) (c : UInt8) : Ls × Nat × Nat :=
 if val64 c < 0 then s
 else if s.2.2 + 6 < 8 then (s.1, s.2.1 * 64 + idx c, s.2.2 + 6)
 else (s.1 ++ [UInt8.ofNat ((s.2.1 * 64 + idx c) / 2 ^ (s.2.2 + 6 - 8))], (s.2.1 * 64 + idx c) % 2 ^ (s.2.2 + 6 - 8), s.2.2 + 6 - 8)
def lrun (l : Ls) : Ls × Nat × Nat := l.foldl lstep ([], 0, 0)
def lenient (l : Ls) : Ls := (lrun (upto61 l)).1
theorem getD_out {α : Type} (l : List α) (i : Nat) (d : α) (h : l.length ≤ i) : l.getD i d = d := by
 rw [l0w, List.getElem?_eq_none h]; rfl
theorem getD_in {α : Type} (l : List α) (i : Nat) (d : α) (h : i < l.length) : l.getD i d = l[i] := by
 rw [l0w, List.getElem?_eq_getElem h]; rfl
def accN (l : Ls) : Nat → Nat
 | 0 => 0
 | i + 1 => accN l i * 256 + (l.getD i 0).toNat
theorem accN_out (l : Ls) (i : Nat) (h : l.length ≤ i) : accN l i * 256 = accN l (i + 1) := by
 rw [accN, getD_out _ _ _ h]; simp
theorem accN_lt (l : Ls) (i : Nat) : accN l i < 256 ^ i := by
 induction i with
 | zero => simp [accN]
 | succ i ih =>
   have := (l.getD i 0).toNat_lt
   rw [accN, Nat.pow_succ]
   omega
def ch (l : Ls) (i : Nat) : UInt8 := if min 3 l.length < i then 61 else alpha.getD (accN l 3 / 2 ^ (18 - 6 * i) % 64) 0
def outp (l : Ls) (j : Nat) : Ls := (List.range 4).map fun i => if i < j then ch l i else 0
theorem outp_set (l : Ls) (j : Nat) (hj : j < 4) : (outp l j).set j (ch l j) = outp l (j + 1) := by
 match j, hj with
 | 0, _ => rfl
 | 1, _ => rfl
 | 2, _ => rfl
 | 3, _ => rfl
def grpAt (l : Ls) (k : Nat) : Ls := outp (l.drop (3 * k)) 4
def grpsTo (l : Ls) (k : Nat) : List Ls := (List.range k).map (grpAt l)
def grps (l : Ls) : List Ls := grpsTo l ((l.length + 2) / 3)
theorem grpsTo_next (l : Ls) (k : Nat) : grpsTo l (k + 1) = grpsTo l k ++ [grpAt l k] := by
 simp [grpsTo, l2a]
theorem grpsTo_ini (l : Ls) (k : Nat) (h : 3 * k < l.length) : (grpsTo l k ++ [grpAt l k]) <+: grps l := by
 rw [← grpsTo_next]
 refine ⟨((List.range' (k + 1) ((l.length + 2) / 3 - (k + 1))).map (grpAt l)), ?_⟩
 unfold grps grpsTo
 rw [← l1i]
 have h1 : List.range (k + 1) ++ List.range' (k + 1) ((l.length + 2) / 3 - (k + 1)) = List.range ((l.length + 2) / 3) := by
  have h2 := List.range'_append_1 (s := 0) (m := k + 1) (n := (l.length + 2) / 3 - (k + 1))
  rw [l0v] at h2
  rw [l2p, l2p, h2]
  congr 1
  omega
 rw [h1]
theorem drop_next (l : Ls) (k n : Nat) (hn : n = min 3 (l.drop (3 * k)).length) : (l.drop (3 * k)).drop n = l.drop (3 * (k + 1)) := by
 rw [l0l]
 simp only [l01] at hn
 by_cases h : 3 ≤ l.length - 3 * k
 · rw [show 3 * k + n = 3 * (k + 1) by omega]
 rw [l08 Om, l08 Om]
theorem or_eight (x : Nat) (v : UInt8) : x * 2 ^ 8 ||| v.toNat = x * 256 + v.toNat := by
 have := Nat.two_pow_add_eq_or_of_lt (i := 8) (b := v.toNat) (by have := v.toNat_lt; omega) x
 rw [l1I x, ← this, l1I]
def encStep (s : Ls × Nat) (g : Ls) : Ls × Nat := if s.2 = 76 then (s.1 ++ [13, 10] ++ g, 4) else (s.1 ++ g, s.2 + 4)
def encRun (gs : List Ls) : Ls × Nat := gs.foldl encStep ([], 0)
def encode (l : Ls) : Ls := if 0 < (encRun (grps l)).2 then (encRun (grps l)).1 ++ [13, 10] else (encRun (grps l)).1
theorem encRun_next (gs : List Ls) (g : Ls) : encRun (gs ++ [g]) = encStep (encRun gs) g := by simp [encRun]
theorem grps_len (l : Ls) : (grps l).length = (l.length + 2) / 3 := by simp [grps, grpsTo]
theorem ini_len {l x : Ls} {pre : List Ls} (h : (pre ++ [x]) <+: grps l) : x.length = 4 ∧ (∀ g ∈ pre, g.length = 4) ∧ pre.length + 1 ≤ (l.length + 2) / 3 := by
 refine ⟨?_, fun g hg => ?_, ?_⟩
 · obtain ⟨k, _, rfl⟩ := List.mem_map.1 (h.subset (l1s _ (List.mem_singleton.2 rfl))); rfl
 · obtain ⟨k, _, rfl⟩ := List.mem_map.1 (h.subset (l1l _ hg)); rfl
 have := h.length_le
 rw [grps_len] at this
 simpa using this
theorem grps_all (l : Ls) : ∀ g ∈ grps l, g.length = 4 := fun g hg => by
 obtain ⟨k, _, rfl⟩ := List.mem_map.1 hg; rfl
theorem encRun_inv (gs : List Ls) (h : ∀ g ∈ gs, g.length = 4) : (encRun gs).1.length ≤ 6 * gs.length ∧ (encRun gs).2 ≤ 76 ∧ (encRun gs).2 % 4 = 0 := by
 have key : ∀ (gs : List Ls) (s : Ls × Nat), (∀ g ∈ gs, g.length = 4) → s.2 ≤ 76 → s.2 % 4 = 0 → (gs.foldl encStep s).1.length ≤ s.1.length + 6 * gs.length ∧ (gs.foldl encStep s).2 ≤ 76 ∧ (gs.foldl encStep s).2 % 4 = 0 := by
  intro gs
  induction gs with
  | nil => intro s _ h1 h2; exact ⟨by simp, h1, h2⟩
  | cons g gs ih =>
    intro s hg h1 h2
    have hg4 : g.length = 4 := hg g l0C
    have h3 : (encStep s g).1.length ≤ s.1.length + 6 ∧ (encStep s g).2 ≤ 76 ∧ (encStep s g).2 % 4 = 0 := by
     unfold encStep
     split
     · simp [hg4]
     simp [hg4]; omega
    have := ih (encStep s g) (fun x hx => hg x (l0y _ hx)) h3.2.1 h3.2.2
    simp only [l0J, l02]
    omega
 have := key gs ([], 0) h Sm Sm
 simpa [encRun] using this
end Go.Ph.B64
end
section
namespace Go.Proofs.YtkmjdamkifbddaaGreatDoor
open Go Go.RowKit Go.Ph
open Go.Ph.B64
theorem sum_spec (v : Value) (l : List Nat) (hs : l.length ≤ 8) (h1 : ∀ x ∈ l, x ≤ 1) : Ct Tryz.prog 183 [v] (fun M => Sl M encN v l) (fun r _ => r = encN (sumN l)) := by
 refine Ct.of Tryz.func183 (enters Tryz.func183 Kr G) G G G ?_
 intro w0 M0 H hp
 refine SQ (RG (AS G G (NL (TN (SQ (RG (AS G G (NL (TN (SQ (SQ (RG (AS G G (NL (TN (BL (q1R (fun (k : Nat) => [(0, v), (3, encN (sumN (l.take k))), (4, I (k : Int))]) (fun (k : Nat) w => k ≤ l.length ∧ St w0 M0 M0 [] w) (fun (k : Nat) => l.length - k) (0) ⟨G, G, G, trivial⟩ (⟨by omega, H⟩) ?_)))))))))))))))))
 intro k w
 rintro ⟨hk, H⟩
 have hb := sumN_lt (l.take k) (fun x hx => h1 x (l1v hx))
 have hb2 : 2 ^ (l.take k).length ≤ 2 ^ 8 := l1d Dc (by rw [l04]; omega)
 refine SQ (SQ (RG (MV G G (MV G G ?_))))
 first | refine q01 (q0A Tu168 (by assumption) rfl) (q00 rfl) rfl rfl ?_ | refine q01 (q0G Tu168 H Km rfl) (q00 rfl) rfl rfl ?_ | refine q01 (q0z Tu168 rfl) (q00 rfl) rfl rfl ?_
 refine q0a (q0n G G) (q00 G) G G (fun h3_3 => ?_) (fun h3_3 => ?_)
 · refine NL (TN (CT G (SK (TN (SQ (BL (RG (MV G G (ST (q1H G G Om) G ?_)))))))))
   refine MV G G (MV G G ?_)
   refine q1g Tu168 Ts3 (by assumption) G G (List.getElem?_eq_getElem Om) (q00 G) G ?_
   intro p15 hc15
   first | refine q01 (q08 H rfl (by assumption) Ta3) (q00 rfl) rfl rfl ?_ | refine q01 (XL H Ta3) (q00 rfl) rfl rfl ?_
   have hx1 := h1 l[k] (l0L _)
   refine q09 (v' := encN (sumN (l.take (k + 1)))) (q0d G G Om) (by rw [l0m Om, sumN_snoc]; simp) (q00 G) G G ?_
   refine AS G G (NL (IB (TN (RG (MV G G (ST (q0d G G Om) G ?_))))))
   refine AS G G (NL ?_)
   refine q1f (k + 1) ⟨G, G, G, trivial⟩ ?_ ?_
   · exact ⟨by omega, H⟩
   omega
 refine NL (TN (CF G (q0m (q06 (q06 (q0f (TN (SQ (RG (MV G G (AS G G (NL (TN (RT ?_))))))))))))))
 refine q07 G G H.ext ?_
 exact (by rw [l0r Om])
theorem ub_nat (n : Nat) (h : n < 256) : ub (n : Int) = UInt8.ofNat n := by unfold ub; congr 1; omega
theorem mod2 (x : Nat) : I ((x : Int) % 2) = encN (x % 2) := rfl
theorem bits_spec (b : Value) (l : Ls) (hs : l.length ≤ 1000000) : CtO Tryz.prog 182 [b] (fun M => Bs M b l) (fun r _ its => its = [RowI 3 encN r (bitsOf l)]) := by
 refine CtO.of Tryz.func182 (enters Tryz.func182 Kr G) G G G ?_
 intro w0 M0 H hp
 refine SQ (RG (AS rfl rfl (NL (TN (SQ (RG (AS rfl rfl (NL (TN (SQ (SQ (RG (AS rfl rfl (NL (TN (BL (q1D (fun (k : Nat) (v : Value) => [(0, b), (3, v), (4, I (k : Int))]) (fun (k : Nat) (v : Value) w => k ≤ l.length ∧ ∃ M, St w0 M0 M [RowI 3 encN v (bitsOf (l.take k))] w) (fun (k : Nat) (v : Value) => l.length - k) (0) (_) ⟨rfl, rfl, rfl, trivial⟩ (⟨by omega, M0, H.newRow 3 encN⟩) ?_)))))))))))))))))
 intro k v w
 rintro ⟨hk, M, H⟩
 have hb := hp.mono H.ext.le
 refine SQ (SQ (RG (MV G G (MV G G ?_))))
 first | refine q01 (q0A Tu88 (by assumption) rfl) (q00 rfl) rfl rfl ?_ | refine q01 (q0G Tu88 H Km rfl) (q00 rfl) rfl rfl ?_ | refine q01 (q0z Tu88 rfl) (q00 rfl) rfl rfl ?_
 refine q0a (q0n G G) (q00 G) G G (fun h3_3 => ?_) (fun h3_3 => ?_)
 · obtain ⟨u, hu⟩ : ∃ u, l[k]? = some u := ⟨_, List.getElem?_eq_getElem Om⟩
   refine NL (TN (CT rfl (SK (TN (SQ (BL (SQ (RG (AS rfl rfl (NL (TN (BL (q1D (fun (j : Nat) (v : Value) => [(0, b), (3, v), (4, I (k : Int)), (5, I (7 - (j : Int)))]) (fun (j : Nat) (v : Value) w => j ≤ 8 ∧ ∃ M, St w0 M0 M [RowI 3 encN v (bitsOf (l.take k) ++ (bits8 u.toNat).take j)] w) (fun (j : Nat) (v : Value) => 8 - j) (0) (_) ⟨rfl, rfl, rfl, rfl, trivial⟩ (⟨by omega, M, by simpa using H⟩) ?_)))))))))))))
   intro j v w
   rintro ⟨hj, M, H⟩
   have hb := hp.mono H.ext.le
   have e1 := bitsOf_len (l.take k)
   have e2 : (l.take k).length ≤ l.length := l2r _ _
   have e3 : ((bits8 u.toNat).take j).length ≤ 8 := by rw [l04, bits8_len]; omega
   refine SQ (SQ (RG (MV G G ?_)))
   refine q0a (q1b G G) (q00 G) G G (fun h6_1 => ?_) (fun h6_1 => ?_)
   · refine NL (TN (CT G (SK (TN (SQ (BL (RG (MV G G (MV G G (MV G G (q1g Tu88 Ts5 (by assumption) G G (hu) (q00 G) G ?_)))))))))))
     intro p19 hc19
     first | refine q01 (q08 H rfl (by assumption) Ta5) (q00 rfl) rfl rfl ?_ | refine q01 (XL H Ta5) (q00 rfl) rfl rfl ?_
     first | refine q01 (q1i Tu5 Tu3 rfl) (q00 rfl) rfl rfl ?_ | refine q01 (q1C Tu5 Tu3 rfl Om) (q00 rfl) rfl rfl ?_
     refine q09 (v' := I ((7 - j : Nat) : Int)) (q02 G) (congrArg I Om) (q00 G) G G ?_
     refine ST (q1N Tu3 Tu125 G Om) G ?_
     refine ST (Ex.shrN (m := _) (s := _) G G (by first | (show _ ≤ 64; omega) | (show _ ≤ 8; omega) | decide)) G ?_
     refine q09 (v' := encN (u.toNat / 2 ^ (7 - j) % 2)) (q1y G G (by first | omega | exact ⟨l0g _, by decide⟩)) (mod2 _) (q00 G) G G ?_
     refine q0B (enc := encN) ty168 [_] H G Kf (fun _ => G) G G (q00 G) G ?_
     intro v26 M w H hle hl26
     replace hb := hb.mono hle
     replace hc19 := hc19.mono hle
     refine q0D ty168 (fun _ => G) H G (fun _ => by repeat first | exact .head | apply Upd.tail) G (by assumption) (by first | omega | (simp only [l00, l02, l03, l04, l01]; omega) | (simp only [l00, l02, l03, l04, l01, l0R, bitsOf_len] at *; omega)) (by first | (simp only [maxLen]; omega) | (simp only [maxLen, l00, l02, l03, l04, l01]; omega) | (simp only [maxLen, l00, l02, l03, l04, l01, l0R, bitsOf_len] at *; omega)) (q00 G) G ?_
     intro v27 w H
     refine AS G G (NL (IB (TN (RG (MV G G (q09 (v' := I (7 - ((j + 1 : Nat) : Int))) (q1h G G Om) (congrArg I Om) (q00 G) G G ?_))))))
     refine AS G G (NL ?_)
     refine q0Q (j + 1) (v27) ⟨G, G, G, G, trivial⟩ ?_ ?_
     · refine ⟨by omega, M, ?_⟩
       rw [bits8_next _ _ Om, ← l0d]
       exact H
     omega
   refine NL (TN (CF G (q0m (q06 (q06 (q0f (IB (TN (RG (MV G G (ST (q0d G G Om) G ?_)))))))))))
   refine AS G G (NL ?_)
   refine q0Q (k + 1) (v) ⟨G, G, G, trivial⟩ ?_ ?_
   · refine ⟨by omega, M, ?_⟩
     rw [bitsOf_next hu]
     rw [l0r (l := bits8 u.toNat) (by rw [bits8_len]; omega)] at H
     exact H
   omega
 refine NL (TN (CF G (q0m (q06 (q06 (q0f (TN (SQ (RG (MV G G (AS G G (NL (TN (RT ?_))))))))))))))
 rw [l0r Om] at H
 refine WQ.ret1O G G H (List.Sublist.refl _) ?_
 exact G
theorem chars64_spec (b : Value) (l : Ls) (hs : l.length ≤ 1000000) : Ct Tryz.prog 153 [b] (fun M => Bs M b l) (fun r _ => r = S (chars64 l)) := by
 refine Ct.of Tryz.func153 (enters Tryz.func153 Kr G) G G G ?_
 intro w0 M0 H hp
 refine SQ (RG (AS G G (NL (TN (SQ (RG (MV G G (WR.callO H (bits_spec _ _ Om) G (by assumption) (q00 G) G ?_))))))))
 intro v8 M w its H hle hr8
 replace hp := hp.mono hle
 obtain rfl := hr8
 simp only [l05, l06] at H
 refine AS rfl rfl (NL (TN (SQ (BL (q1D (fun (j : Nat) (v : Value) => [(3, v)]) (fun (j : Nat) (v : Value) w => j ≤ (6 - 8 * l.length % 6) % 6 ∧ ∃ M, St w0 M0 M [RowI 3 encN v (bitsOf l ++ List.replicate j 0)] w) (fun (j : Nat) (v : Value) => 6 - j) (0) (_) ⟨rfl, trivial⟩ (⟨by omega, M, by simpa using H⟩) ?_)))))
 intro j v w
 rintro ⟨hj, M, H⟩
 have hL : (bitsOf l ++ List.replicate j 0).length = 8 * l.length + j := by simp [bitsOf_len]
 refine SQ (SQ (RG (MV G G ?_)))
 first | refine q01 (q0A Tu168 (by assumption) rfl) (q00 rfl) rfl rfl ?_ | refine q01 (q0G Tu168 H Km rfl) (q00 rfl) rfl rfl ?_ | refine q01 (q0z Tu168 rfl) (q00 rfl) rfl rfl ?_
 refine ST (q1y G G (by first | omega | exact ⟨l0g _, by decide⟩)) G ?_
 refine q0a (Ex.neq G G) (q00 G) G G (fun h2_3 => ?_) (fun h2_3 => ?_)
 · refine NL (TN (CT G (SK (TN (BL (RG (MV G G (q0B (enc := encN) ty168 [(0)] H G Kf (fun _ => G) G G (q00 G) G ?_))))))))
   intro v14 M w H hle hl14
   refine q0D ty168 (fun _ => G) H G (fun _ => by repeat first | exact .head | apply Upd.tail) G (by assumption) (by first | omega | (simp only [l00, l02, l03, l04, l01]; omega) | (simp only [l00, l02, l03, l04, l01, l0R, bitsOf_len] at *; omega)) (by first | (simp only [maxLen]; omega) | (simp only [maxLen, l00, l02, l03, l04, l01]; omega) | (simp only [maxLen, l00, l02, l03, l04, l01, l0R, bitsOf_len] at *; omega)) (q00 G) G ?_
   intro v15 w H
   refine AS G G (NL (IB ?_))
   refine q0Q (j + 1) (v15) ⟨G, trivial⟩ ?_ ?_
   · refine ⟨by omega, M, ?_⟩
     rw [List.replicate_succ', ← l0d]
     exact H
   omega
 refine NL (TN (CF G (q0m (q06 (q06 (q0f (TN (SQ (RG (AS G G (NL (TN (SQ (SQ (RG (AS G G (NL (TN (BL ?_)))))))))))))))))))
 obtain ⟨M, hle, hf, H⟩ := H.freezeRow (v := v) (enc := encN) (t := 3) Kv
 rw [show bitsOf l ++ List.replicate j 0 = padBits l by rw [padBits]; congr; omega] at hf
 refine q1R (fun (q : Nat) => [(3, v), (4, S (sext (padBits l) q)), (5, I ((6 * q : Nat) : Int))]) (fun (q : Nat) w => 6 * q ≤ (padBits l).length ∧ ∃ M, St w0 M0 M [] w ∧ Sl M encN v (padBits l)) (fun (q : Nat) => (padBits l).length - 6 * q) (0) ⟨rfl, rfl, rfl, trivial⟩ (⟨by omega, M, H, hf⟩) ?_
 intro q w
 rintro ⟨hq, M, H, hf⟩
 have e1 := padBits_len l
 have e2 := sext_len (padBits_le l) q
 have e3 := six_lt (padBits_le l) q
 refine SQ (SQ (RG (MV G G (MV G G ?_))))
 first | refine q01 (q0A Tu168 (by assumption) rfl) (q00 rfl) rfl rfl ?_ | refine q01 (q0G Tu168 H Km rfl) (q00 rfl) rfl rfl ?_ | refine q01 (q0z Tu168 rfl) (q00 rfl) rfl rfl ?_
 refine q0a (q0n G G) (q00 G) G G (fun h6_3 => ?_) (fun h6_3 => ?_)
 · refine NL (TN (CT G (SK (TN (SQ (BL (SQ (RG (MV G G (MV G G (MV G G (ST (q0d G G Om) G ?_))))))))))))
   refine WR.sliceSl (i := 6 * q) (j := 6 * q + 6) Tu168 Ts3 (by assumption) G (.inl ⟨_, G, G⟩) (.inl ⟨_, G, G⟩) Om Om (q00 G) G ?_
   intro v26 hs26
   refine q05 H (sum_spec _ (((padBits l).take (6 * q + 6)).drop (6 * q)) (by simp only [l01, l04]; omega) (part_le (padBits_le l) _ _)) G (by assumption) (q00 G) G ?_
   intro v27 M w H hle hr27
   replace hf := hf.mono hle
   replace hs26 := hs26.mono hle
   obtain rfl := hr27
   refine q09 (v' := encN (six (padBits l) q)) (Ex.assign G) G (q00 G) G G (NL (TN (RG (MV G G (MV G G (MV G G (ST (q0d G G Om) G ?_)))))))
   refine ST (q1d (l := alpha) (i := six (padBits l) q) (j := six (padBits l) q + 1) Tu9 G (.inl ⟨_, G, G⟩) (.inl ⟨_, G, G⟩) Om (by rw [alpha_len]; omega)) G ?_
   refine q09 (v' := S (sext (padBits l) (q + 1))) (q1j G G (by first | omega | (simp only [l02, l03]; omega) | (simp only [l00, l02, l03, l01, l04]; omega))) G (q00 G) G G ?_
   refine AS G G (NL (IB (TN (RG (MV G G (q09 (v' := I ((6 * (q + 1) : Nat) : Int)) (q0d G G Om) (congrArg I Om) (q00 G) G G ?_))))))
   refine AS G G (NL ?_)
   refine q1f (q + 1) ⟨G, G, G, trivial⟩ ?_ ?_
   · exact ⟨by omega, M, H, hf⟩
   omega
 refine NL (TN (CF rfl (q0m (q06 (q06 (q0f (TN (SQ (BL (q1R (fun (m : Nat) => [(4, S (sext (padBits l) q ++ List.replicate m 61))]) (fun (m : Nat) w => m ≤ (4 - (sext (padBits l) q).length % 4) % 4 ∧ ∃ M, St w0 M0 M [] w) (fun (m : Nat) => 4 - m) (0) ⟨(by rw [List.replicate_zero, l0j]; rfl), trivial⟩ (⟨by omega, M, H⟩) ?_))))))))))
 intro m w
 rintro ⟨hm, M, H⟩
 have hL2 : (sext (padBits l) q ++ List.replicate m 61).length = (sext (padBits l) q).length + m := by simp
 refine SQ (SQ (RG (MV G G (ST (q0k Tu9 G) G (ST (q1y G G (by first | omega | exact ⟨l0g _, by decide⟩)) G ?_)))))
 refine q0a (Ex.neq G G) (q00 G) G G (fun h10_3 => ?_) (fun h10_3 => ?_)
 · refine NL (TN (CT G (SK (TN (BL (RG (MV G G (q09 (v' := S (sext (padBits l) q ++ List.replicate (m + 1) 61)) (q1j G G (by first | omega | (simp only [l02, l03]; omega) | (simp only [l00, l02, l03, l01, l04]; omega))) (by rw [List.replicate_succ', ← l0d]) (q00 G) G G ?_))))))))
   refine AS G G (NL (IB ?_))
   refine q1f (m + 1) ⟨G, trivial⟩ ?_ ?_
   · exact ⟨by omega, M, H⟩
   omega
 refine NL (TN (CF G (q0m (q06 (q06 (q0f (TN (SQ (RG (MV G G (AS G G (NL (TN (RT ?_))))))))))))))
 refine q07 G G H.ext ?_
 exact (by
  have hq2 : q = (padBits l).length / 6 := by omega
  have hm2 : m = (4 - (sext (padBits l) q).length % 4) % 4 := by omega
  subst hq2
  rw [hm2, chars64])
end Go.Proofs.YtkmjdamkifbddaaGreatDoor
end
section
namespace Go.Proofs.YtkmjdamkifbddaaGreatDoor
open Go Go.RowKit Go.Ph
open Go.Ph.B64
end Go.Proofs.YtkmjdamkifbddaaGreatDoor
end
section
namespace Go.Proofs.YtkmjdamkifbddaaGreatDoor
open Go Go.RowKit Go.Ph
open Go.Ph.B64
abbrev encG (x : Ls) : Value := .agg (x.map encB).toArray
theorem groups_iter (bb : Nat) (v0 : Value) (l : Ls) (hs : l.length ≤ 1000000) : IterCt Tryz.prog 217 [ptr bb 0] [.blk bb (.cells #[v0] 88)] (fun M => Bs M v0 l) encG (grps l) := by
 refine ⟨enters Tryz.func217 Kr G, fun lid Z Zx hZ hY L0 w0 M0 hz H hp => calls_of_WC Tryz.func217 G G G ?_⟩
 generalize hC : feet ([.blk bb (.cells #[v0] 88)] ++ L0) = C at H ⊢
 simp only [l05, l06] at H
 refine BL (q1L (fun (k : Nat) (v : Value) (Lc : List Ph.Item) => [(0, yv lid), (1, ptr bb 0)]) (fun (k : Nat) (v : Value) (Lc : List Ph.Item) w => k ≤ (l.length + 2) / 3 ∧ ∃ M, StX C w0 M0 M (.blk bb (.cells #[v] 88) :: Lc) w ∧ Bs M v (l.drop (3 * k)) ∧ Z (grpsTo l k) Lc M) (fun (k : Nat) (v : Value) (Lc : List Ph.Item) => l.length + 2 - 3 * k) (0) (_) (_) ⟨rfl, rfl, trivial⟩ (⟨by omega, M0, H, hp, hz⟩) ?_)
 intro k v Lc w
 rintro ⟨hk, M, H, hb, hzc⟩
 have hlen : (l.drop (3 * k)).length = l.length - 3 * k := l01
 refine SQ (SQ (RG ?_))
 first | refine q01 (q08 H rfl (by assumption) Ta88) (q00 rfl) rfl rfl ?_ | refine q01 (XL H Ta88) (q00 rfl) rfl rfl ?_
 first | refine q01 (q0A Tu88 (by assumption) rfl) (q00 rfl) rfl rfl ?_ | refine q01 (q0G Tu88 H Km rfl) (q00 rfl) rfl rfl ?_ | refine q01 (q0z Tu88 rfl) (q00 rfl) rfl rfl ?_
 refine q0a (q0K G G) (q00 G) G G (fun h0_2 => ?_) (fun h0_2 => ?_)
 · refine NL (TN (CT G (SK (TN (BL (SQ (RG ?_)))))))
   first | refine q01 (q08 H rfl (by assumption) Ta88) (q00 rfl) rfl rfl ?_ | refine q01 (XL H Ta88) (q00 rfl) rfl rfl ?_
   first | refine q01 (q0A Tu88 (by assumption) rfl) (q00 rfl) rfl rfl ?_ | refine q01 (q0G Tu88 H Km rfl) (q00 rfl) rfl rfl ?_ | refine q01 (q0z Tu88 rfl) (q00 rfl) rfl rfl ?_
   refine q09 (v' := encN (min 3 (l.drop (3 * k)).length)) (Ex.min2 G G) (congrArg I Om) (q00 G) G G ?_
   refine AS G G (NL (TN (SQ (RG (AS G G (NL (TN (SQ (SQ (RG (MV G G (NL (TN (BL (q1R (fun (i : Nat) => [(0, yv lid), (1, ptr bb 0), (3, encN (min 3 (l.drop (3 * k)).length)), (4, encN (accN (l.drop (3 * k)) i)), (14, I (i : Int))]) (fun (i : Nat) w => i ≤ 3 ∧ StX C w0 M0 M (.blk bb (.cells #[v] 88) :: Lc) w) (fun (i : Nat) => 3 - i) (0) ⟨G, G, G, G, G, trivial⟩ (⟨by omega, H⟩) ?_)))))))))))))))
   intro i w
   rintro ⟨hi, H⟩
   have hac := accN_lt (l.drop (3 * k)) i
   have hac2 : 256 ^ i ≤ 256 ^ 3 := l1d Dc hi
   refine SQ (RG ?_)
   refine q0a (q0n G G) (q00 G) G G (fun h4_0 => ?_) (fun h4_0 => ?_)
   · refine NL (TN (SQ (CT G (SK (TN (SQ (BL (SQ (RG (MV G G (AS G G (NL (TN (SQ (RG (MV G G (q09 (v' := encN (accN (l.drop (3 * k)) i * 256)) (Ex.shlN (m := accN (l.drop (3 * k)) i) (s := 8) G G (by first | (show _ ≤ 64; omega) | (show _ ≤ 8; omega) | decide) (by first | omega | (simp; omega))) G (q00 G) G G ?_)))))))))))))))))
     refine AS G G (NL (TN (SQ (RG (MV G G (MV G G ?_))))))
     refine q0a (q0n G G) (q00 G) G G (fun h7_2 => ?_) (fun h7_2 => ?_)
     · obtain ⟨u, hu⟩ : ∃ u, (l.drop (3 * k))[i]? = some u := ⟨_, List.getElem?_eq_getElem Om⟩
       have hult := u.toNat_lt
       refine NL (TN (CT G (RG (MV G G ?_))))
       first | refine q01 (q08 H rfl (by assumption) Ta88) (q00 rfl) rfl rfl ?_ | refine q01 (XL H Ta88) (q00 rfl) rfl rfl ?_
       refine MV G G (q1g Tu88 Ts5 (by assumption) G G (hu) (q00 G) G ?_)
       intro p25 hc25
       first | refine q01 (q08 H rfl (by assumption) Ta5) (q00 rfl) rfl rfl ?_ | refine q01 (XL H Ta5) (q00 rfl) rfl rfl ?_
       first | refine q01 (q1i Tu5 Tu3 rfl) (q00 rfl) rfl rfl ?_ | refine q01 (q1C Tu5 Tu3 rfl Om) (q00 rfl) rfl rfl ?_
       refine q09 (v' := encN (accN (l.drop (3 * k)) (i + 1))) (Ex.orN (m := accN (l.drop (3 * k)) i * 256) (s := u.toNat) G G Om Om) (congrArg encN (by rw [show accN (l.drop (3 * k)) i * 256 = accN (l.drop (3 * k)) i * 2 ^ 8 from G, or_eight, accN]; simp [l0w, hu])) (q00 G) G G ?_
       refine AS G G (NL (IB (TN (RG (ST (q0d G G Om) G ?_)))))
       refine MV G G (NL ?_)
       refine q1f (i + 1) ⟨G, G, G, G, G, trivial⟩ ?_ ?_
       · exact ⟨by omega, H⟩
       omega
     refine NL (TN (CF G (SK (IB (TN (RG (ST (q0d G G Om) G ?_)))))))
     refine MV G G (NL ?_)
     refine q1f (i + 1) ⟨G, G, G, (congrArg (fun x => some (encN x)) (accN_out _ _ Om)), G, trivial⟩ ?_ ?_
     · exact ⟨by omega, H⟩
     omega
   refine NL (TN (SQ (CF G (q0m (q06 (q06 (q0f (TN (SQ (RG (q0g [_, _, _, _] H Tryz.zeroValue218 G (q00 G) G ?_)))))))))))
   intro b6 w H
   refine NL (TN (SQ (SQ (RG (MV G G (NL (TN (BL ?_))))))))
   obtain rfl : i = 3 := by omega
   refine q1R (fun (j : Nat) => [(0, yv lid), (1, ptr bb 0), (3, encN (min 3 (l.drop (3 * k)).length)), (4, encN (accN (l.drop (3 * k)) 3)), (6, ptr b6 0), (30, I (j : Int))]) (fun (j : Nat) w => j ≤ 4 ∧ StX C w0 M0 M (.blk b6 (.cells ((outp (l.drop (3 * k)) j).map encB).toArray 218) :: .blk bb (.cells #[v] 88) :: Lc) w) (fun (j : Nat) => 4 - j) (0) ⟨G, G, G, G, G, G, trivial⟩ (⟨by omega, H⟩) ?_
   intro j w
   rintro ⟨hj, H⟩
   have hac := accN_lt (l.drop (3 * k)) 3
   have hol : (outp (l.drop (3 * k)) j).length = 4 := rfl
   refine SQ (RG ?_)
   refine q0a (q0n G G) (q00 G) G G (fun h12_0 => ?_) (fun h12_0 => ?_)
   · refine NL (TN (SQ (CT G (SK (TN (SQ (BL (SQ (RG (MV G G (AS G G (NL (TN (SQ (RG (MV G G (MV G G (MV G G (ST (q1H G G Om) G ?_)))))))))))))))))))
     refine q09 (v' := I ((18 - 6 * j : Nat) : Int)) (q1h G G Om) (congrArg I Om) (q00 G) G G ?_
     refine ST (Ex.shrN (m := _) (s := _) G G (by first | (show _ ≤ 64; omega) | (show _ ≤ 8; omega) | decide)) G ?_
     have hdv : accN (l.drop (3 * k)) 3 / 2 ^ (18 - 6 * j) ≤ accN (l.drop (3 * k)) 3 := Nat.div_le_self _ _
     refine q09 (v' := encN (accN (l.drop (3 * k)) 3 / 2 ^ (18 - 6 * j) % 64)) (Ex.andN (m := _) (s := 63) G G Om Om) (congrArg encN (l1T _ 6)) (q00 G) G G ?_
     refine q09 (v' := encB (alpha.getD (accN (l.drop (3 * k)) 3 / 2 ^ (18 - 6 * j) % 64) 0)) (q1a (l := alpha) Tu9 G G (List.getElem?_eq_getElem (by rw [alpha_len]; omega))) (congrArg encB (by rw [getD_in _ _ _ (by rw [alpha_len]; omega)])) (q00 G) G G ?_
     refine ST (q1V Tu218 Ts5 G G Om) G ?_
     refine q1s (((outp (l.drop (3 * k)) j).set j (alpha.getD (accN (l.drop (3 * k)) 3 / 2 ^ (18 - 6 * j) % 64) 0)).map encB) H G G Ku (by simp [l2l]) Ts5 (by simp [hol]; omega) G G (q00 G) ?_
     intro w H
     refine NL (TN (SQ (RG (MV G G (MV G G ?_)))))
     refine q0a (q0K G G) (q00 G) G G (fun h15_2 => ?_) (fun h15_2 => ?_)
     · refine NL (TN (CT G (RG (MV G G (ST (q1V Tu218 Ts5 G G Om) G ?_)))))
       refine q1s (((outp (l.drop (3 * k)) j).set j 61).map encB) H G G Ku (by simp [l2l]; rfl) Ts5 (by simp [hol]; omega) G G (q00 G) ?_
       intro w H
       refine NL (IB (TN (RG (ST (q0d G G Om) G ?_))))
       refine MV G G (NL ?_)
       refine q1f (j + 1) ⟨G, G, G, G, G, G, trivial⟩ ?_ ?_
       · refine ⟨by omega, ?_⟩
         rw [← outp_set _ _ Om, ch, if_pos Om]
         exact H
       omega
     refine NL (TN (CF G (SK (IB (TN (RG (ST (q0d G G Om) G ?_)))))))
     refine MV G G (NL ?_)
     refine q1f (j + 1) ⟨G, G, G, G, G, G, trivial⟩ ?_ ?_
     · refine ⟨by omega, ?_⟩
       rw [← outp_set _ _ Om, ch, if_neg Om]
       exact H
     omega
   refine NL (TN (SQ (CF G (q0m (q06 (q06 (q0f (TN (SQ (SQ (RG (MV G G ?_))))))))))))
   first | refine q01 (q0v H rfl Km Tryz.isAgg218 Tryz.sizeOf218 Kf) (q00 rfl) rfl rfl ?_ | refine q01 (q1e H rfl (by assumption) Tryz.isAgg218 Tryz.sizeOf218 Kf) (q00 rfl) rfl rfl ?_
   obtain rfl : j = 4 := by omega
   have hpre : (grpsTo l k ++ [outp (l.drop (3 * k)) 4]) <+: grps l := grpsTo_ini l k Om
   refine WR.yield (hY _ _ _ _ _ hpre hzc (H.hand (.right (.right (q1P _))))) G G (q00 G) G ?_
   rintro en w ⟨M, Lc, Hs, hcase⟩
   replace H := (H.back (.right (.right (q1P _))) Hs).perm l2k
   simp only [l05, l06] at H
   replace hb := hb.mono Hs.ext.le
   rcases hcase with ⟨rfl, hzc⟩ | ⟨rfl, hzc⟩
   · refine ⟨true, G, ?_⟩
     refine ST (q1o G) G (NL (TN (CF G (SK (TN (RG ?_))))))
     first | refine q01 (q08 H rfl (by assumption) Ta88) (q00 rfl) rfl rfl ?_ | refine q01 (XL H Ta88) (q00 rfl) rfl rfl ?_
     refine MV G G (WR.sliceSl (i := min 3 (l.drop (3 * k)).length) (j := (l.drop (3 * k)).length) Tu88 Ts5 (by assumption) G (.inl ⟨_, G, G⟩) (.inr ⟨G, G⟩) Om Om (q00 G) G ?_)
     intro v54 hs54
     refine q0O [_] H G G (by first | exact q1p _ _ _ | exact Sl.one (by assumption) | exact q1M H Km) Ku Kf Ts88 (by first | decide | (simp; done) | (simp; omega)) (q00 G) ?_
     intro w H
     refine NL (IB ?_)
     refine q0V (k + 1) (v54) (Lc) ⟨G, G, trivial⟩ ?_ ?_
     · refine ⟨by omega, M, H.drop (l0q _ _), ?_, ?_⟩
       · have := drop_next l k (min 3 (l.drop (3 * k)).length) rfl
         rw [l0r (l0h _), this] at hs54
         exact hs54
       rw [grpsTo_next]; exact hzc
     omega
   refine ⟨false, G, ?_⟩
   refine ST (q1T G) G (NL (TN (CT G (RT ?_))))
   refine WQ.ret0X G ?_
   subst hC
   exact ⟨_, M, Lc, G, H.drop (by exact (l0q _ _).trans (l0q _ _)), .inr ⟨_, hpre, hzc⟩⟩
 refine NL (TN (CF G (q0m (q06 (q06 (q0f (WQ.end0X G ?_)))))))
 subst hC
 rw [show k = (l.length + 2) / 3 by omega] at hzc
 exact ⟨_, M, Lc, G, H.drop (l0q _ _), .inl hzc⟩
theorem groups_spec (bv : Value) (l : Ls) : CtO Tryz.prog 200 [bv] (fun M => Bs M bv l) (fun r _ its => ∃ bb, r = .func (.func 217) #[] #[ptr bb 0] ∧ its = [.blk bb (.cells #[bv] 88)]) := by
 refine CtO.of Tryz.func200 (enters Tryz.func200 Kr G) G G G ?_
 intro w0 M0 H hp
 refine SQ (RG (q1t [_] H G (One.cells (by first | exact q1p _ _ _ | exact Sl.one (by assumption) | exact q1M H Km)) (q00 G) G ?_))
 intro b1 w H
 refine AS G G (NL (TN (SQ (RG (ST (q1Q G) G (AS G G (NL (TN (RT ?_)))))))))
 refine WQ.ret1O G G H (List.Sublist.refl _) ?_
 exact ⟨_, G, G⟩
theorem encode_spec (bv : Value) (l : Ls) (hs : l.length ≤ 12000) : Ct Tryz.prog 171 [bv] (fun M => Bs M bv l) (fun r M => ∃ v, r = .tuple #[v, fault 0 0] ∧ Bs M v (encode l)) := by
 refine Ct.ofM Tryz.func171 (enters Tryz.func171 Kr G) G G G ?_
 intro w0 M0 H hp
 refine SQ (RG (AS G G (q0g [_, _] H Tz27 G (q00 G) G ?_)))
 intro b3 w H
 refine NL (TN (SQ (SQ (RG (MV G G ?_)))))
 first | refine q01 (q0A Tu88 (by assumption) rfl) (q00 rfl) rfl rfl ?_ | refine q01 (q0G Tu88 H Km rfl) (q00 rfl) rfl rfl ?_ | refine q01 (q0z Tu88 rfl) (q00 rfl) rfl rfl ?_
 refine q0U (q0K G G) Om (q00 G) G G ?_
 refine NL (TN (CF G (SK (TN (SQ (RG (q0g [_] H Tz88 G (q00 G) G ?_)))))))
 intro b4 w H
 refine NL (TN (SQ (RG (q0g [_] H Tz3 G (q00 G) G ?_))))
 intro b5 w H
 refine q0b [_] H G G G Ku Ts3 G Kf Kf (q00 G) ?_
 intro w H
 refine NL (TN (SQ (SQ (RG (MV G G ?_)))))
 replace H := H.newRow 5 encB
 refine WR.callO H (groups_spec _ _) G (by assumption) (q00 G) G ?_
 intro v12 M w its H hle hr12
 replace hp := hp.mono hle
 obtain ⟨bb, rfl, rfl⟩ := hr12
 simp only [l05, l06] at H
 refine NL (TN (BL ?_))
 refine WC.rangeFunc H rfl (groups_iter bb bv l Om) (.left (.left (.left (.left (.right .nil))))) (hp) rfl (fun pre Lc _ => ∃ v, Lc = [RowI 5 encB v (encRun pre).1, .blk b5 (.cells #[encN (encRun pre).2] 3), .blk b4 (.cells #[v] 88)]) (fun _ _ _ _ => False) (fun _ _ _ _ h _ => h) (⟨_, rfl⟩) ?_ ?_ ?_
 · intro lid rc hrc pre x Lc w M hpre hz H
   obtain ⟨v, rfl⟩ := hz
   have hi4 := ini_len hpre
   have hiv := encRun_inv pre hi4.2.1
   have hx4 := hi4.1
   refine RG (q0g [_, _, _, _] H Tryz.zeroValue218 G (q00 G) G ?_)
   intro b6 w H
   refine q0b (x.map encB) H G G G Ku Tryz.sizeOf218 (by simp [hx4]) G (by simp; exact fun _ _ => G) (q00 G) ?_
   intro w H
   refine NL (WQ.begin hrc H Ku ?_)
   intro w H
   refine BL (SQ (SQ (RG ?_)))
   first | refine q01 (q08 H rfl (by assumption) Ta3) (q00 rfl) rfl rfl ?_ | refine q01 (XL H Ta3) (q00 rfl) rfl rfl ?_
   refine q0a (q0c G G) (q00 G) G G (fun h7_1 => ?_) (fun h7_1 => ?_)
   · refine NL (TN (CT G (SQ (RG ?_))))
     first | refine q01 (q08 H rfl (by assumption) Ta88) (q00 rfl) rfl rfl ?_ | refine q01 (XL H Ta88) (q00 rfl) rfl rfl ?_
     refine q0B (enc := encB) ty88 [13, 10] H G Kf (fun _ => G) G G (q00 G) G ?_
     intro v17 M w H hle hl17
     refine q0D ty88 (fun _ => G) H G (fun _ => by repeat first | exact .head | apply Upd.tail) G (by assumption) (by first | omega | (simp only [l00, l02, l03, l04, l01]; omega)) (by first | (simp only [maxLen]; omega) | (simp only [maxLen, l00, l02, l03, l04, l01]; omega)) (q00 G) G ?_
     intro v18 w H
     refine q0O [_] H G G (by first | exact q1p _ _ _ | exact Sl.one (by assumption) | exact q1M H Km) Ku Kf Ts88 (by first | decide | (simp; done) | (simp; omega)) (q00 G) ?_
     intro w H
     refine NL (TN (RG (q0b [_] H G G G Ku Ts3 G Kf Kf (q00 G) ?_)))
     intro w H
     refine NL (TN (SQ (q0F (m := 4) G G H ?_)))
     intro w H
     refine q0P (i := 0) (j := 1) Kr G G ?_ ?_
     · first | refine q01 (q08 H rfl (by assumption) Ta88) (q00 rfl) rfl rfl ?_ | refine q01 (XL H Ta88) (q00 rfl) rfl rfl ?_
       refine NA (ON 1 Kr G (q09 (v' := .slice (some ⟨b6, 0, none⟩) x.length x.length) (Ex.sliceArr Tu218 Ts5 G) (by rw [hx4]) (q00 G) G G ?_))
       refine NA (ON 2 Kr G (WR.appendBlk ty88 (fun _ => G) H G (fun _ => by repeat first | exact .head | apply Upd.tail) G Km (by first | omega | (simp only [l00, l02, l03, l04, l01]; omega)) (by first | (simp only [maxLen]; omega) | (simp only [maxLen, l00, l02, l03, l04, l01]; omega)) (q00 G) G ?_))
       intro v21 w H
       refine NA (ON 3 Kr G (q0O [_] H G G (by first | exact q1p _ _ _ | exact Sl.one (by assumption) | exact q1M H Km) Ku Kf Ts88 (by first | decide | (simp; done) | (simp; omega)) (q00 G) ?_))
       intro w H
       refine NA (q0h Kr (TN (RG ?_)))
       first | refine q01 (q08 H rfl (by assumption) Ta3) (q00 rfl) rfl rfl ?_ | refine q01 (XL H Ta3) (q00 rfl) rfl rfl ?_
       refine ST (q0d G G Om) G ?_
       refine q0b [_] H G G G Ku Ts3 G Kf Kf (q00 G) ?_
       intro w H
       refine NL (IB ?_)
       refine WQ.roundOn hrc (H.drop (l0q _ _)) ⟨v21, ?_⟩
       rw [encRun_next, encStep, if_pos Om]
       rfl
     refine q09 (v' := .slice (some ⟨b6, 0, none⟩) x.length x.length) (Ex.sliceArr Tu218 Ts5 G) (by rw [hx4]) (q00 G) G G ?_
     refine NA (ON 0 Kr G ?_)
     first | refine q01 (q08 H rfl (by assumption) Ta88) (q00 rfl) rfl rfl ?_ | refine q01 (XL H Ta88) (q00 rfl) rfl rfl ?_
     refine NA (ON 2 Kr G (WR.appendBlk ty88 (fun _ => G) H G (fun _ => by repeat first | exact .head | apply Upd.tail) G Km (by first | omega | (simp only [l00, l02, l03, l04, l01]; omega)) (by first | (simp only [maxLen]; omega) | (simp only [maxLen, l00, l02, l03, l04, l01]; omega)) (q00 G) G ?_))
     intro v21 w H
     refine NA (ON 3 Kr G (q0O [_] H G G (by first | exact q1p _ _ _ | exact Sl.one (by assumption) | exact q1M H Km) Ku Kf Ts88 (by first | decide | (simp; done) | (simp; omega)) (q00 G) ?_))
     intro w H
     refine NA (q0h Kr (TN (RG ?_)))
     first | refine q01 (q08 H rfl (by assumption) Ta3) (q00 rfl) rfl rfl ?_ | refine q01 (XL H Ta3) (q00 rfl) rfl rfl ?_
     refine ST (q0d G G Om) G ?_
     refine q0b [_] H G G G Ku Ts3 G Kf Kf (q00 G) ?_
     intro w H
     refine NL (IB ?_)
     refine WQ.roundOn hrc (H.drop (l0q _ _)) ⟨v21, ?_⟩
     rw [encRun_next, encStep, if_pos Om]
     rfl
   refine NL (TN (CF G (SK (TN (SQ (q0F (m := 4) G G H ?_))))))
   intro w H
   refine q0P (i := 0) (j := 1) Kr G G ?_ ?_
   · first | refine q01 (q08 H rfl (by assumption) Ta88) (q00 rfl) rfl rfl ?_ | refine q01 (XL H Ta88) (q00 rfl) rfl rfl ?_
     refine NA (ON 1 Kr G (q09 (v' := .slice (some ⟨b6, 0, none⟩) x.length x.length) (Ex.sliceArr Tu218 Ts5 G) (by rw [hx4]) (q00 G) G G ?_))
     refine NA (ON 2 Kr G (WR.appendBlk ty88 (fun _ => G) H G (fun _ => by repeat first | exact .head | apply Upd.tail) G Km (by first | omega | (simp only [l00, l02, l03, l04, l01]; omega)) (by first | (simp only [maxLen]; omega) | (simp only [maxLen, l00, l02, l03, l04, l01]; omega)) (q00 G) G ?_))
     intro v21 w H
     refine NA (ON 3 Kr G (q0O [_] H G G (by first | exact q1p _ _ _ | exact Sl.one (by assumption) | exact q1M H Km) Ku Kf Ts88 (by first | decide | (simp; done) | (simp; omega)) (q00 G) ?_))
     intro w H
     refine NA (q0h Kr (TN (RG ?_)))
     first | refine q01 (q08 H rfl (by assumption) Ta3) (q00 rfl) rfl rfl ?_ | refine q01 (XL H Ta3) (q00 rfl) rfl rfl ?_
     refine ST (q0d G G Om) G ?_
     refine q0b [_] H G G G Ku Ts3 G Kf Kf (q00 G) ?_
     intro w H
     refine NL (IB ?_)
     refine WQ.roundOn hrc (H.drop (l0q _ _)) ⟨v21, ?_⟩
     rw [encRun_next, encStep, if_neg Om]
     rfl
   refine q09 (v' := .slice (some ⟨b6, 0, none⟩) x.length x.length) (Ex.sliceArr Tu218 Ts5 G) (by rw [hx4]) (q00 G) G G ?_
   refine NA (ON 0 Kr G ?_)
   first | refine q01 (q08 H rfl (by assumption) Ta88) (q00 rfl) rfl rfl ?_ | refine q01 (XL H Ta88) (q00 rfl) rfl rfl ?_
   refine NA (ON 2 Kr G (WR.appendBlk ty88 (fun _ => G) H G (fun _ => by repeat first | exact .head | apply Upd.tail) G Km (by first | omega | (simp only [l00, l02, l03, l04, l01]; omega)) (by first | (simp only [maxLen]; omega) | (simp only [maxLen, l00, l02, l03, l04, l01]; omega)) (q00 G) G ?_))
   intro v21 w H
   refine NA (ON 3 Kr G (q0O [_] H G G (by first | exact q1p _ _ _ | exact Sl.one (by assumption) | exact q1M H Km) Ku Kf Ts88 (by first | decide | (simp; done) | (simp; omega)) (q00 G) ?_))
   intro w H
   refine NA (q0h Kr (TN (RG ?_)))
   first | refine q01 (q08 H rfl (by assumption) Ta3) (q00 rfl) rfl rfl ?_ | refine q01 (XL H Ta3) (q00 rfl) rfl rfl ?_
   refine ST (q0d G G Om) G ?_
   refine q0b [_] H G G G Ku Ts3 G Kf Kf (q00 G) ?_
   intro w H
   refine NL (IB ?_)
   refine WQ.roundOn hrc (H.drop (l0q _ _)) ⟨v21, ?_⟩
   rw [encRun_next, encStep, if_neg Om]
   rfl
 · intro Dm w M Lc H hle hz
   obtain ⟨v, rfl⟩ := hz
   simp only [l05, l06] at H
   have hiv := encRun_inv (grps l) (grps_all l)
   have hgl := grps_len l
   refine IB (TN (SQ (SQ (RG ?_))))
   first | refine q01 (q08 H rfl (by assumption) Ta3) (q00 rfl) rfl rfl ?_ | refine q01 (XL H Ta3) (q00 rfl) rfl rfl ?_
   refine q0a (q0K G G) (q00 G) G G (fun h12_1 => ?_) (fun h12_1 => ?_)
   · refine NL (TN (CT G (RG ?_)))
     first | refine q01 (q08 H rfl (by assumption) Ta88) (q00 rfl) rfl rfl ?_ | refine q01 (XL H Ta88) (q00 rfl) rfl rfl ?_
     refine q0B (enc := encB) ty88 [13, 10] H G Kf (fun _ => G) G G (q00 G) G ?_
     intro v27 M w H hle hl27
     refine q0D ty88 (fun _ => G) H G (fun _ => by repeat first | exact .head | apply Upd.tail) G (by assumption) (by first | omega | (simp only [l00, l02, l03, l04, l01]; omega)) (by first | (simp only [maxLen]; omega) | (simp only [maxLen, l00, l02, l03, l04, l01]; omega)) (q00 G) G ?_
     intro v28 w H
     refine q0O [_] H G G (by first | exact q1p _ _ _ | exact Sl.one (by assumption) | exact q1M H Km) Ku Kf Ts88 (by first | decide | (simp; done) | (simp; omega)) (q00 G) ?_
     intro w H
     refine NL (TN (SQ (q0F (m := 4) G G H ?_)))
     intro w H
     refine q0P (i := 0) (j := 1) Kr G G ?_ ?_
     · first | refine q01 (q08 H rfl (by assumption) Ta88) (q00 rfl) rfl rfl ?_ | refine q01 (XL H Ta88) (q00 rfl) rfl rfl ?_
       refine NA (ON 1 Kr G (q05 H (none_spec) G (trivial) (q00 G) G ?_))
       intro v30 M w H hle hr30
       replace hl27 := hl27.mono hle
       obtain rfl := hr30
       refine NA (ON 2 Kr G (AS G G (NA (ON 3 Kr G (q0b [_, _] H G G G Ku Ts27 G Kf Kf (q00 G) ?_)))))
       intro w H
       refine NA (q0h Kr (TN (RT ?_)))
       obtain ⟨M, hle, hf, H⟩ := H.freezeRow (v := v28) (enc := encB) (t := 5) Kv
       refine WQ.retM1 H Kv ?_
       intro w H
       refine ⟨_, resv_run2 G G ⟨_, G, H.loadAgg Km Ta27 Ts27 Kf⟩, _, _, G, H.ext, ?_⟩
       refine ⟨_, G, ?_⟩
       rw [encode, if_pos Om]
       exact hf
     refine q05 H (none_spec) G (trivial) (q00 G) G ?_
     intro v30 M w H hle hr30
     replace hl27 := hl27.mono hle
     obtain rfl := hr30
     refine NA (ON 0 Kr G ?_)
     first | refine q01 (q08 H rfl (by assumption) Ta88) (q00 rfl) rfl rfl ?_ | refine q01 (XL H Ta88) (q00 rfl) rfl rfl ?_
     refine NA (ON 2 Kr G (AS G G (NA (ON 3 Kr G (q0b [_, _] H G G G Ku Ts27 G Kf Kf (q00 G) ?_)))))
     intro w H
     refine NA (q0h Kr (TN (RT ?_)))
     obtain ⟨M, hle, hf, H⟩ := H.freezeRow (v := v28) (enc := encB) (t := 5) Kv
     refine WQ.retM1 H Kv ?_
     intro w H
     refine ⟨_, resv_run2 G G ⟨_, G, H.loadAgg Km Ta27 Ts27 Kf⟩, _, _, G, H.ext, ?_⟩
     refine ⟨_, G, ?_⟩
     rw [encode, if_pos Om]
     exact hf
   refine NL (TN (CF G (SK (TN (SQ (q0F (m := 4) G G H ?_))))))
   intro w H
   refine q0P (i := 0) (j := 1) Kr G G ?_ ?_
   · first | refine q01 (q08 H rfl (by assumption) Ta88) (q00 rfl) rfl rfl ?_ | refine q01 (XL H Ta88) (q00 rfl) rfl rfl ?_
     refine NA (ON 1 Kr G (q05 H (none_spec) G (trivial) (q00 G) G ?_))
     intro v30 M w H hle hr30
     obtain rfl := hr30
     refine NA (ON 2 Kr G (AS G G (NA (ON 3 Kr G (q0b [_, _] H G G G Ku Ts27 G Kf Kf (q00 G) ?_)))))
     intro w H
     refine NA (q0h Kr (TN (RT ?_)))
     obtain ⟨M, hle, hf, H⟩ := H.freezeRow (v := v) (enc := encB) (t := 5) Kv
     refine WQ.retM1 H Kv ?_
     intro w H
     refine ⟨_, resv_run2 G G ⟨_, G, H.loadAgg Km Ta27 Ts27 Kf⟩, _, _, G, H.ext, ?_⟩
     refine ⟨_, G, ?_⟩
     rw [encode, if_neg Om]
     exact hf
   refine q05 H (none_spec) G (trivial) (q00 G) G ?_
   intro v30 M w H hle hr30
   obtain rfl := hr30
   refine NA (ON 0 Kr G ?_)
   first | refine q01 (q08 H rfl (by assumption) Ta88) (q00 rfl) rfl rfl ?_ | refine q01 (XL H Ta88) (q00 rfl) rfl rfl ?_
   refine NA (ON 2 Kr G (AS G G (NA (ON 3 Kr G (q0b [_, _] H G G G Ku Ts27 G Kf Kf (q00 G) ?_)))))
   intro w H
   refine NA (q0h Kr (TN (RT ?_)))
   obtain ⟨M, hle, hf, H⟩ := H.freezeRow (v := v) (enc := encB) (t := 5) Kv
   refine WQ.retM1 H Kv ?_
   intro w H
   refine ⟨_, resv_run2 G G ⟨_, G, H.loadAgg Km Ta27 Ts27 Kf⟩, _, _, G, H.ext, ?_⟩
   refine ⟨_, G, ?_⟩
   rw [encode, if_neg Om]
   exact hf
 intro Dm w M Lc c pre H hle hpre hz
 exact hz.elim
end Go.Proofs.YtkmjdamkifbddaaGreatDoor
end
section
namespace Go.Ph.Pl
theorem drop_cons {α : Type} {l : List α} {i : Nat} (h : i < l.length) : l.drop i = l[i] :: l.drop (i + 1) := l09 h
theorem scanL {α β : Type} (L : Nat → Int → Option β) (l : List α) (p : α → Bool) (stop r : β) (hend : ∀ m, L (m + 1) (l.length : Int) = some stop)
 (hstep : ∀ m i (h : i < l.length), L (m + 1) (i : Int) = if p l[i] = true then some r else L m ((i + 1 : Nat) : Int)) :
 ∀ (k i m : Nat), l.length - i ≤ k → k < m → i ≤ l.length → L m (i : Int) = some (if (l.drop i).any p = true then r else stop)
 | 0, i, m, h1, h2, h3 => by
   obtain ⟨m, rfl⟩ : ∃ k, m = k + 1 := ⟨m - 1, by omega⟩
   obtain rfl : i = l.length := by omega
   rw [hend, l0Q]; rfl
 | k + 1, i, m, h1, h2, h3 => by
   obtain ⟨m, rfl⟩ : ∃ k, m = k + 1 := ⟨m - 1, by omega⟩
   by_cases hi : i < l.length
   · rw [hstep m i hi, drop_cons hi, l0T]
     by_cases hp : p l[i] = true
     · rw [if_pos hp, hp]; rfl
     rw [if_neg hp, scanL L l p stop r hend hstep k (i + 1) m Om Om Om]
     have : p l[i] = false := by simpa using hp
     rw [this]; rfl
   obtain rfl : i = l.length := by omega
   rw [hend, l0Q]; rfl
theorem scan0 {α β : Type} {L : Nat → Int → Option β} {l : List α} {p : α → Bool} {stop r : β} {m : Nat} (hm : l.length < m) (hend : ∀ m, L (m + 1) (l.length : Int) = some stop)
 (hstep : ∀ m i (h : i < l.length), L (m + 1) (i : Int) = if p l[i] = true then some r else L m ((i + 1 : Nat) : Int)) : L m 0 = some (if l.any p = true then r else stop) := by
 have := scanL L l p stop r hend hstep l.length 0 m Om hm Om
 simpa using this
theorem FU_gt {n : Nat} (h : n ≤ 9223372036854775807) : n < FU := by rw [FU_eq]; omega
end Go.Ph.Pl
end
section
namespace Go.Ph.Pf
open Go.Ph.Pl
def Y12 (p0 : Ls) : Option Bool :=
 if p0.length ≤ 4611686018427387904 then some (Chs.vld p0) else none
def R_Valid (p0 : Ls) : Option Bool :=
 if p0.length ≤ 4611686018427387904 then some (Chs.vld p0) else none
def grapheme_Split (p0 : Ls) : Option (List Ls) :=
 if p0.length ≤ 1048576 then some (Gr.pieces p0) else none
def Y4x (p0 : Ls) : Option (List Ls) :=
 if p0.length ≤ 1048576 then some (Gr.pieces p0) else none
def R_Runes (p0 : Ls) : Option (List Int) :=
 if p0.length ≤ 1048576 then some ((Gr.chars p0).map (·.1)) else none
def Y3d (p0 : Ls) : Option Ls :=
 if p0.length ≤ 9223372036854775807 then some (Chs.lower p0) else none
def R_SetOf (p0 : Ls) : Option Int :=
 if p0.length ≤ 9223372036854775807 then some (match Chs.setOf p0 with | some k => (k : Int) | none => -1) else none
def R_Utf8 (p0 : Int) : Option Ls :=
 some (Chs.utf8 p0)
def Y3r (p0 : Ls) : Option Ls :=
 some (Chs.setN.getD (Chs.bestK p0) [])
def R_Best (p0 : Ls) : Option Ls :=
 if p0.length ≤ 1048576 then some (Chs.setN.getD (Chs.bestK p0) []) else none
def Y2t (p0 : Ls) (p1 : Ls) : Option (Ls × (Int × Int)) :=
 if p0.length ≤ 9223372036854775807 ∧ p1.length ≤ 12000 then (match Chs.setOf p0 with | some k => (if Chs.vld p1 = true then (match Chs.encGo (Chs.encK k) (Gr.chars p1) 0 with | .ok b => some (b, (0, 0)) | .error e => some ([], (17, (e : Int)))) else some ([], (5, -3))) | none => some ([], (18, -2))) else none
def Y3W (p0 : Int) (p1 : Ls) : Option (Ls × Int) :=
 if 0 ≤ p0 ∧ p0 < 4 ∧ p1.length ≤ 1048576 ∧ Chs.vld p1 = true then (match Chs.encGo (Chs.encK p0.toNat) (Gr.chars p1) 0 with | .ok b => some (b, -1) | .error e => some ([], (e : Int))) else none
def Y38 (p0 : Ls) : Option (Ls × (Int × Int)) :=
 if p0.length ≤ 12000 then some (B64.encode p0, (0, 0)) else none
def Y3A (p0 : Ls) : Option Ls :=
 if p0.length ≤ 1000000 then some (B64.chars64 p0) else none
def Y0s (p0 : Ls) (p1 : UInt8) : Option Int :=
 some (ixB p0 p1)
def Y0v (p0 : List Ls) (p1 : Ls) : Option Ls :=
 if p0.length ≤ 140737488355328 ∧ (jn p1 p0).length ≤ 140737488355328 then some (jn p1 p0) else none
def Y1v (p0 : Ls) (p1 : Ls) (p2 : Int) : Option (List Ls) :=
 if p0.length < 4294967281 ∧ 1 ≤ p1.length ∧ 1 ≤ p2 ∧ p2 ≤ 9223372036854775807 then some (Lib.splitN p0 p1 p2.toNat) else none
def Y0X (p0 : Ls) (p1 : Ls) (p2 : Ls) : Option Ls :=
 if p0.length < 4294967281 ∧ 1 ≤ p1.length ∧ p0.length + p0.length * p2.length ≤ 140737488355328 then some (Lib.replaceAll p0 p1 p2) else none
def Y1o (p0 : Ls) (p1 : Ls) : Option Bool :=
 if p0.length < 4294967281 then some (Lib.contains p0 p1) else none
def Y1K (p0 : Ls) (p1 : Ls) : Option Int :=
 if p0.length < 4294967281 then some (Lib.index p0 p1) else none
def Y09 (p0 : Int) (p1 : Int) : Option (Int × Int) :=
 some (p0, p1)
def Y0U (p0 : Ls) (p1 : Ls) : Option Bool :=
 ((if (p1.length : Int) ≤ (p0.length : Int) then (cut p0 0 (p1.length : Int)).bind fun s5 => some (decide (s5 = p1)) else some false)).bind fun b3 => some b3
def Y0p (p0 : Ls) (p1 : Ls) : Option Bool :=
 (Y0U p0 p1).bind fun b1 => some b1
def Y0f (p0 : Ls) (p1 : Ls) : Option Bool :=
 ((if (p1.length : Int) ≤ (p0.length : Int) then (chk ((p0.length : Int) - (p1.length : Int))).bind fun n5 => (cut p0 n5 (p0.length : Int)).bind fun s6 => some (decide (s6 = p1)) else some false)).bind fun b3 => some b3
def Y0V (p0 : Ls) (p1 : Ls) : Option Bool :=
 (Y0f p0 p1).bind fun b1 => some b1
def Y1w (p0 : Ls) : Nat → Int → Option (Unit ⊕ Bool)
 | 0, _ => none
 | m4 + 1, n3 => (if n3 < (p0.length : Int) then ((idx p0 n3).bind fun c9 => (if c9.toNat < 32 then some true else (idx p0 n3).bind fun c11 => some (decide (126 < c11.toNat)))).bind fun b8 => (if b8 = true then some (.inr false) else (chk (n3 + 1)).bind fun n14 => Y1w p0 m4 n14) else some (.inl ()))
def Y3f (p0 : Ls) : Option Bool :=
 ((Y1w p0 FU 0 : Option (Unit ⊕ Bool))).bind fun o27 => (match o27 with | .inl _ => ((Y0p p0 [32]).bind fun b19 => (if b19 = true then some false else (Y0V p0 [32]).bind fun b21 => (if b21 = true then some false else (Y1o p0 [61, 63]).bind fun b23 => some (!b23)))).bind fun b18 => some b18 | .inr r26 => some r26)
def Y0F  : Option (Int × Int) :=
 some (0, 0)
def Y3g (p0 : Ls) (p1 : Ls) : Option (Ls × Ls) :=
 some (p1, p0)
def Y3c (p0 : Ls) : Option Ls :=
 (Y38 p0).bind fun (l1, (n2, n3)) => (Y0X l1 [13, 10] []).bind fun s5 => some s5
def Y0g (p0 : Ls) (p1 : UInt8) : Option (Bool × Ls) :=
 (app 1 p0 ([p1] : Ls)).bind fun l2 => some (true, l2)
def Y1L (p0 : UInt8) : Option Bool :=
 ((if 97 ≤ p0.toNat then (if p0.toNat ≤ 122 then some true else (if 65 ≤ p0.toNat then (if p0.toNat ≤ 90 then some true else (if 48 ≤ p0.toNat then some (decide (p0.toNat ≤ 57)) else some false)) else (if 48 ≤ p0.toNat then some (decide (p0.toNat ≤ 57)) else some false))) else (if 65 ≤ p0.toNat then (if p0.toNat ≤ 90 then some true else (if 48 ≤ p0.toNat then some (decide (p0.toNat ≤ 57)) else some false)) else (if 48 ≤ p0.toNat then some (decide (p0.toNat ≤ 57)) else some false)))).bind fun b3 => some b3
def Y2e (p0 : UInt8) : Option UInt8 :=
 (idx [48, 49, 50, 51, 52, 53, 54, 55, 56, 57, 65, 66, 67, 68, 69, 70] ((p0 &&& (15 : UInt8)).toNat : Int)).bind fun c1 => some c1
def Y1M (p0 : Ls) (p1 : Ls) : Option (Int × Bool × Ls) :=
 (app 1 p0 p1).bind fun l2 => some ((p1.length : Int), true, l2)
def Y17 (p0 : Ls) : Option Ls :=
 some p0
def Y1d (p0 : Ls) : Nat → Ls → Int → Option Ls
 | 0, _, _ => none
 | m14 + 1, l11, n13 => (if n13 < (p0.length : Int) then (idx p0 n13).bind fun c17 => (if c17 = 32 then (Y0g l11 95).bind fun (b19, l20) => (chk (n13 + 1)).bind fun n22 => Y1d p0 m14 l20 n22 else (Y1L c17).bind fun b23 => (if b23 = true then (Y0g l11 c17).bind fun (b26, l27) => (chk (n13 + 1)).bind fun n29 => Y1d p0 m14 l27 n29 else (Y2e (UInt8.ofNat (c17.toNat / 2 ^ 4))).bind fun c30 => (Y2e c17).bind fun c32 => (Y1M l11 ([61, c30, c32] : Ls)).bind fun (n34, b35, l36) => (chk (n13 + 1)).bind fun n38 => Y1d p0 m14 l36 n38)) else some l11)
def Y3B (p0 : Ls) : Option Ls :=
 (Y1d p0 FU [] 0).bind fun l6 => (Y17 l6).bind fun s40 => some s40
def Y2l (p0 : Ls) (p1 : Ls) : Option Ls :=
 (Y2t p0 p1).bind fun (l1, (n2, n3)) => (if p0 = [117, 116, 102, 56] then (cat [61, 63] p0).bind fun s6 => (cat s6 [63, 66, 63]).bind fun s7 => (Y3c l1).bind fun s8 => (cat s7 s8).bind fun s10 => (cat s10 [63, 61]).bind fun s11 => some s11 else (cat [61, 63] p0).bind fun s12 => (cat s12 [63, 81, 63]).bind fun s13 => (Y3B l1).bind fun s14 => (cat s13 s14).bind fun s16 => (cat s16 [63, 61]).bind fun s17 => some s17)
def Y13 {σ : Type} (Y : σ → Ls → Option (σ × Bool)) (a10 : Ls) : Nat → Nat → σ → Option (σ ⊕ σ)
 | 0, _, _ => none
 | m24 + 1, ps22, s23 => (if ps22 < a10.length then (Y s23 (Chs.utf8 ((Utf.dr (a10.drop ps22)).1 : Int))).bind fun (s26, b27) => (if b27 = true then Y13 Y a10 m24 (ps22 + (Utf.dr (a10.drop ps22)).2) s26 else some (.inr s26)) else some (.inl s23))
def Y0z {σ : Type} (Y : σ → Ls → Option (σ × Bool)) (p2 : Ls) (l1 : List Ls) : Nat → Int → σ → Option (σ ⊕ σ)
 | 0, _, _ => none
 | m8 + 1, n6, s7 => (if n6 < (l1.length : Int) then (idx l1 n6).bind fun a10 => (Y2l p2 a10).bind fun s11 => (if (s11.length : Int) ≤ (75 : Int) then (Y s7 a10).bind fun (s14, b15) => (if b15 = true then (chk (n6 + 1)).bind fun n18 => Y0z Y p2 l1 m8 n18 s14 else some (.inr s14)) else ((Y13 Y a10 FU 0 s7 : Option (σ ⊕ σ))).bind fun o33 => (match o33 with | .inl s21 => (chk (n6 + 1)).bind fun n31 => Y0z Y p2 l1 m8 n31 s21 | .inr r32 => some (.inr r32))) else some (.inl s7))
def Y2m (p1 : Ls) (p2 : Ls) (σ : Type) (Y : σ → Ls → Option (σ × Bool)) (s0 : σ) : Option σ :=
 (grapheme_Split p1).bind fun l1 => ((Y0z Y p2 l1 FU 0 s0 : Option (σ ⊕ σ))).bind fun o36 => (match o36 with | .inl s5 => some s5 | .inr r35 => some r35)
def Y1p (s17 : Ls) (s : (List Ls × Ls)) (x32 : Ls) : Option (List Ls × Ls) :=
 match s with
 | (l25, s27) => ((if s27 = [] then some false else (cat s27 x32).bind fun s38 => (Y2l s17 s38).bind fun s39 => some (decide ((75 : Int) < (s39.length : Int))))).bind fun b36 => (if b36 = true then (Y2l s17 s27).bind fun s43 => (app 16 l25 ([s43] : List Ls)).bind fun l45 => (cat [] x32).bind fun s47 => some (l45, s47) else (cat s27 x32).bind fun s48 => some (l25, s48))
def Y0w (p0 : Ls) : Option (Ls × (Int × Int)) :=
 (if (1000 : Int) < (p0.length : Int) then (Y09 1 (-1)).bind fun (n2, n3) => some ([], (n2, n3)) else (Y12 p0).bind fun b5 => (if b5 = true then (Y3f p0).bind fun b11 => (if b11 = true then (Y0F).bind fun (n14, n15) => some (p0, (n14, n15)) else (Y3r p0).bind fun s17 => (Y3g s17 p0).bind fun (z19, z21) => (Y2m z19 z21 (List Ls × Ls) (stepY goOn (Y1p s17)) ([], [])).bind fun (l25, s27) => (Y2l s17 s27).bind fun s49 => (app 16 l25 ([s49] : List Ls)).bind fun l51 => (Y0v l51 [32]).bind fun s53 => (Y0F).bind fun (n55, n56) => some (s53, (n55, n56))) else (Y09 5 (-2)).bind fun (n8, n9) => some ([], (n8, n9))))
def Y1x (p0 : (Int × Int)) : Option Bool :=
 some (!decide (p0.1 = (0 : Int)))
def Y0Y (p0 : UInt8) : Option Bool :=
 ((if p0 = 32 then some true else some (decide (p0 = 9)))).bind fun b3 => some b3
def Y04 (p0 : Ls) (p1 : Ls) : Option (Int × Bool × Ls) :=
 (app 1 p0 p1).bind fun l2 => some ((p1.length : Int), true, l2)
def R_At (p0 : Int) (p1 : Int) : Option (Int × Int) :=
 some (p0, p1)
def R_In (p0 : Int) (p1 : Int) (p2 : Int) : Option Bool :=
 ((if p1 ≤ p0 then some (decide (p0 ≤ p2)) else some false)).bind fun b3 => some b3
def Y30 (p0 : Ls) (p1 : Ls) : Nat → Int → Option (Unit ⊕ Int)
 | 0, _ => none
 | m4 + 1, n3 => (chk (n3 + (p1.length : Int))).bind fun n5 => (if n5 ≤ (p0.length : Int) then (chk (n3 + (p1.length : Int))).bind fun n7 => (cut p0 n3 n7).bind fun s8 => (if s8 = p1 then some (.inr n3) else (chk (n3 + 1)).bind fun n10 => Y30 p0 p1 m4 n10) else some (.inl ()))
def R_Find (p0 : Ls) (p1 : Ls) (p2 : Int) : Option Int :=
 ((Y30 p0 p1 FU p2 : Option (Unit ⊕ Int))).bind fun o13 => (match o13 with | .inl _ => some (-1) | .inr r12 => some r12)
def Y2D (p0 : Ls) : Nat → Int → Option (Unit ⊕ Bool)
 | 0, _ => none
 | m4 + 1, n3 => (if n3 < (p0.length : Int) then (idx p0 n3).bind fun c6 => (R_In (c6.toNat : Int) 32 126).bind fun b7 => (if b7 = true then (chk (n3 + 1)).bind fun n10 => Y2D p0 m4 n10 else some (.inr false)) else some (.inl ()))
def R_Plain (p0 : Ls) : Option Bool :=
 ((Y2D p0 FU 0 : Option (Unit ⊕ Bool))).bind fun o25 => (match o25 with | .inl _ => ((R_Find p0 [61, 63] 0).bind fun n15 => (if n15 < (0 : Int) then (if p0 = [] then some true else (idx p0 0).bind fun c19 => (if c19 = 32 then some false else (chk ((p0.length : Int) - 1)).bind fun n21 => (idx p0 n21).bind fun c22 => some (!decide (c22 = 32)))) else some false)).bind fun b14 => some b14 | .inr r24 => some r24)
def R_Two (p0 : UInt8) : Option Ls :=
 (cut [48, 49, 50, 51, 52, 53, 54, 55, 56, 57, 65, 66, 67, 68, 69, 70] ((UInt8.ofNat (p0.toNat / 16)).toNat : Int) (((UInt8.ofNat (p0.toNat / 16)) + (1 : UInt8)).toNat : Int)).bind fun s1 => (cut [48, 49, 50, 51, 52, 53, 54, 55, 56, 57, 65, 66, 67, 68, 69, 70] ((UInt8.ofNat (p0.toNat % 16)).toNat : Int) (((UInt8.ofNat (p0.toNat % 16)) + (1 : UInt8)).toNat : Int)).bind fun s2 => (cat s1 s2).bind fun s3 => some s3
def Y2f (l3 : Ls) : Nat → Ls → Int → Option Ls
 | 0, _, _ => none
 | m18 + 1, s16, n17 => (if n17 < (l3.length : Int) then (idx l3 n17).bind fun c20 => (if (c20.toNat : Int) = (32 : Int) then (cat s16 [95]).bind fun s22 => (chk (n17 + 1)).bind fun n23 => Y2f l3 m18 s22 n23 else ((R_In (c20.toNat : Int) 48 57).bind fun b27 => (if b27 = true then some true else (R_In (c20.toNat : Int) 65 90).bind fun b29 => (if b29 = true then some true else (R_In (c20.toNat : Int) 97 122).bind fun b31 => some b31))).bind fun b26 => (if b26 = true then (idx l3 n17).bind fun c35 => (cat s16 ([c35] : Ls)).bind fun s36 => (chk (n17 + 1)).bind fun n37 => Y2f l3 m18 s36 n37 else (cat s16 [61]).bind fun s38 => (idx l3 n17).bind fun c39 => (R_Two c39).bind fun s40 => (cat s38 s40).bind fun s42 => (chk (n17 + 1)).bind fun n43 => Y2f l3 m18 s42 n43)) else some s16)
def R_Word (p0 : Ls) (p1 : Ls) : Option Ls :=
 (R_SetOf p0).bind fun n1 => (Y3W n1 p1).bind fun (l3, n4) => (if p0 = [117, 116, 102, 56] then (Y3A l3).bind fun s7 => (cat [61, 63, 117, 116, 102, 56, 63, 66, 63] s7).bind fun s9 => (cat s9 [63, 61]).bind fun s10 => some s10 else (cat [61, 63] p0).bind fun s11 => (cat s11 [63, 81, 63]).bind fun s12 => (Y2f l3 FU s12 0).bind fun s15 => (cat s15 [63, 61]).bind fun s45 => some s45)
def Y1e (l23 : List Int) : Nat → List Ls → Int → Option (List Ls)
 | 0, _, _ => none
 | m34 + 1, l31, n33 => (if n33 < (l23.length : Int) then (idx l23 n33).bind fun a36 => (R_Utf8 a36).bind fun s37 => (app 16 l31 ([s37] : List Ls)).bind fun l39 => (chk (n33 + 1)).bind fun n40 => Y1e l23 m34 l39 n40 else some l31)
def Y1f (p0 : Ls) (l1 : List Ls) : Nat → List Ls → Int → Option (List Ls)
 | 0, _, _ => none
 | m12 + 1, l9, n11 => (if n11 < (l1.length : Int) then (idx l1 n11).bind fun a15 => (R_Word p0 a15).bind fun s16 => (if (s16.length : Int) ≤ (75 : Int) then (idx l1 n11).bind fun a19 => (app 16 l9 ([a19] : List Ls)).bind fun l20 => (chk (n11 + 1)).bind fun n21 => Y1f p0 l1 m12 l20 n21 else (idx l1 n11).bind fun a22 => (R_Runes a22).bind fun l23 => (Y1e l23 FU l9 0).bind fun l28 => (chk (n11 + 1)).bind fun n42 => Y1f p0 l1 m12 l28 n42) else some l9)
def Y2T (p0 : Ls) (p1 : Ls) : Option (List Ls) :=
 (Y4x p1).bind fun l1 => (Y1f p0 l1 FU [] 0).bind fun l6 => some l6
def Y2E (s4 : Ls) (l6 : List Ls) : Nat → Int → Ls → Option (Int × Ls)
 | 0, _, _ => none
 | m23 + 1, n21, s22 => ((if n21 < (l6.length : Int) then (idx l6 n21).bind fun a28 => (cat s22 a28).bind fun s29 => (R_Word s4 s29).bind fun s30 => some (decide ((s30.length : Int) ≤ (75 : Int))) else some false)).bind fun b26 => (if b26 = true then (idx l6 n21).bind fun a34 => (cat s22 a34).bind fun s35 => (chk (n21 + 1)).bind fun n36 => Y2E s4 l6 m23 n36 s35 else some (n21, s22))
def Y2a (s4 : Ls) (l6 : List Ls) : Nat → Ls → Int → Option Ls
 | 0, _, _ => none
 | m13 + 1, s11, n12 => (if n12 < (l6.length : Int) then (idx l6 n12).bind fun a15 => (chk (n12 + 1)).bind fun n16 => (Y2E s4 l6 FU n16 a15).bind fun (n19, s20) => ((if s11 = [] then some s11 else (cat s11 [32]).bind fun s42 => some s42)).bind fun s40 => (R_Word s4 s20).bind fun s44 => (cat s40 s44).bind fun s46 => Y2a s4 l6 m13 s46 n19 else some s11)
def R_Words (p0 : Ls) : Option Ls :=
 (R_Plain p0).bind fun b1 => (if b1 = true then some p0 else (R_Best p0).bind fun s4 => (Y2T s4 p0).bind fun l6 => (Y2a s4 l6 FU [] 0).bind fun s10 => some s10)
def Y1b (p0 : Ls) (s4 : Ls) : Nat → Int → Int → Option (Unit ⊕ Bool)
 | 0, _, _ => none
 | m13 + 1, n11, n12 => (if n12 < (s4.length : Int) then (idx s4 n12).bind fun c15 => (R_In (c15.toNat : Int) 32 126).bind fun b16 => (if b16 = true then (chk (n11 + 1)).bind fun n19 => (idx s4 n12).bind fun c20 => ((if c20 = 32 then some 0 else some n19)).bind fun n23 => ((if (75 : Int) < n23 then some (!decide (s4 = p0)) else some false)).bind fun b28 => (if b28 = true then some (.inr false) else (chk (n12 + 1)).bind fun n32 => Y1b p0 s4 m13 n23 n32) else some (.inr false)) else some (.inl ()))
end Go.Ph.Pf
end
section
namespace Go.Ph.Pf
open Go.Ph.Pl
def Y22 (p0 : Ls) (p1 : (UInt8 → Option Bool)) : Nat → Int → Option (Unit ⊕ Bool)
 | 0, _ => none
 | m4 + 1, n3 => (if n3 < (p0.length : Int) then (idx p0 n3).bind fun c6 => (p1 c6).bind fun b7 => (if b7 = true then (chk (n3 + 1)).bind fun n10 => Y22 p0 p1 m4 n10 else some (.inr false)) else some (.inl ()))
def Y31 (p0 : Ls) (p1 : (UInt8 → Option Bool)) : Option Bool :=
 ((Y22 p0 p1 FU 0 : Option (Unit ⊕ Bool))).bind fun o13 => (match o13 with | .inl _ => some true | .inr r12 => some r12)
end Go.Ph.Pf
end
section
namespace Go.Ph.Pf
open Go.Ph.Pl
def Y0G (p0 : Ls) : Option (Int × Int) :=
 if p0 ≠ [] then some (((Utf.dr p0).1 : Int), ((Utf.dr p0).2 : Int)) else none
def Y1t (p0 : Ls) (p1 : Ls) : Option Int :=
 if p1.length = 1 ∧ p0.length ≤ 1000000 then some ((p0.countP fun c => decide (p1 = [c]) : Nat) : Int) else none
def tabk (k : Nat) : List (Option Ls) := (List.range 256).map fun n => if n = 34 ∧ 1 ≤ k then some [92, 34] else if n = 92 ∧ 2 ≤ k then some [92, 92] else none
def trk (k : Nat) : List Ls := [[34], [92]].take k
def Y0t (p0 : List Ls) : Nat → Bool → Int → Option (Bool ⊕ ((List (Option Ls) × List Ls) × List Ls))
 | 0, _, _ => none
 | m15 + 1, b13, n14 => (if n14 < (p0.length : Int) then (idx p0 n14).bind fun a17 => (if (a17.length : Int) = (1 : Int) then (chk (n14 + 1)).bind fun n19 => (idx p0 n19).bind fun a20 => (if (a20.length : Int) = (1 : Int) then (chk (n14 + 2)).bind fun n23 => Y0t p0 m15 b13 n23 else (chk (n14 + 2)).bind fun n22 => Y0t p0 m15 false n22) else none) else some (.inl b13))
def Y2c (p0 : List Ls) : Option ((List (Option Ls) × List Ls) × List Ls) :=
 ((if (p0.length : Int) = (2 : Int) then (idx p0 0).bind fun a5 => some (decide ((1 : Int) < (a5.length : Int))) else some false)).bind fun b3 => (if b3 = true then none else ((Y0t p0 FU true 0 : Option (Bool ⊕ ((List (Option Ls) × List Ls) × List Ls)))).bind fun o30 => (match o30 with | .inl b12 => (if b12 = true then none else (if p0 = [[92], [92, 92], [34], [92, 34]] then some ((tabk 2, trk 2), p0) else none)) | .inr r29 => some r29))
def Y00 (p0 : (List (Option Ls) × List Ls)) (p1 : Ls) : Nat → Int → Bool → Int → Option (Int × Bool)
 | 0, _, _, _ => none
 | m14 + 1, n11, b12, n13 => (if n13 < (p0.2.length : Int) then (idx p0.2 n13).bind fun a16 => (Y1t p1 a16).bind fun n17 => (if n17 = (0 : Int) then (chk (n13 + 1)).bind fun n26 => Y00 p0 p1 m14 n11 b12 n26 else (idx a16 0).bind fun c20 => (idxO p0.1 (c20.toNat : Int)).bind fun q21 => (chk (((q21.getD []).length : Int) - 1)).bind fun n22 => (chk (n17 * n22)).bind fun n23 => (chk (n11 + n23)).bind fun n24 => (chk (n13 + 1)).bind fun n25 => Y00 p0 p1 m14 n24 true n25) else some (n11, b12))
def Y01 (p0 : (List (Option Ls) × List Ls)) (p1 : Ls) : Nat → Int → Bool → Int → Option (Int × Bool)
 | 0, _, _, _ => none
 | m35 + 1, n32, b33, n34 => (if n34 < (p1.length : Int) then (idx p1 n34).bind fun c37 => (idxO p0.1 (c37.toNat : Int)).bind fun q38 => (if q38.isSome = true then (idxO p0.1 (c37.toNat : Int)).bind fun q40 => (chk (((q40.getD []).length : Int) - 1)).bind fun n41 => (chk (n32 + n41)).bind fun n42 => (chk (n34 + 1)).bind fun n43 => Y01 p0 p1 m35 n42 true n43 else (chk (n34 + 1)).bind fun n44 => Y01 p0 p1 m35 n32 b33 n44) else some (n32, b33))
def Y02 (p0 : (List (Option Ls) × List Ls)) (p1 : Ls) : Nat → Ls → Int → Int → Option Ls
 | 0, _, _, _ => none
 | m56 + 1, l53, n54, n55 => (if n55 < (p1.length : Int) then (idx p1 n55).bind fun c58 => (idxO p0.1 (c58.toNat : Int)).bind fun q59 => (if q59.isSome = true then (frm l53 n54).bind fun n61 => (idxO p0.1 (c58.toNat : Int)).bind fun q62 => (cpyO l53 n61 (q62.getD [])).bind fun (l63, n64) => (chk (n54 + n64)).bind fun n66 => (chk (n55 + 1)).bind fun n67 => Y02 p0 p1 m56 l63 n66 n67 else (idx l53 n54).bind fun c68 => (put l53 n54 c58).bind fun l69 => (chk (n54 + 1)).bind fun n70 => (chk (n55 + 1)).bind fun n71 => Y02 p0 p1 m56 l69 n70 n71) else some l53)
def Y0r (p0 : (List (Option Ls) × List Ls)) (p1 : Ls) : Option Ls :=
 (chk ((p0.2.length : Int) * 8)).bind fun n1 => ((if n1 ≤ (p1.length : Int) then (Y00 p0 p1 FU (p1.length : Int) false 0).bind fun (n9, b10) => some (n9, b10) else (Y01 p0 p1 FU (p1.length : Int) false 0).bind fun (n30, b31) => some (n30, b31))).bind fun (n4, b5) => (if b5 = true then (mkS 1 n4 n4 (0 : UInt8)).bind fun l48 => (Y02 p0 p1 FU l48 0 0).bind fun l52 => some l52 else some p1)
def Y0R (p0 : List Ls) : Option Unit :=
 if p0 = [[92], [92, 92], [34], [92, 34]] then some () else none
def Y0W (p0 : Ls) : Option Ls :=
 Y0r (tabk 2, trk 2) p0
def Y1r (p0 : List (Ls × Ls × Ls)) : Option (List (Ls × Ls × Ls)) := app 48 [] p0
def Y20 (p0 : Ls) : Option Int :=
 (if (500 : Int) < (p0.length : Int) then some 1 else (Y12 p0).bind fun b2 => (if b2 = true then some 0 else some 5))
def Y2i (p0 : UInt8) : Option Bool :=
 ((if 32 ≤ p0.toNat then some (decide (p0.toNat ≤ 126)) else some false)).bind fun b3 => some b3
def Y25 (p0 : Ls) : Option Bool :=
 ((if p0 = [] then some false else (if (p0.length : Int) ≤ (60 : Int) then (Y31 p0 Y2i).bind fun b6 => some b6 else some false))).bind fun b3 => some b3
def Y1j {σ : Type} (Y : σ → Ls → Option (σ × Bool)) : Nat → Ls → σ → Option ((Ls × σ) ⊕ σ)
 | 0, _, _ => none
 | m8 + 1, s6, s7 => (if (0 : Int) < (s6.length : Int) then (Y0G s6).bind fun (n10, n11) => (cut s6 0 n11).bind fun s13 => (Y s7 s13).bind fun (s14, b15) => (if b15 = true then (cut s6 n11 (s6.length : Int)).bind fun s18 => Y1j Y m8 s18 s14 else some (.inr s14)) else some (.inl (s6, s7)))
def Y0q {σ : Type} (Y : σ → Ls → Option (σ × Bool)) (p1 : Ls) (p3 : Int) : Nat → Ls → σ → Option ((Ls × σ) ⊕ σ)
 | 0, _, _ => none
 | m28 + 1, s26, s27 => (Y1K s26 p1).bind fun n29 => (if n29 < (0 : Int) then some (.inl (s26, s27)) else (chk (n29 + p3)).bind fun n32 => (cut s26 0 n32).bind fun s33 => (Y s27 s33).bind fun (s34, b35) => (if b35 = true then (chk (n29 + (p1.length : Int))).bind fun n38 => (cut s26 n38 (s26.length : Int)).bind fun s39 => Y0q Y p1 p3 m28 s39 s34 else some (.inr s34)))
def Y1m (p1 : Ls) (p2 : Ls) (p3 : Int) (σ : Type) (Y : σ → Ls → Option (σ × Bool)) (s0 : σ) : Option σ :=
 (if (p1.length : Int) = (0 : Int) then ((Y1j Y FU p2 s0 : Option ((Ls × σ) ⊕ σ))).bind fun o21 => (match o21 with | .inl (s4, s5) => some s5 | .inr r20 => some r20) else ((Y0q Y p1 p3 FU p2 s0 : Option ((Ls × σ) ⊕ σ))).bind fun o45 => (match o45 with | .inl (s24, s25) => (Y s25 s24).bind fun (s41, b42) => some s41 | .inr r44 => some r44))
def Y1F (p1 : (UInt8 → Option Bool)) (s : (Bool × Nat)) (x6 : Ls) : Option (Bool × Nat) :=
 match s with
 | (b1, _) => ((if x6 = [] then some true else (Y31 x6 p1).bind fun b12 => some (!b12))).bind fun b10 => (if b10 = true then some (false, 1) else some (b1, 0))
def Y2o (p0 : Ls) (p1 : (UInt8 → Option Bool)) : Option Bool :=
 (Y1m [46] p0 0 (Bool × Nat) (stepY exStop (Y1F p1)) (false, 0)).bind fun (b1, tg3) => (if tg3 = 0 then some true else (if tg3 = 1 then some b1 else none))
def Y27 (p0 : UInt8) : Option Bool :=
 ((Y1L p0).bind fun b4 => (if b4 = true then some true else some (decide (p0 = 45)))).bind fun b3 => some b3
def Y2b (p0 : Ls) : Option Bool :=
 ((if (p0.length : Int) ≤ (60 : Int) then (Y2o p0 Y27).bind fun b5 => some b5 else some false)).bind fun b3 => some b3
def Y1q (p0 : (Ls × Ls × Ls)) : Option (Int × Int) :=
 (Y20 p0.1).bind fun n1 => (if n1 = (0 : Int) then (Y25 p0.2.1).bind fun b7 => (if b7 = true then (Y2b p0.2.2).bind fun b13 => (if b13 = true then (Y0F).bind fun (n19, n20) => some (n19, n20) else (Y09 10 (-5)).bind fun (n16, n17) => some (n16, n17)) else (Y09 10 (-4)).bind fun (n10, n11) => some (n10, n11)) else (Y09 n1 (-3)).bind fun (n4, n5) => some (n4, n5))
def Y0Z (p0 : (Ls × Bool × List (Ls × Ls × Ls))) : Nat → Int → Option (Unit ⊕ Int)
 | 0, _ => none
 | m14 + 1, n13 => (if n13 < (p0.2.2.length : Int) then (idx p0.2.2 n13).bind fun a16 => (Y1q (a16.1, a16.2.1, a16.2.2)).bind fun (n17, n18) => (Y1x (n17, n18)).bind fun b20 => (if b20 = true then some (.inr n17) else (chk (n13 + 1)).bind fun n23 => Y0Z p0 m14 n23) else some (.inl ()))
def Y32 (p0 : (Ls × Bool × List (Ls × Ls × Ls))) : Option Int :=
 (Y20 p0.1).bind fun n1 => (if n1 = (0 : Int) then ((if p0.2.1 = (!decide (p0.1 = [])) then (if p0.2.1 = true then some false else some (!decide ((p0.2.2.length : Int) = (1 : Int)))) else some true)).bind fun b6 => (if b6 = true then some 5 else ((Y0Z p0 FU 0 : Option (Unit ⊕ Int))).bind fun o26 => (match o26 with | .inl _ => some 0 | .inr r25 => some r25)) else some n1)
def Y0M (p0 : List (Ls × Bool × List (Ls × Ls × Ls))) : Nat → Int → Int → Option Int
 | 0, _, _ => none
 | m6 + 1, n4, n5 => (if n5 < (p0.length : Int) then (idx p0 n5).bind fun a8 => (chk (n5 + 1)).bind fun n9 => Y0M p0 m6 (IntKind.i64.wrap (n4 + (a8.2.2.length : Int))) n9 else some n4)
def Y0N (p0 : List (Ls × Bool × List (Ls × Ls × Ls))) : Nat → Int → Int → Int → Option ((Int × Int) ⊕ (Int × Int))
 | 0, _, _, _ => none
 | m27 + 1, n24, n25, n26 => (if n26 < (p0.length : Int) then (idx p0 n26).bind fun a29 => (Y32 (a29.1, a29.2.1, a29.2.2)).bind fun n30 => (if n30 = (0 : Int) then (chk (n26 + 1)).bind fun n36 => Y0N p0 m27 n24 n25 n36 else (Y09 n30 n26).bind fun (n33, n34) => some (.inr (n33, n34))) else some (.inl (n24, n25)))
def Y1P (p0 : List (Ls × Bool × List (Ls × Ls × Ls))) : Option (Int × Int) :=
 (Y0M p0 FU 0 0).bind fun n3 => ((if (60 : Int) < (p0.length : Int) then some true else some (decide ((60 : Int) < n3)))).bind fun b13 => (if b13 = true then (Y09 2 (-1)).bind fun (n17, n18) => some (n17, n18) else ((Y0N p0 FU 0 0 0 : Option ((Int × Int) ⊕ (Int × Int)))).bind fun o42 => (match o42 with | .inl (n22, n23) => (Y0F).bind fun (n38, n39) => some (n38, n39) | .inr r41 => some r41))
def Y23 (p0 : UInt8) : Option Bool :=
 ((Y1L p0).bind fun b4 => (if b4 = true then some true else (Y0s [33, 35, 36, 37, 38, 39, 42, 43, 45, 47, 61, 63, 94, 95, 96, 123, 124, 125, 126] p0).bind fun n6 => some (decide ((0 : Int) ≤ n6)))).bind fun b3 => some b3
def Y1T (p0 : Ls) : Option Bool :=
 (Y2o p0 Y23).bind fun b1 => some b1
def Y1U (p0 : Ls) : Option Ls :=
 (Y0R ([[92], [92, 92], [34], [92, 34]] : List Ls)).bind fun _ => (Y0W p0).bind fun s2 => (cat [34] s2).bind fun s3 => (cat s3 [34]).bind fun s4 => some s4
def Y0k (p0 : (Ls × Ls × Ls)) : Option Ls :=
 (Y1T p0.2.1).bind fun b1 => (if b1 = true then (cat p0.2.1 [64]).bind fun s4 => (cat s4 p0.2.2).bind fun s5 => some s5 else (Y1U p0.2.1).bind fun s6 => (cat s6 [64]).bind fun s8 => (cat s8 p0.2.2).bind fun s9 => some s9)
def Y1B (p0 : Ls) (s : (Ls × Nat)) (x11 : Ls) : Option (Ls × Nat) :=
 match s with
 | (s6, _) => ((if x11 = [] then some true else (Y31 x11 Y23).bind fun b17 => some (!b17))).bind fun b15 => (if b15 = true then (Y1U p0).bind fun s21 => some (s21, 1) else some (s6, 0))
def Y1V (p0 : Ls) : Option Ls :=
 (Y0w p0).bind fun (s1, (n2, n3)) => (if s1 = p0 then (Y1m [32] p0 0 (Ls × Nat) (stepY exStop (Y1B p0)) ([], 0)).bind fun (s6, tg8) => (if tg8 = 0 then some p0 else (if tg8 = 1 then some s6 else none)) else some s1)
def Y2j (p0 : (Ls × Ls × Ls)) : Option Ls :=
 (if p0.1 = [] then (Y0k (p0.1, p0.2.1, p0.2.2)).bind fun s2 => some s2 else (Y1V p0.1).bind fun s4 => (cat s4 [32, 60]).bind fun s6 => (Y0k (p0.1, p0.2.1, p0.2.2)).bind fun s7 => (cat s6 s7).bind fun s9 => (cat s9 [62]).bind fun s10 => some s10)
def Y0J (p0 : Ls) (p1 : Ls) : Option Ls :=
 (Y0f p0 p1).bind fun b1 => (if b1 = true then (chk ((p0.length : Int) - (p1.length : Int))).bind fun n4 => (cut p0 0 n4).bind fun s5 => some s5 else some p0)
def Y0x (p0 : Ls) (p1 : Ls) : Option Ls :=
 (Y0J p0 p1).bind fun s1 => some s1
def Y0A (a19 : (Ls × Bool × List (Ls × Ls × Ls))) : Nat → List Ls → Int → Option (List Ls)
 | 0, _, _ => none
 | m29 + 1, l26, n28 => (if n28 < (a19.2.2.length : Int) then (idx a19.2.2 n28).bind fun a32 => (Y2j (a32.1, a32.2.1, a32.2.2)).bind fun s33 => (app 16 l26 ([s33] : List Ls)).bind fun l35 => (chk (n28 + 1)).bind fun n36 => Y0A a19 m29 l35 n36 else some l26)
def Y0B (p0 : List (Ls × Bool × List (Ls × Ls × Ls))) : Nat → List Ls → Int → Option (List Ls)
 | 0, _, _ => none
 | m16 + 1, l13, n15 => (if n15 < (p0.length : Int) then (idx p0 n15).bind fun a19 => (Y0A a19 FU [] 0).bind fun l23 => (Y0v l23 [44, 32]).bind fun s39 => ((if a19.2.1 = true then (Y1V a19.1).bind fun s45 => (cat s45 [58, 32]).bind fun s47 => (cat s47 s39).bind fun s48 => (Y0x s48 [32]).bind fun s49 => (cat s49 [59]).bind fun s51 => some s51 else some s39)).bind fun s43 => (app 16 l13 ([s43] : List Ls)).bind fun l53 => (chk (n15 + 1)).bind fun n54 => Y0B p0 m16 l53 n54 else some l13)
def Y2N (p0 : List (Ls × Bool × List (Ls × Ls × Ls))) : Option (Ls × (Int × Int)) :=
 (Y1P p0).bind fun (n1, n2) => (Y1x (n1, n2)).bind fun b4 => (if b4 = true then some ([], (n1, n2)) else (Y0B p0 FU [] 0).bind fun l10 => (Y0v l10 [44, 32]).bind fun s57 => (if (4000 : Int) < (s57.length : Int) then (Y09 1 (-2)).bind fun (n60, n61) => some ([], (n60, n61)) else (Y0F).bind fun (n63, n64) => some (s57, (n63, n64))))
def Y0c (p0 : (Ls × Int)) : Option ((Ls × Int) ⊕ Int) :=
 some (.inr p0.2)
def Y05  : Nat → Ls → Int → Int → Option ((Ls × Int) ⊕ Int)
 | 0, _, _, _ => none
 | m6 + 1, s3, n4, n5 => (((if (s3.length : Int) ≤ n4 then (Y0c (s3, n4)).bind fun o14 => (match o14 with | .inl o12 => some (.inl (o12.1, o12.2)) | .inr n15 => some (.inr (.inr n15))) else some (.inl (s3, n4))) : Option ((Ls × Int) ⊕ ((Ls × Int) ⊕ Int)))).bind fun o36 => (match o36 with | .inl (s9, n10) => (idx s9 n10).bind fun c17 => (((if c17 = 40 then (chk (n5 + 1)).bind fun n24 => some (.inl (s9, n10, n24)) else (if c17 = 41 then (chk (n5 - 1)).bind fun n26 => (if n26 = (0 : Int) then (chk (n10 + 1)).bind fun n28 => some (.inr (.inl (s9, n28))) else some (.inl (s9, n10, n26))) else (if c17 = 92 then (chk (n10 + 1)).bind fun n30 => some (.inl (s9, n30, n5)) else some (.inl (s9, n10, n5))))) : Option ((Ls × Int × Int) ⊕ ((Ls × Int) ⊕ Int)))).bind fun o34 => (match o34 with | .inl (s20, n21, n22) => (chk (n21 + 1)).bind fun n32 => Y05  m6 s20 n32 n22 | .inr r33 => some r33) | .inr r35 => some r35)
def Y18 (p0 : (Ls × Int)) : Option ((Ls × Int) ⊕ Int) :=
 (Y05  FU p0.1 p0.2 0).bind fun r37 => some r37
def Y0b  : Nat → Ls → Int → Option ((Ls × Int) ⊕ ((Ls × Int) ⊕ Int))
 | 0, _, _ => none
 | m7 + 1, s5, n6 => (if n6 < (s5.length : Int) then (idx s5 n6).bind fun c9 => (Y0Y c9).bind fun b10 => (if b10 = true then (chk (n6 + 1)).bind fun n13 => Y0b  m7 s5 n13 else (if c9 = 40 then (Y18 (s5, n6)).bind fun o17 => (match o17 with | .inl o15 => Y0b  m7 o15.1 o15.2 | .inr n18 => some (.inr (.inr n18))) else some (.inr (.inl (s5, n6))))) else some (.inl (s5, n6)))
def Y26 (p0 : (Ls × Int)) : Option ((Ls × Int) ⊕ Int) :=
 ((Y0b  FU p0.1 p0.2 : Option ((Ls × Int) ⊕ ((Ls × Int) ⊕ Int)))).bind fun o21 => (match o21 with | .inl (s3, n4) => some (.inl (s3, n4)) | .inr r20 => some r20)
def Y0d  : Nat → Ls → Int → Ls → Option ((Ls × (Ls × Int)) ⊕ Int)
 | 0, _, _, _ => none
 | m9 + 1, s4, n5, l7 => (((if (s4.length : Int) ≤ n5 then (Y0c (s4, n5)).bind fun o18 => (match o18 with | .inl o16 => some (.inl (o16.1, o16.2)) | .inr n19 => some (.inr (.inr n19))) else some (.inl (s4, n5))) : Option ((Ls × Int) ⊕ ((Ls × (Ls × Int)) ⊕ Int)))).bind fun o54 => (match o54 with | .inl (s13, n14) => (idx s13 n14).bind fun c21 => (if c21 = 34 then (chk (n14 + 1)).bind fun n23 => some (.inl (l7, (s13, n23))) else (((if c21 = 92 then (chk (n14 + 1)).bind fun n33 => (((if (s13.length : Int) ≤ n33 then (Y0c (s13, n33)).bind fun o41 => (match o41 with | .inl o39 => some (.inl (o39.1, o39.2)) | .inr n42 => some (.inr (.inr n42))) else some (.inl (s13, n33))) : Option ((Ls × Int) ⊕ ((Ls × (Ls × Int)) ⊕ Int)))).bind fun o47 => (match o47 with | .inl (s36, n37) => (idx s36 n37).bind fun c44 => (app 1 l7 ([c44] : Ls)).bind fun l45 => some (.inl (s36, n37, l45)) | .inr r46 => some (.inr r46)) else (app 1 l7 ([c21] : Ls)).bind fun l48 => some (.inl (s13, n14, l48))) : Option ((Ls × Int × Ls) ⊕ ((Ls × (Ls × Int)) ⊕ Int)))).bind fun o52 => (match o52 with | .inl (s27, n28, l30) => (chk (n28 + 1)).bind fun n50 => Y0d  m9 s27 n50 l30 | .inr r51 => some r51)) | .inr r53 => some r53)
def Y1s (p0 : (Ls × Int)) : Option ((Ls × (Ls × Int)) ⊕ Int) :=
 (chk (p0.2 + 1)).bind fun n1 => (Y0d  FU p0.1 n1 []).bind fun r55 => some r55
def Y0j  : Nat → Ls → Int → Option (Ls × Int)
 | 0, _, _ => none
 | m23 + 1, s21, n22 => ((if n22 < (s21.length : Int) then (idx s21 n22).bind fun c28 => (Y23 c28).bind fun b29 => (if b29 = true then some true else (idx s21 n22).bind fun c31 => some (decide (c31 = 46))) else some false)).bind fun b26 => (if b26 = true then (chk (n22 + 1)).bind fun n34 => Y0j  m23 s21 n34 else some (s21, n22))
def Y0i (p0 : (Ls × Int)) : Option ((Elt × (Ls × Int)) ⊕ Int) :=
 (Y26 (p0.1, p0.2)).bind fun o3 => (match o3 with | .inl o1 => (if (o1.1.length : Int) ≤ o1.2 then some (.inl ((none : Elt), (o1.1, o1.2))) else (idx o1.1 o1.2).bind fun c6 => (if c6 = 34 then (Y1s (o1.1, o1.2)).bind fun o11 => (match o11 with | .inl (s8, o9) => some (.inl ((eltW (s8, true)), (o9.1, o9.2))) | .inr n12 => some (.inr n12)) else (Y0s [58, 59, 44, 64, 60, 62] c6).bind fun n13 => (if (0 : Int) ≤ n13 then (chk (o1.2 + 1)).bind fun n16 => some (.inl ((eltS c6), (o1.1, n16))) else (Y0j  FU o1.1 o1.2).bind fun (s19, n20) => (((if n20 = o1.2 then (Y0c (s19, n20)).bind fun o43 => (match o43 with | .inl o41 => some (.inl (o41.1, o41.2)) | .inr n44 => some (.inr (.inr n44))) else some (.inl (s19, n20))) : Option ((Ls × Int) ⊕ ((Elt × (Ls × Int)) ⊕ Int)))).bind fun o48 => (match o48 with | .inl (s38, n39) => (cut s38 o1.2 n39).bind fun s46 => some (.inl ((eltW (s46, false)), (s38, n39))) | .inr r47 => some r47)))) | .inr n4 => some (.inr n4))
def Y0l (p0 : (Ls × Int)) : Option ((Elt × (Ls × Int)) ⊕ Int) :=
 (Y0i (p0.1, p0.2)).bind fun o4 => (match o4 with | .inl (n1, o2) => some (.inl (n1, (o2.1, p0.2))) | .inr n5 => some (.inr n5))
def Y0e  : Nat → Ls → Int → List (Ls × Bool) → Option ((List (Ls × Bool) × (Ls × Int)) ⊕ Int)
 | 0, _, _, _ => none
 | m8 + 1, s3, n4, l6 => (Y0l (s3, n4)).bind fun o13 => (match o13 with | .inl (n10, o11) => (okW n10).bind fun (w15, b16) => (if b16 = true then (Y0i (o11.1, o11.2)).bind fun o22 => (match o22 with | .inl (n19, o20) => (app 24 l6 ([(w15.1, w15.2)] : List (Ls × Bool))).bind fun l24 => Y0e  m8 o20.1 o20.2 l24 | .inr n23 => some (.inr n23)) else some (.inl (l6, (o11.1, o11.2)))) | .inr n14 => some (.inr n14))
def Y0I (p0 : (Ls × Int)) : Option ((List (Ls × Bool) × (Ls × Int)) ⊕ Int) :=
 (Y0e  FU p0.1 p0.2 []).bind fun r26 => some r26
def Y0u (p0 : (Ls × Int)) (p1 : UInt8) : Option ((Bool × (Ls × Int)) ⊕ Int) :=
 (Y0l (p0.1, p0.2)).bind fun o4 => (match o4 with | .inl (n1, o2) => (if n1 = (eltS p1) then (Y0i (o2.1, o2.2)).bind fun o10 => (match o10 with | .inl (n7, o8) => some (.inl (true, (o8.1, o8.2))) | .inr n11 => some (.inr n11)) else some (.inl (false, (o2.1, o2.2)))) | .inr n5 => some (.inr n5))
def Y0S (p0 : (Ls × Int)) (p1 : UInt8) : Option ((Ls × Int) ⊕ Int) :=
 (Y0u (p0.1, p0.2) p1).bind fun o4 => (match o4 with | .inl (b1, o2) => (if b1 = true then some (.inl (o2.1, o2.2)) else (Y0c (o2.1, o2.2)).bind fun o9 => (match o9 with | .inl o7 => some (.inl (o7.1, o7.2)) | .inr n10 => some (.inr n10))) | .inr n5 => some (.inr n5))
def Y0H (p0 : (Ls × Int)) (p1 : List (Ls × Bool)) : Option (((Ls × Ls × Ls) × (Ls × Int)) ⊕ Int) :=
 ((if (p1.length : Int) = (1 : Int) then (idx p1 0).bind fun a5 => (Y25 a5.1).bind fun b6 => (if b6 = true then (idx p1 0).bind fun a8 => (if a8.2 = true then some false else (idx p1 0).bind fun a10 => (Y1T a10.1).bind fun b11 => some (!b11)) else some true) else some true)).bind fun b3 => (((if b3 = true then (Y0c (p0.1, p0.2)).bind fun o21 => (match o21 with | .inl o19 => some (.inl (o19.1, o19.2)) | .inr n22 => some (.inr (.inr n22))) else some (.inl (p0.1, p0.2))) : Option ((Ls × Int) ⊕ (((Ls × Ls × Ls) × (Ls × Int)) ⊕ Int)))).bind fun o57 => (match o57 with | .inl (s16, n17) => (Y0S (s16, n17) 64).bind fun o26 => (match o26 with | .inl o24 => (Y0i (o24.1, o24.2)).bind fun o31 => (match o31 with | .inl (n28, o29) => (okW n28).bind fun (w33, b34) => ((if b34 = true then (if w33.2 = true then some true else (Y2b w33.1).bind fun b40 => some (!b40)) else some true)).bind fun b38 => (((if b38 = true then (Y0c (o29.1, o29.2)).bind fun o50 => (match o50 with | .inl o48 => some (.inl (o48.1, o48.2)) | .inr n51 => some (.inr (.inr n51))) else some (.inl (o29.1, o29.2))) : Option ((Ls × Int) ⊕ (((Ls × Ls × Ls) × (Ls × Int)) ⊕ Int)))).bind fun o55 => (match o55 with | .inl (s45, n46) => (idx p1 0).bind fun a53 => some (.inl (([], a53.1, w33.1), (s45, n46))) | .inr r54 => some r54) | .inr n32 => some (.inr n32)) | .inr n27 => some (.inr n27)) | .inr r56 => some r56)
def Y4c (p0 : Ls) : Option (Ls × Int × Bool) :=
 (Y0p p0 [61, 63]).bind fun b1 => (if b1 = true then (cut p0 2 (min (p0.length : Int) 75)).bind fun s4 => (Y1v s4 [63] 4).bind fun l5 => ((if (l5.length : Int) < (4 : Int) then some true else (idx l5 3).bind fun a11 => (Y0p a11 [61]).bind fun b12 => some (!b12))).bind fun b9 => (if b9 = true then some ([], 0, false) else none) else some ([], 0, false))
def Y1G (p0 : Ls) : Nat → Ls → Int → Int → Option (Ls × Int)
 | 0, _, _, _ => none
 | m20 + 1, l16, n18, n19 => (if n19 < (p0.length : Int) then (cut p0 n19 (p0.length : Int)).bind fun s23 => (Y4c s23).bind fun (s24, n25, b26) => (if b26 = true then (Y04 l16 s24).bind fun (n67, b68, l69) => (chk (n19 + n25)).bind fun n71 => Y1G p0 m20 l69 n71 n71 else ((if n18 < (0 : Int) then (idx p0 n19).bind fun c37 => (Y0g l16 c37).bind fun (b38, l39) => some l39 else some l16)).bind fun l34 => ((if (0 : Int) ≤ n18 then (idx p0 n19).bind fun c46 => (Y0Y c46).bind fun b47 => some (!b47) else some false)).bind fun b44 => ((if b44 = true then (chk (n19 + 1)).bind fun n59 => (cut p0 n18 n59).bind fun s60 => (Y04 l34 s60).bind fun (n61, b62, l63) => some (l63, (-1)) else some (l34, n18))).bind fun (l55, n57) => (chk (n19 + 1)).bind fun n66 => Y1G p0 m20 l55 n57 n66) else some (l16, n18))
def Y3L (p0 : Ls) : Option (Ls × (Int × Int)) :=
 (if (4000 : Int) < (p0.length : Int) then (Y09 1 (-1)).bind fun (n2, n3) => some ([], (n2, n3)) else (Y1G p0 FU [] (-1) 0).bind fun (l10, n12) => ((if (0 : Int) ≤ n12 then (cut p0 n12 (p0.length : Int)).bind fun s81 => (Y04 l10 s81).bind fun (n82, b83, l84) => some l84 else some l10)).bind fun l78 => (Y17 l78).bind fun s87 => (Y0F).bind fun (n89, n90) => some (s87, (n89, n90)))
def Y2O (p0 : List Ls) (p1 : List Ls) : Option (List Ls × List Ls) :=
 (if (0 : Int) < (p0.length : Int) then (Y0v p0 [32]).bind fun s4 => (Y3L s4).bind fun (s6, (n7, n8)) => (app 16 p1 ([s6] : List Ls)).bind fun l10 => some ([], l10) else some (p0, p1))
def Y1H (p0 : List (Ls × Bool)) : Nat → List Ls → List Ls → Int → Option (List Ls × List Ls)
 | 0, _, _, _ => none
 | m16 + 1, l10, l13, n15 => (if n15 < (p0.length : Int) then (idx p0 n15).bind fun a20 => (if a20.2 = true then (Y2O l13 l10).bind fun (o22, o23) => (app 16 o23 ([a20.1] : List Ls)).bind fun l25 => (chk (n15 + 1)).bind fun n26 => Y1H p0 m16 l25 o22 n26 else (app 16 l13 ([a20.1] : List Ls)).bind fun l27 => (chk (n15 + 1)).bind fun n28 => Y1H p0 m16 l10 l27 n28) else some (l10, l13))
def Y39 (p0 : List (Ls × Bool)) : Option Ls :=
 (Y1H p0 FU [] [] 0).bind fun (l4, l7) => (Y2O l7 l4).bind fun (o30, o31) => (Y0v o31 [32]).bind fun s34 => some s34
def Y19 (p0 : (Ls × Int)) (p1 : List (Ls × Bool)) : Option (((Ls × Ls × Ls) × (Ls × Int)) ⊕ Int) :=
 (Y0u (p0.1, p0.2) 60).bind fun o4 => (match o4 with | .inl (b1, o2) => (if b1 = true then (Y0I (o2.1, o2.2)).bind fun o17 => (match o17 with | .inl (l14, o15) => (Y0H (o15.1, o15.2) l14).bind fun o24 => (match o24 with | .inl ((s19, s20, s21), o22) => (Y39 p1).bind fun s26 => (Y0S (o22.1, o22.2) 62).bind fun o30 => (match o30 with | .inl o28 => some (.inl ((s26, s20, s21), (o28.1, o28.2))) | .inr n31 => some (.inr n31)) | .inr n25 => some (.inr n25)) | .inr n18 => some (.inr n18)) else (Y0H (o2.1, o2.2) p1).bind fun o12 => (match o12 with | .inl ((s7, s8, s9), o10) => some (.inl ((s7, s8, s9), (o10.1, o10.2))) | .inr n13 => some (.inr n13))) | .inr n5 => some (.inr n5))
def Y1a  : Nat → Ls → Int → Ls → Bool → List (Ls × Ls × Ls) → Ls → Bool → List (Ls × Ls × Ls) → Option (((Ls × Bool × List (Ls × Ls × Ls)) × (Ls × Int)) ⊕ Int)
 | 0, _, _, _, _, _, _, _, _ => none
 | m51 + 1, s39, n40, s41, b42, l43, s46, b47, l49 => (Y0I (s39, n40)).bind fun o56 => (match o56 with | .inl (l53, o54) => (Y19 (o54.1, o54.2) l53).bind fun o63 => (match o63 with | .inl ((s58, s59, s60), o61) => (app 48 l49 ([(s58, s59, s60)] : List (Ls × Ls × Ls))).bind fun l65 => (Y0u (o61.1, o61.2) 59).bind fun o70 => (match o70 with | .inl (b67, o68) => (if b67 = true then some (.inl ((s46, b47, l65), (o68.1, o68.2))) else (Y0S (o68.1, o68.2) 44).bind fun o76 => (match o76 with | .inl o74 => Y1a  m51 o74.1 o74.2 s41 b42 l43 s46 b47 l65 | .inr n77 => some (.inr n77))) | .inr n71 => some (.inr n71)) | .inr n64 => some (.inr n64)) | .inr n57 => some (.inr n57))
def Y0T (p0 : (Ls × Int)) : Option (((Ls × Bool × List (Ls × Ls × Ls)) × (Ls × Int)) ⊕ Int) :=
 (Y0I (p0.1, p0.2)).bind fun o4 => (match o4 with | .inl (l1, o2) => (Y0u (o2.1, o2.2) 58).bind fun o9 => (match o9 with | .inl (b6, o7) => (if b6 = true then (Y39 l1).bind fun s19 => (((if s19 = [] then (Y0c (o7.1, o7.2)).bind fun o28 => (match o28 with | .inl o26 => some (.inl (o26.1, o26.2)) | .inr n29 => some (.inr (.inr n29))) else some (.inl (o7.1, o7.2))) : Option ((Ls × Int) ⊕ (((Ls × Bool × List (Ls × Ls × Ls)) × (Ls × Int)) ⊕ Int)))).bind fun o80 => (match o80 with | .inl (s23, n24) => (Y0u (s23, n24) 59).bind fun o34 => (match o34 with | .inl (b31, o32) => (if b31 = true then some (.inl ((s19, true, []), (o32.1, o32.2))) else (Y1a  FU o32.1 o32.2 [] false [] s19 true []).bind fun r78 => some r78) | .inr n35 => some (.inr n35)) | .inr r79 => some r79) else (Y19 (o7.1, o7.2) l1).bind fun o17 => (match o17 with | .inl ((s12, s13, s14), o15) => some (.inl (([], false, ([(s12, s13, s14)] : List (Ls × Ls × Ls))), (o15.1, o15.2))) | .inr n18 => some (.inr n18))) | .inr n10 => some (.inr n10)) | .inr n5 => some (.inr n5))
def Y1I (p0 : Ls) : Nat → List (Ls × Bool × List (Ls × Ls × Ls)) → Ls → Int → Option ((List (Ls × Bool × List (Ls × Ls × Ls)) × Ls × Int) ⊕ (List (Ls × Bool × List (Ls × Ls × Ls)) × (Int × Int)))
 | 0, _, _, _ => none
 | m49 + 1, l43, s47, n48 => (Y0u (s47, n48) 44).bind fun o53 => (match o53 with | .inl (b50, o51) => (if b50 = true then (Y0T (o51.1, o51.2)).bind fun o61 => (match o61 with | .inl ((s56, b57, l58), o59) => (app 48 l43 ([(s56, b57, l58)] : List (Ls × Bool × List (Ls × Ls × Ls)))).bind fun l64 => Y1I p0 m49 l64 o59.1 o59.2 | .inr n62 => some (.inr ([], ((11 : Int), (min n62 (p0.length : Int)))))) else some (.inl (l43, o51.1, o51.2))) | .inr n54 => some (.inr ([], ((11 : Int), (min n54 (p0.length : Int))))))
def Y2p (p0 : Ls) : Option (List (Ls × Bool × List (Ls × Ls × Ls)) × (Int × Int)) :=
 (if (4000 : Int) < (p0.length : Int) then (Y09 1 (-1)).bind fun (n2, n3) => some ([], (n2, n3)) else (Y0l (p0, 0)).bind fun o9 => (match o9 with | .inl (n6, o7) => (((if n6 = none then some (.inl []) else (Y0T (o7.1, o7.2)).bind fun o24 => (match o24 with | .inl ((s19, b20, l21), o22) => (app 48 ([] : List (Ls × Bool × List (Ls × Ls × Ls))) ([(s19, b20, l21)] : List (Ls × Bool × List (Ls × Ls × Ls)))).bind fun l29 => ((Y1I p0 FU l29 o22.1 o22.2 : Option ((List (Ls × Bool × List (Ls × Ls × Ls)) × Ls × Int) ⊕ (List (Ls × Bool × List (Ls × Ls × Ls)) × (Int × Int))))).bind fun o80 => (match o80 with | .inl (l36, s40, n41) => (Y0l (s40, n41)).bind fun o72 => (match o72 with | .inl (n69, o70) => (if n69 = none then some (.inl l36) else (Y0c (o70.1, o70.2)).bind fun o77 => (match o77 with | .inl o75 => some (.inl l36) | .inr n78 => some (.inr ([], ((11 : Int), (min n78 (p0.length : Int))))))) | .inr n73 => some (.inr ([], ((11 : Int), (min n73 (p0.length : Int)))))) | .inr r79 => some (.inr r79)) | .inr n25 => some (.inr ([], ((11 : Int), (min n25 (p0.length : Int))))))) : Option (List (Ls × Bool × List (Ls × Ls × Ls)) ⊕ (List (Ls × Bool × List (Ls × Ls × Ls)) × (Int × Int))))).bind fun o98 => (match o98 with | .inl l14 => (Y1P l14).bind fun (n85, n86) => (Y1x (n85, n86)).bind fun b88 => (if b88 = true then (Y09 n85 (-2)).bind fun (n91, n92) => some ([], (n91, n92)) else (Y0F).bind fun (n94, n95) => some (l14, (n94, n95))) | .inr r97 => some r97) | .inr n10 => some ([], ((11 : Int), (min n10 (p0.length : Int))))))
def Y2v (p0 : (Ls × Ls × Ls)) : Option (Ls × (Int × Int)) :=
 (Y1q (p0.1, p0.2.1, p0.2.2)).bind fun (n1, n2) => (Y1x (n1, n2)).bind fun b4 => (if b4 = true then some ([], (n1, n2)) else (Y3d p0.2.2).bind fun s7 => (Y0k (p0.1, p0.2.1, s7)).bind fun s9 => (Y0F).bind fun (n11, n12) => some (s9, (n11, n12)))
def Y1y (p0 : List (Ls × Bool × List (Ls × Ls × Ls))) : Nat → List (Ls × Ls × Ls) → Int → Option (List (Ls × Ls × Ls))
 | 0, _, _ => none
 | m16 + 1, l13, n15 => (if n15 < (p0.length : Int) then (idx p0 n15).bind fun a19 => (Y1r a19.2.2).bind fun l20 => (app 48 l13 l20).bind fun l22 => (chk (n15 + 1)).bind fun n23 => Y1y p0 m16 l22 n23 else some l13)
def Y2U (p0 : List (Ls × Bool × List (Ls × Ls × Ls))) : Option (List (Ls × Ls × Ls) × (Int × Int)) :=
 (Y1P p0).bind fun (n1, n2) => (Y1x (n1, n2)).bind fun b4 => (if b4 = true then some ([], (n1, n2)) else (Y1y p0 FU [] 0).bind fun l10 => (Y0F).bind fun (n25, n26) => some (l10, (n25, n26)))
def Y0O  : Option Bool :=
 (Y2N ([([], false, ([([65, 46, 32, 66], [97], [120])] : List (Ls × Ls × Ls)))] : List (Ls × Bool × List (Ls × Ls × Ls)))).bind fun (s2, (n3, n4)) => (Y2p [103, 58, 32, 97, 64, 120, 44, 32, 98, 64, 120, 59]).bind fun (l6, (n7, n8)) => (Y2v ([], [65], [88, 46, 69, 120, 97, 109, 112, 108, 101])).bind fun (s10, (n11, n12)) => (Y2U l6).bind fun (l14, (n15, n16)) => ((if n3 = (0 : Int) then (if n7 = (0 : Int) then (if n11 = (0 : Int) then (if n15 = (0 : Int) then (if s2 = [34, 65, 46, 32, 66, 34, 32, 60, 97, 64, 120, 62] then (if (l6.length : Int) = (1 : Int) then (idx l6 0).bind fun a27 => (if a27.2.1 = true then (idx l6 0).bind fun a29 => (if a29.1 = [103] then (if s10 = [65, 64, 120, 46, 101, 120, 97, 109, 112, 108, 101] then (if (l14.length : Int) = (2 : Int) then (idx l14 1).bind fun a33 => some (decide (a33.2.1 = [98])) else some false) else some false) else some false) else some false) else some false) else some false) else some false) else some false) else some false) else some false)).bind fun b20 => some b20
def Y1Q (p0 : Ls) : Option Int :=
 (if (500 : Int) < (p0.length : Int) then some 1 else (R_Valid p0).bind fun b2 => (if b2 = true then some 0 else some 5))
def Y1z (p0 : Ls) : Nat → Int → Option (Unit ⊕ Bool)
 | 0, _ => none
 | m4 + 1, n3 => (if n3 < (p0.length : Int) then (idx p0 n3).bind fun c6 => (R_In (c6.toNat : Int) 32 126).bind fun b7 => (if b7 = true then (chk (n3 + 1)).bind fun n10 => Y1z p0 m4 n10 else some (.inr false)) else some (.inl ()))
def Y3k (p0 : Ls) : Option Bool :=
 ((Y1z p0 FU 0 : Option (Unit ⊕ Bool))).bind fun o15 => (match o15 with | .inl _ => (R_In (p0.length : Int) 1 60).bind fun b12 => some b12 | .inr r14 => some r14)
def Y41 (p0 : UInt8) : Option Bool :=
 ((R_In (p0.toNat : Int) 97 122).bind fun b4 => (if b4 = true then some true else (R_In (p0.toNat : Int) 65 90).bind fun b6 => (if b6 = true then some true else (R_In (p0.toNat : Int) 48 57).bind fun b8 => some b8))).bind fun b3 => some b3
def Y3E (p0 : UInt8) (p1 : Ls) : Nat → Int → Option (Unit ⊕ Bool)
 | 0, _ => none
 | m4 + 1, n3 => (if n3 < (p1.length : Int) then (idx p1 n3).bind fun c6 => (if c6 = p0 then some (.inr true) else (chk (n3 + 1)).bind fun n8 => Y3E p0 p1 m4 n8) else some (.inl ()))
def R_OneOf (p0 : UInt8) (p1 : Ls) : Option Bool :=
 ((Y3E p0 p1 FU 0 : Option (Unit ⊕ Bool))).bind fun o11 => (match o11 with | .inl _ => some false | .inr r10 => some r10)
def Y2V (p0 : UInt8) : Option Bool :=
 ((Y41 p0).bind fun b4 => (if b4 = true then some true else (R_OneOf p0 [33, 35, 36, 37, 38, 39, 42, 43, 45, 47, 61, 63, 94, 95, 96, 123, 124, 125, 126]).bind fun b6 => some b6)).bind fun b3 => some b3
def Y1W (p0 : Ls) (p1 : Bool) : Nat → Bool → Int → Option (Bool ⊕ Bool)
 | 0, _, _ => none
 | m6 + 1, b4, n5 => (if n5 < (p0.length : Int) then (idx p0 n5).bind fun c8 => (if c8 = 46 then (if b4 = true then some (.inr false) else (chk (n5 + 1)).bind fun n11 => Y1W p0 p1 m6 true n11) else ((idx p0 n5).bind fun c15 => (Y2V c15).bind fun b16 => (if b16 = true then (if p1 = true then (idx p0 n5).bind fun c18 => (Y41 c18).bind fun b19 => (if b19 = true then some false else (idx p0 n5).bind fun c21 => some (!decide (c21 = 45))) else some false) else some true)).bind fun b14 => (if b14 = true then some (.inr false) else (chk (n5 + 1)).bind fun n24 => Y1W p0 p1 m6 false n24)) else some (.inl b4))
def Y3s (p0 : Ls) (p1 : Bool) : Option Bool :=
 ((Y1W p0 p1 FU true 0 : Option (Bool ⊕ Bool))).bind fun o27 => (match o27 with | .inl b3 => some (!b3) | .inr r26 => some r26)
def Y1X (p0 : (Ls × Ls × Ls)) : Option (Int × Int) :=
 (Y1Q p0.1).bind fun n1 => (if n1 = (0 : Int) then (Y3k p0.2.1).bind fun b9 => (if b9 = true then ((if (60 : Int) < (p0.2.2.length : Int) then some true else (Y3s p0.2.2 true).bind fun b19 => some (!b19))).bind fun b17 => (if b17 = true then (R_At 10 (-5)).bind fun (n23, n24) => some (n23, n24) else some (0, 0)) else (R_At 10 (-4)).bind fun (n12, n13) => some (n12, n13)) else (Y1Q p0.1).bind fun n4 => (R_At n4 (-3)).bind fun (n6, n7) => some (n6, n7))
def Y10 (p0 : List (Ls × Bool × List (Ls × Ls × Ls))) : Nat → Int → Int → Option Int
 | 0, _, _ => none
 | m6 + 1, n4, n5 => (if n5 < (p0.length : Int) then (idx p0 n5).bind fun a8 => (chk (n5 + 1)).bind fun n9 => Y10 p0 m6 (IntKind.i64.wrap (n4 + (a8.2.2.length : Int))) n9 else some n4)
def Y0L (n26 : Int) (a29 : (Ls × Bool × List (Ls × Ls × Ls))) : Nat → Int → Int → Int → Option ((Int × Int) ⊕ (Int × Int))
 | 0, _, _, _ => none
 | m59 + 1, n56, n57, n58 => (if n58 < (a29.2.2.length : Int) then (idx a29.2.2 n58).bind fun a61 => (Y1X (a61.1, a61.2.1, a61.2.2)).bind fun (n62, n63) => (if n62 = (0 : Int) then (chk (n58 + 1)).bind fun n69 => Y0L n26 a29 m59 n56 n57 n69 else (R_At n62 n26).bind fun (n66, n67) => some (.inr (n66, n67))) else some (.inl (n56, n57)))
def Y11 (p0 : List (Ls × Bool × List (Ls × Ls × Ls))) : Nat → Int → Int → Int → Option ((Int × Int) ⊕ (Int × Int))
 | 0, _, _, _ => none
 | m27 + 1, n24, n25, n26 => (if n26 < (p0.length : Int) then (idx p0 n26).bind fun a29 => (Y1Q a29.1).bind fun n30 => (if n30 = (0 : Int) then ((if a29.2.1 = true then (if a29.1 = [] then some true else (if a29.2.1 = true then some false else (if a29.1 = [] then some (!decide ((a29.2.2.length : Int) = (1 : Int))) else some true))) else (if a29.2.1 = true then some false else (if a29.1 = [] then some (!decide ((a29.2.2.length : Int) = (1 : Int))) else some true)))).bind fun b40 => (if b40 = true then (R_At 5 n26).bind fun (n49, n50) => some (.inr (n49, n50)) else ((Y0L n26 a29 FU n24 n25 0 : Option ((Int × Int) ⊕ (Int × Int)))).bind fun o73 => (match o73 with | .inl (n54, n55) => (chk (n26 + 1)).bind fun n71 => Y11 p0 m27 n54 n55 n71 | .inr r72 => some (.inr r72))) else (Y1Q a29.1).bind fun n33 => (R_At n33 n26).bind fun (n35, n36) => some (.inr (n35, n36))) else some (.inl (n24, n25)))
def Y24 (p0 : List (Ls × Bool × List (Ls × Ls × Ls))) : Option (Int × Int) :=
 (Y10 p0 FU 0 0).bind fun n3 => ((if (60 : Int) < (p0.length : Int) then some true else some (decide ((60 : Int) < n3)))).bind fun b13 => (if b13 = true then (R_At 2 (-1)).bind fun (n17, n18) => some (n17, n18) else ((Y11 p0 FU 0 0 0 : Option ((Int × Int) ⊕ (Int × Int)))).bind fun o76 => (match o76 with | .inl (n22, n23) => some (0, 0) | .inr r75 => some r75))
def Y2J (p0 : Ls) : Nat → Ls → Int → Option Ls
 | 0, _, _ => none
 | m6 + 1, s4, n5 => (if n5 < (p0.length : Int) then ((idx p0 n5).bind fun c11 => (if c11 = 34 then some true else (idx p0 n5).bind fun c13 => some (decide (c13 = 92)))).bind fun b10 => ((if b10 = true then (cat s4 [92]).bind fun s19 => some s19 else some s4)).bind fun s17 => (chk (n5 + 1)).bind fun n21 => (cut p0 n5 n21).bind fun s22 => (cat s17 s22).bind fun s23 => (chk (n5 + 1)).bind fun n24 => Y2J p0 m6 s23 n24 else some s4)
def R_Quote (p0 : Ls) : Option Ls :=
 (Y2J p0 FU [34] 0).bind fun s3 => (cat s3 [34]).bind fun s26 => some s26
def Y1Y (p0 : Ls) : Nat → Int → Option (Unit ⊕ Ls)
 | 0, _ => none
 | m9 + 1, n8 => (if n8 < (p0.length : Int) then ((idx p0 n8).bind fun c14 => (Y2V c14).bind fun b15 => (if b15 = true then some false else (idx p0 n8).bind fun c17 => (if c17 = 32 then (chk (n8 - 1)).bind fun n19 => (idx p0 n19).bind fun c20 => some (decide (c20 = 32)) else some true))).bind fun b13 => (if b13 = true then (R_Quote p0).bind fun s23 => some (.inr s23) else (chk (n8 + 1)).bind fun n25 => Y1Y p0 m9 n25) else some (.inl ()))
def Y42 (p0 : Ls) : Option Ls :=
 (R_Plain p0).bind fun b1 => (if b1 = true then ((Y1Y p0 FU 0 : Option (Unit ⊕ Ls))).bind fun o31 => (match o31 with | .inl _ => (if p0 = [] then (R_Quote p0).bind fun s28 => some s28 else some p0) | .inr r30 => some r30) else (R_Words p0).bind fun s4 => some s4)
def Y3a (p0 : (Ls × Ls × Ls)) : Option Ls :=
 (Y3s p0.2.1 false).bind fun b1 => (if b1 = true then (cat p0.2.1 [64]).bind fun s4 => (cat s4 p0.2.2).bind fun s5 => some s5 else (R_Quote p0.2.1).bind fun s6 => (cat s6 [64]).bind fun s8 => (cat s8 p0.2.2).bind fun s9 => some s9)
def Y0C (p0 : List (Ls × Bool × List (Ls × Ls × Ls))) (n5 : Int) : Nat → Ls → Int → Option Ls
 | 0, _, _ => none
 | m30 + 1, s28, n29 => (idx p0 n5).bind fun a31 => (if n29 < (a31.2.2.length : Int) then (idx p0 n5).bind fun a33 => (idx a33.2.2 n29).bind fun a34 => ((if (0 : Int) < n29 then (cat s28 [44]).bind fun s39 => some s39 else some s28)).bind fun s37 => (idx p0 n5).bind fun a41 => ((if a41.2.1 = true then (cat s37 [32]).bind fun s46 => some s46 else some s37)).bind fun s44 => (if a34.1 = [] then (Y3a (a34.1, a34.2.1, a34.2.2)).bind fun s49 => (cat s44 s49).bind fun s51 => (chk (n29 + 1)).bind fun n52 => Y0C p0 n5 m30 s51 n52 else (Y42 a34.1).bind fun s53 => (cat s44 s53).bind fun s55 => (cat s55 [32, 60]).bind fun s56 => (Y3a (a34.1, a34.2.1, a34.2.2)).bind fun s57 => (cat s56 s57).bind fun s59 => (cat s59 [62]).bind fun s60 => (chk (n29 + 1)).bind fun n61 => Y0C p0 n5 m30 s60 n61) else some s28)
def Y0D (p0 : List (Ls × Bool × List (Ls × Ls × Ls))) : Nat → Ls → Int → Option Ls
 | 0, _, _ => none
 | m6 + 1, s4, n5 => (if n5 < (p0.length : Int) then ((if (0 : Int) < n5 then (cat s4 [44, 32]).bind fun s12 => some s12 else some s4)).bind fun s10 => (idx p0 n5).bind fun a14 => ((if a14.2.1 = true then (idx p0 n5).bind fun a19 => (Y42 a19.1).bind fun s20 => (cat s10 s20).bind fun s22 => (cat s22 [58]).bind fun s23 => some s23 else some s10)).bind fun s17 => (Y0C p0 n5 FU s17 0).bind fun s27 => (idx p0 n5).bind fun a63 => (if a63.2.1 = true then (cat s27 [59]).bind fun s65 => (chk (n5 + 1)).bind fun n66 => Y0D p0 m6 s65 n66 else (chk (n5 + 1)).bind fun n67 => Y0D p0 m6 s27 n67) else some s4)
def Y2W (p0 : List (Ls × Bool × List (Ls × Ls × Ls))) : Option Ls :=
 (Y0D p0 FU [] 0).bind fun s3 => some s3
def Y1g (p0 : List (Ls × Bool × List (Ls × Ls × Ls))) : Option Bool :=
 (Y0O).bind fun b1 => (if b1 = true then (Y2N p0).bind fun (s4, (n5, n6)) => (Y24 p0).bind fun (n8, n9) => ((if n8 = (0 : Int) then (Y2W p0).bind fun s15 => some (decide ((4000 : Int) < (s15.length : Int))) else some false)).bind fun b13 => ((if b13 = true then (R_At 1 (-2)).bind fun (n23, n24) => some (n23, n24) else some (n8, n9))).bind fun (n20, n21) => (if n20 = (0 : Int) then ((if n5 = (0 : Int) then (Y2W p0).bind fun s37 => some (decide (s4 = s37)) else some false)).bind fun b35 => some b35 else ((if n5 = n20 ∧ n6 = n21 then some (decide (s4 = [])) else some false)).bind fun b30 => some b30) else some false)
end Go.Ph.Pf
end
