/-
  the laws on pieces: walks over the program's own operations, written by a program of this repository (wip/tools/gen.py) out of a plan.
-/
import Derived.Test.YtnjglbmaonbcbaaDoorRpc
import Derived.Test.YtnjglbmaonbcbaaDoorGrCut
import Derived.KernelRfl
set_option linter.unusedVariables false
set_option linter.unusedSimpArgs false
namespace Go.Proofs.YtnjglbmaonbcbaaDoor
open Go Go.RowKit Go.Ph

open Go.Ph.Gr Go.Ph.Utf
theorem rcolumns_spec (l : List UInt8) (hs : l.length ≤ 1048576) : Ct Tryd.prog 20 [S l] (fun _ => True) (fun r _ => r = I (cols (pieces l))) := by
  refine Ct.of Tryd.func20 (enters Tryd.func20 (by kernel_rfl) rfl) rfl rfl rfl ?_
  intro w0 M0 H hp
  refine WC.seq ?_
  refine WC.region ?_
  refine WR.step (Ex.assign rfl) (Wn.none rfl) rfl rfl ?_
  refine WR.nil ?_
  refine WQ.then ?_
  refine WC.seq ?_
  refine WC.region ?_
  refine WR.step (Ex.move rfl) (Wn.none rfl) rfl rfl ?_
  refine WR.call H (rpieces_spec _ (by omega)) rfl (trivial) (Wn.none rfl) rfl ?_
  intro v11 M w H hle hr11
  have hf11 := hr11
  refine WR.step (Ex.assign rfl) (Wn.none rfl) rfl rfl ?_
  refine WR.nil ?_
  refine WQ.then ?_
  refine WC.seq ?_
  refine WC.region ?_
  refine WR.step (Ex.assign rfl) (Wn.none rfl) rfl rfl ?_
  refine WR.nil ?_
  refine WQ.then ?_
  refine WC.seq ?_
  refine WC.seq ?_
  refine WC.region ?_
  refine WR.step (Ex.assign rfl) (Wn.none rfl) rfl rfl ?_
  refine WR.nil ?_
  refine WQ.then ?_
  refine WC.block ?_
  refine WC.loop2 (fun (k : Nat) (n : Int) => [(3, v11), (4, I n), (5, encN k)]) (fun (k : Nat) (n : Int) w => k ≤ (pieces l).length ∧ n = cols ((pieces l).take k) ∧ ∃ M, St w0 M0 M [] w ∧ Sl M encS v11 (pieces l)) (fun (k : Nat) (n : Int) => (pieces l).length - k) (0) (0) ⟨rfl, rfl, rfl, trivial⟩ (⟨by omega, rfl, M, H, hf11⟩) ?_
  intro k n w
  rintro ⟨hk, hn, M, H, hf11⟩
  have hcb := cols_le ((pieces l).take k)
  rw [← hn, List.length_take] at hcb
  have hpl := pieces_len l
  refine WC.seq ?_
  refine WC.seq ?_
  refine WC.region ?_
  refine WR.step (Ex.move rfl) (Wn.none rfl) rfl rfl ?_
  refine WR.step (Ex.move rfl) (Wn.none rfl) rfl rfl ?_
  first | refine WR.step (Ex.lenSl Tryd.underlying24 (by assumption) rfl) (Wn.none rfl) rfl rfl ?_ | refine WR.step (Ex.lenRow Tryd.underlying24 H (by repeat (first | exact List.Mem.head _ | apply List.Mem.tail)) rfl) (Wn.none rfl) rfl rfl ?_ | refine WR.step (Ex.lenSlice Tryd.underlying24 rfl) (Wn.none rfl) rfl rfl ?_
  refine WR.split (Ex.lss rfl rfl) (Wn.none rfl) rfl rfl (fun h4_3 => ?_) (fun h4_3 => ?_)
  ·
    obtain ⟨p, hpk⟩ : ∃ p, (pieces l)[k]? = some p := ⟨_, List.getElem?_eq_getElem (by omega)⟩
    have hne : p ≠ [] := pieces_ne l p (List.mem_of_getElem? hpk)
    have hr0 : ((chars p).map (·.1))[0]? = some (rune p).1 := by rw [chars_cons hne]; rfl
    have hsn : (pieces l).take (k + 1) = (pieces l).take k ++ [p] := by
      have e := List.getElem?_eq_some_iff.1 hpk
      rw [List.take_succ_eq_append_getElem e.1, e.2]
    have hplen : p.length ≤ l.length := by
      have h1 := (List.sublist_flatten_of_mem (List.mem_of_getElem? hpk)).length_le
      rwa [pieces_flat] at h1
    have hcn : (rune p).1 < 0 → cls (rune p).1 = 0 := cls_neg
    refine WR.nil ?_
    refine WQ.then ?_
    refine WC.condT rfl ?_
    refine WC.skip ?_
    refine WQ.then ?_
    refine WC.seq ?_
    refine WC.block ?_
    refine WC.seq ?_
    refine WC.region ?_
    refine WR.step (Ex.move rfl) (Wn.none rfl) rfl rfl ?_
    refine WR.step (Ex.move rfl) (Wn.none rfl) rfl rfl ?_
    refine WR.idxSl Tryd.underlying24 Tryd.sizeOf9 (by assumption) rfl rfl (hpk) (Wn.none rfl) rfl ?_
    intro p20 hc20
    first | refine WR.step (Ex.loadM H rfl (by assumption) Tryd.isAgg9) (Wn.none rfl) rfl rfl ?_ | refine WR.step (Ex.load1 H rfl (by repeat (first | exact List.Mem.head _ | apply List.Mem.tail)) Tryd.isAgg9 (by rfl)) (Wn.none rfl) rfl rfl ?_
    refine WR.call H (runes_spec _ (by omega)) rfl (trivial) (Wn.none rfl) rfl ?_
    intro v22 M w H hle hr22
    replace hf11 := hf11.mono hle
    have hf22 := hr22
    refine WR.step (Ex.assign rfl) (Wn.none rfl) rfl rfl ?_
    refine WR.nil ?_
    refine WQ.then ?_
    refine WC.seq ?_
    refine WC.region ?_
    refine WR.step (Ex.move rfl) (Wn.none rfl) rfl rfl ?_
    refine WR.idxSl Tryd.underlying49 Tryd.sizeOf3 (by assumption) rfl rfl (hr0) (Wn.none rfl) rfl ?_
    intro p24 hc24
    first | refine WR.step (Ex.loadM H rfl (by assumption) Tryd.isAgg3) (Wn.none rfl) rfl rfl ?_ | refine WR.step (Ex.load1 H rfl (by repeat (first | exact List.Mem.head _ | apply List.Mem.tail)) Tryd.isAgg3 (by rfl)) (Wn.none rfl) rfl rfl ?_
    refine WR.call H (class_spec _) rfl (trivial) (Wn.none rfl) rfl ?_
    intro v26 M w H hle hr26
    replace hf11 := hf11.mono hle
    replace hf22 := hf22.mono hle
    obtain rfl := hr26
    refine WR.step (Ex.assign rfl) (Wn.none rfl) rfl rfl ?_
    refine WR.nil ?_
    refine WQ.then ?_
    refine WC.seq ?_
    refine WC.seq ?_
    refine WC.region ?_
    refine WR.step (Ex.move rfl) (Wn.none rfl) rfl rfl ?_
    refine WR.idxSl Tryd.underlying49 Tryd.sizeOf3 (by assumption) rfl rfl (hr0) (Wn.none rfl) rfl ?_
    intro p28 hc28
    first | refine WR.step (Ex.loadM H rfl (by assumption) Tryd.isAgg3) (Wn.none rfl) rfl rfl ?_ | refine WR.step (Ex.load1 H rfl (by repeat (first | exact List.Mem.head _ | apply List.Mem.tail)) Tryd.isAgg3 (by rfl)) (Wn.none rfl) rfl rfl ?_
    refine WR.split (Ex.geq rfl rfl) (Wn.none rfl) rfl rfl (fun h8_3 => ?_) (fun h8_3 => ?_)
    ·
      refine WR.step (Ex.move rfl) (Wn.none rfl) rfl rfl ?_
      refine WR.step (Ex.move rfl) (Wn.some rfl rfl rfl) rfl rfl ?_
      by_cases h8_6 : 1 ≤ cls (rune p).1 ∧ cls (rune p).1 ≤ 5
      ·
        refine WR.call H (Ct.mono (in_spec _ _ _) (R' := fun r _ => r = .bool true) (fun _ _ h => h.trans (congrArg Value.bool (decide_eq_true h8_6)))) rfl (trivial) (Wn.some rfl rfl rfl) rfl ?_
        intro v33 M w H hle hr33
        replace hf11 := hf11.mono hle
        replace hf22 := hf22.mono hle
        obtain rfl := hr33
        refine WR.step (Ex.pickT rfl rfl) (Wn.none rfl) rfl rfl ?_
        refine WR.nil ?_
        refine WQ.then ?_
        refine WC.condT rfl ?_
        refine WC.exit ?_
        refine WQ.thenExit ?_
        refine WQ.exitHere ?_
        refine WQ.then ?_
        refine WC.region ?_
        refine WR.step (Ex.move rfl) (Wn.none rfl) rfl rfl ?_
        refine WR.step (Ex.add64 rfl rfl (by omega)) (Wn.none rfl) rfl rfl ?_
        refine WR.step (Ex.assign rfl) (Wn.none rfl) rfl rfl ?_
        refine WR.nil ?_
        refine WQ.again2 (k + 1) (n) ⟨rfl, rfl, rfl, trivial⟩ ?_ ?_
        · exact ⟨by omega, by rw [hsn, cols_snoc, ← hn, show col p = 0 by rw [col, if_pos (by omega)]]; omega, M, H, hf11⟩
        · omega
      ·
        refine WR.call H (Ct.mono (in_spec _ _ _) (R' := fun r _ => r = .bool false) (fun _ _ h => h.trans (congrArg Value.bool (decide_eq_false h8_6)))) rfl (trivial) (Wn.some rfl rfl rfl) rfl ?_
        intro v33 M w H hle hr33
        replace hf11 := hf11.mono hle
        replace hf22 := hf22.mono hle
        obtain rfl := hr33
        refine WR.step (Ex.pickT rfl rfl) (Wn.none rfl) rfl rfl ?_
        refine WR.nil ?_
        refine WQ.then ?_
        refine WC.condF rfl ?_
        refine WC.skip ?_
        refine WQ.then ?_
        refine WC.seq ?_
        refine WC.region ?_
        refine WR.step (Ex.move rfl) (Wn.none rfl) rfl rfl ?_
        refine WR.idxSl Tryd.underlying49 Tryd.sizeOf3 (by assumption) rfl rfl (hr0) (Wn.none rfl) rfl ?_
        intro p36 hc36
        first | refine WR.step (Ex.loadM H rfl (by assumption) Tryd.isAgg3) (Wn.none rfl) rfl rfl ?_ | refine WR.step (Ex.load1 H rfl (by repeat (first | exact List.Mem.head _ | apply List.Mem.tail)) Tryd.isAgg3 (by rfl)) (Wn.none rfl) rfl rfl ?_
        refine WR.stepT (Ex.geq rfl rfl) h8_3 (Wn.none rfl) rfl rfl ?_
        refine WR.step (Ex.move rfl) (Wn.none rfl) rfl rfl ?_
        refine WR.step (Ex.move rfl) (Wn.some rfl rfl rfl) rfl rfl ?_
        refine WR.step (Ex.eql rfl rfl) (Wn.some rfl rfl rfl) rfl rfl ?_
        refine WR.step (Ex.pickT rfl rfl) (Wn.none rfl) rfl rfl ?_
        refine WR.step (Ex.assign rfl) (Wn.none rfl) rfl rfl ?_
        refine WR.nil ?_
        refine WQ.then ?_
        refine WC.seq ?_
        refine WC.seq ?_
        refine WC.region ?_
        refine WR.step (Ex.assign rfl) (Wn.none rfl) rfl rfl ?_
        refine WR.nil ?_
        refine WQ.then ?_
        refine WC.block ?_
        refine WC.loop2 (fun (q : Nat) (wd : Bool) => [(3, v11), (4, I n), (5, encN k), (6, v22), (8, .bool wd), (9, encN q)]) (fun (q : Nat) (wd : Bool) w => q ≤ ((chars p).map (·.1)).length ∧ wd = (decide (cls (rune p).1 = 6) || (((chars p).map (·.1)).take q).any wid) ∧ ∃ M, St w0 M0 M [] w ∧ Sl M encS v11 (pieces l) ∧ Sl M encI v22 ((chars p).map (·.1))) (fun (q : Nat) (wd : Bool) => ((chars p).map (·.1)).length - q) (0) (_) ⟨rfl, rfl, rfl, rfl, rfl, rfl, trivial⟩ (⟨by omega, by first | (simp; done) | (simp; omega), M, H, hf11, hf22⟩) ?_
        intro q wd w
        rintro ⟨hq, hwd, M, H, hf11, hf22⟩
        have hrl := hf22.short
        simp only [maxLen] at hrl
        refine WC.seq ?_
        refine WC.seq ?_
        refine WC.region ?_
        refine WR.step (Ex.move rfl) (Wn.none rfl) rfl rfl ?_
        refine WR.step (Ex.move rfl) (Wn.none rfl) rfl rfl ?_
        first | refine WR.step (Ex.lenSl Tryd.underlying49 (by assumption) rfl) (Wn.none rfl) rfl rfl ?_ | refine WR.step (Ex.lenRow Tryd.underlying49 H (by repeat (first | exact List.Mem.head _ | apply List.Mem.tail)) rfl) (Wn.none rfl) rfl rfl ?_ | refine WR.step (Ex.lenSlice Tryd.underlying49 rfl) (Wn.none rfl) rfl rfl ?_
        refine WR.split (Ex.lss rfl rfl) (Wn.none rfl) rfl rfl (fun h11_3 => ?_) (fun h11_3 => ?_)
        ·
          obtain ⟨c, hcq⟩ : ∃ c, ((chars p).map (·.1))[q]? = some c := ⟨_, List.getElem?_eq_getElem (by omega)⟩
          have htq : ((chars p).map (·.1)).take (q + 1) = ((chars p).map (·.1)).take q ++ [c] := by
            have e := List.getElem?_eq_some_iff.1 hcq
            rw [List.take_succ_eq_append_getElem e.1, e.2]
          refine WR.nil ?_
          refine WQ.then ?_
          refine WC.condT rfl ?_
          refine WC.skip ?_
          refine WQ.then ?_
          refine WC.seq ?_
          refine WC.block ?_
          refine WC.region ?_
          cases wd
          ·
            refine WR.step (Ex.move rfl) (Wn.none rfl) rfl rfl ?_
            refine WR.step (Ex.move rfl) (Wn.none rfl) rfl rfl ?_
            refine WR.step (Ex.move rfl) (Wn.some rfl rfl rfl) rfl rfl ?_
            refine WR.step (Ex.move rfl) (Wn.some rfl rfl rfl) rfl rfl ?_
            refine WR.idxSl Tryd.underlying49 Tryd.sizeOf3 (by assumption) rfl rfl (hcq) (Wn.some rfl rfl rfl) rfl ?_
            intro p53 hc53
            first | refine WR.step (Ex.loadM H rfl (by assumption) Tryd.isAgg3) (Wn.some rfl rfl rfl) rfl rfl ?_ | refine WR.step (Ex.load1 H rfl (by repeat (first | exact List.Mem.head _ | apply List.Mem.tail)) Tryd.isAgg3 (by rfl)) (Wn.some rfl rfl rfl) rfl rfl ?_
            refine WR.call H (rwide_spec _) rfl (trivial) (Wn.some rfl rfl rfl) rfl ?_
            intro v55 M w H hle hr55
            replace hf11 := hf11.mono hle
            replace hf22 := hf22.mono hle
            obtain rfl := hr55
            refine WR.step (Ex.pickF rfl rfl) (Wn.none rfl) rfl rfl ?_
            refine WR.step (Ex.assign rfl) (Wn.none rfl) rfl rfl ?_
            refine WR.nil ?_
            refine WQ.inBlock ?_
            refine WQ.then ?_
            refine WC.region ?_
            refine WR.step (Ex.move rfl) (Wn.none rfl) rfl rfl ?_
            refine WR.step (Ex.add64 rfl rfl (by omega)) (Wn.none rfl) rfl rfl ?_
            refine WR.step (Ex.assign rfl) (Wn.none rfl) rfl rfl ?_
            refine WR.nil ?_
            refine WQ.again2 (q + 1) (_) ⟨rfl, rfl, rfl, rfl, rfl, rfl, trivial⟩ ?_ ?_
            · refine ⟨by omega, ?_, M, H, hf11, hf22⟩
              rw [htq, List.any_append, ← Bool.or_assoc, ← hwd]
              simp
            · omega
          ·
            refine WR.step (Ex.move rfl) (Wn.none rfl) rfl rfl ?_
            refine WR.step (Ex.move rfl) (Wn.none rfl) rfl rfl ?_
            refine WR.skipG (b := true) rfl rfl rfl rfl rfl ?_
            refine WR.skipG (b := true) rfl rfl rfl rfl rfl ?_
            refine WR.skipG (b := true) rfl rfl rfl rfl rfl ?_
            refine WR.skipG (b := true) rfl rfl rfl rfl rfl ?_
            refine WR.skipG (b := true) rfl rfl rfl rfl rfl ?_
            refine WR.step (Ex.pickT rfl rfl) (Wn.none rfl) rfl rfl ?_
            refine WR.step (Ex.assign rfl) (Wn.none rfl) rfl rfl ?_
            refine WR.nil ?_
            refine WQ.inBlock ?_
            refine WQ.then ?_
            refine WC.region ?_
            refine WR.step (Ex.move rfl) (Wn.none rfl) rfl rfl ?_
            refine WR.step (Ex.add64 rfl rfl (by omega)) (Wn.none rfl) rfl rfl ?_
            refine WR.step (Ex.assign rfl) (Wn.none rfl) rfl rfl ?_
            refine WR.nil ?_
            refine WQ.again2 (q + 1) (true) ⟨rfl, rfl, rfl, rfl, rfl, rfl, trivial⟩ ?_ ?_
            · refine ⟨by omega, ?_, M, H, hf11, hf22⟩
              rw [htq, List.any_append, ← Bool.or_assoc, ← hwd]
              simp
            · omega
        ·
          have hany : anyW p = ((chars p).map (·.1)).any wid := by unfold anyW; rw [List.any_map]; rfl
          rw [List.take_of_length_le (by omega), ← hany] at hwd
          have hcol : col p = if wd then 2 else 1 := by
            rw [col, if_neg (by omega), hwd]
            by_cases h6 : cls (rune p).1 = 6 <;> simp [h6]
          refine WR.nil ?_
          refine WQ.then ?_
          refine WC.condF rfl ?_
          refine WC.exit ?_
          refine WQ.thenExit ?_
          refine WQ.thenExit ?_
          refine WQ.exitHere ?_
          refine WQ.then ?_
          refine WC.seq ?_
          refine WC.region ?_
          refine WR.step (Ex.move rfl) (Wn.none rfl) rfl rfl ?_
          refine WR.step (Ex.add64 rfl rfl (by omega)) (Wn.none rfl) rfl rfl ?_
          refine WR.step (Ex.assign rfl) (Wn.none rfl) rfl rfl ?_
          refine WR.nil ?_
          refine WQ.then ?_
          refine WC.seq ?_
          refine WC.region ?_
          cases wd
          ·
            refine WR.step (Ex.move rfl) (Wn.none rfl) rfl rfl ?_
            refine WR.nil ?_
            refine WQ.then ?_
            refine WC.condF rfl ?_
            refine WC.skip ?_
            refine WQ.inBlock ?_
            refine WQ.then ?_
            refine WC.region ?_
            refine WR.step (Ex.move rfl) (Wn.none rfl) rfl rfl ?_
            refine WR.step (Ex.add64 rfl rfl (by omega)) (Wn.none rfl) rfl rfl ?_
            refine WR.step (Ex.assign rfl) (Wn.none rfl) rfl rfl ?_
            refine WR.nil ?_
            refine WQ.again2 (k + 1) (n + 1) ⟨rfl, rfl, rfl, trivial⟩ ?_ ?_
            · exact ⟨by omega, by rw [hsn, cols_snoc, ← hn, hcol]; simp; try omega, M, H, hf11⟩
            · omega
          ·
            refine WR.step (Ex.move rfl) (Wn.none rfl) rfl rfl ?_
            refine WR.nil ?_
            refine WQ.then ?_
            refine WC.condT rfl ?_
            refine WC.region ?_
            refine WR.step (Ex.move rfl) (Wn.none rfl) rfl rfl ?_
            refine WR.step (Ex.add64 rfl rfl (by omega)) (Wn.none rfl) rfl rfl ?_
            refine WR.step (Ex.assign rfl) (Wn.none rfl) rfl rfl ?_
            refine WR.nil ?_
            refine WQ.inBlock ?_
            refine WQ.then ?_
            refine WC.region ?_
            refine WR.step (Ex.move rfl) (Wn.none rfl) rfl rfl ?_
            refine WR.step (Ex.add64 rfl rfl (by omega)) (Wn.none rfl) rfl rfl ?_
            refine WR.step (Ex.assign rfl) (Wn.none rfl) rfl rfl ?_
            refine WR.nil ?_
            refine WQ.again2 (k + 1) (n + 1 + 1) ⟨rfl, rfl, rfl, trivial⟩ ?_ ?_
            · exact ⟨by omega, by rw [hsn, cols_snoc, ← hn, hcol]; simp; try omega, M, H, hf11⟩
            · omega
    ·
      refine WR.step (Ex.move rfl) (Wn.none rfl) rfl rfl ?_
      refine WR.skipG (b := false) rfl rfl rfl rfl rfl ?_
      refine WR.skipG (b := false) rfl rfl rfl rfl rfl ?_
      refine WR.step (Ex.pickF rfl rfl) (Wn.none rfl) rfl rfl ?_
      refine WR.nil ?_
      refine WQ.then ?_
      refine WC.condF rfl ?_
      refine WC.skip ?_
      refine WQ.then ?_
      refine WC.seq ?_
      refine WC.region ?_
      refine WR.step (Ex.move rfl) (Wn.none rfl) rfl rfl ?_
      refine WR.idxSl Tryd.underlying49 Tryd.sizeOf3 (by assumption) rfl rfl (hr0) (Wn.none rfl) rfl ?_
      intro p36 hc36
      first | refine WR.step (Ex.loadM H rfl (by assumption) Tryd.isAgg3) (Wn.none rfl) rfl rfl ?_ | refine WR.step (Ex.load1 H rfl (by repeat (first | exact List.Mem.head _ | apply List.Mem.tail)) Tryd.isAgg3 (by rfl)) (Wn.none rfl) rfl rfl ?_
      refine WR.stepF (Ex.geq rfl rfl) h8_3 (Wn.none rfl) rfl rfl ?_
      refine WR.step (Ex.move rfl) (Wn.none rfl) rfl rfl ?_
      refine WR.skipG (b := false) rfl rfl rfl rfl rfl ?_
      refine WR.skipG (b := false) rfl rfl rfl rfl rfl ?_
      refine WR.step (Ex.pickF rfl rfl) (Wn.none rfl) rfl rfl ?_
      refine WR.step (Ex.assign rfl) (Wn.none rfl) rfl rfl ?_
      refine WR.nil ?_
      refine WQ.then ?_
      refine WC.seq ?_
      refine WC.seq ?_
      refine WC.region ?_
      refine WR.step (Ex.assign rfl) (Wn.none rfl) rfl rfl ?_
      refine WR.nil ?_
      refine WQ.then ?_
      refine WC.block ?_
      refine WC.loop2 (fun (q : Nat) (wd : Bool) => [(3, v11), (4, I n), (5, encN k), (6, v22), (8, .bool wd), (9, encN q)]) (fun (q : Nat) (wd : Bool) w => q ≤ ((chars p).map (·.1)).length ∧ wd = (decide (cls (rune p).1 = 6) || (((chars p).map (·.1)).take q).any wid) ∧ ∃ M, St w0 M0 M [] w ∧ Sl M encS v11 (pieces l) ∧ Sl M encI v22 ((chars p).map (·.1))) (fun (q : Nat) (wd : Bool) => ((chars p).map (·.1)).length - q) (0) (_) ⟨rfl, rfl, rfl, rfl, rfl, rfl, trivial⟩ (⟨by omega, by first | (simp; done) | (simp; omega), M, H, hf11, hf22⟩) ?_
      intro q wd w
      rintro ⟨hq, hwd, M, H, hf11, hf22⟩
      have hrl := hf22.short
      simp only [maxLen] at hrl
      refine WC.seq ?_
      refine WC.seq ?_
      refine WC.region ?_
      refine WR.step (Ex.move rfl) (Wn.none rfl) rfl rfl ?_
      refine WR.step (Ex.move rfl) (Wn.none rfl) rfl rfl ?_
      first | refine WR.step (Ex.lenSl Tryd.underlying49 (by assumption) rfl) (Wn.none rfl) rfl rfl ?_ | refine WR.step (Ex.lenRow Tryd.underlying49 H (by repeat (first | exact List.Mem.head _ | apply List.Mem.tail)) rfl) (Wn.none rfl) rfl rfl ?_ | refine WR.step (Ex.lenSlice Tryd.underlying49 rfl) (Wn.none rfl) rfl rfl ?_
      refine WR.split (Ex.lss rfl rfl) (Wn.none rfl) rfl rfl (fun h11_3 => ?_) (fun h11_3 => ?_)
      ·
        obtain ⟨c, hcq⟩ : ∃ c, ((chars p).map (·.1))[q]? = some c := ⟨_, List.getElem?_eq_getElem (by omega)⟩
        have htq : ((chars p).map (·.1)).take (q + 1) = ((chars p).map (·.1)).take q ++ [c] := by
          have e := List.getElem?_eq_some_iff.1 hcq
          rw [List.take_succ_eq_append_getElem e.1, e.2]
        refine WR.nil ?_
        refine WQ.then ?_
        refine WC.condT rfl ?_
        refine WC.skip ?_
        refine WQ.then ?_
        refine WC.seq ?_
        refine WC.block ?_
        refine WC.region ?_
        cases wd
        ·
          refine WR.step (Ex.move rfl) (Wn.none rfl) rfl rfl ?_
          refine WR.step (Ex.move rfl) (Wn.none rfl) rfl rfl ?_
          refine WR.step (Ex.move rfl) (Wn.some rfl rfl rfl) rfl rfl ?_
          refine WR.step (Ex.move rfl) (Wn.some rfl rfl rfl) rfl rfl ?_
          refine WR.idxSl Tryd.underlying49 Tryd.sizeOf3 (by assumption) rfl rfl (hcq) (Wn.some rfl rfl rfl) rfl ?_
          intro p53 hc53
          first | refine WR.step (Ex.loadM H rfl (by assumption) Tryd.isAgg3) (Wn.some rfl rfl rfl) rfl rfl ?_ | refine WR.step (Ex.load1 H rfl (by repeat (first | exact List.Mem.head _ | apply List.Mem.tail)) Tryd.isAgg3 (by rfl)) (Wn.some rfl rfl rfl) rfl rfl ?_
          refine WR.call H (rwide_spec _) rfl (trivial) (Wn.some rfl rfl rfl) rfl ?_
          intro v55 M w H hle hr55
          replace hf11 := hf11.mono hle
          replace hf22 := hf22.mono hle
          obtain rfl := hr55
          refine WR.step (Ex.pickF rfl rfl) (Wn.none rfl) rfl rfl ?_
          refine WR.step (Ex.assign rfl) (Wn.none rfl) rfl rfl ?_
          refine WR.nil ?_
          refine WQ.inBlock ?_
          refine WQ.then ?_
          refine WC.region ?_
          refine WR.step (Ex.move rfl) (Wn.none rfl) rfl rfl ?_
          refine WR.step (Ex.add64 rfl rfl (by omega)) (Wn.none rfl) rfl rfl ?_
          refine WR.step (Ex.assign rfl) (Wn.none rfl) rfl rfl ?_
          refine WR.nil ?_
          refine WQ.again2 (q + 1) (_) ⟨rfl, rfl, rfl, rfl, rfl, rfl, trivial⟩ ?_ ?_
          · refine ⟨by omega, ?_, M, H, hf11, hf22⟩
            rw [htq, List.any_append, ← Bool.or_assoc, ← hwd]
            simp
          · omega
        ·
          refine WR.step (Ex.move rfl) (Wn.none rfl) rfl rfl ?_
          refine WR.step (Ex.move rfl) (Wn.none rfl) rfl rfl ?_
          refine WR.skipG (b := true) rfl rfl rfl rfl rfl ?_
          refine WR.skipG (b := true) rfl rfl rfl rfl rfl ?_
          refine WR.skipG (b := true) rfl rfl rfl rfl rfl ?_
          refine WR.skipG (b := true) rfl rfl rfl rfl rfl ?_
          refine WR.skipG (b := true) rfl rfl rfl rfl rfl ?_
          refine WR.step (Ex.pickT rfl rfl) (Wn.none rfl) rfl rfl ?_
          refine WR.step (Ex.assign rfl) (Wn.none rfl) rfl rfl ?_
          refine WR.nil ?_
          refine WQ.inBlock ?_
          refine WQ.then ?_
          refine WC.region ?_
          refine WR.step (Ex.move rfl) (Wn.none rfl) rfl rfl ?_
          refine WR.step (Ex.add64 rfl rfl (by omega)) (Wn.none rfl) rfl rfl ?_
          refine WR.step (Ex.assign rfl) (Wn.none rfl) rfl rfl ?_
          refine WR.nil ?_
          refine WQ.again2 (q + 1) (true) ⟨rfl, rfl, rfl, rfl, rfl, rfl, trivial⟩ ?_ ?_
          · refine ⟨by omega, ?_, M, H, hf11, hf22⟩
            rw [htq, List.any_append, ← Bool.or_assoc, ← hwd]
            simp
          · omega
      ·
        have hany : anyW p = ((chars p).map (·.1)).any wid := by unfold anyW; rw [List.any_map]; rfl
        rw [List.take_of_length_le (by omega), ← hany] at hwd
        have hcol : col p = if wd then 2 else 1 := by
          rw [col, if_neg (by omega), hwd]
          by_cases h6 : cls (rune p).1 = 6 <;> simp [h6]
        refine WR.nil ?_
        refine WQ.then ?_
        refine WC.condF rfl ?_
        refine WC.exit ?_
        refine WQ.thenExit ?_
        refine WQ.thenExit ?_
        refine WQ.exitHere ?_
        refine WQ.then ?_
        refine WC.seq ?_
        refine WC.region ?_
        refine WR.step (Ex.move rfl) (Wn.none rfl) rfl rfl ?_
        refine WR.step (Ex.add64 rfl rfl (by omega)) (Wn.none rfl) rfl rfl ?_
        refine WR.step (Ex.assign rfl) (Wn.none rfl) rfl rfl ?_
        refine WR.nil ?_
        refine WQ.then ?_
        refine WC.seq ?_
        refine WC.region ?_
        cases wd
        ·
          refine WR.step (Ex.move rfl) (Wn.none rfl) rfl rfl ?_
          refine WR.nil ?_
          refine WQ.then ?_
          refine WC.condF rfl ?_
          refine WC.skip ?_
          refine WQ.inBlock ?_
          refine WQ.then ?_
          refine WC.region ?_
          refine WR.step (Ex.move rfl) (Wn.none rfl) rfl rfl ?_
          refine WR.step (Ex.add64 rfl rfl (by omega)) (Wn.none rfl) rfl rfl ?_
          refine WR.step (Ex.assign rfl) (Wn.none rfl) rfl rfl ?_
          refine WR.nil ?_
          refine WQ.again2 (k + 1) (n + 1) ⟨rfl, rfl, rfl, trivial⟩ ?_ ?_
          · exact ⟨by omega, by rw [hsn, cols_snoc, ← hn, hcol]; simp; try omega, M, H, hf11⟩
          · omega
        ·
          refine WR.step (Ex.move rfl) (Wn.none rfl) rfl rfl ?_
          refine WR.nil ?_
          refine WQ.then ?_
          refine WC.condT rfl ?_
          refine WC.region ?_
          refine WR.step (Ex.move rfl) (Wn.none rfl) rfl rfl ?_
          refine WR.step (Ex.add64 rfl rfl (by omega)) (Wn.none rfl) rfl rfl ?_
          refine WR.step (Ex.assign rfl) (Wn.none rfl) rfl rfl ?_
          refine WR.nil ?_
          refine WQ.inBlock ?_
          refine WQ.then ?_
          refine WC.region ?_
          refine WR.step (Ex.move rfl) (Wn.none rfl) rfl rfl ?_
          refine WR.step (Ex.add64 rfl rfl (by omega)) (Wn.none rfl) rfl rfl ?_
          refine WR.step (Ex.assign rfl) (Wn.none rfl) rfl rfl ?_
          refine WR.nil ?_
          refine WQ.again2 (k + 1) (n + 1 + 1) ⟨rfl, rfl, rfl, trivial⟩ ?_ ?_
          · exact ⟨by omega, by rw [hsn, cols_snoc, ← hn, hcol]; simp; try omega, M, H, hf11⟩
          · omega
  ·
    refine WR.nil ?_
    refine WQ.then ?_
    refine WC.condF rfl ?_
    refine WC.exit ?_
    refine WQ.thenExit ?_
    refine WQ.thenExit ?_
    refine WQ.exitHere ?_
    refine WQ.then ?_
    refine WC.seq ?_
    refine WC.region ?_
    refine WR.step (Ex.move rfl) (Wn.none rfl) rfl rfl ?_
    refine WR.step (Ex.assign rfl) (Wn.none rfl) rfl rfl ?_
    refine WR.nil ?_
    refine WQ.then ?_
    refine WC.ret ?_
    (repeat (first | refine WQ.thenRet ?_ | refine WQ.inBlockRet ?_))
    refine WQ.ret1 rfl rfl H.ext ?_
    exact by rw [hn, List.take_of_length_le (by omega)]

open Go.Ph.Gr Go.Ph.Utf
theorem gex_spec  : Ct Tryd.prog 13 [] (fun M => Tabs M) (fun r _ => r = .bool true) := by
  refine Ct.of Tryd.func13 (enters Tryd.func13 (by kernel_rfl) rfl) rfl rfl rfl ?_
  intro w0 M0 H hp
  refine WC.seq ?_
  refine WC.region ?_
  refine WR.step (Ex.assign rfl) (Wn.none rfl) rfl rfl ?_
  refine WR.nil ?_
  refine WQ.then ?_
  refine WC.seq ?_
  refine WC.region ?_
  refine WR.call H (split_spec [101, 204, 129, 120] (by decide)) rfl (by assumption) (Wn.none rfl) rfl ?_
  intro v4 M w H hle hr4
  replace hp := hp.mono hle
  have hf4 := hr4
  rw [show pieces [101, 204, 129, 120] = [[101, 204, 129], [120]] from by kernel_rfl] at hf4
  refine WR.step (Ex.assign rfl) (Wn.none rfl) rfl rfl ?_
  refine WR.nil ?_
  refine WQ.then ?_
  refine WC.seq ?_
  refine WC.region ?_
  refine WR.call H (cut_spec [101, 204, 129, 120] 2 (by decide) (by decide)) rfl (by assumption) (Wn.none rfl) rfl ?_
  intro v6 M w H hle hr6
  replace hp := hp.mono hle
  replace hf4 := hf4.mono hle
  obtain rfl := hr6
  refine WR.step (Ex.move rfl) (Wn.none rfl) rfl rfl ?_
  refine WR.stepE (v' := S []) (Ex.extract rfl rfl) (by kernel_rfl) (Wn.none rfl) rfl rfl ?_
  refine WR.step (Ex.extract rfl rfl) (Wn.none rfl) rfl rfl ?_
  refine WR.alloc [_, _] H Tryd.zeroValue28 rfl (Wn.none rfl) rfl ?_
  intro b3 w H
  refine WR.step (Ex.assign rfl) (Wn.none rfl) rfl rfl ?_
  refine WR.store [_, _] H rfl rfl rfl (by repeat (first | exact Upd.head | apply Upd.tail)) Tryd.sizeOf28 rfl (by rfl) (by rfl) (Wn.none rfl) ?_
  intro w H
  refine WR.nil ?_
  refine WQ.then ?_
  refine WC.seq ?_
  refine WC.region ?_
  refine WR.step (Ex.move rfl) (Wn.none rfl) rfl rfl ?_
  first | refine WR.step (Ex.lenSl Tryd.underlying24 (by assumption) rfl) (Wn.none rfl) rfl rfl ?_ | refine WR.step (Ex.lenRow Tryd.underlying24 H (by repeat (first | exact List.Mem.head _ | apply List.Mem.tail)) rfl) (Wn.none rfl) rfl rfl ?_ | refine WR.step (Ex.lenSlice Tryd.underlying24 rfl) (Wn.none rfl) rfl rfl ?_
  refine WR.stepT (Ex.eql rfl rfl) rfl (Wn.none rfl) rfl rfl ?_
  refine WR.step (Ex.move rfl) (Wn.none rfl) rfl rfl ?_
  refine WR.step (Ex.move rfl) (Wn.some rfl rfl rfl) rfl rfl ?_
  refine WR.idxSl Tryd.underlying24 Tryd.sizeOf9 (by assumption) rfl rfl (rfl) (Wn.some rfl rfl rfl) rfl ?_
  intro p14 hc14
  first | refine WR.step (Ex.loadM H rfl (by assumption) Tryd.isAgg9) (Wn.some rfl rfl rfl) rfl rfl ?_ | refine WR.step (Ex.load1 H rfl (by repeat (first | exact List.Mem.head _ | apply List.Mem.tail)) Tryd.isAgg9 (by rfl)) (Wn.some rfl rfl rfl) rfl rfl ?_
  refine WR.stepT (Ex.strEql rfl rfl) rfl (Wn.some rfl rfl rfl) rfl rfl ?_
  refine WR.step (Ex.pickT rfl rfl) (Wn.none rfl) rfl rfl ?_
  refine WR.step (Ex.move rfl) (Wn.none rfl) rfl rfl ?_
  refine WR.step (Ex.fieldAddr Tryd.underlying28 rfl Tryd.sizeOf3 (by decide) rfl) (Wn.some rfl rfl rfl) rfl rfl ?_
  first | refine WR.step (Ex.loadM H rfl (by assumption) Tryd.isAgg3) (Wn.some rfl rfl rfl) rfl rfl ?_ | refine WR.step (Ex.load1 H rfl (by repeat (first | exact List.Mem.head _ | apply List.Mem.tail)) Tryd.isAgg3 (by rfl)) (Wn.some rfl rfl rfl) rfl rfl ?_
  refine WR.stepT (Ex.eql rfl rfl) rfl (Wn.some rfl rfl rfl) rfl rfl ?_
  refine WR.step (Ex.pickT rfl rfl) (Wn.none rfl) rfl rfl ?_
  refine WR.step (Ex.move rfl) (Wn.none rfl) rfl rfl ?_
  refine WR.step (Ex.move rfl) (Wn.some rfl rfl rfl) rfl rfl ?_
  refine WR.stepT (Ex.strEql rfl rfl) rfl (Wn.some rfl rfl rfl) rfl rfl ?_
  refine WR.step (Ex.pickT rfl rfl) (Wn.none rfl) rfl rfl ?_
  refine WR.step (Ex.move rfl) (Wn.none rfl) rfl rfl ?_
  refine WR.call H (width_spec [97, 98] (by decide)) rfl (by assumption) (Wn.some rfl rfl rfl) rfl ?_
  intro v28 M w H hle hr28
  replace hp := hp.mono hle
  replace hf4 := hf4.mono hle
  obtain rfl := hr28
  refine WR.stepT (Ex.eql rfl rfl) (by kernel_rfl) (Wn.some rfl rfl rfl) rfl rfl ?_
  refine WR.step (Ex.pickT rfl rfl) (Wn.none rfl) rfl rfl ?_
  refine WR.step (Ex.assign rfl) (Wn.none rfl) rfl rfl ?_
  refine WR.nil ?_
  refine WQ.then ?_
  refine WC.ret ?_
  (repeat (first | refine WQ.thenRet ?_ | refine WQ.inBlockRet ?_))
  refine WQ.ret1 rfl rfl H.ext ?_
  exact rfl

theorem gl1 (l : List UInt8)(hs : l.length ≤ 1048576) : Ct Tryd.prog 3 [S l] (fun M => Tabs M) (fun r _ => r = .bool true) := by
  refine Ct.of Tryd.func3 (enters Tryd.func3 (by kernel_rfl) rfl) rfl rfl rfl ?_
  intro w0 M0 H hp
  refine WC.seq ?_
  refine WC.region ?_
  refine WR.step (Ex.assign rfl) (Wn.none rfl) rfl rfl ?_
  refine WR.nil ?_
  refine WQ.then ?_
  refine WC.seq ?_
  refine WC.region ?_
  refine WR.call H (gex_spec) rfl (by assumption) (Wn.none rfl) rfl ?_
  intro v3 M w H hle hr3
  replace hp := hp.mono hle
  obtain rfl := hr3
  refine WR.step (Ex.move rfl) (Wn.none rfl) rfl rfl ?_
  refine WR.step (Ex.move rfl) (Wn.some rfl rfl rfl) rfl rfl ?_
  refine WR.call H (split_spec _ (by omega)) rfl (by assumption) (Wn.some rfl rfl rfl) rfl ?_
  intro v6 M w H hle hr6
  replace hp := hp.mono hle
  have hf6 := hr6
  refine WR.step (Ex.move rfl) (Wn.some rfl rfl rfl) rfl rfl ?_
  refine WR.call H (rpieces_spec _ (by omega)) rfl (trivial) (Wn.some rfl rfl rfl) rfl ?_
  intro v8 M w H hle hr8
  replace hp := hp.mono hle
  replace hf6 := hf6.mono hle
  have hf8 := hr8
  refine WR.call H (Ct.mono (strings_spec _ _ (pieces l) (pieces l)) (R' := fun r _ => r = .bool true) (fun _ _ h => h.trans (congrArg Value.bool (decide_eq_true rfl)))) rfl (⟨by assumption, by assumption⟩) (Wn.some rfl rfl rfl) rfl ?_
  intro v9 M w H hle hr9
  replace hp := hp.mono hle
  replace hf6 := hf6.mono hle
  replace hf8 := hf8.mono hle
  obtain rfl := hr9
  refine WR.step (Ex.pickT rfl rfl) (Wn.none rfl) rfl rfl ?_
  refine WR.step (Ex.assign rfl) (Wn.none rfl) rfl rfl ?_
  refine WR.nil ?_
  refine WQ.then ?_
  refine WC.ret ?_
  (repeat (first | refine WQ.thenRet ?_ | refine WQ.inBlockRet ?_))
  refine WQ.ret1 rfl rfl H.ext ?_
  exact rfl

theorem gl2 (l : List UInt8)(hs : l.length ≤ 1048576) : Ct Tryd.prog 4 [S l] (fun M => Tabs M) (fun r _ => r = .bool true) := by
  refine Ct.of Tryd.func4 (enters Tryd.func4 (by kernel_rfl) rfl) rfl rfl rfl ?_
  intro w0 M0 H hp
  refine WC.seq ?_
  refine WC.region ?_
  refine WR.step (Ex.assign rfl) (Wn.none rfl) rfl rfl ?_
  refine WR.nil ?_
  refine WQ.then ?_
  refine WC.seq ?_
  refine WC.seq ?_
  refine WC.region ?_
  refine WR.call H (gex_spec) rfl (by assumption) (Wn.none rfl) rfl ?_
  intro v6 M w H hle hr6
  replace hp := hp.mono hle
  obtain rfl := hr6
  refine WR.step (Ex.notT rfl) (Wn.none rfl) rfl rfl ?_
  refine WR.nil ?_
  refine WQ.then ?_
  refine WC.condF rfl ?_
  refine WC.skip ?_
  refine WQ.then ?_
  refine WC.seq ?_
  refine WC.region ?_
  refine WR.step (Ex.move rfl) (Wn.none rfl) rfl rfl ?_
  refine WR.call H (split_spec _ (by omega)) rfl (by assumption) (Wn.none rfl) rfl ?_
  intro v9 M w H hle hr9
  replace hp := hp.mono hle
  have hf9 := hr9
  refine WR.step (Ex.assign rfl) (Wn.none rfl) rfl rfl ?_
  refine WR.nil ?_
  refine WQ.then ?_
  refine WC.seq ?_
  refine WC.region ?_
  refine WR.step (Ex.assign rfl) (Wn.none rfl) rfl rfl ?_
  refine WR.nil ?_
  refine WQ.then ?_
  refine WC.seq ?_
  refine WC.seq ?_
  refine WC.region ?_
  refine WR.step (Ex.assign rfl) (Wn.none rfl) rfl rfl ?_
  refine WR.nil ?_
  refine WQ.then ?_
  refine WC.block ?_
  refine WC.loop2 (fun (k : Nat) (o : List UInt8) => [(0, S l), (3, v9), (4, S o), (5, encN k)]) (fun (k : Nat) (o : List UInt8) w => k ≤ (pieces l).length ∧ o = ((pieces l).take k).flatten ∧ ∃ M, St w0 M0 M [] w ∧ Sl M encS v9 (pieces l)) (fun (k : Nat) (o : List UInt8) => (pieces l).length - k) (0) ([]) ⟨rfl, rfl, rfl, rfl, trivial⟩ (⟨by omega, rfl, M, H, hf9⟩) ?_
  intro k o w
  rintro ⟨hk, ho, M, H, hf9⟩
  have hpl := pieces_len l
  have hol : o.length ≤ l.length := by
    rw [ho]; conv => rhs; rw [← pieces_flat l]
    exact ini_flat (List.take_prefix _ _)
  refine WC.seq ?_
  refine WC.seq ?_
  refine WC.region ?_
  refine WR.step (Ex.move rfl) (Wn.none rfl) rfl rfl ?_
  refine WR.step (Ex.move rfl) (Wn.none rfl) rfl rfl ?_
  first | refine WR.step (Ex.lenSl Tryd.underlying24 (by assumption) rfl) (Wn.none rfl) rfl rfl ?_ | refine WR.step (Ex.lenRow Tryd.underlying24 H (by repeat (first | exact List.Mem.head _ | apply List.Mem.tail)) rfl) (Wn.none rfl) rfl rfl ?_ | refine WR.step (Ex.lenSlice Tryd.underlying24 rfl) (Wn.none rfl) rfl rfl ?_
  refine WR.split (Ex.lss rfl rfl) (Wn.none rfl) rfl rfl (fun h6_3 => ?_) (fun h6_3 => ?_)
  ·
    obtain ⟨p, hpk⟩ : ∃ p, (pieces l)[k]? = some p := ⟨_, List.getElem?_eq_getElem (by omega)⟩
    have hne : p ≠ [] := pieces_ne l p (List.mem_of_getElem? hpk)
    have hsn : (pieces l).take (k + 1) = (pieces l).take k ++ [p] := by
      have e := List.getElem?_eq_some_iff.1 hpk
      rw [List.take_succ_eq_append_getElem e.1, e.2]
    have hplen : p.length ≤ l.length := by
      have h1 := (List.sublist_flatten_of_mem (List.mem_of_getElem? hpk)).length_le
      rwa [pieces_flat] at h1
    refine WR.nil ?_
    refine WQ.then ?_
    refine WC.condT rfl ?_
    refine WC.skip ?_
    refine WQ.then ?_
    refine WC.seq ?_
    refine WC.block ?_
    refine WC.seq ?_
    refine WC.seq ?_
    refine WC.region ?_
    refine WR.step (Ex.move rfl) (Wn.none rfl) rfl rfl ?_
    refine WR.step (Ex.move rfl) (Wn.none rfl) rfl rfl ?_
    refine WR.idxSl Tryd.underlying24 Tryd.sizeOf9 (by assumption) rfl rfl (hpk) (Wn.none rfl) rfl ?_
    intro p18 hc18
    first | refine WR.step (Ex.loadM H rfl (by assumption) Tryd.isAgg9) (Wn.none rfl) rfl rfl ?_ | refine WR.step (Ex.load1 H rfl (by repeat (first | exact List.Mem.head _ | apply List.Mem.tail)) Tryd.isAgg9 (by rfl)) (Wn.none rfl) rfl rfl ?_
    refine WR.stepF (Ex.strEql rfl rfl) hne (Wn.none rfl) rfl rfl ?_
    refine WR.nil ?_
    refine WQ.then ?_
    refine WC.condF rfl ?_
    refine WC.skip ?_
    refine WQ.then ?_
    refine WC.region ?_
    refine WR.step (Ex.move rfl) (Wn.none rfl) rfl rfl ?_
    refine WR.step (Ex.move rfl) (Wn.none rfl) rfl rfl ?_
    refine WR.step (Ex.move rfl) (Wn.none rfl) rfl rfl ?_
    refine WR.idxSl Tryd.underlying24 Tryd.sizeOf9 (by assumption) rfl rfl (hpk) (Wn.none rfl) rfl ?_
    intro p24 hc24
    first | refine WR.step (Ex.loadM H rfl (by assumption) Tryd.isAgg9) (Wn.none rfl) rfl rfl ?_ | refine WR.step (Ex.load1 H rfl (by repeat (first | exact List.Mem.head _ | apply List.Mem.tail)) Tryd.isAgg9 (by rfl)) (Wn.none rfl) rfl rfl ?_
    refine WR.step (Ex.strAdd rfl rfl (by first | omega | (simp only [List.length_cons, List.length_nil]; omega) | (simp only [List.length_append, List.length_cons, List.length_nil, List.length_drop, List.length_take]; omega))) (Wn.none rfl) rfl rfl ?_
    refine WR.step (Ex.assign rfl) (Wn.none rfl) rfl rfl ?_
    refine WR.nil ?_
    refine WQ.inBlock ?_
    refine WQ.then ?_
    refine WC.region ?_
    refine WR.step (Ex.move rfl) (Wn.none rfl) rfl rfl ?_
    refine WR.step (Ex.add64 rfl rfl (by omega)) (Wn.none rfl) rfl rfl ?_
    refine WR.step (Ex.assign rfl) (Wn.none rfl) rfl rfl ?_
    refine WR.nil ?_
    refine WQ.again2 (k + 1) (o ++ p) ⟨rfl, rfl, rfl, rfl, trivial⟩ ?_ ?_
    · exact ⟨by omega, by rw [hsn, List.flatten_append, ← ho]; simp, M, H, hf9⟩
    · omega
  ·
    refine WR.nil ?_
    refine WQ.then ?_
    refine WC.condF rfl ?_
    refine WC.exit ?_
    refine WQ.thenExit ?_
    refine WQ.thenExit ?_
    refine WQ.exitHere ?_
    refine WQ.then ?_
    refine WC.seq ?_
    refine WC.region ?_
    refine WR.step (Ex.move rfl) (Wn.none rfl) rfl rfl ?_
    refine WR.step (Ex.move rfl) (Wn.none rfl) rfl rfl ?_
    refine WR.stepT (Ex.strEql rfl rfl) (by rw [ho, List.take_of_length_le (by omega), pieces_flat]) (Wn.none rfl) rfl rfl ?_
    refine WR.step (Ex.assign rfl) (Wn.none rfl) rfl rfl ?_
    refine WR.nil ?_
    refine WQ.then ?_
    refine WC.ret ?_
    (repeat (first | refine WQ.thenRet ?_ | refine WQ.inBlockRet ?_))
    refine WQ.ret1 rfl rfl H.ext ?_
    exact rfl

theorem gl3_big (l : List UInt8) (most : Int) (hs : 12000 < l.length) : Ct Tryd.prog 5 [S l, I most] (fun M => Tabs M) (fun r _ => r = .bool true) := by
  refine Ct.of Tryd.func5 (enters Tryd.func5 (by kernel_rfl) rfl) rfl rfl rfl ?_
  intro w0 M0 H hp
  refine WC.seq ?_
  refine WC.region ?_
  refine WR.step (Ex.assign rfl) (Wn.none rfl) rfl rfl ?_
  refine WR.nil ?_
  refine WQ.then ?_
  refine WC.seq ?_
  refine WC.seq ?_
  refine WC.region ?_
  refine WR.call H (gex_spec) rfl (by assumption) (Wn.none rfl) rfl ?_
  intro v10 M w H hle hr10
  replace hp := hp.mono hle
  obtain rfl := hr10
  refine WR.step (Ex.notT rfl) (Wn.none rfl) rfl rfl ?_
  refine WR.nil ?_
  refine WQ.then ?_
  refine WC.condF rfl ?_
  refine WC.skip ?_
  refine WQ.then ?_
  refine WC.seq ?_
  refine WC.region ?_
  refine WR.step (Ex.move rfl) (Wn.none rfl) rfl rfl ?_
  refine WR.step (Ex.move rfl) (Wn.none rfl) rfl rfl ?_
  refine WR.call H (cut_big _ _ hs) rfl (by assumption) (Wn.none rfl) rfl ?_
  intro v15 M w H hle hr15
  replace hp := hp.mono hle
  obtain rfl := hr15
  refine WR.step (Ex.move rfl) (Wn.none rfl) rfl rfl ?_
  refine WR.step (Ex.extract rfl rfl) (Wn.none rfl) rfl rfl ?_
  refine WR.step (Ex.extract rfl rfl) (Wn.none rfl) rfl rfl ?_
  refine WR.alloc [_, _] H Tryd.zeroValue28 rfl (Wn.none rfl) rfl ?_
  intro b6 w H
  refine WR.step (Ex.assign rfl) (Wn.none rfl) rfl rfl ?_
  refine WR.store [_, _] H rfl rfl rfl (by repeat (first | exact Upd.head | apply Upd.tail)) Tryd.sizeOf28 rfl (by rfl) (by rfl) (Wn.none rfl) ?_
  intro w H
  refine WR.nil ?_
  refine WQ.then ?_
  refine WC.seq ?_
  refine WC.seq ?_
  refine WC.region ?_
  refine WR.step (Ex.move rfl) (Wn.none rfl) rfl rfl ?_
  refine WR.step (Ex.lenStr Tryd.underlying9 rfl) (Wn.none rfl) rfl rfl ?_
  refine WR.stepT (Ex.gtr rfl rfl) (by omega) (Wn.none rfl) rfl rfl ?_
  refine WR.nil ?_
  refine WQ.then ?_
  refine WC.condT rfl ?_
  refine WC.seq ?_
  refine WC.draw (m := 8) rfl rfl H ?_
  intro w H
  refine WA.two (i := 0) (j := 1) (by kernel_rfl) rfl rfl ?_ ?_
  ·
    first | refine WR.step (Ex.loadAgg H rfl (by repeat (first | exact List.Mem.head _ | apply List.Mem.tail)) Tryd.isAgg28 Tryd.sizeOf28 (by rfl)) (Wn.none rfl) rfl rfl ?_ | refine WR.step (Ex.loadAggM H rfl (by assumption) Tryd.isAgg28 Tryd.sizeOf28 (by rfl)) (Wn.none rfl) rfl rfl ?_
    refine WR.nil (WQ.any ?_)
    refine WA.one (i := 1) (by kernel_rfl) rfl ?_
    refine WR.call H (at_spec _ _) rfl (trivial) (Wn.none rfl) rfl ?_
    intro v22 M w H hle hr22
    replace hp := hp.mono hle
    obtain rfl := hr22
    refine WR.nil (WQ.any ?_)
    refine WA.one (i := 2) (by kernel_rfl) rfl ?_
    refine WR.stepT (Ex.eqlAgg rfl rfl (by kernel_rfl) (eq28 _ _ _ _)) ⟨rfl, rfl⟩ (Wn.none rfl) rfl rfl ?_
    refine WR.nil (WQ.any ?_)
    refine WA.one (i := 3) (by kernel_rfl) rfl ?_
    refine WR.step (Ex.move rfl) (Wn.none rfl) rfl rfl ?_
    refine WR.nil (WQ.any ?_)
    refine WA.one (i := 4) (by kernel_rfl) rfl ?_
    refine WR.step (Ex.move rfl) (Wn.some rfl rfl rfl) rfl rfl ?_
    refine WR.nil (WQ.any ?_)
    refine WA.one (i := 5) (by kernel_rfl) rfl ?_
    refine WR.stepT (Ex.strEql rfl rfl) rfl (Wn.some rfl rfl rfl) rfl rfl ?_
    refine WR.nil (WQ.any ?_)
    refine WA.one (i := 6) (by kernel_rfl) rfl ?_
    refine WR.step (Ex.pickT rfl rfl) (Wn.none rfl) rfl rfl ?_
    refine WR.nil (WQ.any ?_)
    refine WA.one (i := 7) (by kernel_rfl) rfl ?_
    refine WR.step (Ex.assign rfl) (Wn.none rfl) rfl rfl ?_
    refine WR.nil (WQ.any ?_)
    refine WA.done (by kernel_rfl) ?_
    refine WQ.then ?_
    refine WC.ret ?_
    (repeat (first | refine WQ.thenRet ?_ | refine WQ.inBlockRet ?_))
    refine WQ.ret1 rfl rfl H.ext ?_
    exact rfl
  ·
    refine WR.call H (at_spec _ _) rfl (trivial) (Wn.none rfl) rfl ?_
    intro v22 M w H hle hr22
    replace hp := hp.mono hle
    obtain rfl := hr22
    refine WR.nil (WQ.any ?_)
    refine WA.one (i := 0) (by kernel_rfl) rfl ?_
    first | refine WR.step (Ex.loadAgg H rfl (by repeat (first | exact List.Mem.head _ | apply List.Mem.tail)) Tryd.isAgg28 Tryd.sizeOf28 (by rfl)) (Wn.none rfl) rfl rfl ?_ | refine WR.step (Ex.loadAggM H rfl (by assumption) Tryd.isAgg28 Tryd.sizeOf28 (by rfl)) (Wn.none rfl) rfl rfl ?_
    refine WR.nil (WQ.any ?_)
    refine WA.one (i := 2) (by kernel_rfl) rfl ?_
    refine WR.stepT (Ex.eqlAgg rfl rfl (by kernel_rfl) (eq28 _ _ _ _)) ⟨rfl, rfl⟩ (Wn.none rfl) rfl rfl ?_
    refine WR.nil (WQ.any ?_)
    refine WA.one (i := 3) (by kernel_rfl) rfl ?_
    refine WR.step (Ex.move rfl) (Wn.none rfl) rfl rfl ?_
    refine WR.nil (WQ.any ?_)
    refine WA.one (i := 4) (by kernel_rfl) rfl ?_
    refine WR.step (Ex.move rfl) (Wn.some rfl rfl rfl) rfl rfl ?_
    refine WR.nil (WQ.any ?_)
    refine WA.one (i := 5) (by kernel_rfl) rfl ?_
    refine WR.stepT (Ex.strEql rfl rfl) rfl (Wn.some rfl rfl rfl) rfl rfl ?_
    refine WR.nil (WQ.any ?_)
    refine WA.one (i := 6) (by kernel_rfl) rfl ?_
    refine WR.step (Ex.pickT rfl rfl) (Wn.none rfl) rfl rfl ?_
    refine WR.nil (WQ.any ?_)
    refine WA.one (i := 7) (by kernel_rfl) rfl ?_
    refine WR.step (Ex.assign rfl) (Wn.none rfl) rfl rfl ?_
    refine WR.nil (WQ.any ?_)
    refine WA.done (by kernel_rfl) ?_
    refine WQ.then ?_
    refine WC.ret ?_
    (repeat (first | refine WQ.thenRet ?_ | refine WQ.inBlockRet ?_))
    refine WQ.ret1 rfl rfl H.ext ?_
    exact rfl

theorem gl3_neg (l : List UInt8) (most : Int) (hs : l.length ≤ 12000) (hm : most < 0) : Ct Tryd.prog 5 [S l, I most] (fun M => Tabs M) (fun r _ => r = .bool true) := by
  refine Ct.of Tryd.func5 (enters Tryd.func5 (by kernel_rfl) rfl) rfl rfl rfl ?_
  intro w0 M0 H hp
  refine WC.seq ?_
  refine WC.region ?_
  refine WR.step (Ex.assign rfl) (Wn.none rfl) rfl rfl ?_
  refine WR.nil ?_
  refine WQ.then ?_
  refine WC.seq ?_
  refine WC.seq ?_
  refine WC.region ?_
  refine WR.call H (gex_spec) rfl (by assumption) (Wn.none rfl) rfl ?_
  intro v10 M w H hle hr10
  replace hp := hp.mono hle
  obtain rfl := hr10
  refine WR.step (Ex.notT rfl) (Wn.none rfl) rfl rfl ?_
  refine WR.nil ?_
  refine WQ.then ?_
  refine WC.condF rfl ?_
  refine WC.skip ?_
  refine WQ.then ?_
  refine WC.seq ?_
  refine WC.region ?_
  refine WR.step (Ex.move rfl) (Wn.none rfl) rfl rfl ?_
  refine WR.step (Ex.move rfl) (Wn.none rfl) rfl rfl ?_
  refine WR.call H (cut_neg _ _ hs hm) rfl (by assumption) (Wn.none rfl) rfl ?_
  intro v15 M w H hle hr15
  replace hp := hp.mono hle
  obtain rfl := hr15
  refine WR.step (Ex.move rfl) (Wn.none rfl) rfl rfl ?_
  refine WR.step (Ex.extract rfl rfl) (Wn.none rfl) rfl rfl ?_
  refine WR.step (Ex.extract rfl rfl) (Wn.none rfl) rfl rfl ?_
  refine WR.alloc [_, _] H Tryd.zeroValue28 rfl (Wn.none rfl) rfl ?_
  intro b6 w H
  refine WR.step (Ex.assign rfl) (Wn.none rfl) rfl rfl ?_
  refine WR.store [_, _] H rfl rfl rfl (by repeat (first | exact Upd.head | apply Upd.tail)) Tryd.sizeOf28 rfl (by rfl) (by rfl) (Wn.none rfl) ?_
  intro w H
  refine WR.nil ?_
  refine WQ.then ?_
  refine WC.seq ?_
  refine WC.seq ?_
  refine WC.region ?_
  refine WR.step (Ex.move rfl) (Wn.none rfl) rfl rfl ?_
  refine WR.step (Ex.lenStr Tryd.underlying9 rfl) (Wn.none rfl) rfl rfl ?_
  refine WR.stepF (Ex.gtr rfl rfl) (by omega) (Wn.none rfl) rfl rfl ?_
  refine WR.nil ?_
  refine WQ.then ?_
  refine WC.condF rfl ?_
  refine WC.skip ?_
  refine WQ.then ?_
  refine WC.seq ?_
  refine WC.seq ?_
  refine WC.region ?_
  refine WR.step (Ex.move rfl) (Wn.none rfl) rfl rfl ?_
  refine WR.stepT (Ex.lss rfl rfl) hm (Wn.none rfl) rfl rfl ?_
  refine WR.nil ?_
  refine WQ.then ?_
  refine WC.condT rfl ?_
  refine WC.seq ?_
  refine WC.draw (m := 8) rfl rfl H ?_
  intro w H
  refine WA.two (i := 0) (j := 1) (by kernel_rfl) rfl rfl ?_ ?_
  ·
    first | refine WR.step (Ex.loadAgg H rfl (by repeat (first | exact List.Mem.head _ | apply List.Mem.tail)) Tryd.isAgg28 Tryd.sizeOf28 (by rfl)) (Wn.none rfl) rfl rfl ?_ | refine WR.step (Ex.loadAggM H rfl (by assumption) Tryd.isAgg28 Tryd.sizeOf28 (by rfl)) (Wn.none rfl) rfl rfl ?_
    refine WR.nil (WQ.any ?_)
    refine WA.one (i := 1) (by kernel_rfl) rfl ?_
    refine WR.call H (at_spec _ _) rfl (trivial) (Wn.none rfl) rfl ?_
    intro v31 M w H hle hr31
    replace hp := hp.mono hle
    obtain rfl := hr31
    refine WR.nil (WQ.any ?_)
    refine WA.one (i := 2) (by kernel_rfl) rfl ?_
    refine WR.stepT (Ex.eqlAgg rfl rfl (by kernel_rfl) (eq28 _ _ _ _)) ⟨rfl, rfl⟩ (Wn.none rfl) rfl rfl ?_
    refine WR.nil (WQ.any ?_)
    refine WA.one (i := 3) (by kernel_rfl) rfl ?_
    refine WR.step (Ex.move rfl) (Wn.none rfl) rfl rfl ?_
    refine WR.nil (WQ.any ?_)
    refine WA.one (i := 4) (by kernel_rfl) rfl ?_
    refine WR.step (Ex.move rfl) (Wn.some rfl rfl rfl) rfl rfl ?_
    refine WR.nil (WQ.any ?_)
    refine WA.one (i := 5) (by kernel_rfl) rfl ?_
    refine WR.stepT (Ex.strEql rfl rfl) rfl (Wn.some rfl rfl rfl) rfl rfl ?_
    refine WR.nil (WQ.any ?_)
    refine WA.one (i := 6) (by kernel_rfl) rfl ?_
    refine WR.step (Ex.pickT rfl rfl) (Wn.none rfl) rfl rfl ?_
    refine WR.nil (WQ.any ?_)
    refine WA.one (i := 7) (by kernel_rfl) rfl ?_
    refine WR.step (Ex.assign rfl) (Wn.none rfl) rfl rfl ?_
    refine WR.nil (WQ.any ?_)
    refine WA.done (by kernel_rfl) ?_
    refine WQ.then ?_
    refine WC.ret ?_
    (repeat (first | refine WQ.thenRet ?_ | refine WQ.inBlockRet ?_))
    refine WQ.ret1 rfl rfl H.ext ?_
    exact rfl
  ·
    refine WR.call H (at_spec _ _) rfl (trivial) (Wn.none rfl) rfl ?_
    intro v31 M w H hle hr31
    replace hp := hp.mono hle
    obtain rfl := hr31
    refine WR.nil (WQ.any ?_)
    refine WA.one (i := 0) (by kernel_rfl) rfl ?_
    first | refine WR.step (Ex.loadAgg H rfl (by repeat (first | exact List.Mem.head _ | apply List.Mem.tail)) Tryd.isAgg28 Tryd.sizeOf28 (by rfl)) (Wn.none rfl) rfl rfl ?_ | refine WR.step (Ex.loadAggM H rfl (by assumption) Tryd.isAgg28 Tryd.sizeOf28 (by rfl)) (Wn.none rfl) rfl rfl ?_
    refine WR.nil (WQ.any ?_)
    refine WA.one (i := 2) (by kernel_rfl) rfl ?_
    refine WR.stepT (Ex.eqlAgg rfl rfl (by kernel_rfl) (eq28 _ _ _ _)) ⟨rfl, rfl⟩ (Wn.none rfl) rfl rfl ?_
    refine WR.nil (WQ.any ?_)
    refine WA.one (i := 3) (by kernel_rfl) rfl ?_
    refine WR.step (Ex.move rfl) (Wn.none rfl) rfl rfl ?_
    refine WR.nil (WQ.any ?_)
    refine WA.one (i := 4) (by kernel_rfl) rfl ?_
    refine WR.step (Ex.move rfl) (Wn.some rfl rfl rfl) rfl rfl ?_
    refine WR.nil (WQ.any ?_)
    refine WA.one (i := 5) (by kernel_rfl) rfl ?_
    refine WR.stepT (Ex.strEql rfl rfl) rfl (Wn.some rfl rfl rfl) rfl rfl ?_
    refine WR.nil (WQ.any ?_)
    refine WA.one (i := 6) (by kernel_rfl) rfl ?_
    refine WR.step (Ex.pickT rfl rfl) (Wn.none rfl) rfl rfl ?_
    refine WR.nil (WQ.any ?_)
    refine WA.one (i := 7) (by kernel_rfl) rfl ?_
    refine WR.step (Ex.assign rfl) (Wn.none rfl) rfl rfl ?_
    refine WR.nil (WQ.any ?_)
    refine WA.done (by kernel_rfl) ?_
    refine WQ.then ?_
    refine WC.ret ?_
    (repeat (first | refine WQ.thenRet ?_ | refine WQ.inBlockRet ?_))
    refine WQ.ret1 rfl rfl H.ext ?_
    exact rfl

theorem gl3_ok (l : List UInt8) (most : Int) (hs : l.length ≤ 12000) (hm : 0 ≤ most) : Ct Tryd.prog 5 [S l, I most] (fun M => Tabs M) (fun r _ => r = .bool true) := by
  refine Ct.of Tryd.func5 (enters Tryd.func5 (by kernel_rfl) rfl) rfl rfl rfl ?_
  intro w0 M0 H hp
  refine WC.seq ?_
  refine WC.region ?_
  refine WR.step (Ex.assign rfl) (Wn.none rfl) rfl rfl ?_
  refine WR.nil ?_
  refine WQ.then ?_
  refine WC.seq ?_
  refine WC.seq ?_
  refine WC.region ?_
  refine WR.call H (gex_spec) rfl (by assumption) (Wn.none rfl) rfl ?_
  intro v10 M w H hle hr10
  replace hp := hp.mono hle
  obtain rfl := hr10
  refine WR.step (Ex.notT rfl) (Wn.none rfl) rfl rfl ?_
  refine WR.nil ?_
  refine WQ.then ?_
  refine WC.condF rfl ?_
  refine WC.skip ?_
  refine WQ.then ?_
  refine WC.seq ?_
  refine WC.region ?_
  refine WR.step (Ex.move rfl) (Wn.none rfl) rfl rfl ?_
  refine WR.step (Ex.move rfl) (Wn.none rfl) rfl rfl ?_
  refine WR.call H (cut_spec _ _ hs hm) rfl (by assumption) (Wn.none rfl) rfl ?_
  intro v15 M w H hle hr15
  replace hp := hp.mono hle
  obtain rfl := hr15
  refine WR.step (Ex.move rfl) (Wn.none rfl) rfl rfl ?_
  refine WR.step (Ex.extract rfl rfl) (Wn.none rfl) rfl rfl ?_
  refine WR.step (Ex.extract rfl rfl) (Wn.none rfl) rfl rfl ?_
  refine WR.alloc [_, _] H Tryd.zeroValue28 rfl (Wn.none rfl) rfl ?_
  intro b6 w H
  refine WR.step (Ex.assign rfl) (Wn.none rfl) rfl rfl ?_
  refine WR.store [_, _] H rfl rfl rfl (by repeat (first | exact Upd.head | apply Upd.tail)) Tryd.sizeOf28 rfl (by rfl) (by rfl) (Wn.none rfl) ?_
  intro w H
  refine WR.nil ?_
  refine WQ.then ?_
  refine WC.seq ?_
  refine WC.seq ?_
  refine WC.region ?_
  refine WR.step (Ex.move rfl) (Wn.none rfl) rfl rfl ?_
  refine WR.step (Ex.lenStr Tryd.underlying9 rfl) (Wn.none rfl) rfl rfl ?_
  refine WR.stepF (Ex.gtr rfl rfl) (by omega) (Wn.none rfl) rfl rfl ?_
  refine WR.nil ?_
  refine WQ.then ?_
  refine WC.condF rfl ?_
  refine WC.skip ?_
  refine WQ.then ?_
  refine WC.seq ?_
  refine WC.seq ?_
  refine WC.region ?_
  refine WR.step (Ex.move rfl) (Wn.none rfl) rfl rfl ?_
  refine WR.stepF (Ex.lss rfl rfl) (by omega) (Wn.none rfl) rfl rfl ?_
  refine WR.nil ?_
  refine WQ.then ?_
  refine WC.condF rfl ?_
  refine WC.skip ?_
  refine WQ.then ?_
  refine WC.seq ?_
  refine WC.region ?_
  refine WR.step (Ex.move rfl) (Wn.none rfl) rfl rfl ?_
  refine WR.call H (rpieces_spec _ (by omega)) rfl (trivial) (Wn.none rfl) rfl ?_
  intro v38 M w H hle hr38
  replace hp := hp.mono hle
  have hf38 := hr38
  refine WR.step (Ex.assign rfl) (Wn.none rfl) rfl rfl ?_
  refine WR.nil ?_
  refine WQ.then ?_
  refine WC.seq ?_
  refine WC.region ?_
  refine WR.step (Ex.assign rfl) (Wn.none rfl) rfl rfl ?_
  refine WR.nil ?_
  refine WQ.then ?_
  refine WC.seq ?_
  refine WC.seq ?_
  refine WC.region ?_
  refine WR.step (Ex.assign rfl) (Wn.none rfl) rfl rfl ?_
  refine WR.nil ?_
  refine WQ.then ?_
  refine WC.block ?_
  refine WC.loop2 (fun (k : Nat) (o : List UInt8) => [(1, I most), (5, S (l.take (cutN most (pieces l) 0))), (6, ptr b6 0), (7, v38), (8, S o), (9, encN k)]) (fun (k : Nat) (o : List UInt8) w => k ≤ (pieces l).length ∧ o = ((pieces l).take k).flatten ∧ (cutN most (pieces l) 0) = cutN most ((pieces l).drop k) o.length ∧ ∃ M, St w0 M0 M [.blk b6 (.cells #[I 0, I 0] 28)] w ∧ Sl M encS v38 (pieces l)) (fun (k : Nat) (o : List UInt8) => (pieces l).length - k) (0) ([]) ⟨rfl, rfl, rfl, rfl, rfl, rfl, trivial⟩ (⟨by omega, rfl, rfl, M, H, hf38⟩) ?_
  intro k o w
  rintro ⟨hk, ho, hcut, M, H, hf38⟩
  have hpl := pieces_len l
  have hpre : o ++ ((pieces l).drop k).flatten = l := by rw [ho, ← List.flatten_append, List.take_append_drop, pieces_flat]
  have hol := congrArg List.length hpre
  rw [List.length_append] at hol
  have htk : l.take o.length = o := by
    have h1 := List.take_left (l₁ := o) (l₂ := ((pieces l).drop k).flatten)
    rwa [hpre] at h1
  refine WC.seq ?_
  refine WC.seq ?_
  refine WC.region ?_
  refine WR.step (Ex.move rfl) (Wn.none rfl) rfl rfl ?_
  refine WR.step (Ex.move rfl) (Wn.none rfl) rfl rfl ?_
  first | refine WR.step (Ex.lenSl Tryd.underlying24 (by assumption) rfl) (Wn.none rfl) rfl rfl ?_ | refine WR.step (Ex.lenRow Tryd.underlying24 H (by repeat (first | exact List.Mem.head _ | apply List.Mem.tail)) rfl) (Wn.none rfl) rfl rfl ?_ | refine WR.step (Ex.lenSlice Tryd.underlying24 rfl) (Wn.none rfl) rfl rfl ?_
  refine WR.split (Ex.lss rfl rfl) (Wn.none rfl) rfl rfl (fun h11_3 => ?_) (fun h11_3 => ?_)
  ·
    obtain ⟨p, hpk⟩ : ∃ p, (pieces l)[k]? = some p := ⟨_, List.getElem?_eq_getElem (by omega)⟩
    have e := List.getElem?_eq_some_iff.1 hpk
    have hsn : (pieces l).take (k + 1) = (pieces l).take k ++ [p] := by rw [List.take_succ_eq_append_getElem e.1, e.2]
    have hdr : (pieces l).drop k = p :: (pieces l).drop (k + 1) := by rw [List.drop_eq_getElem_cons e.1, e.2]
    rw [hdr, List.flatten_cons, List.length_append] at hol
    refine WR.step (Ex.move rfl) (Wn.none rfl) rfl rfl ?_
    refine WR.step (Ex.move rfl) (Wn.some rfl rfl rfl) rfl rfl ?_
    refine WR.step (Ex.lenStr Tryd.underlying9 rfl) (Wn.some rfl rfl rfl) rfl rfl ?_
    refine WR.step (Ex.move rfl) (Wn.some rfl rfl rfl) rfl rfl ?_
    refine WR.step (Ex.move rfl) (Wn.some rfl rfl rfl) rfl rfl ?_
    refine WR.idxSl Tryd.underlying24 Tryd.sizeOf9 (by assumption) rfl rfl (hpk) (Wn.some rfl rfl rfl) rfl ?_
    intro p48 hc48
    first | refine WR.step (Ex.loadM H rfl (by assumption) Tryd.isAgg9) (Wn.some rfl rfl rfl) rfl rfl ?_ | refine WR.step (Ex.load1 H rfl (by repeat (first | exact List.Mem.head _ | apply List.Mem.tail)) Tryd.isAgg9 (by rfl)) (Wn.some rfl rfl rfl) rfl rfl ?_
    refine WR.step (Ex.lenStr Tryd.underlying9 rfl) (Wn.some rfl rfl rfl) rfl rfl ?_
    refine WR.step (Ex.add64 rfl rfl (by omega)) (Wn.some rfl rfl rfl) rfl rfl ?_
    refine WR.step (Ex.move rfl) (Wn.some rfl rfl rfl) rfl rfl ?_
    refine WR.split (Ex.leq rfl rfl) (Wn.some rfl rfl rfl) rfl rfl (fun h11_14 => ?_) (fun h11_14 => ?_)
    ·
      refine WR.step (Ex.pickT rfl rfl) (Wn.none rfl) rfl rfl ?_
      refine WR.nil ?_
      refine WQ.then ?_
      refine WC.condT rfl ?_
      refine WC.skip ?_
      refine WQ.then ?_
      refine WC.seq ?_
      refine WC.block ?_
      refine WC.region ?_
      refine WR.step (Ex.move rfl) (Wn.none rfl) rfl rfl ?_
      refine WR.step (Ex.move rfl) (Wn.none rfl) rfl rfl ?_
      refine WR.step (Ex.move rfl) (Wn.none rfl) rfl rfl ?_
      refine WR.idxSl Tryd.underlying24 Tryd.sizeOf9 (by assumption) rfl rfl (hpk) (Wn.none rfl) rfl ?_
      intro p60 hc60
      first | refine WR.step (Ex.loadM H rfl (by assumption) Tryd.isAgg9) (Wn.none rfl) rfl rfl ?_ | refine WR.step (Ex.load1 H rfl (by repeat (first | exact List.Mem.head _ | apply List.Mem.tail)) Tryd.isAgg9 (by rfl)) (Wn.none rfl) rfl rfl ?_
      refine WR.step (Ex.strAdd rfl rfl (by first | omega | (simp only [List.length_cons, List.length_nil]; omega) | (simp only [List.length_append, List.length_cons, List.length_nil, List.length_drop, List.length_take]; omega))) (Wn.none rfl) rfl rfl ?_
      refine WR.step (Ex.assign rfl) (Wn.none rfl) rfl rfl ?_
      refine WR.nil ?_
      refine WQ.inBlock ?_
      refine WQ.then ?_
      refine WC.region ?_
      refine WR.step (Ex.move rfl) (Wn.none rfl) rfl rfl ?_
      refine WR.step (Ex.add64 rfl rfl (by omega)) (Wn.none rfl) rfl rfl ?_
      refine WR.step (Ex.assign rfl) (Wn.none rfl) rfl rfl ?_
      refine WR.nil ?_
      refine WQ.again2 (k + 1) (o ++ p) ⟨rfl, rfl, rfl, rfl, rfl, rfl, trivial⟩ ?_ ?_
      · exact ⟨by omega, by rw [hsn, List.flatten_append, ← ho]; simp, by rw [hcut, hdr, cutN, if_neg (by omega), List.length_append], M, H, hf38⟩
      · omega
    ·
      have hend : (cutN most (pieces l) 0) = o.length := by rw [hcut, hdr, cutN, if_pos (by omega)]
      refine WR.step (Ex.pickT rfl rfl) (Wn.none rfl) rfl rfl ?_
      refine WR.nil ?_
      refine WQ.then ?_
      refine WC.condF rfl ?_
      refine WC.exit ?_
      refine WQ.thenExit ?_
      refine WQ.thenExit ?_
      refine WQ.exitHere ?_
      refine WQ.then ?_
      refine WC.seq ?_
      refine WC.region ?_
      refine WR.step (Ex.fieldAddr Tryd.underlying28 rfl Tryd.sizeOf3 (by decide) rfl) (Wn.none rfl) rfl rfl ?_
      first | refine WR.step (Ex.loadM H rfl (by assumption) Tryd.isAgg3) (Wn.none rfl) rfl rfl ?_ | refine WR.step (Ex.load1 H rfl (by repeat (first | exact List.Mem.head _ | apply List.Mem.tail)) Tryd.isAgg3 (by rfl)) (Wn.none rfl) rfl rfl ?_
      refine WR.stepT (Ex.eql rfl rfl) rfl (Wn.none rfl) rfl rfl ?_
      refine WR.step (Ex.move rfl) (Wn.none rfl) rfl rfl ?_
      refine WR.step (Ex.move rfl) (Wn.some rfl rfl rfl) rfl rfl ?_
      refine WR.step (Ex.move rfl) (Wn.some rfl rfl rfl) rfl rfl ?_
      refine WR.stepT (Ex.strEql rfl rfl) (by rw [hend, htk]) (Wn.some rfl rfl rfl) rfl rfl ?_
      refine WR.step (Ex.pickT rfl rfl) (Wn.none rfl) rfl rfl ?_
      refine WR.step (Ex.assign rfl) (Wn.none rfl) rfl rfl ?_
      refine WR.nil ?_
      refine WQ.then ?_
      refine WC.ret ?_
      (repeat (first | refine WQ.thenRet ?_ | refine WQ.inBlockRet ?_))
      refine WQ.ret1 rfl rfl H.ext ?_
      exact rfl
  ·
    have hend : (cutN most (pieces l) 0) = o.length := by rw [hcut, List.drop_eq_nil_of_le (by omega), cutN]
    refine WR.step (Ex.move rfl) (Wn.none rfl) rfl rfl ?_
    refine WR.skipG (b := false) rfl rfl rfl rfl rfl ?_
    refine WR.skipG (b := false) rfl rfl rfl rfl rfl ?_
    refine WR.skipG (b := false) rfl rfl rfl rfl rfl ?_
    refine WR.skipG (b := false) rfl rfl rfl rfl rfl ?_
    refine WR.skipG (b := false) rfl rfl rfl rfl rfl ?_
    refine WR.skipG (b := false) rfl rfl rfl rfl rfl ?_
    refine WR.skipG (b := false) rfl rfl rfl rfl rfl ?_
    refine WR.skipG (b := false) rfl rfl rfl rfl rfl ?_
    refine WR.skipG (b := false) rfl rfl rfl rfl rfl ?_
    refine WR.skipG (b := false) rfl rfl rfl rfl rfl ?_
    refine WR.step (Ex.pickF rfl rfl) (Wn.none rfl) rfl rfl ?_
    refine WR.nil ?_
    refine WQ.then ?_
    refine WC.condF rfl ?_
    refine WC.exit ?_
    refine WQ.thenExit ?_
    refine WQ.thenExit ?_
    refine WQ.exitHere ?_
    refine WQ.then ?_
    refine WC.seq ?_
    refine WC.region ?_
    refine WR.step (Ex.fieldAddr Tryd.underlying28 rfl Tryd.sizeOf3 (by decide) rfl) (Wn.none rfl) rfl rfl ?_
    first | refine WR.step (Ex.loadM H rfl (by assumption) Tryd.isAgg3) (Wn.none rfl) rfl rfl ?_ | refine WR.step (Ex.load1 H rfl (by repeat (first | exact List.Mem.head _ | apply List.Mem.tail)) Tryd.isAgg3 (by rfl)) (Wn.none rfl) rfl rfl ?_
    refine WR.stepT (Ex.eql rfl rfl) rfl (Wn.none rfl) rfl rfl ?_
    refine WR.step (Ex.move rfl) (Wn.none rfl) rfl rfl ?_
    refine WR.step (Ex.move rfl) (Wn.some rfl rfl rfl) rfl rfl ?_
    refine WR.step (Ex.move rfl) (Wn.some rfl rfl rfl) rfl rfl ?_
    refine WR.stepT (Ex.strEql rfl rfl) (by rw [hend, htk]) (Wn.some rfl rfl rfl) rfl rfl ?_
    refine WR.step (Ex.pickT rfl rfl) (Wn.none rfl) rfl rfl ?_
    refine WR.step (Ex.assign rfl) (Wn.none rfl) rfl rfl ?_
    refine WR.nil ?_
    refine WQ.then ?_
    refine WC.ret ?_
    (repeat (first | refine WQ.thenRet ?_ | refine WQ.inBlockRet ?_))
    refine WQ.ret1 rfl rfl H.ext ?_
    exact rfl

theorem gl4 (l : List UInt8)(hs : l.length ≤ 1048576) : Ct Tryd.prog 6 [S l] (fun M => Tabs M) (fun r _ => r = .bool true) := by
  refine Ct.of Tryd.func6 (enters Tryd.func6 (by kernel_rfl) rfl) rfl rfl rfl ?_
  intro w0 M0 H hp
  refine WC.seq ?_
  refine WC.region ?_
  refine WR.step (Ex.assign rfl) (Wn.none rfl) rfl rfl ?_
  refine WR.nil ?_
  refine WQ.then ?_
  refine WC.seq ?_
  refine WC.region ?_
  refine WR.call H (gex_spec) rfl (by assumption) (Wn.none rfl) rfl ?_
  intro v3 M w H hle hr3
  replace hp := hp.mono hle
  obtain rfl := hr3
  refine WR.step (Ex.move rfl) (Wn.none rfl) rfl rfl ?_
  refine WR.step (Ex.move rfl) (Wn.some rfl rfl rfl) rfl rfl ?_
  refine WR.call H (width_spec _ (by omega)) rfl (by assumption) (Wn.some rfl rfl rfl) rfl ?_
  intro v6 M w H hle hr6
  replace hp := hp.mono hle
  obtain rfl := hr6
  refine WR.step (Ex.move rfl) (Wn.some rfl rfl rfl) rfl rfl ?_
  refine WR.call H (rcolumns_spec _ (by omega)) rfl (trivial) (Wn.some rfl rfl rfl) rfl ?_
  intro v8 M w H hle hr8
  replace hp := hp.mono hle
  obtain rfl := hr8
  refine WR.stepT (Ex.eql rfl rfl) rfl (Wn.some rfl rfl rfl) rfl rfl ?_
  refine WR.step (Ex.pickT rfl rfl) (Wn.none rfl) rfl rfl ?_
  refine WR.step (Ex.assign rfl) (Wn.none rfl) rfl rfl ?_
  refine WR.nil ?_
  refine WQ.then ?_
  refine WC.ret ?_
  (repeat (first | refine WQ.thenRet ?_ | refine WQ.inBlockRet ?_))
  refine WQ.ret1 rfl rfl H.ext ?_
  exact rfl

theorem gl5_big (l : List UInt8) (most : Int) (hs : 12000 < l.length) : Ct Tryd.prog 7 [S l, I most] (fun M => Tabs M) (fun r _ => r = .bool true) := by
  refine Ct.of Tryd.func7 (enters Tryd.func7 (by kernel_rfl) rfl) rfl rfl rfl ?_
  intro w0 M0 H hp
  refine WC.seq ?_
  refine WC.region ?_
  refine WR.step (Ex.assign rfl) (Wn.none rfl) rfl rfl ?_
  refine WR.nil ?_
  refine WQ.then ?_
  refine WC.seq ?_
  refine WC.seq ?_
  refine WC.region ?_
  refine WR.call H (gex_spec) rfl (by assumption) (Wn.none rfl) rfl ?_
  intro v9 M w H hle hr9
  replace hp := hp.mono hle
  obtain rfl := hr9
  refine WR.step (Ex.notT rfl) (Wn.none rfl) rfl rfl ?_
  refine WR.nil ?_
  refine WQ.then ?_
  refine WC.condF rfl ?_
  refine WC.skip ?_
  refine WQ.then ?_
  refine WC.seq ?_
  refine WC.region ?_
  refine WR.step (Ex.move rfl) (Wn.none rfl) rfl rfl ?_
  refine WR.step (Ex.move rfl) (Wn.none rfl) rfl rfl ?_
  refine WR.call H (cut_big _ _ hs) rfl (by assumption) (Wn.none rfl) rfl ?_
  intro v14 M w H hle hr14
  replace hp := hp.mono hle
  obtain rfl := hr14
  refine WR.step (Ex.move rfl) (Wn.none rfl) rfl rfl ?_
  refine WR.step (Ex.extract rfl rfl) (Wn.none rfl) rfl rfl ?_
  refine WR.step (Ex.extract rfl rfl) (Wn.none rfl) rfl rfl ?_
  refine WR.alloc [_, _] H Tryd.zeroValue28 rfl (Wn.none rfl) rfl ?_
  intro b6 w H
  refine WR.step (Ex.assign rfl) (Wn.none rfl) rfl rfl ?_
  refine WR.store [_, _] H rfl rfl rfl (by repeat (first | exact Upd.head | apply Upd.tail)) Tryd.sizeOf28 rfl (by rfl) (by rfl) (Wn.none rfl) ?_
  intro w H
  refine WR.nil ?_
  refine WQ.then ?_
  refine WC.seq ?_
  refine WC.seq ?_
  refine WC.region ?_
  refine WR.step (Ex.fieldAddr Tryd.underlying28 rfl Tryd.sizeOf3 (by decide) rfl) (Wn.none rfl) rfl rfl ?_
  first | refine WR.step (Ex.loadM H rfl (by assumption) Tryd.isAgg3) (Wn.none rfl) rfl rfl ?_ | refine WR.step (Ex.load1 H rfl (by repeat (first | exact List.Mem.head _ | apply List.Mem.tail)) Tryd.isAgg3 (by rfl)) (Wn.none rfl) rfl rfl ?_
  refine WR.stepT (Ex.neq rfl rfl) (by decide) (Wn.none rfl) rfl rfl ?_
  refine WR.nil ?_
  refine WQ.then ?_
  refine WC.condT rfl ?_
  refine WC.seq ?_
  refine WC.region ?_
  refine WR.step (Ex.move rfl) (Wn.none rfl) rfl rfl ?_
  refine WR.stepT (Ex.strEql rfl rfl) rfl (Wn.none rfl) rfl rfl ?_
  refine WR.step (Ex.assign rfl) (Wn.none rfl) rfl rfl ?_
  refine WR.nil ?_
  refine WQ.then ?_
  refine WC.ret ?_
  (repeat (first | refine WQ.thenRet ?_ | refine WQ.inBlockRet ?_))
  refine WQ.ret1 rfl rfl H.ext ?_
  exact rfl

theorem gl5_neg (l : List UInt8) (most : Int) (hs : l.length ≤ 12000) (hm : most < 0) : Ct Tryd.prog 7 [S l, I most] (fun M => Tabs M) (fun r _ => r = .bool true) := by
  refine Ct.of Tryd.func7 (enters Tryd.func7 (by kernel_rfl) rfl) rfl rfl rfl ?_
  intro w0 M0 H hp
  refine WC.seq ?_
  refine WC.region ?_
  refine WR.step (Ex.assign rfl) (Wn.none rfl) rfl rfl ?_
  refine WR.nil ?_
  refine WQ.then ?_
  refine WC.seq ?_
  refine WC.seq ?_
  refine WC.region ?_
  refine WR.call H (gex_spec) rfl (by assumption) (Wn.none rfl) rfl ?_
  intro v9 M w H hle hr9
  replace hp := hp.mono hle
  obtain rfl := hr9
  refine WR.step (Ex.notT rfl) (Wn.none rfl) rfl rfl ?_
  refine WR.nil ?_
  refine WQ.then ?_
  refine WC.condF rfl ?_
  refine WC.skip ?_
  refine WQ.then ?_
  refine WC.seq ?_
  refine WC.region ?_
  refine WR.step (Ex.move rfl) (Wn.none rfl) rfl rfl ?_
  refine WR.step (Ex.move rfl) (Wn.none rfl) rfl rfl ?_
  refine WR.call H (cut_neg _ _ hs hm) rfl (by assumption) (Wn.none rfl) rfl ?_
  intro v14 M w H hle hr14
  replace hp := hp.mono hle
  obtain rfl := hr14
  refine WR.step (Ex.move rfl) (Wn.none rfl) rfl rfl ?_
  refine WR.step (Ex.extract rfl rfl) (Wn.none rfl) rfl rfl ?_
  refine WR.step (Ex.extract rfl rfl) (Wn.none rfl) rfl rfl ?_
  refine WR.alloc [_, _] H Tryd.zeroValue28 rfl (Wn.none rfl) rfl ?_
  intro b6 w H
  refine WR.step (Ex.assign rfl) (Wn.none rfl) rfl rfl ?_
  refine WR.store [_, _] H rfl rfl rfl (by repeat (first | exact Upd.head | apply Upd.tail)) Tryd.sizeOf28 rfl (by rfl) (by rfl) (Wn.none rfl) ?_
  intro w H
  refine WR.nil ?_
  refine WQ.then ?_
  refine WC.seq ?_
  refine WC.seq ?_
  refine WC.region ?_
  refine WR.step (Ex.fieldAddr Tryd.underlying28 rfl Tryd.sizeOf3 (by decide) rfl) (Wn.none rfl) rfl rfl ?_
  first | refine WR.step (Ex.loadM H rfl (by assumption) Tryd.isAgg3) (Wn.none rfl) rfl rfl ?_ | refine WR.step (Ex.load1 H rfl (by repeat (first | exact List.Mem.head _ | apply List.Mem.tail)) Tryd.isAgg3 (by rfl)) (Wn.none rfl) rfl rfl ?_
  refine WR.stepT (Ex.neq rfl rfl) (by decide) (Wn.none rfl) rfl rfl ?_
  refine WR.nil ?_
  refine WQ.then ?_
  refine WC.condT rfl ?_
  refine WC.seq ?_
  refine WC.region ?_
  refine WR.step (Ex.move rfl) (Wn.none rfl) rfl rfl ?_
  refine WR.stepT (Ex.strEql rfl rfl) rfl (Wn.none rfl) rfl rfl ?_
  refine WR.step (Ex.assign rfl) (Wn.none rfl) rfl rfl ?_
  refine WR.nil ?_
  refine WQ.then ?_
  refine WC.ret ?_
  (repeat (first | refine WQ.thenRet ?_ | refine WQ.inBlockRet ?_))
  refine WQ.ret1 rfl rfl H.ext ?_
  exact rfl

theorem gl5_ok (l : List UInt8) (most : Int) (hs : l.length ≤ 12000) (hm : 0 ≤ most) : Ct Tryd.prog 7 [S l, I most] (fun M => Tabs M) (fun r _ => r = .bool true) := by
  refine Ct.of Tryd.func7 (enters Tryd.func7 (by kernel_rfl) rfl) rfl rfl rfl ?_
  intro w0 M0 H hp
  obtain ⟨hcp, hcl⟩ := cut_pieces most l
  generalize hc : (cutN most (pieces l) 0) = c at hcp hcl
  have htl : (l.take c).length = c := by rw [List.length_take]; omega
  have hla := pieces_len (l.take c)
  have hlb := pieces_len (l.drop c)
  have hca := cols_le (pieces (l.take c))
  have hcb := cols_le (pieces (l.drop c))
  rw [List.length_drop] at hlb
  refine WC.seq ?_
  refine WC.region ?_
  refine WR.step (Ex.assign rfl) (Wn.none rfl) rfl rfl ?_
  refine WR.nil ?_
  refine WQ.then ?_
  refine WC.seq ?_
  refine WC.seq ?_
  refine WC.region ?_
  refine WR.call H (gex_spec) rfl (by assumption) (Wn.none rfl) rfl ?_
  intro v9 M w H hle hr9
  replace hp := hp.mono hle
  obtain rfl := hr9
  refine WR.step (Ex.notT rfl) (Wn.none rfl) rfl rfl ?_
  refine WR.nil ?_
  refine WQ.then ?_
  refine WC.condF rfl ?_
  refine WC.skip ?_
  refine WQ.then ?_
  refine WC.seq ?_
  refine WC.region ?_
  refine WR.step (Ex.move rfl) (Wn.none rfl) rfl rfl ?_
  refine WR.step (Ex.move rfl) (Wn.none rfl) rfl rfl ?_
  refine WR.call H (Ct.mono (cut_spec l most hs hm) (R' := fun r _ => r = .tuple #[S (l.take c), fault 0 0]) (fun _ _ h => by rw [hc] at h; exact h)) rfl (by assumption) (Wn.none rfl) rfl ?_
  intro v14 M w H hle hr14
  replace hp := hp.mono hle
  obtain rfl := hr14
  refine WR.step (Ex.move rfl) (Wn.none rfl) rfl rfl ?_
  refine WR.step (Ex.extract rfl rfl) (Wn.none rfl) rfl rfl ?_
  refine WR.step (Ex.extract rfl rfl) (Wn.none rfl) rfl rfl ?_
  refine WR.alloc [_, _] H Tryd.zeroValue28 rfl (Wn.none rfl) rfl ?_
  intro b6 w H
  refine WR.step (Ex.assign rfl) (Wn.none rfl) rfl rfl ?_
  refine WR.store [_, _] H rfl rfl rfl (by repeat (first | exact Upd.head | apply Upd.tail)) Tryd.sizeOf28 rfl (by rfl) (by rfl) (Wn.none rfl) ?_
  intro w H
  refine WR.nil ?_
  refine WQ.then ?_
  refine WC.seq ?_
  refine WC.seq ?_
  refine WC.region ?_
  refine WR.step (Ex.fieldAddr Tryd.underlying28 rfl Tryd.sizeOf3 (by decide) rfl) (Wn.none rfl) rfl rfl ?_
  first | refine WR.step (Ex.loadM H rfl (by assumption) Tryd.isAgg3) (Wn.none rfl) rfl rfl ?_ | refine WR.step (Ex.load1 H rfl (by repeat (first | exact List.Mem.head _ | apply List.Mem.tail)) Tryd.isAgg3 (by rfl)) (Wn.none rfl) rfl rfl ?_
  refine WR.stepF (Ex.neq rfl rfl) (by decide) (Wn.none rfl) rfl rfl ?_
  refine WR.nil ?_
  refine WQ.then ?_
  refine WC.condF rfl ?_
  refine WC.skip ?_
  refine WQ.then ?_
  refine WC.seq ?_
  refine WC.seq ?_
  refine WC.region ?_
  refine WR.step (Ex.move rfl) (Wn.none rfl) rfl rfl ?_
  refine WR.stepE (v' := encN c) (Ex.lenStr Tryd.underlying9 rfl) (congrArg encN htl) (Wn.none rfl) rfl rfl ?_
  refine WR.step (Ex.move rfl) (Wn.none rfl) rfl rfl ?_
  refine WR.step (Ex.lenStr Tryd.underlying9 rfl) (Wn.none rfl) rfl rfl ?_
  refine WR.stepF (Ex.gtr rfl rfl) (by omega) (Wn.none rfl) rfl rfl ?_
  refine WR.step (Ex.move rfl) (Wn.none rfl) rfl rfl ?_
  refine WR.step (Ex.move rfl) (Wn.some rfl rfl rfl) rfl rfl ?_
  refine WR.step (Ex.move rfl) (Wn.some rfl rfl rfl) rfl rfl ?_
  refine WR.stepE (v' := encN c) (Ex.lenStr Tryd.underlying9 rfl) (congrArg encN htl) (Wn.some rfl rfl rfl) rfl rfl ?_
  refine WR.step (Ex.sliceStr (i := 0) (j := c) Tryd.underlying9 rfl (.inr ⟨rfl, rfl⟩) (.inl ⟨_, rfl, rfl⟩) (by omega) (by omega)) (Wn.some rfl rfl rfl) rfl rfl ?_
  refine WR.step (Ex.move rfl) (Wn.some rfl rfl rfl) rfl rfl ?_
  refine WR.stepF (Ex.strNeq rfl rfl) (by simp) (Wn.some rfl rfl rfl) rfl rfl ?_
  refine WR.step (Ex.pickF rfl rfl) (Wn.none rfl) rfl rfl ?_
  refine WR.nil ?_
  refine WQ.then ?_
  refine WC.condF rfl ?_
  refine WC.skip ?_
  refine WQ.then ?_
  refine WC.seq ?_
  refine WC.region ?_
  refine WR.step (Ex.move rfl) (Wn.none rfl) rfl rfl ?_
  refine WR.step (Ex.move rfl) (Wn.none rfl) rfl rfl ?_
  refine WR.stepE (v' := encN c) (Ex.lenStr Tryd.underlying9 rfl) (congrArg encN htl) (Wn.none rfl) rfl rfl ?_
  refine WR.stepE (v' := S (l.drop c)) (Ex.sliceStr (i := c) (j := l.length) Tryd.underlying9 rfl (.inl ⟨_, rfl, rfl⟩) (.inr ⟨rfl, rfl⟩) (by omega) (by omega)) (by rw [List.take_length]) (Wn.none rfl) rfl rfl ?_
  refine WR.step (Ex.assign rfl) (Wn.none rfl) rfl rfl ?_
  refine WR.nil ?_
  refine WQ.then ?_
  refine WC.seq ?_
  refine WC.region ?_
  refine WR.step (Ex.move rfl) (Wn.none rfl) rfl rfl ?_
  refine WR.call H (split_spec _ (by omega)) rfl (by assumption) (Wn.none rfl) rfl ?_
  intro v40 M w H hle hr40
  replace hp := hp.mono hle
  have hf40 := hr40
  replace H := H.newRow 9 encS
  refine WR.appendSl ty24 (fun _ => rfl) H rfl (fun _ => by repeat (first | exact Upd.head | apply Upd.tail)) rfl (by assumption) (by first | omega | (simp only [List.length_append, List.length_cons, List.length_nil, List.length_take, List.length_drop]; omega)) (by first | (simp only [maxLen]; omega) | (simp only [maxLen, List.length_append, List.length_cons, List.length_nil, List.length_take, List.length_drop]; omega)) (Wn.none rfl) rfl ?_
  intro v41 w H
  refine WR.step (Ex.move rfl) (Wn.none rfl) rfl rfl ?_
  refine WR.call H (split_spec _ (by rw [List.length_drop]; omega)) rfl (by assumption) (Wn.none rfl) rfl ?_
  intro v43 M w H hle hr43
  replace hp := hp.mono hle
  replace hf40 := hf40.mono hle
  have hf43 := hr43
  refine WR.appendSl ty24 (fun _ => rfl) H rfl (fun _ => by repeat (first | exact Upd.head | apply Upd.tail)) rfl (by assumption) (by first | omega | (simp only [List.length_append, List.length_cons, List.length_nil, List.length_take, List.length_drop]; omega)) (by first | (simp only [maxLen]; omega) | (simp only [maxLen, List.length_append, List.length_cons, List.length_nil, List.length_take, List.length_drop]; omega)) (Wn.none rfl) rfl ?_
  intro v44 w H
  refine WR.step (Ex.assign rfl) (Wn.none rfl) rfl rfl ?_
  refine WR.nil ?_
  refine WQ.then ?_
  refine WC.seq ?_
  refine WC.region ?_
  obtain ⟨M, hle, hf, H⟩ := H.freezeRow (v := v44) (enc := encS) (t := 9) (by repeat (first | exact Rem.head | apply Rem.tail))
  replace hp := hp.mono hle
  replace hf : Sl M encS v44 (pieces l) := by
    rw [List.nil_append, hcp] at hf; exact hf
  refine WR.step (Ex.move rfl) (Wn.none rfl) rfl rfl ?_
  refine WR.step (Ex.move rfl) (Wn.none rfl) rfl rfl ?_
  refine WR.call H (split_spec l (by omega)) rfl (by assumption) (Wn.none rfl) rfl ?_
  intro v47 M w H hle hr47
  replace hp := hp.mono hle
  replace hf := hf.mono hle
  have hf47 := hr47
  refine WR.call H (Ct.mono (strings_spec _ _ (pieces l) (pieces l)) (R' := fun r _ => r = .bool true) (fun _ _ h => h.trans (congrArg Value.bool (decide_eq_true rfl)))) rfl (⟨by assumption, by assumption⟩) (Wn.none rfl) rfl ?_
  intro v48 M w H hle hr48
  replace hp := hp.mono hle
  replace hf := hf.mono hle
  replace hf47 := hf47.mono hle
  obtain rfl := hr48
  refine WR.step (Ex.move rfl) (Wn.none rfl) rfl rfl ?_
  refine WR.step (Ex.move rfl) (Wn.some rfl rfl rfl) rfl rfl ?_
  refine WR.call H (width_spec _ (by omega)) rfl (by assumption) (Wn.some rfl rfl rfl) rfl ?_
  intro v51 M w H hle hr51
  replace hp := hp.mono hle
  replace hf := hf.mono hle
  replace hf47 := hf47.mono hle
  obtain rfl := hr51
  refine WR.step (Ex.move rfl) (Wn.some rfl rfl rfl) rfl rfl ?_
  refine WR.call H (width_spec _ (by rw [List.length_drop]; omega)) rfl (by assumption) (Wn.some rfl rfl rfl) rfl ?_
  intro v53 M w H hle hr53
  replace hp := hp.mono hle
  replace hf := hf.mono hle
  replace hf47 := hf47.mono hle
  obtain rfl := hr53
  refine WR.step (Ex.add64 rfl rfl (by omega)) (Wn.some rfl rfl rfl) rfl rfl ?_
  refine WR.step (Ex.move rfl) (Wn.some rfl rfl rfl) rfl rfl ?_
  refine WR.call H (width_spec _ (by omega)) rfl (by assumption) (Wn.some rfl rfl rfl) rfl ?_
  intro v56 M w H hle hr56
  replace hp := hp.mono hle
  replace hf := hf.mono hle
  replace hf47 := hf47.mono hle
  obtain rfl := hr56
  refine WR.stepT (Ex.eql rfl rfl) (by rw [← cols_append, hcp]) (Wn.some rfl rfl rfl) rfl rfl ?_
  refine WR.step (Ex.pickT rfl rfl) (Wn.none rfl) rfl rfl ?_
  refine WR.step (Ex.assign rfl) (Wn.none rfl) rfl rfl ?_
  refine WR.nil ?_
  refine WQ.then ?_
  refine WC.ret ?_
  (repeat (first | refine WQ.thenRet ?_ | refine WQ.inBlockRet ?_))
  refine WQ.ret1 rfl rfl H.ext ?_
  exact rfl

theorem glaw3 (l : List UInt8) (most : Int) : Ct Tryd.prog 5 [S l, I most] (fun M => Tabs M) (fun r _ => r = .bool true) := by
  rcases Nat.lt_or_ge 12000 l.length with h | h
  · exact gl3_big l most h
  · rcases Int.lt_or_le most 0 with h2 | h2
    · exact gl3_neg l most h h2
    · exact gl3_ok l most h h2
theorem glaw5 (l : List UInt8) (most : Int) : Ct Tryd.prog 7 [S l, I most] (fun M => Tabs M) (fun r _ => r = .bool true) := by
  rcases Nat.lt_or_ge 12000 l.length with h | h
  · exact gl5_big l most h
  · rcases Int.lt_or_le most 0 with h2 | h2
    · exact gl5_neg l most h h2
    · exact gl5_ok l most h h2
end Go.Proofs.YtnjglbmaonbcbaaDoor
