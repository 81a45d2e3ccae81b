/-
  functions of package bytes: walks over the program's own operations, written by a program of this repository (wip/tools/gen.py) out of a plan.
-/
import Derived.Test.YtolmifddbjdepaaDoorQen
import Derived.Test.YtolmifddbjdepaaDoorAsc
import Derived.KernelRfl
set_option linter.unusedVariables false
set_option linter.unusedSimpArgs false
namespace Go.Proofs.YtolmifddbjdepaaDoor
open Go Go.RowKit Go.Ph

open Go.Ph.Qp Go.Ph.Chs
theorem equal_spec (a b : Value) (l m : List UInt8) : Ct Tryd.prog 45 [a, b] (fun M => Bs M a l ∧ Bs M b m) (fun r _ => r = .bool (decide (l = m))) := by
  refine Ct.of Tryd.func45 (enters Tryd.func45 (by kernel_rfl) rfl) rfl rfl rfl ?_
  intro w0 M0 H hp
  obtain ⟨ha, hb⟩ := hp
  refine WC.seq ?_
  refine WC.region ?_
  refine WR.step (Ex.assign rfl) (Wn.none rfl) rfl rfl ?_
  refine WR.nil ?_
  refine WQ.then ?_
  refine WC.seq ?_
  refine WC.region ?_
  refine WR.step (Ex.move rfl) (Wn.none rfl) rfl rfl ?_
  refine WR.step (Ex.toStr Tryd.underlying22 Tryd.underlying5 Tryd.underlying9 H (by assumption) rfl) (Wn.none rfl) rfl rfl ?_
  refine WR.step (Ex.move rfl) (Wn.none rfl) rfl rfl ?_
  refine WR.step (Ex.toStr Tryd.underlying22 Tryd.underlying5 Tryd.underlying9 H (by assumption) rfl) (Wn.none rfl) rfl rfl ?_
  refine WR.step (Ex.strEql rfl rfl) (Wn.none rfl) rfl rfl ?_
  refine WR.step (Ex.assign rfl) (Wn.none rfl) rfl rfl ?_
  refine WR.nil ?_
  refine WQ.then ?_
  refine WC.ret ?_
  (repeat (first | refine WQ.thenRet ?_ | refine WQ.inBlockRet ?_))
  refine WQ.ret1 rfl rfl H.ext ?_
  exact rfl

theorem hasSuffix_spec (v s : Value) (l : List UInt8) (x : UInt8) : Ct Tryd.prog 41 [v, s] (fun M => Bs M v l ∧ Bs M s [x]) (fun r _ => r = .bool (decide (l.getLast? = some x))) := by
  refine Ct.of Tryd.func41 (enters Tryd.func41 (by kernel_rfl) rfl) rfl rfl rfl ?_
  intro w0 M0 H hp
  obtain ⟨hv, hx⟩ := hp
  have hx1 : ([x] : List UInt8).length = 1 := rfl
  have hsh := hv.short
  simp only [maxLen] at hsh
  refine WC.seq ?_
  refine WC.region ?_
  refine WR.step (Ex.assign rfl) (Wn.none rfl) rfl rfl ?_
  refine WR.nil ?_
  refine WQ.then ?_
  refine WC.seq ?_
  refine WC.region ?_
  refine WR.step (Ex.move rfl) (Wn.none rfl) rfl rfl ?_
  first | refine WR.step (Ex.lenSl Tryd.underlying22 (by assumption) rfl) (Wn.none rfl) rfl rfl ?_ | refine WR.step (Ex.lenRow Tryd.underlying22 H (by repeat (first | exact List.Mem.head _ | apply List.Mem.tail)) rfl) (Wn.none rfl) rfl rfl ?_ | refine WR.step (Ex.lenSlice Tryd.underlying22 rfl) (Wn.none rfl) rfl rfl ?_
  refine WR.step (Ex.move rfl) (Wn.none rfl) rfl rfl ?_
  first | refine WR.step (Ex.lenSl Tryd.underlying22 (by assumption) rfl) (Wn.none rfl) rfl rfl ?_ | refine WR.step (Ex.lenRow Tryd.underlying22 H (by repeat (first | exact List.Mem.head _ | apply List.Mem.tail)) rfl) (Wn.none rfl) rfl rfl ?_ | refine WR.step (Ex.lenSlice Tryd.underlying22 rfl) (Wn.none rfl) rfl rfl ?_
  refine WR.split (Ex.geq rfl rfl) (Wn.none rfl) rfl rfl (fun h1_4 => ?_) (fun h1_4 => ?_)
  ·
    have hpos : 0 < l.length := by simp at h1_4; omega
    obtain ⟨c, hc⟩ : ∃ c, l[l.length - 1]? = some c := ⟨_, List.getElem?_eq_getElem (by omega)⟩
    obtain ⟨hd, hlast⟩ := last_drop hpos hc
    refine WR.step (Ex.move rfl) (Wn.none rfl) rfl rfl ?_
    refine WR.step (Ex.move rfl) (Wn.some rfl rfl rfl) rfl rfl ?_
    refine WR.step (Ex.move rfl) (Wn.some rfl rfl rfl) rfl rfl ?_
    first | refine WR.step (Ex.lenSl Tryd.underlying22 (by assumption) rfl) (Wn.some rfl rfl rfl) rfl rfl ?_ | refine WR.step (Ex.lenRow Tryd.underlying22 H (by repeat (first | exact List.Mem.head _ | apply List.Mem.tail)) rfl) (Wn.some rfl rfl rfl) rfl rfl ?_ | refine WR.step (Ex.lenSlice Tryd.underlying22 rfl) (Wn.some rfl rfl rfl) rfl rfl ?_
    refine WR.step (Ex.move rfl) (Wn.some rfl rfl rfl) rfl rfl ?_
    first | refine WR.step (Ex.lenSl Tryd.underlying22 (by assumption) rfl) (Wn.some rfl rfl rfl) rfl rfl ?_ | refine WR.step (Ex.lenRow Tryd.underlying22 H (by repeat (first | exact List.Mem.head _ | apply List.Mem.tail)) rfl) (Wn.some rfl rfl rfl) rfl rfl ?_ | refine WR.step (Ex.lenSlice Tryd.underlying22 rfl) (Wn.some rfl rfl rfl) rfl rfl ?_
    refine WR.stepE (v' := encN (l.length - 1)) (Ex.sub64 rfl rfl (by omega)) (congrArg I (by simp only [List.length_cons, List.length_nil]; omega)) (Wn.some rfl rfl rfl) rfl rfl ?_
    refine WR.sliceSl (i := l.length - 1) (j := l.length) Tryd.underlying22 Tryd.sizeOf5 (by assumption) rfl (.inl ⟨_, rfl, rfl⟩) (.inr ⟨rfl, rfl⟩) (by omega) (by omega) (Wn.some rfl rfl rfl) rfl ?_
    intro v17 hs17
    refine WR.step (Ex.move rfl) (Wn.some rfl rfl rfl) rfl rfl ?_
    try rw [List.take_length, hd] at hs17
    refine WR.call H (equal_spec _ _ [c] [x]) rfl (⟨by assumption, by assumption⟩) (Wn.some rfl rfl rfl) rfl ?_
    intro v19 M w H hle hr19
    replace hv := hv.mono hle
    replace hx := hx.mono hle
    replace hs17 := hs17.mono hle
    obtain rfl := hr19
    refine WR.step (Ex.pickT rfl rfl) (Wn.none rfl) rfl rfl ?_
    refine WR.step (Ex.assign rfl) (Wn.none rfl) rfl rfl ?_
    refine WR.nil ?_
    refine WQ.then ?_
    refine WC.ret ?_
    (repeat (first | refine WQ.thenRet ?_ | refine WQ.inBlockRet ?_))
    refine WQ.ret1 rfl rfl H.ext ?_
    refine congrArg Value.bool (decide_eq_decide.2 ?_)
    rw [hlast]
    simp
  ·
    refine WR.step (Ex.move rfl) (Wn.none rfl) rfl rfl ?_
    refine WR.skipG (b := false) rfl rfl rfl rfl rfl ?_
    refine WR.skipG (b := false) rfl rfl rfl rfl rfl ?_
    refine WR.skipG (b := false) rfl rfl rfl rfl rfl ?_
    refine WR.skipG (b := false) rfl rfl rfl rfl rfl ?_
    refine WR.skipG (b := false) rfl rfl rfl rfl rfl ?_
    refine WR.skipG (b := false) rfl rfl rfl rfl rfl ?_
    refine WR.skipG (b := false) rfl rfl rfl rfl rfl ?_
    refine WR.skipG (b := false) rfl rfl rfl rfl rfl ?_
    try rw [List.take_length, hd] at hs17
    refine WR.skipG (b := false) rfl rfl rfl rfl rfl ?_
    refine WR.step (Ex.pickF rfl rfl) (Wn.none rfl) rfl rfl ?_
    refine WR.step (Ex.assign rfl) (Wn.none rfl) rfl rfl ?_
    refine WR.nil ?_
    refine WQ.then ?_
    refine WC.ret ?_
    (repeat (first | refine WQ.thenRet ?_ | refine WQ.inBlockRet ?_))
    refine WQ.ret1 rfl rfl H.ext ?_
    refine congrArg Value.bool (decide_eq_false ?_).symm
    rw [List.eq_nil_of_length_eq_zero (show l.length = 0 by simp at h1_4; omega)]
    simp

theorem trimSuffix_spec (v s : Value) (l : List UInt8) (x : UInt8) : Ct Tryd.prog 39 [v, s] (fun M => Bs M v l ∧ Bs M s [x]) (fun r M => Bs M r (chop x l)) := by
  refine Ct.of Tryd.func39 (enters Tryd.func39 (by kernel_rfl) rfl) rfl rfl rfl ?_
  intro w0 M0 H hp
  obtain ⟨hv, hx⟩ := hp
  have hx1 : ([x] : List UInt8).length = 1 := rfl
  have hsh := hv.short
  simp only [maxLen] at hsh
  refine WC.seq ?_
  refine WC.region ?_
  refine WR.step (Ex.assign rfl) (Wn.none rfl) rfl rfl ?_
  refine WR.nil ?_
  refine WQ.then ?_
  refine WC.seq ?_
  refine WC.seq ?_
  refine WC.region ?_
  refine WR.step (Ex.move rfl) (Wn.none rfl) rfl rfl ?_
  refine WR.step (Ex.move rfl) (Wn.none rfl) rfl rfl ?_
  refine WR.callB H (hasSuffix_spec _ _ l x) rfl (⟨by assumption, by assumption⟩) (Wn.none rfl) rfl (fun h1_2 => ?_) (fun h1_2 => ?_)
  ·
    intro M w H hle
    replace hv := hv.mono hle
    replace hx := hx.mono hle
    have hpos : 0 < l.length := by
      rcases Nat.eq_zero_or_pos l.length with h | h
      · rw [List.eq_nil_of_length_eq_zero h] at h1_2; cases h1_2
      · exact h
    refine WR.nil ?_
    refine WQ.then ?_
    refine WC.condT rfl ?_
    refine WC.seq ?_
    refine WC.region ?_
    refine WR.step (Ex.move rfl) (Wn.none rfl) rfl rfl ?_
    refine WR.step (Ex.move rfl) (Wn.none rfl) rfl rfl ?_
    first | refine WR.step (Ex.lenSl Tryd.underlying22 (by assumption) rfl) (Wn.none rfl) rfl rfl ?_ | refine WR.step (Ex.lenRow Tryd.underlying22 H (by repeat (first | exact List.Mem.head _ | apply List.Mem.tail)) rfl) (Wn.none rfl) rfl rfl ?_ | refine WR.step (Ex.lenSlice Tryd.underlying22 rfl) (Wn.none rfl) rfl rfl ?_
    refine WR.step (Ex.move rfl) (Wn.none rfl) rfl rfl ?_
    first | refine WR.step (Ex.lenSl Tryd.underlying22 (by assumption) rfl) (Wn.none rfl) rfl rfl ?_ | refine WR.step (Ex.lenRow Tryd.underlying22 H (by repeat (first | exact List.Mem.head _ | apply List.Mem.tail)) rfl) (Wn.none rfl) rfl rfl ?_ | refine WR.step (Ex.lenSlice Tryd.underlying22 rfl) (Wn.none rfl) rfl rfl ?_
    refine WR.stepE (v' := encN (l.length - 1)) (Ex.sub64 rfl rfl (by omega)) (congrArg I (by simp only [List.length_cons, List.length_nil]; omega)) (Wn.none rfl) rfl rfl ?_
    refine WR.sliceSl (i := 0) (j := l.length - 1) Tryd.underlying22 Tryd.sizeOf5 (by assumption) rfl (.inr ⟨rfl, rfl⟩) (.inl ⟨_, rfl, rfl⟩) (by omega) (by omega) (Wn.none rfl) rfl ?_
    intro v14 hs14
    refine WR.step (Ex.assign rfl) (Wn.none rfl) rfl rfl ?_
    refine WR.nil ?_
    refine WQ.then ?_
    refine WC.ret ?_
    (repeat (first | refine WQ.thenRet ?_ | refine WQ.inBlockRet ?_))
    refine WQ.ret1 rfl rfl H.ext ?_
    refine ?_
    unfold chop
    rw [if_pos h1_2, List.dropLast_eq_take]
    exact hs14
  ·
    intro M w H hle
    replace hv := hv.mono hle
    replace hx := hx.mono hle
    refine WR.nil ?_
    refine WQ.then ?_
    refine WC.condF rfl ?_
    refine WC.skip ?_
    refine WQ.then ?_
    refine WC.seq ?_
    refine WC.region ?_
    refine WR.step (Ex.move rfl) (Wn.none rfl) rfl rfl ?_
    refine WR.step (Ex.assign rfl) (Wn.none rfl) rfl rfl ?_
    refine WR.nil ?_
    refine WQ.then ?_
    refine WC.ret ?_
    (repeat (first | refine WQ.thenRet ?_ | refine WQ.inBlockRet ?_))
    refine WQ.ret1 rfl rfl H.ext ?_
    refine ?_
    unfold chop
    rw [if_neg h1_2]
    exact hv

theorem mkAsc_spec (cs : List UInt8) (hs : cs.length ≤ 100) (hc : ∀ c ∈ cs, c.toNat < 128) : Ct Tryd.prog 59 [S cs] (fun _ => True) (fun r _ => r = .tuple #[.agg (asc cs).toArray, .bool true]) := by
  refine Ct.of Tryd.func59 (enters Tryd.func59 (by kernel_rfl) rfl) rfl rfl rfl ?_
  intro w0 M0 H hp
  refine WC.seq ?_
  refine WC.region ?_
  refine WR.alloc (asc []) H Tryd.zeroValue69 (by kernel_rfl) (Wn.none rfl) rfl ?_
  intro b2 w H
  refine WR.step (Ex.assign rfl) (Wn.none rfl) rfl rfl ?_
  refine WR.nil ?_
  refine WQ.then ?_
  refine WC.seq ?_
  refine WC.seq ?_
  refine WC.region ?_
  refine WR.step (Ex.assign rfl) (Wn.none rfl) rfl rfl ?_
  refine WR.nil ?_
  refine WQ.then ?_
  refine WC.block ?_
  refine WC.loop1 (fun (i : Nat) => [(0, S cs), (2, ptr b2 0), (4, encN i)]) (fun (i : Nat) w => i ≤ cs.length ∧ ∃ M, St w0 M0 M [.blk b2 (.cells (asc (cs.take i)).toArray 69)] w) (fun (i : Nat) => cs.length - i) (0) ⟨rfl, rfl, rfl, trivial⟩ (⟨by omega, M0, H⟩) ?_
  intro i w
  rintro ⟨hi, M, H⟩
  refine WC.seq ?_
  refine WC.seq ?_
  refine WC.region ?_
  refine WR.step (Ex.move rfl) (Wn.none rfl) rfl rfl ?_
  refine WR.step (Ex.move rfl) (Wn.none rfl) rfl rfl ?_
  refine WR.step (Ex.lenStr Tryd.underlying9 rfl) (Wn.none rfl) rfl rfl ?_
  refine WR.split (Ex.lss rfl rfl) (Wn.none rfl) rfl rfl (fun h2_3 => ?_) (fun h2_3 => ?_)
  ·
    obtain ⟨c, hci⟩ : ∃ c, cs[i]? = some c := ⟨_, List.getElem?_eq_getElem (by omega)⟩
    have hc128 := hc c (List.mem_of_getElem? hci)
    have hsn : cs.take (i + 1) = cs.take i ++ [c] := by
      obtain ⟨e1, e2⟩ := List.getElem?_eq_some_iff.1 hci
      rw [List.take_succ_eq_append_getElem e1, e2]
    refine WR.nil ?_
    refine WQ.then ?_
    refine WC.condT rfl ?_
    refine WC.skip ?_
    refine WQ.then ?_
    refine WC.seq ?_
    refine WC.block ?_
    refine WC.seq ?_
    refine WC.region ?_
    refine WR.step (Ex.move rfl) (Wn.none rfl) rfl rfl ?_
    refine WR.step (Ex.move rfl) (Wn.none rfl) rfl rfl ?_
    refine WR.step (Ex.idxStr Tryd.underlying9 rfl rfl (hci)) (Wn.none rfl) rfl rfl ?_
    refine WR.step (Ex.assign rfl) (Wn.none rfl) rfl rfl ?_
    refine WR.nil ?_
    refine WQ.then ?_
    refine WC.seq ?_
    refine WC.seq ?_
    refine WC.region ?_
    refine WR.step (Ex.move rfl) (Wn.none rfl) rfl rfl ?_
    refine WR.stepF (Ex.geq rfl rfl) (by omega) (Wn.none rfl) rfl rfl ?_
    refine WR.nil ?_
    refine WQ.then ?_
    refine WC.condF rfl ?_
    refine WC.skip ?_
    refine WQ.then ?_
    refine WC.region ?_
    refine WR.step (Ex.move rfl) (Wn.none rfl) rfl rfl ?_
    refine WR.stepE (v' := ptr b2 c.toNat) (Ex.idxArr Tryd.underlying69 Tryd.sizeOf4 rfl rfl (by omega)) (by rw [Nat.zero_add, Nat.mul_one]) (Wn.none rfl) rfl rfl ?_
    refine WR.store1 (asc (cs.take i ++ [c])) H rfl rfl (by repeat (first | exact Upd.head | apply Upd.tail)) (asc_set _ _) Tryd.sizeOf4 (by rw [asc_len]; omega) rfl rfl (Wn.none rfl) ?_
    intro w H
    refine WR.nil ?_
    refine WQ.inBlock ?_
    refine WQ.then ?_
    refine WC.region ?_
    refine WR.step (Ex.move rfl) (Wn.none rfl) rfl rfl ?_
    refine WR.step (Ex.add64 rfl rfl (by omega)) (Wn.none rfl) rfl rfl ?_
    refine WR.step (Ex.assign rfl) (Wn.none rfl) rfl rfl ?_
    refine WR.nil ?_
    refine WQ.again1 (i + 1) ⟨rfl, rfl, rfl, trivial⟩ ?_ ?_
    · exact ⟨by omega, M, by rw [hsn]; exact H⟩
    · omega
  ·
    refine WR.nil ?_
    refine WQ.then ?_
    refine WC.condF rfl ?_
    refine WC.exit ?_
    refine WQ.thenExit ?_
    refine WQ.thenExit ?_
    refine WQ.exitHere ?_
    refine WQ.then ?_
    refine WC.seq ?_
    refine WC.region ?_
    refine WR.step (Ex.loadAgg H rfl (by repeat (first | exact List.Mem.head _ | apply List.Mem.tail)) Tryd.isAgg69 Tryd.sizeOf69 (asc_len _)) (Wn.none rfl) rfl rfl ?_
    refine WR.store (asc (cs.take i)) H rfl rfl rfl (by repeat (first | exact Upd.head | apply Upd.tail)) Tryd.sizeOf69 (asc_len _) (asc_len _) (asc_one _) (Wn.none rfl) ?_
    intro w H
    refine WR.step (Ex.assign rfl) (Wn.none rfl) rfl rfl ?_
    refine WR.nil ?_
    refine WQ.then ?_
    refine WC.ret ?_
    (repeat (first | refine WQ.thenRet ?_ | refine WQ.inBlockRet ?_))
    refine WQ.ret2 rfl ⟨_, rfl, H.loadAgg (by repeat (first | exact List.Mem.head _ | apply List.Mem.tail)) Tryd.isAgg69 Tryd.sizeOf69 (asc_len _)⟩ rfl H.ext ?_
    rw [List.take_of_length_le (by omega)]

theorem contains_spec (b : Nat) (c : UInt8) : Ct Tryd.prog 78 [ptr b 0, encB c] (fun M => M b = some (.cells (asc [32, 9]).toArray 69)) (fun r _ => r = .bool (decide (bl c))) := by
  refine Ct.of Tryd.func78 (enters Tryd.func78 (by kernel_rfl) rfl) rfl rfl rfl ?_
  intro w0 M0 H hp
  have hclt := c.toNat_lt
  refine WC.seq ?_
  refine WC.region ?_
  refine WR.step (Ex.assign rfl) (Wn.none rfl) rfl rfl ?_
  refine WR.nil ?_
  refine WQ.then ?_
  refine WC.seq ?_
  refine WC.region ?_
  refine WR.step (Ex.move rfl) (Wn.none rfl) rfl rfl ?_
  refine WR.step (Ex.move rfl) (Wn.none rfl) rfl rfl ?_
  refine WR.step (Ex.nilCheck rfl) (Wn.none rfl) rfl rfl ?_
  refine WR.stepE (v' := ptr b c.toNat) (Ex.idxArr Tryd.underlying69 Tryd.sizeOf4 rfl rfl (by omega)) (by rw [Nat.zero_add, Nat.mul_one]) (Wn.none rfl) rfl rfl ?_
  refine WR.step (Ex.loadM (p := ⟨b, c.toNat, none⟩) H rfl ⟨rfl, _, _, _, hp, by rw [List.getElem?_toArray]; exact asc_at _ _⟩ Tryd.isAgg4) (Wn.none rfl) rfl rfl ?_
  refine WR.step (Ex.assign rfl) (Wn.none rfl) rfl rfl ?_
  refine WR.nil ?_
  refine WQ.then ?_
  refine WC.ret ?_
  (repeat (first | refine WQ.thenRet ?_ | refine WQ.inBlockRet ?_))
  refine WQ.ret1 rfl rfl H.ext ?_
  exact by rw [has_bl]

theorem trimA_spec (v : Value) (l : List UInt8) (b : Nat) : Ct Tryd.prog 60 [v, ptr b 0] (fun M => Bs M v l ∧ M b = some (.cells (asc [32, 9]).toArray 69)) (fun r M => Bs M r (trimR l)) := by
  refine Ct.of Tryd.func60 (enters Tryd.func60 (by kernel_rfl) rfl) rfl rfl rfl ?_
  intro w0 M0 H hp
  obtain ⟨hv, hb⟩ := hp
  have hsh := hv.short
  simp only [maxLen] at hsh
  refine WC.seq ?_
  refine WC.region ?_
  refine WR.step (Ex.assign rfl) (Wn.none rfl) rfl rfl ?_
  refine WR.nil ?_
  refine WQ.then ?_
  refine WC.seq ?_
  refine WC.block ?_
  refine WC.loop2 (fun (m : Nat) (x : Value) => [(0, x), (1, ptr b 0)]) (fun (m : Nat) (x : Value) w => m ≤ l.length ∧ (∀ (j : Nat) (c : UInt8), m ≤ j → l[j]? = some c → bl c) ∧ ∃ M, St w0 M0 M [] w ∧ Bs M x (l.take m) ∧ M b = some (.cells (asc [32, 9]).toArray 69)) (fun (m : Nat) (x : Value) => m) (l.length) (_) ⟨rfl, rfl, trivial⟩ (⟨Nat.le_refl _, fun j c hj h => by have := (List.getElem?_eq_some_iff.1 h).1; omega, M0, H, by rw [List.take_length]; exact hv, hb⟩) ?_
  intro m x w
  rintro ⟨hm, hbl, M, H, hv, hb⟩
  have hlt : (l.take m).length = m := by rw [List.length_take]; omega
  refine WC.seq ?_
  refine WC.seq ?_
  refine WC.region ?_
  refine WR.step (Ex.move rfl) (Wn.none rfl) rfl rfl ?_
  first | refine WR.step (Ex.lenSl Tryd.underlying22 (by assumption) rfl) (Wn.none rfl) rfl rfl ?_ | refine WR.step (Ex.lenRow Tryd.underlying22 H (by repeat (first | exact List.Mem.head _ | apply List.Mem.tail)) rfl) (Wn.none rfl) rfl rfl ?_ | refine WR.step (Ex.lenSlice Tryd.underlying22 rfl) (Wn.none rfl) rfl rfl ?_
  refine WR.split (Ex.gtr rfl rfl) (Wn.none rfl) rfl rfl (fun h1_2 => ?_) (fun h1_2 => ?_)
  ·
    obtain ⟨c, hc⟩ : ∃ c, l[m - 1]? = some c := ⟨_, List.getElem?_eq_getElem (by omega)⟩
    have hcm : (l.take m)[m - 1]? = some c := by rw [List.getElem?_take, if_pos (by omega)]; exact hc
    refine WR.nil ?_
    refine WQ.then ?_
    refine WC.condT rfl ?_
    refine WC.skip ?_
    refine WQ.then ?_
    refine WC.block ?_
    refine WC.seq ?_
    refine WC.seq ?_
    refine WC.region ?_
    refine WR.step (Ex.move rfl) (Wn.none rfl) rfl rfl ?_
    refine WR.step (Ex.move rfl) (Wn.none rfl) rfl rfl ?_
    refine WR.step (Ex.move rfl) (Wn.none rfl) rfl rfl ?_
    first | refine WR.step (Ex.lenSl Tryd.underlying22 (by assumption) rfl) (Wn.none rfl) rfl rfl ?_ | refine WR.step (Ex.lenRow Tryd.underlying22 H (by repeat (first | exact List.Mem.head _ | apply List.Mem.tail)) rfl) (Wn.none rfl) rfl rfl ?_ | refine WR.step (Ex.lenSlice Tryd.underlying22 rfl) (Wn.none rfl) rfl rfl ?_
    refine WR.stepE (v' := encN (m - 1)) (Ex.sub64 rfl rfl (by omega)) (congrArg I (by omega)) (Wn.none rfl) rfl rfl ?_
    refine WR.idxSl Tryd.underlying22 Tryd.sizeOf5 (by assumption) rfl rfl (hcm) (Wn.none rfl) rfl ?_
    intro p13 hc13
    first | refine WR.step (Ex.loadM H rfl (by assumption) Tryd.isAgg5) (Wn.none rfl) rfl rfl ?_ | refine WR.step (Ex.load1 H rfl (by repeat (first | exact List.Mem.head _ | apply List.Mem.tail)) Tryd.isAgg5 (by rfl)) (Wn.none rfl) rfl rfl ?_
    refine WR.callB H (contains_spec _ _) rfl (by assumption) (Wn.none rfl) rfl (fun h2_7 => ?_) (fun h2_7 => ?_)
    ·
      intro M w H hle
      replace hv := hv.mono hle
      replace hb := hle _ _ hb
      replace hc13 := hc13.mono hle
      refine WR.step (Ex.notT rfl) (Wn.none rfl) rfl rfl ?_
      refine WR.nil ?_
      refine WQ.then ?_
      refine WC.condF rfl ?_
      refine WC.skip ?_
      refine WQ.then ?_
      refine WC.region ?_
      refine WR.step (Ex.move rfl) (Wn.none rfl) rfl rfl ?_
      refine WR.step (Ex.move rfl) (Wn.none rfl) rfl rfl ?_
      first | refine WR.step (Ex.lenSl Tryd.underlying22 (by assumption) rfl) (Wn.none rfl) rfl rfl ?_ | refine WR.step (Ex.lenRow Tryd.underlying22 H (by repeat (first | exact List.Mem.head _ | apply List.Mem.tail)) rfl) (Wn.none rfl) rfl rfl ?_ | refine WR.step (Ex.lenSlice Tryd.underlying22 rfl) (Wn.none rfl) rfl rfl ?_
      refine WR.stepE (v' := encN (m - 1)) (Ex.sub64 rfl rfl (by omega)) (congrArg I (by omega)) (Wn.none rfl) rfl rfl ?_
      refine WR.sliceSl (i := 0) (j := m - 1) Tryd.underlying22 Tryd.sizeOf5 (by assumption) rfl (.inr ⟨rfl, rfl⟩) (.inl ⟨_, rfl, rfl⟩) (by omega) (by omega) (Wn.none rfl) rfl ?_
      intro v21 hs21
      refine WR.step (Ex.assign rfl) (Wn.none rfl) rfl rfl ?_
      refine WR.nil ?_
      refine WQ.inBlock ?_
      refine WQ.again2 (m - 1) (v21) ⟨rfl, rfl, trivial⟩ ?_ ?_
      · refine ⟨by omega, fun j d hj h => ?_, M, H, ?_, hb⟩
        · rcases Nat.lt_or_ge j m with h1 | h1
          · obtain rfl : j = m - 1 := by omega
            rw [hc] at h; cases h; assumption
          · exact hbl j d h1 h
        · rw [List.take_take, Nat.min_eq_left (by omega), List.drop_zero] at hs21; exact hs21
      · omega
    ·
      intro M w H hle
      replace hv := hv.mono hle
      replace hb := hle _ _ hb
      replace hc13 := hc13.mono hle
      have hr : trimR l = l.take m := trimR_take hbl (.inr ⟨c, hc, h2_7⟩)
      refine WR.step (Ex.notF rfl) (Wn.none rfl) rfl rfl ?_
      refine WR.nil ?_
      refine WQ.then ?_
      refine WC.condT rfl ?_
      refine WC.exit ?_
      refine WQ.thenExit ?_
      refine WQ.exitOut rfl ?_
      refine WQ.thenExit ?_
      refine WQ.exitHere ?_
      refine WQ.then ?_
      refine WC.seq ?_
      refine WC.region ?_
      refine WR.step (Ex.move rfl) (Wn.none rfl) rfl rfl ?_
      refine WR.step (Ex.assign rfl) (Wn.none rfl) rfl rfl ?_
      refine WR.nil ?_
      refine WQ.then ?_
      refine WC.ret ?_
      (repeat (first | refine WQ.thenRet ?_ | refine WQ.inBlockRet ?_))
      refine WQ.ret1 rfl rfl H.ext ?_
      refine ?_
      rw [hr]
      exact hv
  ·
    have hr : trimR l = l.take m := trimR_take hbl (.inl (by omega))
    refine WR.nil ?_
    refine WQ.then ?_
    refine WC.condF rfl ?_
    refine WC.exit ?_
    refine WQ.thenExit ?_
    refine WQ.thenExit ?_
    refine WQ.exitHere ?_
    refine WQ.then ?_
    refine WC.seq ?_
    refine WC.region ?_
    refine WR.step (Ex.move rfl) (Wn.none rfl) rfl rfl ?_
    refine WR.step (Ex.assign rfl) (Wn.none rfl) rfl rfl ?_
    refine WR.nil ?_
    refine WQ.then ?_
    refine WC.ret ?_
    (repeat (first | refine WQ.thenRet ?_ | refine WQ.inBlockRet ?_))
    refine WQ.ret1 rfl rfl H.ext ?_
    refine ?_
    rw [hr]
    exact hv

theorem trimRight_spec (v : Value) (l : List UInt8) : Ct Tryd.prog 40 [v, S [32, 9]] (fun M => Bs M v l) (fun r M => Bs M r (trimR l)) := by
  refine Ct.of Tryd.func40 (enters Tryd.func40 (by kernel_rfl) rfl) rfl rfl rfl ?_
  intro w0 M0 H hp
  refine WC.seq ?_
  refine WC.region ?_
  refine WR.step (Ex.assign rfl) (Wn.none rfl) rfl rfl ?_
  refine WR.nil ?_
  refine WQ.then ?_
  refine WC.seq ?_
  refine WC.seq ?_
  refine WC.region ?_
  refine WR.step (Ex.move rfl) (Wn.none rfl) rfl rfl ?_
  first | refine WR.step (Ex.lenSl Tryd.underlying22 (by assumption) rfl) (Wn.none rfl) rfl rfl ?_ | refine WR.step (Ex.lenRow Tryd.underlying22 H (by repeat (first | exact List.Mem.head _ | apply List.Mem.tail)) rfl) (Wn.none rfl) rfl rfl ?_ | refine WR.step (Ex.lenSlice Tryd.underlying22 rfl) (Wn.none rfl) rfl rfl ?_
  refine WR.split (Ex.eql rfl rfl) (Wn.none rfl) rfl rfl (fun h1_2 => ?_) (fun h1_2 => ?_)
  ·
    refine WR.step (Ex.move rfl) (Wn.none rfl) rfl rfl ?_
    refine WR.skipG (b := true) rfl rfl rfl rfl rfl ?_
    refine WR.skipG (b := true) rfl rfl rfl rfl rfl ?_
    refine WR.step (Ex.pickT rfl rfl) (Wn.none rfl) rfl rfl ?_
    refine WR.nil ?_
    refine WQ.then ?_
    refine WC.condT rfl ?_
    refine WC.seq ?_
    refine WC.region ?_
    refine WR.step (Ex.move rfl) (Wn.none rfl) rfl rfl ?_
    refine WR.step (Ex.assign rfl) (Wn.none rfl) rfl rfl ?_
    refine WR.nil ?_
    refine WQ.then ?_
    refine WC.ret ?_
    (repeat (first | refine WQ.thenRet ?_ | refine WQ.inBlockRet ?_))
    refine WQ.ret1 rfl rfl H.ext ?_
    refine ?_
    rw [List.eq_nil_of_length_eq_zero (show l.length = 0 by omega)] at hp ⊢
    exact hp
  ·
    refine WR.step (Ex.move rfl) (Wn.none rfl) rfl rfl ?_
    refine WR.step (Ex.move rfl) (Wn.some rfl rfl rfl) rfl rfl ?_
    refine WR.stepF (Ex.strEql rfl rfl) (by decide) (Wn.some rfl rfl rfl) rfl rfl ?_
    refine WR.step (Ex.pickF rfl rfl) (Wn.none rfl) rfl rfl ?_
    refine WR.nil ?_
    refine WQ.then ?_
    refine WC.condF rfl ?_
    refine WC.skip ?_
    refine WQ.then ?_
    refine WC.seq ?_
    refine WC.seq ?_
    refine WC.region ?_
    refine WR.step (Ex.move rfl) (Wn.none rfl) rfl rfl ?_
    refine WR.step (Ex.lenStr Tryd.underlying9 rfl) (Wn.none rfl) rfl rfl ?_
    refine WR.stepF (Ex.eql rfl rfl) (by decide) (Wn.none rfl) rfl rfl ?_
    refine WR.step (Ex.move rfl) (Wn.none rfl) rfl rfl ?_
    refine WR.skipG (b := false) rfl rfl rfl rfl rfl ?_
    refine WR.skipG (b := false) rfl rfl rfl rfl rfl ?_
    refine WR.skipG (b := false) rfl rfl rfl rfl rfl ?_
    refine WR.step (Ex.pickF rfl rfl) (Wn.none rfl) rfl rfl ?_
    refine WR.nil ?_
    refine WQ.then ?_
    refine WC.condF rfl ?_
    refine WC.skip ?_
    refine WQ.then ?_
    refine WC.seq ?_
    refine WC.seq ?_
    refine WC.region ?_
    refine WR.step (Ex.move rfl) (Wn.none rfl) rfl rfl ?_
    refine WR.call H (mkAsc_spec _ (by decide) (by decide)) rfl (trivial) (Wn.none rfl) rfl ?_
    intro v29 M w H hle hr29
    replace hp := hp.mono hle
    obtain rfl := hr29
    refine WR.step (Ex.move rfl) (Wn.none rfl) rfl rfl ?_
    refine WR.step (Ex.extract rfl rfl) (Wn.none rfl) rfl rfl ?_
    refine WR.step (Ex.extract rfl rfl) (Wn.none rfl) rfl rfl ?_
    refine WR.alloc (asc []) H Tryd.zeroValue69 (by kernel_rfl) (Wn.none rfl) rfl ?_
    intro b5 w H
    refine WR.store (asc [32, 9]) H rfl rfl rfl (by repeat (first | exact Upd.head | apply Upd.tail)) Tryd.sizeOf69 (asc_len _) (asc_len _) (asc_one _) (Wn.none rfl) ?_
    intro w H
    obtain ⟨M, hle, hM, H⟩ := H.freezeBlk (by repeat (first | exact Rem.head | apply Rem.tail))
    replace hp := hp.mono hle
    refine WR.step (Ex.assign rfl) (Wn.none rfl) rfl rfl ?_
    refine WR.nil ?_
    refine WQ.then ?_
    refine WC.seq ?_
    refine WC.region ?_
    refine WR.step (Ex.move rfl) (Wn.none rfl) rfl rfl ?_
    refine WR.nil ?_
    refine WQ.then ?_
    refine WC.condT rfl ?_
    refine WC.seq ?_
    refine WC.region ?_
    refine WR.step (Ex.move rfl) (Wn.none rfl) rfl rfl ?_
    refine WR.call H (trimA_spec _ l b5) rfl (⟨hp, hM⟩) (Wn.none rfl) rfl ?_
    intro v34 M w H hle hr34
    replace hp := hp.mono hle
    have hf34 := hr34
    refine WR.step (Ex.assign rfl) (Wn.none rfl) rfl rfl ?_
    refine WR.nil ?_
    refine WQ.then ?_
    refine WC.ret ?_
    (repeat (first | refine WQ.thenRet ?_ | refine WQ.inBlockRet ?_))
    refine WQ.ret1 rfl rfl H.ext ?_
    exact hf34

end Go.Proofs.YtolmifddbjdepaaDoor
