/-
  sets of characters: walks over the program's own operations, written by a program of this repository (wip/tools/gen.py) out of a plan.
-/
import Derived.Test.YtnjglbmaonbcbaaDoorVst
import Derived.KernelRfl
set_option linter.unusedVariables false
set_option linter.unusedSimpArgs false
namespace Go.Proofs.YtnjglbmaonbcbaaDoor
open Go Go.RowKit Go.Ph

open Go.Ph.Gr Go.Ph.Utf Go.Ph.Chs
theorem grown_alloc {w w' : World} {o : Obj} {row : Option Nat} (h : (w.alloc o).grownBy w' row) (hr : row = none) : w.grownBy w' none := by
  subst hr
  have h1 : w.grownBy (w.alloc o) none := grownBy_alloc' w o
  exact ⟨h.os.trans h1.os, h.tape.trans h1.tape, h.output.trans h1.output, Nat.le_trans h1.size h.size, fun k hk hn => (h.block k (Nat.lt_of_lt_of_le hk h1.size) (by simp)).trans (h1.block k hk (by simp))⟩
theorem utf8_Z (c : Int) : utf8 c = (Lib.encodeRuneZ c).map ub := by
  unfold utf8
  by_cases h1 : 0 ≤ c ∧ c ≤ 127
  · rw [fixN_id (by omega) (by omega) (by omega), Lib.encodeRuneZ_one h1.1 h1.2, utf8M, if_pos (by omega)]; rfl
  · by_cases h2 : 128 ≤ c ∧ c ≤ 2047
    · rw [fixN_id (by omega) (by omega) (by omega), Lib.encodeRuneZ_two h2.1 h2.2, utf8M, if_neg (by omega), if_pos (by omega)]; rfl
    · by_cases h3 : (2048 ≤ c ∧ c < 55296) ∨ (57343 < c ∧ c ≤ 65535)
      · rw [fixN_id (by omega) (by omega) (by omega), Lib.encodeRuneZ_three h3, utf8M, if_neg (by omega), if_neg (by omega), if_pos (by omega)]; rfl
      · by_cases h4 : 65536 ≤ c ∧ c ≤ 1114111
        · rw [fixN_id (by omega) (by omega) (by omega), Lib.encodeRuneZ_four h4.1 h4.2, utf8M, if_neg (by omega), if_neg (by omega), if_neg (by omega)]; rfl
        · rw [fixN_bad (by omega), Lib.encodeRuneZ_bad (by omega)]; decide
theorem runeCells_utf8 (c : Int) : Lib.runeCells c = (utf8 c).map encB := by
  unfold Lib.runeCells
  rw [utf8_Z, List.map_map]
  apply List.map_congr_left
  intro x hx
  have h := Lib.encodeRuneZ_byte c x hx
  show Value.int .u8 x = Value.int .u8 ((ub x).toNat : Int)
  rw [ub_nat h.1 h.2]
theorem appendRune_spec (c : Int) (h0 : -2147483648 ≤ c) (h1 : c ≤ 2147483647) : Ct Tryd.prog 52 [.slice none 0 0, encR c] (fun _ => True) (fun r M => Bs M r (utf8 c)) := by
  refine ⟨enters Tryd.func52 (by kernel_rfl) rfl, fun w M ha hp => ?_⟩
  have hlen := utf8_len c
  refine (Tryd.utf8_AppendRune_plain w.heap.size (.slice none 0 0) 0 [] c h0 h1 w (World.ownsRow_nil _ _ _ _) (by decide) (Nat.le_refl _)).mono fun e w' => ?_
  rintro ⟨v', rfl, hown, o, hg⟩
  have hgr := grown_alloc hg rfl
  rw [runeCells_utf8, List.nil_append, List.length_map, Nat.zero_add] at hown
  have hh : (RowI 5 encB v' (utf8 c)).holds w' := by
    refine ⟨hown.1, ?_⟩
    rcases hown.2 with h | ⟨g, cap, cur, hv, hb, hgg⟩
    · exact .inl h
    · exact .inr ⟨g, cap, cur, hv, Nat.zero_le _, hgg⟩
  have H1 : St w M M [RowI 5 encB v' (utf8 c)] w' := (StX.start ha).new hgr hh (fun b hb => (World.ownsRow.lt hown b hb).1)
  obtain ⟨M', hle, hS, H2⟩ := H1.freezeRow (L' := []) .head
  exact ⟨_, M', rfl, H2.ext, hS⟩

theorem dec1_spec (v : Value) (l : List UInt8) (b : Nat) (bound : Int) (hs : l.length ≤ 12000) : Ct Tryd.prog 62 [v, ptr b 0] (fun M => Bs M v l ∧ CellM M ⟨b, 0, none⟩ (encR bound)) (fun r M => Sl M encR r (decS bound l)) := by
  refine Ct.of Tryd.func62 (enters Tryd.func62 (by kernel_rfl) rfl) rfl rfl rfl ?_
  intro w0 M0 H hp
  obtain ⟨hb, hcell⟩ := hp
  refine WC.seq ?_
  refine WC.region ?_
  refine WR.step (Ex.assign rfl) (Wn.none rfl) rfl rfl ?_
  refine WR.nil ?_
  refine WQ.then ?_
  refine WC.seq ?_
  refine WC.region ?_
  refine WR.step (Ex.assign rfl) (Wn.none rfl) rfl rfl ?_
  refine WR.nil ?_
  refine WQ.then ?_
  refine WC.seq ?_
  refine WC.seq ?_
  refine WC.region ?_
  refine WR.step (Ex.move rfl) (Wn.none rfl) rfl rfl ?_
  first | refine WR.step (Ex.lenSl Tryd.underlying34 (by assumption) rfl) (Wn.none rfl) rfl rfl ?_ | refine WR.step (Ex.lenRow Tryd.underlying34 H (by repeat (first | exact List.Mem.head _ | apply List.Mem.tail)) rfl) (Wn.none rfl) rfl rfl ?_ | refine WR.step (Ex.lenSlice Tryd.underlying34 rfl) (Wn.none rfl) rfl rfl ?_
  refine WR.step (Ex.move rfl) (Wn.none rfl) rfl rfl ?_
  refine WR.nil ?_
  refine WQ.then ?_
  refine WC.block ?_
  replace H := H.newRow 21 encR
  refine WC.loop3 (fun (k : Nat) (ov : Value) (o : List Int) => [(1, ptr b 0), (4, ov), (8, v), (9, I (l.length : Int)), (10, encN k)]) (fun (k : Nat) (ov : Value) (o : List Int) w => k ≤ l.length ∧ o = decS bound (l.take k) ∧ ∃ M, St w0 M0 M [RowI 21 encR ov o] w ∧ Bs M v l ∧ CellM M ⟨b, 0, none⟩ (encR bound)) (fun (k : Nat) (ov : Value) (o : List Int) => l.length - k) (0) (_) (_) ⟨rfl, rfl, rfl, rfl, rfl, trivial⟩ (⟨by omega, rfl, M0, H, hb, hcell⟩) ?_
  intro k ov o w
  rintro ⟨hk, ho, M, H, hb, hcell⟩
  have hol : o.length = k := by rw [ho]; simp [decS]; omega
  refine WC.seq ?_
  refine WC.region ?_
  refine WR.split (Ex.lss rfl rfl) (Wn.none rfl) rfl rfl (fun h3_0 => ?_) (fun h3_0 => ?_)
  ·
    obtain ⟨c, hc⟩ : ∃ c, l[k]? = some c := ⟨_, List.getElem?_eq_getElem (by omega)⟩
    have hclt := c.toNat_lt
    have hdn : decS bound (l.take (k + 1)) = decS bound (l.take k) ++ [if bound ≤ (c.toNat : Int) then 65533 else (c.toNat : Int)] := by
      obtain ⟨e1, e2⟩ := List.getElem?_eq_some_iff.1 hc
      rw [List.take_succ_eq_append_getElem e1, e2]; simp [decS]
    refine WR.nil ?_
    refine WQ.then ?_
    refine WC.seq ?_
    refine WC.condT rfl ?_
    refine WC.skip ?_
    refine WQ.then ?_
    refine WC.seq ?_
    refine WC.block ?_
    refine WC.seq ?_
    refine WC.region ?_
    refine WR.idxSl Tryd.underlying34 Tryd.sizeOf5 (by assumption) rfl rfl (hc) (Wn.none rfl) rfl ?_
    intro p12 hc12
    first | refine WR.step (Ex.loadM H rfl (by assumption) Tryd.isAgg5) (Wn.none rfl) rfl rfl ?_ | refine WR.step (Ex.load1 H rfl (by repeat (first | exact List.Mem.head _ | apply List.Mem.tail)) Tryd.isAgg5 (by rfl)) (Wn.none rfl) rfl rfl ?_
    refine WR.step (Ex.assign rfl) (Wn.none rfl) rfl rfl ?_
    refine WR.nil ?_
    refine WQ.then ?_
    refine WC.seq ?_
    refine WC.region ?_
    refine WR.step (Ex.move rfl) (Wn.none rfl) rfl rfl ?_
    refine WR.stepE (v' := encR (c.toNat : Int)) (Ex.conv Tryd.underlying5 Tryd.underlying21 rfl) (congrArg encR (i32_in (by omega))) (Wn.none rfl) rfl rfl ?_
    refine WR.step (Ex.assign rfl) (Wn.none rfl) rfl rfl ?_
    refine WR.nil ?_
    refine WQ.then ?_
    refine WC.seq ?_
    refine WC.seq ?_
    refine WC.region ?_
    refine WR.step (Ex.move rfl) (Wn.none rfl) rfl rfl ?_
    first | refine WR.step (Ex.loadM H rfl (by assumption) Tryd.isAgg21) (Wn.none rfl) rfl rfl ?_ | refine WR.step (Ex.load1 H rfl (by repeat (first | exact List.Mem.head _ | apply List.Mem.tail)) Tryd.isAgg21 (by rfl)) (Wn.none rfl) rfl rfl ?_
    refine WR.split (Ex.geq rfl rfl) (Wn.none rfl) rfl rfl (fun h6_2 => ?_) (fun h6_2 => ?_)
    ·
      refine WR.nil ?_
      refine WQ.then ?_
      refine WC.condT rfl ?_
      refine WC.region ?_
      refine WR.step (Ex.assign rfl) (Wn.none rfl) rfl rfl ?_
      refine WR.nil ?_
      refine WQ.then ?_
      refine WC.region ?_
      refine WR.step (Ex.move rfl) (Wn.none rfl) rfl rfl ?_
      refine WR.step (Ex.move rfl) (Wn.none rfl) rfl rfl ?_
      refine WR.lit (enc := encR) ty64 [_] H rfl (by rfl) (fun _ => rfl) rfl rfl (Wn.none rfl) rfl ?_
      intro v21 M w H hle hl21
      replace hb := hb.mono hle
      replace hcell := hcell.mono hle
      replace hc12 := hc12.mono hle
      refine WR.appendSl ty64 (fun _ => rfl) H rfl (fun _ => by repeat (first | exact Upd.head | apply Upd.tail)) rfl (by assumption) (by first | omega | (simp only [List.length_append, List.length_cons, List.length_nil, List.length_take, List.length_drop]; omega)) (by first | (simp only [maxLen]; omega) | (simp only [maxLen, List.length_append, List.length_cons, List.length_nil, List.length_take, List.length_drop]; omega)) (Wn.none rfl) rfl ?_
      intro v22 w H
      refine WR.step (Ex.assign rfl) (Wn.none rfl) rfl rfl ?_
      refine WR.nil ?_
      refine WQ.inBlock ?_
      refine WQ.then ?_
      refine WC.region ?_
      refine WR.step (Ex.add64 rfl rfl (by omega)) (Wn.none rfl) rfl rfl ?_
      refine WR.step (Ex.move rfl) (Wn.none rfl) rfl rfl ?_
      refine WR.nil ?_
      refine WQ.again3 (k + 1) (v22) (o ++ [65533]) ⟨rfl, rfl, rfl, rfl, rfl, trivial⟩ ?_ ?_
      · refine ⟨by omega, ?_, M, H, hb, hcell⟩
        rw [hdn, ← ho, if_pos h6_2]
      · omega
    ·
      refine WR.nil ?_
      refine WQ.then ?_
      refine WC.condF rfl ?_
      refine WC.skip ?_
      refine WQ.then ?_
      refine WC.region ?_
      refine WR.step (Ex.move rfl) (Wn.none rfl) rfl rfl ?_
      refine WR.step (Ex.move rfl) (Wn.none rfl) rfl rfl ?_
      refine WR.lit (enc := encR) ty64 [_] H rfl (by rfl) (fun _ => rfl) rfl rfl (Wn.none rfl) rfl ?_
      intro v21 M w H hle hl21
      replace hb := hb.mono hle
      replace hcell := hcell.mono hle
      replace hc12 := hc12.mono hle
      refine WR.appendSl ty64 (fun _ => rfl) H rfl (fun _ => by repeat (first | exact Upd.head | apply Upd.tail)) rfl (by assumption) (by first | omega | (simp only [List.length_append, List.length_cons, List.length_nil, List.length_take, List.length_drop]; omega)) (by first | (simp only [maxLen]; omega) | (simp only [maxLen, List.length_append, List.length_cons, List.length_nil, List.length_take, List.length_drop]; omega)) (Wn.none rfl) rfl ?_
      intro v22 w H
      refine WR.step (Ex.assign rfl) (Wn.none rfl) rfl rfl ?_
      refine WR.nil ?_
      refine WQ.inBlock ?_
      refine WQ.then ?_
      refine WC.region ?_
      refine WR.step (Ex.add64 rfl rfl (by omega)) (Wn.none rfl) rfl rfl ?_
      refine WR.step (Ex.move rfl) (Wn.none rfl) rfl rfl ?_
      refine WR.nil ?_
      refine WQ.again3 (k + 1) (v22) (o ++ [(c.toNat : Int)]) ⟨rfl, rfl, rfl, rfl, rfl, trivial⟩ ?_ ?_
      · refine ⟨by omega, ?_, M, H, hb, hcell⟩
        rw [hdn, ← ho, if_neg h6_2]
      · omega
  ·
    refine WR.nil ?_
    refine WQ.then ?_
    refine WC.seq ?_
    refine WC.condF rfl ?_
    refine WC.exit ?_
    refine WQ.thenExit ?_
    refine WQ.thenExit ?_
    refine WQ.exitHere ?_
    refine WQ.then ?_
    refine WC.seq ?_
    refine WC.region ?_
    refine WR.step (Ex.move rfl) (Wn.none rfl) rfl rfl ?_
    refine WR.step (Ex.assign rfl) (Wn.none rfl) rfl rfl ?_
    refine WR.nil ?_
    refine WQ.then ?_
    refine WC.ret ?_
    (repeat (first | refine WQ.thenRet ?_ | refine WQ.inBlockRet ?_))
    obtain ⟨M, hle, hf, H⟩ := H.freezeRow (v := ov) (enc := encR) (t := 21) (by repeat (first | exact Rem.head | apply Rem.tail))
    refine WQ.ret1 rfl rfl H.ext ?_
    refine ?_
    rw [ho, List.take_of_length_le (by omega)] at hf
    exact hf

theorem enc1_spec (c : Int) (b : Nat) (bound : Int) : Ct Tryd.prog 63 [encR c, ptr b 0] (fun M => CellM M ⟨b, 0, none⟩ (encR bound)) (fun r M => ∃ v, r = .tuple #[v, .bool (decide (c < bound))] ∧ Bs M v ([ub c])) := by
  refine Ct.of Tryd.func63 (enters Tryd.func63 (by kernel_rfl) rfl) rfl rfl rfl ?_
  intro w0 M0 H hp
  refine WC.seq ?_
  refine WC.region ?_
  refine WR.step (Ex.assign rfl) (Wn.none rfl) rfl rfl ?_
  refine WR.step (Ex.assign rfl) (Wn.none rfl) rfl rfl ?_
  refine WR.nil ?_
  refine WQ.then ?_
  refine WC.seq ?_
  refine WC.draw (m := 8) rfl rfl H ?_
  intro w H
  refine WA.take (i := 0) rfl (by kernel_rfl) (by kernel_rfl) (by kernel_rfl) (fun _ => Ex.move rfl) (Wn.none rfl) rfl rfl (fun _ _ => rfl) ?_
  refine WA.take (i := 1) rfl (by kernel_rfl) (by kernel_rfl) (by kernel_rfl) (fun _ => Ex.convU8 Tryd.underlying21 Tryd.underlying5 rfl) (Wn.none rfl) rfl rfl (fun _ _ => rfl) ?_
  refine WA.take (i := 3) rfl (by kernel_rfl) (by kernel_rfl) (by kernel_rfl) (fun _ => Ex.move rfl) (Wn.none rfl) rfl rfl (fun _ _ => rfl) ?_
  refine WA.two (i := 2) (j := 4) (by kernel_rfl) rfl rfl ?_ ?_
  ·
    refine WR.lit (enc := encB) ty34 [_] H rfl (by rfl) (fun _ => rfl) rfl rfl (Wn.none rfl) rfl ?_
    intro v7 M w H hle hl7
    replace hp := hp.mono hle
    refine WR.nil (WQ.any ?_)
    refine WA.take (i := 6) rfl (by kernel_rfl) (by kernel_rfl) (by kernel_rfl) (fun _ => Ex.assign rfl) (Wn.none rfl) rfl rfl (fun _ _ => rfl) ?_
    refine WA.one (i := 4) (by kernel_rfl) rfl ?_
    first | refine WR.step (Ex.loadM H rfl (by assumption) Tryd.isAgg21) (Wn.none rfl) rfl rfl ?_ | refine WR.step (Ex.load1 H rfl (by repeat (first | exact List.Mem.head _ | apply List.Mem.tail)) Tryd.isAgg21 (by rfl)) (Wn.none rfl) rfl rfl ?_
    refine WR.nil (WQ.any ?_)
    refine WA.one (i := 5) (by kernel_rfl) rfl ?_
    refine WR.step (Ex.lss rfl rfl) (Wn.none rfl) rfl rfl ?_
    refine WR.nil (WQ.any ?_)
    refine WA.one (i := 7) (by kernel_rfl) rfl ?_
    refine WR.step (Ex.assign rfl) (Wn.none rfl) rfl rfl ?_
    refine WR.nil (WQ.any ?_)
    refine WA.done (by kernel_rfl) ?_
    refine WQ.then ?_
    refine WC.ret ?_
    (repeat (first | refine WQ.thenRet ?_ | refine WQ.inBlockRet ?_))
    refine WQ.ret2 rfl rfl rfl H.ext ?_
    exact ⟨_, rfl, hl7⟩
  ·
    first | refine WR.step (Ex.loadM H rfl (by assumption) Tryd.isAgg21) (Wn.none rfl) rfl rfl ?_ | refine WR.step (Ex.load1 H rfl (by repeat (first | exact List.Mem.head _ | apply List.Mem.tail)) Tryd.isAgg21 (by rfl)) (Wn.none rfl) rfl rfl ?_
    refine WR.nil (WQ.any ?_)
    refine WA.take (i := 5) rfl (by kernel_rfl) (by kernel_rfl) (by kernel_rfl) (fun _ => Ex.lss rfl rfl) (Wn.none rfl) rfl rfl (fun _ _ => rfl) ?_
    refine WA.one (i := 2) (by kernel_rfl) rfl ?_
    refine WR.lit (enc := encB) ty34 [_] H rfl (by rfl) (fun _ => rfl) rfl rfl (Wn.none rfl) rfl ?_
    intro v7 M w H hle hl7
    replace hp := hp.mono hle
    refine WR.nil (WQ.any ?_)
    refine WA.one (i := 6) (by kernel_rfl) rfl ?_
    refine WR.step (Ex.assign rfl) (Wn.none rfl) rfl rfl ?_
    refine WR.nil (WQ.any ?_)
    refine WA.one (i := 7) (by kernel_rfl) rfl ?_
    refine WR.step (Ex.assign rfl) (Wn.none rfl) rfl rfl ?_
    refine WR.nil (WQ.any ?_)
    refine WA.done (by kernel_rfl) ?_
    refine WQ.then ?_
    refine WC.ret ?_
    (repeat (first | refine WQ.thenRet ?_ | refine WQ.inBlockRet ?_))
    refine WQ.ret2 rfl rfl rfl H.ext ?_
    exact ⟨_, rfl, hl7⟩

theorem decU_spec (v : Value) (l : List UInt8) (hs : l.length ≤ 12000) : Ct Tryd.prog 50 [v] (fun M => Bs M v l) (fun r M => Sl M encR r (decU l)) := by
  refine Ct.of Tryd.func50 (enters Tryd.func50 (by kernel_rfl) rfl) rfl rfl rfl ?_
  intro w0 M0 H hp
  refine WC.seq ?_
  refine WC.region ?_
  refine WR.step (Ex.assign rfl) (Wn.none rfl) rfl rfl ?_
  refine WR.nil ?_
  refine WQ.then ?_
  refine WC.seq ?_
  refine WC.region ?_
  refine WR.step (Ex.move rfl) (Wn.none rfl) rfl rfl ?_
  refine WR.step (Ex.toStr Tryd.underlying34 Tryd.underlying5 Tryd.underlying9 H (by assumption) rfl) (Wn.none rfl) rfl rfl ?_
  refine WR.runesOf H Tryd.underlying9 Tryd.underlying64 Tryd.underlying21 rfl (by omega) (Wn.none rfl) rfl ?_
  intro v5 M w H hle hl5
  replace hp := hp.mono hle
  refine WR.step (Ex.assign rfl) (Wn.none rfl) rfl rfl ?_
  refine WR.nil ?_
  refine WQ.then ?_
  refine WC.ret ?_
  (repeat (first | refine WQ.thenRet ?_ | refine WQ.inBlockRet ?_))
  refine WQ.ret1 rfl rfl H.ext ?_
  exact hl5

theorem encU_spec (c : Int) (h0 : -2147483648 ≤ c) (h1 : c ≤ 2147483647) : Ct Tryd.prog 51 [encR c] (fun _ => True) (fun r M => ∃ v, r = .tuple #[v, .bool true] ∧ Bs M v (utf8 c)) := by
  refine Ct.of Tryd.func51 (enters Tryd.func51 (by kernel_rfl) rfl) rfl rfl rfl ?_
  intro w0 M0 H hp
  refine WC.seq ?_
  refine WC.region ?_
  refine WR.step (Ex.assign rfl) (Wn.none rfl) rfl rfl ?_
  refine WR.step (Ex.assign rfl) (Wn.none rfl) rfl rfl ?_
  refine WR.nil ?_
  refine WQ.then ?_
  refine WC.seq ?_
  refine WC.region ?_
  refine WR.step (Ex.move rfl) (Wn.none rfl) rfl rfl ?_
  refine WR.call H (appendRune_spec _ (by omega) (by omega)) rfl (trivial) (Wn.none rfl) rfl ?_
  intro v5 M w H hle hr5
  have hf5 := hr5
  refine WR.step (Ex.assign rfl) (Wn.none rfl) rfl rfl ?_
  refine WR.step (Ex.assign rfl) (Wn.none rfl) rfl rfl ?_
  refine WR.nil ?_
  refine WQ.then ?_
  refine WC.ret ?_
  (repeat (first | refine WQ.thenRet ?_ | refine WQ.inBlockRet ?_))
  refine WQ.ret2 rfl rfl rfl H.ext ?_
  exact ⟨_, rfl, hf5⟩

theorem unit_or (x y : UInt8) : ((x.toNat * 2 ^ 8 ||| y.toNat : Nat) : Int) = unit x y := by
  have hy := y.toNat_lt
  have h := Nat.shiftLeft_add_eq_or_of_lt (a := x.toNat) (b := y.toNat) (i := 8) hy
  rw [Nat.shiftLeft_eq] at h
  rw [← h]; unfold unit; omega

theorem unit_spec (v : Value) (l : List UInt8) (b i : Nat) (x y : UInt8) (hs : l.length ≤ 12000) (hx : l[i]? = some x) (hy : l[i + 1]? = some y) : Ct Tryd.prog 65 [encN i, ptr b 0] (fun M => Bs M v l ∧ CellM M ⟨b, 0, none⟩ v) (fun r _ => r = encR (unit x y)) := by
  refine Ct.of Tryd.func65 (enters Tryd.func65 (by kernel_rfl) rfl) rfl rfl rfl ?_
  intro w0 M0 H hp
  obtain ⟨hb, hcell⟩ := hp
  have hxl := x.toNat_lt
  have hyl := y.toNat_lt
  have hil := (List.getElem?_eq_some_iff.1 hy).1
  have hul := unit_lt x y
  refine WC.seq ?_
  refine WC.region ?_
  refine WR.step (Ex.assign rfl) (Wn.none rfl) rfl rfl ?_
  refine WR.nil ?_
  refine WQ.then ?_
  refine WC.seq ?_
  refine WC.draw (m := 14) rfl rfl H ?_
  intro w H
  refine WA.take (i := 1) rfl (by kernel_rfl) (by kernel_rfl) (by kernel_rfl) (fun _ => Ex.move rfl) (Wn.none rfl) rfl rfl (fun _ _ => rfl) ?_
  refine WA.take (i := 7) rfl (by kernel_rfl) (by kernel_rfl) (by kernel_rfl) (fun _ => Ex.move rfl) (Wn.none rfl) rfl rfl (fun _ _ => rfl) ?_
  refine WA.takeE (v' := encN (i + 1)) (i := 8) rfl (by kernel_rfl) (by kernel_rfl) (by kernel_rfl) (fun _ => Ex.add64 rfl rfl (by omega)) rfl (Wn.none rfl) rfl rfl (fun _ _ => rfl) ?_
  refine WA.two (i := 0) (j := 6) (by kernel_rfl) rfl rfl ?_ ?_
  ·
    first | refine WR.step (Ex.loadM H rfl (by assumption) Tryd.isAgg34) (Wn.none rfl) rfl rfl ?_ | refine WR.step (Ex.load1 H rfl (by repeat (first | exact List.Mem.head _ | apply List.Mem.tail)) Tryd.isAgg34 (by rfl)) (Wn.none rfl) rfl rfl ?_
    refine WR.nil (WQ.any ?_)
    refine WA.takeIdx (i := 2) rfl (by kernel_rfl) (by kernel_rfl) (by kernel_rfl) Tryd.underlying34 Tryd.sizeOf5 (by assumption) rfl rfl (hx) (Wn.none rfl) rfl ?_
    intro p6 hc6
    refine WA.two (i := 3) (j := 6) (by kernel_rfl) rfl rfl ?_ ?_
    ·
      first | refine WR.step (Ex.loadM H rfl (by assumption) Tryd.isAgg5) (Wn.none rfl) rfl rfl ?_ | refine WR.step (Ex.load1 H rfl (by repeat (first | exact List.Mem.head _ | apply List.Mem.tail)) Tryd.isAgg5 (by rfl)) (Wn.none rfl) rfl rfl ?_
      refine WR.nil (WQ.any ?_)
      refine WA.takeE (v' := encR (x.toNat : Int)) (i := 4) rfl (by kernel_rfl) (by kernel_rfl) (by kernel_rfl) (fun _ => Ex.conv Tryd.underlying5 Tryd.underlying21 rfl) (congrArg encR (i32_in (by omega))) (Wn.none rfl) rfl rfl (fun _ _ => rfl) ?_
      refine WA.takeE (v' := encR ((x.toNat * 2 ^ 8 : Nat) : Int)) (i := 5) rfl (by kernel_rfl) (by kernel_rfl) (by kernel_rfl) (fun _ => Ex.shlK (m := x.toNat) (s := 8) rfl rfl (by decide)) (congrArg encR (i32_in (by omega))) (Wn.none rfl) rfl rfl (fun _ _ => rfl) ?_
      refine WA.one (i := 6) (by kernel_rfl) rfl ?_
      first | refine WR.step (Ex.loadM H rfl (by assumption) Tryd.isAgg34) (Wn.none rfl) rfl rfl ?_ | refine WR.step (Ex.load1 H rfl (by repeat (first | exact List.Mem.head _ | apply List.Mem.tail)) Tryd.isAgg34 (by rfl)) (Wn.none rfl) rfl rfl ?_
      refine WR.nil (WQ.any ?_)
      refine WA.one (i := 9) (by kernel_rfl) rfl ?_
      refine WR.idxSl Tryd.underlying34 Tryd.sizeOf5 (by assumption) rfl rfl (hy) (Wn.none rfl) rfl ?_
      intro p13 hc13
      refine WR.nil (WQ.any ?_)
      refine WA.one (i := 10) (by kernel_rfl) rfl ?_
      first | refine WR.step (Ex.loadM H rfl (by assumption) Tryd.isAgg5) (Wn.none rfl) rfl rfl ?_ | refine WR.step (Ex.load1 H rfl (by repeat (first | exact List.Mem.head _ | apply List.Mem.tail)) Tryd.isAgg5 (by rfl)) (Wn.none rfl) rfl rfl ?_
      refine WR.nil (WQ.any ?_)
      refine WA.one (i := 11) (by kernel_rfl) rfl ?_
      refine WR.stepE (v' := encR (y.toNat : Int)) (Ex.conv Tryd.underlying5 Tryd.underlying21 rfl) (congrArg encR (i32_in (by omega))) (Wn.none rfl) rfl rfl ?_
      refine WR.nil (WQ.any ?_)
      refine WA.one (i := 12) (by kernel_rfl) rfl ?_
      refine WR.stepE (v' := encR (unit x y)) (Ex.orK (m := (x.toNat * 2 ^ 8)) (s := y.toNat) rfl rfl (by first | decide | (show _ < 256; omega) | (show _ < 4294967296; omega) | (show _ < 18446744073709551616; omega)) (by first | decide | (show _ < 256; omega) | (show _ < 4294967296; omega) | (show _ < 18446744073709551616; omega))) (congrArg encR (by rw [unit_or]; exact i32_in (by omega))) (Wn.none rfl) rfl rfl ?_
      refine WR.nil (WQ.any ?_)
      refine WA.one (i := 13) (by kernel_rfl) rfl ?_
      refine WR.step (Ex.assign rfl) (Wn.none rfl) rfl rfl ?_
      refine WR.nil (WQ.any ?_)
      refine WA.done (by kernel_rfl) ?_
      refine WQ.then ?_
      refine WC.ret ?_
      (repeat (first | refine WQ.thenRet ?_ | refine WQ.inBlockRet ?_))
      refine WQ.ret1 rfl rfl H.ext ?_
      exact rfl
    ·
      first | refine WR.step (Ex.loadM H rfl (by assumption) Tryd.isAgg34) (Wn.none rfl) rfl rfl ?_ | refine WR.step (Ex.load1 H rfl (by repeat (first | exact List.Mem.head _ | apply List.Mem.tail)) Tryd.isAgg34 (by rfl)) (Wn.none rfl) rfl rfl ?_
      refine WR.nil (WQ.any ?_)
      refine WA.takeIdx (i := 9) rfl (by kernel_rfl) (by kernel_rfl) (by kernel_rfl) Tryd.underlying34 Tryd.sizeOf5 (by assumption) rfl rfl (hy) (Wn.none rfl) rfl ?_
      intro p13 hc13
      refine WA.two (i := 3) (j := 10) (by kernel_rfl) rfl rfl ?_ ?_
      ·
        first | refine WR.step (Ex.loadM H rfl (by assumption) Tryd.isAgg5) (Wn.none rfl) rfl rfl ?_ | refine WR.step (Ex.load1 H rfl (by repeat (first | exact List.Mem.head _ | apply List.Mem.tail)) Tryd.isAgg5 (by rfl)) (Wn.none rfl) rfl rfl ?_
        refine WR.nil (WQ.any ?_)
        refine WA.takeE (v' := encR (x.toNat : Int)) (i := 4) rfl (by kernel_rfl) (by kernel_rfl) (by kernel_rfl) (fun _ => Ex.conv Tryd.underlying5 Tryd.underlying21 rfl) (congrArg encR (i32_in (by omega))) (Wn.none rfl) rfl rfl (fun _ _ => rfl) ?_
        refine WA.takeE (v' := encR ((x.toNat * 2 ^ 8 : Nat) : Int)) (i := 5) rfl (by kernel_rfl) (by kernel_rfl) (by kernel_rfl) (fun _ => Ex.shlK (m := x.toNat) (s := 8) rfl rfl (by decide)) (congrArg encR (i32_in (by omega))) (Wn.none rfl) rfl rfl (fun _ _ => rfl) ?_
        refine WA.one (i := 10) (by kernel_rfl) rfl ?_
        first | refine WR.step (Ex.loadM H rfl (by assumption) Tryd.isAgg5) (Wn.none rfl) rfl rfl ?_ | refine WR.step (Ex.load1 H rfl (by repeat (first | exact List.Mem.head _ | apply List.Mem.tail)) Tryd.isAgg5 (by rfl)) (Wn.none rfl) rfl rfl ?_
        refine WR.nil (WQ.any ?_)
        refine WA.one (i := 11) (by kernel_rfl) rfl ?_
        refine WR.stepE (v' := encR (y.toNat : Int)) (Ex.conv Tryd.underlying5 Tryd.underlying21 rfl) (congrArg encR (i32_in (by omega))) (Wn.none rfl) rfl rfl ?_
        refine WR.nil (WQ.any ?_)
        refine WA.one (i := 12) (by kernel_rfl) rfl ?_
        refine WR.stepE (v' := encR (unit x y)) (Ex.orK (m := (x.toNat * 2 ^ 8)) (s := y.toNat) rfl rfl (by first | decide | (show _ < 256; omega) | (show _ < 4294967296; omega) | (show _ < 18446744073709551616; omega)) (by first | decide | (show _ < 256; omega) | (show _ < 4294967296; omega) | (show _ < 18446744073709551616; omega))) (congrArg encR (by rw [unit_or]; exact i32_in (by omega))) (Wn.none rfl) rfl rfl ?_
        refine WR.nil (WQ.any ?_)
        refine WA.one (i := 13) (by kernel_rfl) rfl ?_
        refine WR.step (Ex.assign rfl) (Wn.none rfl) rfl rfl ?_
        refine WR.nil (WQ.any ?_)
        refine WA.done (by kernel_rfl) ?_
        refine WQ.then ?_
        refine WC.ret ?_
        (repeat (first | refine WQ.thenRet ?_ | refine WQ.inBlockRet ?_))
        refine WQ.ret1 rfl rfl H.ext ?_
        exact rfl
      ·
        first | refine WR.step (Ex.loadM H rfl (by assumption) Tryd.isAgg5) (Wn.none rfl) rfl rfl ?_ | refine WR.step (Ex.load1 H rfl (by repeat (first | exact List.Mem.head _ | apply List.Mem.tail)) Tryd.isAgg5 (by rfl)) (Wn.none rfl) rfl rfl ?_
        refine WR.nil (WQ.any ?_)
        refine WA.takeE (v' := encR (y.toNat : Int)) (i := 11) rfl (by kernel_rfl) (by kernel_rfl) (by kernel_rfl) (fun _ => Ex.conv Tryd.underlying5 Tryd.underlying21 rfl) (congrArg encR (i32_in (by omega))) (Wn.none rfl) rfl rfl (fun _ _ => rfl) ?_
        refine WA.one (i := 3) (by kernel_rfl) rfl ?_
        first | refine WR.step (Ex.loadM H rfl (by assumption) Tryd.isAgg5) (Wn.none rfl) rfl rfl ?_ | refine WR.step (Ex.load1 H rfl (by repeat (first | exact List.Mem.head _ | apply List.Mem.tail)) Tryd.isAgg5 (by rfl)) (Wn.none rfl) rfl rfl ?_
        refine WR.nil (WQ.any ?_)
        refine WA.one (i := 4) (by kernel_rfl) rfl ?_
        refine WR.stepE (v' := encR (x.toNat : Int)) (Ex.conv Tryd.underlying5 Tryd.underlying21 rfl) (congrArg encR (i32_in (by omega))) (Wn.none rfl) rfl rfl ?_
        refine WR.nil (WQ.any ?_)
        refine WA.one (i := 5) (by kernel_rfl) rfl ?_
        refine WR.stepE (v' := encR ((x.toNat * 2 ^ 8 : Nat) : Int)) (Ex.shlK (m := x.toNat) (s := 8) rfl rfl (by decide)) (congrArg encR (i32_in (by omega))) (Wn.none rfl) rfl rfl ?_
        refine WR.nil (WQ.any ?_)
        refine WA.one (i := 12) (by kernel_rfl) rfl ?_
        refine WR.stepE (v' := encR (unit x y)) (Ex.orK (m := (x.toNat * 2 ^ 8)) (s := y.toNat) rfl rfl (by first | decide | (show _ < 256; omega) | (show _ < 4294967296; omega) | (show _ < 18446744073709551616; omega)) (by first | decide | (show _ < 256; omega) | (show _ < 4294967296; omega) | (show _ < 18446744073709551616; omega))) (congrArg encR (by rw [unit_or]; exact i32_in (by omega))) (Wn.none rfl) rfl rfl ?_
        refine WR.nil (WQ.any ?_)
        refine WA.one (i := 13) (by kernel_rfl) rfl ?_
        refine WR.step (Ex.assign rfl) (Wn.none rfl) rfl rfl ?_
        refine WR.nil (WQ.any ?_)
        refine WA.done (by kernel_rfl) ?_
        refine WQ.then ?_
        refine WC.ret ?_
        (repeat (first | refine WQ.thenRet ?_ | refine WQ.inBlockRet ?_))
        refine WQ.ret1 rfl rfl H.ext ?_
        exact rfl
  ·
    first | refine WR.step (Ex.loadM H rfl (by assumption) Tryd.isAgg34) (Wn.none rfl) rfl rfl ?_ | refine WR.step (Ex.load1 H rfl (by repeat (first | exact List.Mem.head _ | apply List.Mem.tail)) Tryd.isAgg34 (by rfl)) (Wn.none rfl) rfl rfl ?_
    refine WR.nil (WQ.any ?_)
    refine WA.takeIdx (i := 9) rfl (by kernel_rfl) (by kernel_rfl) (by kernel_rfl) Tryd.underlying34 Tryd.sizeOf5 (by assumption) rfl rfl (hy) (Wn.none rfl) rfl ?_
    intro p13 hc13
    refine WA.two (i := 0) (j := 10) (by kernel_rfl) rfl rfl ?_ ?_
    ·
      first | refine WR.step (Ex.loadM H rfl (by assumption) Tryd.isAgg34) (Wn.none rfl) rfl rfl ?_ | refine WR.step (Ex.load1 H rfl (by repeat (first | exact List.Mem.head _ | apply List.Mem.tail)) Tryd.isAgg34 (by rfl)) (Wn.none rfl) rfl rfl ?_
      refine WR.nil (WQ.any ?_)
      refine WA.takeIdx (i := 2) rfl (by kernel_rfl) (by kernel_rfl) (by kernel_rfl) Tryd.underlying34 Tryd.sizeOf5 (by assumption) rfl rfl (hx) (Wn.none rfl) rfl ?_
      intro p6 hc6
      refine WA.two (i := 3) (j := 10) (by kernel_rfl) rfl rfl ?_ ?_
      ·
        first | refine WR.step (Ex.loadM H rfl (by assumption) Tryd.isAgg5) (Wn.none rfl) rfl rfl ?_ | refine WR.step (Ex.load1 H rfl (by repeat (first | exact List.Mem.head _ | apply List.Mem.tail)) Tryd.isAgg5 (by rfl)) (Wn.none rfl) rfl rfl ?_
        refine WR.nil (WQ.any ?_)
        refine WA.takeE (v' := encR (x.toNat : Int)) (i := 4) rfl (by kernel_rfl) (by kernel_rfl) (by kernel_rfl) (fun _ => Ex.conv Tryd.underlying5 Tryd.underlying21 rfl) (congrArg encR (i32_in (by omega))) (Wn.none rfl) rfl rfl (fun _ _ => rfl) ?_
        refine WA.takeE (v' := encR ((x.toNat * 2 ^ 8 : Nat) : Int)) (i := 5) rfl (by kernel_rfl) (by kernel_rfl) (by kernel_rfl) (fun _ => Ex.shlK (m := x.toNat) (s := 8) rfl rfl (by decide)) (congrArg encR (i32_in (by omega))) (Wn.none rfl) rfl rfl (fun _ _ => rfl) ?_
        refine WA.one (i := 10) (by kernel_rfl) rfl ?_
        first | refine WR.step (Ex.loadM H rfl (by assumption) Tryd.isAgg5) (Wn.none rfl) rfl rfl ?_ | refine WR.step (Ex.load1 H rfl (by repeat (first | exact List.Mem.head _ | apply List.Mem.tail)) Tryd.isAgg5 (by rfl)) (Wn.none rfl) rfl rfl ?_
        refine WR.nil (WQ.any ?_)
        refine WA.one (i := 11) (by kernel_rfl) rfl ?_
        refine WR.stepE (v' := encR (y.toNat : Int)) (Ex.conv Tryd.underlying5 Tryd.underlying21 rfl) (congrArg encR (i32_in (by omega))) (Wn.none rfl) rfl rfl ?_
        refine WR.nil (WQ.any ?_)
        refine WA.one (i := 12) (by kernel_rfl) rfl ?_
        refine WR.stepE (v' := encR (unit x y)) (Ex.orK (m := (x.toNat * 2 ^ 8)) (s := y.toNat) rfl rfl (by first | decide | (show _ < 256; omega) | (show _ < 4294967296; omega) | (show _ < 18446744073709551616; omega)) (by first | decide | (show _ < 256; omega) | (show _ < 4294967296; omega) | (show _ < 18446744073709551616; omega))) (congrArg encR (by rw [unit_or]; exact i32_in (by omega))) (Wn.none rfl) rfl rfl ?_
        refine WR.nil (WQ.any ?_)
        refine WA.one (i := 13) (by kernel_rfl) rfl ?_
        refine WR.step (Ex.assign rfl) (Wn.none rfl) rfl rfl ?_
        refine WR.nil (WQ.any ?_)
        refine WA.done (by kernel_rfl) ?_
        refine WQ.then ?_
        refine WC.ret ?_
        (repeat (first | refine WQ.thenRet ?_ | refine WQ.inBlockRet ?_))
        refine WQ.ret1 rfl rfl H.ext ?_
        exact rfl
      ·
        first | refine WR.step (Ex.loadM H rfl (by assumption) Tryd.isAgg5) (Wn.none rfl) rfl rfl ?_ | refine WR.step (Ex.load1 H rfl (by repeat (first | exact List.Mem.head _ | apply List.Mem.tail)) Tryd.isAgg5 (by rfl)) (Wn.none rfl) rfl rfl ?_
        refine WR.nil (WQ.any ?_)
        refine WA.takeE (v' := encR (y.toNat : Int)) (i := 11) rfl (by kernel_rfl) (by kernel_rfl) (by kernel_rfl) (fun _ => Ex.conv Tryd.underlying5 Tryd.underlying21 rfl) (congrArg encR (i32_in (by omega))) (Wn.none rfl) rfl rfl (fun _ _ => rfl) ?_
        refine WA.one (i := 3) (by kernel_rfl) rfl ?_
        first | refine WR.step (Ex.loadM H rfl (by assumption) Tryd.isAgg5) (Wn.none rfl) rfl rfl ?_ | refine WR.step (Ex.load1 H rfl (by repeat (first | exact List.Mem.head _ | apply List.Mem.tail)) Tryd.isAgg5 (by rfl)) (Wn.none rfl) rfl rfl ?_
        refine WR.nil (WQ.any ?_)
        refine WA.one (i := 4) (by kernel_rfl) rfl ?_
        refine WR.stepE (v' := encR (x.toNat : Int)) (Ex.conv Tryd.underlying5 Tryd.underlying21 rfl) (congrArg encR (i32_in (by omega))) (Wn.none rfl) rfl rfl ?_
        refine WR.nil (WQ.any ?_)
        refine WA.one (i := 5) (by kernel_rfl) rfl ?_
        refine WR.stepE (v' := encR ((x.toNat * 2 ^ 8 : Nat) : Int)) (Ex.shlK (m := x.toNat) (s := 8) rfl rfl (by decide)) (congrArg encR (i32_in (by omega))) (Wn.none rfl) rfl rfl ?_
        refine WR.nil (WQ.any ?_)
        refine WA.one (i := 12) (by kernel_rfl) rfl ?_
        refine WR.stepE (v' := encR (unit x y)) (Ex.orK (m := (x.toNat * 2 ^ 8)) (s := y.toNat) rfl rfl (by first | decide | (show _ < 256; omega) | (show _ < 4294967296; omega) | (show _ < 18446744073709551616; omega)) (by first | decide | (show _ < 256; omega) | (show _ < 4294967296; omega) | (show _ < 18446744073709551616; omega))) (congrArg encR (by rw [unit_or]; exact i32_in (by omega))) (Wn.none rfl) rfl rfl ?_
        refine WR.nil (WQ.any ?_)
        refine WA.one (i := 13) (by kernel_rfl) rfl ?_
        refine WR.step (Ex.assign rfl) (Wn.none rfl) rfl rfl ?_
        refine WR.nil (WQ.any ?_)
        refine WA.done (by kernel_rfl) ?_
        refine WQ.then ?_
        refine WC.ret ?_
        (repeat (first | refine WQ.thenRet ?_ | refine WQ.inBlockRet ?_))
        refine WQ.ret1 rfl rfl H.ext ?_
        exact rfl
    ·
      first | refine WR.step (Ex.loadM H rfl (by assumption) Tryd.isAgg5) (Wn.none rfl) rfl rfl ?_ | refine WR.step (Ex.load1 H rfl (by repeat (first | exact List.Mem.head _ | apply List.Mem.tail)) Tryd.isAgg5 (by rfl)) (Wn.none rfl) rfl rfl ?_
      refine WR.nil (WQ.any ?_)
      refine WA.takeE (v' := encR (y.toNat : Int)) (i := 11) rfl (by kernel_rfl) (by kernel_rfl) (by kernel_rfl) (fun _ => Ex.conv Tryd.underlying5 Tryd.underlying21 rfl) (congrArg encR (i32_in (by omega))) (Wn.none rfl) rfl rfl (fun _ _ => rfl) ?_
      refine WA.one (i := 0) (by kernel_rfl) rfl ?_
      first | refine WR.step (Ex.loadM H rfl (by assumption) Tryd.isAgg34) (Wn.none rfl) rfl rfl ?_ | refine WR.step (Ex.load1 H rfl (by repeat (first | exact List.Mem.head _ | apply List.Mem.tail)) Tryd.isAgg34 (by rfl)) (Wn.none rfl) rfl rfl ?_
      refine WR.nil (WQ.any ?_)
      refine WA.one (i := 2) (by kernel_rfl) rfl ?_
      refine WR.idxSl Tryd.underlying34 Tryd.sizeOf5 (by assumption) rfl rfl (hx) (Wn.none rfl) rfl ?_
      intro p6 hc6
      refine WR.nil (WQ.any ?_)
      refine WA.one (i := 3) (by kernel_rfl) rfl ?_
      first | refine WR.step (Ex.loadM H rfl (by assumption) Tryd.isAgg5) (Wn.none rfl) rfl rfl ?_ | refine WR.step (Ex.load1 H rfl (by repeat (first | exact List.Mem.head _ | apply List.Mem.tail)) Tryd.isAgg5 (by rfl)) (Wn.none rfl) rfl rfl ?_
      refine WR.nil (WQ.any ?_)
      refine WA.one (i := 4) (by kernel_rfl) rfl ?_
      refine WR.stepE (v' := encR (x.toNat : Int)) (Ex.conv Tryd.underlying5 Tryd.underlying21 rfl) (congrArg encR (i32_in (by omega))) (Wn.none rfl) rfl rfl ?_
      refine WR.nil (WQ.any ?_)
      refine WA.one (i := 5) (by kernel_rfl) rfl ?_
      refine WR.stepE (v' := encR ((x.toNat * 2 ^ 8 : Nat) : Int)) (Ex.shlK (m := x.toNat) (s := 8) rfl rfl (by decide)) (congrArg encR (i32_in (by omega))) (Wn.none rfl) rfl rfl ?_
      refine WR.nil (WQ.any ?_)
      refine WA.one (i := 12) (by kernel_rfl) rfl ?_
      refine WR.stepE (v' := encR (unit x y)) (Ex.orK (m := (x.toNat * 2 ^ 8)) (s := y.toNat) rfl rfl (by first | decide | (show _ < 256; omega) | (show _ < 4294967296; omega) | (show _ < 18446744073709551616; omega)) (by first | decide | (show _ < 256; omega) | (show _ < 4294967296; omega) | (show _ < 18446744073709551616; omega))) (congrArg encR (by rw [unit_or]; exact i32_in (by omega))) (Wn.none rfl) rfl rfl ?_
      refine WR.nil (WQ.any ?_)
      refine WA.one (i := 13) (by kernel_rfl) rfl ?_
      refine WR.step (Ex.assign rfl) (Wn.none rfl) rfl rfl ?_
      refine WR.nil (WQ.any ?_)
      refine WA.done (by kernel_rfl) ?_
      refine WQ.then ?_
      refine WC.ret ?_
      (repeat (first | refine WQ.thenRet ?_ | refine WQ.inBlockRet ?_))
      refine WQ.ret1 rfl rfl H.ext ?_
      exact rfl

end Go.Proofs.YtnjglbmaonbcbaaDoor
