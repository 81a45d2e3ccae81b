/-
  the reference: Decoded, Best: walks over the program's own operations, written by a program of this repository (wip/tools/gen.py) out of a plan.
-/
import Derived.Test.YtnjglbmaonbcbaaDoorCod
import Derived.KernelRfl
set_option linter.unusedVariables false
set_option linter.unusedSimpArgs false
namespace Go.Proofs.YtnjglbmaonbcbaaDoor
open Go Go.RowKit Go.Ph

open Go.Ph.Gr Go.Ph.Utf Go.Ph.Chs
theorem chars_lt (l : List UInt8) : ∀ c ∈ chars l, c.1 ≤ 1114111 := by
  have key : ∀ (k : Nat) (l : List UInt8), l.length ≤ k → ∀ c ∈ chars l, c.1 ≤ 1114111 := by
    intro k
    induction k with
    | zero => intro l h c hc; obtain rfl := List.eq_nil_of_length_eq_zero (Nat.le_zero.1 h); cases hc
    | succ k ih =>
      intro l h c hc
      by_cases hl : l = []
      · subst hl; cases hc
      · obtain ⟨h1, _, h2⟩ := rune_size l
        have h3 := h2 hl
        rw [chars_cons hl] at hc
        rcases List.mem_cons.1 hc with rfl | hc
        · exact (rune_lt l).2
        · exact ih _ (by rw [List.length_drop]; omega) c hc
  exact key _ l (Nat.le_refl _)
theorem utf8_fix0 (n : Int) : utf8 (fix0 n) = utf8 n := by
  unfold utf8 fix0
  split
  · rw [fixN_bad (n := n) (by omega)]; rfl
  · rfl
theorem utf8_unsur {u : Int} (h : 0 ≤ u) (h1 : u < 65536) : utf8 (unsur u) = utf8 u := by
  unfold utf8 unsur
  split
  · rw [fixN_bad (n := u) (by omega)]; rfl
  · rfl
theorem flat_len (ns : List Int) : (ns.flatMap utf8).length ≤ 4 * ns.length := by
  induction ns with
  | nil => simp
  | cons n ns ih =>
    have := utf8_len n
    rw [List.flatMap_cons, List.length_append, List.length_cons]; omega

theorem decoded_0 (v : Value) (l : List UInt8) (hs : l.length ≤ 1048576) : Ct Tryd.prog 24 [I 0, v] (fun M => Bs M v l) (fun r _ => r = S (decoded 0 l)) := by
  refine Ct.of Tryd.func24 (enters Tryd.func24 (by kernel_rfl) rfl) rfl rfl rfl ?_
  intro w0 M0 H hp
  refine WC.seq ?_
  refine WC.region ?_
  refine WR.step (Ex.assign rfl) (Wn.none rfl) rfl rfl ?_
  refine WR.nil ?_
  refine WQ.then ?_
  refine WC.seq ?_
  refine WC.region ?_
  refine WR.step (Ex.assign rfl) (Wn.none rfl) rfl rfl ?_
  refine WR.nil ?_
  refine WQ.then ?_
  refine WC.seq ?_
  refine WC.seq ?_
  refine WC.region ?_
  refine WR.step (Ex.move rfl) (Wn.none rfl) rfl rfl ?_
  refine WR.nil ?_
  refine WQ.then ?_
  refine WC.block ?_
  refine WC.seq ?_
  refine WC.seq ?_
  refine WC.region ?_
  refine WR.stepT (Ex.eql rfl rfl) rfl (Wn.none rfl) rfl rfl ?_
  refine WR.step (Ex.assign rfl) (Wn.none rfl) rfl rfl ?_
  refine WR.nil ?_
  refine WQ.then ?_
  refine WC.condT rfl ?_
  refine WC.skip ?_
  refine WQ.then ?_
  refine WC.condT rfl ?_
  refine WC.seq ?_
  refine WC.region ?_
  refine WR.step (Ex.assign rfl) (Wn.none rfl) rfl rfl ?_
  refine WR.nil ?_
  refine WQ.then ?_
  refine WC.block ?_
  refine WC.loop2 (fun (q : Nat) (o : List UInt8) => [(0, I 0), (1, v), (5, S o), (6, encN q)]) (fun (q : Nat) (o : List UInt8) w => q ≤ l.length ∧ o = (decS 128 (l.take q)).flatMap utf8 ∧ ∃ M, St w0 M0 M [] w ∧ Bs M v l) (fun (q : Nat) (o : List UInt8) => l.length - q) (0) ([]) ⟨rfl, rfl, rfl, rfl, trivial⟩ (⟨by omega, rfl, M0, H, hp⟩) ?_
  intro q o w
  rintro ⟨hq, ho, M, H, hp⟩
  have hol := flat_len (decS 128 (l.take q))
  rw [← ho] at hol
  have hdl : (decS 128 (l.take q)).length = q := by simp [decS]; omega
  refine WC.seq ?_
  refine WC.seq ?_
  refine WC.region ?_
  refine WR.step (Ex.move rfl) (Wn.none rfl) rfl rfl ?_
  refine WR.step (Ex.move rfl) (Wn.none rfl) rfl rfl ?_
  first | refine WR.step (Ex.lenSl Tryd.underlying34 (by assumption) rfl) (Wn.none rfl) rfl rfl ?_ | refine WR.step (Ex.lenRow Tryd.underlying34 H (by repeat (first | exact List.Mem.head _ | apply List.Mem.tail)) rfl) (Wn.none rfl) rfl rfl ?_ | refine WR.step (Ex.lenSlice Tryd.underlying34 rfl) (Wn.none rfl) rfl rfl ?_
  refine WR.split (Ex.lss rfl rfl) (Wn.none rfl) rfl rfl (fun h6_3 => ?_) (fun h6_3 => ?_)
  ·
    obtain ⟨c, hc⟩ : ∃ c, l[q]? = some c := ⟨_, List.getElem?_eq_getElem (by omega)⟩
    have hclt := c.toNat_lt
    have hdn : decS 128 (l.take (q + 1)) = decS 128 (l.take q) ++ [if 128 ≤ (c.toNat : Int) then 65533 else (c.toNat : Int)] := by
      obtain ⟨e1, e2⟩ := List.getElem?_eq_some_iff.1 hc
      rw [List.take_succ_eq_append_getElem e1, e2]; simp [decS]
    have hul1 := utf8_len 65533
    have hul2 := utf8_len (c.toNat : Int)
    refine WR.nil ?_
    refine WQ.then ?_
    refine WC.condT rfl ?_
    refine WC.skip ?_
    refine WQ.then ?_
    refine WC.seq ?_
    refine WC.block ?_
    refine WC.seq ?_
    refine WC.region ?_
    refine WR.step (Ex.move rfl) (Wn.none rfl) rfl rfl ?_
    refine WR.step (Ex.move rfl) (Wn.none rfl) rfl rfl ?_
    refine WR.idxSl Tryd.underlying34 Tryd.sizeOf5 (by assumption) rfl rfl (hc) (Wn.none rfl) rfl ?_
    intro p25 hc25
    first | refine WR.step (Ex.loadM H rfl (by assumption) Tryd.isAgg5) (Wn.none rfl) rfl rfl ?_ | refine WR.step (Ex.load1 H rfl (by repeat (first | exact List.Mem.head _ | apply List.Mem.tail)) Tryd.isAgg5 (by rfl)) (Wn.none rfl) rfl rfl ?_
    first | refine WR.step (Ex.convB Tryd.underlying5 Tryd.underlying3 rfl) (Wn.none rfl) rfl rfl ?_ | refine WR.step (Ex.convI Tryd.underlying5 Tryd.underlying3 rfl (by omega)) (Wn.none rfl) rfl rfl ?_
    refine WR.step (Ex.assign rfl) (Wn.none rfl) rfl rfl ?_
    refine WR.nil ?_
    refine WQ.then ?_
    refine WC.seq ?_
    refine WC.seq ?_
    refine WC.region ?_
    refine WR.step (Ex.move rfl) (Wn.none rfl) rfl rfl ?_
    refine WR.stepT (Ex.eql rfl rfl) rfl (Wn.none rfl) rfl rfl ?_
    refine WR.step (Ex.move rfl) (Wn.none rfl) rfl rfl ?_
    refine WR.step (Ex.move rfl) (Wn.some rfl rfl rfl) rfl rfl ?_
    refine WR.split (Ex.gtr rfl rfl) (Wn.some rfl rfl rfl) rfl rfl (fun h9_4 => ?_) (fun h9_4 => ?_)
    ·
      refine WR.step (Ex.pickT rfl rfl) (Wn.none rfl) rfl rfl ?_
      refine WR.nil ?_
      refine WQ.then ?_
      refine WC.condT rfl ?_
      refine WC.region ?_
      refine WR.step (Ex.assign rfl) (Wn.none rfl) rfl rfl ?_
      refine WR.nil ?_
      refine WQ.then ?_
      refine WC.region ?_
      refine WR.step (Ex.move rfl) (Wn.none rfl) rfl rfl ?_
      refine WR.step (Ex.move rfl) (Wn.none rfl) rfl rfl ?_
      refine WR.call H (utf8_spec _) rfl (trivial) (Wn.none rfl) rfl ?_
      intro v36 M w H hle hr36
      replace hp := hp.mono hle
      replace hc25 := hc25.mono hle
      obtain rfl := hr36
      refine WR.step (Ex.strAdd rfl rfl (by first | omega | (simp only [List.length_cons, List.length_nil]; omega) | (simp only [List.length_append, List.length_cons, List.length_nil, List.length_drop, List.length_take]; omega))) (Wn.none rfl) rfl rfl ?_
      refine WR.step (Ex.assign rfl) (Wn.none rfl) rfl rfl ?_
      refine WR.nil ?_
      refine WQ.inBlock ?_
      refine WQ.then ?_
      refine WC.region ?_
      refine WR.step (Ex.move rfl) (Wn.none rfl) rfl rfl ?_
      refine WR.step (Ex.add64 rfl rfl (by omega)) (Wn.none rfl) rfl rfl ?_
      refine WR.step (Ex.assign rfl) (Wn.none rfl) rfl rfl ?_
      refine WR.nil ?_
      refine WQ.again2 (q + 1) (o ++ utf8 65533) ⟨rfl, rfl, rfl, rfl, trivial⟩ ?_ ?_
      · refine ⟨by omega, ?_, M, H, hp⟩
        rw [hdn, List.flatMap_append, ← ho, if_pos (by omega)]; simp
      · omega
    ·
      refine WR.step (Ex.pickT rfl rfl) (Wn.none rfl) rfl rfl ?_
      refine WR.nil ?_
      refine WQ.then ?_
      refine WC.condF rfl ?_
      refine WC.skip ?_
      refine WQ.then ?_
      refine WC.region ?_
      refine WR.step (Ex.move rfl) (Wn.none rfl) rfl rfl ?_
      refine WR.step (Ex.move rfl) (Wn.none rfl) rfl rfl ?_
      refine WR.call H (utf8_spec _) rfl (trivial) (Wn.none rfl) rfl ?_
      intro v36 M w H hle hr36
      replace hp := hp.mono hle
      replace hc25 := hc25.mono hle
      obtain rfl := hr36
      refine WR.step (Ex.strAdd rfl rfl (by first | omega | (simp only [List.length_cons, List.length_nil]; omega) | (simp only [List.length_append, List.length_cons, List.length_nil, List.length_drop, List.length_take]; omega))) (Wn.none rfl) rfl rfl ?_
      refine WR.step (Ex.assign rfl) (Wn.none rfl) rfl rfl ?_
      refine WR.nil ?_
      refine WQ.inBlock ?_
      refine WQ.then ?_
      refine WC.region ?_
      refine WR.step (Ex.move rfl) (Wn.none rfl) rfl rfl ?_
      refine WR.step (Ex.add64 rfl rfl (by omega)) (Wn.none rfl) rfl rfl ?_
      refine WR.step (Ex.assign rfl) (Wn.none rfl) rfl rfl ?_
      refine WR.nil ?_
      refine WQ.again2 (q + 1) (o ++ utf8 (c.toNat : Int)) ⟨rfl, rfl, rfl, rfl, trivial⟩ ?_ ?_
      · refine ⟨by omega, ?_, M, H, hp⟩
        rw [hdn, List.flatMap_append, ← ho, if_neg (by omega)]; simp
      · omega
  ·
    refine WR.nil ?_
    refine WQ.then ?_
    refine WC.condF rfl ?_
    refine WC.exit ?_
    refine WQ.thenExit ?_
    refine WQ.thenExit ?_
    refine WQ.exitHere ?_
    refine WQ.inBlock ?_
    refine WQ.then ?_
    refine WC.seq ?_
    refine WC.region ?_
    refine WR.step (Ex.move rfl) (Wn.none rfl) rfl rfl ?_
    refine WR.step (Ex.assign rfl) (Wn.none rfl) rfl rfl ?_
    refine WR.nil ?_
    refine WQ.then ?_
    refine WC.ret ?_
    (repeat (first | refine WQ.thenRet ?_ | refine WQ.inBlockRet ?_))
    refine WQ.ret1 rfl rfl H.ext ?_
    exact by rw [ho, List.take_of_length_le (by omega)]; rfl

theorem decoded_1 (v : Value) (l : List UInt8) (hs : l.length ≤ 1048576) : Ct Tryd.prog 24 [I 1, v] (fun M => Bs M v l) (fun r _ => r = S (decoded 1 l)) := by
  refine Ct.of Tryd.func24 (enters Tryd.func24 (by kernel_rfl) rfl) rfl rfl rfl ?_
  intro w0 M0 H hp
  refine WC.seq ?_
  refine WC.region ?_
  refine WR.step (Ex.assign rfl) (Wn.none rfl) rfl rfl ?_
  refine WR.nil ?_
  refine WQ.then ?_
  refine WC.seq ?_
  refine WC.region ?_
  refine WR.step (Ex.assign rfl) (Wn.none rfl) rfl rfl ?_
  refine WR.nil ?_
  refine WQ.then ?_
  refine WC.seq ?_
  refine WC.seq ?_
  refine WC.region ?_
  refine WR.step (Ex.move rfl) (Wn.none rfl) rfl rfl ?_
  refine WR.nil ?_
  refine WQ.then ?_
  refine WC.block ?_
  refine WC.seq ?_
  refine WC.seq ?_
  refine WC.region ?_
  refine WR.stepF (Ex.eql rfl rfl) (by decide) (Wn.none rfl) rfl rfl ?_
  refine WR.step (Ex.assign rfl) (Wn.none rfl) rfl rfl ?_
  refine WR.nil ?_
  refine WQ.then ?_
  refine WC.condF rfl ?_
  refine WC.region ?_
  refine WR.stepT (Ex.eql rfl rfl) rfl (Wn.none rfl) rfl rfl ?_
  refine WR.step (Ex.assign rfl) (Wn.none rfl) rfl rfl ?_
  refine WR.nil ?_
  refine WQ.then ?_
  refine WC.condT rfl ?_
  refine WC.seq ?_
  refine WC.region ?_
  refine WR.step (Ex.assign rfl) (Wn.none rfl) rfl rfl ?_
  refine WR.nil ?_
  refine WQ.then ?_
  refine WC.block ?_
  refine WC.loop2 (fun (q : Nat) (o : List UInt8) => [(0, I 1), (1, v), (5, S o), (6, encN q)]) (fun (q : Nat) (o : List UInt8) w => q ≤ l.length ∧ o = (decS 256 (l.take q)).flatMap utf8 ∧ ∃ M, St w0 M0 M [] w ∧ Bs M v l) (fun (q : Nat) (o : List UInt8) => l.length - q) (0) ([]) ⟨rfl, rfl, rfl, rfl, trivial⟩ (⟨by omega, rfl, M0, H, hp⟩) ?_
  intro q o w
  rintro ⟨hq, ho, M, H, hp⟩
  have hol := flat_len (decS 256 (l.take q))
  rw [← ho] at hol
  have hdl : (decS 256 (l.take q)).length = q := by simp [decS]; omega
  refine WC.seq ?_
  refine WC.seq ?_
  refine WC.region ?_
  refine WR.step (Ex.move rfl) (Wn.none rfl) rfl rfl ?_
  refine WR.step (Ex.move rfl) (Wn.none rfl) rfl rfl ?_
  first | refine WR.step (Ex.lenSl Tryd.underlying34 (by assumption) rfl) (Wn.none rfl) rfl rfl ?_ | refine WR.step (Ex.lenRow Tryd.underlying34 H (by repeat (first | exact List.Mem.head _ | apply List.Mem.tail)) rfl) (Wn.none rfl) rfl rfl ?_ | refine WR.step (Ex.lenSlice Tryd.underlying34 rfl) (Wn.none rfl) rfl rfl ?_
  refine WR.split (Ex.lss rfl rfl) (Wn.none rfl) rfl rfl (fun h6_3 => ?_) (fun h6_3 => ?_)
  ·
    obtain ⟨c, hc⟩ : ∃ c, l[q]? = some c := ⟨_, List.getElem?_eq_getElem (by omega)⟩
    have hclt := c.toNat_lt
    have hdn : decS 256 (l.take (q + 1)) = decS 256 (l.take q) ++ [if 256 ≤ (c.toNat : Int) then 65533 else (c.toNat : Int)] := by
      obtain ⟨e1, e2⟩ := List.getElem?_eq_some_iff.1 hc
      rw [List.take_succ_eq_append_getElem e1, e2]; simp [decS]
    have hul1 := utf8_len 65533
    have hul2 := utf8_len (c.toNat : Int)
    refine WR.nil ?_
    refine WQ.then ?_
    refine WC.condT rfl ?_
    refine WC.skip ?_
    refine WQ.then ?_
    refine WC.seq ?_
    refine WC.block ?_
    refine WC.seq ?_
    refine WC.region ?_
    refine WR.step (Ex.move rfl) (Wn.none rfl) rfl rfl ?_
    refine WR.step (Ex.move rfl) (Wn.none rfl) rfl rfl ?_
    refine WR.idxSl Tryd.underlying34 Tryd.sizeOf5 (by assumption) rfl rfl (hc) (Wn.none rfl) rfl ?_
    intro p25 hc25
    first | refine WR.step (Ex.loadM H rfl (by assumption) Tryd.isAgg5) (Wn.none rfl) rfl rfl ?_ | refine WR.step (Ex.load1 H rfl (by repeat (first | exact List.Mem.head _ | apply List.Mem.tail)) Tryd.isAgg5 (by rfl)) (Wn.none rfl) rfl rfl ?_
    first | refine WR.step (Ex.convB Tryd.underlying5 Tryd.underlying3 rfl) (Wn.none rfl) rfl rfl ?_ | refine WR.step (Ex.convI Tryd.underlying5 Tryd.underlying3 rfl (by omega)) (Wn.none rfl) rfl rfl ?_
    refine WR.step (Ex.assign rfl) (Wn.none rfl) rfl rfl ?_
    refine WR.nil ?_
    refine WQ.then ?_
    refine WC.seq ?_
    refine WC.seq ?_
    refine WC.region ?_
    refine WR.step (Ex.move rfl) (Wn.none rfl) rfl rfl ?_
    refine WR.stepF (Ex.eql rfl rfl) (by decide) (Wn.none rfl) rfl rfl ?_
    refine WR.step (Ex.move rfl) (Wn.none rfl) rfl rfl ?_
    refine WR.skipG (b := false) rfl rfl rfl rfl rfl ?_
    refine WR.skipG (b := false) rfl rfl rfl rfl rfl ?_
    refine WR.step (Ex.pickF rfl rfl) (Wn.none rfl) rfl rfl ?_
    refine WR.nil ?_
    refine WQ.then ?_
    refine WC.condF rfl ?_
    refine WC.skip ?_
    refine WQ.then ?_
    refine WC.region ?_
    refine WR.step (Ex.move rfl) (Wn.none rfl) rfl rfl ?_
    refine WR.step (Ex.move rfl) (Wn.none rfl) rfl rfl ?_
    refine WR.call H (utf8_spec _) rfl (trivial) (Wn.none rfl) rfl ?_
    intro v36 M w H hle hr36
    replace hp := hp.mono hle
    replace hc25 := hc25.mono hle
    obtain rfl := hr36
    refine WR.step (Ex.strAdd rfl rfl (by first | omega | (simp only [List.length_cons, List.length_nil]; omega) | (simp only [List.length_append, List.length_cons, List.length_nil, List.length_drop, List.length_take]; omega))) (Wn.none rfl) rfl rfl ?_
    refine WR.step (Ex.assign rfl) (Wn.none rfl) rfl rfl ?_
    refine WR.nil ?_
    refine WQ.inBlock ?_
    refine WQ.then ?_
    refine WC.region ?_
    refine WR.step (Ex.move rfl) (Wn.none rfl) rfl rfl ?_
    refine WR.step (Ex.add64 rfl rfl (by omega)) (Wn.none rfl) rfl rfl ?_
    refine WR.step (Ex.assign rfl) (Wn.none rfl) rfl rfl ?_
    refine WR.nil ?_
    refine WQ.again2 (q + 1) (o ++ utf8 (c.toNat : Int)) ⟨rfl, rfl, rfl, rfl, trivial⟩ ?_ ?_
    · refine ⟨by omega, ?_, M, H, hp⟩
      rw [hdn, List.flatMap_append, ← ho, if_neg (by omega)]; simp
    · omega
  ·
    refine WR.nil ?_
    refine WQ.then ?_
    refine WC.condF rfl ?_
    refine WC.exit ?_
    refine WQ.thenExit ?_
    refine WQ.thenExit ?_
    refine WQ.exitHere ?_
    refine WQ.inBlock ?_
    refine WQ.then ?_
    refine WC.seq ?_
    refine WC.region ?_
    refine WR.step (Ex.move rfl) (Wn.none rfl) rfl rfl ?_
    refine WR.step (Ex.assign rfl) (Wn.none rfl) rfl rfl ?_
    refine WR.nil ?_
    refine WQ.then ?_
    refine WC.ret ?_
    (repeat (first | refine WQ.thenRet ?_ | refine WQ.inBlockRet ?_))
    refine WQ.ret1 rfl rfl H.ext ?_
    exact by rw [ho, List.take_of_length_le (by omega)]; rfl

theorem decoded_2 (v : Value) (l : List UInt8) (hs : l.length ≤ 1048576) : Ct Tryd.prog 24 [I 2, v] (fun M => Bs M v l) (fun r _ => r = S (decoded 2 l)) := by
  refine Ct.of Tryd.func24 (enters Tryd.func24 (by kernel_rfl) rfl) rfl rfl rfl ?_
  intro w0 M0 H hp
  refine WC.seq ?_
  refine WC.region ?_
  refine WR.step (Ex.assign rfl) (Wn.none rfl) rfl rfl ?_
  refine WR.nil ?_
  refine WQ.then ?_
  refine WC.seq ?_
  refine WC.region ?_
  refine WR.step (Ex.assign rfl) (Wn.none rfl) rfl rfl ?_
  refine WR.nil ?_
  refine WQ.then ?_
  refine WC.seq ?_
  refine WC.seq ?_
  refine WC.region ?_
  refine WR.step (Ex.move rfl) (Wn.none rfl) rfl rfl ?_
  refine WR.nil ?_
  refine WQ.then ?_
  refine WC.block ?_
  refine WC.seq ?_
  refine WC.seq ?_
  refine WC.region ?_
  refine WR.stepF (Ex.eql rfl rfl) (by decide) (Wn.none rfl) rfl rfl ?_
  refine WR.step (Ex.assign rfl) (Wn.none rfl) rfl rfl ?_
  refine WR.nil ?_
  refine WQ.then ?_
  refine WC.condF rfl ?_
  refine WC.region ?_
  refine WR.stepF (Ex.eql rfl rfl) (by decide) (Wn.none rfl) rfl rfl ?_
  refine WR.step (Ex.assign rfl) (Wn.none rfl) rfl rfl ?_
  refine WR.nil ?_
  refine WQ.then ?_
  refine WC.condF rfl ?_
  refine WC.seq ?_
  refine WC.region ?_
  refine WR.stepT (Ex.eql rfl rfl) rfl (Wn.none rfl) rfl rfl ?_
  refine WR.step (Ex.assign rfl) (Wn.none rfl) rfl rfl ?_
  refine WR.nil ?_
  refine WQ.then ?_
  refine WC.condT rfl ?_
  refine WC.seq ?_
  refine WC.region ?_
  refine WR.step (Ex.move rfl) (Wn.none rfl) rfl rfl ?_
  refine WR.step (Ex.toStr Tryd.underlying34 Tryd.underlying5 Tryd.underlying9 H (by assumption) rfl) (Wn.none rfl) rfl rfl ?_
  refine WR.call H (runes_spec _ (by omega)) rfl (trivial) (Wn.none rfl) rfl ?_
  intro v42 M w H hle hr42
  replace hp := hp.mono hle
  have hf42 := hr42
  refine WR.step (Ex.assign rfl) (Wn.none rfl) rfl rfl ?_
  refine WR.nil ?_
  refine WQ.then ?_
  refine WC.seq ?_
  refine WC.region ?_
  refine WR.step (Ex.assign rfl) (Wn.none rfl) rfl rfl ?_
  refine WR.nil ?_
  refine WQ.then ?_
  refine WC.block ?_
  refine WC.loop2 (fun (k : Nat) (o : List UInt8) => [(5, S o), (8, v42), (9, encN k)]) (fun (k : Nat) (o : List UInt8) w => k ≤ (chars l).length ∧ o = (((chars l).take k).map (fun c => fix0 c.1)).flatMap utf8 ∧ ∃ M, St w0 M0 M [] w ∧ Sl M encI v42 ((chars l).map (·.1))) (fun (k : Nat) (o : List UInt8) => (chars l).length - k) (0) ([]) ⟨rfl, rfl, rfl, trivial⟩ (⟨by omega, rfl, M, H, hf42⟩) ?_
  intro k o w
  rintro ⟨hk, ho, M, H, hf42⟩
  have hml : ((chars l).map (·.1)).length = (chars l).length := List.length_map _
  have hol := flat_len (((chars l).take k).map (fun c => fix0 c.1))
  rw [← ho, List.length_map, List.length_take] at hol
  have hcl := decU_len l
  rw [decU, List.length_map] at hcl
  refine WC.seq ?_
  refine WC.seq ?_
  refine WC.region ?_
  refine WR.step (Ex.move rfl) (Wn.none rfl) rfl rfl ?_
  refine WR.step (Ex.move rfl) (Wn.none rfl) rfl rfl ?_
  first | refine WR.step (Ex.lenSl Tryd.underlying49 (by assumption) rfl) (Wn.none rfl) rfl rfl ?_ | refine WR.step (Ex.lenRow Tryd.underlying49 H (by repeat (first | exact List.Mem.head _ | apply List.Mem.tail)) rfl) (Wn.none rfl) rfl rfl ?_ | refine WR.step (Ex.lenSlice Tryd.underlying49 rfl) (Wn.none rfl) rfl rfl ?_
  refine WR.split (Ex.lss rfl rfl) (Wn.none rfl) rfl rfl (fun h15_3 => ?_) (fun h15_3 => ?_)
  ·
    obtain ⟨c, hc⟩ : ∃ c, (chars l)[k]? = some c := ⟨_, List.getElem?_eq_getElem (by omega)⟩
    have hx : ((chars l).map (·.1))[k]? = some c.1 := by rw [List.getElem?_map, hc]; rfl
    have hsn : (chars l).take (k + 1) = (chars l).take k ++ [c] := by
      have e := List.getElem?_eq_some_iff.1 hc
      rw [List.take_succ_eq_append_getElem e.1, e.2]
    have hul1 := utf8_len c.1
    refine WR.nil ?_
    refine WQ.then ?_
    refine WC.condT rfl ?_
    refine WC.skip ?_
    refine WQ.then ?_
    refine WC.seq ?_
    refine WC.block ?_
    refine WC.region ?_
    refine WR.step (Ex.move rfl) (Wn.none rfl) rfl rfl ?_
    refine WR.step (Ex.move rfl) (Wn.none rfl) rfl rfl ?_
    refine WR.step (Ex.move rfl) (Wn.none rfl) rfl rfl ?_
    refine WR.idxSl Tryd.underlying49 Tryd.sizeOf3 (by assumption) rfl rfl (hx) (Wn.none rfl) rfl ?_
    intro p52 hc52
    first | refine WR.step (Ex.loadM H rfl (by assumption) Tryd.isAgg3) (Wn.none rfl) rfl rfl ?_ | refine WR.step (Ex.load1 H rfl (by repeat (first | exact List.Mem.head _ | apply List.Mem.tail)) Tryd.isAgg3 (by rfl)) (Wn.none rfl) rfl rfl ?_
    refine WR.call H (utf8_spec _) rfl (trivial) (Wn.none rfl) rfl ?_
    intro v54 M w H hle hr54
    replace hf42 := hf42.mono hle
    replace hc52 := hc52.mono hle
    obtain rfl := hr54
    refine WR.step (Ex.strAdd rfl rfl (by first | omega | (simp only [List.length_cons, List.length_nil]; omega) | (simp only [List.length_append, List.length_cons, List.length_nil, List.length_drop, List.length_take]; omega))) (Wn.none rfl) rfl rfl ?_
    refine WR.step (Ex.assign rfl) (Wn.none rfl) rfl rfl ?_
    refine WR.nil ?_
    refine WQ.inBlock ?_
    refine WQ.then ?_
    refine WC.region ?_
    refine WR.step (Ex.move rfl) (Wn.none rfl) rfl rfl ?_
    refine WR.step (Ex.add64 rfl rfl (by omega)) (Wn.none rfl) rfl rfl ?_
    refine WR.step (Ex.assign rfl) (Wn.none rfl) rfl rfl ?_
    refine WR.nil ?_
    refine WQ.again2 (k + 1) (o ++ utf8 c.1) ⟨rfl, rfl, rfl, trivial⟩ ?_ ?_
    · refine ⟨by omega, ?_, M, H, hf42⟩
      rw [hsn, List.map_append, List.flatMap_append, ← ho]; simp [utf8_fix0]
    · omega
  ·
    refine WR.nil ?_
    refine WQ.then ?_
    refine WC.condF rfl ?_
    refine WC.exit ?_
    refine WQ.thenExit ?_
    refine WQ.thenExit ?_
    refine WQ.exitHere ?_
    refine WQ.inBlock ?_
    refine WQ.then ?_
    refine WC.seq ?_
    refine WC.region ?_
    refine WR.step (Ex.move rfl) (Wn.none rfl) rfl rfl ?_
    refine WR.step (Ex.assign rfl) (Wn.none rfl) rfl rfl ?_
    refine WR.nil ?_
    refine WQ.then ?_
    refine WC.ret ?_
    (repeat (first | refine WQ.thenRet ?_ | refine WQ.inBlockRet ?_))
    refine WQ.ret1 rfl rfl H.ext ?_
    exact by rw [ho, List.take_of_length_le (by omega)]; rfl

set_option maxHeartbeats 2000000 in
theorem decoded_3 (v : Value) (l : List UInt8) (hs : l.length ≤ 1048576) : Ct Tryd.prog 24 [I 3, v] (fun M => Bs M v l) (fun r _ => r = S (decoded 3 l)) := by
  refine Ct.of Tryd.func24 (enters Tryd.func24 (by kernel_rfl) rfl) rfl rfl rfl ?_
  intro w0 M0 H hp
  refine WC.seq ?_
  refine WC.region ?_
  refine WR.step (Ex.assign rfl) (Wn.none rfl) rfl rfl ?_
  refine WR.nil ?_
  refine WQ.then ?_
  refine WC.seq ?_
  refine WC.region ?_
  refine WR.step (Ex.assign rfl) (Wn.none rfl) rfl rfl ?_
  refine WR.nil ?_
  refine WQ.then ?_
  refine WC.seq ?_
  refine WC.seq ?_
  refine WC.region ?_
  refine WR.step (Ex.move rfl) (Wn.none rfl) rfl rfl ?_
  refine WR.nil ?_
  refine WQ.then ?_
  refine WC.block ?_
  refine WC.seq ?_
  refine WC.seq ?_
  refine WC.region ?_
  refine WR.stepF (Ex.eql rfl rfl) (by decide) (Wn.none rfl) rfl rfl ?_
  refine WR.step (Ex.assign rfl) (Wn.none rfl) rfl rfl ?_
  refine WR.nil ?_
  refine WQ.then ?_
  refine WC.condF rfl ?_
  refine WC.region ?_
  refine WR.stepF (Ex.eql rfl rfl) (by decide) (Wn.none rfl) rfl rfl ?_
  refine WR.step (Ex.assign rfl) (Wn.none rfl) rfl rfl ?_
  refine WR.nil ?_
  refine WQ.then ?_
  refine WC.condF rfl ?_
  refine WC.seq ?_
  refine WC.region ?_
  refine WR.stepF (Ex.eql rfl rfl) (by decide) (Wn.none rfl) rfl rfl ?_
  refine WR.step (Ex.assign rfl) (Wn.none rfl) rfl rfl ?_
  refine WR.nil ?_
  refine WQ.then ?_
  refine WC.condF rfl ?_
  refine WC.seq ?_
  refine WC.region ?_
  refine WR.stepT (Ex.eql rfl rfl) rfl (Wn.none rfl) rfl rfl ?_
  refine WR.step (Ex.assign rfl) (Wn.none rfl) rfl rfl ?_
  refine WR.nil ?_
  refine WQ.then ?_
  refine WC.condT rfl ?_
  refine WC.seq ?_
  refine WC.region ?_
  refine WR.step (Ex.assign rfl) (Wn.none rfl) rfl rfl ?_
  refine WR.nil ?_
  refine WQ.then ?_
  refine WC.block ?_
  refine WC.loop2 (fun (q : Nat) (o : List UInt8) => [(1, v), (5, S o), (10, encN q)]) (fun (q : Nat) (o : List UInt8) w => q ≤ l.length ∧ o.length ≤ 4 * q ∧ (decW l).flatMap utf8 = o ++ (decW (l.drop q)).flatMap utf8 ∧ ∃ M, St w0 M0 M [] w ∧ Bs M v l) (fun (q : Nat) (o : List UInt8) => l.length - q) (0) ([]) ⟨rfl, rfl, rfl, trivial⟩ (⟨by omega, by simp, rfl, M0, H, hp⟩) ?_
  intro q o w
  rintro ⟨hq, hol, hdec, M, H, hp⟩
  refine WC.seq ?_
  refine WC.seq ?_
  refine WC.region ?_
  refine WR.step (Ex.move rfl) (Wn.none rfl) rfl rfl ?_
  refine WR.step (Ex.move rfl) (Wn.none rfl) rfl rfl ?_
  first | refine WR.step (Ex.lenSl Tryd.underlying34 (by assumption) rfl) (Wn.none rfl) rfl rfl ?_ | refine WR.step (Ex.lenRow Tryd.underlying34 H (by repeat (first | exact List.Mem.head _ | apply List.Mem.tail)) rfl) (Wn.none rfl) rfl rfl ?_ | refine WR.step (Ex.lenSlice Tryd.underlying34 rfl) (Wn.none rfl) rfl rfl ?_
  refine WR.split (Ex.lss rfl rfl) (Wn.none rfl) rfl rfl (fun h20_3 => ?_) (fun h20_3 => ?_)
  ·
    obtain ⟨x, hx⟩ : ∃ c, l[q]? = some c := ⟨_, List.getElem?_eq_getElem (by omega)⟩
    have hltx := x.toNat_lt
    have hulm := utf8_len (-1)
    refine WR.nil ?_
    refine WQ.then ?_
    refine WC.condT rfl ?_
    refine WC.skip ?_
    refine WQ.then ?_
    refine WC.seq ?_
    refine WC.block ?_
    refine WC.seq ?_
    refine WC.seq ?_
    refine WC.region ?_
    refine WR.step (Ex.move rfl) (Wn.none rfl) rfl rfl ?_
    refine WR.step (Ex.add64 rfl rfl (by omega)) (Wn.none rfl) rfl rfl ?_
    refine WR.step (Ex.move rfl) (Wn.none rfl) rfl rfl ?_
    first | refine WR.step (Ex.lenSl Tryd.underlying34 (by assumption) rfl) (Wn.none rfl) rfl rfl ?_ | refine WR.step (Ex.lenRow Tryd.underlying34 H (by repeat (first | exact List.Mem.head _ | apply List.Mem.tail)) rfl) (Wn.none rfl) rfl rfl ?_ | refine WR.step (Ex.lenSlice Tryd.underlying34 rfl) (Wn.none rfl) rfl rfl ?_
    refine WR.split (Ex.eql rfl rfl) (Wn.none rfl) rfl rfl (fun h22_4 => ?_) (fun h22_4 => ?_)
    ·
      have hlast : l.drop q = [x] := by
        obtain ⟨e1, e2⟩ := List.getElem?_eq_some_iff.1 hx
        rw [List.drop_eq_getElem_cons e1, e2, List.drop_eq_nil_of_le (by omega)]
      have hr : (decW l).flatMap utf8 = o ++ utf8 (-1) := by rw [hdec, hlast]; simp [decW]; decide
      refine WR.nil ?_
      refine WQ.then ?_
      refine WC.condT rfl ?_
      refine WC.seq ?_
      refine WC.region ?_
      refine WR.step (Ex.move rfl) (Wn.none rfl) rfl rfl ?_
      refine WR.call H (utf8_spec _) rfl (trivial) (Wn.none rfl) rfl ?_
      intro v70 M w H hle hr70
      replace hp := hp.mono hle
      obtain rfl := hr70
      refine WR.step (Ex.strAdd rfl rfl (by first | omega | (simp only [List.length_cons, List.length_nil]; omega) | (simp only [List.length_append, List.length_cons, List.length_nil, List.length_drop, List.length_take]; omega))) (Wn.none rfl) rfl rfl ?_
      refine WR.step (Ex.assign rfl) (Wn.none rfl) rfl rfl ?_
      refine WR.nil ?_
      refine WQ.then ?_
      refine WC.ret ?_
      (repeat (first | refine WQ.thenRet ?_ | refine WQ.inBlockRet ?_))
      refine WQ.ret1 rfl rfl H.ext ?_
      exact by rw [← hr]; rfl
    ·
      obtain ⟨y, hy⟩ : ∃ c, l[q + 1]? = some c := ⟨_, List.getElem?_eq_getElem (by omega)⟩
      have hlty := y.toNat_lt
      have hd : l.drop q = x :: y :: l.drop (q + 2) := by
        obtain ⟨e1, e2⟩ := List.getElem?_eq_some_iff.1 hx
        obtain ⟨e3, e4⟩ := List.getElem?_eq_some_iff.1 hy
        rw [List.drop_eq_getElem_cons e1, e2, List.drop_eq_getElem_cons e3, e4]
      have hul := unit_lt x y
      have hulu := utf8_len (unit x y)
      refine WR.nil ?_
      refine WQ.then ?_
      refine WC.condF rfl ?_
      refine WC.skip ?_
      refine WQ.then ?_
      refine WC.seq ?_
      refine WC.draw (m := 14) rfl rfl H ?_
      intro w H
      refine WA.take (i := 0) rfl (by kernel_rfl) (by kernel_rfl) (by kernel_rfl) (fun _ => Ex.move rfl) (Wn.none rfl) rfl rfl (fun _ _ => rfl) ?_
      refine WA.take (i := 1) rfl (by kernel_rfl) (by kernel_rfl) (by kernel_rfl) (fun _ => Ex.move rfl) (Wn.none rfl) rfl rfl (fun _ _ => rfl) ?_
      refine WA.takeIdx (i := 2) rfl (by kernel_rfl) (by kernel_rfl) (by kernel_rfl) Tryd.underlying34 Tryd.sizeOf5 (by assumption) rfl rfl (hx) (Wn.none rfl) rfl ?_
      intro p74 hc74
      refine WA.take (i := 6) rfl (by kernel_rfl) (by kernel_rfl) (by kernel_rfl) (fun _ => Ex.move rfl) (Wn.none rfl) rfl rfl (fun _ _ => rfl) ?_
      refine WA.take (i := 7) rfl (by kernel_rfl) (by kernel_rfl) (by kernel_rfl) (fun _ => Ex.move rfl) (Wn.none rfl) rfl rfl (fun _ _ => rfl) ?_
      refine WA.takeE (v' := encN (q + 1)) (i := 8) rfl (by kernel_rfl) (by kernel_rfl) (by kernel_rfl) (fun _ => Ex.add64 rfl rfl (by omega)) rfl (Wn.none rfl) rfl rfl (fun _ _ => rfl) ?_
      refine WA.takeIdx (i := 9) rfl (by kernel_rfl) (by kernel_rfl) (by kernel_rfl) Tryd.underlying34 Tryd.sizeOf5 (by assumption) rfl rfl (hy) (Wn.none rfl) rfl ?_
      intro p81 hc81
      refine WA.two (i := 3) (j := 10) (by kernel_rfl) rfl rfl ?_ ?_
      ·
        first | refine WR.step (Ex.loadM H rfl (by assumption) Tryd.isAgg5) (Wn.none rfl) rfl rfl ?_ | refine WR.step (Ex.load1 H rfl (by repeat (first | exact List.Mem.head _ | apply List.Mem.tail)) Tryd.isAgg5 (by rfl)) (Wn.none rfl) rfl rfl ?_
        refine WR.nil (WQ.any ?_)
        refine WA.take (i := 4) rfl (by kernel_rfl) (by kernel_rfl) (by kernel_rfl) (fun _ => Ex.convB Tryd.underlying5 Tryd.underlying3 rfl) (Wn.none rfl) rfl rfl (fun _ _ => rfl) ?_
        refine WA.take (i := 5) rfl (by kernel_rfl) (by kernel_rfl) (by kernel_rfl) (fun _ => Ex.mul64 rfl rfl (by omega)) (Wn.none rfl) rfl rfl (fun _ _ => rfl) ?_
        refine WA.one (i := 10) (by kernel_rfl) rfl ?_
        first | refine WR.step (Ex.loadM H rfl (by assumption) Tryd.isAgg5) (Wn.none rfl) rfl rfl ?_ | refine WR.step (Ex.load1 H rfl (by repeat (first | exact List.Mem.head _ | apply List.Mem.tail)) Tryd.isAgg5 (by rfl)) (Wn.none rfl) rfl rfl ?_
        refine WR.nil (WQ.any ?_)
        refine WA.one (i := 11) (by kernel_rfl) rfl ?_
        first | refine WR.step (Ex.convB Tryd.underlying5 Tryd.underlying3 rfl) (Wn.none rfl) rfl rfl ?_ | refine WR.step (Ex.convI Tryd.underlying5 Tryd.underlying3 rfl (by omega)) (Wn.none rfl) rfl rfl ?_
        refine WR.nil (WQ.any ?_)
        refine WA.one (i := 12) (by kernel_rfl) rfl ?_
        refine WR.stepE (v' := I (unit x y)) (Ex.add64 rfl rfl (by omega)) (congrArg I (by unfold unit; rfl)) (Wn.none rfl) rfl rfl ?_
        refine WR.nil (WQ.any ?_)
        refine WA.one (i := 13) (by kernel_rfl) rfl ?_
        refine WR.step (Ex.assign rfl) (Wn.none rfl) rfl rfl ?_
        refine WR.nil (WQ.any ?_)
        refine WA.done (by kernel_rfl) ?_
        refine WQ.then ?_
        refine WC.seq ?_
        refine WC.seq ?_
        refine WC.region ?_
        refine WR.step (Ex.move rfl) (Wn.none rfl) rfl rfl ?_
        by_cases h25_1 : (55296 : Int) ≤ unit x y ∧ unit x y ≤ 56319
        ·
          refine WR.call H (Ct.mono (in_spec _ _ _) (R' := fun r _ => r = .bool true) (fun _ _ h => h.trans (congrArg Value.bool (decide_eq_true h25_1)))) rfl (trivial) (Wn.none rfl) rfl ?_
          intro v86 M w H hle hr86
          replace hp := hp.mono hle
          replace hc74 := hc74.mono hle
          replace hc81 := hc81.mono hle
          obtain rfl := hr86
          refine WR.step (Ex.move rfl) (Wn.none rfl) rfl rfl ?_
          refine WR.step (Ex.move rfl) (Wn.some rfl rfl rfl) rfl rfl ?_
          refine WR.step (Ex.add64 rfl rfl (by omega)) (Wn.some rfl rfl rfl) rfl rfl ?_
          refine WR.step (Ex.move rfl) (Wn.some rfl rfl rfl) rfl rfl ?_
          first | refine WR.step (Ex.lenSl Tryd.underlying34 (by assumption) rfl) (Wn.some rfl rfl rfl) rfl rfl ?_ | refine WR.step (Ex.lenRow Tryd.underlying34 H (by repeat (first | exact List.Mem.head _ | apply List.Mem.tail)) rfl) (Wn.some rfl rfl rfl) rfl rfl ?_ | refine WR.step (Ex.lenSlice Tryd.underlying34 rfl) (Wn.some rfl rfl rfl) rfl rfl ?_
          refine WR.split (Ex.lss rfl rfl) (Wn.some rfl rfl rfl) rfl rfl (fun h25_7 => ?_) (fun h25_7 => ?_)
          ·
            obtain ⟨x2, hx2⟩ : ∃ c, l[q + 2]? = some c := ⟨_, List.getElem?_eq_getElem (by omega)⟩
            have hltx2 := x2.toNat_lt
            obtain ⟨y2, hy2⟩ : ∃ c, l[q + 3]? = some c := ⟨_, List.getElem?_eq_getElem (by omega)⟩
            have hlty2 := y2.toNat_lt
            have hd2 : l.drop (q + 2) = x2 :: y2 :: l.drop (q + 2 + 2) := by
              obtain ⟨e1, e2⟩ := List.getElem?_eq_some_iff.1 hx2
              obtain ⟨e3, e4⟩ := List.getElem?_eq_some_iff.1 hy2
              rw [List.drop_eq_getElem_cons e1, e2, List.drop_eq_getElem_cons e3, e4]
            have hul2 := unit_lt x2 y2
            have hulp := utf8_len (65536 + 1024 * (unit x y - 55296) + unit x2 y2 - 56320)
            refine WR.step (Ex.pickT rfl rfl) (Wn.none rfl) rfl rfl ?_
            refine WR.nil ?_
            refine WQ.then ?_
            refine WC.condT rfl ?_
            refine WC.seq ?_
            refine WC.draw (m := 15) rfl rfl H ?_
            intro w H
            refine WA.take (i := 0) rfl (by kernel_rfl) (by kernel_rfl) (by kernel_rfl) (fun _ => Ex.move rfl) (Wn.none rfl) rfl rfl (fun _ _ => rfl) ?_
            refine WA.take (i := 1) rfl (by kernel_rfl) (by kernel_rfl) (by kernel_rfl) (fun _ => Ex.move rfl) (Wn.none rfl) rfl rfl (fun _ _ => rfl) ?_
            refine WA.takeE (v' := encN (q + 2)) (i := 2) rfl (by kernel_rfl) (by kernel_rfl) (by kernel_rfl) (fun _ => Ex.add64 rfl rfl (by omega)) rfl (Wn.none rfl) rfl rfl (fun _ _ => rfl) ?_
            refine WA.takeIdx (i := 3) rfl (by kernel_rfl) (by kernel_rfl) (by kernel_rfl) Tryd.underlying34 Tryd.sizeOf5 (by assumption) rfl rfl (hx2) (Wn.none rfl) rfl ?_
            intro p97 hc97
            refine WA.take (i := 7) rfl (by kernel_rfl) (by kernel_rfl) (by kernel_rfl) (fun _ => Ex.move rfl) (Wn.none rfl) rfl rfl (fun _ _ => rfl) ?_
            refine WA.take (i := 8) rfl (by kernel_rfl) (by kernel_rfl) (by kernel_rfl) (fun _ => Ex.move rfl) (Wn.none rfl) rfl rfl (fun _ _ => rfl) ?_
            refine WA.takeE (v' := encN (q + 3)) (i := 9) rfl (by kernel_rfl) (by kernel_rfl) (by kernel_rfl) (fun _ => Ex.add64 rfl rfl (by omega)) rfl (Wn.none rfl) rfl rfl (fun _ _ => rfl) ?_
            refine WA.takeIdx (i := 10) rfl (by kernel_rfl) (by kernel_rfl) (by kernel_rfl) Tryd.underlying34 Tryd.sizeOf5 (by assumption) rfl rfl (hy2) (Wn.none rfl) rfl ?_
            intro p104 hc104
            refine WA.two (i := 4) (j := 11) (by kernel_rfl) rfl rfl ?_ ?_
            ·
              first | refine WR.step (Ex.loadM H rfl (by assumption) Tryd.isAgg5) (Wn.none rfl) rfl rfl ?_ | refine WR.step (Ex.load1 H rfl (by repeat (first | exact List.Mem.head _ | apply List.Mem.tail)) Tryd.isAgg5 (by rfl)) (Wn.none rfl) rfl rfl ?_
              refine WR.nil (WQ.any ?_)
              refine WA.take (i := 5) rfl (by kernel_rfl) (by kernel_rfl) (by kernel_rfl) (fun _ => Ex.convB Tryd.underlying5 Tryd.underlying3 rfl) (Wn.none rfl) rfl rfl (fun _ _ => rfl) ?_
              refine WA.take (i := 6) rfl (by kernel_rfl) (by kernel_rfl) (by kernel_rfl) (fun _ => Ex.mul64 rfl rfl (by omega)) (Wn.none rfl) rfl rfl (fun _ _ => rfl) ?_
              refine WA.one (i := 11) (by kernel_rfl) rfl ?_
              first | refine WR.step (Ex.loadM H rfl (by assumption) Tryd.isAgg5) (Wn.none rfl) rfl rfl ?_ | refine WR.step (Ex.load1 H rfl (by repeat (first | exact List.Mem.head _ | apply List.Mem.tail)) Tryd.isAgg5 (by rfl)) (Wn.none rfl) rfl rfl ?_
              refine WR.nil (WQ.any ?_)
              refine WA.one (i := 12) (by kernel_rfl) rfl ?_
              first | refine WR.step (Ex.convB Tryd.underlying5 Tryd.underlying3 rfl) (Wn.none rfl) rfl rfl ?_ | refine WR.step (Ex.convI Tryd.underlying5 Tryd.underlying3 rfl (by omega)) (Wn.none rfl) rfl rfl ?_
              refine WR.nil (WQ.any ?_)
              refine WA.one (i := 13) (by kernel_rfl) rfl ?_
              refine WR.stepE (v' := I (unit x2 y2)) (Ex.add64 rfl rfl (by omega)) (congrArg I (by unfold unit; rfl)) (Wn.none rfl) rfl rfl ?_
              refine WR.nil (WQ.any ?_)
              refine WA.one (i := 14) (by kernel_rfl) rfl ?_
              refine WR.step (Ex.assign rfl) (Wn.none rfl) rfl rfl ?_
              refine WR.nil (WQ.any ?_)
              refine WA.done (by kernel_rfl) ?_
              refine WQ.then ?_
              refine WC.seq ?_
              refine WC.region ?_
              refine WR.step (Ex.move rfl) (Wn.none rfl) rfl rfl ?_
              by_cases h27_1 : (56320 : Int) ≤ unit x2 y2 ∧ unit x2 y2 ≤ 57343
              ·
                refine WR.call H (Ct.mono (in_spec _ _ _) (R' := fun r _ => r = .bool true) (fun _ _ h => h.trans (congrArg Value.bool (decide_eq_true h27_1)))) rfl (trivial) (Wn.none rfl) rfl ?_
                intro v109 M w H hle hr109
                replace hp := hp.mono hle
                replace hc74 := hc74.mono hle
                replace hc81 := hc81.mono hle
                replace hc97 := hc97.mono hle
                replace hc104 := hc104.mono hle
                obtain rfl := hr109
                refine WR.nil ?_
                refine WQ.then ?_
                refine WC.condT rfl ?_
                refine WC.seq ?_
                refine WC.region ?_
                refine WR.step (Ex.move rfl) (Wn.none rfl) rfl rfl ?_
                refine WR.step (Ex.move rfl) (Wn.none rfl) rfl rfl ?_
                refine WR.step (Ex.sub64 rfl rfl (by omega)) (Wn.none rfl) rfl rfl ?_
                refine WR.step (Ex.mul64 rfl rfl (by omega)) (Wn.none rfl) rfl rfl ?_
                refine WR.step (Ex.add64 rfl rfl (by omega)) (Wn.none rfl) rfl rfl ?_
                refine WR.step (Ex.move rfl) (Wn.none rfl) rfl rfl ?_
                refine WR.step (Ex.add64 rfl rfl (by omega)) (Wn.none rfl) rfl rfl ?_
                refine WR.step (Ex.sub64 rfl rfl (by omega)) (Wn.none rfl) rfl rfl ?_
                refine WR.call H (utf8_spec _) rfl (trivial) (Wn.none rfl) rfl ?_
                intro v118 M w H hle hr118
                replace hp := hp.mono hle
                replace hc74 := hc74.mono hle
                replace hc81 := hc81.mono hle
                replace hc97 := hc97.mono hle
                replace hc104 := hc104.mono hle
                obtain rfl := hr118
                refine WR.step (Ex.strAdd rfl rfl (by first | omega | (simp only [List.length_cons, List.length_nil]; omega) | (simp only [List.length_append, List.length_cons, List.length_nil, List.length_drop, List.length_take]; omega))) (Wn.none rfl) rfl rfl ?_
                refine WR.step (Ex.assign rfl) (Wn.none rfl) rfl rfl ?_
                refine WR.nil ?_
                refine WQ.then ?_
                refine WC.seq ?_
                refine WC.region ?_
                refine WR.step (Ex.move rfl) (Wn.none rfl) rfl rfl ?_
                refine WR.stepE (v' := encN (q + 2)) (Ex.add64 rfl rfl (by omega)) rfl (Wn.none rfl) rfl rfl ?_
                refine WR.step (Ex.assign rfl) (Wn.none rfl) rfl rfl ?_
                refine WR.nil ?_
                refine WQ.then ?_
                refine WC.exit ?_
                refine WQ.thenExit ?_
                refine WQ.exitHere ?_
                refine WQ.then ?_
                refine WC.region ?_
                refine WR.step (Ex.move rfl) (Wn.none rfl) rfl rfl ?_
                refine WR.stepE (v' := encN (q + 2 + 2)) (Ex.add64 rfl rfl (by omega)) rfl (Wn.none rfl) rfl rfl ?_
                refine WR.step (Ex.assign rfl) (Wn.none rfl) rfl rfl ?_
                refine WR.nil ?_
                refine WQ.again2 (q + 2 + 2) (o ++ utf8 (65536 + 1024 * (unit x y - 55296) + unit x2 y2 - 56320)) ⟨rfl, rfl, rfl, trivial⟩ ?_ ?_
                · refine ⟨by omega, by rw [List.length_append]; omega, ?_, M, H, hp⟩
                  rw [hdec, hd, hd2, decW_pair (by omega) (by omega)]; simp
                · omega
              ·
                have hone : decW (x :: y :: l.drop (q + 2)) = unsur (unit x y) :: decW (l.drop (q + 2)) := decW_one (by
                  rintro ⟨_, c', d', r', hr, h3, h4⟩
                  rw [hd2] at hr
                  cases hr
                  exact h27_1 (by omega))
                refine WR.call H (Ct.mono (in_spec _ _ _) (R' := fun r _ => r = .bool false) (fun _ _ h => h.trans (congrArg Value.bool (decide_eq_false h27_1)))) rfl (trivial) (Wn.none rfl) rfl ?_
                intro v109 M w H hle hr109
                replace hp := hp.mono hle
                replace hc74 := hc74.mono hle
                replace hc81 := hc81.mono hle
                replace hc97 := hc97.mono hle
                replace hc104 := hc104.mono hle
                obtain rfl := hr109
                refine WR.nil ?_
                refine WQ.then ?_
                refine WC.condF rfl ?_
                refine WC.skip ?_
                refine WQ.then ?_
                refine WC.region ?_
                refine WR.step (Ex.move rfl) (Wn.none rfl) rfl rfl ?_
                refine WR.step (Ex.move rfl) (Wn.none rfl) rfl rfl ?_
                refine WR.call H (utf8_spec _) rfl (trivial) (Wn.none rfl) rfl ?_
                intro v124 M w H hle hr124
                replace hp := hp.mono hle
                replace hc74 := hc74.mono hle
                replace hc81 := hc81.mono hle
                replace hc97 := hc97.mono hle
                replace hc104 := hc104.mono hle
                obtain rfl := hr124
                refine WR.step (Ex.strAdd rfl rfl (by first | omega | (simp only [List.length_cons, List.length_nil]; omega) | (simp only [List.length_append, List.length_cons, List.length_nil, List.length_drop, List.length_take]; omega))) (Wn.none rfl) rfl rfl ?_
                refine WR.step (Ex.assign rfl) (Wn.none rfl) rfl rfl ?_
                refine WR.nil ?_
                refine WQ.inBlock ?_
                refine WQ.then ?_
                refine WC.region ?_
                refine WR.step (Ex.move rfl) (Wn.none rfl) rfl rfl ?_
                refine WR.stepE (v' := encN (q + 2)) (Ex.add64 rfl rfl (by omega)) rfl (Wn.none rfl) rfl rfl ?_
                refine WR.step (Ex.assign rfl) (Wn.none rfl) rfl rfl ?_
                refine WR.nil ?_
                refine WQ.again2 (q + 2) (o ++ utf8 (unit x y)) ⟨rfl, rfl, rfl, trivial⟩ ?_ ?_
                · refine ⟨by omega, by rw [List.length_append]; omega, ?_, M, H, hp⟩
                  rw [hdec, hd, hone]; simp [utf8_unsur hul.1 hul.2]
                · omega
            ·
              first | refine WR.step (Ex.loadM H rfl (by assumption) Tryd.isAgg5) (Wn.none rfl) rfl rfl ?_ | refine WR.step (Ex.load1 H rfl (by repeat (first | exact List.Mem.head _ | apply List.Mem.tail)) Tryd.isAgg5 (by rfl)) (Wn.none rfl) rfl rfl ?_
              refine WR.nil (WQ.any ?_)
              refine WA.take (i := 12) rfl (by kernel_rfl) (by kernel_rfl) (by kernel_rfl) (fun _ => Ex.convB Tryd.underlying5 Tryd.underlying3 rfl) (Wn.none rfl) rfl rfl (fun _ _ => rfl) ?_
              refine WA.one (i := 4) (by kernel_rfl) rfl ?_
              first | refine WR.step (Ex.loadM H rfl (by assumption) Tryd.isAgg5) (Wn.none rfl) rfl rfl ?_ | refine WR.step (Ex.load1 H rfl (by repeat (first | exact List.Mem.head _ | apply List.Mem.tail)) Tryd.isAgg5 (by rfl)) (Wn.none rfl) rfl rfl ?_
              refine WR.nil (WQ.any ?_)
              refine WA.one (i := 5) (by kernel_rfl) rfl ?_
              first | refine WR.step (Ex.convB Tryd.underlying5 Tryd.underlying3 rfl) (Wn.none rfl) rfl rfl ?_ | refine WR.step (Ex.convI Tryd.underlying5 Tryd.underlying3 rfl (by omega)) (Wn.none rfl) rfl rfl ?_
              refine WR.nil (WQ.any ?_)
              refine WA.one (i := 6) (by kernel_rfl) rfl ?_
              refine WR.step (Ex.mul64 rfl rfl (by omega)) (Wn.none rfl) rfl rfl ?_
              refine WR.nil (WQ.any ?_)
              refine WA.one (i := 13) (by kernel_rfl) rfl ?_
              refine WR.stepE (v' := I (unit x2 y2)) (Ex.add64 rfl rfl (by omega)) (congrArg I (by unfold unit; rfl)) (Wn.none rfl) rfl rfl ?_
              refine WR.nil (WQ.any ?_)
              refine WA.one (i := 14) (by kernel_rfl) rfl ?_
              refine WR.step (Ex.assign rfl) (Wn.none rfl) rfl rfl ?_
              refine WR.nil (WQ.any ?_)
              refine WA.done (by kernel_rfl) ?_
              refine WQ.then ?_
              refine WC.seq ?_
              refine WC.region ?_
              refine WR.step (Ex.move rfl) (Wn.none rfl) rfl rfl ?_
              by_cases h27_1 : (56320 : Int) ≤ unit x2 y2 ∧ unit x2 y2 ≤ 57343
              ·
                refine WR.call H (Ct.mono (in_spec _ _ _) (R' := fun r _ => r = .bool true) (fun _ _ h => h.trans (congrArg Value.bool (decide_eq_true h27_1)))) rfl (trivial) (Wn.none rfl) rfl ?_
                intro v109 M w H hle hr109
                replace hp := hp.mono hle
                replace hc74 := hc74.mono hle
                replace hc81 := hc81.mono hle
                replace hc97 := hc97.mono hle
                replace hc104 := hc104.mono hle
                obtain rfl := hr109
                refine WR.nil ?_
                refine WQ.then ?_
                refine WC.condT rfl ?_
                refine WC.seq ?_
                refine WC.region ?_
                refine WR.step (Ex.move rfl) (Wn.none rfl) rfl rfl ?_
                refine WR.step (Ex.move rfl) (Wn.none rfl) rfl rfl ?_
                refine WR.step (Ex.sub64 rfl rfl (by omega)) (Wn.none rfl) rfl rfl ?_
                refine WR.step (Ex.mul64 rfl rfl (by omega)) (Wn.none rfl) rfl rfl ?_
                refine WR.step (Ex.add64 rfl rfl (by omega)) (Wn.none rfl) rfl rfl ?_
                refine WR.step (Ex.move rfl) (Wn.none rfl) rfl rfl ?_
                refine WR.step (Ex.add64 rfl rfl (by omega)) (Wn.none rfl) rfl rfl ?_
                refine WR.step (Ex.sub64 rfl rfl (by omega)) (Wn.none rfl) rfl rfl ?_
                refine WR.call H (utf8_spec _) rfl (trivial) (Wn.none rfl) rfl ?_
                intro v118 M w H hle hr118
                replace hp := hp.mono hle
                replace hc74 := hc74.mono hle
                replace hc81 := hc81.mono hle
                replace hc97 := hc97.mono hle
                replace hc104 := hc104.mono hle
                obtain rfl := hr118
                refine WR.step (Ex.strAdd rfl rfl (by first | omega | (simp only [List.length_cons, List.length_nil]; omega) | (simp only [List.length_append, List.length_cons, List.length_nil, List.length_drop, List.length_take]; omega))) (Wn.none rfl) rfl rfl ?_
                refine WR.step (Ex.assign rfl) (Wn.none rfl) rfl rfl ?_
                refine WR.nil ?_
                refine WQ.then ?_
                refine WC.seq ?_
                refine WC.region ?_
                refine WR.step (Ex.move rfl) (Wn.none rfl) rfl rfl ?_
                refine WR.stepE (v' := encN (q + 2)) (Ex.add64 rfl rfl (by omega)) rfl (Wn.none rfl) rfl rfl ?_
                refine WR.step (Ex.assign rfl) (Wn.none rfl) rfl rfl ?_
                refine WR.nil ?_
                refine WQ.then ?_
                refine WC.exit ?_
                refine WQ.thenExit ?_
                refine WQ.exitHere ?_
                refine WQ.then ?_
                refine WC.region ?_
                refine WR.step (Ex.move rfl) (Wn.none rfl) rfl rfl ?_
                refine WR.stepE (v' := encN (q + 2 + 2)) (Ex.add64 rfl rfl (by omega)) rfl (Wn.none rfl) rfl rfl ?_
                refine WR.step (Ex.assign rfl) (Wn.none rfl) rfl rfl ?_
                refine WR.nil ?_
                refine WQ.again2 (q + 2 + 2) (o ++ utf8 (65536 + 1024 * (unit x y - 55296) + unit x2 y2 - 56320)) ⟨rfl, rfl, rfl, trivial⟩ ?_ ?_
                · refine ⟨by omega, by rw [List.length_append]; omega, ?_, M, H, hp⟩
                  rw [hdec, hd, hd2, decW_pair (by omega) (by omega)]; simp
                · omega
              ·
                have hone : decW (x :: y :: l.drop (q + 2)) = unsur (unit x y) :: decW (l.drop (q + 2)) := decW_one (by
                  rintro ⟨_, c', d', r', hr, h3, h4⟩
                  rw [hd2] at hr
                  cases hr
                  exact h27_1 (by omega))
                refine WR.call H (Ct.mono (in_spec _ _ _) (R' := fun r _ => r = .bool false) (fun _ _ h => h.trans (congrArg Value.bool (decide_eq_false h27_1)))) rfl (trivial) (Wn.none rfl) rfl ?_
                intro v109 M w H hle hr109
                replace hp := hp.mono hle
                replace hc74 := hc74.mono hle
                replace hc81 := hc81.mono hle
                replace hc97 := hc97.mono hle
                replace hc104 := hc104.mono hle
                obtain rfl := hr109
                refine WR.nil ?_
                refine WQ.then ?_
                refine WC.condF rfl ?_
                refine WC.skip ?_
                refine WQ.then ?_
                refine WC.region ?_
                refine WR.step (Ex.move rfl) (Wn.none rfl) rfl rfl ?_
                refine WR.step (Ex.move rfl) (Wn.none rfl) rfl rfl ?_
                refine WR.call H (utf8_spec _) rfl (trivial) (Wn.none rfl) rfl ?_
                intro v124 M w H hle hr124
                replace hp := hp.mono hle
                replace hc74 := hc74.mono hle
                replace hc81 := hc81.mono hle
                replace hc97 := hc97.mono hle
                replace hc104 := hc104.mono hle
                obtain rfl := hr124
                refine WR.step (Ex.strAdd rfl rfl (by first | omega | (simp only [List.length_cons, List.length_nil]; omega) | (simp only [List.length_append, List.length_cons, List.length_nil, List.length_drop, List.length_take]; omega))) (Wn.none rfl) rfl rfl ?_
                refine WR.step (Ex.assign rfl) (Wn.none rfl) rfl rfl ?_
                refine WR.nil ?_
                refine WQ.inBlock ?_
                refine WQ.then ?_
                refine WC.region ?_
                refine WR.step (Ex.move rfl) (Wn.none rfl) rfl rfl ?_
                refine WR.stepE (v' := encN (q + 2)) (Ex.add64 rfl rfl (by omega)) rfl (Wn.none rfl) rfl rfl ?_
                refine WR.step (Ex.assign rfl) (Wn.none rfl) rfl rfl ?_
                refine WR.nil ?_
                refine WQ.again2 (q + 2) (o ++ utf8 (unit x y)) ⟨rfl, rfl, rfl, trivial⟩ ?_ ?_
                · refine ⟨by omega, by rw [List.length_append]; omega, ?_, M, H, hp⟩
                  rw [hdec, hd, hone]; simp [utf8_unsur hul.1 hul.2]
                · omega
          ·
            have hone : decW (x :: y :: l.drop (q + 2)) = unsur (unit x y) :: decW (l.drop (q + 2)) := decW_one (by
              rintro ⟨_, c', d', r', hr, _⟩
              have := congrArg List.length hr
              rw [List.length_drop] at this
              simp at this
              omega)
            refine WR.step (Ex.pickT rfl rfl) (Wn.none rfl) rfl rfl ?_
            refine WR.nil ?_
            refine WQ.then ?_
            refine WC.condF rfl ?_
            refine WC.skip ?_
            refine WQ.then ?_
            refine WC.region ?_
            refine WR.step (Ex.move rfl) (Wn.none rfl) rfl rfl ?_
            refine WR.step (Ex.move rfl) (Wn.none rfl) rfl rfl ?_
            refine WR.call H (utf8_spec _) rfl (trivial) (Wn.none rfl) rfl ?_
            intro v124 M w H hle hr124
            replace hp := hp.mono hle
            replace hc74 := hc74.mono hle
            replace hc81 := hc81.mono hle
            obtain rfl := hr124
            refine WR.step (Ex.strAdd rfl rfl (by first | omega | (simp only [List.length_cons, List.length_nil]; omega) | (simp only [List.length_append, List.length_cons, List.length_nil, List.length_drop, List.length_take]; omega))) (Wn.none rfl) rfl rfl ?_
            refine WR.step (Ex.assign rfl) (Wn.none rfl) rfl rfl ?_
            refine WR.nil ?_
            refine WQ.inBlock ?_
            refine WQ.then ?_
            refine WC.region ?_
            refine WR.step (Ex.move rfl) (Wn.none rfl) rfl rfl ?_
            refine WR.stepE (v' := encN (q + 2)) (Ex.add64 rfl rfl (by omega)) rfl (Wn.none rfl) rfl rfl ?_
            refine WR.step (Ex.assign rfl) (Wn.none rfl) rfl rfl ?_
            refine WR.nil ?_
            refine WQ.again2 (q + 2) (o ++ utf8 (unit x y)) ⟨rfl, rfl, rfl, trivial⟩ ?_ ?_
            · refine ⟨by omega, by rw [List.length_append]; omega, ?_, M, H, hp⟩
              rw [hdec, hd, hone]; simp [utf8_unsur hul.1 hul.2]
            · omega
        ·
          have hone : decW (x :: y :: l.drop (q + 2)) = unsur (unit x y) :: decW (l.drop (q + 2)) := decW_one (fun h => h25_1 (by omega))
          refine WR.call H (Ct.mono (in_spec _ _ _) (R' := fun r _ => r = .bool false) (fun _ _ h => h.trans (congrArg Value.bool (decide_eq_false h25_1)))) rfl (trivial) (Wn.none rfl) rfl ?_
          intro v86 M w H hle hr86
          replace hp := hp.mono hle
          replace hc74 := hc74.mono hle
          replace hc81 := hc81.mono hle
          obtain rfl := hr86
          refine WR.step (Ex.move rfl) (Wn.none rfl) rfl rfl ?_
          refine WR.skipG (b := false) rfl rfl rfl rfl rfl ?_
          refine WR.skipG (b := false) rfl rfl rfl rfl rfl ?_
          refine WR.skipG (b := false) rfl rfl rfl rfl rfl ?_
          refine WR.skipG (b := false) rfl rfl rfl rfl rfl ?_
          refine WR.skipG (b := false) rfl rfl rfl rfl rfl ?_
          refine WR.step (Ex.pickF rfl rfl) (Wn.none rfl) rfl rfl ?_
          refine WR.nil ?_
          refine WQ.then ?_
          refine WC.condF rfl ?_
          refine WC.skip ?_
          refine WQ.then ?_
          refine WC.region ?_
          refine WR.step (Ex.move rfl) (Wn.none rfl) rfl rfl ?_
          refine WR.step (Ex.move rfl) (Wn.none rfl) rfl rfl ?_
          refine WR.call H (utf8_spec _) rfl (trivial) (Wn.none rfl) rfl ?_
          intro v124 M w H hle hr124
          replace hp := hp.mono hle
          replace hc74 := hc74.mono hle
          replace hc81 := hc81.mono hle
          obtain rfl := hr124
          refine WR.step (Ex.strAdd rfl rfl (by first | omega | (simp only [List.length_cons, List.length_nil]; omega) | (simp only [List.length_append, List.length_cons, List.length_nil, List.length_drop, List.length_take]; omega))) (Wn.none rfl) rfl rfl ?_
          refine WR.step (Ex.assign rfl) (Wn.none rfl) rfl rfl ?_
          refine WR.nil ?_
          refine WQ.inBlock ?_
          refine WQ.then ?_
          refine WC.region ?_
          refine WR.step (Ex.move rfl) (Wn.none rfl) rfl rfl ?_
          refine WR.stepE (v' := encN (q + 2)) (Ex.add64 rfl rfl (by omega)) rfl (Wn.none rfl) rfl rfl ?_
          refine WR.step (Ex.assign rfl) (Wn.none rfl) rfl rfl ?_
          refine WR.nil ?_
          refine WQ.again2 (q + 2) (o ++ utf8 (unit x y)) ⟨rfl, rfl, rfl, trivial⟩ ?_ ?_
          · refine ⟨by omega, by rw [List.length_append]; omega, ?_, M, H, hp⟩
            rw [hdec, hd, hone]; simp [utf8_unsur hul.1 hul.2]
          · omega
      ·
        first | refine WR.step (Ex.loadM H rfl (by assumption) Tryd.isAgg5) (Wn.none rfl) rfl rfl ?_ | refine WR.step (Ex.load1 H rfl (by repeat (first | exact List.Mem.head _ | apply List.Mem.tail)) Tryd.isAgg5 (by rfl)) (Wn.none rfl) rfl rfl ?_
        refine WR.nil (WQ.any ?_)
        refine WA.take (i := 11) rfl (by kernel_rfl) (by kernel_rfl) (by kernel_rfl) (fun _ => Ex.convB Tryd.underlying5 Tryd.underlying3 rfl) (Wn.none rfl) rfl rfl (fun _ _ => rfl) ?_
        refine WA.one (i := 3) (by kernel_rfl) rfl ?_
        first | refine WR.step (Ex.loadM H rfl (by assumption) Tryd.isAgg5) (Wn.none rfl) rfl rfl ?_ | refine WR.step (Ex.load1 H rfl (by repeat (first | exact List.Mem.head _ | apply List.Mem.tail)) Tryd.isAgg5 (by rfl)) (Wn.none rfl) rfl rfl ?_
        refine WR.nil (WQ.any ?_)
        refine WA.one (i := 4) (by kernel_rfl) rfl ?_
        first | refine WR.step (Ex.convB Tryd.underlying5 Tryd.underlying3 rfl) (Wn.none rfl) rfl rfl ?_ | refine WR.step (Ex.convI Tryd.underlying5 Tryd.underlying3 rfl (by omega)) (Wn.none rfl) rfl rfl ?_
        refine WR.nil (WQ.any ?_)
        refine WA.one (i := 5) (by kernel_rfl) rfl ?_
        refine WR.step (Ex.mul64 rfl rfl (by omega)) (Wn.none rfl) rfl rfl ?_
        refine WR.nil (WQ.any ?_)
        refine WA.one (i := 12) (by kernel_rfl) rfl ?_
        refine WR.stepE (v' := I (unit x y)) (Ex.add64 rfl rfl (by omega)) (congrArg I (by unfold unit; rfl)) (Wn.none rfl) rfl rfl ?_
        refine WR.nil (WQ.any ?_)
        refine WA.one (i := 13) (by kernel_rfl) rfl ?_
        refine WR.step (Ex.assign rfl) (Wn.none rfl) rfl rfl ?_
        refine WR.nil (WQ.any ?_)
        refine WA.done (by kernel_rfl) ?_
        refine WQ.then ?_
        refine WC.seq ?_
        refine WC.seq ?_
        refine WC.region ?_
        refine WR.step (Ex.move rfl) (Wn.none rfl) rfl rfl ?_
        by_cases h25_1 : (55296 : Int) ≤ unit x y ∧ unit x y ≤ 56319
        ·
          refine WR.call H (Ct.mono (in_spec _ _ _) (R' := fun r _ => r = .bool true) (fun _ _ h => h.trans (congrArg Value.bool (decide_eq_true h25_1)))) rfl (trivial) (Wn.none rfl) rfl ?_
          intro v86 M w H hle hr86
          replace hp := hp.mono hle
          replace hc74 := hc74.mono hle
          replace hc81 := hc81.mono hle
          obtain rfl := hr86
          refine WR.step (Ex.move rfl) (Wn.none rfl) rfl rfl ?_
          refine WR.step (Ex.move rfl) (Wn.some rfl rfl rfl) rfl rfl ?_
          refine WR.step (Ex.add64 rfl rfl (by omega)) (Wn.some rfl rfl rfl) rfl rfl ?_
          refine WR.step (Ex.move rfl) (Wn.some rfl rfl rfl) rfl rfl ?_
          first | refine WR.step (Ex.lenSl Tryd.underlying34 (by assumption) rfl) (Wn.some rfl rfl rfl) rfl rfl ?_ | refine WR.step (Ex.lenRow Tryd.underlying34 H (by repeat (first | exact List.Mem.head _ | apply List.Mem.tail)) rfl) (Wn.some rfl rfl rfl) rfl rfl ?_ | refine WR.step (Ex.lenSlice Tryd.underlying34 rfl) (Wn.some rfl rfl rfl) rfl rfl ?_
          refine WR.split (Ex.lss rfl rfl) (Wn.some rfl rfl rfl) rfl rfl (fun h25_7 => ?_) (fun h25_7 => ?_)
          ·
            obtain ⟨x2, hx2⟩ : ∃ c, l[q + 2]? = some c := ⟨_, List.getElem?_eq_getElem (by omega)⟩
            have hltx2 := x2.toNat_lt
            obtain ⟨y2, hy2⟩ : ∃ c, l[q + 3]? = some c := ⟨_, List.getElem?_eq_getElem (by omega)⟩
            have hlty2 := y2.toNat_lt
            have hd2 : l.drop (q + 2) = x2 :: y2 :: l.drop (q + 2 + 2) := by
              obtain ⟨e1, e2⟩ := List.getElem?_eq_some_iff.1 hx2
              obtain ⟨e3, e4⟩ := List.getElem?_eq_some_iff.1 hy2
              rw [List.drop_eq_getElem_cons e1, e2, List.drop_eq_getElem_cons e3, e4]
            have hul2 := unit_lt x2 y2
            have hulp := utf8_len (65536 + 1024 * (unit x y - 55296) + unit x2 y2 - 56320)
            refine WR.step (Ex.pickT rfl rfl) (Wn.none rfl) rfl rfl ?_
            refine WR.nil ?_
            refine WQ.then ?_
            refine WC.condT rfl ?_
            refine WC.seq ?_
            refine WC.draw (m := 15) rfl rfl H ?_
            intro w H
            refine WA.take (i := 0) rfl (by kernel_rfl) (by kernel_rfl) (by kernel_rfl) (fun _ => Ex.move rfl) (Wn.none rfl) rfl rfl (fun _ _ => rfl) ?_
            refine WA.take (i := 1) rfl (by kernel_rfl) (by kernel_rfl) (by kernel_rfl) (fun _ => Ex.move rfl) (Wn.none rfl) rfl rfl (fun _ _ => rfl) ?_
            refine WA.takeE (v' := encN (q + 2)) (i := 2) rfl (by kernel_rfl) (by kernel_rfl) (by kernel_rfl) (fun _ => Ex.add64 rfl rfl (by omega)) rfl (Wn.none rfl) rfl rfl (fun _ _ => rfl) ?_
            refine WA.takeIdx (i := 3) rfl (by kernel_rfl) (by kernel_rfl) (by kernel_rfl) Tryd.underlying34 Tryd.sizeOf5 (by assumption) rfl rfl (hx2) (Wn.none rfl) rfl ?_
            intro p97 hc97
            refine WA.take (i := 7) rfl (by kernel_rfl) (by kernel_rfl) (by kernel_rfl) (fun _ => Ex.move rfl) (Wn.none rfl) rfl rfl (fun _ _ => rfl) ?_
            refine WA.take (i := 8) rfl (by kernel_rfl) (by kernel_rfl) (by kernel_rfl) (fun _ => Ex.move rfl) (Wn.none rfl) rfl rfl (fun _ _ => rfl) ?_
            refine WA.takeE (v' := encN (q + 3)) (i := 9) rfl (by kernel_rfl) (by kernel_rfl) (by kernel_rfl) (fun _ => Ex.add64 rfl rfl (by omega)) rfl (Wn.none rfl) rfl rfl (fun _ _ => rfl) ?_
            refine WA.takeIdx (i := 10) rfl (by kernel_rfl) (by kernel_rfl) (by kernel_rfl) Tryd.underlying34 Tryd.sizeOf5 (by assumption) rfl rfl (hy2) (Wn.none rfl) rfl ?_
            intro p104 hc104
            refine WA.two (i := 4) (j := 11) (by kernel_rfl) rfl rfl ?_ ?_
            ·
              first | refine WR.step (Ex.loadM H rfl (by assumption) Tryd.isAgg5) (Wn.none rfl) rfl rfl ?_ | refine WR.step (Ex.load1 H rfl (by repeat (first | exact List.Mem.head _ | apply List.Mem.tail)) Tryd.isAgg5 (by rfl)) (Wn.none rfl) rfl rfl ?_
              refine WR.nil (WQ.any ?_)
              refine WA.take (i := 5) rfl (by kernel_rfl) (by kernel_rfl) (by kernel_rfl) (fun _ => Ex.convB Tryd.underlying5 Tryd.underlying3 rfl) (Wn.none rfl) rfl rfl (fun _ _ => rfl) ?_
              refine WA.take (i := 6) rfl (by kernel_rfl) (by kernel_rfl) (by kernel_rfl) (fun _ => Ex.mul64 rfl rfl (by omega)) (Wn.none rfl) rfl rfl (fun _ _ => rfl) ?_
              refine WA.one (i := 11) (by kernel_rfl) rfl ?_
              first | refine WR.step (Ex.loadM H rfl (by assumption) Tryd.isAgg5) (Wn.none rfl) rfl rfl ?_ | refine WR.step (Ex.load1 H rfl (by repeat (first | exact List.Mem.head _ | apply List.Mem.tail)) Tryd.isAgg5 (by rfl)) (Wn.none rfl) rfl rfl ?_
              refine WR.nil (WQ.any ?_)
              refine WA.one (i := 12) (by kernel_rfl) rfl ?_
              first | refine WR.step (Ex.convB Tryd.underlying5 Tryd.underlying3 rfl) (Wn.none rfl) rfl rfl ?_ | refine WR.step (Ex.convI Tryd.underlying5 Tryd.underlying3 rfl (by omega)) (Wn.none rfl) rfl rfl ?_
              refine WR.nil (WQ.any ?_)
              refine WA.one (i := 13) (by kernel_rfl) rfl ?_
              refine WR.stepE (v' := I (unit x2 y2)) (Ex.add64 rfl rfl (by omega)) (congrArg I (by unfold unit; rfl)) (Wn.none rfl) rfl rfl ?_
              refine WR.nil (WQ.any ?_)
              refine WA.one (i := 14) (by kernel_rfl) rfl ?_
              refine WR.step (Ex.assign rfl) (Wn.none rfl) rfl rfl ?_
              refine WR.nil (WQ.any ?_)
              refine WA.done (by kernel_rfl) ?_
              refine WQ.then ?_
              refine WC.seq ?_
              refine WC.region ?_
              refine WR.step (Ex.move rfl) (Wn.none rfl) rfl rfl ?_
              by_cases h27_1 : (56320 : Int) ≤ unit x2 y2 ∧ unit x2 y2 ≤ 57343
              ·
                refine WR.call H (Ct.mono (in_spec _ _ _) (R' := fun r _ => r = .bool true) (fun _ _ h => h.trans (congrArg Value.bool (decide_eq_true h27_1)))) rfl (trivial) (Wn.none rfl) rfl ?_
                intro v109 M w H hle hr109
                replace hp := hp.mono hle
                replace hc74 := hc74.mono hle
                replace hc81 := hc81.mono hle
                replace hc97 := hc97.mono hle
                replace hc104 := hc104.mono hle
                obtain rfl := hr109
                refine WR.nil ?_
                refine WQ.then ?_
                refine WC.condT rfl ?_
                refine WC.seq ?_
                refine WC.region ?_
                refine WR.step (Ex.move rfl) (Wn.none rfl) rfl rfl ?_
                refine WR.step (Ex.move rfl) (Wn.none rfl) rfl rfl ?_
                refine WR.step (Ex.sub64 rfl rfl (by omega)) (Wn.none rfl) rfl rfl ?_
                refine WR.step (Ex.mul64 rfl rfl (by omega)) (Wn.none rfl) rfl rfl ?_
                refine WR.step (Ex.add64 rfl rfl (by omega)) (Wn.none rfl) rfl rfl ?_
                refine WR.step (Ex.move rfl) (Wn.none rfl) rfl rfl ?_
                refine WR.step (Ex.add64 rfl rfl (by omega)) (Wn.none rfl) rfl rfl ?_
                refine WR.step (Ex.sub64 rfl rfl (by omega)) (Wn.none rfl) rfl rfl ?_
                refine WR.call H (utf8_spec _) rfl (trivial) (Wn.none rfl) rfl ?_
                intro v118 M w H hle hr118
                replace hp := hp.mono hle
                replace hc74 := hc74.mono hle
                replace hc81 := hc81.mono hle
                replace hc97 := hc97.mono hle
                replace hc104 := hc104.mono hle
                obtain rfl := hr118
                refine WR.step (Ex.strAdd rfl rfl (by first | omega | (simp only [List.length_cons, List.length_nil]; omega) | (simp only [List.length_append, List.length_cons, List.length_nil, List.length_drop, List.length_take]; omega))) (Wn.none rfl) rfl rfl ?_
                refine WR.step (Ex.assign rfl) (Wn.none rfl) rfl rfl ?_
                refine WR.nil ?_
                refine WQ.then ?_
                refine WC.seq ?_
                refine WC.region ?_
                refine WR.step (Ex.move rfl) (Wn.none rfl) rfl rfl ?_
                refine WR.stepE (v' := encN (q + 2)) (Ex.add64 rfl rfl (by omega)) rfl (Wn.none rfl) rfl rfl ?_
                refine WR.step (Ex.assign rfl) (Wn.none rfl) rfl rfl ?_
                refine WR.nil ?_
                refine WQ.then ?_
                refine WC.exit ?_
                refine WQ.thenExit ?_
                refine WQ.exitHere ?_
                refine WQ.then ?_
                refine WC.region ?_
                refine WR.step (Ex.move rfl) (Wn.none rfl) rfl rfl ?_
                refine WR.stepE (v' := encN (q + 2 + 2)) (Ex.add64 rfl rfl (by omega)) rfl (Wn.none rfl) rfl rfl ?_
                refine WR.step (Ex.assign rfl) (Wn.none rfl) rfl rfl ?_
                refine WR.nil ?_
                refine WQ.again2 (q + 2 + 2) (o ++ utf8 (65536 + 1024 * (unit x y - 55296) + unit x2 y2 - 56320)) ⟨rfl, rfl, rfl, trivial⟩ ?_ ?_
                · refine ⟨by omega, by rw [List.length_append]; omega, ?_, M, H, hp⟩
                  rw [hdec, hd, hd2, decW_pair (by omega) (by omega)]; simp
                · omega
              ·
                have hone : decW (x :: y :: l.drop (q + 2)) = unsur (unit x y) :: decW (l.drop (q + 2)) := decW_one (by
                  rintro ⟨_, c', d', r', hr, h3, h4⟩
                  rw [hd2] at hr
                  cases hr
                  exact h27_1 (by omega))
                refine WR.call H (Ct.mono (in_spec _ _ _) (R' := fun r _ => r = .bool false) (fun _ _ h => h.trans (congrArg Value.bool (decide_eq_false h27_1)))) rfl (trivial) (Wn.none rfl) rfl ?_
                intro v109 M w H hle hr109
                replace hp := hp.mono hle
                replace hc74 := hc74.mono hle
                replace hc81 := hc81.mono hle
                replace hc97 := hc97.mono hle
                replace hc104 := hc104.mono hle
                obtain rfl := hr109
                refine WR.nil ?_
                refine WQ.then ?_
                refine WC.condF rfl ?_
                refine WC.skip ?_
                refine WQ.then ?_
                refine WC.region ?_
                refine WR.step (Ex.move rfl) (Wn.none rfl) rfl rfl ?_
                refine WR.step (Ex.move rfl) (Wn.none rfl) rfl rfl ?_
                refine WR.call H (utf8_spec _) rfl (trivial) (Wn.none rfl) rfl ?_
                intro v124 M w H hle hr124
                replace hp := hp.mono hle
                replace hc74 := hc74.mono hle
                replace hc81 := hc81.mono hle
                replace hc97 := hc97.mono hle
                replace hc104 := hc104.mono hle
                obtain rfl := hr124
                refine WR.step (Ex.strAdd rfl rfl (by first | omega | (simp only [List.length_cons, List.length_nil]; omega) | (simp only [List.length_append, List.length_cons, List.length_nil, List.length_drop, List.length_take]; omega))) (Wn.none rfl) rfl rfl ?_
                refine WR.step (Ex.assign rfl) (Wn.none rfl) rfl rfl ?_
                refine WR.nil ?_
                refine WQ.inBlock ?_
                refine WQ.then ?_
                refine WC.region ?_
                refine WR.step (Ex.move rfl) (Wn.none rfl) rfl rfl ?_
                refine WR.stepE (v' := encN (q + 2)) (Ex.add64 rfl rfl (by omega)) rfl (Wn.none rfl) rfl rfl ?_
                refine WR.step (Ex.assign rfl) (Wn.none rfl) rfl rfl ?_
                refine WR.nil ?_
                refine WQ.again2 (q + 2) (o ++ utf8 (unit x y)) ⟨rfl, rfl, rfl, trivial⟩ ?_ ?_
                · refine ⟨by omega, by rw [List.length_append]; omega, ?_, M, H, hp⟩
                  rw [hdec, hd, hone]; simp [utf8_unsur hul.1 hul.2]
                · omega
            ·
              first | refine WR.step (Ex.loadM H rfl (by assumption) Tryd.isAgg5) (Wn.none rfl) rfl rfl ?_ | refine WR.step (Ex.load1 H rfl (by repeat (first | exact List.Mem.head _ | apply List.Mem.tail)) Tryd.isAgg5 (by rfl)) (Wn.none rfl) rfl rfl ?_
              refine WR.nil (WQ.any ?_)
              refine WA.take (i := 12) rfl (by kernel_rfl) (by kernel_rfl) (by kernel_rfl) (fun _ => Ex.convB Tryd.underlying5 Tryd.underlying3 rfl) (Wn.none rfl) rfl rfl (fun _ _ => rfl) ?_
              refine WA.one (i := 4) (by kernel_rfl) rfl ?_
              first | refine WR.step (Ex.loadM H rfl (by assumption) Tryd.isAgg5) (Wn.none rfl) rfl rfl ?_ | refine WR.step (Ex.load1 H rfl (by repeat (first | exact List.Mem.head _ | apply List.Mem.tail)) Tryd.isAgg5 (by rfl)) (Wn.none rfl) rfl rfl ?_
              refine WR.nil (WQ.any ?_)
              refine WA.one (i := 5) (by kernel_rfl) rfl ?_
              first | refine WR.step (Ex.convB Tryd.underlying5 Tryd.underlying3 rfl) (Wn.none rfl) rfl rfl ?_ | refine WR.step (Ex.convI Tryd.underlying5 Tryd.underlying3 rfl (by omega)) (Wn.none rfl) rfl rfl ?_
              refine WR.nil (WQ.any ?_)
              refine WA.one (i := 6) (by kernel_rfl) rfl ?_
              refine WR.step (Ex.mul64 rfl rfl (by omega)) (Wn.none rfl) rfl rfl ?_
              refine WR.nil (WQ.any ?_)
              refine WA.one (i := 13) (by kernel_rfl) rfl ?_
              refine WR.stepE (v' := I (unit x2 y2)) (Ex.add64 rfl rfl (by omega)) (congrArg I (by unfold unit; rfl)) (Wn.none rfl) rfl rfl ?_
              refine WR.nil (WQ.any ?_)
              refine WA.one (i := 14) (by kernel_rfl) rfl ?_
              refine WR.step (Ex.assign rfl) (Wn.none rfl) rfl rfl ?_
              refine WR.nil (WQ.any ?_)
              refine WA.done (by kernel_rfl) ?_
              refine WQ.then ?_
              refine WC.seq ?_
              refine WC.region ?_
              refine WR.step (Ex.move rfl) (Wn.none rfl) rfl rfl ?_
              by_cases h27_1 : (56320 : Int) ≤ unit x2 y2 ∧ unit x2 y2 ≤ 57343
              ·
                refine WR.call H (Ct.mono (in_spec _ _ _) (R' := fun r _ => r = .bool true) (fun _ _ h => h.trans (congrArg Value.bool (decide_eq_true h27_1)))) rfl (trivial) (Wn.none rfl) rfl ?_
                intro v109 M w H hle hr109
                replace hp := hp.mono hle
                replace hc74 := hc74.mono hle
                replace hc81 := hc81.mono hle
                replace hc97 := hc97.mono hle
                replace hc104 := hc104.mono hle
                obtain rfl := hr109
                refine WR.nil ?_
                refine WQ.then ?_
                refine WC.condT rfl ?_
                refine WC.seq ?_
                refine WC.region ?_
                refine WR.step (Ex.move rfl) (Wn.none rfl) rfl rfl ?_
                refine WR.step (Ex.move rfl) (Wn.none rfl) rfl rfl ?_
                refine WR.step (Ex.sub64 rfl rfl (by omega)) (Wn.none rfl) rfl rfl ?_
                refine WR.step (Ex.mul64 rfl rfl (by omega)) (Wn.none rfl) rfl rfl ?_
                refine WR.step (Ex.add64 rfl rfl (by omega)) (Wn.none rfl) rfl rfl ?_
                refine WR.step (Ex.move rfl) (Wn.none rfl) rfl rfl ?_
                refine WR.step (Ex.add64 rfl rfl (by omega)) (Wn.none rfl) rfl rfl ?_
                refine WR.step (Ex.sub64 rfl rfl (by omega)) (Wn.none rfl) rfl rfl ?_
                refine WR.call H (utf8_spec _) rfl (trivial) (Wn.none rfl) rfl ?_
                intro v118 M w H hle hr118
                replace hp := hp.mono hle
                replace hc74 := hc74.mono hle
                replace hc81 := hc81.mono hle
                replace hc97 := hc97.mono hle
                replace hc104 := hc104.mono hle
                obtain rfl := hr118
                refine WR.step (Ex.strAdd rfl rfl (by first | omega | (simp only [List.length_cons, List.length_nil]; omega) | (simp only [List.length_append, List.length_cons, List.length_nil, List.length_drop, List.length_take]; omega))) (Wn.none rfl) rfl rfl ?_
                refine WR.step (Ex.assign rfl) (Wn.none rfl) rfl rfl ?_
                refine WR.nil ?_
                refine WQ.then ?_
                refine WC.seq ?_
                refine WC.region ?_
                refine WR.step (Ex.move rfl) (Wn.none rfl) rfl rfl ?_
                refine WR.stepE (v' := encN (q + 2)) (Ex.add64 rfl rfl (by omega)) rfl (Wn.none rfl) rfl rfl ?_
                refine WR.step (Ex.assign rfl) (Wn.none rfl) rfl rfl ?_
                refine WR.nil ?_
                refine WQ.then ?_
                refine WC.exit ?_
                refine WQ.thenExit ?_
                refine WQ.exitHere ?_
                refine WQ.then ?_
                refine WC.region ?_
                refine WR.step (Ex.move rfl) (Wn.none rfl) rfl rfl ?_
                refine WR.stepE (v' := encN (q + 2 + 2)) (Ex.add64 rfl rfl (by omega)) rfl (Wn.none rfl) rfl rfl ?_
                refine WR.step (Ex.assign rfl) (Wn.none rfl) rfl rfl ?_
                refine WR.nil ?_
                refine WQ.again2 (q + 2 + 2) (o ++ utf8 (65536 + 1024 * (unit x y - 55296) + unit x2 y2 - 56320)) ⟨rfl, rfl, rfl, trivial⟩ ?_ ?_
                · refine ⟨by omega, by rw [List.length_append]; omega, ?_, M, H, hp⟩
                  rw [hdec, hd, hd2, decW_pair (by omega) (by omega)]; simp
                · omega
              ·
                have hone : decW (x :: y :: l.drop (q + 2)) = unsur (unit x y) :: decW (l.drop (q + 2)) := decW_one (by
                  rintro ⟨_, c', d', r', hr, h3, h4⟩
                  rw [hd2] at hr
                  cases hr
                  exact h27_1 (by omega))
                refine WR.call H (Ct.mono (in_spec _ _ _) (R' := fun r _ => r = .bool false) (fun _ _ h => h.trans (congrArg Value.bool (decide_eq_false h27_1)))) rfl (trivial) (Wn.none rfl) rfl ?_
                intro v109 M w H hle hr109
                replace hp := hp.mono hle
                replace hc74 := hc74.mono hle
                replace hc81 := hc81.mono hle
                replace hc97 := hc97.mono hle
                replace hc104 := hc104.mono hle
                obtain rfl := hr109
                refine WR.nil ?_
                refine WQ.then ?_
                refine WC.condF rfl ?_
                refine WC.skip ?_
                refine WQ.then ?_
                refine WC.region ?_
                refine WR.step (Ex.move rfl) (Wn.none rfl) rfl rfl ?_
                refine WR.step (Ex.move rfl) (Wn.none rfl) rfl rfl ?_
                refine WR.call H (utf8_spec _) rfl (trivial) (Wn.none rfl) rfl ?_
                intro v124 M w H hle hr124
                replace hp := hp.mono hle
                replace hc74 := hc74.mono hle
                replace hc81 := hc81.mono hle
                replace hc97 := hc97.mono hle
                replace hc104 := hc104.mono hle
                obtain rfl := hr124
                refine WR.step (Ex.strAdd rfl rfl (by first | omega | (simp only [List.length_cons, List.length_nil]; omega) | (simp only [List.length_append, List.length_cons, List.length_nil, List.length_drop, List.length_take]; omega))) (Wn.none rfl) rfl rfl ?_
                refine WR.step (Ex.assign rfl) (Wn.none rfl) rfl rfl ?_
                refine WR.nil ?_
                refine WQ.inBlock ?_
                refine WQ.then ?_
                refine WC.region ?_
                refine WR.step (Ex.move rfl) (Wn.none rfl) rfl rfl ?_
                refine WR.stepE (v' := encN (q + 2)) (Ex.add64 rfl rfl (by omega)) rfl (Wn.none rfl) rfl rfl ?_
                refine WR.step (Ex.assign rfl) (Wn.none rfl) rfl rfl ?_
                refine WR.nil ?_
                refine WQ.again2 (q + 2) (o ++ utf8 (unit x y)) ⟨rfl, rfl, rfl, trivial⟩ ?_ ?_
                · refine ⟨by omega, by rw [List.length_append]; omega, ?_, M, H, hp⟩
                  rw [hdec, hd, hone]; simp [utf8_unsur hul.1 hul.2]
                · omega
          ·
            have hone : decW (x :: y :: l.drop (q + 2)) = unsur (unit x y) :: decW (l.drop (q + 2)) := decW_one (by
              rintro ⟨_, c', d', r', hr, _⟩
              have := congrArg List.length hr
              rw [List.length_drop] at this
              simp at this
              omega)
            refine WR.step (Ex.pickT rfl rfl) (Wn.none rfl) rfl rfl ?_
            refine WR.nil ?_
            refine WQ.then ?_
            refine WC.condF rfl ?_
            refine WC.skip ?_
            refine WQ.then ?_
            refine WC.region ?_
            refine WR.step (Ex.move rfl) (Wn.none rfl) rfl rfl ?_
            refine WR.step (Ex.move rfl) (Wn.none rfl) rfl rfl ?_
            refine WR.call H (utf8_spec _) rfl (trivial) (Wn.none rfl) rfl ?_
            intro v124 M w H hle hr124
            replace hp := hp.mono hle
            replace hc74 := hc74.mono hle
            replace hc81 := hc81.mono hle
            obtain rfl := hr124
            refine WR.step (Ex.strAdd rfl rfl (by first | omega | (simp only [List.length_cons, List.length_nil]; omega) | (simp only [List.length_append, List.length_cons, List.length_nil, List.length_drop, List.length_take]; omega))) (Wn.none rfl) rfl rfl ?_
            refine WR.step (Ex.assign rfl) (Wn.none rfl) rfl rfl ?_
            refine WR.nil ?_
            refine WQ.inBlock ?_
            refine WQ.then ?_
            refine WC.region ?_
            refine WR.step (Ex.move rfl) (Wn.none rfl) rfl rfl ?_
            refine WR.stepE (v' := encN (q + 2)) (Ex.add64 rfl rfl (by omega)) rfl (Wn.none rfl) rfl rfl ?_
            refine WR.step (Ex.assign rfl) (Wn.none rfl) rfl rfl ?_
            refine WR.nil ?_
            refine WQ.again2 (q + 2) (o ++ utf8 (unit x y)) ⟨rfl, rfl, rfl, trivial⟩ ?_ ?_
            · refine ⟨by omega, by rw [List.length_append]; omega, ?_, M, H, hp⟩
              rw [hdec, hd, hone]; simp [utf8_unsur hul.1 hul.2]
            · omega
        ·
          have hone : decW (x :: y :: l.drop (q + 2)) = unsur (unit x y) :: decW (l.drop (q + 2)) := decW_one (fun h => h25_1 (by omega))
          refine WR.call H (Ct.mono (in_spec _ _ _) (R' := fun r _ => r = .bool false) (fun _ _ h => h.trans (congrArg Value.bool (decide_eq_false h25_1)))) rfl (trivial) (Wn.none rfl) rfl ?_
          intro v86 M w H hle hr86
          replace hp := hp.mono hle
          replace hc74 := hc74.mono hle
          replace hc81 := hc81.mono hle
          obtain rfl := hr86
          refine WR.step (Ex.move rfl) (Wn.none rfl) rfl rfl ?_
          refine WR.skipG (b := false) rfl rfl rfl rfl rfl ?_
          refine WR.skipG (b := false) rfl rfl rfl rfl rfl ?_
          refine WR.skipG (b := false) rfl rfl rfl rfl rfl ?_
          refine WR.skipG (b := false) rfl rfl rfl rfl rfl ?_
          refine WR.skipG (b := false) rfl rfl rfl rfl rfl ?_
          refine WR.step (Ex.pickF rfl rfl) (Wn.none rfl) rfl rfl ?_
          refine WR.nil ?_
          refine WQ.then ?_
          refine WC.condF rfl ?_
          refine WC.skip ?_
          refine WQ.then ?_
          refine WC.region ?_
          refine WR.step (Ex.move rfl) (Wn.none rfl) rfl rfl ?_
          refine WR.step (Ex.move rfl) (Wn.none rfl) rfl rfl ?_
          refine WR.call H (utf8_spec _) rfl (trivial) (Wn.none rfl) rfl ?_
          intro v124 M w H hle hr124
          replace hp := hp.mono hle
          replace hc74 := hc74.mono hle
          replace hc81 := hc81.mono hle
          obtain rfl := hr124
          refine WR.step (Ex.strAdd rfl rfl (by first | omega | (simp only [List.length_cons, List.length_nil]; omega) | (simp only [List.length_append, List.length_cons, List.length_nil, List.length_drop, List.length_take]; omega))) (Wn.none rfl) rfl rfl ?_
          refine WR.step (Ex.assign rfl) (Wn.none rfl) rfl rfl ?_
          refine WR.nil ?_
          refine WQ.inBlock ?_
          refine WQ.then ?_
          refine WC.region ?_
          refine WR.step (Ex.move rfl) (Wn.none rfl) rfl rfl ?_
          refine WR.stepE (v' := encN (q + 2)) (Ex.add64 rfl rfl (by omega)) rfl (Wn.none rfl) rfl rfl ?_
          refine WR.step (Ex.assign rfl) (Wn.none rfl) rfl rfl ?_
          refine WR.nil ?_
          refine WQ.again2 (q + 2) (o ++ utf8 (unit x y)) ⟨rfl, rfl, rfl, trivial⟩ ?_ ?_
          · refine ⟨by omega, by rw [List.length_append]; omega, ?_, M, H, hp⟩
            rw [hdec, hd, hone]; simp [utf8_unsur hul.1 hul.2]
          · omega
  ·
    have hr : (decW l).flatMap utf8 = o := by rw [hdec, List.drop_eq_nil_of_le (by omega)]; simp [decW]
    refine WR.nil ?_
    refine WQ.then ?_
    refine WC.condF rfl ?_
    refine WC.exit ?_
    refine WQ.thenExit ?_
    refine WQ.thenExit ?_
    refine WQ.exitHere ?_
    refine WQ.inBlock ?_
    refine WQ.then ?_
    refine WC.seq ?_
    refine WC.region ?_
    refine WR.step (Ex.move rfl) (Wn.none rfl) rfl rfl ?_
    refine WR.step (Ex.assign rfl) (Wn.none rfl) rfl rfl ?_
    refine WR.nil ?_
    refine WQ.then ?_
    refine WC.ret ?_
    (repeat (first | refine WQ.thenRet ?_ | refine WQ.inBlockRet ?_))
    refine WQ.ret1 rfl rfl H.ext ?_
    exact by rw [← hr]; rfl

theorem decoded_spec_k (v : Value) (l : List UInt8) (hs : l.length ≤ 1048576) (k : Nat) (hk : k < 4) : Ct Tryd.prog 24 [I (k : Int), v] (fun M => Bs M v l) (fun r _ => r = S (decoded k l)) := by
  rcases k with _ | _ | _ | _ | k
  · exact decoded_0 v l hs
  · exact decoded_1 v l hs
  · exact decoded_2 v l hs
  · exact decoded_3 v l hs
  · omega

def bestN (l : List UInt8) : List UInt8 := setN.getD (bestK l) []

theorem best_spec (l : List UInt8) : Ct Tryd.prog 29 [S l] (fun _ => True) (fun r _ => r = S (bestN l)) := by
  refine Ct.of Tryd.func29 (enters Tryd.func29 (by kernel_rfl) rfl) rfl rfl rfl ?_
  intro w0 M0 H hp
  refine WC.seq ?_
  refine WC.region ?_
  refine WR.step (Ex.assign rfl) (Wn.none rfl) rfl rfl ?_
  refine WR.nil ?_
  refine WQ.then ?_
  refine WC.seq ?_
  refine WC.region ?_
  refine WR.step (Ex.assign rfl) (Wn.none rfl) rfl rfl ?_
  refine WR.nil ?_
  refine WQ.then ?_
  refine WC.seq ?_
  refine WC.seq ?_
  refine WC.region ?_
  refine WR.step (Ex.move rfl) (Wn.none rfl) rfl rfl ?_
  refine WR.rangeStr H Tryd.underlying9 rfl (Wn.none rfl) rfl ?_
  intro b7 w H
  refine WR.nil ?_
  refine WQ.then ?_
  refine WC.block ?_
  refine WC.loop2 (fun (q : Nat) (seen : Bool) => [(3, S (if seen then [108, 97, 116, 105, 110, 49] else [97, 115, 99, 105, 105])), (7, ptr b7 0)]) (fun (q : Nat) (seen : Bool) w => q ≤ l.length ∧ (chars l).any (fun c : Ch => decide (255 < fix0 c.1)) = (chars (l.drop q)).any (fun c : Ch => decide (255 < fix0 c.1)) ∧ (chars l).any (fun c : Ch => decide (127 < fix0 c.1)) = (seen || (chars (l.drop q)).any (fun c : Ch => decide (127 < fix0 c.1))) ∧ ∃ M, St w0 M0 M [.blk b7 (.stringIter ⟨l.toArray⟩ q)] w) (fun (q : Nat) (seen : Bool) => l.length - q) (0) (false) ⟨rfl, rfl, trivial⟩ (⟨by omega, rfl, rfl, M0, H⟩) ?_
  intro q seen w
  rintro ⟨hq, h255, h127, M, H⟩
  refine WC.seq ?_
  refine WC.region ?_
  by_cases h3_0 : q < l.length
  ·
    have hne := drop_ne (t := l) (n := q) h3_0
    have hrs := rune_size (l.drop q)
    have hrs3 := hrs.2.2 hne
    rw [List.length_drop] at hrs3
    have hch : chars (l.drop q) = ((rune (l.drop q)).1, (l.drop q).take (rune (l.drop q)).2) :: chars (l.drop (q + (rune (l.drop q)).2)) := by rw [chars_cons hne, List.drop_drop]
    refine WR.nextT H h3_0 rfl (by repeat (first | exact Upd.head | apply Upd.tail)) (Wn.none rfl) rfl ?_
    intro w H
    refine WR.step (Ex.extract rfl rfl) (Wn.none rfl) rfl rfl ?_
    refine WR.nil ?_
    refine WQ.then ?_
    refine WC.seq ?_
    refine WC.condT rfl ?_
    refine WC.skip ?_
    refine WQ.then ?_
    refine WC.block ?_
    refine WC.seq ?_
    refine WC.region ?_
    refine WR.stepE (v' := encR (fix0 (rune (l.drop q)).1)) (Ex.extract rfl rfl) (congrArg encR (dr_fix0 _)) (Wn.none rfl) rfl rfl ?_
    refine WR.step (Ex.assign rfl) (Wn.none rfl) rfl rfl ?_
    refine WR.nil ?_
    refine WQ.then ?_
    refine WC.block ?_
    refine WC.seq ?_
    refine WC.region ?_
    refine WR.step (Ex.move rfl) (Wn.none rfl) rfl rfl ?_
    refine WR.split (Ex.gtr rfl rfl) (Wn.none rfl) rfl rfl (fun h5_1 => ?_) (fun h5_1 => ?_)
    ·
      have hr : bestK l = 2 := by unfold bestK; rw [h255, hch, List.any_cons, decide_eq_true (by omega)]; rfl
      refine WR.step (Ex.assign rfl) (Wn.none rfl) rfl rfl ?_
      refine WR.nil ?_
      refine WQ.then ?_
      refine WC.condT rfl ?_
      refine WC.seq ?_
      refine WC.region ?_
      refine WR.step (Ex.assign rfl) (Wn.none rfl) rfl rfl ?_
      refine WR.nil ?_
      refine WQ.then ?_
      refine WC.ret ?_
      (repeat (first | refine WQ.thenRet ?_ | refine WQ.inBlockRet ?_))
      refine WQ.ret1 rfl rfl H.ext ?_
      exact by unfold bestN; rw [hr]; rfl
    ·
      refine WR.step (Ex.assign rfl) (Wn.none rfl) rfl rfl ?_
      refine WR.nil ?_
      refine WQ.then ?_
      refine WC.condF rfl ?_
      refine WC.seq ?_
      refine WC.region ?_
      refine WR.step (Ex.move rfl) (Wn.none rfl) rfl rfl ?_
      refine WR.split (Ex.gtr rfl rfl) (Wn.none rfl) rfl rfl (fun h7_1 => ?_) (fun h7_1 => ?_)
      ·
        refine WR.step (Ex.assign rfl) (Wn.none rfl) rfl rfl ?_
        refine WR.nil ?_
        refine WQ.then ?_
        refine WC.condT rfl ?_
        refine WC.region ?_
        refine WR.step (Ex.assign rfl) (Wn.none rfl) rfl rfl ?_
        refine WR.nil ?_
        refine WQ.inBlock ?_
        refine WQ.inBlock ?_
        refine WQ.again2 (q + (dr (l.drop q)).2) (true) ⟨rfl, rfl, trivial⟩ ?_ ?_
        · refine ⟨by rw [dr_size]; omega, ?_, ?_, M, H⟩
          · rw [h255, hch, dr_size, List.any_cons, decide_eq_false (by omega), Bool.false_or]
          · rw [h127, hch, dr_size, List.any_cons, decide_eq_true (by omega)]; simp
        · rw [dr_size]; omega
      ·
        refine WR.step (Ex.assign rfl) (Wn.none rfl) rfl rfl ?_
        refine WR.nil ?_
        refine WQ.then ?_
        refine WC.condF rfl ?_
        refine WC.skip ?_
        refine WQ.inBlock ?_
        refine WQ.inBlock ?_
        refine WQ.again2 (q + (dr (l.drop q)).2) (seen) ⟨rfl, rfl, trivial⟩ ?_ ?_
        · refine ⟨by rw [dr_size]; omega, ?_, ?_, M, H⟩
          · rw [h255, hch, dr_size, List.any_cons, decide_eq_false (by omega), Bool.false_or]
          · rw [h127, hch, dr_size, List.any_cons, decide_eq_false (by omega)]; simp
        · rw [dr_size]; omega
  ·
    have hr : bestK l = if seen then 1 else 0 := by
      unfold bestK
      rw [h255, h127, List.drop_eq_nil_of_le (by omega), chars_nil]
      simp
    refine WR.nextF H (Nat.le_of_not_lt h3_0) rfl (by repeat (first | exact List.Mem.head _ | apply List.Mem.tail)) (Wn.none rfl) rfl ?_
    refine WR.step (Ex.extract rfl rfl) (Wn.none rfl) rfl rfl ?_
    refine WR.nil ?_
    refine WQ.then ?_
    refine WC.seq ?_
    refine WC.condF rfl ?_
    refine WC.exit ?_
    refine WQ.thenExit ?_
    refine WQ.thenExit ?_
    refine WQ.exitHere ?_
    refine WQ.then ?_
    refine WC.seq ?_
    refine WC.region ?_
    refine WR.step (Ex.move rfl) (Wn.none rfl) rfl rfl ?_
    refine WR.step (Ex.assign rfl) (Wn.none rfl) rfl rfl ?_
    refine WR.nil ?_
    refine WQ.then ?_
    refine WC.ret ?_
    (repeat (first | refine WQ.thenRet ?_ | refine WQ.inBlockRet ?_))
    refine WQ.ret1 rfl rfl H.ext ?_
    exact by unfold bestN; rw [hr]; cases seen <;> rfl

theorem rbest_spec (l : List UInt8) (hs : l.length ≤ 1048576) : Ct Tryd.prog 30 [S l] (fun _ => True) (fun r _ => r = S (bestN l)) := by
  refine Ct.of Tryd.func30 (enters Tryd.func30 (by kernel_rfl) rfl) rfl rfl rfl ?_
  intro w0 M0 H hp
  refine WC.seq ?_
  refine WC.region ?_
  refine WR.step (Ex.assign rfl) (Wn.none rfl) rfl rfl ?_
  refine WR.nil ?_
  refine WQ.then ?_
  refine WC.seq ?_
  refine WC.region ?_
  refine WR.step (Ex.assign rfl) (Wn.none rfl) rfl rfl ?_
  refine WR.nil ?_
  refine WQ.then ?_
  refine WC.seq ?_
  refine WC.region ?_
  refine WR.step (Ex.move rfl) (Wn.none rfl) rfl rfl ?_
  refine WR.call H (runes_spec _ (by omega)) rfl (trivial) (Wn.none rfl) rfl ?_
  intro v8 M w H hle hr8
  have hf8 := hr8
  refine WR.step (Ex.assign rfl) (Wn.none rfl) rfl rfl ?_
  refine WR.nil ?_
  refine WQ.then ?_
  refine WC.seq ?_
  refine WC.seq ?_
  refine WC.region ?_
  refine WR.step (Ex.assign rfl) (Wn.none rfl) rfl rfl ?_
  refine WR.nil ?_
  refine WQ.then ?_
  refine WC.block ?_
  refine WC.loop2 (fun (k : Nat) (most : Int) => [(3, I most), (4, v8), (5, encN k)]) (fun (k : Nat) (most : Int) w => k ≤ (chars l).length ∧ (0 ≤ most ∧ most ≤ 1114111) ∧ decide (255 < most) = ((chars l).take k).any (fun c : Ch => decide (255 < fix0 c.1)) ∧ decide (127 < most) = ((chars l).take k).any (fun c : Ch => decide (127 < fix0 c.1)) ∧ ∃ M, St w0 M0 M [] w ∧ Sl M encI v8 ((chars l).map (·.1))) (fun (k : Nat) (most : Int) => (chars l).length - k) (0) (0) ⟨rfl, rfl, rfl, trivial⟩ (⟨by omega, by omega, by simp, by simp, M, H, hf8⟩) ?_
  intro k most w
  rintro ⟨hk, hmo, h255, h127, M, H, hf8⟩
  have hml : ((chars l).map (·.1)).length = (chars l).length := List.length_map _
  have hcl := decU_len l
  rw [decU, List.length_map] at hcl
  refine WC.seq ?_
  refine WC.seq ?_
  refine WC.region ?_
  refine WR.step (Ex.move rfl) (Wn.none rfl) rfl rfl ?_
  refine WR.step (Ex.move rfl) (Wn.none rfl) rfl rfl ?_
  first | refine WR.step (Ex.lenSl Tryd.underlying49 (by assumption) rfl) (Wn.none rfl) rfl rfl ?_ | refine WR.step (Ex.lenRow Tryd.underlying49 H (by repeat (first | exact List.Mem.head _ | apply List.Mem.tail)) rfl) (Wn.none rfl) rfl rfl ?_ | refine WR.step (Ex.lenSlice Tryd.underlying49 rfl) (Wn.none rfl) rfl rfl ?_
  refine WR.split (Ex.lss rfl rfl) (Wn.none rfl) rfl rfl (fun h4_3 => ?_) (fun h4_3 => ?_)
  ·
    obtain ⟨c, hc⟩ : ∃ c, (chars l)[k]? = some c := ⟨_, List.getElem?_eq_getElem (by omega)⟩
    obtain ⟨n, hn⟩ : ∃ n, c.1 = n := ⟨_, rfl⟩
    have hx : ((chars l).map (·.1))[k]? = some n := by rw [List.getElem?_map, hc, ← hn]; rfl
    have hsn : (chars l).take (k + 1) = (chars l).take k ++ [c] := by
      have e := List.getElem?_eq_some_iff.1 hc
      rw [List.take_succ_eq_append_getElem e.1, e.2]
    have hnl : n ≤ 1114111 := by rw [← hn]; exact (chars_lt l c (List.mem_of_getElem? hc))
    refine WR.nil ?_
    refine WQ.then ?_
    refine WC.condT rfl ?_
    refine WC.skip ?_
    refine WQ.then ?_
    refine WC.seq ?_
    refine WC.block ?_
    refine WC.seq ?_
    refine WC.region ?_
    refine WR.step (Ex.move rfl) (Wn.none rfl) rfl rfl ?_
    refine WR.step (Ex.move rfl) (Wn.none rfl) rfl rfl ?_
    refine WR.idxSl Tryd.underlying49 Tryd.sizeOf3 (by assumption) rfl rfl (hx) (Wn.none rfl) rfl ?_
    intro p17 hc17
    first | refine WR.step (Ex.loadM H rfl (by assumption) Tryd.isAgg3) (Wn.none rfl) rfl rfl ?_ | refine WR.step (Ex.load1 H rfl (by repeat (first | exact List.Mem.head _ | apply List.Mem.tail)) Tryd.isAgg3 (by rfl)) (Wn.none rfl) rfl rfl ?_
    refine WR.step (Ex.assign rfl) (Wn.none rfl) rfl rfl ?_
    refine WR.nil ?_
    refine WQ.then ?_
    refine WC.seq ?_
    refine WC.seq ?_
    refine WC.region ?_
    refine WR.step (Ex.move rfl) (Wn.none rfl) rfl rfl ?_
    refine WR.split (Ex.lss rfl rfl) (Wn.none rfl) rfl rfl (fun h7_1 => ?_) (fun h7_1 => ?_)
    ·
      have hfx : fix0 c.1 = 65533 := by unfold fix0; rw [hn, if_pos h7_1]
      refine WR.nil ?_
      refine WQ.then ?_
      refine WC.condT rfl ?_
      refine WC.region ?_
      refine WR.step (Ex.assign rfl) (Wn.none rfl) rfl rfl ?_
      refine WR.nil ?_
      refine WQ.then ?_
      refine WC.seq ?_
      refine WC.region ?_
      refine WR.step (Ex.move rfl) (Wn.none rfl) rfl rfl ?_
      refine WR.step (Ex.move rfl) (Wn.none rfl) rfl rfl ?_
      refine WR.split (Ex.gtr rfl rfl) (Wn.none rfl) rfl rfl (fun h9_2 => ?_) (fun h9_2 => ?_)
      ·
        refine WR.nil ?_
        refine WQ.then ?_
        refine WC.condT rfl ?_
        refine WC.region ?_
        refine WR.step (Ex.move rfl) (Wn.none rfl) rfl rfl ?_
        refine WR.step (Ex.assign rfl) (Wn.none rfl) rfl rfl ?_
        refine WR.nil ?_
        refine WQ.inBlock ?_
        refine WQ.then ?_
        refine WC.region ?_
        refine WR.step (Ex.move rfl) (Wn.none rfl) rfl rfl ?_
        refine WR.step (Ex.add64 rfl rfl (by omega)) (Wn.none rfl) rfl rfl ?_
        refine WR.step (Ex.assign rfl) (Wn.none rfl) rfl rfl ?_
        refine WR.nil ?_
        refine WQ.again2 (k + 1) (65533) ⟨rfl, rfl, rfl, trivial⟩ ?_ ?_
        · refine ⟨by omega, by omega, ?_, ?_, M, H, hf8⟩
          · rw [hsn, List.any_append, ← h255]; simp only [List.any_cons, List.any_nil, Bool.or_false]; rw [hfx, ← Bool.decide_or]; exact decide_eq_decide.2 (by omega)
          · rw [hsn, List.any_append, ← h127]; simp only [List.any_cons, List.any_nil, Bool.or_false]; rw [hfx, ← Bool.decide_or]; exact decide_eq_decide.2 (by omega)
        · omega
      ·
        refine WR.nil ?_
        refine WQ.then ?_
        refine WC.condF rfl ?_
        refine WC.skip ?_
        refine WQ.inBlock ?_
        refine WQ.then ?_
        refine WC.region ?_
        refine WR.step (Ex.move rfl) (Wn.none rfl) rfl rfl ?_
        refine WR.step (Ex.add64 rfl rfl (by omega)) (Wn.none rfl) rfl rfl ?_
        refine WR.step (Ex.assign rfl) (Wn.none rfl) rfl rfl ?_
        refine WR.nil ?_
        refine WQ.again2 (k + 1) (most) ⟨rfl, rfl, rfl, trivial⟩ ?_ ?_
        · refine ⟨by omega, by omega, ?_, ?_, M, H, hf8⟩
          · rw [hsn, List.any_append, ← h255]; simp only [List.any_cons, List.any_nil, Bool.or_false]; rw [hfx, ← Bool.decide_or]; exact decide_eq_decide.2 (by omega)
          · rw [hsn, List.any_append, ← h127]; simp only [List.any_cons, List.any_nil, Bool.or_false]; rw [hfx, ← Bool.decide_or]; exact decide_eq_decide.2 (by omega)
        · omega
    ·
      have hfx : fix0 c.1 = n := by unfold fix0; rw [hn, if_neg h7_1]
      refine WR.nil ?_
      refine WQ.then ?_
      refine WC.condF rfl ?_
      refine WC.skip ?_
      refine WQ.then ?_
      refine WC.seq ?_
      refine WC.region ?_
      refine WR.step (Ex.move rfl) (Wn.none rfl) rfl rfl ?_
      refine WR.step (Ex.move rfl) (Wn.none rfl) rfl rfl ?_
      refine WR.split (Ex.gtr rfl rfl) (Wn.none rfl) rfl rfl (fun h9_2 => ?_) (fun h9_2 => ?_)
      ·
        refine WR.nil ?_
        refine WQ.then ?_
        refine WC.condT rfl ?_
        refine WC.region ?_
        refine WR.step (Ex.move rfl) (Wn.none rfl) rfl rfl ?_
        refine WR.step (Ex.assign rfl) (Wn.none rfl) rfl rfl ?_
        refine WR.nil ?_
        refine WQ.inBlock ?_
        refine WQ.then ?_
        refine WC.region ?_
        refine WR.step (Ex.move rfl) (Wn.none rfl) rfl rfl ?_
        refine WR.step (Ex.add64 rfl rfl (by omega)) (Wn.none rfl) rfl rfl ?_
        refine WR.step (Ex.assign rfl) (Wn.none rfl) rfl rfl ?_
        refine WR.nil ?_
        refine WQ.again2 (k + 1) (n) ⟨rfl, rfl, rfl, trivial⟩ ?_ ?_
        · refine ⟨by omega, by omega, ?_, ?_, M, H, hf8⟩
          · rw [hsn, List.any_append, ← h255]; simp only [List.any_cons, List.any_nil, Bool.or_false]; rw [hfx, ← Bool.decide_or]; exact decide_eq_decide.2 (by omega)
          · rw [hsn, List.any_append, ← h127]; simp only [List.any_cons, List.any_nil, Bool.or_false]; rw [hfx, ← Bool.decide_or]; exact decide_eq_decide.2 (by omega)
        · omega
      ·
        refine WR.nil ?_
        refine WQ.then ?_
        refine WC.condF rfl ?_
        refine WC.skip ?_
        refine WQ.inBlock ?_
        refine WQ.then ?_
        refine WC.region ?_
        refine WR.step (Ex.move rfl) (Wn.none rfl) rfl rfl ?_
        refine WR.step (Ex.add64 rfl rfl (by omega)) (Wn.none rfl) rfl rfl ?_
        refine WR.step (Ex.assign rfl) (Wn.none rfl) rfl rfl ?_
        refine WR.nil ?_
        refine WQ.again2 (k + 1) (most) ⟨rfl, rfl, rfl, trivial⟩ ?_ ?_
        · refine ⟨by omega, by omega, ?_, ?_, M, H, hf8⟩
          · rw [hsn, List.any_append, ← h255]; simp only [List.any_cons, List.any_nil, Bool.or_false]; rw [hfx, ← Bool.decide_or]; exact decide_eq_decide.2 (by omega)
          · rw [hsn, List.any_append, ← h127]; simp only [List.any_cons, List.any_nil, Bool.or_false]; rw [hfx, ← Bool.decide_or]; exact decide_eq_decide.2 (by omega)
        · omega
  ·
    rw [List.take_of_length_le (by omega)] at h255 h127
    refine WR.nil ?_
    refine WQ.then ?_
    refine WC.condF rfl ?_
    refine WC.exit ?_
    refine WQ.thenExit ?_
    refine WQ.thenExit ?_
    refine WQ.exitHere ?_
    refine WQ.then ?_
    refine WC.seq ?_
    refine WC.seq ?_
    refine WC.region ?_
    refine WR.step (Ex.move rfl) (Wn.none rfl) rfl rfl ?_
    refine WR.split (Ex.lss rfl rfl) (Wn.none rfl) rfl rfl (fun h11_1 => ?_) (fun h11_1 => ?_)
    ·
      refine WR.nil ?_
      refine WQ.then ?_
      refine WC.condT rfl ?_
      refine WC.seq ?_
      refine WC.region ?_
      refine WR.step (Ex.assign rfl) (Wn.none rfl) rfl rfl ?_
      refine WR.nil ?_
      refine WQ.then ?_
      refine WC.ret ?_
      (repeat (first | refine WQ.thenRet ?_ | refine WQ.inBlockRet ?_))
      refine WQ.ret1 rfl rfl H.ext ?_
      exact by unfold bestN bestK; rw [← h255, ← h127, decide_eq_false (by omega), decide_eq_false (by omega)]; rfl
    ·
      refine WR.nil ?_
      refine WQ.then ?_
      refine WC.condF rfl ?_
      refine WC.skip ?_
      refine WQ.then ?_
      refine WC.seq ?_
      refine WC.seq ?_
      refine WC.region ?_
      refine WR.step (Ex.move rfl) (Wn.none rfl) rfl rfl ?_
      refine WR.split (Ex.lss rfl rfl) (Wn.none rfl) rfl rfl (fun h13_1 => ?_) (fun h13_1 => ?_)
      ·
        refine WR.nil ?_
        refine WQ.then ?_
        refine WC.condT rfl ?_
        refine WC.seq ?_
        refine WC.region ?_
        refine WR.step (Ex.assign rfl) (Wn.none rfl) rfl rfl ?_
        refine WR.nil ?_
        refine WQ.then ?_
        refine WC.ret ?_
        (repeat (first | refine WQ.thenRet ?_ | refine WQ.inBlockRet ?_))
        refine WQ.ret1 rfl rfl H.ext ?_
        exact by unfold bestN bestK; rw [← h255, ← h127, decide_eq_false (by omega), decide_eq_true (by omega)]; rfl
      ·
        refine WR.nil ?_
        refine WQ.then ?_
        refine WC.condF rfl ?_
        refine WC.skip ?_
        refine WQ.then ?_
        refine WC.seq ?_
        refine WC.region ?_
        refine WR.step (Ex.assign rfl) (Wn.none rfl) rfl rfl ?_
        refine WR.nil ?_
        refine WQ.then ?_
        refine WC.ret ?_
        (repeat (first | refine WQ.thenRet ?_ | refine WQ.inBlockRet ?_))
        refine WQ.ret1 rfl rfl H.ext ?_
        exact by unfold bestN bestK; rw [← h255, decide_eq_true (by omega)]; rfl

end Go.Proofs.YtnjglbmaonbcbaaDoor
