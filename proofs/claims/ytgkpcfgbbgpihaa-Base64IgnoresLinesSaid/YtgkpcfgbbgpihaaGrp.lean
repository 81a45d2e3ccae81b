/-
  the program: groups: walks over the program's own operations, written by a program of this repository (wip/tools/gen.py) out of a plan.
-/
import Derived.Test.YtgkpcfgbbgpihaaRef
import Derived.Test.YtgkpcfgbbgpihaaIter
import Derived.Test.YtgkpcfgbbgpihaaDraw
import Derived.KernelRfl
namespace Go.Proofs.Ytgkpcfgbbgpihaa
open Go Go.RowKit Go.Ph

open Go.Ph.B64
abbrev encG (x : List UInt8) : Value := .agg (x.map encB).toArray
theorem groups_iter (bb : Nat) (v0 : Value) (l : List UInt8) (hs : l.length ≤ 1000000) : IterCt Try.prog 26 [ptr bb 0] [.blk bb (.cells #[v0] 22)] (fun M => Bs M v0 l) encG (grps l) := by
  refine ⟨enters Try.func26 (by kernel_rfl) rfl, fun lid Z Zx hZ hY L0 w0 M0 hz H hp => calls_of_WC Try.func26 rfl rfl rfl ?_⟩
  generalize hC : feet ([.blk bb (.cells #[v0] 22)] ++ L0) = C at H ⊢
  simp only [List.cons_append, List.nil_append] at H
  refine WC.block ?_
  refine WC.loop3 (fun (k : Nat) (v : Value) (Lc : List Ph.Item) => [(0, yv lid), (1, ptr bb 0)]) (fun (k : Nat) (v : Value) (Lc : List Ph.Item) w => k ≤ (l.length + 2) / 3 ∧ ∃ M, StX C w0 M0 M (.blk bb (.cells #[v] 22) :: Lc) w ∧ Bs M v (l.drop (3 * k)) ∧ Z (grpsTo l k) Lc M) (fun (k : Nat) (v : Value) (Lc : List Ph.Item) => l.length + 2 - 3 * k) (0) (_) (_) ⟨rfl, rfl, trivial⟩ (⟨by omega, M0, H, hp, hz⟩) ?_
  intro k v Lc w
  rintro ⟨hk, M, H, hb, hzc⟩
  have hlen : (l.drop (3 * k)).length = l.length - 3 * k := List.length_drop
  refine WC.seq ?_
  refine WC.seq ?_
  refine WC.region ?_
  first | refine WR.step (Ex.loadM H rfl (by assumption) Try.isAgg22) (Wn.none rfl) rfl rfl ?_ | refine WR.step (Ex.load1 H rfl (by repeat (first | exact List.Mem.head _ | apply List.Mem.tail)) Try.isAgg22 (by rfl)) (Wn.none rfl) rfl rfl ?_
  first | refine WR.step (Ex.lenSl Try.underlying22 (by assumption) rfl) (Wn.none rfl) rfl rfl ?_ | refine WR.step (Ex.lenRow Try.underlying22 H (by repeat (first | exact List.Mem.head _ | apply List.Mem.tail)) rfl) (Wn.none rfl) rfl rfl ?_ | refine WR.step (Ex.lenSlice Try.underlying22 rfl) (Wn.none rfl) rfl rfl ?_
  refine WR.split (Ex.gtr rfl rfl) (Wn.none rfl) rfl rfl (fun h0_2 => ?_) (fun h0_2 => ?_)
  ·
    refine WR.nil ?_
    refine WQ.then ?_
    refine WC.condT rfl ?_
    refine WC.skip ?_
    refine WQ.then ?_
    refine WC.block ?_
    refine WC.seq ?_
    refine WC.region ?_
    first | refine WR.step (Ex.loadM H rfl (by assumption) Try.isAgg22) (Wn.none rfl) rfl rfl ?_ | refine WR.step (Ex.load1 H rfl (by repeat (first | exact List.Mem.head _ | apply List.Mem.tail)) Try.isAgg22 (by rfl)) (Wn.none rfl) rfl rfl ?_
    first | refine WR.step (Ex.lenSl Try.underlying22 (by assumption) rfl) (Wn.none rfl) rfl rfl ?_ | refine WR.step (Ex.lenRow Try.underlying22 H (by repeat (first | exact List.Mem.head _ | apply List.Mem.tail)) rfl) (Wn.none rfl) rfl rfl ?_ | refine WR.step (Ex.lenSlice Try.underlying22 rfl) (Wn.none rfl) rfl rfl ?_
    refine WR.stepE (v' := encN (min 3 (l.drop (3 * k)).length)) (Ex.min2 rfl rfl) (congrArg I (by omega)) (Wn.none rfl) rfl rfl ?_
    refine WR.step (Ex.assign rfl) (Wn.none rfl) rfl rfl ?_
    refine WR.nil ?_
    refine WQ.then ?_
    refine WC.seq ?_
    refine WC.region ?_
    refine WR.step (Ex.assign rfl) (Wn.none rfl) rfl rfl ?_
    refine WR.nil ?_
    refine WQ.then ?_
    refine WC.seq ?_
    refine WC.seq ?_
    refine WC.region ?_
    refine WR.step (Ex.move rfl) (Wn.none rfl) rfl rfl ?_
    refine WR.nil ?_
    refine WQ.then ?_
    refine WC.block ?_
    refine WC.loop1 (fun (i : Nat) => [(0, yv lid), (1, ptr bb 0), (3, encN (min 3 (l.drop (3 * k)).length)), (4, encN (accN (l.drop (3 * k)) i)), (14, I (i : Int))]) (fun (i : Nat) w => i ≤ 3 ∧ StX C w0 M0 M (.blk bb (.cells #[v] 22) :: Lc) w) (fun (i : Nat) => 3 - i) (0) ⟨rfl, rfl, rfl, rfl, rfl, trivial⟩ (⟨by omega, H⟩) ?_
    intro i w
    rintro ⟨hi, H⟩
    have hac := accN_lt (l.drop (3 * k)) i
    have hac2 : 256 ^ i ≤ 256 ^ 3 := Nat.pow_le_pow_right (by decide) hi
    refine WC.seq ?_
    refine WC.region ?_
    refine WR.split (Ex.lss rfl rfl) (Wn.none rfl) rfl rfl (fun h4_0 => ?_) (fun h4_0 => ?_)
    ·
      refine WR.nil ?_
      refine WQ.then ?_
      refine WC.seq ?_
      refine WC.condT rfl ?_
      refine WC.skip ?_
      refine WQ.then ?_
      refine WC.seq ?_
      refine WC.block ?_
      refine WC.seq ?_
      refine WC.region ?_
      refine WR.step (Ex.move rfl) (Wn.none rfl) rfl rfl ?_
      refine WR.step (Ex.assign rfl) (Wn.none rfl) rfl rfl ?_
      refine WR.nil ?_
      refine WQ.then ?_
      refine WC.seq ?_
      refine WC.region ?_
      refine WR.step (Ex.move rfl) (Wn.none rfl) rfl rfl ?_
      refine WR.stepE (v' := encN (accN (l.drop (3 * k)) i * 256)) (Ex.shlN (m := accN (l.drop (3 * k)) i) (s := 8) rfl rfl (by first | (show _ ≤ 64; omega) | (show _ ≤ 8; omega) | decide) (by first | omega | (simp; omega))) rfl (Wn.none rfl) rfl rfl ?_
      refine WR.step (Ex.assign rfl) (Wn.none rfl) rfl rfl ?_
      refine WR.nil ?_
      refine WQ.then ?_
      refine WC.seq ?_
      refine WC.region ?_
      refine WR.step (Ex.move rfl) (Wn.none rfl) rfl rfl ?_
      refine WR.step (Ex.move rfl) (Wn.none rfl) rfl rfl ?_
      refine WR.split (Ex.lss rfl rfl) (Wn.none rfl) rfl rfl (fun h7_2 => ?_) (fun h7_2 => ?_)
      ·
        obtain ⟨u, hu⟩ : ∃ u, (l.drop (3 * k))[i]? = some u := ⟨_, List.getElem?_eq_getElem (by omega)⟩
        have hult := u.toNat_lt
        refine WR.nil ?_
        refine WQ.then ?_
        refine WC.condT rfl ?_
        refine WC.region ?_
        refine WR.step (Ex.move rfl) (Wn.none rfl) rfl rfl ?_
        first | refine WR.step (Ex.loadM H rfl (by assumption) Try.isAgg22) (Wn.none rfl) rfl rfl ?_ | refine WR.step (Ex.load1 H rfl (by repeat (first | exact List.Mem.head _ | apply List.Mem.tail)) Try.isAgg22 (by rfl)) (Wn.none rfl) rfl rfl ?_
        refine WR.step (Ex.move rfl) (Wn.none rfl) rfl rfl ?_
        refine WR.idxSl Try.underlying22 Try.sizeOf5 (by assumption) rfl rfl (hu) (Wn.none rfl) rfl ?_
        intro p25 hc25
        first | refine WR.step (Ex.loadM H rfl (by assumption) Try.isAgg5) (Wn.none rfl) rfl rfl ?_ | refine WR.step (Ex.load1 H rfl (by repeat (first | exact List.Mem.head _ | apply List.Mem.tail)) Try.isAgg5 (by rfl)) (Wn.none rfl) rfl rfl ?_
        first | refine WR.step (Ex.convB Try.underlying5 Try.underlying3 rfl) (Wn.none rfl) rfl rfl ?_ | refine WR.step (Ex.convI Try.underlying5 Try.underlying3 rfl (by omega)) (Wn.none rfl) rfl rfl ?_
        refine WR.stepE (v' := encN (accN (l.drop (3 * k)) (i + 1))) (Ex.orN (m := accN (l.drop (3 * k)) i * 256) (s := u.toNat) rfl rfl (by omega) (by omega)) (congrArg encN (by rw [show accN (l.drop (3 * k)) i * 256 = accN (l.drop (3 * k)) i * 2 ^ 8 from rfl, or_eight, accN]; simp [List.getD_eq_getElem?_getD, hu])) (Wn.none rfl) rfl rfl ?_
        refine WR.step (Ex.assign rfl) (Wn.none rfl) rfl rfl ?_
        refine WR.nil ?_
        refine WQ.inBlock ?_
        refine WQ.then ?_
        refine WC.region ?_
        refine WR.step (Ex.add64 rfl rfl (by omega)) (Wn.none rfl) rfl rfl ?_
        refine WR.step (Ex.move rfl) (Wn.none rfl) rfl rfl ?_
        refine WR.nil ?_
        refine WQ.again1 (i + 1) ⟨rfl, rfl, rfl, rfl, rfl, trivial⟩ ?_ ?_
        · exact ⟨by omega, H⟩
        · omega
      ·
        refine WR.nil ?_
        refine WQ.then ?_
        refine WC.condF rfl ?_
        refine WC.skip ?_
        refine WQ.inBlock ?_
        refine WQ.then ?_
        refine WC.region ?_
        refine WR.step (Ex.add64 rfl rfl (by omega)) (Wn.none rfl) rfl rfl ?_
        refine WR.step (Ex.move rfl) (Wn.none rfl) rfl rfl ?_
        refine WR.nil ?_
        refine WQ.again1 (i + 1) ⟨rfl, rfl, rfl, (congrArg (fun x => some (encN x)) (accN_out _ _ (by omega))), rfl, trivial⟩ ?_ ?_
        · exact ⟨by omega, H⟩
        · omega
    ·
      refine WR.nil ?_
      refine WQ.then ?_
      refine WC.seq ?_
      refine WC.condF rfl ?_
      refine WC.exit ?_
      refine WQ.thenExit ?_
      refine WQ.thenExit ?_
      refine WQ.exitHere ?_
      refine WQ.then ?_
      refine WC.seq ?_
      refine WC.region ?_
      refine WR.alloc [_, _, _, _] H Try.zeroValue37 rfl (Wn.none rfl) rfl ?_
      intro b6 w H
      refine WR.nil ?_
      refine WQ.then ?_
      refine WC.seq ?_
      refine WC.seq ?_
      refine WC.region ?_
      refine WR.step (Ex.move rfl) (Wn.none rfl) rfl rfl ?_
      refine WR.nil ?_
      refine WQ.then ?_
      refine WC.block ?_
      obtain rfl : i = 3 := by omega
      refine WC.loop1 (fun (j : Nat) => [(0, yv lid), (1, ptr bb 0), (3, encN (min 3 (l.drop (3 * k)).length)), (4, encN (accN (l.drop (3 * k)) 3)), (6, ptr b6 0), (30, I (j : Int))]) (fun (j : Nat) w => j ≤ 4 ∧ StX C w0 M0 M (.blk b6 (.cells ((outp (l.drop (3 * k)) j).map encB).toArray 37) :: .blk bb (.cells #[v] 22) :: Lc) w) (fun (j : Nat) => 4 - j) (0) ⟨rfl, rfl, rfl, rfl, rfl, rfl, trivial⟩ (⟨by omega, H⟩) ?_
      intro j w
      rintro ⟨hj, H⟩
      have hac := accN_lt (l.drop (3 * k)) 3
      have hol : (outp (l.drop (3 * k)) j).length = 4 := rfl
      refine WC.seq ?_
      refine WC.region ?_
      refine WR.split (Ex.lss rfl rfl) (Wn.none rfl) rfl rfl (fun h12_0 => ?_) (fun h12_0 => ?_)
      ·
        refine WR.nil ?_
        refine WQ.then ?_
        refine WC.seq ?_
        refine WC.condT rfl ?_
        refine WC.skip ?_
        refine WQ.then ?_
        refine WC.seq ?_
        refine WC.block ?_
        refine WC.seq ?_
        refine WC.region ?_
        refine WR.step (Ex.move rfl) (Wn.none rfl) rfl rfl ?_
        refine WR.step (Ex.assign rfl) (Wn.none rfl) rfl rfl ?_
        refine WR.nil ?_
        refine WQ.then ?_
        refine WC.seq ?_
        refine WC.region ?_
        refine WR.step (Ex.move rfl) (Wn.none rfl) rfl rfl ?_
        refine WR.step (Ex.move rfl) (Wn.none rfl) rfl rfl ?_
        refine WR.step (Ex.move rfl) (Wn.none rfl) rfl rfl ?_
        refine WR.step (Ex.mul64 rfl rfl (by omega)) (Wn.none rfl) rfl rfl ?_
        refine WR.stepE (v' := I ((18 - 6 * j : Nat) : Int)) (Ex.sub64 rfl rfl (by omega)) (congrArg I (by omega)) (Wn.none rfl) rfl rfl ?_
        refine WR.step (Ex.shrN (m := _) (s := _) rfl rfl (by first | (show _ ≤ 64; omega) | (show _ ≤ 8; omega) | decide)) (Wn.none rfl) rfl rfl ?_
        have hdv : accN (l.drop (3 * k)) 3 / 2 ^ (18 - 6 * j) ≤ accN (l.drop (3 * k)) 3 := Nat.div_le_self _ _
        refine WR.stepE (v' := encN (accN (l.drop (3 * k)) 3 / 2 ^ (18 - 6 * j) % 64)) (Ex.andN (m := _) (s := 63) rfl rfl (by omega) (by omega)) (congrArg encN (Nat.and_two_pow_sub_one_eq_mod _ 6)) (Wn.none rfl) rfl rfl ?_
        refine WR.stepE (v' := encB (alpha.getD (accN (l.drop (3 * k)) 3 / 2 ^ (18 - 6 * j) % 64) 0)) (Ex.idxStr (l := alpha) Try.underlying9 rfl rfl (List.getElem?_eq_getElem (by rw [alpha_len]; omega))) (congrArg encB (by rw [getD_in _ _ _ (by rw [alpha_len]; omega)])) (Wn.none rfl) rfl rfl ?_
        refine WR.step (Ex.idxArr Try.underlying37 Try.sizeOf5 rfl rfl (by omega)) (Wn.none rfl) rfl rfl ?_
        refine WR.store1 (((outp (l.drop (3 * k)) j).set j (alpha.getD (accN (l.drop (3 * k)) 3 / 2 ^ (18 - 6 * j) % 64) 0)).map encB) H rfl rfl (by repeat (first | exact Upd.head | apply Upd.tail)) (by simp [List.map_set]) Try.sizeOf5 (by simp [hol]; omega) rfl rfl (Wn.none rfl) ?_
        intro w H
        refine WR.nil ?_
        refine WQ.then ?_
        refine WC.seq ?_
        refine WC.region ?_
        refine WR.step (Ex.move rfl) (Wn.none rfl) rfl rfl ?_
        refine WR.step (Ex.move rfl) (Wn.none rfl) rfl rfl ?_
        refine WR.split (Ex.gtr rfl rfl) (Wn.none rfl) rfl rfl (fun h15_2 => ?_) (fun h15_2 => ?_)
        ·
          refine WR.nil ?_
          refine WQ.then ?_
          refine WC.condT rfl ?_
          refine WC.region ?_
          refine WR.step (Ex.move rfl) (Wn.none rfl) rfl rfl ?_
          refine WR.step (Ex.idxArr Try.underlying37 Try.sizeOf5 rfl rfl (by omega)) (Wn.none rfl) rfl rfl ?_
          refine WR.store1 (((outp (l.drop (3 * k)) j).set j 61).map encB) H rfl rfl (by repeat (first | exact Upd.head | apply Upd.tail)) (by simp [List.map_set]; rfl) Try.sizeOf5 (by simp [hol]; omega) rfl rfl (Wn.none rfl) ?_
          intro w H
          refine WR.nil ?_
          refine WQ.inBlock ?_
          refine WQ.then ?_
          refine WC.region ?_
          refine WR.step (Ex.add64 rfl rfl (by omega)) (Wn.none rfl) rfl rfl ?_
          refine WR.step (Ex.move rfl) (Wn.none rfl) rfl rfl ?_
          refine WR.nil ?_
          refine WQ.again1 (j + 1) ⟨rfl, rfl, rfl, rfl, rfl, rfl, trivial⟩ ?_ ?_
          · refine ⟨by omega, ?_⟩
            rw [← outp_set _ _ (by omega), ch, if_pos (by omega)]
            exact H
          · omega
        ·
          refine WR.nil ?_
          refine WQ.then ?_
          refine WC.condF rfl ?_
          refine WC.skip ?_
          refine WQ.inBlock ?_
          refine WQ.then ?_
          refine WC.region ?_
          refine WR.step (Ex.add64 rfl rfl (by omega)) (Wn.none rfl) rfl rfl ?_
          refine WR.step (Ex.move rfl) (Wn.none rfl) rfl rfl ?_
          refine WR.nil ?_
          refine WQ.again1 (j + 1) ⟨rfl, rfl, rfl, rfl, rfl, rfl, trivial⟩ ?_ ?_
          · refine ⟨by omega, ?_⟩
            rw [← outp_set _ _ (by omega), ch, if_neg (by omega)]
            exact H
          · omega
      ·
        refine WR.nil ?_
        refine WQ.then ?_
        refine WC.seq ?_
        refine WC.condF rfl ?_
        refine WC.exit ?_
        refine WQ.thenExit ?_
        refine WQ.thenExit ?_
        refine WQ.exitHere ?_
        refine WQ.then ?_
        refine WC.seq ?_
        refine WC.seq ?_
        refine WC.region ?_
        refine WR.step (Ex.move rfl) (Wn.none rfl) rfl rfl ?_
        refine WR.step (Ex.loadAgg H rfl (by repeat (first | exact List.Mem.head _ | apply List.Mem.tail)) Try.isAgg37 Try.sizeOf37 (by rfl)) (Wn.none rfl) rfl rfl ?_
        obtain rfl : j = 4 := by omega
        have hpre : (grpsTo l k ++ [outp (l.drop (3 * k)) 4]) <+: grps l := grpsTo_ini l k (by omega)
        refine WR.yield (hY _ _ _ _ _ hpre hzc (H.hand (.right (.right (Spl.whole _))))) rfl rfl (Wn.none rfl) rfl ?_
        rintro en w ⟨M, Lc, Hs, hcase⟩
        replace H := (H.back (.right (.right (Spl.whole _))) Hs).perm List.perm_append_comm
        simp only [List.cons_append, List.nil_append] at H
        replace hb := hb.mono Hs.ext.le
        rcases hcase with ⟨rfl, hzc⟩ | ⟨rfl, hzc⟩
        · refine ⟨true, rfl, ?_⟩
          refine WR.step (Ex.notT rfl) (Wn.none rfl) rfl rfl ?_
          refine WR.nil ?_
          refine WQ.then ?_
          refine WC.condF rfl ?_
          refine WC.skip ?_
          refine WQ.then ?_
          refine WC.region ?_
          first | refine WR.step (Ex.loadM H rfl (by assumption) Try.isAgg22) (Wn.none rfl) rfl rfl ?_ | refine WR.step (Ex.load1 H rfl (by repeat (first | exact List.Mem.head _ | apply List.Mem.tail)) Try.isAgg22 (by rfl)) (Wn.none rfl) rfl rfl ?_
          refine WR.step (Ex.move rfl) (Wn.none rfl) rfl rfl ?_
          refine WR.sliceSl (i := min 3 (l.drop (3 * k)).length) (j := (l.drop (3 * k)).length) Try.underlying22 Try.sizeOf5 (by assumption) rfl (.inl ⟨_, rfl, rfl⟩) (.inr ⟨rfl, rfl⟩) (by omega) (by omega) (Wn.none rfl) rfl ?_
          intro v54 hs54
          refine WR.putV [_] H rfl rfl (by first | exact One.slice _ _ _ | exact Sl.one (by assumption) | exact StX.rowOne H (by repeat (first | exact List.Mem.head _ | apply List.Mem.tail))) (by repeat (first | exact Upd.head | apply Upd.tail)) (by rfl) Try.sizeOf22 (by first | decide | (simp; done) | (simp; omega)) (Wn.none rfl) ?_
          intro w H
          refine WR.nil ?_
          refine WQ.inBlock ?_
          refine WQ.again3 (k + 1) (v54) (Lc) ⟨rfl, rfl, trivial⟩ ?_ ?_
          · refine ⟨by omega, M, H.drop (List.sublist_cons_self _ _), ?_, ?_⟩
            · have := drop_next l k (min 3 (l.drop (3 * k)).length) rfl
              rw [List.take_of_length_le (Nat.le_refl _), this] at hs54
              exact hs54
            · rw [grpsTo_next]; exact hzc
          · omega
        · refine ⟨false, rfl, ?_⟩
          refine WR.step (Ex.notF rfl) (Wn.none rfl) rfl rfl ?_
          refine WR.nil ?_
          refine WQ.then ?_
          refine WC.condT rfl ?_
          refine WC.ret ?_
          (repeat (first | refine WQ.thenRet ?_ | refine WQ.inBlockRet ?_))
          refine WQ.ret0X rfl ?_
          subst hC
          exact ⟨_, M, Lc, rfl, H.drop (by exact (List.sublist_cons_self _ _).trans (List.sublist_cons_self _ _)), .inr ⟨_, hpre, hzc⟩⟩
  ·
    refine WR.nil ?_
    refine WQ.then ?_
    refine WC.condF rfl ?_
    refine WC.exit ?_
    refine WQ.thenExit ?_
    refine WQ.thenExit ?_
    refine WQ.exitHere ?_
    refine WQ.end0X rfl ?_
    subst hC
    rw [show k = (l.length + 2) / 3 by omega] at hzc
    exact ⟨_, M, Lc, rfl, H.drop (List.sublist_cons_self _ _), .inl hzc⟩

theorem groups_spec (bv : Value) (l : List UInt8) : CtO Try.prog 18 [bv] (fun M => Bs M bv l) (fun r _ its => ∃ bb, r = .func (.func 26) #[] #[ptr bb 0] ∧ its = [.blk bb (.cells #[bv] 22)]) := by
  refine CtO.of Try.func18 (enters Try.func18 (by kernel_rfl) rfl) rfl rfl rfl ?_
  intro w0 M0 H hp
  refine WC.seq ?_
  refine WC.region ?_
  refine WR.box [_] H rfl (One.cells (by first | exact One.slice _ _ _ | exact Sl.one (by assumption) | exact StX.rowOne H (by repeat (first | exact List.Mem.head _ | apply List.Mem.tail)))) (Wn.none rfl) rfl ?_
  intro b1 w H
  refine WR.step (Ex.assign rfl) (Wn.none rfl) rfl rfl ?_
  refine WR.nil ?_
  refine WQ.then ?_
  refine WC.seq ?_
  refine WC.region ?_
  refine WR.step (Ex.makeFunc rfl) (Wn.none rfl) rfl rfl ?_
  refine WR.step (Ex.assign rfl) (Wn.none rfl) rfl rfl ?_
  refine WR.nil ?_
  refine WQ.then ?_
  refine WC.ret ?_
  (repeat (first | refine WQ.thenRet ?_ | refine WQ.inBlockRet ?_))
  refine WQ.ret1O rfl rfl H (List.Sublist.refl _) ?_
  exact ⟨_, rfl, rfl⟩

theorem encode_spec (bv : Value) (l : List UInt8) (hs : l.length ≤ 12000) : Ct Try.prog 9 [bv] (fun M => Bs M bv l) (fun r M => ∃ v, r = .tuple #[v, fault 0 0] ∧ Bs M v (encode l)) := by
  refine Ct.ofM Try.func9 (enters Try.func9 (by kernel_rfl) rfl) rfl rfl rfl ?_
  intro w0 M0 H hp
  refine WC.seq ?_
  refine WC.region ?_
  refine WR.step (Ex.assign rfl) (Wn.none rfl) rfl rfl ?_
  refine WR.alloc [_, _] H Try.zeroValue25 rfl (Wn.none rfl) rfl ?_
  intro b3 w H
  refine WR.nil ?_
  refine WQ.then ?_
  refine WC.seq ?_
  refine WC.seq ?_
  refine WC.region ?_
  refine WR.step (Ex.move rfl) (Wn.none rfl) rfl rfl ?_
  first | refine WR.step (Ex.lenSl Try.underlying22 (by assumption) rfl) (Wn.none rfl) rfl rfl ?_ | refine WR.step (Ex.lenRow Try.underlying22 H (by repeat (first | exact List.Mem.head _ | apply List.Mem.tail)) rfl) (Wn.none rfl) rfl rfl ?_ | refine WR.step (Ex.lenSlice Try.underlying22 rfl) (Wn.none rfl) rfl rfl ?_
  refine WR.stepF (Ex.gtr rfl rfl) (by omega) (Wn.none rfl) rfl rfl ?_
  refine WR.nil ?_
  refine WQ.then ?_
  refine WC.condF rfl ?_
  refine WC.skip ?_
  refine WQ.then ?_
  refine WC.seq ?_
  refine WC.region ?_
  refine WR.alloc [_] H Try.zeroValue22 rfl (Wn.none rfl) rfl ?_
  intro b4 w H
  refine WR.nil ?_
  refine WQ.then ?_
  refine WC.seq ?_
  refine WC.region ?_
  refine WR.alloc [_] H Try.zeroValue3 rfl (Wn.none rfl) rfl ?_
  intro b5 w H
  refine WR.store [_] H rfl rfl rfl (by repeat (first | exact Upd.head | apply Upd.tail)) Try.sizeOf3 rfl (by rfl) (by rfl) (Wn.none rfl) ?_
  intro w H
  refine WR.nil ?_
  refine WQ.then ?_
  refine WC.seq ?_
  refine WC.seq ?_
  refine WC.region ?_
  refine WR.step (Ex.move rfl) (Wn.none rfl) rfl rfl ?_
  replace H := H.newRow 5 encB
  refine WR.callO H (groups_spec _ _) rfl (by assumption) (Wn.none rfl) rfl ?_
  intro v12 M w its H hle hr12
  replace hp := hp.mono hle
  obtain ⟨bb, rfl, rfl⟩ := hr12
  simp only [List.cons_append, List.nil_append] at H
  refine WR.nil ?_
  refine WQ.then ?_
  refine WC.block ?_
  refine WC.rangeFunc H rfl (groups_iter bb bv l (by omega)) (.left (.left (.left (.left (.right .nil))))) (hp) rfl (fun pre Lc _ => ∃ v, Lc = [RowI 5 encB v (encRun pre).1, .blk b5 (.cells #[encN (encRun pre).2] 3), .blk b4 (.cells #[v] 22)]) (fun _ _ _ _ => False) (fun _ _ _ _ h _ => h) (⟨_, rfl⟩) ?_ ?_ ?_
  ·
    intro lid rc hrc pre x Lc w M hpre hz H
    obtain ⟨v, rfl⟩ := hz
    have hi4 := ini_len hpre
    have hiv := encRun_inv pre hi4.2.1
    have hx4 := hi4.1
    refine WC.region ?_
    refine WR.alloc [_, _, _, _] H Try.zeroValue37 rfl (Wn.none rfl) rfl ?_
    intro b6 w H
    refine WR.store (x.map encB) H rfl rfl rfl (by repeat (first | exact Upd.head | apply Upd.tail)) Try.sizeOf37 (by simp [hx4]) rfl (by simp; exact fun _ _ => rfl) (Wn.none rfl) ?_
    intro w H
    refine WR.nil ?_
    refine WQ.begin hrc H (by repeat (first | exact Upd.head | apply Upd.tail)) ?_
    intro w H
    refine WC.block ?_
    refine WC.seq ?_
    refine WC.seq ?_
    refine WC.region ?_
    first | refine WR.step (Ex.loadM H rfl (by assumption) Try.isAgg3) (Wn.none rfl) rfl rfl ?_ | refine WR.step (Ex.load1 H rfl (by repeat (first | exact List.Mem.head _ | apply List.Mem.tail)) Try.isAgg3 (by rfl)) (Wn.none rfl) rfl rfl ?_
    refine WR.split (Ex.eql rfl rfl) (Wn.none rfl) rfl rfl (fun h7_1 => ?_) (fun h7_1 => ?_)
    ·
      refine WR.nil ?_
      refine WQ.then ?_
      refine WC.condT rfl ?_
      refine WC.seq ?_
      refine WC.region ?_
      first | refine WR.step (Ex.loadM H rfl (by assumption) Try.isAgg22) (Wn.none rfl) rfl rfl ?_ | refine WR.step (Ex.load1 H rfl (by repeat (first | exact List.Mem.head _ | apply List.Mem.tail)) Try.isAgg22 (by rfl)) (Wn.none rfl) rfl rfl ?_
      refine WR.lit (enc := encB) ty22 [13, 10] H rfl (by rfl) (fun _ => rfl) rfl rfl (Wn.none rfl) rfl ?_
      intro v17 M w H hle hl17
      refine WR.appendSl ty22 (fun _ => rfl) H rfl (fun _ => by repeat (first | exact Upd.head | apply Upd.tail)) rfl (by assumption) (by first | omega | (simp only [List.length_cons, List.length_nil]; omega) | (simp only [List.length_append, List.length_cons, List.length_nil]; omega)) (by first | (simp only [maxLen, List.length_cons, List.length_nil]; omega) | (simp only [maxLen, List.length_append, List.length_cons, List.length_nil]; omega)) (Wn.none rfl) rfl ?_
      intro v18 w H
      refine WR.putV [_] H rfl rfl (by first | exact One.slice _ _ _ | exact Sl.one (by assumption) | exact StX.rowOne H (by repeat (first | exact List.Mem.head _ | apply List.Mem.tail))) (by repeat (first | exact Upd.head | apply Upd.tail)) (by rfl) Try.sizeOf22 (by first | decide | (simp; done) | (simp; omega)) (Wn.none rfl) ?_
      intro w H
      refine WR.nil ?_
      refine WQ.then ?_
      refine WC.region ?_
      refine WR.store [_] H rfl rfl rfl (by repeat (first | exact Upd.head | apply Upd.tail)) Try.sizeOf3 rfl (by rfl) (by rfl) (Wn.none rfl) ?_
      intro w H
      refine WR.nil ?_
      refine WQ.then ?_
      refine WC.seq ?_
      refine WC.draw (m := 4) rfl rfl H ?_
      intro w H
      refine WA.two (i := 0) (j := 1) (by kernel_rfl) rfl rfl ?_ ?_
      ·
        first | refine WR.step (Ex.loadM H rfl (by assumption) Try.isAgg22) (Wn.none rfl) rfl rfl ?_ | refine WR.step (Ex.load1 H rfl (by repeat (first | exact List.Mem.head _ | apply List.Mem.tail)) Try.isAgg22 (by rfl)) (Wn.none rfl) rfl rfl ?_
        refine WR.nil (WQ.any ?_)
        refine WA.one (i := 1) (by kernel_rfl) rfl ?_
        refine WR.stepE (v' := .slice (some ⟨b6, 0, none⟩) x.length x.length) (Ex.sliceArr Try.underlying37 Try.sizeOf5 rfl) (by rw [hx4]) (Wn.none rfl) rfl rfl ?_
        refine WR.nil (WQ.any ?_)
        refine WA.one (i := 2) (by kernel_rfl) rfl ?_
        refine WR.appendBlk ty22 (fun _ => rfl) H rfl (fun _ => by repeat (first | exact Upd.head | apply Upd.tail)) rfl (by repeat (first | exact List.Mem.head _ | apply List.Mem.tail)) (by first | omega | (simp only [List.length_append, List.length_cons, List.length_nil]; omega)) (by first | (simp only [maxLen]; omega) | (simp only [maxLen, List.length_append, List.length_cons, List.length_nil]; omega)) (Wn.none rfl) rfl ?_
        intro v21 w H
        refine WR.nil (WQ.any ?_)
        refine WA.one (i := 3) (by kernel_rfl) rfl ?_
        refine WR.putV [_] H rfl rfl (by first | exact One.slice _ _ _ | exact Sl.one (by assumption) | exact StX.rowOne H (by repeat (first | exact List.Mem.head _ | apply List.Mem.tail))) (by repeat (first | exact Upd.head | apply Upd.tail)) (by rfl) Try.sizeOf22 (by first | decide | (simp; done) | (simp; omega)) (Wn.none rfl) ?_
        intro w H
        refine WR.nil (WQ.any ?_)
        refine WA.done (by kernel_rfl) ?_
        refine WQ.then ?_
        refine WC.region ?_
        first | refine WR.step (Ex.loadM H rfl (by assumption) Try.isAgg3) (Wn.none rfl) rfl rfl ?_ | refine WR.step (Ex.load1 H rfl (by repeat (first | exact List.Mem.head _ | apply List.Mem.tail)) Try.isAgg3 (by rfl)) (Wn.none rfl) rfl rfl ?_
        refine WR.step (Ex.add64 rfl rfl (by omega)) (Wn.none rfl) rfl rfl ?_
        refine WR.store [_] H rfl rfl rfl (by repeat (first | exact Upd.head | apply Upd.tail)) Try.sizeOf3 rfl (by rfl) (by rfl) (Wn.none rfl) ?_
        intro w H
        refine WR.nil ?_
        refine WQ.inBlock ?_
        refine WQ.roundOn hrc (H.drop (List.sublist_cons_self _ _)) ⟨v21, ?_⟩
        rw [encRun_next, encStep, if_pos (by omega)]
        rfl
      ·
        refine WR.stepE (v' := .slice (some ⟨b6, 0, none⟩) x.length x.length) (Ex.sliceArr Try.underlying37 Try.sizeOf5 rfl) (by rw [hx4]) (Wn.none rfl) rfl rfl ?_
        refine WR.nil (WQ.any ?_)
        refine WA.one (i := 0) (by kernel_rfl) rfl ?_
        first | refine WR.step (Ex.loadM H rfl (by assumption) Try.isAgg22) (Wn.none rfl) rfl rfl ?_ | refine WR.step (Ex.load1 H rfl (by repeat (first | exact List.Mem.head _ | apply List.Mem.tail)) Try.isAgg22 (by rfl)) (Wn.none rfl) rfl rfl ?_
        refine WR.nil (WQ.any ?_)
        refine WA.one (i := 2) (by kernel_rfl) rfl ?_
        refine WR.appendBlk ty22 (fun _ => rfl) H rfl (fun _ => by repeat (first | exact Upd.head | apply Upd.tail)) rfl (by repeat (first | exact List.Mem.head _ | apply List.Mem.tail)) (by first | omega | (simp only [List.length_append, List.length_cons, List.length_nil]; omega)) (by first | (simp only [maxLen]; omega) | (simp only [maxLen, List.length_append, List.length_cons, List.length_nil]; omega)) (Wn.none rfl) rfl ?_
        intro v21 w H
        refine WR.nil (WQ.any ?_)
        refine WA.one (i := 3) (by kernel_rfl) rfl ?_
        refine WR.putV [_] H rfl rfl (by first | exact One.slice _ _ _ | exact Sl.one (by assumption) | exact StX.rowOne H (by repeat (first | exact List.Mem.head _ | apply List.Mem.tail))) (by repeat (first | exact Upd.head | apply Upd.tail)) (by rfl) Try.sizeOf22 (by first | decide | (simp; done) | (simp; omega)) (Wn.none rfl) ?_
        intro w H
        refine WR.nil (WQ.any ?_)
        refine WA.done (by kernel_rfl) ?_
        refine WQ.then ?_
        refine WC.region ?_
        first | refine WR.step (Ex.loadM H rfl (by assumption) Try.isAgg3) (Wn.none rfl) rfl rfl ?_ | refine WR.step (Ex.load1 H rfl (by repeat (first | exact List.Mem.head _ | apply List.Mem.tail)) Try.isAgg3 (by rfl)) (Wn.none rfl) rfl rfl ?_
        refine WR.step (Ex.add64 rfl rfl (by omega)) (Wn.none rfl) rfl rfl ?_
        refine WR.store [_] H rfl rfl rfl (by repeat (first | exact Upd.head | apply Upd.tail)) Try.sizeOf3 rfl (by rfl) (by rfl) (Wn.none rfl) ?_
        intro w H
        refine WR.nil ?_
        refine WQ.inBlock ?_
        refine WQ.roundOn hrc (H.drop (List.sublist_cons_self _ _)) ⟨v21, ?_⟩
        rw [encRun_next, encStep, if_pos (by omega)]
        rfl
    ·
      refine WR.nil ?_
      refine WQ.then ?_
      refine WC.condF rfl ?_
      refine WC.skip ?_
      refine WQ.then ?_
      refine WC.seq ?_
      refine WC.draw (m := 4) rfl rfl H ?_
      intro w H
      refine WA.two (i := 0) (j := 1) (by kernel_rfl) rfl rfl ?_ ?_
      ·
        first | refine WR.step (Ex.loadM H rfl (by assumption) Try.isAgg22) (Wn.none rfl) rfl rfl ?_ | refine WR.step (Ex.load1 H rfl (by repeat (first | exact List.Mem.head _ | apply List.Mem.tail)) Try.isAgg22 (by rfl)) (Wn.none rfl) rfl rfl ?_
        refine WR.nil (WQ.any ?_)
        refine WA.one (i := 1) (by kernel_rfl) rfl ?_
        refine WR.stepE (v' := .slice (some ⟨b6, 0, none⟩) x.length x.length) (Ex.sliceArr Try.underlying37 Try.sizeOf5 rfl) (by rw [hx4]) (Wn.none rfl) rfl rfl ?_
        refine WR.nil (WQ.any ?_)
        refine WA.one (i := 2) (by kernel_rfl) rfl ?_
        refine WR.appendBlk ty22 (fun _ => rfl) H rfl (fun _ => by repeat (first | exact Upd.head | apply Upd.tail)) rfl (by repeat (first | exact List.Mem.head _ | apply List.Mem.tail)) (by first | omega | (simp only [List.length_append, List.length_cons, List.length_nil]; omega)) (by first | (simp only [maxLen]; omega) | (simp only [maxLen, List.length_append, List.length_cons, List.length_nil]; omega)) (Wn.none rfl) rfl ?_
        intro v21 w H
        refine WR.nil (WQ.any ?_)
        refine WA.one (i := 3) (by kernel_rfl) rfl ?_
        refine WR.putV [_] H rfl rfl (by first | exact One.slice _ _ _ | exact Sl.one (by assumption) | exact StX.rowOne H (by repeat (first | exact List.Mem.head _ | apply List.Mem.tail))) (by repeat (first | exact Upd.head | apply Upd.tail)) (by rfl) Try.sizeOf22 (by first | decide | (simp; done) | (simp; omega)) (Wn.none rfl) ?_
        intro w H
        refine WR.nil (WQ.any ?_)
        refine WA.done (by kernel_rfl) ?_
        refine WQ.then ?_
        refine WC.region ?_
        first | refine WR.step (Ex.loadM H rfl (by assumption) Try.isAgg3) (Wn.none rfl) rfl rfl ?_ | refine WR.step (Ex.load1 H rfl (by repeat (first | exact List.Mem.head _ | apply List.Mem.tail)) Try.isAgg3 (by rfl)) (Wn.none rfl) rfl rfl ?_
        refine WR.step (Ex.add64 rfl rfl (by omega)) (Wn.none rfl) rfl rfl ?_
        refine WR.store [_] H rfl rfl rfl (by repeat (first | exact Upd.head | apply Upd.tail)) Try.sizeOf3 rfl (by rfl) (by rfl) (Wn.none rfl) ?_
        intro w H
        refine WR.nil ?_
        refine WQ.inBlock ?_
        refine WQ.roundOn hrc (H.drop (List.sublist_cons_self _ _)) ⟨v21, ?_⟩
        rw [encRun_next, encStep, if_neg (by omega)]
        rfl
      ·
        refine WR.stepE (v' := .slice (some ⟨b6, 0, none⟩) x.length x.length) (Ex.sliceArr Try.underlying37 Try.sizeOf5 rfl) (by rw [hx4]) (Wn.none rfl) rfl rfl ?_
        refine WR.nil (WQ.any ?_)
        refine WA.one (i := 0) (by kernel_rfl) rfl ?_
        first | refine WR.step (Ex.loadM H rfl (by assumption) Try.isAgg22) (Wn.none rfl) rfl rfl ?_ | refine WR.step (Ex.load1 H rfl (by repeat (first | exact List.Mem.head _ | apply List.Mem.tail)) Try.isAgg22 (by rfl)) (Wn.none rfl) rfl rfl ?_
        refine WR.nil (WQ.any ?_)
        refine WA.one (i := 2) (by kernel_rfl) rfl ?_
        refine WR.appendBlk ty22 (fun _ => rfl) H rfl (fun _ => by repeat (first | exact Upd.head | apply Upd.tail)) rfl (by repeat (first | exact List.Mem.head _ | apply List.Mem.tail)) (by first | omega | (simp only [List.length_append, List.length_cons, List.length_nil]; omega)) (by first | (simp only [maxLen]; omega) | (simp only [maxLen, List.length_append, List.length_cons, List.length_nil]; omega)) (Wn.none rfl) rfl ?_
        intro v21 w H
        refine WR.nil (WQ.any ?_)
        refine WA.one (i := 3) (by kernel_rfl) rfl ?_
        refine WR.putV [_] H rfl rfl (by first | exact One.slice _ _ _ | exact Sl.one (by assumption) | exact StX.rowOne H (by repeat (first | exact List.Mem.head _ | apply List.Mem.tail))) (by repeat (first | exact Upd.head | apply Upd.tail)) (by rfl) Try.sizeOf22 (by first | decide | (simp; done) | (simp; omega)) (Wn.none rfl) ?_
        intro w H
        refine WR.nil (WQ.any ?_)
        refine WA.done (by kernel_rfl) ?_
        refine WQ.then ?_
        refine WC.region ?_
        first | refine WR.step (Ex.loadM H rfl (by assumption) Try.isAgg3) (Wn.none rfl) rfl rfl ?_ | refine WR.step (Ex.load1 H rfl (by repeat (first | exact List.Mem.head _ | apply List.Mem.tail)) Try.isAgg3 (by rfl)) (Wn.none rfl) rfl rfl ?_
        refine WR.step (Ex.add64 rfl rfl (by omega)) (Wn.none rfl) rfl rfl ?_
        refine WR.store [_] H rfl rfl rfl (by repeat (first | exact Upd.head | apply Upd.tail)) Try.sizeOf3 rfl (by rfl) (by rfl) (Wn.none rfl) ?_
        intro w H
        refine WR.nil ?_
        refine WQ.inBlock ?_
        refine WQ.roundOn hrc (H.drop (List.sublist_cons_self _ _)) ⟨v21, ?_⟩
        rw [encRun_next, encStep, if_neg (by omega)]
        rfl
  ·
    intro Dm w M Lc H hle hz
    obtain ⟨v, rfl⟩ := hz
    simp only [List.cons_append, List.nil_append] at H
    have hiv := encRun_inv (grps l) (grps_all l)
    have hgl := grps_len l
    refine WQ.inBlock ?_
    refine WQ.then ?_
    refine WC.seq ?_
    refine WC.seq ?_
    refine WC.region ?_
    first | refine WR.step (Ex.loadM H rfl (by assumption) Try.isAgg3) (Wn.none rfl) rfl rfl ?_ | refine WR.step (Ex.load1 H rfl (by repeat (first | exact List.Mem.head _ | apply List.Mem.tail)) Try.isAgg3 (by rfl)) (Wn.none rfl) rfl rfl ?_
    refine WR.split (Ex.gtr rfl rfl) (Wn.none rfl) rfl rfl (fun h12_1 => ?_) (fun h12_1 => ?_)
    ·
      refine WR.nil ?_
      refine WQ.then ?_
      refine WC.condT rfl ?_
      refine WC.region ?_
      first | refine WR.step (Ex.loadM H rfl (by assumption) Try.isAgg22) (Wn.none rfl) rfl rfl ?_ | refine WR.step (Ex.load1 H rfl (by repeat (first | exact List.Mem.head _ | apply List.Mem.tail)) Try.isAgg22 (by rfl)) (Wn.none rfl) rfl rfl ?_
      refine WR.lit (enc := encB) ty22 [13, 10] H rfl (by rfl) (fun _ => rfl) rfl rfl (Wn.none rfl) rfl ?_
      intro v27 M w H hle hl27
      refine WR.appendSl ty22 (fun _ => rfl) H rfl (fun _ => by repeat (first | exact Upd.head | apply Upd.tail)) rfl (by assumption) (by first | omega | (simp only [List.length_cons, List.length_nil]; omega) | (simp only [List.length_append, List.length_cons, List.length_nil]; omega)) (by first | (simp only [maxLen, List.length_cons, List.length_nil]; omega) | (simp only [maxLen, List.length_append, List.length_cons, List.length_nil]; omega)) (Wn.none rfl) rfl ?_
      intro v28 w H
      refine WR.putV [_] H rfl rfl (by first | exact One.slice _ _ _ | exact Sl.one (by assumption) | exact StX.rowOne H (by repeat (first | exact List.Mem.head _ | apply List.Mem.tail))) (by repeat (first | exact Upd.head | apply Upd.tail)) (by rfl) Try.sizeOf22 (by first | decide | (simp; done) | (simp; omega)) (Wn.none rfl) ?_
      intro w H
      refine WR.nil ?_
      refine WQ.then ?_
      refine WC.seq ?_
      refine WC.draw (m := 4) rfl rfl H ?_
      intro w H
      refine WA.two (i := 0) (j := 1) (by kernel_rfl) rfl rfl ?_ ?_
      ·
        first | refine WR.step (Ex.loadM H rfl (by assumption) Try.isAgg22) (Wn.none rfl) rfl rfl ?_ | refine WR.step (Ex.load1 H rfl (by repeat (first | exact List.Mem.head _ | apply List.Mem.tail)) Try.isAgg22 (by rfl)) (Wn.none rfl) rfl rfl ?_
        refine WR.nil (WQ.any ?_)
        refine WA.one (i := 1) (by kernel_rfl) rfl ?_
        refine WR.call H (none_spec) rfl (trivial) (Wn.none rfl) rfl ?_
        intro v30 M w H hle hr30
        replace hl27 := hl27.mono hle
        obtain rfl := hr30
        refine WR.nil (WQ.any ?_)
        refine WA.one (i := 2) (by kernel_rfl) rfl ?_
        refine WR.step (Ex.assign rfl) (Wn.none rfl) rfl rfl ?_
        refine WR.nil (WQ.any ?_)
        refine WA.one (i := 3) (by kernel_rfl) rfl ?_
        refine WR.store [_, _] H rfl rfl rfl (by repeat (first | exact Upd.head | apply Upd.tail)) Try.sizeOf25 rfl (by rfl) (by rfl) (Wn.none rfl) ?_
        intro w H
        refine WR.nil (WQ.any ?_)
        refine WA.done (by kernel_rfl) ?_
        refine WQ.then ?_
        refine WC.ret ?_
        (repeat (first | refine WQ.thenRet ?_ | refine WQ.inBlockRet ?_))
        obtain ⟨M, hle, hf, H⟩ := H.freezeRow (v := v28) (enc := encB) (t := 5) (by repeat (first | exact Rem.head | apply Rem.tail))
        refine WQ.retM1 H (by repeat (first | exact Rem.head | apply Rem.tail)) ?_
        intro w H
        refine ⟨_, resv_run2 rfl rfl ⟨_, rfl, H.loadAgg (by repeat (first | exact List.Mem.head _ | apply List.Mem.tail)) Try.isAgg25 Try.sizeOf25 (by rfl)⟩, _, _, rfl, H.ext, ?_⟩
        refine ⟨_, rfl, ?_⟩
        rw [encode, if_pos (by omega)]
        exact hf
      ·
        refine WR.call H (none_spec) rfl (trivial) (Wn.none rfl) rfl ?_
        intro v30 M w H hle hr30
        replace hl27 := hl27.mono hle
        obtain rfl := hr30
        refine WR.nil (WQ.any ?_)
        refine WA.one (i := 0) (by kernel_rfl) rfl ?_
        first | refine WR.step (Ex.loadM H rfl (by assumption) Try.isAgg22) (Wn.none rfl) rfl rfl ?_ | refine WR.step (Ex.load1 H rfl (by repeat (first | exact List.Mem.head _ | apply List.Mem.tail)) Try.isAgg22 (by rfl)) (Wn.none rfl) rfl rfl ?_
        refine WR.nil (WQ.any ?_)
        refine WA.one (i := 2) (by kernel_rfl) rfl ?_
        refine WR.step (Ex.assign rfl) (Wn.none rfl) rfl rfl ?_
        refine WR.nil (WQ.any ?_)
        refine WA.one (i := 3) (by kernel_rfl) rfl ?_
        refine WR.store [_, _] H rfl rfl rfl (by repeat (first | exact Upd.head | apply Upd.tail)) Try.sizeOf25 rfl (by rfl) (by rfl) (Wn.none rfl) ?_
        intro w H
        refine WR.nil (WQ.any ?_)
        refine WA.done (by kernel_rfl) ?_
        refine WQ.then ?_
        refine WC.ret ?_
        (repeat (first | refine WQ.thenRet ?_ | refine WQ.inBlockRet ?_))
        obtain ⟨M, hle, hf, H⟩ := H.freezeRow (v := v28) (enc := encB) (t := 5) (by repeat (first | exact Rem.head | apply Rem.tail))
        refine WQ.retM1 H (by repeat (first | exact Rem.head | apply Rem.tail)) ?_
        intro w H
        refine ⟨_, resv_run2 rfl rfl ⟨_, rfl, H.loadAgg (by repeat (first | exact List.Mem.head _ | apply List.Mem.tail)) Try.isAgg25 Try.sizeOf25 (by rfl)⟩, _, _, rfl, H.ext, ?_⟩
        refine ⟨_, rfl, ?_⟩
        rw [encode, if_pos (by omega)]
        exact hf
    ·
      refine WR.nil ?_
      refine WQ.then ?_
      refine WC.condF rfl ?_
      refine WC.skip ?_
      refine WQ.then ?_
      refine WC.seq ?_
      refine WC.draw (m := 4) rfl rfl H ?_
      intro w H
      refine WA.two (i := 0) (j := 1) (by kernel_rfl) rfl rfl ?_ ?_
      ·
        first | refine WR.step (Ex.loadM H rfl (by assumption) Try.isAgg22) (Wn.none rfl) rfl rfl ?_ | refine WR.step (Ex.load1 H rfl (by repeat (first | exact List.Mem.head _ | apply List.Mem.tail)) Try.isAgg22 (by rfl)) (Wn.none rfl) rfl rfl ?_
        refine WR.nil (WQ.any ?_)
        refine WA.one (i := 1) (by kernel_rfl) rfl ?_
        refine WR.call H (none_spec) rfl (trivial) (Wn.none rfl) rfl ?_
        intro v30 M w H hle hr30
        obtain rfl := hr30
        refine WR.nil (WQ.any ?_)
        refine WA.one (i := 2) (by kernel_rfl) rfl ?_
        refine WR.step (Ex.assign rfl) (Wn.none rfl) rfl rfl ?_
        refine WR.nil (WQ.any ?_)
        refine WA.one (i := 3) (by kernel_rfl) rfl ?_
        refine WR.store [_, _] H rfl rfl rfl (by repeat (first | exact Upd.head | apply Upd.tail)) Try.sizeOf25 rfl (by rfl) (by rfl) (Wn.none rfl) ?_
        intro w H
        refine WR.nil (WQ.any ?_)
        refine WA.done (by kernel_rfl) ?_
        refine WQ.then ?_
        refine WC.ret ?_
        (repeat (first | refine WQ.thenRet ?_ | refine WQ.inBlockRet ?_))
        obtain ⟨M, hle, hf, H⟩ := H.freezeRow (v := v) (enc := encB) (t := 5) (by repeat (first | exact Rem.head | apply Rem.tail))
        refine WQ.retM1 H (by repeat (first | exact Rem.head | apply Rem.tail)) ?_
        intro w H
        refine ⟨_, resv_run2 rfl rfl ⟨_, rfl, H.loadAgg (by repeat (first | exact List.Mem.head _ | apply List.Mem.tail)) Try.isAgg25 Try.sizeOf25 (by rfl)⟩, _, _, rfl, H.ext, ?_⟩
        refine ⟨_, rfl, ?_⟩
        rw [encode, if_neg (by omega)]
        exact hf
      ·
        refine WR.call H (none_spec) rfl (trivial) (Wn.none rfl) rfl ?_
        intro v30 M w H hle hr30
        obtain rfl := hr30
        refine WR.nil (WQ.any ?_)
        refine WA.one (i := 0) (by kernel_rfl) rfl ?_
        first | refine WR.step (Ex.loadM H rfl (by assumption) Try.isAgg22) (Wn.none rfl) rfl rfl ?_ | refine WR.step (Ex.load1 H rfl (by repeat (first | exact List.Mem.head _ | apply List.Mem.tail)) Try.isAgg22 (by rfl)) (Wn.none rfl) rfl rfl ?_
        refine WR.nil (WQ.any ?_)
        refine WA.one (i := 2) (by kernel_rfl) rfl ?_
        refine WR.step (Ex.assign rfl) (Wn.none rfl) rfl rfl ?_
        refine WR.nil (WQ.any ?_)
        refine WA.one (i := 3) (by kernel_rfl) rfl ?_
        refine WR.store [_, _] H rfl rfl rfl (by repeat (first | exact Upd.head | apply Upd.tail)) Try.sizeOf25 rfl (by rfl) (by rfl) (Wn.none rfl) ?_
        intro w H
        refine WR.nil (WQ.any ?_)
        refine WA.done (by kernel_rfl) ?_
        refine WQ.then ?_
        refine WC.ret ?_
        (repeat (first | refine WQ.thenRet ?_ | refine WQ.inBlockRet ?_))
        obtain ⟨M, hle, hf, H⟩ := H.freezeRow (v := v) (enc := encB) (t := 5) (by repeat (first | exact Rem.head | apply Rem.tail))
        refine WQ.retM1 H (by repeat (first | exact Rem.head | apply Rem.tail)) ?_
        intro w H
        refine ⟨_, resv_run2 rfl rfl ⟨_, rfl, H.loadAgg (by repeat (first | exact List.Mem.head _ | apply List.Mem.tail)) Try.isAgg25 Try.sizeOf25 (by rfl)⟩, _, _, rfl, H.ext, ?_⟩
        refine ⟨_, rfl, ?_⟩
        rw [encode, if_neg (by omega)]
        exact hf
  ·
    intro Dm w M Lc c pre H hle hpre hz
    exact hz.elim

theorem encode_big (bv : Value) (l : List UInt8) (hs : 12000 < l.length) : Ct Try.prog 9 [bv] (fun M => Bs M bv l) (fun r _ => r = .tuple #[.slice none 0 0, fault 1 (-1)]) := by
  refine Ct.ofM Try.func9 (enters Try.func9 (by kernel_rfl) rfl) rfl rfl rfl ?_
  intro w0 M0 H hp
  refine WC.seq ?_
  refine WC.region ?_
  refine WR.step (Ex.assign rfl) (Wn.none rfl) rfl rfl ?_
  refine WR.alloc [_, _] H Try.zeroValue25 rfl (Wn.none rfl) rfl ?_
  intro b3 w H
  refine WR.nil ?_
  refine WQ.then ?_
  refine WC.seq ?_
  refine WC.seq ?_
  refine WC.region ?_
  refine WR.step (Ex.move rfl) (Wn.none rfl) rfl rfl ?_
  first | refine WR.step (Ex.lenSl Try.underlying22 (by assumption) rfl) (Wn.none rfl) rfl rfl ?_ | refine WR.step (Ex.lenRow Try.underlying22 H (by repeat (first | exact List.Mem.head _ | apply List.Mem.tail)) rfl) (Wn.none rfl) rfl rfl ?_ | refine WR.step (Ex.lenSlice Try.underlying22 rfl) (Wn.none rfl) rfl rfl ?_
  refine WR.stepT (Ex.gtr rfl rfl) (by omega) (Wn.none rfl) rfl rfl ?_
  refine WR.nil ?_
  refine WQ.then ?_
  refine WC.condT rfl ?_
  refine WC.seq ?_
  refine WC.region ?_
  refine WR.call H (fault_spec _ _) rfl (trivial) (Wn.none rfl) rfl ?_
  intro v10 M w H hle hr10
  replace hp := hp.mono hle
  obtain rfl := hr10
  refine WR.step (Ex.assign rfl) (Wn.none rfl) rfl rfl ?_
  refine WR.store [_, _] H rfl rfl rfl (by repeat (first | exact Upd.head | apply Upd.tail)) Try.sizeOf25 rfl (by rfl) (by rfl) (Wn.none rfl) ?_
  intro w H
  refine WR.nil ?_
  refine WQ.then ?_
  refine WC.ret ?_
  (repeat (first | refine WQ.thenRet ?_ | refine WQ.inBlockRet ?_))
  refine WQ.retM0 (resv_run2 rfl rfl ⟨_, rfl, H.loadAgg (by repeat (first | exact List.Mem.head _ | apply List.Mem.tail)) Try.isAgg25 Try.sizeOf25 (by rfl)⟩) ⟨_, _, rfl, H.ext, ?_⟩
  exact rfl

end Go.Proofs.Ytgkpcfgbbgpihaa
