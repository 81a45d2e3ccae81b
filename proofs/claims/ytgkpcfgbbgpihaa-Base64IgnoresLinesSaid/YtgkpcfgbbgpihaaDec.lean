/-
  the program: decoding: walks over the program's own operations, written by a program of this repository (wip/tools/gen.py) out of a plan.
-/
import Derived.Test.YtgkpcfgbbgpihaaRef
import Derived.Test.YtgkpcfgbbgpihaaLib
import Derived.KernelRfl
namespace Go.Proofs.Ytgkpcfgbbgpihaa
open Go Go.RowKit Go.Ph

open Go.Ph.B64
theorem equal_spec (a b : Value) (l m : List UInt8) : Ct Try.prog 25 [a, b] (fun M => Bs M a l ∧ Bs M b m) (fun r _ => r = .bool (decide (l = m))) := by
  refine Ct.of Try.func25 (enters Try.func25 (by kernel_rfl) rfl) rfl rfl rfl ?_
  intro w0 M0 H hp
  obtain ⟨ha, hb⟩ := hp
  refine WC.seq ?_
  refine WC.region ?_
  refine WR.step (Ex.assign rfl) (Wn.none rfl) rfl rfl ?_
  refine WR.nil ?_
  refine WQ.then ?_
  refine WC.seq ?_
  refine WC.region ?_
  refine WR.step (Ex.move rfl) (Wn.none rfl) rfl rfl ?_
  refine WR.step (Ex.toStr Try.underlying22 Try.underlying5 Try.underlying9 H (by assumption) rfl) (Wn.none rfl) rfl rfl ?_
  refine WR.step (Ex.move rfl) (Wn.none rfl) rfl rfl ?_
  refine WR.step (Ex.toStr Try.underlying22 Try.underlying5 Try.underlying9 H (by assumption) rfl) (Wn.none rfl) rfl rfl ?_
  refine WR.step (Ex.strEql rfl rfl) (Wn.none rfl) rfl rfl ?_
  refine WR.step (Ex.assign rfl) (Wn.none rfl) rfl rfl ?_
  refine WR.nil ?_
  refine WQ.then ?_
  refine WC.ret ?_
  (repeat (first | refine WQ.thenRet ?_ | refine WQ.inBlockRet ?_))
  refine WQ.ret1 rfl rfl H.ext ?_
  exact rfl

theorem next61 {l : List UInt8} {k : Nat} {u : UInt8} (hb : ∀ j u, l[j]? = some u → j < k → u ≠ 61) (hu : l[k]? = some u) (h : ¬ ((u.toNat : Int) = 61)) : ∀ j u, l[j]? = some u → j < k + 1 → u ≠ 61 := by
  intro j x hj hjk
  rcases Nat.lt_or_ge j k with h1 | h1
  · exact hb j x hj h1
  · obtain rfl : j = k := by omega
    rw [hu] at hj; cases hj
    exact fun e => h (by rw [e]; rfl)

theorem lenient_spec (bv : Value) (l : List UInt8) (hs : l.length ≤ 24000) : Ct Try.prog 13 [bv] (fun M => Bs M bv l) (fun r M => ∃ v, r = .tuple #[v, fault 0 0] ∧ Bs M v (lenient l)) := by
  refine Ct.of Try.func13 (enters Try.func13 (by kernel_rfl) rfl) rfl rfl rfl ?_
  intro w0 M0 H hp
  refine WC.seq ?_
  refine WC.region ?_
  refine WR.step (Ex.assign rfl) (Wn.none rfl) rfl rfl ?_
  refine WR.alloc [_, _] H Try.zeroValue25 rfl (Wn.none rfl) rfl ?_
  intro b3 w H
  refine WR.nil ?_
  refine WQ.then ?_
  refine WC.seq ?_
  refine WC.seq ?_
  refine WC.region ?_
  refine WR.step (Ex.move rfl) (Wn.none rfl) rfl rfl ?_
  first | refine WR.step (Ex.lenSl Try.underlying22 (by assumption) rfl) (Wn.none rfl) rfl rfl ?_ | refine WR.step (Ex.lenRow Try.underlying22 H (by repeat (first | exact List.Mem.head _ | apply List.Mem.tail)) rfl) (Wn.none rfl) rfl rfl ?_ | refine WR.step (Ex.lenSlice Try.underlying22 rfl) (Wn.none rfl) rfl rfl ?_
  refine WR.stepF (Ex.gtr rfl rfl) (by omega) (Wn.none rfl) rfl rfl ?_
  refine WR.nil ?_
  refine WQ.then ?_
  refine WC.condF rfl ?_
  refine WC.skip ?_
  refine WQ.then ?_
  refine WC.seq ?_
  refine WC.region ?_
  refine WR.step (Ex.assign rfl) (Wn.none rfl) rfl rfl ?_
  refine WR.nil ?_
  refine WQ.then ?_
  refine WC.seq ?_
  refine WC.region ?_
  refine WR.step (Ex.assign rfl) (Wn.none rfl) rfl rfl ?_
  refine WR.step (Ex.assign rfl) (Wn.none rfl) rfl rfl ?_
  refine WR.nil ?_
  refine WQ.then ?_
  refine WC.cut1 (fun (v : Value) => [(3, ptr b3 0), (4, v)]) (fun (v : Value) w => ∃ M, St w0 M0 M [RowI 5 encB v (lenient l), .blk b3 (.cells #[I 0, I 0] 25)] w) ?_ ?_
  ·
    refine WC.seq ?_
    refine WC.region ?_
    refine WR.step (Ex.move rfl) (Wn.none rfl) rfl rfl ?_
    first | refine WR.step (Ex.lenSl Try.underlying22 (by assumption) rfl) (Wn.none rfl) rfl rfl ?_ | refine WR.step (Ex.lenRow Try.underlying22 H (by repeat (first | exact List.Mem.head _ | apply List.Mem.tail)) rfl) (Wn.none rfl) rfl rfl ?_ | refine WR.step (Ex.lenSlice Try.underlying22 rfl) (Wn.none rfl) rfl rfl ?_
    refine WR.step (Ex.move rfl) (Wn.none rfl) rfl rfl ?_
    refine WR.nil ?_
    refine WQ.then ?_
    refine WC.block ?_
    replace H := H.newRow 5 encB
    refine WC.loop5 (fun (k : Nat) (v : Value) (o : List UInt8) (x : Nat) (b : Nat) => [(3, ptr b3 0), (4, v), (5, encN x), (6, encN b), (14, bv), (15, I (l.length : Int)), (16, I (k : Int))]) (fun (k : Nat) (v : Value) (o : List UInt8) (x : Nat) (b : Nat) w => k ≤ l.length ∧ (∀ j u, l[j]? = some u → j < k → u ≠ 61) ∧ lrun (l.take k) = (o, x, b) ∧ ∃ M, St w0 M0 M [RowI 5 encB v o, .blk b3 (.cells #[I 0, I 0] 25)] w) (fun (k : Nat) (v : Value) (o : List UInt8) (x : Nat) (b : Nat) => l.length - k) (0) (_) (_) (0) (0) ⟨rfl, rfl, rfl, rfl, rfl, rfl, rfl, trivial⟩ (⟨by omega, fun _ _ _ h => absurd h (by omega), rfl, M0, H⟩) ?_
    intro k v o x b w
    rintro ⟨hk, hb61, hst, M, H⟩
    have hb := hp.mono H.ext.le
    have hi := lrun_inv (l.take k)
    have hl2 := lrun_len (l.take k)
    have hl3 : (l.take k).length ≤ l.length := List.length_take_le' _ _
    rw [hst] at hi hl2
    simp only [] at hi hl2
    have hx2 : 2 ^ b ≤ 2 ^ 6 := Nat.pow_le_pow_right (by decide) hi.1.1
    refine WC.seq ?_
    refine WC.region ?_
    refine WR.split (Ex.lss rfl rfl) (Wn.none rfl) rfl rfl (fun h6_0 => ?_) (fun h6_0 => ?_)
    ·
      obtain ⟨u, hu⟩ : ∃ u, l[k]? = some u := ⟨_, List.getElem?_eq_getElem (by omega)⟩
      refine WR.nil ?_
      refine WQ.then ?_
      refine WC.seq ?_
      refine WC.condT rfl ?_
      refine WC.skip ?_
      refine WQ.then ?_
      refine WC.seq ?_
      refine WC.block ?_
      refine WC.seq ?_
      refine WC.region ?_
      refine WR.idxSl Try.underlying22 Try.sizeOf5 (by assumption) rfl rfl (hu) (Wn.none rfl) rfl ?_
      intro p18 hc18
      first | refine WR.step (Ex.loadM H rfl (by assumption) Try.isAgg5) (Wn.none rfl) rfl rfl ?_ | refine WR.step (Ex.load1 H rfl (by repeat (first | exact List.Mem.head _ | apply List.Mem.tail)) Try.isAgg5 (by rfl)) (Wn.none rfl) rfl rfl ?_
      refine WR.step (Ex.assign rfl) (Wn.none rfl) rfl rfl ?_
      refine WR.nil ?_
      refine WQ.then ?_
      refine WC.seq ?_
      refine WC.seq ?_
      refine WC.region ?_
      refine WR.step (Ex.move rfl) (Wn.none rfl) rfl rfl ?_
      refine WR.split (Ex.eql rfl rfl) (Wn.none rfl) rfl rfl (fun h8_1 => ?_) (fun h8_1 => ?_)
      ·
        refine WR.nil ?_
        refine WQ.then ?_
        refine WC.condT rfl ?_
        refine WC.exit ?_
        refine WQ.thenExit ?_
        refine WQ.exitOut rfl ?_
        refine WQ.thenExit ?_
        refine WQ.thenExit ?_
        refine WQ.exitHere ?_
        refine WQ.meet1 (v) ⟨rfl, rfl, trivial⟩ ?_
        refine ⟨M, ?_⟩
        have hlen : lenient l = o := by rw [lenient, upto61_eq l k hb61 (.inr (by rw [hu]; congr 1; exact b_eq.1 h8_1)), hst]
        rw [hlen]
        exact H
      ·
        refine WR.nil ?_
        refine WQ.then ?_
        refine WC.condF rfl ?_
        refine WC.skip ?_
        refine WQ.then ?_
        refine WC.seq ?_
        refine WC.region ?_
        refine WR.litC ty22 Try.underlying5 alpha H rfl (by rfl) rfl rfl (Wn.none rfl) rfl (fun _ => Wn.none rfl) rfl ?_
        intro v23 M w H hle hl23
        replace hb := hb.mono hle
        refine WR.step (Ex.move rfl) (Wn.none rfl) rfl rfl ?_
        refine WR.call H (indexByte_spec _ alpha _) rfl (by assumption) (Wn.none rfl) rfl ?_
        intro v25 M w H hle hr25
        replace hb := hb.mono hle
        replace hl23 := hl23.mono hle
        obtain rfl := hr25
        rw [indexByte_alpha]
        refine WR.step (Ex.assign rfl) (Wn.none rfl) rfl rfl ?_
        refine WR.nil ?_
        refine WQ.then ?_
        refine WC.seq ?_
        refine WC.seq ?_
        refine WC.region ?_
        refine WR.step (Ex.move rfl) (Wn.none rfl) rfl rfl ?_
        refine WR.split (Ex.lss rfl rfl) (Wn.none rfl) rfl rfl (fun h10_1 => ?_) (fun h10_1 => ?_)
        ·
          refine WR.nil ?_
          refine WQ.then ?_
          refine WC.condT rfl ?_
          refine WC.exit ?_
          refine WQ.thenExit ?_
          refine WQ.exitHere ?_
          refine WQ.then ?_
          refine WC.region ?_
          refine WR.step (Ex.add64 rfl rfl (by omega)) (Wn.none rfl) rfl rfl ?_
          refine WR.step (Ex.move rfl) (Wn.none rfl) rfl rfl ?_
          refine WR.nil ?_
          refine WQ.again5 (k + 1) (v) (o) (x) (b) ⟨rfl, rfl, rfl, rfl, rfl, rfl, rfl, trivial⟩ ?_ ?_
          · exact ⟨by omega, next61 hb61 hu h8_1, by rw [lrun_next hu, hst, lstep, if_pos h10_1], M, H⟩
          · omega
        ·
          have hix := val64_idx (c := u) (by omega)
          refine WR.nil ?_
          refine WQ.then ?_
          refine WC.condF rfl ?_
          refine WC.skip ?_
          refine WQ.then ?_
          refine WC.seq ?_
          refine WC.region ?_
          refine WR.step (Ex.move rfl) (Wn.none rfl) rfl rfl ?_
          refine WR.step (Ex.shlN (m := x) (s := 6) rfl rfl (by first | (show _ ≤ 64; omega) | (show _ ≤ 8; omega) | decide) (by first | omega | (simp; omega))) (Wn.none rfl) rfl rfl ?_
          refine WR.stepE (v' := encN (idx u)) (Ex.move rfl) (congrArg I hix.1) (Wn.none rfl) rfl rfl ?_
          refine WR.stepE (v' := encN (x * 64 + idx u)) (Ex.orN (m := _) (s := _) rfl rfl (by omega) (by omega)) (congrArg encN (or_six x (idx u) hix.2)) (Wn.none rfl) rfl rfl ?_
          refine WR.step (Ex.move rfl) (Wn.none rfl) rfl rfl ?_
          refine WR.stepE (v' := encN (b + 6)) (Ex.add64 rfl rfl (by omega)) rfl (Wn.none rfl) rfl rfl ?_
          refine WR.step (Ex.assign rfl) (Wn.none rfl) rfl rfl ?_
          refine WR.step (Ex.assign rfl) (Wn.none rfl) rfl rfl ?_
          refine WR.nil ?_
          refine WQ.then ?_
          refine WC.seq ?_
          refine WC.region ?_
          refine WR.step (Ex.move rfl) (Wn.none rfl) rfl rfl ?_
          refine WR.split (Ex.geq rfl rfl) (Wn.none rfl) rfl rfl (fun h12_1 => ?_) (fun h12_1 => ?_)
          ·
            refine WR.nil ?_
            refine WQ.then ?_
            refine WC.condT rfl ?_
            refine WC.seq ?_
            refine WC.region ?_
            refine WR.step (Ex.move rfl) (Wn.none rfl) rfl rfl ?_
            refine WR.stepE (v' := encN (b + 6 - 8)) (Ex.sub64 rfl rfl (by omega)) (congrArg I (by omega)) (Wn.none rfl) rfl rfl ?_
            refine WR.step (Ex.assign rfl) (Wn.none rfl) rfl rfl ?_
            refine WR.nil ?_
            refine WQ.then ?_
            refine WC.seq ?_
            refine WC.region ?_
            refine WR.step (Ex.move rfl) (Wn.none rfl) rfl rfl ?_
            refine WR.step (Ex.move rfl) (Wn.none rfl) rfl rfl ?_
            refine WR.step (Ex.move rfl) (Wn.none rfl) rfl rfl ?_
            refine WR.step (Ex.shrN (m := _) (s := _) rfl rfl (by first | (show _ ≤ 64; omega) | (show _ ≤ 8; omega) | decide)) (Wn.none rfl) rfl rfl ?_
            refine WR.stepE (v' := encB (UInt8.ofNat ((x * 64 + idx u) / 2 ^ (b + 6 - 8)))) (Ex.convU8 Try.underlying3 Try.underlying5 rfl) (congrArg encB (ub_nat _ (oct_lt x (idx u) b hi.1 hi.2 hix.2 (by omega)))) (Wn.none rfl) rfl rfl ?_
            refine WR.lit (enc := encB) ty22 [_] H rfl (by rfl) (fun _ => rfl) rfl rfl (Wn.none rfl) rfl ?_
            intro v43 M w H hle hl43
            replace hb := hb.mono hle
            replace hl23 := hl23.mono hle
            refine WR.appendSl ty22 (fun _ => rfl) H rfl (fun _ => by repeat (first | exact Upd.head | apply Upd.tail)) rfl (by assumption) (by first | omega | (simp only [List.length_cons, List.length_nil]; omega) | (simp only [List.length_append, List.length_cons, List.length_nil]; omega)) (by first | (simp only [maxLen, List.length_cons, List.length_nil]; omega) | (simp only [maxLen, List.length_append, List.length_cons, List.length_nil]; omega)) (Wn.none rfl) rfl ?_
            intro v44 w H
            refine WR.step (Ex.assign rfl) (Wn.none rfl) rfl rfl ?_
            refine WR.nil ?_
            refine WQ.then ?_
            refine WC.region ?_
            refine WR.step (Ex.move rfl) (Wn.none rfl) rfl rfl ?_
            refine WR.step (Ex.move rfl) (Wn.none rfl) rfl rfl ?_
            obtain ⟨P2, hP2⟩ : ∃ P2, P2 = 2 ^ (b + 6 - 8) := ⟨_, rfl⟩
            have hp2 : P2 ≤ 16 := by rw [hP2]; exact Nat.pow_le_pow_right (n := 2) (j := 4) (by decide) (by omega)
            have hp3 : 0 < P2 := by rw [hP2]; exact Nat.two_pow_pos _
            refine WR.stepE (v' := encN P2) (Ex.shlN (m := 1) (s := b + 6 - 8) rfl rfl (by first | (show _ ≤ 64; omega) | (show _ ≤ 8; omega) | decide) (by first | omega | (simp; omega))) (congrArg encN (by rw [hP2, Nat.one_mul])) (Wn.none rfl) rfl rfl ?_
            refine WR.stepE (v' := encN (P2 - 1)) (Ex.sub64 rfl rfl (by omega)) (congrArg I (by omega)) (Wn.none rfl) rfl rfl ?_
            refine WR.stepE (v' := encN ((x * 64 + idx u) % 2 ^ (b + 6 - 8))) (Ex.andN (m := _) (s := _) rfl rfl (by omega) (by omega)) (congrArg encN (by rw [hP2]; exact and_mask _ _)) (Wn.none rfl) rfl rfl ?_
            refine WR.step (Ex.assign rfl) (Wn.none rfl) rfl rfl ?_
            refine WR.nil ?_
            refine WQ.inBlock ?_
            refine WQ.then ?_
            refine WC.region ?_
            refine WR.step (Ex.add64 rfl rfl (by omega)) (Wn.none rfl) rfl rfl ?_
            refine WR.step (Ex.move rfl) (Wn.none rfl) rfl rfl ?_
            refine WR.nil ?_
            refine WQ.again5 (k + 1) (v44) (o ++ [UInt8.ofNat ((x * 64 + idx u) / 2 ^ (b + 6 - 8))]) (_) (_) ⟨rfl, rfl, rfl, rfl, rfl, rfl, rfl, trivial⟩ ?_ ?_
            · exact ⟨by omega, next61 hb61 hu h8_1, by rw [lrun_next hu, hst, lstep, if_neg h10_1, if_neg (by simp only []; omega)], M, H⟩
            · omega
          ·
            refine WR.nil ?_
            refine WQ.then ?_
            refine WC.condF rfl ?_
            refine WC.skip ?_
            refine WQ.inBlock ?_
            refine WQ.then ?_
            refine WC.region ?_
            refine WR.step (Ex.add64 rfl rfl (by omega)) (Wn.none rfl) rfl rfl ?_
            refine WR.step (Ex.move rfl) (Wn.none rfl) rfl rfl ?_
            refine WR.nil ?_
            refine WQ.again5 (k + 1) (v) (o) (_) (_) ⟨rfl, rfl, rfl, rfl, rfl, rfl, rfl, trivial⟩ ?_ ?_
            · exact ⟨by omega, next61 hb61 hu h8_1, by rw [lrun_next hu, hst, lstep, if_neg h10_1, if_pos (by simp only []; omega)], M, H⟩
            · omega
    ·
      refine WR.nil ?_
      refine WQ.then ?_
      refine WC.seq ?_
      refine WC.condF rfl ?_
      refine WC.exit ?_
      refine WQ.thenExit ?_
      refine WQ.thenExit ?_
      refine WQ.exitHere ?_
      refine WQ.meet1 (v) ⟨rfl, rfl, trivial⟩ ?_
      refine ⟨M, ?_⟩
      have hlen : lenient l = o := by rw [lenient, upto61_eq l k hb61 (.inl (by omega)), hst]
      rw [hlen]
      exact H
  ·
    intro v w
    rintro ⟨M, H⟩
    refine WC.seq ?_
    refine WC.region ?_
    refine WR.step (Ex.move rfl) (Wn.none rfl) rfl rfl ?_
    refine WR.call H (none_spec) rfl (trivial) (Wn.none rfl) rfl ?_
    intro v52 M w H hle hr52
    obtain rfl := hr52
    refine WR.step (Ex.assign rfl) (Wn.none rfl) rfl rfl ?_
    refine WR.store [_, _] H rfl rfl rfl (by repeat (first | exact Upd.head | apply Upd.tail)) Try.sizeOf25 rfl (by rfl) (by rfl) (Wn.none rfl) ?_
    intro w H
    refine WR.nil ?_
    refine WQ.then ?_
    refine WC.ret ?_
    (repeat (first | refine WQ.thenRet ?_ | refine WQ.inBlockRet ?_))
    obtain ⟨M, hle, hf, H⟩ := H.freezeRow (v := v) (enc := encB) (t := 5) (by repeat (first | exact Rem.head | apply Rem.tail))
    refine WQ.ret2 rfl rfl ⟨_, rfl, H.loadAgg (by repeat (first | exact List.Mem.head _ | apply List.Mem.tail)) Try.isAgg25 Try.sizeOf25 (by rfl)⟩ H.ext ?_
    exact ⟨_, rfl, hf⟩

theorem lenient_big (bv : Value) (l : List UInt8) (hs : 24000 < l.length) : Ct Try.prog 13 [bv] (fun M => Bs M bv l) (fun r _ => r = .tuple #[.slice none 0 0, fault 1 (-1)]) := by
  refine Ct.of Try.func13 (enters Try.func13 (by kernel_rfl) rfl) rfl rfl rfl ?_
  intro w0 M0 H hp
  refine WC.seq ?_
  refine WC.region ?_
  refine WR.step (Ex.assign rfl) (Wn.none rfl) rfl rfl ?_
  refine WR.alloc [_, _] H Try.zeroValue25 rfl (Wn.none rfl) rfl ?_
  intro b3 w H
  refine WR.nil ?_
  refine WQ.then ?_
  refine WC.seq ?_
  refine WC.seq ?_
  refine WC.region ?_
  refine WR.step (Ex.move rfl) (Wn.none rfl) rfl rfl ?_
  first | refine WR.step (Ex.lenSl Try.underlying22 (by assumption) rfl) (Wn.none rfl) rfl rfl ?_ | refine WR.step (Ex.lenRow Try.underlying22 H (by repeat (first | exact List.Mem.head _ | apply List.Mem.tail)) rfl) (Wn.none rfl) rfl rfl ?_ | refine WR.step (Ex.lenSlice Try.underlying22 rfl) (Wn.none rfl) rfl rfl ?_
  refine WR.stepT (Ex.gtr rfl rfl) (by omega) (Wn.none rfl) rfl rfl ?_
  refine WR.nil ?_
  refine WQ.then ?_
  refine WC.condT rfl ?_
  refine WC.seq ?_
  refine WC.region ?_
  refine WR.call H (fault_spec _ _) rfl (trivial) (Wn.none rfl) rfl ?_
  intro v13 M w H hle hr13
  replace hp := hp.mono hle
  obtain rfl := hr13
  refine WR.step (Ex.assign rfl) (Wn.none rfl) rfl rfl ?_
  refine WR.store [_, _] H rfl rfl rfl (by repeat (first | exact Upd.head | apply Upd.tail)) Try.sizeOf25 rfl (by rfl) (by rfl) (Wn.none rfl) ?_
  intro w H
  refine WR.nil ?_
  refine WQ.then ?_
  refine WC.ret ?_
  (repeat (first | refine WQ.thenRet ?_ | refine WQ.inBlockRet ?_))
  refine WQ.ret2 rfl rfl ⟨_, rfl, H.loadAgg (by repeat (first | exact List.Mem.head _ | apply List.Mem.tail)) Try.isAgg25 Try.sizeOf25 (by rfl)⟩ H.ext ?_
  exact rfl

end Go.Proofs.Ytgkpcfgbbgpihaa
