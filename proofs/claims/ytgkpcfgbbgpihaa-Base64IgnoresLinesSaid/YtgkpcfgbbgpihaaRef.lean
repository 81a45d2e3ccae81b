/-
  the reference for base64: walks over the program's own operations, written by a program of this repository (wip/tools/gen.py) out of a plan.
-/
import Derived.Test.YtgkpcfgbbgpihaaSmall
import Derived.Test.YtgkpcfgbbgpihaaB64Plain
import Derived.KernelRfl
namespace Go.Proofs.Ytgkpcfgbbgpihaa
open Go Go.RowKit Go.Ph

open Go.Ph.B64
abbrev encN (n : Nat) : Value := I (n : Int)
theorem b_eq {a c : UInt8} : ((a.toNat : Int) = (c.toNat : Int)) ↔ a = c := by rw [Int.ofNat_inj, UInt8.toNat_inj]
theorem value64_spec (c : UInt8) : Ct Try.prog 22 [encB c] (fun _ => True) (fun r _ => r = I (val64 c)) := by
  refine Ct.of Try.func22 (enters Try.func22 (by kernel_rfl) rfl) rfl rfl rfl ?_
  intro w0 M0 H hp
  refine WC.seq ?_
  refine WC.region ?_
  refine WR.step (Ex.assign rfl) (Wn.none rfl) rfl rfl ?_
  refine WR.nil ?_
  refine WQ.then ?_
  refine WC.seq ?_
  refine WC.seq ?_
  refine WC.region ?_
  refine WR.step (Ex.assign rfl) (Wn.none rfl) rfl rfl ?_
  refine WR.nil ?_
  refine WQ.then ?_
  refine WC.block ?_
  refine WC.loop1 (fun (k : Nat) => [(0, encB c), (3, I (k : Int))]) (fun (k : Nat) w => k ≤ 64 ∧ (∀ j, (hj : j < alpha.length) → j < k → alpha[j] ≠ c) ∧ St w0 M0 M0 [] w) (fun (k : Nat) => 64 - k) (0) ⟨rfl, rfl, trivial⟩ (⟨by omega, fun _ _ h => by omega, H⟩) ?_
  intro k w
  rintro ⟨hk, hb, H⟩
  refine WC.seq ?_
  refine WC.seq ?_
  refine WC.region ?_
  refine WR.step (Ex.move rfl) (Wn.none rfl) rfl rfl ?_
  refine WR.split (Ex.lss rfl rfl) (Wn.none rfl) rfl rfl (fun h2_1 => ?_) (fun h2_1 => ?_)
  ·
    refine WR.nil ?_
    refine WQ.then ?_
    refine WC.condT rfl ?_
    refine WC.skip ?_
    refine WQ.then ?_
    refine WC.seq ?_
    refine WC.block ?_
    refine WC.seq ?_
    refine WC.region ?_
    refine WR.step (Ex.move rfl) (Wn.none rfl) rfl rfl ?_
    refine WR.step (Ex.idxStr (l := alpha) Try.underlying9 rfl rfl (List.getElem?_eq_getElem (by rw [alpha_len]; omega))) (Wn.none rfl) rfl rfl ?_
    refine WR.step (Ex.move rfl) (Wn.none rfl) rfl rfl ?_
    refine WR.split (Ex.eql rfl rfl) (Wn.none rfl) rfl rfl (fun h4_3 => ?_) (fun h4_3 => ?_)
    ·
      refine WR.nil ?_
      refine WQ.then ?_
      refine WC.condT rfl ?_
      refine WC.seq ?_
      refine WC.region ?_
      refine WR.step (Ex.move rfl) (Wn.none rfl) rfl rfl ?_
      refine WR.step (Ex.assign rfl) (Wn.none rfl) rfl rfl ?_
      refine WR.nil ?_
      refine WQ.then ?_
      refine WC.ret ?_
      (repeat (first | refine WQ.thenRet ?_ | refine WQ.inBlockRet ?_))
      refine WQ.ret1 rfl rfl H.ext ?_
      exact (congrArg I (val64_at c k _ (b_eq.1 h4_3) hb).symm)
    ·
      refine WR.nil ?_
      refine WQ.then ?_
      refine WC.condF rfl ?_
      refine WC.skip ?_
      refine WQ.inBlock ?_
      refine WQ.then ?_
      refine WC.region ?_
      refine WR.step (Ex.move rfl) (Wn.none rfl) rfl rfl ?_
      refine WR.step (Ex.add64 rfl rfl (by omega)) (Wn.none rfl) rfl rfl ?_
      refine WR.step (Ex.assign rfl) (Wn.none rfl) rfl rfl ?_
      refine WR.nil ?_
      refine WQ.again1 (k + 1) ⟨rfl, rfl, trivial⟩ ?_ ?_
      · refine ⟨by omega, fun j hj hjk => ?_, H⟩
        rcases Nat.lt_or_ge j k with h | h
        · exact hb j hj h
        · obtain rfl : j = k := by omega
          exact fun h => h4_3 (b_eq.2 h)
      · omega
  ·
    refine WR.nil ?_
    refine WQ.then ?_
    refine WC.condF rfl ?_
    refine WC.exit ?_
    refine WQ.thenExit ?_
    refine WQ.thenExit ?_
    refine WQ.exitHere ?_
    refine WQ.then ?_
    refine WC.seq ?_
    refine WC.region ?_
    refine WR.step (Ex.assign rfl) (Wn.none rfl) rfl rfl ?_
    refine WR.nil ?_
    refine WQ.then ?_
    refine WC.ret ?_
    (repeat (first | refine WQ.thenRet ?_ | refine WQ.inBlockRet ?_))
    refine WQ.ret1 rfl rfl H.ext ?_
    exact (congrArg I (val64_none c (fun j hj h => hb j hj (by omega))).symm)

theorem sum_spec (v : Value) (l : List Nat) (hs : l.length ≤ 8) (h1 : ∀ x ∈ l, x ≤ 1) : Ct Try.prog 23 [v] (fun M => Sl M encN v l) (fun r _ => r = encN (sumN l)) := by
  refine Ct.of Try.func23 (enters Try.func23 (by kernel_rfl) rfl) rfl rfl rfl ?_
  intro w0 M0 H hp
  refine WC.seq ?_
  refine WC.region ?_
  refine WR.step (Ex.assign rfl) (Wn.none rfl) rfl rfl ?_
  refine WR.nil ?_
  refine WQ.then ?_
  refine WC.seq ?_
  refine WC.region ?_
  refine WR.step (Ex.assign rfl) (Wn.none rfl) rfl rfl ?_
  refine WR.nil ?_
  refine WQ.then ?_
  refine WC.seq ?_
  refine WC.seq ?_
  refine WC.region ?_
  refine WR.step (Ex.assign rfl) (Wn.none rfl) rfl rfl ?_
  refine WR.nil ?_
  refine WQ.then ?_
  refine WC.block ?_
  refine WC.loop1 (fun (k : Nat) => [(0, v), (3, encN (sumN (l.take k))), (4, I (k : Int))]) (fun (k : Nat) w => k ≤ l.length ∧ St w0 M0 M0 [] w) (fun (k : Nat) => l.length - k) (0) ⟨rfl, rfl, rfl, trivial⟩ (⟨by omega, H⟩) ?_
  intro k w
  rintro ⟨hk, H⟩
  have hb := sumN_lt (l.take k) (fun x hx => h1 x (List.mem_of_mem_take hx))
  have hb2 : 2 ^ (l.take k).length ≤ 2 ^ 8 := Nat.pow_le_pow_right (by decide) (by rw [List.length_take]; omega)
  refine WC.seq ?_
  refine WC.seq ?_
  refine WC.region ?_
  refine WR.step (Ex.move rfl) (Wn.none rfl) rfl rfl ?_
  refine WR.step (Ex.move rfl) (Wn.none rfl) rfl rfl ?_
  first | refine WR.step (Ex.lenSl Try.underlying42 (by assumption) rfl) (Wn.none rfl) rfl rfl ?_ | refine WR.step (Ex.lenRow Try.underlying42 H (by repeat (first | exact List.Mem.head _ | apply List.Mem.tail)) rfl) (Wn.none rfl) rfl rfl ?_ | refine WR.step (Ex.lenSlice Try.underlying42 rfl) (Wn.none rfl) rfl rfl ?_
  refine WR.split (Ex.lss rfl rfl) (Wn.none rfl) rfl rfl (fun h3_3 => ?_) (fun h3_3 => ?_)
  ·
    refine WR.nil ?_
    refine WQ.then ?_
    refine WC.condT rfl ?_
    refine WC.skip ?_
    refine WQ.then ?_
    refine WC.seq ?_
    refine WC.block ?_
    refine WC.region ?_
    refine WR.step (Ex.move rfl) (Wn.none rfl) rfl rfl ?_
    refine WR.step (Ex.mul64 rfl rfl (by omega)) (Wn.none rfl) rfl rfl ?_
    refine WR.step (Ex.move rfl) (Wn.none rfl) rfl rfl ?_
    refine WR.step (Ex.move rfl) (Wn.none rfl) rfl rfl ?_
    refine WR.idxSl Try.underlying42 Try.sizeOf3 (by assumption) rfl rfl (List.getElem?_eq_getElem (by omega)) (Wn.none rfl) rfl ?_
    intro p15 hc15
    first | refine WR.step (Ex.loadM H rfl (by assumption) Try.isAgg3) (Wn.none rfl) rfl rfl ?_ | refine WR.step (Ex.load1 H rfl (by repeat (first | exact List.Mem.head _ | apply List.Mem.tail)) Try.isAgg3 (by rfl)) (Wn.none rfl) rfl rfl ?_
    have hx1 := h1 l[k] (List.getElem_mem _)
    refine WR.stepE (v' := encN (sumN (l.take (k + 1)))) (Ex.add64 rfl rfl (by omega)) (by rw [List.take_succ_eq_append_getElem (by omega), sumN_snoc]; simp) (Wn.none rfl) rfl rfl ?_
    refine WR.step (Ex.assign rfl) (Wn.none rfl) rfl rfl ?_
    refine WR.nil ?_
    refine WQ.inBlock ?_
    refine WQ.then ?_
    refine WC.region ?_
    refine WR.step (Ex.move rfl) (Wn.none rfl) rfl rfl ?_
    refine WR.step (Ex.add64 rfl rfl (by omega)) (Wn.none rfl) rfl rfl ?_
    refine WR.step (Ex.assign rfl) (Wn.none rfl) rfl rfl ?_
    refine WR.nil ?_
    refine WQ.again1 (k + 1) ⟨rfl, rfl, rfl, trivial⟩ ?_ ?_
    · exact ⟨by omega, H⟩
    · omega
  ·
    refine WR.nil ?_
    refine WQ.then ?_
    refine WC.condF rfl ?_
    refine WC.exit ?_
    refine WQ.thenExit ?_
    refine WQ.thenExit ?_
    refine WQ.exitHere ?_
    refine WQ.then ?_
    refine WC.seq ?_
    refine WC.region ?_
    refine WR.step (Ex.move rfl) (Wn.none rfl) rfl rfl ?_
    refine WR.step (Ex.assign rfl) (Wn.none rfl) rfl rfl ?_
    refine WR.nil ?_
    refine WQ.then ?_
    refine WC.ret ?_
    (repeat (first | refine WQ.thenRet ?_ | refine WQ.inBlockRet ?_))
    refine WQ.ret1 rfl rfl H.ext ?_
    exact (by rw [List.take_of_length_le (by omega)])

theorem ub_nat (n : Nat) (h : n < 256) : ub (n : Int) = UInt8.ofNat n := by unfold ub; congr 1; omega
theorem mod2 (x : Nat) : I ((x : Int) % 2) = encN (x % 2) := rfl
theorem bits_spec (b : Value) (l : List UInt8) (hs : l.length ≤ 1000000) : CtO Try.prog 27 [b] (fun M => Bs M b l) (fun r _ its => its = [RowI 3 encN r (bitsOf l)]) := by
  refine CtO.of Try.func27 (enters Try.func27 (by kernel_rfl) rfl) rfl rfl rfl ?_
  intro w0 M0 H hp
  refine WC.seq ?_
  refine WC.region ?_
  refine WR.step (Ex.assign rfl) (Wn.none rfl) rfl rfl ?_
  refine WR.nil ?_
  refine WQ.then ?_
  refine WC.seq ?_
  refine WC.region ?_
  refine WR.step (Ex.assign rfl) (Wn.none rfl) rfl rfl ?_
  refine WR.nil ?_
  refine WQ.then ?_
  refine WC.seq ?_
  refine WC.seq ?_
  refine WC.region ?_
  refine WR.step (Ex.assign rfl) (Wn.none rfl) rfl rfl ?_
  refine WR.nil ?_
  refine WQ.then ?_
  refine WC.block ?_
  refine WC.loop2 (fun (k : Nat) (v : Value) => [(0, b), (3, v), (4, I (k : Int))]) (fun (k : Nat) (v : Value) w => k ≤ l.length ∧ ∃ M, St w0 M0 M [RowI 3 encN v (bitsOf (l.take k))] w) (fun (k : Nat) (v : Value) => l.length - k) (0) (_) ⟨rfl, rfl, rfl, trivial⟩ (⟨by omega, M0, H.newRow 3 encN⟩) ?_
  intro k v w
  rintro ⟨hk, M, H⟩
  have hb := hp.mono H.ext.le
  refine WC.seq ?_
  refine WC.seq ?_
  refine WC.region ?_
  refine WR.step (Ex.move rfl) (Wn.none rfl) rfl rfl ?_
  refine WR.step (Ex.move rfl) (Wn.none rfl) rfl rfl ?_
  first | refine WR.step (Ex.lenSl Try.underlying22 (by assumption) rfl) (Wn.none rfl) rfl rfl ?_ | refine WR.step (Ex.lenRow Try.underlying22 H (by repeat (first | exact List.Mem.head _ | apply List.Mem.tail)) rfl) (Wn.none rfl) rfl rfl ?_ | refine WR.step (Ex.lenSlice Try.underlying22 rfl) (Wn.none rfl) rfl rfl ?_
  refine WR.split (Ex.lss rfl rfl) (Wn.none rfl) rfl rfl (fun h3_3 => ?_) (fun h3_3 => ?_)
  ·
    obtain ⟨u, hu⟩ : ∃ u, l[k]? = some u := ⟨_, List.getElem?_eq_getElem (by omega)⟩
    refine WR.nil ?_
    refine WQ.then ?_
    refine WC.condT rfl ?_
    refine WC.skip ?_
    refine WQ.then ?_
    refine WC.seq ?_
    refine WC.block ?_
    refine WC.seq ?_
    refine WC.region ?_
    refine WR.step (Ex.assign rfl) (Wn.none rfl) rfl rfl ?_
    refine WR.nil ?_
    refine WQ.then ?_
    refine WC.block ?_
    refine WC.loop2 (fun (j : Nat) (v : Value) => [(0, b), (3, v), (4, I (k : Int)), (5, I (7 - (j : Int)))]) (fun (j : Nat) (v : Value) w => j ≤ 8 ∧ ∃ M, St w0 M0 M [RowI 3 encN v (bitsOf (l.take k) ++ (bits8 u.toNat).take j)] w) (fun (j : Nat) (v : Value) => 8 - j) (0) (_) ⟨rfl, rfl, rfl, rfl, trivial⟩ (⟨by omega, M, by simpa using H⟩) ?_
    intro j v w
    rintro ⟨hj, M, H⟩
    have hb := hp.mono H.ext.le
    have e1 := bitsOf_len (l.take k)
    have e2 : (l.take k).length ≤ l.length := List.length_take_le' _ _
    have e3 : ((bits8 u.toNat).take j).length ≤ 8 := by rw [List.length_take, bits8_len]; omega
    refine WC.seq ?_
    refine WC.seq ?_
    refine WC.region ?_
    refine WR.step (Ex.move rfl) (Wn.none rfl) rfl rfl ?_
    refine WR.split (Ex.geq rfl rfl) (Wn.none rfl) rfl rfl (fun h6_1 => ?_) (fun h6_1 => ?_)
    ·
      refine WR.nil ?_
      refine WQ.then ?_
      refine WC.condT rfl ?_
      refine WC.skip ?_
      refine WQ.then ?_
      refine WC.seq ?_
      refine WC.block ?_
      refine WC.region ?_
      refine WR.step (Ex.move rfl) (Wn.none rfl) rfl rfl ?_
      refine WR.step (Ex.move rfl) (Wn.none rfl) rfl rfl ?_
      refine WR.step (Ex.move rfl) (Wn.none rfl) rfl rfl ?_
      refine WR.idxSl Try.underlying22 Try.sizeOf5 (by assumption) rfl rfl (hu) (Wn.none rfl) rfl ?_
      intro p19 hc19
      first | refine WR.step (Ex.loadM H rfl (by assumption) Try.isAgg5) (Wn.none rfl) rfl rfl ?_ | refine WR.step (Ex.load1 H rfl (by repeat (first | exact List.Mem.head _ | apply List.Mem.tail)) Try.isAgg5 (by rfl)) (Wn.none rfl) rfl rfl ?_
      first | refine WR.step (Ex.convB Try.underlying5 Try.underlying3 rfl) (Wn.none rfl) rfl rfl ?_ | refine WR.step (Ex.convI Try.underlying5 Try.underlying3 rfl (by omega)) (Wn.none rfl) rfl rfl ?_
      refine WR.stepE (v' := I ((7 - j : Nat) : Int)) (Ex.move rfl) (congrArg I (by omega)) (Wn.none rfl) rfl rfl ?_
      refine WR.step (Ex.convU64 Try.underlying3 Try.underlying41 rfl (by omega)) (Wn.none rfl) rfl rfl ?_
      refine WR.step (Ex.shrN (m := _) (s := _) rfl rfl (by first | (show _ ≤ 64; omega) | (show _ ≤ 8; omega) | decide)) (Wn.none rfl) rfl rfl ?_
      refine WR.stepE (v' := encN (u.toNat / 2 ^ (7 - j) % 2)) (Ex.rem64 rfl rfl (by first | omega | exact ⟨Int.natCast_nonneg _, by decide⟩)) (mod2 _) (Wn.none rfl) rfl rfl ?_
      refine WR.lit (enc := encN) ty42 [_] H rfl (by rfl) (fun _ => rfl) rfl rfl (Wn.none rfl) rfl ?_
      intro v26 M w H hle hl26
      replace hb := hb.mono hle
      refine WR.appendSl ty42 (fun _ => rfl) H rfl (fun _ => by repeat (first | exact Upd.head | apply Upd.tail)) rfl (by assumption) (by first | omega | (simp only [List.length_cons, List.length_nil]; omega) | (simp only [List.length_append, List.length_cons, List.length_nil]; omega)) (by first | (simp only [maxLen, List.length_cons, List.length_nil]; omega) | (simp only [maxLen, List.length_append, List.length_cons, List.length_nil]; omega)) (Wn.none rfl) rfl ?_
      intro v27 w H
      refine WR.step (Ex.assign rfl) (Wn.none rfl) rfl rfl ?_
      refine WR.nil ?_
      refine WQ.inBlock ?_
      refine WQ.then ?_
      refine WC.region ?_
      refine WR.step (Ex.move rfl) (Wn.none rfl) rfl rfl ?_
      refine WR.stepE (v' := I (7 - ((j + 1 : Nat) : Int))) (Ex.sub64 rfl rfl (by omega)) (congrArg I (by omega)) (Wn.none rfl) rfl rfl ?_
      refine WR.step (Ex.assign rfl) (Wn.none rfl) rfl rfl ?_
      refine WR.nil ?_
      refine WQ.again2 (j + 1) (v27) ⟨rfl, rfl, rfl, rfl, trivial⟩ ?_ ?_
      · refine ⟨by omega, M, ?_⟩
        rw [bits8_next _ _ (by omega), ← List.append_assoc]
        exact H
      · omega
    ·
      refine WR.nil ?_
      refine WQ.then ?_
      refine WC.condF rfl ?_
      refine WC.exit ?_
      refine WQ.thenExit ?_
      refine WQ.thenExit ?_
      refine WQ.exitHere ?_
      refine WQ.inBlock ?_
      refine WQ.then ?_
      refine WC.region ?_
      refine WR.step (Ex.move rfl) (Wn.none rfl) rfl rfl ?_
      refine WR.step (Ex.add64 rfl rfl (by omega)) (Wn.none rfl) rfl rfl ?_
      refine WR.step (Ex.assign rfl) (Wn.none rfl) rfl rfl ?_
      refine WR.nil ?_
      refine WQ.again2 (k + 1) (v) ⟨rfl, rfl, rfl, trivial⟩ ?_ ?_
      · refine ⟨by omega, M, ?_⟩
        rw [bitsOf_next hu]
        rw [List.take_of_length_le (l := bits8 u.toNat) (by rw [bits8_len]; omega)] at H
        exact H
      · omega
  ·
    refine WR.nil ?_
    refine WQ.then ?_
    refine WC.condF rfl ?_
    refine WC.exit ?_
    refine WQ.thenExit ?_
    refine WQ.thenExit ?_
    refine WQ.exitHere ?_
    refine WQ.then ?_
    refine WC.seq ?_
    refine WC.region ?_
    refine WR.step (Ex.move rfl) (Wn.none rfl) rfl rfl ?_
    refine WR.step (Ex.assign rfl) (Wn.none rfl) rfl rfl ?_
    refine WR.nil ?_
    refine WQ.then ?_
    refine WC.ret ?_
    (repeat (first | refine WQ.thenRet ?_ | refine WQ.inBlockRet ?_))
    rw [List.take_of_length_le (by omega)] at H
    refine WQ.ret1O rfl rfl H (List.Sublist.refl _) ?_
    exact rfl

theorem chars64_spec (b : Value) (l : List UInt8) (hs : l.length ≤ 1000000) : Ct Try.prog 20 [b] (fun M => Bs M b l) (fun r _ => r = S (chars64 l)) := by
  refine Ct.of Try.func20 (enters Try.func20 (by kernel_rfl) rfl) rfl rfl rfl ?_
  intro w0 M0 H hp
  refine WC.seq ?_
  refine WC.region ?_
  refine WR.step (Ex.assign rfl) (Wn.none rfl) rfl rfl ?_
  refine WR.nil ?_
  refine WQ.then ?_
  refine WC.seq ?_
  refine WC.region ?_
  refine WR.step (Ex.move rfl) (Wn.none rfl) rfl rfl ?_
  refine WR.callO H (bits_spec _ _ (by omega)) rfl (by assumption) (Wn.none rfl) rfl ?_
  intro v8 M w its H hle hr8
  replace hp := hp.mono hle
  obtain rfl := hr8
  simp only [List.cons_append, List.nil_append] at H
  refine WR.step (Ex.assign rfl) (Wn.none rfl) rfl rfl ?_
  refine WR.nil ?_
  refine WQ.then ?_
  refine WC.seq ?_
  refine WC.block ?_
  refine WC.loop2 (fun (j : Nat) (v : Value) => [(3, v)]) (fun (j : Nat) (v : Value) w => j ≤ (6 - 8 * l.length % 6) % 6 ∧ ∃ M, St w0 M0 M [RowI 3 encN v (bitsOf l ++ List.replicate j 0)] w) (fun (j : Nat) (v : Value) => 6 - j) (0) (_) ⟨rfl, trivial⟩ (⟨by omega, M, by simpa using H⟩) ?_
  intro j v w
  rintro ⟨hj, M, H⟩
  have hL : (bitsOf l ++ List.replicate j 0).length = 8 * l.length + j := by simp [bitsOf_len]
  refine WC.seq ?_
  refine WC.seq ?_
  refine WC.region ?_
  refine WR.step (Ex.move rfl) (Wn.none rfl) rfl rfl ?_
  first | refine WR.step (Ex.lenSl Try.underlying42 (by assumption) rfl) (Wn.none rfl) rfl rfl ?_ | refine WR.step (Ex.lenRow Try.underlying42 H (by repeat (first | exact List.Mem.head _ | apply List.Mem.tail)) rfl) (Wn.none rfl) rfl rfl ?_ | refine WR.step (Ex.lenSlice Try.underlying42 rfl) (Wn.none rfl) rfl rfl ?_
  refine WR.step (Ex.rem64 rfl rfl (by first | omega | exact ⟨Int.natCast_nonneg _, by decide⟩)) (Wn.none rfl) rfl rfl ?_
  refine WR.split (Ex.neq rfl rfl) (Wn.none rfl) rfl rfl (fun h2_3 => ?_) (fun h2_3 => ?_)
  ·
    refine WR.nil ?_
    refine WQ.then ?_
    refine WC.condT rfl ?_
    refine WC.skip ?_
    refine WQ.then ?_
    refine WC.block ?_
    refine WC.region ?_
    refine WR.step (Ex.move rfl) (Wn.none rfl) rfl rfl ?_
    refine WR.lit (enc := encN) ty42 [(0)] H rfl (by rfl) (fun _ => rfl) rfl rfl (Wn.none rfl) rfl ?_
    intro v14 M w H hle hl14
    refine WR.appendSl ty42 (fun _ => rfl) H rfl (fun _ => by repeat (first | exact Upd.head | apply Upd.tail)) rfl (by assumption) (by first | omega | (simp only [List.length_cons, List.length_nil]; omega) | (simp only [List.length_append, List.length_cons, List.length_nil]; omega)) (by first | (simp only [maxLen, List.length_cons, List.length_nil]; omega) | (simp only [maxLen, List.length_append, List.length_cons, List.length_nil]; omega)) (Wn.none rfl) rfl ?_
    intro v15 w H
    refine WR.step (Ex.assign rfl) (Wn.none rfl) rfl rfl ?_
    refine WR.nil ?_
    refine WQ.inBlock ?_
    refine WQ.again2 (j + 1) (v15) ⟨rfl, trivial⟩ ?_ ?_
    · refine ⟨by omega, M, ?_⟩
      rw [List.replicate_succ', ← List.append_assoc]
      exact H
    · omega
  ·
    refine WR.nil ?_
    refine WQ.then ?_
    refine WC.condF rfl ?_
    refine WC.exit ?_
    refine WQ.thenExit ?_
    refine WQ.thenExit ?_
    refine WQ.exitHere ?_
    refine WQ.then ?_
    refine WC.seq ?_
    refine WC.region ?_
    refine WR.step (Ex.assign rfl) (Wn.none rfl) rfl rfl ?_
    refine WR.nil ?_
    refine WQ.then ?_
    refine WC.seq ?_
    refine WC.seq ?_
    refine WC.region ?_
    refine WR.step (Ex.assign rfl) (Wn.none rfl) rfl rfl ?_
    refine WR.nil ?_
    refine WQ.then ?_
    refine WC.block ?_
    obtain ⟨M, hle, hf, H⟩ := H.freezeRow (v := v) (enc := encN) (t := 3) (by repeat (first | exact Rem.head | apply Rem.tail))
    rw [show bitsOf l ++ List.replicate j 0 = padBits l by rw [padBits]; congr; omega] at hf
    refine WC.loop1 (fun (q : Nat) => [(3, v), (4, S (sext (padBits l) q)), (5, I ((6 * q : Nat) : Int))]) (fun (q : Nat) w => 6 * q ≤ (padBits l).length ∧ ∃ M, St w0 M0 M [] w ∧ Sl M encN v (padBits l)) (fun (q : Nat) => (padBits l).length - 6 * q) (0) ⟨rfl, rfl, rfl, trivial⟩ (⟨by omega, M, H, hf⟩) ?_
    intro q w
    rintro ⟨hq, M, H, hf⟩
    have e1 := padBits_len l
    have e2 := sext_len (padBits_le l) q
    have e3 := six_lt (padBits_le l) q
    refine WC.seq ?_
    refine WC.seq ?_
    refine WC.region ?_
    refine WR.step (Ex.move rfl) (Wn.none rfl) rfl rfl ?_
    refine WR.step (Ex.move rfl) (Wn.none rfl) rfl rfl ?_
    first | refine WR.step (Ex.lenSl Try.underlying42 (by assumption) rfl) (Wn.none rfl) rfl rfl ?_ | refine WR.step (Ex.lenRow Try.underlying42 H (by repeat (first | exact List.Mem.head _ | apply List.Mem.tail)) rfl) (Wn.none rfl) rfl rfl ?_ | refine WR.step (Ex.lenSlice Try.underlying42 rfl) (Wn.none rfl) rfl rfl ?_
    refine WR.split (Ex.lss rfl rfl) (Wn.none rfl) rfl rfl (fun h6_3 => ?_) (fun h6_3 => ?_)
    ·
      refine WR.nil ?_
      refine WQ.then ?_
      refine WC.condT rfl ?_
      refine WC.skip ?_
      refine WQ.then ?_
      refine WC.seq ?_
      refine WC.block ?_
      refine WC.seq ?_
      refine WC.region ?_
      refine WR.step (Ex.move rfl) (Wn.none rfl) rfl rfl ?_
      refine WR.step (Ex.move rfl) (Wn.none rfl) rfl rfl ?_
      refine WR.step (Ex.move rfl) (Wn.none rfl) rfl rfl ?_
      refine WR.step (Ex.add64 rfl rfl (by omega)) (Wn.none rfl) rfl rfl ?_
      refine WR.sliceSl (i := 6 * q) (j := 6 * q + 6) Try.underlying42 Try.sizeOf3 (by assumption) rfl (.inl ⟨_, rfl, rfl⟩) (.inl ⟨_, rfl, rfl⟩) (by omega) (by omega) (Wn.none rfl) rfl ?_
      intro v26 hs26
      refine WR.call H (sum_spec _ (((padBits l).take (6 * q + 6)).drop (6 * q)) (by simp only [List.length_drop, List.length_take]; omega) (part_le (padBits_le l) _ _)) rfl (by assumption) (Wn.none rfl) rfl ?_
      intro v27 M w H hle hr27
      replace hf := hf.mono hle
      replace hs26 := hs26.mono hle
      obtain rfl := hr27
      refine WR.stepE (v' := encN (six (padBits l) q)) (Ex.assign rfl) rfl (Wn.none rfl) rfl rfl ?_
      refine WR.nil ?_
      refine WQ.then ?_
      refine WC.region ?_
      refine WR.step (Ex.move rfl) (Wn.none rfl) rfl rfl ?_
      refine WR.step (Ex.move rfl) (Wn.none rfl) rfl rfl ?_
      refine WR.step (Ex.move rfl) (Wn.none rfl) rfl rfl ?_
      refine WR.step (Ex.add64 rfl rfl (by omega)) (Wn.none rfl) rfl rfl ?_
      refine WR.step (Ex.sliceStr (l := alpha) (i := six (padBits l) q) (j := six (padBits l) q + 1) Try.underlying9 rfl (.inl ⟨_, rfl, rfl⟩) (.inl ⟨_, rfl, rfl⟩) (by omega) (by rw [alpha_len]; omega)) (Wn.none rfl) rfl rfl ?_
      refine WR.stepE (v' := S (sext (padBits l) (q + 1))) (Ex.strAdd rfl rfl (by first | omega | (simp only [List.length_cons, List.length_nil]; omega) | (simp only [List.length_append, List.length_cons, List.length_nil, List.length_drop, List.length_take]; omega))) rfl (Wn.none rfl) rfl rfl ?_
      refine WR.step (Ex.assign rfl) (Wn.none rfl) rfl rfl ?_
      refine WR.nil ?_
      refine WQ.inBlock ?_
      refine WQ.then ?_
      refine WC.region ?_
      refine WR.step (Ex.move rfl) (Wn.none rfl) rfl rfl ?_
      refine WR.stepE (v' := I ((6 * (q + 1) : Nat) : Int)) (Ex.add64 rfl rfl (by omega)) (congrArg I (by omega)) (Wn.none rfl) rfl rfl ?_
      refine WR.step (Ex.assign rfl) (Wn.none rfl) rfl rfl ?_
      refine WR.nil ?_
      refine WQ.again1 (q + 1) ⟨rfl, rfl, rfl, trivial⟩ ?_ ?_
      · exact ⟨by omega, M, H, hf⟩
      · omega
    ·
      refine WR.nil ?_
      refine WQ.then ?_
      refine WC.condF rfl ?_
      refine WC.exit ?_
      refine WQ.thenExit ?_
      refine WQ.thenExit ?_
      refine WQ.exitHere ?_
      refine WQ.then ?_
      refine WC.seq ?_
      refine WC.block ?_
      refine WC.loop1 (fun (m : Nat) => [(4, S (sext (padBits l) q ++ List.replicate m 61))]) (fun (m : Nat) w => m ≤ (4 - (sext (padBits l) q).length % 4) % 4 ∧ ∃ M, St w0 M0 M [] w) (fun (m : Nat) => 4 - m) (0) ⟨(by rw [List.replicate_zero, List.append_nil]; rfl), trivial⟩ (⟨by omega, M, H⟩) ?_
      intro m w
      rintro ⟨hm, M, H⟩
      have hL2 : (sext (padBits l) q ++ List.replicate m 61).length = (sext (padBits l) q).length + m := by simp
      refine WC.seq ?_
      refine WC.seq ?_
      refine WC.region ?_
      refine WR.step (Ex.move rfl) (Wn.none rfl) rfl rfl ?_
      refine WR.step (Ex.lenStr Try.underlying9 rfl) (Wn.none rfl) rfl rfl ?_
      refine WR.step (Ex.rem64 rfl rfl (by first | omega | exact ⟨Int.natCast_nonneg _, by decide⟩)) (Wn.none rfl) rfl rfl ?_
      refine WR.split (Ex.neq rfl rfl) (Wn.none rfl) rfl rfl (fun h10_3 => ?_) (fun h10_3 => ?_)
      ·
        refine WR.nil ?_
        refine WQ.then ?_
        refine WC.condT rfl ?_
        refine WC.skip ?_
        refine WQ.then ?_
        refine WC.block ?_
        refine WC.region ?_
        refine WR.step (Ex.move rfl) (Wn.none rfl) rfl rfl ?_
        refine WR.stepE (v' := S (sext (padBits l) q ++ List.replicate (m + 1) 61)) (Ex.strAdd rfl rfl (by first | omega | (simp only [List.length_cons, List.length_nil]; omega) | (simp only [List.length_append, List.length_cons, List.length_nil, List.length_drop, List.length_take]; omega))) (by rw [List.replicate_succ', ← List.append_assoc]) (Wn.none rfl) rfl rfl ?_
        refine WR.step (Ex.assign rfl) (Wn.none rfl) rfl rfl ?_
        refine WR.nil ?_
        refine WQ.inBlock ?_
        refine WQ.again1 (m + 1) ⟨rfl, trivial⟩ ?_ ?_
        · exact ⟨by omega, M, H⟩
        · omega
      ·
        refine WR.nil ?_
        refine WQ.then ?_
        refine WC.condF rfl ?_
        refine WC.exit ?_
        refine WQ.thenExit ?_
        refine WQ.thenExit ?_
        refine WQ.exitHere ?_
        refine WQ.then ?_
        refine WC.seq ?_
        refine WC.region ?_
        refine WR.step (Ex.move rfl) (Wn.none rfl) rfl rfl ?_
        refine WR.step (Ex.assign rfl) (Wn.none rfl) rfl rfl ?_
        refine WR.nil ?_
        refine WQ.then ?_
        refine WC.ret ?_
        (repeat (first | refine WQ.thenRet ?_ | refine WQ.inBlockRet ?_))
        refine WQ.ret1 rfl rfl H.ext ?_
        exact (by
            have hq2 : q = (padBits l).length / 6 := by omega
            have hm2 : m = (4 - (sext (padBits l) q).length % 4) % 4 := by omega
            subst hq2
            rw [hm2, chars64])

theorem lines64_spec (b : Value) (l : List UInt8) (hs : l.length ≤ 1000000) (hc : (chars64 l).length ≤ 3000000) : Ct Try.prog 12 [b] (fun M => Bs M b l) (fun r M => Bs M r (lines64 (chars64 l))) := by
  refine Ct.of Try.func12 (enters Try.func12 (by kernel_rfl) rfl) rfl rfl rfl ?_
  intro w0 M0 H hp
  refine WC.seq ?_
  refine WC.region ?_
  refine WR.step (Ex.assign rfl) (Wn.none rfl) rfl rfl ?_
  refine WR.nil ?_
  refine WQ.then ?_
  refine WC.seq ?_
  refine WC.region ?_
  refine WR.step (Ex.move rfl) (Wn.none rfl) rfl rfl ?_
  refine WR.call H (chars64_spec _ _ (by omega)) rfl (by assumption) (Wn.none rfl) rfl ?_
  intro v6 M w H hle hr6
  replace hp := hp.mono hle
  obtain rfl := hr6
  refine WR.step (Ex.assign rfl) (Wn.none rfl) rfl rfl ?_
  refine WR.nil ?_
  refine WQ.then ?_
  refine WC.seq ?_
  refine WC.region ?_
  refine WR.step (Ex.assign rfl) (Wn.none rfl) rfl rfl ?_
  refine WR.nil ?_
  refine WQ.then ?_
  refine WC.seq ?_
  refine WC.block ?_
  replace H := H.newRow 5 encB
  refine WC.loop2 (fun (m : Nat) (v : Value) => [(3, S ((chars64 l).drop (76 * m))), (4, v)]) (fun (m : Nat) (v : Value) w => (m = 0 ∨ 76 * m < (chars64 l).length) ∧ ∃ M, St w0 M0 M [RowI 5 encB v (wrapTo (chars64 l) m)] w) (fun (m : Nat) (v : Value) => (chars64 l).length - 76 * m) (0) (_) ⟨rfl, rfl, trivial⟩ (⟨by omega, M, H⟩) ?_
  intro m v w
  rintro ⟨hm, M, H⟩
  have e1 : ((chars64 l).drop (76 * m)).length = (chars64 l).length - 76 * m := by simp
  have e2 := wrapTo_len (chars64 l) m
  have e3 : (((chars64 l).drop (76 * m)).take 76).length ≤ 76 := List.length_take_le _ _
  refine WC.seq ?_
  refine WC.seq ?_
  refine WC.region ?_
  refine WR.step (Ex.move rfl) (Wn.none rfl) rfl rfl ?_
  refine WR.step (Ex.lenStr Try.underlying9 rfl) (Wn.none rfl) rfl rfl ?_
  refine WR.split (Ex.gtr rfl rfl) (Wn.none rfl) rfl rfl (fun h3_2 => ?_) (fun h3_2 => ?_)
  ·
    refine WR.nil ?_
    refine WQ.then ?_
    refine WC.condT rfl ?_
    refine WC.skip ?_
    refine WQ.then ?_
    refine WC.block ?_
    refine WC.seq ?_
    refine WC.region ?_
    refine WR.step (Ex.move rfl) (Wn.none rfl) rfl rfl ?_
    refine WR.step (Ex.move rfl) (Wn.none rfl) rfl rfl ?_
    refine WR.stepE (v' := S (((chars64 l).drop (76 * m)).take 76)) (Ex.sliceStr (i := 0) (j := 76) Try.underlying9 rfl (.inr ⟨rfl, rfl⟩) (.inl ⟨_, rfl, rfl⟩) (by omega) (by omega)) rfl (Wn.none rfl) rfl rfl ?_
    refine WR.appendStr ty22 Try.underlying9 H rfl (fun _ => by repeat (first | exact Upd.head | apply Upd.tail)) rfl (by first | omega | (simp only [List.length_append, List.length_cons, List.length_nil]; omega)) (Wn.none rfl) rfl ?_
    intro v13 w H
    refine WR.lit (enc := encB) ty22 [13, 10] H rfl (by rfl) (fun _ => rfl) rfl rfl (Wn.none rfl) rfl ?_
    intro v14 M w H hle hl14
    refine WR.appendSl ty22 (fun _ => rfl) H rfl (fun _ => by repeat (first | exact Upd.head | apply Upd.tail)) rfl (by assumption) (by first | omega | (simp only [List.length_cons, List.length_nil]; omega) | (simp only [List.length_append, List.length_cons, List.length_nil]; omega)) (by first | (simp only [maxLen, List.length_cons, List.length_nil]; omega) | (simp only [maxLen, List.length_append, List.length_cons, List.length_nil]; omega)) (Wn.none rfl) rfl ?_
    intro v15 w H
    refine WR.step (Ex.assign rfl) (Wn.none rfl) rfl rfl ?_
    refine WR.nil ?_
    refine WQ.then ?_
    refine WC.region ?_
    refine WR.step (Ex.move rfl) (Wn.none rfl) rfl rfl ?_
    refine WR.stepE (v' := S ((chars64 l).drop (76 * (m + 1)))) (Ex.sliceStr (i := 76) (j := ((chars64 l).drop (76 * m)).length) Try.underlying9 rfl (.inl ⟨_, rfl, rfl⟩) (.inr ⟨rfl, rfl⟩) (by omega) (by omega)) (by rw [List.take_of_length_le (Nat.le_refl _), List.drop_drop]; rfl) (Wn.none rfl) rfl rfl ?_
    refine WR.step (Ex.assign rfl) (Wn.none rfl) rfl rfl ?_
    refine WR.nil ?_
    refine WQ.inBlock ?_
    refine WQ.again2 (m + 1) (v15) ⟨rfl, rfl, trivial⟩ ?_ ?_
    · refine ⟨by omega, M, ?_⟩
      exact H
    · omega
  ·
    refine WR.nil ?_
    refine WQ.then ?_
    refine WC.condF rfl ?_
    refine WC.exit ?_
    refine WQ.thenExit ?_
    refine WQ.thenExit ?_
    refine WQ.exitHere ?_
    refine WQ.then ?_
    refine WC.cut1 (fun (v : Value) => [(4, v)]) (fun (v : Value) w => ∃ M, St w0 M0 M [RowI 5 encB v (lines64 (chars64 l))] w) ?_ ?_
    ·
      refine WC.seq ?_
      refine WC.region ?_
      refine WR.step (Ex.move rfl) (Wn.none rfl) rfl rfl ?_
      refine WR.split (Ex.strNeq rfl rfl) (Wn.none rfl) rfl rfl (fun h6_1 => ?_) (fun h6_1 => ?_)
      ·
        refine WR.nil ?_
        refine WQ.then ?_
        refine WC.condT rfl ?_
        refine WC.region ?_
        refine WR.step (Ex.move rfl) (Wn.none rfl) rfl rfl ?_
        refine WR.step (Ex.move rfl) (Wn.none rfl) rfl rfl ?_
        refine WR.appendStr ty22 Try.underlying9 H rfl (fun _ => by repeat (first | exact Upd.head | apply Upd.tail)) rfl (by first | omega | (simp only [List.length_append, List.length_cons, List.length_nil]; omega)) (Wn.none rfl) rfl ?_
        intro v22 w H
        refine WR.lit (enc := encB) ty22 [13, 10] H rfl (by rfl) (fun _ => rfl) rfl rfl (Wn.none rfl) rfl ?_
        intro v23 M w H hle hl23
        refine WR.appendSl ty22 (fun _ => rfl) H rfl (fun _ => by repeat (first | exact Upd.head | apply Upd.tail)) rfl (by assumption) (by first | omega | (simp only [List.length_cons, List.length_nil]; omega) | (simp only [List.length_append, List.length_cons, List.length_nil]; omega)) (by first | (simp only [maxLen, List.length_cons, List.length_nil]; omega) | (simp only [maxLen, List.length_append, List.length_cons, List.length_nil]; omega)) (Wn.none rfl) rfl ?_
        intro v24 w H
        refine WR.step (Ex.assign rfl) (Wn.none rfl) rfl rfl ?_
        refine WR.nil ?_
        refine WQ.meet1 (v24) ⟨rfl, trivial⟩ ?_
        refine ⟨M, ?_⟩
        have hm2 : m = ((chars64 l).length - 1) / 76 := by omega
        rw [lines64, if_neg (by rw [← hm2]; exact h6_1), ← hm2, ← List.append_assoc]
        exact H
      ·
        refine WR.nil ?_
        refine WQ.then ?_
        refine WC.condF rfl ?_
        refine WC.skip ?_
        refine WQ.meet1 (v) ⟨rfl, trivial⟩ ?_
        refine ⟨M, ?_⟩
        have h0 := Decidable.not_not.1 h6_1
        have hm2 : m = ((chars64 l).length - 1) / 76 := by rw [h0] at e1; simp only [List.length_nil] at e1; omega
        rw [lines64, ← hm2, if_pos h0, List.append_nil]
        exact H
    ·
      intro v w
      rintro ⟨M, H⟩
      refine WC.seq ?_
      refine WC.region ?_
      refine WR.step (Ex.move rfl) (Wn.none rfl) rfl rfl ?_
      refine WR.step (Ex.assign rfl) (Wn.none rfl) rfl rfl ?_
      refine WR.nil ?_
      refine WQ.then ?_
      refine WC.ret ?_
      (repeat (first | refine WQ.thenRet ?_ | refine WQ.inBlockRet ?_))
      obtain ⟨M, hle, hf, H⟩ := H.freezeRow (v := v) (enc := encB) (t := 5) (by repeat (first | exact Rem.head | apply Rem.tail))
      refine WQ.ret1 rfl rfl H.ext ?_
      exact hf

theorem loose64_spec (b : Value) (l : List UInt8) (hs : l.length ≤ 1000000) : Ct Try.prog 14 [b] (fun M => Bs M b l) (fun r M => Bs M r (loose64 l)) := by
  refine Ct.of Try.func14 (enters Try.func14 (by kernel_rfl) rfl) rfl rfl rfl ?_
  intro w0 M0 H hp
  refine WC.seq ?_
  refine WC.region ?_
  refine WR.step (Ex.assign rfl) (Wn.none rfl) rfl rfl ?_
  refine WR.nil ?_
  refine WQ.then ?_
  refine WC.seq ?_
  refine WC.region ?_
  refine WR.step (Ex.assign rfl) (Wn.none rfl) rfl rfl ?_
  refine WR.nil ?_
  refine WQ.then ?_
  refine WC.cut1 (fun (v : Value) => [(3, v)]) (fun (v : Value) w => ∃ M, St w0 M0 M [RowI 3 encN v (vbits (upto61 l))] w) ?_ ?_
  ·
    refine WC.seq ?_
    refine WC.region ?_
    refine WR.step (Ex.assign rfl) (Wn.none rfl) rfl rfl ?_
    refine WR.nil ?_
    refine WQ.then ?_
    refine WC.block ?_
    refine WC.loop2 (fun (k : Nat) (v : Value) => [(0, b), (3, v), (4, I (k : Int))]) (fun (k : Nat) (v : Value) w => k ≤ l.length ∧ (∀ j u, l[j]? = some u → j < k → u ≠ 61) ∧ ∃ M, St w0 M0 M [RowI 3 encN v (vbits (l.take k))] w) (fun (k : Nat) (v : Value) => l.length - k) (0) (_) ⟨rfl, rfl, rfl, trivial⟩ (⟨by omega, fun _ _ _ h => absurd h (by omega), M0, H.newRow 3 encN⟩) ?_
    intro k v w
    rintro ⟨hk, hb61, M, H⟩
    have hb := hp.mono H.ext.le
    refine WC.seq ?_
    refine WC.seq ?_
    refine WC.region ?_
    refine WR.step (Ex.move rfl) (Wn.none rfl) rfl rfl ?_
    refine WR.step (Ex.move rfl) (Wn.none rfl) rfl rfl ?_
    first | refine WR.step (Ex.lenSl Try.underlying22 (by assumption) rfl) (Wn.none rfl) rfl rfl ?_ | refine WR.step (Ex.lenRow Try.underlying22 H (by repeat (first | exact List.Mem.head _ | apply List.Mem.tail)) rfl) (Wn.none rfl) rfl rfl ?_ | refine WR.step (Ex.lenSlice Try.underlying22 rfl) (Wn.none rfl) rfl rfl ?_
    refine WR.split (Ex.lss rfl rfl) (Wn.none rfl) rfl rfl (fun h3_3 => ?_) (fun h3_3 => ?_)
    ·
      obtain ⟨u, hu⟩ : ∃ u, l[k]? = some u := ⟨_, List.getElem?_eq_getElem (by omega)⟩
      refine WR.step (Ex.move rfl) (Wn.none rfl) rfl rfl ?_
      refine WR.step (Ex.move rfl) (Wn.some rfl rfl rfl) rfl rfl ?_
      refine WR.step (Ex.move rfl) (Wn.some rfl rfl rfl) rfl rfl ?_
      refine WR.idxSl Try.underlying22 Try.sizeOf5 (by assumption) rfl rfl (hu) (Wn.some rfl rfl rfl) rfl ?_
      intro p16 hc16
      first | refine WR.step (Ex.loadM H rfl (by assumption) Try.isAgg5) (Wn.some rfl rfl rfl) rfl rfl ?_ | refine WR.step (Ex.load1 H rfl (by repeat (first | exact List.Mem.head _ | apply List.Mem.tail)) Try.isAgg5 (by rfl)) (Wn.some rfl rfl rfl) rfl rfl ?_
      refine WR.split (Ex.neq rfl rfl) (Wn.some rfl rfl rfl) rfl rfl (fun h3_9 => ?_) (fun h3_9 => ?_)
      ·
        refine WR.step (Ex.pickT rfl rfl) (Wn.none rfl) rfl rfl ?_
        refine WR.nil ?_
        refine WQ.then ?_
        refine WC.condT rfl ?_
        refine WC.skip ?_
        refine WQ.then ?_
        refine WC.seq ?_
        refine WC.block ?_
        refine WC.seq ?_
        refine WC.region ?_
        refine WR.step (Ex.move rfl) (Wn.none rfl) rfl rfl ?_
        refine WR.step (Ex.move rfl) (Wn.none rfl) rfl rfl ?_
        refine WR.idxSl Try.underlying22 Try.sizeOf5 (by assumption) rfl rfl (hu) (Wn.none rfl) rfl ?_
        intro p24 hc24
        first | refine WR.step (Ex.loadM H rfl (by assumption) Try.isAgg5) (Wn.none rfl) rfl rfl ?_ | refine WR.step (Ex.load1 H rfl (by repeat (first | exact List.Mem.head _ | apply List.Mem.tail)) Try.isAgg5 (by rfl)) (Wn.none rfl) rfl rfl ?_
        refine WR.call H (value64_spec _) rfl (trivial) (Wn.none rfl) rfl ?_
        intro v26 M w H hle hr26
        replace hb := hb.mono hle
        obtain rfl := hr26
        refine WR.step (Ex.assign rfl) (Wn.none rfl) rfl rfl ?_
        refine WR.nil ?_
        refine WQ.then ?_
        refine WC.seq ?_
        refine WC.region ?_
        refine WR.step (Ex.assign rfl) (Wn.none rfl) rfl rfl ?_
        refine WR.nil ?_
        refine WQ.then ?_
        refine WC.block ?_
        refine WC.loop2 (fun (j : Nat) (v : Value) => [(0, b), (3, v), (4, I (k : Int)), (5, I (val64 u)), (6, I (5 - (j : Int)))]) (fun (j : Nat) (v : Value) w => j ≤ 6 ∧ (val64 u < 0 → j = 0) ∧ ∃ M, St w0 M0 M [RowI 3 encN v (vbits (l.take k) ++ (bits6 (val64 u).toNat).take j)] w) (fun (j : Nat) (v : Value) => 6 - j) (0) (_) ⟨rfl, rfl, rfl, rfl, rfl, trivial⟩ (⟨by omega, fun _ => rfl, M, by simpa using H⟩) ?_
        intro j v w
        rintro ⟨hj, hz, M, H⟩
        have hb := hp.mono H.ext.le
        have e1 := vbits_len (l.take k)
        have e2 : (l.take k).length ≤ l.length := List.length_take_le' _ _
        have e3 : ((bits6 (val64 u).toNat).take j).length ≤ 6 := by rw [List.length_take, bits6_len]; omega
        have e4 : val64 u < 64 := by unfold val64; split <;> omega
        refine WC.seq ?_
        refine WC.seq ?_
        refine WC.region ?_
        refine WR.step (Ex.move rfl) (Wn.none rfl) rfl rfl ?_
        refine WR.split (Ex.geq rfl rfl) (Wn.none rfl) rfl rfl (fun h7_1 => ?_) (fun h7_1 => ?_)
        ·
          refine WR.step (Ex.move rfl) (Wn.none rfl) rfl rfl ?_
          refine WR.step (Ex.move rfl) (Wn.some rfl rfl rfl) rfl rfl ?_
          refine WR.split (Ex.geq rfl rfl) (Wn.some rfl rfl rfl) rfl rfl (fun h7_4 => ?_) (fun h7_4 => ?_)
          ·
            refine WR.step (Ex.pickT rfl rfl) (Wn.none rfl) rfl rfl ?_
            refine WR.nil ?_
            refine WQ.then ?_
            refine WC.condT rfl ?_
            refine WC.skip ?_
            refine WQ.then ?_
            refine WC.seq ?_
            refine WC.block ?_
            refine WC.region ?_
            refine WR.step (Ex.move rfl) (Wn.none rfl) rfl rfl ?_
            refine WR.stepE (v' := encN (val64 u).toNat) (Ex.move rfl) (congrArg I (by omega)) (Wn.none rfl) rfl rfl ?_
            refine WR.stepE (v' := I ((5 - j : Nat) : Int)) (Ex.move rfl) (congrArg I (by omega)) (Wn.none rfl) rfl rfl ?_
            refine WR.step (Ex.convU64 Try.underlying3 Try.underlying41 rfl (by omega)) (Wn.none rfl) rfl rfl ?_
            refine WR.step (Ex.shrN (m := _) (s := _) rfl rfl (by first | (show _ ≤ 64; omega) | (show _ ≤ 8; omega) | decide)) (Wn.none rfl) rfl rfl ?_
            refine WR.stepE (v' := encN ((val64 u).toNat / 2 ^ (5 - j) % 2)) (Ex.rem64 rfl rfl (by first | omega | exact ⟨Int.natCast_nonneg _, by decide⟩)) (mod2 _) (Wn.none rfl) rfl rfl ?_
            refine WR.lit (enc := encN) ty42 [_] H rfl (by rfl) (fun _ => rfl) rfl rfl (Wn.none rfl) rfl ?_
            intro v41 M w H hle hl41
            replace hb := hb.mono hle
            refine WR.appendSl ty42 (fun _ => rfl) H rfl (fun _ => by repeat (first | exact Upd.head | apply Upd.tail)) rfl (by assumption) (by first | omega | (simp only [List.length_cons, List.length_nil]; omega) | (simp only [List.length_append, List.length_cons, List.length_nil]; omega)) (by first | (simp only [maxLen, List.length_cons, List.length_nil]; omega) | (simp only [maxLen, List.length_append, List.length_cons, List.length_nil]; omega)) (Wn.none rfl) rfl ?_
            intro v42 w H
            refine WR.step (Ex.assign rfl) (Wn.none rfl) rfl rfl ?_
            refine WR.nil ?_
            refine WQ.inBlock ?_
            refine WQ.then ?_
            refine WC.region ?_
            refine WR.step (Ex.move rfl) (Wn.none rfl) rfl rfl ?_
            refine WR.stepE (v' := I (5 - ((j + 1 : Nat) : Int))) (Ex.sub64 rfl rfl (by omega)) (congrArg I (by omega)) (Wn.none rfl) rfl rfl ?_
            refine WR.step (Ex.assign rfl) (Wn.none rfl) rfl rfl ?_
            refine WR.nil ?_
            refine WQ.again2 (j + 1) (v42) ⟨rfl, rfl, rfl, rfl, rfl, trivial⟩ ?_ ?_
            · refine ⟨by omega, fun h => absurd h (by omega), M, ?_⟩
              rw [bits6_next _ _ (by omega), ← List.append_assoc]
              exact H
            · omega
          ·
            refine WR.step (Ex.pickT rfl rfl) (Wn.none rfl) rfl rfl ?_
            refine WR.nil ?_
            refine WQ.then ?_
            refine WC.condF rfl ?_
            refine WC.exit ?_
            refine WQ.thenExit ?_
            refine WQ.thenExit ?_
            refine WQ.exitHere ?_
            refine WQ.inBlock ?_
            refine WQ.then ?_
            refine WC.region ?_
            refine WR.step (Ex.move rfl) (Wn.none rfl) rfl rfl ?_
            refine WR.step (Ex.add64 rfl rfl (by omega)) (Wn.none rfl) rfl rfl ?_
            refine WR.step (Ex.assign rfl) (Wn.none rfl) rfl rfl ?_
            refine WR.nil ?_
            refine WQ.again2 (k + 1) (v) ⟨rfl, rfl, rfl, trivial⟩ ?_ ?_
            · refine ⟨by omega, fun j x hj hjk => ?_, M, ?_⟩
              · rcases Nat.lt_or_ge j k with h | h
                · exact hb61 j x hj h
                · obtain rfl : j = k := by omega
                  rw [hu] at hj; cases hj
                  exact fun h => h3_9 (by rw [h]; rfl)
              · rw [vbits_next hu, ← vb_done u j (by omega)]
                exact H
            · omega
        ·
          refine WR.step (Ex.move rfl) (Wn.none rfl) rfl rfl ?_
          refine WR.skipG (b := false) rfl rfl rfl rfl rfl ?_
          refine WR.skipG (b := false) rfl rfl rfl rfl rfl ?_
          refine WR.step (Ex.pickF rfl rfl) (Wn.none rfl) rfl rfl ?_
          refine WR.nil ?_
          refine WQ.then ?_
          refine WC.condF rfl ?_
          refine WC.exit ?_
          refine WQ.thenExit ?_
          refine WQ.thenExit ?_
          refine WQ.exitHere ?_
          refine WQ.inBlock ?_
          refine WQ.then ?_
          refine WC.region ?_
          refine WR.step (Ex.move rfl) (Wn.none rfl) rfl rfl ?_
          refine WR.step (Ex.add64 rfl rfl (by omega)) (Wn.none rfl) rfl rfl ?_
          refine WR.step (Ex.assign rfl) (Wn.none rfl) rfl rfl ?_
          refine WR.nil ?_
          refine WQ.again2 (k + 1) (v) ⟨rfl, rfl, rfl, trivial⟩ ?_ ?_
          · refine ⟨by omega, fun j x hj hjk => ?_, M, ?_⟩
            · rcases Nat.lt_or_ge j k with h | h
              · exact hb61 j x hj h
              · obtain rfl : j = k := by omega
                rw [hu] at hj; cases hj
                exact fun h => h3_9 (by rw [h]; rfl)
            · rw [vbits_next hu, ← vb_done u j (by omega)]
              exact H
          · omega
      ·
        refine WR.step (Ex.pickT rfl rfl) (Wn.none rfl) rfl rfl ?_
        refine WR.nil ?_
        refine WQ.then ?_
        refine WC.condF rfl ?_
        refine WC.exit ?_
        refine WQ.thenExit ?_
        refine WQ.thenExit ?_
        refine WQ.exitHere ?_
        refine WQ.meet1 (v) ⟨rfl, trivial⟩ ?_
        refine ⟨M, ?_⟩
        rw [upto61_eq l k hb61 (.inr (by rw [hu]; congr 1; exact b_eq.1 (Decidable.not_not.1 h3_9)))]
        exact H
    ·
      refine WR.step (Ex.move rfl) (Wn.none rfl) rfl rfl ?_
      refine WR.skipG (b := false) rfl rfl rfl rfl rfl ?_
      refine WR.skipG (b := false) rfl rfl rfl rfl rfl ?_
      refine WR.skipG (b := false) rfl rfl rfl rfl rfl ?_
      refine WR.skipG (b := false) rfl rfl rfl rfl rfl ?_
      refine WR.skipG (b := false) rfl rfl rfl rfl rfl ?_
      refine WR.step (Ex.pickF rfl rfl) (Wn.none rfl) rfl rfl ?_
      refine WR.nil ?_
      refine WQ.then ?_
      refine WC.condF rfl ?_
      refine WC.exit ?_
      refine WQ.thenExit ?_
      refine WQ.thenExit ?_
      refine WQ.exitHere ?_
      refine WQ.meet1 (v) ⟨rfl, trivial⟩ ?_
      refine ⟨M, ?_⟩
      rw [upto61_eq l k hb61 (.inl (by omega))]
      exact H
  ·
    intro v w
    rintro ⟨M, H⟩
    refine WC.seq ?_
    refine WC.region ?_
    refine WR.step (Ex.assign rfl) (Wn.none rfl) rfl rfl ?_
    refine WR.nil ?_
    refine WQ.then ?_
    refine WC.seq ?_
    refine WC.seq ?_
    refine WC.region ?_
    refine WR.step (Ex.assign rfl) (Wn.none rfl) rfl rfl ?_
    refine WR.nil ?_
    refine WQ.then ?_
    refine WC.block ?_
    obtain ⟨M, hle, hf, H⟩ := H.freezeRow (v := v) (enc := encN) (t := 3) (by repeat (first | exact Rem.head | apply Rem.tail))
    replace H := H.newRow 5 encB
    refine WC.loop2 (fun (q : Nat) (vo : Value) => [(3, v), (7, vo), (8, I ((8 * q : Nat) : Int))]) (fun (q : Nat) (vo : Value) w => 8 * q ≤ (vbits (upto61 l)).length ∧ ∃ M, St w0 M0 M [RowI 5 encB vo (octs (vbits (upto61 l)) q)] w ∧ Sl M encN v (vbits (upto61 l))) (fun (q : Nat) (vo : Value) => (vbits (upto61 l)).length - 8 * q) (0) (_) ⟨rfl, rfl, rfl, trivial⟩ (⟨by omega, M, H, hf⟩) ?_
    intro q vo w
    rintro ⟨hq, M, H, hf⟩
    have e1 := vbits_len (upto61 l)
    have e2 := octs_len (vbits (upto61 l)) q
    have e3 := eight_lt (vbits_le (upto61 l)) q
    have e4 : (upto61 l).length ≤ l.length := (List.takeWhile_sublist _).length_le
    refine WC.seq ?_
    refine WC.seq ?_
    refine WC.region ?_
    refine WR.step (Ex.move rfl) (Wn.none rfl) rfl rfl ?_
    refine WR.step (Ex.add64 rfl rfl (by omega)) (Wn.none rfl) rfl rfl ?_
    refine WR.step (Ex.move rfl) (Wn.none rfl) rfl rfl ?_
    first | refine WR.step (Ex.lenSl Try.underlying42 (by assumption) rfl) (Wn.none rfl) rfl rfl ?_ | refine WR.step (Ex.lenRow Try.underlying42 H (by repeat (first | exact List.Mem.head _ | apply List.Mem.tail)) rfl) (Wn.none rfl) rfl rfl ?_ | refine WR.step (Ex.lenSlice Try.underlying42 rfl) (Wn.none rfl) rfl rfl ?_
    refine WR.split (Ex.leq rfl rfl) (Wn.none rfl) rfl rfl (fun h12_4 => ?_) (fun h12_4 => ?_)
    ·
      refine WR.nil ?_
      refine WQ.then ?_
      refine WC.condT rfl ?_
      refine WC.skip ?_
      refine WQ.then ?_
      refine WC.seq ?_
      refine WC.block ?_
      refine WC.region ?_
      refine WR.step (Ex.move rfl) (Wn.none rfl) rfl rfl ?_
      refine WR.step (Ex.move rfl) (Wn.none rfl) rfl rfl ?_
      refine WR.step (Ex.move rfl) (Wn.none rfl) rfl rfl ?_
      refine WR.step (Ex.move rfl) (Wn.none rfl) rfl rfl ?_
      refine WR.step (Ex.add64 rfl rfl (by omega)) (Wn.none rfl) rfl rfl ?_
      refine WR.sliceSl (i := 8 * q) (j := 8 * q + 8) Try.underlying42 Try.sizeOf3 (by assumption) rfl (.inl ⟨_, rfl, rfl⟩) (.inl ⟨_, rfl, rfl⟩) (by omega) (by omega) (Wn.none rfl) rfl ?_
      intro v55 hs55
      refine WR.call H (sum_spec _ (((vbits (upto61 l)).take (8 * q + 8)).drop (8 * q)) (by simp only [List.length_drop, List.length_take]; omega) (part_le (vbits_le _) _ _)) rfl (by assumption) (Wn.none rfl) rfl ?_
      intro v56 M w H hle hr56
      replace hf := hf.mono hle
      replace hs55 := hs55.mono hle
      obtain rfl := hr56
      refine WR.stepE (v' := encB (UInt8.ofNat (eight (vbits (upto61 l)) q))) (Ex.convU8 Try.underlying3 Try.underlying5 rfl) (congrArg encB (ub_nat _ e3)) (Wn.none rfl) rfl rfl ?_
      refine WR.lit (enc := encB) ty22 [UInt8.ofNat (eight (vbits (upto61 l)) q)] H rfl (by rfl) (fun _ => rfl) rfl rfl (Wn.none rfl) rfl ?_
      intro v58 M w H hle hl58
      replace hf := hf.mono hle
      replace hs55 := hs55.mono hle
      refine WR.appendSl ty22 (fun _ => rfl) H rfl (fun _ => by repeat (first | exact Upd.head | apply Upd.tail)) rfl (by assumption) (by first | omega | (simp only [List.length_cons, List.length_nil]; omega) | (simp only [List.length_append, List.length_cons, List.length_nil]; omega)) (by first | (simp only [maxLen, List.length_cons, List.length_nil]; omega) | (simp only [maxLen, List.length_append, List.length_cons, List.length_nil]; omega)) (Wn.none rfl) rfl ?_
      intro v59 w H
      refine WR.step (Ex.assign rfl) (Wn.none rfl) rfl rfl ?_
      refine WR.nil ?_
      refine WQ.inBlock ?_
      refine WQ.then ?_
      refine WC.region ?_
      refine WR.step (Ex.move rfl) (Wn.none rfl) rfl rfl ?_
      refine WR.stepE (v' := I ((8 * (q + 1) : Nat) : Int)) (Ex.add64 rfl rfl (by omega)) (congrArg I (by omega)) (Wn.none rfl) rfl rfl ?_
      refine WR.step (Ex.assign rfl) (Wn.none rfl) rfl rfl ?_
      refine WR.nil ?_
      refine WQ.again2 (q + 1) (v59) ⟨rfl, rfl, rfl, trivial⟩ ?_ ?_
      · exact ⟨by omega, M, H, hf⟩
      · omega
    ·
      refine WR.nil ?_
      refine WQ.then ?_
      refine WC.condF rfl ?_
      refine WC.exit ?_
      refine WQ.thenExit ?_
      refine WQ.thenExit ?_
      refine WQ.exitHere ?_
      refine WQ.then ?_
      refine WC.seq ?_
      refine WC.region ?_
      refine WR.step (Ex.move rfl) (Wn.none rfl) rfl rfl ?_
      refine WR.step (Ex.assign rfl) (Wn.none rfl) rfl rfl ?_
      refine WR.nil ?_
      refine WQ.then ?_
      refine WC.ret ?_
      (repeat (first | refine WQ.thenRet ?_ | refine WQ.inBlockRet ?_))
      obtain ⟨M, hle, hfo, H⟩ := H.freezeRow (v := vo) (enc := encB) (t := 5) (by repeat (first | exact Rem.head | apply Rem.tail))
      rw [show q = (vbits (upto61 l)).length / 8 by omega] at hfo
      refine WQ.ret1 rfl rfl H.ext ?_
      exact hfo

end Go.Proofs.Ytgkpcfgbbgpihaa
