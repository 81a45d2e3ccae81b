/-
  valid texts: walks over the program's own operations, written by a program of this repository (wip/tools/gen.py) out of a plan.
-/
import Derived.Test.YtnjglbmaonbcbaaDoorLow
import Derived.Test.YtnjglbmaonbcbaaDoorVal
import Derived.Test.YtnjglbmaonbcbaaDoorDraw
import Derived.KernelRfl
set_option linter.unusedVariables false
set_option linter.unusedSimpArgs false
namespace Go.Proofs.YtnjglbmaonbcbaaDoor
open Go Go.RowKit Go.Ph

open Go.Ph.Gr Go.Ph.Utf Go.Ph.Chs
theorem word_spec (l : List UInt8) (hl : 8 ≤ l.length) : Ct Tryd.prog 57 [S l] (fun _ => True) (fun r _ => r = .int .u64 ((w8 l : Nat) : Int)) := by
  refine Ct.of Tryd.func57 (enters Tryd.func57 (by kernel_rfl) rfl) rfl rfl rfl ?_
  intro w0 M0 H hp
  obtain ⟨b0, hb0⟩ : ∃ u, l[0]? = some u := ⟨_, List.getElem?_eq_getElem (by omega)⟩
  have hlt0 := b0.toNat_lt
  have hn0 := nat_of hb0
  obtain ⟨b1, hb1⟩ : ∃ u, l[1]? = some u := ⟨_, List.getElem?_eq_getElem (by omega)⟩
  have hlt1 := b1.toNat_lt
  have hn1 := nat_of hb1
  obtain ⟨b2, hb2⟩ : ∃ u, l[2]? = some u := ⟨_, List.getElem?_eq_getElem (by omega)⟩
  have hlt2 := b2.toNat_lt
  have hn2 := nat_of hb2
  obtain ⟨b3, hb3⟩ : ∃ u, l[3]? = some u := ⟨_, List.getElem?_eq_getElem (by omega)⟩
  have hlt3 := b3.toNat_lt
  have hn3 := nat_of hb3
  obtain ⟨b4, hb4⟩ : ∃ u, l[4]? = some u := ⟨_, List.getElem?_eq_getElem (by omega)⟩
  have hlt4 := b4.toNat_lt
  have hn4 := nat_of hb4
  obtain ⟨b5, hb5⟩ : ∃ u, l[5]? = some u := ⟨_, List.getElem?_eq_getElem (by omega)⟩
  have hlt5 := b5.toNat_lt
  have hn5 := nat_of hb5
  obtain ⟨b6, hb6⟩ : ∃ u, l[6]? = some u := ⟨_, List.getElem?_eq_getElem (by omega)⟩
  have hlt6 := b6.toNat_lt
  have hn6 := nat_of hb6
  obtain ⟨b7, hb7⟩ : ∃ u, l[7]? = some u := ⟨_, List.getElem?_eq_getElem (by omega)⟩
  have hlt7 := b7.toNat_lt
  have hn7 := nat_of hb7
  have hw0 : b0.toNat < 2 ^ 64 := by omega
  have hs1 := shl64 (b := b1.toNat) (k := 8) hlt1 (by decide)
  have hw1 : b0.toNat ||| b1.toNat <<< 8 < 2 ^ 64 := Nat.or_lt_two_pow hw0 hs1.1
  have hs2 := shl64 (b := b2.toNat) (k := 16) hlt2 (by decide)
  have hw2 : b0.toNat ||| b1.toNat <<< 8 ||| b2.toNat <<< 16 < 2 ^ 64 := Nat.or_lt_two_pow hw1 hs2.1
  have hs3 := shl64 (b := b3.toNat) (k := 24) hlt3 (by decide)
  have hw3 : b0.toNat ||| b1.toNat <<< 8 ||| b2.toNat <<< 16 ||| b3.toNat <<< 24 < 2 ^ 64 := Nat.or_lt_two_pow hw2 hs3.1
  have hs4 := shl64 (b := b4.toNat) (k := 32) hlt4 (by decide)
  have hw4 : b0.toNat ||| b1.toNat <<< 8 ||| b2.toNat <<< 16 ||| b3.toNat <<< 24 ||| b4.toNat <<< 32 < 2 ^ 64 := Nat.or_lt_two_pow hw3 hs4.1
  have hs5 := shl64 (b := b5.toNat) (k := 40) hlt5 (by decide)
  have hw5 : b0.toNat ||| b1.toNat <<< 8 ||| b2.toNat <<< 16 ||| b3.toNat <<< 24 ||| b4.toNat <<< 32 ||| b5.toNat <<< 40 < 2 ^ 64 := Nat.or_lt_two_pow hw4 hs5.1
  have hs6 := shl64 (b := b6.toNat) (k := 48) hlt6 (by decide)
  have hw6 : b0.toNat ||| b1.toNat <<< 8 ||| b2.toNat <<< 16 ||| b3.toNat <<< 24 ||| b4.toNat <<< 32 ||| b5.toNat <<< 40 ||| b6.toNat <<< 48 < 2 ^ 64 := Nat.or_lt_two_pow hw5 hs6.1
  have hs7 := shl64 (b := b7.toNat) (k := 56) hlt7 (by decide)
  have hw7 : b0.toNat ||| b1.toNat <<< 8 ||| b2.toNat <<< 16 ||| b3.toNat <<< 24 ||| b4.toNat <<< 32 ||| b5.toNat <<< 40 ||| b6.toNat <<< 48 ||| b7.toNat <<< 56 < 2 ^ 64 := Nat.or_lt_two_pow hw6 hs7.1
  refine WC.seq ?_
  refine WC.region ?_
  refine WR.step (Ex.assign rfl) (Wn.none rfl) rfl rfl ?_
  refine WR.nil ?_
  refine WQ.then ?_
  refine WC.seq ?_
  refine WC.condF rfl ?_
  refine WC.skip ?_
  refine WQ.then ?_
  refine WC.seq ?_
  refine WC.draw (m := 39) rfl rfl H ?_
  intro w H
  refine WA.take (i := 0) rfl (by kernel_rfl) (by kernel_rfl) (by kernel_rfl) (fun _ => Ex.move rfl) (Wn.none rfl) rfl rfl (fun _ _ => rfl) ?_
  refine WA.take (i := 1) rfl (by kernel_rfl) (by kernel_rfl) (by kernel_rfl) (fun _ => Ex.idxStr Tryd.underlying9 rfl rfl (hb0)) (Wn.none rfl) rfl rfl (fun _ _ => rfl) ?_
  refine WA.take (i := 2) rfl (by kernel_rfl) (by kernel_rfl) (by kernel_rfl) (fun _ => Ex.convU64 Tryd.underlying5 Tryd.underlying92 rfl (by omega)) (Wn.none rfl) rfl rfl (fun _ _ => rfl) ?_
  refine WA.take (i := 3) rfl (by kernel_rfl) (by kernel_rfl) (by kernel_rfl) (fun _ => Ex.move rfl) (Wn.none rfl) rfl rfl (fun _ _ => rfl) ?_
  refine WA.take (i := 4) rfl (by kernel_rfl) (by kernel_rfl) (by kernel_rfl) (fun _ => Ex.idxStr Tryd.underlying9 rfl rfl (hb1)) (Wn.none rfl) rfl rfl (fun _ _ => rfl) ?_
  refine WA.take (i := 5) rfl (by kernel_rfl) (by kernel_rfl) (by kernel_rfl) (fun _ => Ex.convU64 Tryd.underlying5 Tryd.underlying92 rfl (by omega)) (Wn.none rfl) rfl rfl (fun _ _ => rfl) ?_
  refine WA.takeE (v' := .int .u64 ((b1.toNat <<< 8 : Nat) : Int)) (i := 6) rfl (by kernel_rfl) (by kernel_rfl) (by kernel_rfl) (fun _ => Ex.shlK (m := b1.toNat) (s := 8) rfl rfl (by decide)) (congrArg (Value.int .u64) hs1.2) (Wn.none rfl) rfl rfl (fun _ _ => rfl) ?_
  refine WA.takeE (v' := .int .u64 ((b0.toNat ||| b1.toNat <<< 8 : Nat) : Int)) (i := 7) rfl (by kernel_rfl) (by kernel_rfl) (by kernel_rfl) (fun _ => Ex.orK (m := (b0.toNat)) (s := (b1.toNat <<< 8)) rfl rfl hw0 hs1.1) (congrArg (Value.int .u64) (or64 hw0 hs1.1)) (Wn.none rfl) rfl rfl (fun _ _ => rfl) ?_
  refine WA.take (i := 8) rfl (by kernel_rfl) (by kernel_rfl) (by kernel_rfl) (fun _ => Ex.move rfl) (Wn.none rfl) rfl rfl (fun _ _ => rfl) ?_
  refine WA.take (i := 9) rfl (by kernel_rfl) (by kernel_rfl) (by kernel_rfl) (fun _ => Ex.idxStr Tryd.underlying9 rfl rfl (hb2)) (Wn.none rfl) rfl rfl (fun _ _ => rfl) ?_
  refine WA.take (i := 10) rfl (by kernel_rfl) (by kernel_rfl) (by kernel_rfl) (fun _ => Ex.convU64 Tryd.underlying5 Tryd.underlying92 rfl (by omega)) (Wn.none rfl) rfl rfl (fun _ _ => rfl) ?_
  refine WA.takeE (v' := .int .u64 ((b2.toNat <<< 16 : Nat) : Int)) (i := 11) rfl (by kernel_rfl) (by kernel_rfl) (by kernel_rfl) (fun _ => Ex.shlK (m := b2.toNat) (s := 16) rfl rfl (by decide)) (congrArg (Value.int .u64) hs2.2) (Wn.none rfl) rfl rfl (fun _ _ => rfl) ?_
  refine WA.takeE (v' := .int .u64 ((b0.toNat ||| b1.toNat <<< 8 ||| b2.toNat <<< 16 : Nat) : Int)) (i := 12) rfl (by kernel_rfl) (by kernel_rfl) (by kernel_rfl) (fun _ => Ex.orK (m := (b0.toNat ||| b1.toNat <<< 8)) (s := (b2.toNat <<< 16)) rfl rfl hw1 hs2.1) (congrArg (Value.int .u64) (or64 hw1 hs2.1)) (Wn.none rfl) rfl rfl (fun _ _ => rfl) ?_
  refine WA.take (i := 13) rfl (by kernel_rfl) (by kernel_rfl) (by kernel_rfl) (fun _ => Ex.move rfl) (Wn.none rfl) rfl rfl (fun _ _ => rfl) ?_
  refine WA.take (i := 14) rfl (by kernel_rfl) (by kernel_rfl) (by kernel_rfl) (fun _ => Ex.idxStr Tryd.underlying9 rfl rfl (hb3)) (Wn.none rfl) rfl rfl (fun _ _ => rfl) ?_
  refine WA.take (i := 15) rfl (by kernel_rfl) (by kernel_rfl) (by kernel_rfl) (fun _ => Ex.convU64 Tryd.underlying5 Tryd.underlying92 rfl (by omega)) (Wn.none rfl) rfl rfl (fun _ _ => rfl) ?_
  refine WA.takeE (v' := .int .u64 ((b3.toNat <<< 24 : Nat) : Int)) (i := 16) rfl (by kernel_rfl) (by kernel_rfl) (by kernel_rfl) (fun _ => Ex.shlK (m := b3.toNat) (s := 24) rfl rfl (by decide)) (congrArg (Value.int .u64) hs3.2) (Wn.none rfl) rfl rfl (fun _ _ => rfl) ?_
  refine WA.takeE (v' := .int .u64 ((b0.toNat ||| b1.toNat <<< 8 ||| b2.toNat <<< 16 ||| b3.toNat <<< 24 : Nat) : Int)) (i := 17) rfl (by kernel_rfl) (by kernel_rfl) (by kernel_rfl) (fun _ => Ex.orK (m := (b0.toNat ||| b1.toNat <<< 8 ||| b2.toNat <<< 16)) (s := (b3.toNat <<< 24)) rfl rfl hw2 hs3.1) (congrArg (Value.int .u64) (or64 hw2 hs3.1)) (Wn.none rfl) rfl rfl (fun _ _ => rfl) ?_
  refine WA.take (i := 18) rfl (by kernel_rfl) (by kernel_rfl) (by kernel_rfl) (fun _ => Ex.move rfl) (Wn.none rfl) rfl rfl (fun _ _ => rfl) ?_
  refine WA.take (i := 19) rfl (by kernel_rfl) (by kernel_rfl) (by kernel_rfl) (fun _ => Ex.idxStr Tryd.underlying9 rfl rfl (hb4)) (Wn.none rfl) rfl rfl (fun _ _ => rfl) ?_
  refine WA.take (i := 20) rfl (by kernel_rfl) (by kernel_rfl) (by kernel_rfl) (fun _ => Ex.convU64 Tryd.underlying5 Tryd.underlying92 rfl (by omega)) (Wn.none rfl) rfl rfl (fun _ _ => rfl) ?_
  refine WA.takeE (v' := .int .u64 ((b4.toNat <<< 32 : Nat) : Int)) (i := 21) rfl (by kernel_rfl) (by kernel_rfl) (by kernel_rfl) (fun _ => Ex.shlK (m := b4.toNat) (s := 32) rfl rfl (by decide)) (congrArg (Value.int .u64) hs4.2) (Wn.none rfl) rfl rfl (fun _ _ => rfl) ?_
  refine WA.takeE (v' := .int .u64 ((b0.toNat ||| b1.toNat <<< 8 ||| b2.toNat <<< 16 ||| b3.toNat <<< 24 ||| b4.toNat <<< 32 : Nat) : Int)) (i := 22) rfl (by kernel_rfl) (by kernel_rfl) (by kernel_rfl) (fun _ => Ex.orK (m := (b0.toNat ||| b1.toNat <<< 8 ||| b2.toNat <<< 16 ||| b3.toNat <<< 24)) (s := (b4.toNat <<< 32)) rfl rfl hw3 hs4.1) (congrArg (Value.int .u64) (or64 hw3 hs4.1)) (Wn.none rfl) rfl rfl (fun _ _ => rfl) ?_
  refine WA.take (i := 23) rfl (by kernel_rfl) (by kernel_rfl) (by kernel_rfl) (fun _ => Ex.move rfl) (Wn.none rfl) rfl rfl (fun _ _ => rfl) ?_
  refine WA.take (i := 24) rfl (by kernel_rfl) (by kernel_rfl) (by kernel_rfl) (fun _ => Ex.idxStr Tryd.underlying9 rfl rfl (hb5)) (Wn.none rfl) rfl rfl (fun _ _ => rfl) ?_
  refine WA.take (i := 25) rfl (by kernel_rfl) (by kernel_rfl) (by kernel_rfl) (fun _ => Ex.convU64 Tryd.underlying5 Tryd.underlying92 rfl (by omega)) (Wn.none rfl) rfl rfl (fun _ _ => rfl) ?_
  refine WA.takeE (v' := .int .u64 ((b5.toNat <<< 40 : Nat) : Int)) (i := 26) rfl (by kernel_rfl) (by kernel_rfl) (by kernel_rfl) (fun _ => Ex.shlK (m := b5.toNat) (s := 40) rfl rfl (by decide)) (congrArg (Value.int .u64) hs5.2) (Wn.none rfl) rfl rfl (fun _ _ => rfl) ?_
  refine WA.takeE (v' := .int .u64 ((b0.toNat ||| b1.toNat <<< 8 ||| b2.toNat <<< 16 ||| b3.toNat <<< 24 ||| b4.toNat <<< 32 ||| b5.toNat <<< 40 : Nat) : Int)) (i := 27) rfl (by kernel_rfl) (by kernel_rfl) (by kernel_rfl) (fun _ => Ex.orK (m := (b0.toNat ||| b1.toNat <<< 8 ||| b2.toNat <<< 16 ||| b3.toNat <<< 24 ||| b4.toNat <<< 32)) (s := (b5.toNat <<< 40)) rfl rfl hw4 hs5.1) (congrArg (Value.int .u64) (or64 hw4 hs5.1)) (Wn.none rfl) rfl rfl (fun _ _ => rfl) ?_
  refine WA.take (i := 28) rfl (by kernel_rfl) (by kernel_rfl) (by kernel_rfl) (fun _ => Ex.move rfl) (Wn.none rfl) rfl rfl (fun _ _ => rfl) ?_
  refine WA.take (i := 29) rfl (by kernel_rfl) (by kernel_rfl) (by kernel_rfl) (fun _ => Ex.idxStr Tryd.underlying9 rfl rfl (hb6)) (Wn.none rfl) rfl rfl (fun _ _ => rfl) ?_
  refine WA.take (i := 30) rfl (by kernel_rfl) (by kernel_rfl) (by kernel_rfl) (fun _ => Ex.convU64 Tryd.underlying5 Tryd.underlying92 rfl (by omega)) (Wn.none rfl) rfl rfl (fun _ _ => rfl) ?_
  refine WA.takeE (v' := .int .u64 ((b6.toNat <<< 48 : Nat) : Int)) (i := 31) rfl (by kernel_rfl) (by kernel_rfl) (by kernel_rfl) (fun _ => Ex.shlK (m := b6.toNat) (s := 48) rfl rfl (by decide)) (congrArg (Value.int .u64) hs6.2) (Wn.none rfl) rfl rfl (fun _ _ => rfl) ?_
  refine WA.takeE (v' := .int .u64 ((b0.toNat ||| b1.toNat <<< 8 ||| b2.toNat <<< 16 ||| b3.toNat <<< 24 ||| b4.toNat <<< 32 ||| b5.toNat <<< 40 ||| b6.toNat <<< 48 : Nat) : Int)) (i := 32) rfl (by kernel_rfl) (by kernel_rfl) (by kernel_rfl) (fun _ => Ex.orK (m := (b0.toNat ||| b1.toNat <<< 8 ||| b2.toNat <<< 16 ||| b3.toNat <<< 24 ||| b4.toNat <<< 32 ||| b5.toNat <<< 40)) (s := (b6.toNat <<< 48)) rfl rfl hw5 hs6.1) (congrArg (Value.int .u64) (or64 hw5 hs6.1)) (Wn.none rfl) rfl rfl (fun _ _ => rfl) ?_
  refine WA.one (i := 33) (by kernel_rfl) rfl ?_
  refine WR.step (Ex.move rfl) (Wn.none rfl) rfl rfl ?_
  refine WR.nil (WQ.any ?_)
  refine WA.one (i := 34) (by kernel_rfl) rfl ?_
  refine WR.step (Ex.idxStr Tryd.underlying9 rfl rfl (hb7)) (Wn.none rfl) rfl rfl ?_
  refine WR.nil (WQ.any ?_)
  refine WA.one (i := 35) (by kernel_rfl) rfl ?_
  refine WR.step (Ex.convU64 Tryd.underlying5 Tryd.underlying92 rfl (by omega)) (Wn.none rfl) rfl rfl ?_
  refine WR.nil (WQ.any ?_)
  refine WA.one (i := 36) (by kernel_rfl) rfl ?_
  refine WR.stepE (v' := .int .u64 ((b7.toNat <<< 56 : Nat) : Int)) (Ex.shlK (m := b7.toNat) (s := 56) rfl rfl (by decide)) (congrArg (Value.int .u64) hs7.2) (Wn.none rfl) rfl rfl ?_
  refine WR.nil (WQ.any ?_)
  refine WA.one (i := 37) (by kernel_rfl) rfl ?_
  refine WR.stepE (v' := .int .u64 ((b0.toNat ||| b1.toNat <<< 8 ||| b2.toNat <<< 16 ||| b3.toNat <<< 24 ||| b4.toNat <<< 32 ||| b5.toNat <<< 40 ||| b6.toNat <<< 48 ||| b7.toNat <<< 56 : Nat) : Int)) (Ex.orK (m := (b0.toNat ||| b1.toNat <<< 8 ||| b2.toNat <<< 16 ||| b3.toNat <<< 24 ||| b4.toNat <<< 32 ||| b5.toNat <<< 40 ||| b6.toNat <<< 48)) (s := (b7.toNat <<< 56)) rfl rfl hw6 hs7.1) (congrArg (Value.int .u64) (or64 hw6 hs7.1)) (Wn.none rfl) rfl rfl ?_
  refine WR.nil (WQ.any ?_)
  refine WA.one (i := 38) (by kernel_rfl) rfl ?_
  refine WR.step (Ex.assign rfl) (Wn.none rfl) rfl rfl ?_
  refine WR.nil (WQ.any ?_)
  refine WA.done (by kernel_rfl) ?_
  refine WQ.then ?_
  refine WC.ret ?_
  (repeat (first | refine WQ.thenRet ?_ | refine WQ.inBlockRet ?_))
  refine WQ.ret1 rfl rfl H.ext ?_
  exact by unfold w8; rw [hn0, hn1, hn2, hn3, hn4, hn5, hn6, hn7]

theorem tab_acc {w : World} (h : Lib.Utf8Tabs 0 1 w) {ai lo hi : Nat} (ha : ai < 16) (hlo : Lib.accLo ai = lo) (hhi : Lib.accHi ai = hi) : ∀ j u, ([.int .u8 ((lo : Nat) : Int), .int .u8 ((hi : Nat) : Int)] : List Value)[j]? = some u → w.cell? ⟨1, 2 * ai + j, none⟩ = some u := by
  obtain ⟨h1, h2⟩ := h.2 ai ha
  rw [hlo] at h1
  rw [hhi] at h2
  intro j u hj
  rcases j with _ | _ | j
  · cases hj; exact h1
  · cases hj; exact h2
  · simp at hj

theorem validString_spec (l : List UInt8) (hs : l.length ≤ 4611686018427387904) : Ct Tryd.prog 44 [S l] (fun M => Tabs M) (fun r _ => r = .bool (vld l)) := by
  refine Ct.of Tryd.func44 (enters Tryd.func44 (by kernel_rfl) rfl) rfl rfl rfl ?_
  intro w0 M0 H hp
  refine WC.seq ?_
  refine WC.region ?_
  refine WR.step (Ex.assign rfl) (Wn.none rfl) rfl rfl ?_
  refine WR.nil ?_
  refine WQ.then ?_
  refine WC.seq ?_
  refine WC.block ?_
  refine WC.loop1 (fun (t : List UInt8) => [(0, S t)]) (fun (t : List UInt8) w => t.length ≤ l.length ∧ vld l = vld t ∧ ∃ M, St w0 M0 M [] w ∧ Tabs M) (fun (t : List UInt8) => t.length) (l) ⟨rfl, trivial⟩ (⟨Nat.le_refl _, rfl, M0, H, hp⟩) ?_
  intro t w
  rintro ⟨htl, hv, M, H, hp⟩
  refine WC.seq ?_
  refine WC.seq ?_
  refine WC.region ?_
  refine WR.step (Ex.move rfl) (Wn.none rfl) rfl rfl ?_
  refine WR.step (Ex.lenStr Tryd.underlying9 rfl) (Wn.none rfl) rfl rfl ?_
  refine WR.split (Ex.gtr rfl rfl) (Wn.none rfl) rfl rfl (fun h1_2 => ?_) (fun h1_2 => ?_)
  ·
    have hne : t ≠ [] := by rintro rfl; simp at h1_2
    obtain ⟨c, hc⟩ : ∃ c, t[0]? = some c := ⟨_, List.getElem?_eq_getElem (by omega)⟩
    have hcn := nat_of hc
    have hclt := c.toNat_lt
    refine WR.nil ?_
    refine WQ.then ?_
    refine WC.condT rfl ?_
    refine WC.skip ?_
    refine WQ.then ?_
    refine WC.block ?_
    refine WC.seq ?_
    refine WC.region ?_
    refine WR.step (Ex.move rfl) (Wn.none rfl) rfl rfl ?_
    refine WR.step (Ex.idxStr Tryd.underlying9 rfl rfl (hc)) (Wn.none rfl) rfl rfl ?_
    refine WR.step (Ex.assign rfl) (Wn.none rfl) rfl rfl ?_
    refine WR.nil ?_
    refine WQ.then ?_
    refine WC.seq ?_
    refine WC.seq ?_
    refine WC.region ?_
    refine WR.step (Ex.move rfl) (Wn.none rfl) rfl rfl ?_
    refine WR.split (Ex.lss rfl rfl) (Wn.none rfl) rfl rfl (fun h3_1 => ?_) (fun h3_1 => ?_)
    ·
      have hc128 : nat t 0 < 128 := by omega
      refine WR.nil ?_
      refine WQ.then ?_
      refine WC.condT rfl ?_
      refine WC.seq ?_
      refine WC.region ?_
      refine WR.step (Ex.move rfl) (Wn.none rfl) rfl rfl ?_
      refine WR.stepE (v' := S (t.drop 1)) (Ex.sliceStr (i := 1) (j := t.length) Tryd.underlying9 rfl (.inl ⟨_, rfl, rfl⟩) (.inr ⟨rfl, rfl⟩) (by omega) (by omega)) (by rw [List.take_length]) (Wn.none rfl) rfl rfl ?_
      refine WR.step (Ex.assign rfl) (Wn.none rfl) rfl rfl ?_
      refine WR.nil ?_
      refine WQ.then ?_
      refine WC.seq ?_
      refine WC.seq ?_
      refine WC.region ?_
      obtain ⟨u, hu⟩ : ∃ u, u = t.drop 1 := ⟨_, rfl⟩
      rw [← hu]
      have hv1 := vld_ascii hne hc128
      rw [← hu] at hv1
      have hul : u.length = t.length - 1 := by rw [hu, List.length_drop]
      refine WR.step (Ex.move rfl) (Wn.none rfl) rfl rfl ?_
      refine WR.step (Ex.lenStr Tryd.underlying9 rfl) (Wn.none rfl) rfl rfl ?_
      refine WR.split (Ex.gtr rfl rfl) (Wn.none rfl) rfl rfl (fun h5_2 => ?_) (fun h5_2 => ?_)
      ·
        refine WR.step (Ex.move rfl) (Wn.none rfl) rfl rfl ?_
        refine WR.step (Ex.move rfl) (Wn.some rfl rfl rfl) rfl rfl ?_
        refine WR.call H (word_spec u (by omega)) rfl (trivial) (Wn.some rfl rfl rfl) rfl ?_
        intro v21 M w H hle hr21
        replace hp := hp.mono hle
        obtain rfl := hr21
        refine WR.stepE (v' := .int .u64 ((w8 u) &&& 9259542123273814144 : Nat)) (Ex.andK (m := (w8 u)) (s := 9259542123273814144) rfl rfl (w8_lt u) (by decide)) (congrArg (Value.int .u64) (and64 (w8_lt u))) (Wn.some rfl rfl rfl) rfl rfl ?_
        refine WR.split (Ex.eql rfl rfl) (Wn.some rfl rfl rfl) rfl rfl (fun h5_7 => ?_) (fun h5_7 => ?_)
        ·
          have h8 : ∀ i, i < 8 → nat u i < 128 := w8_small (x := 0) (by rw [Nat.or_zero]; omega)
          have hv8 := vld_asciis 8 u (by omega) h8
          refine WR.step (Ex.pickT rfl rfl) (Wn.none rfl) rfl rfl ?_
          refine WR.nil ?_
          refine WQ.then ?_
          refine WC.condT rfl ?_
          refine WC.seq ?_
          refine WC.region ?_
          refine WR.step (Ex.move rfl) (Wn.none rfl) rfl rfl ?_
          refine WR.stepE (v' := S (u.drop 8)) (Ex.sliceStr (i := 8) (j := u.length) Tryd.underlying9 rfl (.inl ⟨_, rfl, rfl⟩) (.inr ⟨rfl, rfl⟩) (by omega) (by omega)) (by rw [List.take_length]) (Wn.none rfl) rfl rfl ?_
          obtain ⟨u2, hu2⟩ : ∃ u2, u2 = u.drop 8 := ⟨_, rfl⟩
          rw [← hu2]
          have hul2 : u2.length = u.length - 8 := by rw [hu2, List.length_drop]
          refine WR.step (Ex.assign rfl) (Wn.none rfl) rfl rfl ?_
          refine WR.nil ?_
          refine WQ.then ?_
          refine WC.seq ?_
          refine WC.draw (m := 13) rfl rfl H ?_
          intro w H
          refine WA.one (i := 0) (by kernel_rfl) rfl ?_
          refine WR.step (Ex.move rfl) (Wn.none rfl) rfl rfl ?_
          refine WR.nil (WQ.any ?_)
          refine WA.one (i := 1) (by kernel_rfl) rfl ?_
          refine WR.step (Ex.lenStr Tryd.underlying9 rfl) (Wn.none rfl) rfl rfl ?_
          refine WR.nil (WQ.any ?_)
          refine WA.one (i := 2) (by kernel_rfl) rfl ?_
          refine WR.split (Ex.gtr rfl rfl) (Wn.none rfl) rfl rfl (fun h7_2 => ?_) (fun h7_2 => ?_)
          ·
            refine WR.nil (WQ.any ?_)
            refine WA.one (i := 3) (by kernel_rfl) rfl ?_
            refine WR.step (Ex.move rfl) (Wn.none rfl) rfl rfl ?_
            refine WR.nil (WQ.any ?_)
            refine WA.take (i := 4) rfl (by kernel_rfl) (by kernel_rfl) (by kernel_rfl) (fun _ => Ex.move rfl) (Wn.some rfl rfl rfl) rfl rfl (fun _ _ => rfl) ?_
            refine WA.take (i := 6) rfl (by kernel_rfl) (by kernel_rfl) (by kernel_rfl) (fun _ => Ex.move rfl) (Wn.some rfl rfl rfl) rfl rfl (fun _ _ => rfl) ?_
            refine WA.takeE (v' := S (u2.drop 8)) (i := 7) rfl (by kernel_rfl) (by kernel_rfl) (by kernel_rfl) (fun _ => Ex.sliceStr (i := 8) (j := u2.length) Tryd.underlying9 rfl (.inl ⟨_, rfl, rfl⟩) (.inr ⟨rfl, rfl⟩) (by omega) (by omega)) (by rw [List.take_length]) (Wn.some rfl rfl rfl) rfl rfl (fun _ _ => rfl) ?_
            refine WA.one (i := 5) (by kernel_rfl) rfl ?_
            refine WR.call H (word_spec u2 (by omega)) rfl (trivial) (Wn.some rfl rfl rfl) rfl ?_
            intro v32 M w H hle hr32
            replace hp := hp.mono hle
            obtain rfl := hr32
            refine WR.nil (WQ.any ?_)
            refine WA.one (i := 8) (by kernel_rfl) rfl ?_
            refine WR.call H (word_spec (u2.drop 8) (by rw [List.length_drop]; omega)) rfl (trivial) (Wn.some rfl rfl rfl) rfl ?_
            intro v35 M w H hle hr35
            replace hp := hp.mono hle
            obtain rfl := hr35
            refine WR.nil (WQ.any ?_)
            refine WA.one (i := 9) (by kernel_rfl) rfl ?_
            refine WR.stepE (v' := .int .u64 ((w8 u2) ||| (w8 (u2.drop 8)) : Nat)) (Ex.orK (m := (w8 u2)) (s := (w8 (u2.drop 8))) rfl rfl (w8_lt u2) (w8_lt (u2.drop 8))) (congrArg (Value.int .u64) (or64 (w8_lt u2) (w8_lt (u2.drop 8)))) (Wn.some rfl rfl rfl) rfl rfl ?_
            refine WR.nil (WQ.any ?_)
            refine WA.one (i := 10) (by kernel_rfl) rfl ?_
            refine WR.stepE (v' := .int .u64 ((w8 u2 ||| w8 (u2.drop 8)) &&& 9259542123273814144 : Nat)) (Ex.andK (m := (w8 u2 ||| w8 (u2.drop 8))) (s := 9259542123273814144) rfl rfl (Nat.or_lt_two_pow (w8_lt u2) (w8_lt (u2.drop 8))) (by decide)) (congrArg (Value.int .u64) (and64 (Nat.or_lt_two_pow (w8_lt u2) (w8_lt (u2.drop 8))))) (Wn.some rfl rfl rfl) rfl rfl ?_
            refine WR.nil (WQ.any ?_)
            refine WA.one (i := 11) (by kernel_rfl) rfl ?_
            refine WR.split (Ex.eql rfl rfl) (Wn.some rfl rfl rfl) rfl rfl (fun h7_11 => ?_) (fun h7_11 => ?_)
            ·
              have ha := w8_small (l := u2) (x := w8 (u2.drop 8)) (by omega)
              have hb := w8_small (l := u2.drop 8) (x := w8 u2) (by rw [Nat.or_comm]; omega)
              have hv16 := (vld_asciis 8 u2 (by omega) ha).trans (vld_asciis 8 (u2.drop 8) (by rw [List.length_drop]; omega) hb)
              rw [List.drop_drop] at hv16
              refine WR.nil (WQ.any ?_)
              refine WA.one (i := 12) (by kernel_rfl) rfl ?_
              refine WR.step (Ex.pickT rfl rfl) (Wn.none rfl) rfl rfl ?_
              refine WR.nil (WQ.any ?_)
              refine WA.done (by kernel_rfl) ?_
              refine WQ.then ?_
              refine WC.condT rfl ?_
              refine WC.seq ?_
              refine WC.region ?_
              refine WR.step (Ex.move rfl) (Wn.none rfl) rfl rfl ?_
              refine WR.stepE (v' := S (u2.drop 16)) (Ex.sliceStr (i := 16) (j := u2.length) Tryd.underlying9 rfl (.inl ⟨_, rfl, rfl⟩) (.inr ⟨rfl, rfl⟩) (by omega) (by omega)) (by rw [List.take_length]) (Wn.none rfl) rfl rfl ?_
              refine WR.step (Ex.assign rfl) (Wn.none rfl) rfl rfl ?_
              refine WR.nil ?_
              refine WQ.then ?_
              refine WC.block ?_
              refine WC.loop1 (fun (x : List UInt8) => [(0, S x)]) (fun (x : List UInt8) w => x.length < t.length ∧ vld l = vld x ∧ ∃ M, St w0 M0 M [] w ∧ Tabs M) (fun (x : List UInt8) => x.length) (u2.drop 16) ⟨rfl, trivial⟩ (⟨by rw [List.length_drop, hu2, hu, List.length_drop, List.length_drop]; omega, by rw [hv, hv1, hv8, ← hu2, hv16], M, H, hp⟩) ?_
              intro x w
              rintro ⟨hxt, hvx, M, H, hp⟩
              refine WC.seq ?_
              refine WC.seq ?_
              refine WC.draw (m := 21) rfl rfl H ?_
              intro w H
              refine WA.one (i := 0) (by kernel_rfl) rfl ?_
              refine WR.step (Ex.move rfl) (Wn.none rfl) rfl rfl ?_
              refine WR.nil (WQ.any ?_)
              refine WA.one (i := 1) (by kernel_rfl) rfl ?_
              refine WR.step (Ex.lenStr Tryd.underlying9 rfl) (Wn.none rfl) rfl rfl ?_
              refine WR.nil (WQ.any ?_)
              refine WA.one (i := 2) (by kernel_rfl) rfl ?_
              refine WR.split (Ex.gtr rfl rfl) (Wn.none rfl) rfl rfl (fun h9_2 => ?_) (fun h9_2 => ?_)
              ·
                refine WR.nil (WQ.any ?_)
                refine WA.one (i := 3) (by kernel_rfl) rfl ?_
                refine WR.step (Ex.move rfl) (Wn.none rfl) rfl rfl ?_
                refine WR.nil (WQ.any ?_)
                refine WA.take (i := 4) rfl (by kernel_rfl) (by kernel_rfl) (by kernel_rfl) (fun _ => Ex.move rfl) (Wn.some rfl rfl rfl) rfl rfl (fun _ _ => rfl) ?_
                refine WA.take (i := 6) rfl (by kernel_rfl) (by kernel_rfl) (by kernel_rfl) (fun _ => Ex.move rfl) (Wn.some rfl rfl rfl) rfl rfl (fun _ _ => rfl) ?_
                refine WA.takeE (v' := S (x.drop 8)) (i := 7) rfl (by kernel_rfl) (by kernel_rfl) (by kernel_rfl) (fun _ => Ex.sliceStr (i := 8) (j := x.length) Tryd.underlying9 rfl (.inl ⟨_, rfl, rfl⟩) (.inr ⟨rfl, rfl⟩) (by omega) (by omega)) (by rw [List.take_length]) (Wn.some rfl rfl rfl) rfl rfl (fun _ _ => rfl) ?_
                refine WA.take (i := 10) rfl (by kernel_rfl) (by kernel_rfl) (by kernel_rfl) (fun _ => Ex.move rfl) (Wn.some rfl rfl rfl) rfl rfl (fun _ _ => rfl) ?_
                refine WA.takeE (v' := S (x.drop 16)) (i := 11) rfl (by kernel_rfl) (by kernel_rfl) (by kernel_rfl) (fun _ => Ex.sliceStr (i := 16) (j := x.length) Tryd.underlying9 rfl (.inl ⟨_, rfl, rfl⟩) (.inr ⟨rfl, rfl⟩) (by omega) (by omega)) (by rw [List.take_length]) (Wn.some rfl rfl rfl) rfl rfl (fun _ _ => rfl) ?_
                refine WA.take (i := 13) rfl (by kernel_rfl) (by kernel_rfl) (by kernel_rfl) (fun _ => Ex.move rfl) (Wn.some rfl rfl rfl) rfl rfl (fun _ _ => rfl) ?_
                refine WA.takeE (v' := S (x.drop 24)) (i := 14) rfl (by kernel_rfl) (by kernel_rfl) (by kernel_rfl) (fun _ => Ex.sliceStr (i := 24) (j := x.length) Tryd.underlying9 rfl (.inl ⟨_, rfl, rfl⟩) (.inr ⟨rfl, rfl⟩) (by omega) (by omega)) (by rw [List.take_length]) (Wn.some rfl rfl rfl) rfl rfl (fun _ _ => rfl) ?_
                refine WA.one (i := 5) (by kernel_rfl) rfl ?_
                refine WR.call H (word_spec x (by omega)) rfl (trivial) (Wn.some rfl rfl rfl) rfl ?_
                intro v47 M w H hle hr47
                replace hp := hp.mono hle
                obtain rfl := hr47
                refine WR.nil (WQ.any ?_)
                refine WA.one (i := 8) (by kernel_rfl) rfl ?_
                refine WR.call H (word_spec (x.drop 8) (by rw [List.length_drop]; omega)) rfl (trivial) (Wn.some rfl rfl rfl) rfl ?_
                intro v50 M w H hle hr50
                replace hp := hp.mono hle
                obtain rfl := hr50
                refine WR.nil (WQ.any ?_)
                refine WA.takeE (v' := .int .u64 ((w8 x) ||| (w8 (x.drop 8)) : Nat)) (i := 9) rfl (by kernel_rfl) (by kernel_rfl) (by kernel_rfl) (fun _ => Ex.orK (m := (w8 x)) (s := (w8 (x.drop 8))) rfl rfl (w8_lt x) (w8_lt (x.drop 8))) (congrArg (Value.int .u64) (or64 (w8_lt x) (w8_lt (x.drop 8)))) (Wn.some rfl rfl rfl) rfl rfl (fun _ _ => rfl) ?_
                refine WA.one (i := 12) (by kernel_rfl) rfl ?_
                refine WR.call H (word_spec (x.drop 16) (by rw [List.length_drop]; omega)) rfl (trivial) (Wn.some rfl rfl rfl) rfl ?_
                intro v54 M w H hle hr54
                replace hp := hp.mono hle
                obtain rfl := hr54
                refine WR.nil (WQ.any ?_)
                refine WA.one (i := 15) (by kernel_rfl) rfl ?_
                refine WR.call H (word_spec (x.drop 24) (by rw [List.length_drop]; omega)) rfl (trivial) (Wn.some rfl rfl rfl) rfl ?_
                intro v57 M w H hle hr57
                replace hp := hp.mono hle
                obtain rfl := hr57
                refine WR.nil (WQ.any ?_)
                refine WA.one (i := 16) (by kernel_rfl) rfl ?_
                refine WR.stepE (v' := .int .u64 ((w8 (x.drop 16)) ||| (w8 (x.drop 24)) : Nat)) (Ex.orK (m := (w8 (x.drop 16))) (s := (w8 (x.drop 24))) rfl rfl (w8_lt (x.drop 16)) (w8_lt (x.drop 24))) (congrArg (Value.int .u64) (or64 (w8_lt (x.drop 16)) (w8_lt (x.drop 24)))) (Wn.some rfl rfl rfl) rfl rfl ?_
                refine WR.nil (WQ.any ?_)
                refine WA.one (i := 17) (by kernel_rfl) rfl ?_
                refine WR.stepE (v' := .int .u64 ((w8 x ||| w8 (x.drop 8)) ||| (w8 (x.drop 16) ||| w8 (x.drop 24)) : Nat)) (Ex.orK (m := (w8 x ||| w8 (x.drop 8))) (s := (w8 (x.drop 16) ||| w8 (x.drop 24))) rfl rfl (Nat.or_lt_two_pow (w8_lt x) (w8_lt (x.drop 8))) (Nat.or_lt_two_pow (w8_lt (x.drop 16)) (w8_lt (x.drop 24)))) (congrArg (Value.int .u64) (or64 (Nat.or_lt_two_pow (w8_lt x) (w8_lt (x.drop 8))) (Nat.or_lt_two_pow (w8_lt (x.drop 16)) (w8_lt (x.drop 24))))) (Wn.some rfl rfl rfl) rfl rfl ?_
                refine WR.nil (WQ.any ?_)
                refine WA.one (i := 18) (by kernel_rfl) rfl ?_
                refine WR.stepE (v' := .int .u64 (((w8 x ||| w8 (x.drop 8)) ||| (w8 (x.drop 16) ||| w8 (x.drop 24))) &&& 9259542123273814144 : Nat)) (Ex.andK (m := ((w8 x ||| w8 (x.drop 8)) ||| (w8 (x.drop 16) ||| w8 (x.drop 24)))) (s := 9259542123273814144) rfl rfl (Nat.or_lt_two_pow (Nat.or_lt_two_pow (w8_lt x) (w8_lt (x.drop 8))) (Nat.or_lt_two_pow (w8_lt (x.drop 16)) (w8_lt (x.drop 24)))) (by decide)) (congrArg (Value.int .u64) (and64 (Nat.or_lt_two_pow (Nat.or_lt_two_pow (w8_lt x) (w8_lt (x.drop 8))) (Nat.or_lt_two_pow (w8_lt (x.drop 16)) (w8_lt (x.drop 24)))))) (Wn.some rfl rfl rfl) rfl rfl ?_
                refine WR.nil (WQ.any ?_)
                refine WA.one (i := 19) (by kernel_rfl) rfl ?_
                refine WR.split (Ex.eql rfl rfl) (Wn.some rfl rfl rfl) rfl rfl (fun h9_19 => ?_) (fun h9_19 => ?_)
                ·
                  have h1 := w8_small (l := x) (x := w8 (x.drop 8) ||| (w8 (x.drop 16) ||| w8 (x.drop 24))) (by rw [← Nat.or_assoc]; omega)
                  have h2 := w8_small (l := x.drop 8) (x := w8 x ||| (w8 (x.drop 16) ||| w8 (x.drop 24))) (by rw [← Nat.or_assoc, Nat.or_comm (w8 (x.drop 8))]; omega)
                  have h3 := w8_small (l := x.drop 16) (x := w8 (x.drop 24) ||| (w8 x ||| w8 (x.drop 8))) (by rw [← Nat.or_assoc, Nat.or_comm (w8 (x.drop 16) ||| w8 (x.drop 24))]; omega)
                  have h4 := w8_small (l := x.drop 24) (x := w8 (x.drop 16) ||| (w8 x ||| w8 (x.drop 8))) (by rw [← Nat.or_assoc, Nat.or_comm (w8 (x.drop 24)), Nat.or_comm (w8 (x.drop 16) ||| w8 (x.drop 24))]; omega)
                  have hv32 := vld_32 (by omega) h1 h2 h3 h4
                  refine WR.nil (WQ.any ?_)
                  refine WA.one (i := 20) (by kernel_rfl) rfl ?_
                  refine WR.step (Ex.pickT rfl rfl) (Wn.none rfl) rfl rfl ?_
                  refine WR.nil (WQ.any ?_)
                  refine WA.done (by kernel_rfl) ?_
                  refine WQ.then ?_
                  refine WC.condT rfl ?_
                  refine WC.skip ?_
                  refine WQ.then ?_
                  refine WC.block ?_
                  refine WC.region ?_
                  refine WR.step (Ex.move rfl) (Wn.none rfl) rfl rfl ?_
                  refine WR.stepE (v' := S (x.drop 32)) (Ex.sliceStr (i := 32) (j := x.length) Tryd.underlying9 rfl (.inl ⟨_, rfl, rfl⟩) (.inr ⟨rfl, rfl⟩) (by omega) (by omega)) (by rw [List.take_length]) (Wn.none rfl) rfl rfl ?_
                  refine WR.step (Ex.assign rfl) (Wn.none rfl) rfl rfl ?_
                  refine WR.nil ?_
                  refine WQ.inBlock ?_
                  refine WQ.again1 (x.drop 32) ⟨rfl, trivial⟩ ?_ ?_
                  · exact ⟨by rw [List.length_drop]; omega, hvx.trans hv32, M, H, hp⟩
                  · rw [List.length_drop]; omega
                ·
                  refine WR.nil (WQ.any ?_)
                  refine WA.one (i := 20) (by kernel_rfl) rfl ?_
                  refine WR.step (Ex.pickT rfl rfl) (Wn.none rfl) rfl rfl ?_
                  refine WR.nil (WQ.any ?_)
                  refine WA.done (by kernel_rfl) ?_
                  refine WQ.then ?_
                  refine WC.condF rfl ?_
                  refine WC.exit ?_
                  refine WQ.thenExit ?_
                  refine WQ.thenExit ?_
                  refine WQ.exitHere ?_
                  refine WQ.then ?_
                  refine WC.exit ?_
                  refine WQ.thenExit ?_
                  refine WQ.exitHere ?_
                  refine WQ.again1 (x) ⟨rfl, trivial⟩ ?_ ?_
                  · exact ⟨by omega, hvx, M, H.drop (List.nil_sublist _), hp⟩
                  · omega
              ·
                refine WR.nil (WQ.any ?_)
                refine WA.one (i := 3) (by kernel_rfl) rfl ?_
                refine WR.step (Ex.move rfl) (Wn.none rfl) rfl rfl ?_
                refine WR.nil (WQ.any ?_)
                refine WA.takeN (i := 4) rfl (by kernel_rfl) (by kernel_rfl) (by kernel_rfl) (wanted_g (b := false) rfl rfl rfl) rfl rfl (fun _ _ => rfl) ?_
                refine WA.takeN (i := 6) rfl (by kernel_rfl) (by kernel_rfl) (by kernel_rfl) (wanted_g (b := false) rfl rfl rfl) rfl rfl (fun _ _ => rfl) ?_
                refine WA.takeN (i := 7) rfl (by kernel_rfl) (by kernel_rfl) (by kernel_rfl) (wanted_g (b := false) rfl rfl rfl) rfl rfl (fun _ _ => rfl) ?_
                refine WA.takeN (i := 10) rfl (by kernel_rfl) (by kernel_rfl) (by kernel_rfl) (wanted_g (b := false) rfl rfl rfl) rfl rfl (fun _ _ => rfl) ?_
                refine WA.takeN (i := 11) rfl (by kernel_rfl) (by kernel_rfl) (by kernel_rfl) (wanted_g (b := false) rfl rfl rfl) rfl rfl (fun _ _ => rfl) ?_
                refine WA.takeN (i := 13) rfl (by kernel_rfl) (by kernel_rfl) (by kernel_rfl) (wanted_g (b := false) rfl rfl rfl) rfl rfl (fun _ _ => rfl) ?_
                refine WA.takeN (i := 14) rfl (by kernel_rfl) (by kernel_rfl) (by kernel_rfl) (wanted_g (b := false) rfl rfl rfl) rfl rfl (fun _ _ => rfl) ?_
                refine WA.one (i := 5) (by kernel_rfl) rfl ?_
                refine WR.skipG (b := false) rfl rfl rfl rfl rfl ?_
                refine WR.nil (WQ.any ?_)
                refine WA.one (i := 8) (by kernel_rfl) rfl ?_
                refine WR.skipG (b := false) rfl rfl rfl rfl rfl ?_
                refine WR.nil (WQ.any ?_)
                refine WA.takeN (i := 9) rfl (by kernel_rfl) (by kernel_rfl) (by kernel_rfl) (wanted_g (b := false) rfl rfl rfl) rfl rfl (fun _ _ => rfl) ?_
                refine WA.one (i := 12) (by kernel_rfl) rfl ?_
                refine WR.skipG (b := false) rfl rfl rfl rfl rfl ?_
                refine WR.nil (WQ.any ?_)
                refine WA.one (i := 15) (by kernel_rfl) rfl ?_
                refine WR.skipG (b := false) rfl rfl rfl rfl rfl ?_
                refine WR.nil (WQ.any ?_)
                refine WA.one (i := 16) (by kernel_rfl) rfl ?_
                refine WR.skipG (b := false) rfl rfl rfl rfl rfl ?_
                refine WR.nil (WQ.any ?_)
                refine WA.one (i := 17) (by kernel_rfl) rfl ?_
                refine WR.skipG (b := false) rfl rfl rfl rfl rfl ?_
                refine WR.nil (WQ.any ?_)
                refine WA.one (i := 18) (by kernel_rfl) rfl ?_
                refine WR.skipG (b := false) rfl rfl rfl rfl rfl ?_
                refine WR.nil (WQ.any ?_)
                refine WA.one (i := 19) (by kernel_rfl) rfl ?_
                refine WR.skipG (b := false) rfl rfl rfl rfl rfl ?_
                refine WR.nil (WQ.any ?_)
                refine WA.one (i := 20) (by kernel_rfl) rfl ?_
                refine WR.step (Ex.pickF rfl rfl) (Wn.none rfl) rfl rfl ?_
                refine WR.nil (WQ.any ?_)
                refine WA.done (by kernel_rfl) ?_
                refine WQ.then ?_
                refine WC.condF rfl ?_
                refine WC.exit ?_
                refine WQ.thenExit ?_
                refine WQ.thenExit ?_
                refine WQ.exitHere ?_
                refine WQ.then ?_
                refine WC.exit ?_
                refine WQ.thenExit ?_
                refine WQ.exitHere ?_
                refine WQ.again1 (x) ⟨rfl, trivial⟩ ?_ ?_
                · exact ⟨by omega, hvx, M, H.drop (List.nil_sublist _), hp⟩
                · omega
            ·
              refine WR.nil (WQ.any ?_)
              refine WA.one (i := 12) (by kernel_rfl) rfl ?_
              refine WR.step (Ex.pickT rfl rfl) (Wn.none rfl) rfl rfl ?_
              refine WR.nil (WQ.any ?_)
              refine WA.done (by kernel_rfl) ?_
              refine WQ.then ?_
              refine WC.condF rfl ?_
              refine WC.skip ?_
              refine WQ.then ?_
              refine WC.exit ?_
              refine WQ.thenExit ?_
              refine WQ.exitHere ?_
              refine WQ.again1 (u2) ⟨rfl, trivial⟩ ?_ ?_
              · exact ⟨by rw [hu2, hu, List.length_drop, List.length_drop]; omega, (by rw [hv, hv1, hv8, ← hu2]), M, H.drop (List.nil_sublist _), hp⟩
              · rw [hu2, hu, List.length_drop, List.length_drop]; omega
          ·
            refine WR.nil (WQ.any ?_)
            refine WA.one (i := 3) (by kernel_rfl) rfl ?_
            refine WR.step (Ex.move rfl) (Wn.none rfl) rfl rfl ?_
            refine WR.nil (WQ.any ?_)
            refine WA.takeN (i := 4) rfl (by kernel_rfl) (by kernel_rfl) (by kernel_rfl) (wanted_g (b := false) rfl rfl rfl) rfl rfl (fun _ _ => rfl) ?_
            refine WA.takeN (i := 6) rfl (by kernel_rfl) (by kernel_rfl) (by kernel_rfl) (wanted_g (b := false) rfl rfl rfl) rfl rfl (fun _ _ => rfl) ?_
            refine WA.takeN (i := 7) rfl (by kernel_rfl) (by kernel_rfl) (by kernel_rfl) (wanted_g (b := false) rfl rfl rfl) rfl rfl (fun _ _ => rfl) ?_
            refine WA.one (i := 5) (by kernel_rfl) rfl ?_
            refine WR.skipG (b := false) rfl rfl rfl rfl rfl ?_
            refine WR.nil (WQ.any ?_)
            refine WA.one (i := 8) (by kernel_rfl) rfl ?_
            refine WR.skipG (b := false) rfl rfl rfl rfl rfl ?_
            refine WR.nil (WQ.any ?_)
            refine WA.one (i := 9) (by kernel_rfl) rfl ?_
            refine WR.skipG (b := false) rfl rfl rfl rfl rfl ?_
            refine WR.nil (WQ.any ?_)
            refine WA.one (i := 10) (by kernel_rfl) rfl ?_
            refine WR.skipG (b := false) rfl rfl rfl rfl rfl ?_
            refine WR.nil (WQ.any ?_)
            refine WA.one (i := 11) (by kernel_rfl) rfl ?_
            refine WR.skipG (b := false) rfl rfl rfl rfl rfl ?_
            refine WR.nil (WQ.any ?_)
            refine WA.one (i := 12) (by kernel_rfl) rfl ?_
            refine WR.step (Ex.pickF rfl rfl) (Wn.none rfl) rfl rfl ?_
            refine WR.nil (WQ.any ?_)
            refine WA.done (by kernel_rfl) ?_
            refine WQ.then ?_
            refine WC.condF rfl ?_
            refine WC.skip ?_
            refine WQ.then ?_
            refine WC.exit ?_
            refine WQ.thenExit ?_
            refine WQ.exitHere ?_
            refine WQ.again1 (u2) ⟨rfl, trivial⟩ ?_ ?_
            · exact ⟨by rw [hu2, hu, List.length_drop, List.length_drop]; omega, (by rw [hv, hv1, hv8, ← hu2]), M, H.drop (List.nil_sublist _), hp⟩
            · rw [hu2, hu, List.length_drop, List.length_drop]; omega
        ·
          refine WR.step (Ex.pickT rfl rfl) (Wn.none rfl) rfl rfl ?_
          refine WR.nil ?_
          refine WQ.then ?_
          refine WC.condF rfl ?_
          refine WC.skip ?_
          refine WQ.then ?_
          refine WC.exit ?_
          refine WQ.thenExit ?_
          refine WQ.exitHere ?_
          refine WQ.again1 (u) ⟨rfl, trivial⟩ ?_ ?_
          · exact ⟨by rw [hu, List.length_drop]; omega, (by rw [hv, hv1]), M, H.drop (List.nil_sublist _), hp⟩
          · rw [hu, List.length_drop]; omega
      ·
        refine WR.step (Ex.move rfl) (Wn.none rfl) rfl rfl ?_
        refine WR.skipG (b := false) rfl rfl rfl rfl rfl ?_
        refine WR.skipG (b := false) rfl rfl rfl rfl rfl ?_
        refine WR.skipG (b := false) rfl rfl rfl rfl rfl ?_
        refine WR.skipG (b := false) rfl rfl rfl rfl rfl ?_
        refine WR.step (Ex.pickF rfl rfl) (Wn.none rfl) rfl rfl ?_
        refine WR.nil ?_
        refine WQ.then ?_
        refine WC.condF rfl ?_
        refine WC.skip ?_
        refine WQ.then ?_
        refine WC.exit ?_
        refine WQ.thenExit ?_
        refine WQ.exitHere ?_
        refine WQ.again1 (u) ⟨rfl, trivial⟩ ?_ ?_
        · exact ⟨by rw [hu, List.length_drop]; omega, (by rw [hv, hv1]), M, H.drop (List.nil_sublist _), hp⟩
        · rw [hu, List.length_drop]; omega
    ·
      obtain ⟨sz, ai, lo, hi, hF, hsz, hai, hai16, hlo, hhi, hlo2, hhi2, hszs, hc1, hc2, hc3, hc4⟩ := first_facts c.toNat (by omega) (by omega)
      refine WR.nil ?_
      refine WQ.then ?_
      refine WC.condF rfl ?_
      refine WC.skip ?_
      refine WQ.then ?_
      refine WC.seq ?_
      refine WC.region ?_
      refine WR.step (Ex.move rfl) (Wn.none rfl) rfl rfl ?_
      refine WR.stepE (v' := ptr 0 c.toNat) (Ex.idxArr Tryd.underlying76 Tryd.sizeOf5 rfl rfl (by omega)) (by rw [Nat.zero_add, Nat.mul_one]) (Wn.none rfl) rfl rfl ?_
      refine WR.step (Ex.loadCell rfl ((hp _ H.ag).1 c.toNat (by omega)) Tryd.isAgg5) (Wn.none rfl) rfl rfl ?_
      refine WR.step (Ex.assign rfl) (Wn.none rfl) rfl rfl ?_
      refine WR.nil ?_
      refine WQ.then ?_
      refine WC.seq ?_
      refine WC.region ?_
      refine WR.step (Ex.move rfl) (Wn.none rfl) rfl rfl ?_
      refine WR.stepE (v' := .int .u8 ((sz : Nat) : Int)) (Ex.andK (m := (Lib.firstT c.toNat)) (s := 7) rfl rfl (by show _ < 256; omega) (by decide)) (congrArg (Value.int .u8) (by rw [hsz]; exact u8_in (by omega))) (Wn.none rfl) rfl rfl ?_
      first | refine WR.step (Ex.convB Tryd.underlying5 Tryd.underlying3 rfl) (Wn.none rfl) rfl rfl ?_ | refine WR.step (Ex.convI Tryd.underlying5 Tryd.underlying3 rfl (by omega)) (Wn.none rfl) rfl rfl ?_
      refine WR.step (Ex.assign rfl) (Wn.none rfl) rfl rfl ?_
      refine WR.nil ?_
      refine WQ.then ?_
      refine WC.seq ?_
      refine WC.region ?_
      refine WR.step (Ex.move rfl) (Wn.none rfl) rfl rfl ?_
      refine WR.stepE (v' := .int .u8 ((ai : Nat) : Int)) (Ex.shrN (m := (Lib.firstT c.toNat)) (s := 4) rfl rfl (by first | (show _ ≤ 64; omega) | (show _ ≤ 8; omega) | decide)) (congrArg (Value.int .u8) (by rw [hai])) (Wn.none rfl) rfl rfl ?_
      refine WR.stepE (v' := ptr 1 (2 * ai)) (Ex.idxArr Tryd.underlying79 Tryd.sizeOf78 rfl rfl (by omega)) (by rw [Nat.zero_add, Nat.mul_comm]) (Wn.none rfl) rfl rfl ?_
      refine WR.step (Ex.loadAggW (cs := [.int .u8 ((lo : Nat) : Int), .int .u8 ((hi : Nat) : Int)]) rfl (tab_acc (hp _ H.ag) hai16 hlo hhi) Tryd.isAgg78 Tryd.sizeOf78 rfl) (Wn.none rfl) rfl rfl ?_
      refine WR.alloc [_, _] H Tryd.zeroValue78 rfl (Wn.none rfl) rfl ?_
      intro b6 w H
      refine WR.store [_, _] H rfl rfl rfl (by repeat (first | exact Upd.head | apply Upd.tail)) Tryd.sizeOf78 rfl (by rfl) (by rfl) (Wn.none rfl) ?_
      intro w H
      refine WR.nil ?_
      refine WQ.then ?_
      refine WC.seq ?_
      refine WC.region ?_
      refine WR.step (Ex.move rfl) (Wn.none rfl) rfl rfl ?_
      refine WR.nil ?_
      refine WQ.then ?_
      refine WC.block ?_
      refine WC.seq ?_
      refine WC.region ?_
      refine WR.split (Ex.eql rfl rfl) (Wn.none rfl) rfl rfl (fun h16_0 => ?_) (fun h16_0 => ?_)
      ·
        obtain ⟨hq1, hq2, hq3, hq4⟩ := hc2 (by omega)
        have hm := multi2 (t := t) (by rw [hcn]; exact ⟨hq1, hq2⟩)
        subst hq3 hq4
        refine WR.step (Ex.assign rfl) (Wn.none rfl) rfl rfl ?_
        refine WR.nil ?_
        refine WQ.then ?_
        refine WC.condT rfl ?_
        refine WC.seq ?_
        refine WC.seq ?_
        refine WC.draw (m := 17) rfl rfl H ?_
        intro w H
        refine WA.one (i := 0) (by kernel_rfl) rfl ?_
        refine WR.step (Ex.move rfl) (Wn.none rfl) rfl rfl ?_
        refine WR.nil (WQ.any ?_)
        refine WA.one (i := 1) (by kernel_rfl) rfl ?_
        refine WR.step (Ex.lenStr Tryd.underlying9 rfl) (Wn.none rfl) rfl rfl ?_
        refine WR.nil (WQ.any ?_)
        refine WA.one (i := 2) (by kernel_rfl) rfl ?_
        refine WR.split (Ex.lss rfl rfl) (Wn.none rfl) rfl rfl (fun h17_2 => ?_) (fun h17_2 => ?_)
        ·
          have hbad := vld_bad hne (hm.2 (by omega))
          refine WR.nil (WQ.any ?_)
          refine WA.one (i := 3) (by kernel_rfl) rfl ?_
          refine WR.step (Ex.move rfl) (Wn.none rfl) rfl rfl ?_
          refine WR.nil (WQ.any ?_)
          refine WA.takeN (i := 4) rfl (by kernel_rfl) (by kernel_rfl) (by kernel_rfl) (wanted_g (b := true) rfl rfl rfl) rfl rfl (fun _ _ => rfl) ?_
          refine WA.takeN (i := 5) rfl (by kernel_rfl) (by kernel_rfl) (by kernel_rfl) (wanted_g (b := true) rfl rfl rfl) rfl rfl (fun _ _ => rfl) ?_
          refine WA.one (i := 6) (by kernel_rfl) rfl ?_
          refine WR.skipG (b := true) rfl rfl rfl rfl rfl ?_
          refine WR.nil (WQ.any ?_)
          refine WA.one (i := 7) (by kernel_rfl) rfl ?_
          refine WR.skipG (b := true) rfl rfl rfl rfl rfl ?_
          refine WR.nil (WQ.any ?_)
          refine WA.one (i := 8) (by kernel_rfl) rfl ?_
          refine WR.skipG (b := true) rfl rfl rfl rfl rfl ?_
          refine WR.nil (WQ.any ?_)
          refine WA.one (i := 9) (by kernel_rfl) rfl ?_
          refine WR.step (Ex.pickT rfl rfl) (Wn.none rfl) rfl rfl ?_
          refine WR.nil (WQ.any ?_)
          refine WA.one (i := 10) (by kernel_rfl) rfl ?_
          refine WR.step (Ex.move rfl) (Wn.none rfl) rfl rfl ?_
          refine WR.nil (WQ.any ?_)
          refine WA.takeN (i := 11) rfl (by kernel_rfl) (by kernel_rfl) (by kernel_rfl) (wanted_g (b := true) rfl rfl rfl) rfl rfl (fun _ _ => rfl) ?_
          refine WA.takeN (i := 12) rfl (by kernel_rfl) (by kernel_rfl) (by kernel_rfl) (wanted_g (b := true) rfl rfl rfl) rfl rfl (fun _ _ => rfl) ?_
          refine WA.one (i := 13) (by kernel_rfl) rfl ?_
          refine WR.skipG (b := true) rfl rfl rfl rfl rfl ?_
          refine WR.nil (WQ.any ?_)
          refine WA.one (i := 14) (by kernel_rfl) rfl ?_
          refine WR.skipG (b := true) rfl rfl rfl rfl rfl ?_
          refine WR.nil (WQ.any ?_)
          refine WA.one (i := 15) (by kernel_rfl) rfl ?_
          refine WR.skipG (b := true) rfl rfl rfl rfl rfl ?_
          refine WR.nil (WQ.any ?_)
          refine WA.one (i := 16) (by kernel_rfl) rfl ?_
          refine WR.step (Ex.pickT rfl rfl) (Wn.none rfl) rfl rfl ?_
          refine WR.nil (WQ.any ?_)
          refine WA.done (by kernel_rfl) ?_
          refine WQ.then ?_
          refine WC.condT rfl ?_
          refine WC.seq ?_
          refine WC.region ?_
          refine WR.step (Ex.assign rfl) (Wn.none rfl) rfl rfl ?_
          refine WR.nil ?_
          refine WQ.then ?_
          refine WC.ret ?_
          (repeat (first | refine WQ.thenRet ?_ | refine WQ.inBlockRet ?_))
          refine WQ.ret1 rfl rfl H.ext ?_
          exact by rw [hv, hbad]
        ·
          obtain ⟨x1, hx1⟩ : ∃ x, t[1]? = some x := ⟨_, List.getElem?_eq_getElem (by omega)⟩
          have hnx1 := nat_of hx1
          have hxl1 := x1.toNat_lt
          refine WR.nil (WQ.any ?_)
          refine WA.one (i := 3) (by kernel_rfl) rfl ?_
          refine WR.step (Ex.move rfl) (Wn.none rfl) rfl rfl ?_
          refine WR.nil (WQ.any ?_)
          refine WA.take (i := 4) rfl (by kernel_rfl) (by kernel_rfl) (by kernel_rfl) (fun _ => Ex.move rfl) (Wn.some rfl rfl rfl) rfl rfl (fun _ _ => rfl) ?_
          refine WA.take (i := 5) rfl (by kernel_rfl) (by kernel_rfl) (by kernel_rfl) (fun _ => Ex.idxStr Tryd.underlying9 rfl rfl (hx1)) (Wn.some rfl rfl rfl) rfl rfl (fun _ _ => rfl) ?_
          refine WA.one (i := 6) (by kernel_rfl) rfl ?_
          refine WR.step (Ex.fieldAddr Tryd.underlying78 rfl Tryd.sizeOf5 (by decide) rfl) (Wn.some rfl rfl rfl) rfl rfl ?_
          refine WR.nil (WQ.any ?_)
          refine WA.one (i := 7) (by kernel_rfl) rfl ?_
          first | refine WR.step (Ex.loadM H rfl (by assumption) Tryd.isAgg5) (Wn.some rfl rfl rfl) rfl rfl ?_ | refine WR.step (Ex.load1 H rfl (by repeat (first | exact List.Mem.head _ | apply List.Mem.tail)) Tryd.isAgg5 (by rfl)) (Wn.some rfl rfl rfl) rfl rfl ?_
          refine WR.nil (WQ.any ?_)
          refine WA.one (i := 8) (by kernel_rfl) rfl ?_
          refine WR.split (Ex.lss rfl rfl) (Wn.some rfl rfl rfl) rfl rfl (fun h17_8 => ?_) (fun h17_8 => ?_)
          ·
            have hbad := vld_bad hne (hm.2 (by omega))
            refine WR.nil (WQ.any ?_)
            refine WA.one (i := 9) (by kernel_rfl) rfl ?_
            refine WR.step (Ex.pickF rfl rfl) (Wn.none rfl) rfl rfl ?_
            refine WR.nil (WQ.any ?_)
            refine WA.one (i := 10) (by kernel_rfl) rfl ?_
            refine WR.step (Ex.move rfl) (Wn.none rfl) rfl rfl ?_
            refine WR.nil (WQ.any ?_)
            refine WA.takeN (i := 11) rfl (by kernel_rfl) (by kernel_rfl) (by kernel_rfl) (wanted_g (b := true) rfl rfl rfl) rfl rfl (fun _ _ => rfl) ?_
            refine WA.takeN (i := 12) rfl (by kernel_rfl) (by kernel_rfl) (by kernel_rfl) (wanted_g (b := true) rfl rfl rfl) rfl rfl (fun _ _ => rfl) ?_
            refine WA.one (i := 13) (by kernel_rfl) rfl ?_
            refine WR.skipG (b := true) rfl rfl rfl rfl rfl ?_
            refine WR.nil (WQ.any ?_)
            refine WA.one (i := 14) (by kernel_rfl) rfl ?_
            refine WR.skipG (b := true) rfl rfl rfl rfl rfl ?_
            refine WR.nil (WQ.any ?_)
            refine WA.one (i := 15) (by kernel_rfl) rfl ?_
            refine WR.skipG (b := true) rfl rfl rfl rfl rfl ?_
            refine WR.nil (WQ.any ?_)
            refine WA.one (i := 16) (by kernel_rfl) rfl ?_
            refine WR.step (Ex.pickT rfl rfl) (Wn.none rfl) rfl rfl ?_
            refine WR.nil (WQ.any ?_)
            refine WA.done (by kernel_rfl) ?_
            refine WQ.then ?_
            refine WC.condT rfl ?_
            refine WC.seq ?_
            refine WC.region ?_
            refine WR.step (Ex.assign rfl) (Wn.none rfl) rfl rfl ?_
            refine WR.nil ?_
            refine WQ.then ?_
            refine WC.ret ?_
            (repeat (first | refine WQ.thenRet ?_ | refine WQ.inBlockRet ?_))
            refine WQ.ret1 rfl rfl H.ext ?_
            exact by rw [hv, hbad]
          ·
            refine WR.nil (WQ.any ?_)
            refine WA.one (i := 9) (by kernel_rfl) rfl ?_
            refine WR.step (Ex.pickF rfl rfl) (Wn.none rfl) rfl rfl ?_
            refine WR.nil (WQ.any ?_)
            refine WA.one (i := 10) (by kernel_rfl) rfl ?_
            refine WR.step (Ex.move rfl) (Wn.none rfl) rfl rfl ?_
            refine WR.nil (WQ.any ?_)
            refine WA.take (i := 11) rfl (by kernel_rfl) (by kernel_rfl) (by kernel_rfl) (fun _ => Ex.fieldAddr Tryd.underlying78 rfl Tryd.sizeOf5 (by decide) rfl) (Wn.some rfl rfl rfl) rfl rfl (fun _ _ => rfl) ?_
            refine WA.take (i := 13) rfl (by kernel_rfl) (by kernel_rfl) (by kernel_rfl) (fun _ => Ex.move rfl) (Wn.some rfl rfl rfl) rfl rfl (fun _ _ => rfl) ?_
            refine WA.take (i := 14) rfl (by kernel_rfl) (by kernel_rfl) (by kernel_rfl) (fun _ => Ex.idxStr Tryd.underlying9 rfl rfl (hx1)) (Wn.some rfl rfl rfl) rfl rfl (fun _ _ => rfl) ?_
            refine WA.one (i := 12) (by kernel_rfl) rfl ?_
            first | refine WR.step (Ex.loadM H rfl (by assumption) Tryd.isAgg5) (Wn.some rfl rfl rfl) rfl rfl ?_ | refine WR.step (Ex.load1 H rfl (by repeat (first | exact List.Mem.head _ | apply List.Mem.tail)) Tryd.isAgg5 (by rfl)) (Wn.some rfl rfl rfl) rfl rfl ?_
            refine WR.nil (WQ.any ?_)
            refine WA.one (i := 15) (by kernel_rfl) rfl ?_
            refine WR.split (Ex.lss rfl rfl) (Wn.some rfl rfl rfl) rfl rfl (fun h17_15 => ?_) (fun h17_15 => ?_)
            ·
              have hbad := vld_bad hne (hm.2 (by omega))
              refine WR.nil (WQ.any ?_)
              refine WA.one (i := 16) (by kernel_rfl) rfl ?_
              refine WR.step (Ex.pickF rfl rfl) (Wn.none rfl) rfl rfl ?_
              refine WR.nil (WQ.any ?_)
              refine WA.done (by kernel_rfl) ?_
              refine WQ.then ?_
              refine WC.condT rfl ?_
              refine WC.seq ?_
              refine WC.region ?_
              refine WR.step (Ex.assign rfl) (Wn.none rfl) rfl rfl ?_
              refine WR.nil ?_
              refine WQ.then ?_
              refine WC.ret ?_
              (repeat (first | refine WQ.thenRet ?_ | refine WQ.inBlockRet ?_))
              refine WQ.ret1 rfl rfl H.ext ?_
              exact by rw [hv, hbad]
            ·
              refine WR.nil (WQ.any ?_)
              refine WA.one (i := 16) (by kernel_rfl) rfl ?_
              refine WR.step (Ex.pickF rfl rfl) (Wn.none rfl) rfl rfl ?_
              refine WR.nil (WQ.any ?_)
              refine WA.done (by kernel_rfl) ?_
              refine WQ.then ?_
              refine WC.condF rfl ?_
              refine WC.skip ?_
              refine WQ.then ?_
              refine WC.region ?_
              refine WR.step (Ex.move rfl) (Wn.none rfl) rfl rfl ?_
              refine WR.stepE (v' := S (t.drop 2)) (Ex.sliceStr (i := 2) (j := t.length) Tryd.underlying9 rfl (.inl ⟨_, rfl, rfl⟩) (.inr ⟨rfl, rfl⟩) (by omega) (by omega)) (by rw [List.take_length]) (Wn.none rfl) rfl rfl ?_
              refine WR.step (Ex.assign rfl) (Wn.none rfl) rfl rfl ?_
              refine WR.nil ?_
              refine WQ.inBlock ?_
              refine WQ.inBlock ?_
              refine WQ.again1 (t.drop 2) ⟨rfl, trivial⟩ ?_ ?_
              · exact ⟨by rw [List.length_drop]; omega, by rw [hv]; exact vld_good hne (hm.1 (by omega)), M, H.drop (List.nil_sublist _), hp⟩
              · rw [List.length_drop]; omega
      ·
        refine WR.step (Ex.assign rfl) (Wn.none rfl) rfl rfl ?_
        refine WR.nil ?_
        refine WQ.then ?_
        refine WC.condF rfl ?_
        refine WC.seq ?_
        refine WC.region ?_
        refine WR.split (Ex.eql rfl rfl) (Wn.none rfl) rfl rfl (fun h20_0 => ?_) (fun h20_0 => ?_)
        ·
          obtain ⟨hq1, hq2, hq3, hq4⟩ := hc3 (by omega)
          have hm := multi3 (t := t) (lo := lo) (hi := hi) (by rw [hcn]; exact ⟨hq1, hq2⟩) (by rw [hcn]; exact hq3) (by rw [hcn]; exact hq4)
          refine WR.step (Ex.assign rfl) (Wn.none rfl) rfl rfl ?_
          refine WR.nil ?_
          refine WQ.then ?_
          refine WC.condT rfl ?_
          refine WC.seq ?_
          refine WC.seq ?_
          refine WC.draw (m := 27) rfl rfl H ?_
          intro w H
          refine WA.one (i := 0) (by kernel_rfl) rfl ?_
          refine WR.step (Ex.move rfl) (Wn.none rfl) rfl rfl ?_
          refine WR.nil (WQ.any ?_)
          refine WA.one (i := 1) (by kernel_rfl) rfl ?_
          refine WR.step (Ex.lenStr Tryd.underlying9 rfl) (Wn.none rfl) rfl rfl ?_
          refine WR.nil (WQ.any ?_)
          refine WA.one (i := 2) (by kernel_rfl) rfl ?_
          refine WR.split (Ex.lss rfl rfl) (Wn.none rfl) rfl rfl (fun h21_2 => ?_) (fun h21_2 => ?_)
          ·
            have hbad := vld_bad hne (hm.2 (by omega))
            refine WR.nil (WQ.any ?_)
            refine WA.one (i := 3) (by kernel_rfl) rfl ?_
            refine WR.step (Ex.move rfl) (Wn.none rfl) rfl rfl ?_
            refine WR.nil (WQ.any ?_)
            refine WA.takeN (i := 4) rfl (by kernel_rfl) (by kernel_rfl) (by kernel_rfl) (wanted_g (b := true) rfl rfl rfl) rfl rfl (fun _ _ => rfl) ?_
            refine WA.takeN (i := 5) rfl (by kernel_rfl) (by kernel_rfl) (by kernel_rfl) (wanted_g (b := true) rfl rfl rfl) rfl rfl (fun _ _ => rfl) ?_
            refine WA.one (i := 6) (by kernel_rfl) rfl ?_
            refine WR.skipG (b := true) rfl rfl rfl rfl rfl ?_
            refine WR.nil (WQ.any ?_)
            refine WA.one (i := 7) (by kernel_rfl) rfl ?_
            refine WR.skipG (b := true) rfl rfl rfl rfl rfl ?_
            refine WR.nil (WQ.any ?_)
            refine WA.one (i := 8) (by kernel_rfl) rfl ?_
            refine WR.skipG (b := true) rfl rfl rfl rfl rfl ?_
            refine WR.nil (WQ.any ?_)
            refine WA.one (i := 9) (by kernel_rfl) rfl ?_
            refine WR.step (Ex.pickT rfl rfl) (Wn.none rfl) rfl rfl ?_
            refine WR.nil (WQ.any ?_)
            refine WA.one (i := 10) (by kernel_rfl) rfl ?_
            refine WR.step (Ex.move rfl) (Wn.none rfl) rfl rfl ?_
            refine WR.nil (WQ.any ?_)
            refine WA.takeN (i := 11) rfl (by kernel_rfl) (by kernel_rfl) (by kernel_rfl) (wanted_g (b := true) rfl rfl rfl) rfl rfl (fun _ _ => rfl) ?_
            refine WA.takeN (i := 12) rfl (by kernel_rfl) (by kernel_rfl) (by kernel_rfl) (wanted_g (b := true) rfl rfl rfl) rfl rfl (fun _ _ => rfl) ?_
            refine WA.one (i := 13) (by kernel_rfl) rfl ?_
            refine WR.skipG (b := true) rfl rfl rfl rfl rfl ?_
            refine WR.nil (WQ.any ?_)
            refine WA.one (i := 14) (by kernel_rfl) rfl ?_
            refine WR.skipG (b := true) rfl rfl rfl rfl rfl ?_
            refine WR.nil (WQ.any ?_)
            refine WA.one (i := 15) (by kernel_rfl) rfl ?_
            refine WR.skipG (b := true) rfl rfl rfl rfl rfl ?_
            refine WR.nil (WQ.any ?_)
            refine WA.one (i := 16) (by kernel_rfl) rfl ?_
            refine WR.step (Ex.pickT rfl rfl) (Wn.none rfl) rfl rfl ?_
            refine WR.nil (WQ.any ?_)
            refine WA.one (i := 17) (by kernel_rfl) rfl ?_
            refine WR.step (Ex.move rfl) (Wn.none rfl) rfl rfl ?_
            refine WR.nil (WQ.any ?_)
            refine WA.one (i := 18) (by kernel_rfl) rfl ?_
            refine WR.skipG (b := true) rfl rfl rfl rfl rfl ?_
            refine WR.nil (WQ.any ?_)
            refine WA.one (i := 19) (by kernel_rfl) rfl ?_
            refine WR.skipG (b := true) rfl rfl rfl rfl rfl ?_
            refine WR.nil (WQ.any ?_)
            refine WA.one (i := 20) (by kernel_rfl) rfl ?_
            refine WR.skipG (b := true) rfl rfl rfl rfl rfl ?_
            refine WR.nil (WQ.any ?_)
            refine WA.one (i := 21) (by kernel_rfl) rfl ?_
            refine WR.step (Ex.pickT rfl rfl) (Wn.none rfl) rfl rfl ?_
            refine WR.nil (WQ.any ?_)
            refine WA.one (i := 22) (by kernel_rfl) rfl ?_
            refine WR.step (Ex.move rfl) (Wn.none rfl) rfl rfl ?_
            refine WR.nil (WQ.any ?_)
            refine WA.one (i := 23) (by kernel_rfl) rfl ?_
            refine WR.skipG (b := true) rfl rfl rfl rfl rfl ?_
            refine WR.nil (WQ.any ?_)
            refine WA.one (i := 24) (by kernel_rfl) rfl ?_
            refine WR.skipG (b := true) rfl rfl rfl rfl rfl ?_
            refine WR.nil (WQ.any ?_)
            refine WA.one (i := 25) (by kernel_rfl) rfl ?_
            refine WR.skipG (b := true) rfl rfl rfl rfl rfl ?_
            refine WR.nil (WQ.any ?_)
            refine WA.one (i := 26) (by kernel_rfl) rfl ?_
            refine WR.step (Ex.pickT rfl rfl) (Wn.none rfl) rfl rfl ?_
            refine WR.nil (WQ.any ?_)
            refine WA.done (by kernel_rfl) ?_
            refine WQ.then ?_
            refine WC.condT rfl ?_
            refine WC.seq ?_
            refine WC.region ?_
            refine WR.step (Ex.assign rfl) (Wn.none rfl) rfl rfl ?_
            refine WR.nil ?_
            refine WQ.then ?_
            refine WC.ret ?_
            (repeat (first | refine WQ.thenRet ?_ | refine WQ.inBlockRet ?_))
            refine WQ.ret1 rfl rfl H.ext ?_
            exact by rw [hv, hbad]
          ·
            obtain ⟨x1, hx1⟩ : ∃ x, t[1]? = some x := ⟨_, List.getElem?_eq_getElem (by omega)⟩
            have hnx1 := nat_of hx1
            have hxl1 := x1.toNat_lt
            obtain ⟨x2, hx2⟩ : ∃ x, t[2]? = some x := ⟨_, List.getElem?_eq_getElem (by omega)⟩
            have hnx2 := nat_of hx2
            have hxl2 := x2.toNat_lt
            refine WR.nil (WQ.any ?_)
            refine WA.one (i := 3) (by kernel_rfl) rfl ?_
            refine WR.step (Ex.move rfl) (Wn.none rfl) rfl rfl ?_
            refine WR.nil (WQ.any ?_)
            refine WA.take (i := 4) rfl (by kernel_rfl) (by kernel_rfl) (by kernel_rfl) (fun _ => Ex.move rfl) (Wn.some rfl rfl rfl) rfl rfl (fun _ _ => rfl) ?_
            refine WA.take (i := 5) rfl (by kernel_rfl) (by kernel_rfl) (by kernel_rfl) (fun _ => Ex.idxStr Tryd.underlying9 rfl rfl (hx1)) (Wn.some rfl rfl rfl) rfl rfl (fun _ _ => rfl) ?_
            refine WA.one (i := 6) (by kernel_rfl) rfl ?_
            refine WR.step (Ex.fieldAddr Tryd.underlying78 rfl Tryd.sizeOf5 (by decide) rfl) (Wn.some rfl rfl rfl) rfl rfl ?_
            refine WR.nil (WQ.any ?_)
            refine WA.one (i := 7) (by kernel_rfl) rfl ?_
            first | refine WR.step (Ex.loadM H rfl (by assumption) Tryd.isAgg5) (Wn.some rfl rfl rfl) rfl rfl ?_ | refine WR.step (Ex.load1 H rfl (by repeat (first | exact List.Mem.head _ | apply List.Mem.tail)) Tryd.isAgg5 (by rfl)) (Wn.some rfl rfl rfl) rfl rfl ?_
            refine WR.nil (WQ.any ?_)
            refine WA.one (i := 8) (by kernel_rfl) rfl ?_
            refine WR.split (Ex.lss rfl rfl) (Wn.some rfl rfl rfl) rfl rfl (fun h21_8 => ?_) (fun h21_8 => ?_)
            ·
              have hbad := vld_bad hne (hm.2 (by omega))
              refine WR.nil (WQ.any ?_)
              refine WA.one (i := 9) (by kernel_rfl) rfl ?_
              refine WR.step (Ex.pickF rfl rfl) (Wn.none rfl) rfl rfl ?_
              refine WR.nil (WQ.any ?_)
              refine WA.one (i := 10) (by kernel_rfl) rfl ?_
              refine WR.step (Ex.move rfl) (Wn.none rfl) rfl rfl ?_
              refine WR.nil (WQ.any ?_)
              refine WA.takeN (i := 11) rfl (by kernel_rfl) (by kernel_rfl) (by kernel_rfl) (wanted_g (b := true) rfl rfl rfl) rfl rfl (fun _ _ => rfl) ?_
              refine WA.takeN (i := 12) rfl (by kernel_rfl) (by kernel_rfl) (by kernel_rfl) (wanted_g (b := true) rfl rfl rfl) rfl rfl (fun _ _ => rfl) ?_
              refine WA.one (i := 13) (by kernel_rfl) rfl ?_
              refine WR.skipG (b := true) rfl rfl rfl rfl rfl ?_
              refine WR.nil (WQ.any ?_)
              refine WA.one (i := 14) (by kernel_rfl) rfl ?_
              refine WR.skipG (b := true) rfl rfl rfl rfl rfl ?_
              refine WR.nil (WQ.any ?_)
              refine WA.one (i := 15) (by kernel_rfl) rfl ?_
              refine WR.skipG (b := true) rfl rfl rfl rfl rfl ?_
              refine WR.nil (WQ.any ?_)
              refine WA.one (i := 16) (by kernel_rfl) rfl ?_
              refine WR.step (Ex.pickT rfl rfl) (Wn.none rfl) rfl rfl ?_
              refine WR.nil (WQ.any ?_)
              refine WA.one (i := 17) (by kernel_rfl) rfl ?_
              refine WR.step (Ex.move rfl) (Wn.none rfl) rfl rfl ?_
              refine WR.nil (WQ.any ?_)
              refine WA.one (i := 18) (by kernel_rfl) rfl ?_
              refine WR.skipG (b := true) rfl rfl rfl rfl rfl ?_
              refine WR.nil (WQ.any ?_)
              refine WA.one (i := 19) (by kernel_rfl) rfl ?_
              refine WR.skipG (b := true) rfl rfl rfl rfl rfl ?_
              refine WR.nil (WQ.any ?_)
              refine WA.one (i := 20) (by kernel_rfl) rfl ?_
              refine WR.skipG (b := true) rfl rfl rfl rfl rfl ?_
              refine WR.nil (WQ.any ?_)
              refine WA.one (i := 21) (by kernel_rfl) rfl ?_
              refine WR.step (Ex.pickT rfl rfl) (Wn.none rfl) rfl rfl ?_
              refine WR.nil (WQ.any ?_)
              refine WA.one (i := 22) (by kernel_rfl) rfl ?_
              refine WR.step (Ex.move rfl) (Wn.none rfl) rfl rfl ?_
              refine WR.nil (WQ.any ?_)
              refine WA.one (i := 23) (by kernel_rfl) rfl ?_
              refine WR.skipG (b := true) rfl rfl rfl rfl rfl ?_
              refine WR.nil (WQ.any ?_)
              refine WA.one (i := 24) (by kernel_rfl) rfl ?_
              refine WR.skipG (b := true) rfl rfl rfl rfl rfl ?_
              refine WR.nil (WQ.any ?_)
              refine WA.one (i := 25) (by kernel_rfl) rfl ?_
              refine WR.skipG (b := true) rfl rfl rfl rfl rfl ?_
              refine WR.nil (WQ.any ?_)
              refine WA.one (i := 26) (by kernel_rfl) rfl ?_
              refine WR.step (Ex.pickT rfl rfl) (Wn.none rfl) rfl rfl ?_
              refine WR.nil (WQ.any ?_)
              refine WA.done (by kernel_rfl) ?_
              refine WQ.then ?_
              refine WC.condT rfl ?_
              refine WC.seq ?_
              refine WC.region ?_
              refine WR.step (Ex.assign rfl) (Wn.none rfl) rfl rfl ?_
              refine WR.nil ?_
              refine WQ.then ?_
              refine WC.ret ?_
              (repeat (first | refine WQ.thenRet ?_ | refine WQ.inBlockRet ?_))
              refine WQ.ret1 rfl rfl H.ext ?_
              exact by rw [hv, hbad]
            ·
              refine WR.nil (WQ.any ?_)
              refine WA.one (i := 9) (by kernel_rfl) rfl ?_
              refine WR.step (Ex.pickF rfl rfl) (Wn.none rfl) rfl rfl ?_
              refine WR.nil (WQ.any ?_)
              refine WA.one (i := 10) (by kernel_rfl) rfl ?_
              refine WR.step (Ex.move rfl) (Wn.none rfl) rfl rfl ?_
              refine WR.nil (WQ.any ?_)
              refine WA.take (i := 11) rfl (by kernel_rfl) (by kernel_rfl) (by kernel_rfl) (fun _ => Ex.fieldAddr Tryd.underlying78 rfl Tryd.sizeOf5 (by decide) rfl) (Wn.some rfl rfl rfl) rfl rfl (fun _ _ => rfl) ?_
              refine WA.take (i := 13) rfl (by kernel_rfl) (by kernel_rfl) (by kernel_rfl) (fun _ => Ex.move rfl) (Wn.some rfl rfl rfl) rfl rfl (fun _ _ => rfl) ?_
              refine WA.take (i := 14) rfl (by kernel_rfl) (by kernel_rfl) (by kernel_rfl) (fun _ => Ex.idxStr Tryd.underlying9 rfl rfl (hx1)) (Wn.some rfl rfl rfl) rfl rfl (fun _ _ => rfl) ?_
              refine WA.one (i := 12) (by kernel_rfl) rfl ?_
              first | refine WR.step (Ex.loadM H rfl (by assumption) Tryd.isAgg5) (Wn.some rfl rfl rfl) rfl rfl ?_ | refine WR.step (Ex.load1 H rfl (by repeat (first | exact List.Mem.head _ | apply List.Mem.tail)) Tryd.isAgg5 (by rfl)) (Wn.some rfl rfl rfl) rfl rfl ?_
              refine WR.nil (WQ.any ?_)
              refine WA.one (i := 15) (by kernel_rfl) rfl ?_
              refine WR.split (Ex.lss rfl rfl) (Wn.some rfl rfl rfl) rfl rfl (fun h21_15 => ?_) (fun h21_15 => ?_)
              ·
                have hbad := vld_bad hne (hm.2 (by omega))
                refine WR.nil (WQ.any ?_)
                refine WA.one (i := 16) (by kernel_rfl) rfl ?_
                refine WR.step (Ex.pickF rfl rfl) (Wn.none rfl) rfl rfl ?_
                refine WR.nil (WQ.any ?_)
                refine WA.one (i := 17) (by kernel_rfl) rfl ?_
                refine WR.step (Ex.move rfl) (Wn.none rfl) rfl rfl ?_
                refine WR.nil (WQ.any ?_)
                refine WA.one (i := 18) (by kernel_rfl) rfl ?_
                refine WR.skipG (b := true) rfl rfl rfl rfl rfl ?_
                refine WR.nil (WQ.any ?_)
                refine WA.one (i := 19) (by kernel_rfl) rfl ?_
                refine WR.skipG (b := true) rfl rfl rfl rfl rfl ?_
                refine WR.nil (WQ.any ?_)
                refine WA.one (i := 20) (by kernel_rfl) rfl ?_
                refine WR.skipG (b := true) rfl rfl rfl rfl rfl ?_
                refine WR.nil (WQ.any ?_)
                refine WA.one (i := 21) (by kernel_rfl) rfl ?_
                refine WR.step (Ex.pickT rfl rfl) (Wn.none rfl) rfl rfl ?_
                refine WR.nil (WQ.any ?_)
                refine WA.one (i := 22) (by kernel_rfl) rfl ?_
                refine WR.step (Ex.move rfl) (Wn.none rfl) rfl rfl ?_
                refine WR.nil (WQ.any ?_)
                refine WA.one (i := 23) (by kernel_rfl) rfl ?_
                refine WR.skipG (b := true) rfl rfl rfl rfl rfl ?_
                refine WR.nil (WQ.any ?_)
                refine WA.one (i := 24) (by kernel_rfl) rfl ?_
                refine WR.skipG (b := true) rfl rfl rfl rfl rfl ?_
                refine WR.nil (WQ.any ?_)
                refine WA.one (i := 25) (by kernel_rfl) rfl ?_
                refine WR.skipG (b := true) rfl rfl rfl rfl rfl ?_
                refine WR.nil (WQ.any ?_)
                refine WA.one (i := 26) (by kernel_rfl) rfl ?_
                refine WR.step (Ex.pickT rfl rfl) (Wn.none rfl) rfl rfl ?_
                refine WR.nil (WQ.any ?_)
                refine WA.done (by kernel_rfl) ?_
                refine WQ.then ?_
                refine WC.condT rfl ?_
                refine WC.seq ?_
                refine WC.region ?_
                refine WR.step (Ex.assign rfl) (Wn.none rfl) rfl rfl ?_
                refine WR.nil ?_
                refine WQ.then ?_
                refine WC.ret ?_
                (repeat (first | refine WQ.thenRet ?_ | refine WQ.inBlockRet ?_))
                refine WQ.ret1 rfl rfl H.ext ?_
                exact by rw [hv, hbad]
              ·
                refine WR.nil (WQ.any ?_)
                refine WA.one (i := 16) (by kernel_rfl) rfl ?_
                refine WR.step (Ex.pickF rfl rfl) (Wn.none rfl) rfl rfl ?_
                refine WR.nil (WQ.any ?_)
                refine WA.one (i := 17) (by kernel_rfl) rfl ?_
                refine WR.step (Ex.move rfl) (Wn.none rfl) rfl rfl ?_
                refine WR.nil (WQ.any ?_)
                refine WA.one (i := 18) (by kernel_rfl) rfl ?_
                refine WR.step (Ex.move rfl) (Wn.some rfl rfl rfl) rfl rfl ?_
                refine WR.nil (WQ.any ?_)
                refine WA.one (i := 19) (by kernel_rfl) rfl ?_
                refine WR.step (Ex.idxStr Tryd.underlying9 rfl rfl (hx2)) (Wn.some rfl rfl rfl) rfl rfl ?_
                refine WR.nil (WQ.any ?_)
                refine WA.one (i := 20) (by kernel_rfl) rfl ?_
                refine WR.split (Ex.lss rfl rfl) (Wn.some rfl rfl rfl) rfl rfl (fun h21_20 => ?_) (fun h21_20 => ?_)
                ·
                  have hbad := vld_bad hne (hm.2 (by omega))
                  refine WR.nil (WQ.any ?_)
                  refine WA.one (i := 21) (by kernel_rfl) rfl ?_
                  refine WR.step (Ex.pickF rfl rfl) (Wn.none rfl) rfl rfl ?_
                  refine WR.nil (WQ.any ?_)
                  refine WA.one (i := 22) (by kernel_rfl) rfl ?_
                  refine WR.step (Ex.move rfl) (Wn.none rfl) rfl rfl ?_
                  refine WR.nil (WQ.any ?_)
                  refine WA.one (i := 23) (by kernel_rfl) rfl ?_
                  refine WR.skipG (b := true) rfl rfl rfl rfl rfl ?_
                  refine WR.nil (WQ.any ?_)
                  refine WA.one (i := 24) (by kernel_rfl) rfl ?_
                  refine WR.skipG (b := true) rfl rfl rfl rfl rfl ?_
                  refine WR.nil (WQ.any ?_)
                  refine WA.one (i := 25) (by kernel_rfl) rfl ?_
                  refine WR.skipG (b := true) rfl rfl rfl rfl rfl ?_
                  refine WR.nil (WQ.any ?_)
                  refine WA.one (i := 26) (by kernel_rfl) rfl ?_
                  refine WR.step (Ex.pickT rfl rfl) (Wn.none rfl) rfl rfl ?_
                  refine WR.nil (WQ.any ?_)
                  refine WA.done (by kernel_rfl) ?_
                  refine WQ.then ?_
                  refine WC.condT rfl ?_
                  refine WC.seq ?_
                  refine WC.region ?_
                  refine WR.step (Ex.assign rfl) (Wn.none rfl) rfl rfl ?_
                  refine WR.nil ?_
                  refine WQ.then ?_
                  refine WC.ret ?_
                  (repeat (first | refine WQ.thenRet ?_ | refine WQ.inBlockRet ?_))
                  refine WQ.ret1 rfl rfl H.ext ?_
                  exact by rw [hv, hbad]
                ·
                  refine WR.nil (WQ.any ?_)
                  refine WA.one (i := 21) (by kernel_rfl) rfl ?_
                  refine WR.step (Ex.pickF rfl rfl) (Wn.none rfl) rfl rfl ?_
                  refine WR.nil (WQ.any ?_)
                  refine WA.one (i := 22) (by kernel_rfl) rfl ?_
                  refine WR.step (Ex.move rfl) (Wn.none rfl) rfl rfl ?_
                  refine WR.nil (WQ.any ?_)
                  refine WA.one (i := 23) (by kernel_rfl) rfl ?_
                  refine WR.step (Ex.move rfl) (Wn.some rfl rfl rfl) rfl rfl ?_
                  refine WR.nil (WQ.any ?_)
                  refine WA.one (i := 24) (by kernel_rfl) rfl ?_
                  refine WR.step (Ex.idxStr Tryd.underlying9 rfl rfl (hx2)) (Wn.some rfl rfl rfl) rfl rfl ?_
                  refine WR.nil (WQ.any ?_)
                  refine WA.one (i := 25) (by kernel_rfl) rfl ?_
                  refine WR.split (Ex.lss rfl rfl) (Wn.some rfl rfl rfl) rfl rfl (fun h21_25 => ?_) (fun h21_25 => ?_)
                  ·
                    have hbad := vld_bad hne (hm.2 (by omega))
                    refine WR.nil (WQ.any ?_)
                    refine WA.one (i := 26) (by kernel_rfl) rfl ?_
                    refine WR.step (Ex.pickF rfl rfl) (Wn.none rfl) rfl rfl ?_
                    refine WR.nil (WQ.any ?_)
                    refine WA.done (by kernel_rfl) ?_
                    refine WQ.then ?_
                    refine WC.condT rfl ?_
                    refine WC.seq ?_
                    refine WC.region ?_
                    refine WR.step (Ex.assign rfl) (Wn.none rfl) rfl rfl ?_
                    refine WR.nil ?_
                    refine WQ.then ?_
                    refine WC.ret ?_
                    (repeat (first | refine WQ.thenRet ?_ | refine WQ.inBlockRet ?_))
                    refine WQ.ret1 rfl rfl H.ext ?_
                    exact by rw [hv, hbad]
                  ·
                    refine WR.nil (WQ.any ?_)
                    refine WA.one (i := 26) (by kernel_rfl) rfl ?_
                    refine WR.step (Ex.pickF rfl rfl) (Wn.none rfl) rfl rfl ?_
                    refine WR.nil (WQ.any ?_)
                    refine WA.done (by kernel_rfl) ?_
                    refine WQ.then ?_
                    refine WC.condF rfl ?_
                    refine WC.skip ?_
                    refine WQ.then ?_
                    refine WC.region ?_
                    refine WR.step (Ex.move rfl) (Wn.none rfl) rfl rfl ?_
                    refine WR.stepE (v' := S (t.drop 3)) (Ex.sliceStr (i := 3) (j := t.length) Tryd.underlying9 rfl (.inl ⟨_, rfl, rfl⟩) (.inr ⟨rfl, rfl⟩) (by omega) (by omega)) (by rw [List.take_length]) (Wn.none rfl) rfl rfl ?_
                    refine WR.step (Ex.assign rfl) (Wn.none rfl) rfl rfl ?_
                    refine WR.nil ?_
                    refine WQ.inBlock ?_
                    refine WQ.inBlock ?_
                    refine WQ.again1 (t.drop 3) ⟨rfl, trivial⟩ ?_ ?_
                    · exact ⟨by rw [List.length_drop]; omega, by rw [hv]; exact vld_good hne (hm.1 (by omega)), M, H.drop (List.nil_sublist _), hp⟩
                    · rw [List.length_drop]; omega
        ·
          refine WR.step (Ex.assign rfl) (Wn.none rfl) rfl rfl ?_
          refine WR.nil ?_
          refine WQ.then ?_
          refine WC.condF rfl ?_
          refine WC.seq ?_
          refine WC.region ?_
          refine WR.split (Ex.eql rfl rfl) (Wn.none rfl) rfl rfl (fun h24_0 => ?_) (fun h24_0 => ?_)
          ·
            obtain ⟨hq1, hq2, hq3, hq4⟩ := hc4 (by omega)
            have hm := multi4 (t := t) (lo := lo) (hi := hi) (by rw [hcn]; exact ⟨hq1, hq2⟩) (by rw [hcn]; exact hq3) (by rw [hcn]; exact hq4)
            refine WR.step (Ex.assign rfl) (Wn.none rfl) rfl rfl ?_
            refine WR.nil ?_
            refine WQ.then ?_
            refine WC.condT rfl ?_
            refine WC.seq ?_
            refine WC.seq ?_
            refine WC.draw (m := 37) rfl rfl H ?_
            intro w H
            refine WA.one (i := 0) (by kernel_rfl) rfl ?_
            refine WR.step (Ex.move rfl) (Wn.none rfl) rfl rfl ?_
            refine WR.nil (WQ.any ?_)
            refine WA.one (i := 1) (by kernel_rfl) rfl ?_
            refine WR.step (Ex.lenStr Tryd.underlying9 rfl) (Wn.none rfl) rfl rfl ?_
            refine WR.nil (WQ.any ?_)
            refine WA.one (i := 2) (by kernel_rfl) rfl ?_
            refine WR.split (Ex.lss rfl rfl) (Wn.none rfl) rfl rfl (fun h25_2 => ?_) (fun h25_2 => ?_)
            ·
              have hbad := vld_bad hne (hm.2 (by omega))
              refine WR.nil (WQ.any ?_)
              refine WA.one (i := 3) (by kernel_rfl) rfl ?_
              refine WR.step (Ex.move rfl) (Wn.none rfl) rfl rfl ?_
              refine WR.nil (WQ.any ?_)
              refine WA.takeN (i := 4) rfl (by kernel_rfl) (by kernel_rfl) (by kernel_rfl) (wanted_g (b := true) rfl rfl rfl) rfl rfl (fun _ _ => rfl) ?_
              refine WA.takeN (i := 5) rfl (by kernel_rfl) (by kernel_rfl) (by kernel_rfl) (wanted_g (b := true) rfl rfl rfl) rfl rfl (fun _ _ => rfl) ?_
              refine WA.one (i := 6) (by kernel_rfl) rfl ?_
              refine WR.skipG (b := true) rfl rfl rfl rfl rfl ?_
              refine WR.nil (WQ.any ?_)
              refine WA.one (i := 7) (by kernel_rfl) rfl ?_
              refine WR.skipG (b := true) rfl rfl rfl rfl rfl ?_
              refine WR.nil (WQ.any ?_)
              refine WA.one (i := 8) (by kernel_rfl) rfl ?_
              refine WR.skipG (b := true) rfl rfl rfl rfl rfl ?_
              refine WR.nil (WQ.any ?_)
              refine WA.one (i := 9) (by kernel_rfl) rfl ?_
              refine WR.step (Ex.pickT rfl rfl) (Wn.none rfl) rfl rfl ?_
              refine WR.nil (WQ.any ?_)
              refine WA.one (i := 10) (by kernel_rfl) rfl ?_
              refine WR.step (Ex.move rfl) (Wn.none rfl) rfl rfl ?_
              refine WR.nil (WQ.any ?_)
              refine WA.takeN (i := 11) rfl (by kernel_rfl) (by kernel_rfl) (by kernel_rfl) (wanted_g (b := true) rfl rfl rfl) rfl rfl (fun _ _ => rfl) ?_
              refine WA.takeN (i := 12) rfl (by kernel_rfl) (by kernel_rfl) (by kernel_rfl) (wanted_g (b := true) rfl rfl rfl) rfl rfl (fun _ _ => rfl) ?_
              refine WA.one (i := 13) (by kernel_rfl) rfl ?_
              refine WR.skipG (b := true) rfl rfl rfl rfl rfl ?_
              refine WR.nil (WQ.any ?_)
              refine WA.one (i := 14) (by kernel_rfl) rfl ?_
              refine WR.skipG (b := true) rfl rfl rfl rfl rfl ?_
              refine WR.nil (WQ.any ?_)
              refine WA.one (i := 15) (by kernel_rfl) rfl ?_
              refine WR.skipG (b := true) rfl rfl rfl rfl rfl ?_
              refine WR.nil (WQ.any ?_)
              refine WA.one (i := 16) (by kernel_rfl) rfl ?_
              refine WR.step (Ex.pickT rfl rfl) (Wn.none rfl) rfl rfl ?_
              refine WR.nil (WQ.any ?_)
              refine WA.one (i := 17) (by kernel_rfl) rfl ?_
              refine WR.step (Ex.move rfl) (Wn.none rfl) rfl rfl ?_
              refine WR.nil (WQ.any ?_)
              refine WA.one (i := 18) (by kernel_rfl) rfl ?_
              refine WR.skipG (b := true) rfl rfl rfl rfl rfl ?_
              refine WR.nil (WQ.any ?_)
              refine WA.one (i := 19) (by kernel_rfl) rfl ?_
              refine WR.skipG (b := true) rfl rfl rfl rfl rfl ?_
              refine WR.nil (WQ.any ?_)
              refine WA.one (i := 20) (by kernel_rfl) rfl ?_
              refine WR.skipG (b := true) rfl rfl rfl rfl rfl ?_
              refine WR.nil (WQ.any ?_)
              refine WA.one (i := 21) (by kernel_rfl) rfl ?_
              refine WR.step (Ex.pickT rfl rfl) (Wn.none rfl) rfl rfl ?_
              refine WR.nil (WQ.any ?_)
              refine WA.one (i := 22) (by kernel_rfl) rfl ?_
              refine WR.step (Ex.move rfl) (Wn.none rfl) rfl rfl ?_
              refine WR.nil (WQ.any ?_)
              refine WA.one (i := 23) (by kernel_rfl) rfl ?_
              refine WR.skipG (b := true) rfl rfl rfl rfl rfl ?_
              refine WR.nil (WQ.any ?_)
              refine WA.one (i := 24) (by kernel_rfl) rfl ?_
              refine WR.skipG (b := true) rfl rfl rfl rfl rfl ?_
              refine WR.nil (WQ.any ?_)
              refine WA.one (i := 25) (by kernel_rfl) rfl ?_
              refine WR.skipG (b := true) rfl rfl rfl rfl rfl ?_
              refine WR.nil (WQ.any ?_)
              refine WA.one (i := 26) (by kernel_rfl) rfl ?_
              refine WR.step (Ex.pickT rfl rfl) (Wn.none rfl) rfl rfl ?_
              refine WR.nil (WQ.any ?_)
              refine WA.one (i := 27) (by kernel_rfl) rfl ?_
              refine WR.step (Ex.move rfl) (Wn.none rfl) rfl rfl ?_
              refine WR.nil (WQ.any ?_)
              refine WA.one (i := 28) (by kernel_rfl) rfl ?_
              refine WR.skipG (b := true) rfl rfl rfl rfl rfl ?_
              refine WR.nil (WQ.any ?_)
              refine WA.one (i := 29) (by kernel_rfl) rfl ?_
              refine WR.skipG (b := true) rfl rfl rfl rfl rfl ?_
              refine WR.nil (WQ.any ?_)
              refine WA.one (i := 30) (by kernel_rfl) rfl ?_
              refine WR.skipG (b := true) rfl rfl rfl rfl rfl ?_
              refine WR.nil (WQ.any ?_)
              refine WA.one (i := 31) (by kernel_rfl) rfl ?_
              refine WR.step (Ex.pickT rfl rfl) (Wn.none rfl) rfl rfl ?_
              refine WR.nil (WQ.any ?_)
              refine WA.one (i := 32) (by kernel_rfl) rfl ?_
              refine WR.step (Ex.move rfl) (Wn.none rfl) rfl rfl ?_
              refine WR.nil (WQ.any ?_)
              refine WA.one (i := 33) (by kernel_rfl) rfl ?_
              refine WR.skipG (b := true) rfl rfl rfl rfl rfl ?_
              refine WR.nil (WQ.any ?_)
              refine WA.one (i := 34) (by kernel_rfl) rfl ?_
              refine WR.skipG (b := true) rfl rfl rfl rfl rfl ?_
              refine WR.nil (WQ.any ?_)
              refine WA.one (i := 35) (by kernel_rfl) rfl ?_
              refine WR.skipG (b := true) rfl rfl rfl rfl rfl ?_
              refine WR.nil (WQ.any ?_)
              refine WA.one (i := 36) (by kernel_rfl) rfl ?_
              refine WR.step (Ex.pickT rfl rfl) (Wn.none rfl) rfl rfl ?_
              refine WR.nil (WQ.any ?_)
              refine WA.done (by kernel_rfl) ?_
              refine WQ.then ?_
              refine WC.condT rfl ?_
              refine WC.seq ?_
              refine WC.region ?_
              refine WR.step (Ex.assign rfl) (Wn.none rfl) rfl rfl ?_
              refine WR.nil ?_
              refine WQ.then ?_
              refine WC.ret ?_
              (repeat (first | refine WQ.thenRet ?_ | refine WQ.inBlockRet ?_))
              refine WQ.ret1 rfl rfl H.ext ?_
              exact by rw [hv, hbad]
            ·
              obtain ⟨x1, hx1⟩ : ∃ x, t[1]? = some x := ⟨_, List.getElem?_eq_getElem (by omega)⟩
              have hnx1 := nat_of hx1
              have hxl1 := x1.toNat_lt
              obtain ⟨x2, hx2⟩ : ∃ x, t[2]? = some x := ⟨_, List.getElem?_eq_getElem (by omega)⟩
              have hnx2 := nat_of hx2
              have hxl2 := x2.toNat_lt
              obtain ⟨x3, hx3⟩ : ∃ x, t[3]? = some x := ⟨_, List.getElem?_eq_getElem (by omega)⟩
              have hnx3 := nat_of hx3
              have hxl3 := x3.toNat_lt
              refine WR.nil (WQ.any ?_)
              refine WA.one (i := 3) (by kernel_rfl) rfl ?_
              refine WR.step (Ex.move rfl) (Wn.none rfl) rfl rfl ?_
              refine WR.nil (WQ.any ?_)
              refine WA.take (i := 4) rfl (by kernel_rfl) (by kernel_rfl) (by kernel_rfl) (fun _ => Ex.move rfl) (Wn.some rfl rfl rfl) rfl rfl (fun _ _ => rfl) ?_
              refine WA.take (i := 5) rfl (by kernel_rfl) (by kernel_rfl) (by kernel_rfl) (fun _ => Ex.idxStr Tryd.underlying9 rfl rfl (hx1)) (Wn.some rfl rfl rfl) rfl rfl (fun _ _ => rfl) ?_
              refine WA.one (i := 6) (by kernel_rfl) rfl ?_
              refine WR.step (Ex.fieldAddr Tryd.underlying78 rfl Tryd.sizeOf5 (by decide) rfl) (Wn.some rfl rfl rfl) rfl rfl ?_
              refine WR.nil (WQ.any ?_)
              refine WA.one (i := 7) (by kernel_rfl) rfl ?_
              first | refine WR.step (Ex.loadM H rfl (by assumption) Tryd.isAgg5) (Wn.some rfl rfl rfl) rfl rfl ?_ | refine WR.step (Ex.load1 H rfl (by repeat (first | exact List.Mem.head _ | apply List.Mem.tail)) Tryd.isAgg5 (by rfl)) (Wn.some rfl rfl rfl) rfl rfl ?_
              refine WR.nil (WQ.any ?_)
              refine WA.one (i := 8) (by kernel_rfl) rfl ?_
              refine WR.split (Ex.lss rfl rfl) (Wn.some rfl rfl rfl) rfl rfl (fun h25_8 => ?_) (fun h25_8 => ?_)
              ·
                have hbad := vld_bad hne (hm.2 (by omega))
                refine WR.nil (WQ.any ?_)
                refine WA.one (i := 9) (by kernel_rfl) rfl ?_
                refine WR.step (Ex.pickF rfl rfl) (Wn.none rfl) rfl rfl ?_
                refine WR.nil (WQ.any ?_)
                refine WA.one (i := 10) (by kernel_rfl) rfl ?_
                refine WR.step (Ex.move rfl) (Wn.none rfl) rfl rfl ?_
                refine WR.nil (WQ.any ?_)
                refine WA.takeN (i := 11) rfl (by kernel_rfl) (by kernel_rfl) (by kernel_rfl) (wanted_g (b := true) rfl rfl rfl) rfl rfl (fun _ _ => rfl) ?_
                refine WA.takeN (i := 12) rfl (by kernel_rfl) (by kernel_rfl) (by kernel_rfl) (wanted_g (b := true) rfl rfl rfl) rfl rfl (fun _ _ => rfl) ?_
                refine WA.one (i := 13) (by kernel_rfl) rfl ?_
                refine WR.skipG (b := true) rfl rfl rfl rfl rfl ?_
                refine WR.nil (WQ.any ?_)
                refine WA.one (i := 14) (by kernel_rfl) rfl ?_
                refine WR.skipG (b := true) rfl rfl rfl rfl rfl ?_
                refine WR.nil (WQ.any ?_)
                refine WA.one (i := 15) (by kernel_rfl) rfl ?_
                refine WR.skipG (b := true) rfl rfl rfl rfl rfl ?_
                refine WR.nil (WQ.any ?_)
                refine WA.one (i := 16) (by kernel_rfl) rfl ?_
                refine WR.step (Ex.pickT rfl rfl) (Wn.none rfl) rfl rfl ?_
                refine WR.nil (WQ.any ?_)
                refine WA.one (i := 17) (by kernel_rfl) rfl ?_
                refine WR.step (Ex.move rfl) (Wn.none rfl) rfl rfl ?_
                refine WR.nil (WQ.any ?_)
                refine WA.one (i := 18) (by kernel_rfl) rfl ?_
                refine WR.skipG (b := true) rfl rfl rfl rfl rfl ?_
                refine WR.nil (WQ.any ?_)
                refine WA.one (i := 19) (by kernel_rfl) rfl ?_
                refine WR.skipG (b := true) rfl rfl rfl rfl rfl ?_
                refine WR.nil (WQ.any ?_)
                refine WA.one (i := 20) (by kernel_rfl) rfl ?_
                refine WR.skipG (b := true) rfl rfl rfl rfl rfl ?_
                refine WR.nil (WQ.any ?_)
                refine WA.one (i := 21) (by kernel_rfl) rfl ?_
                refine WR.step (Ex.pickT rfl rfl) (Wn.none rfl) rfl rfl ?_
                refine WR.nil (WQ.any ?_)
                refine WA.one (i := 22) (by kernel_rfl) rfl ?_
                refine WR.step (Ex.move rfl) (Wn.none rfl) rfl rfl ?_
                refine WR.nil (WQ.any ?_)
                refine WA.one (i := 23) (by kernel_rfl) rfl ?_
                refine WR.skipG (b := true) rfl rfl rfl rfl rfl ?_
                refine WR.nil (WQ.any ?_)
                refine WA.one (i := 24) (by kernel_rfl) rfl ?_
                refine WR.skipG (b := true) rfl rfl rfl rfl rfl ?_
                refine WR.nil (WQ.any ?_)
                refine WA.one (i := 25) (by kernel_rfl) rfl ?_
                refine WR.skipG (b := true) rfl rfl rfl rfl rfl ?_
                refine WR.nil (WQ.any ?_)
                refine WA.one (i := 26) (by kernel_rfl) rfl ?_
                refine WR.step (Ex.pickT rfl rfl) (Wn.none rfl) rfl rfl ?_
                refine WR.nil (WQ.any ?_)
                refine WA.one (i := 27) (by kernel_rfl) rfl ?_
                refine WR.step (Ex.move rfl) (Wn.none rfl) rfl rfl ?_
                refine WR.nil (WQ.any ?_)
                refine WA.one (i := 28) (by kernel_rfl) rfl ?_
                refine WR.skipG (b := true) rfl rfl rfl rfl rfl ?_
                refine WR.nil (WQ.any ?_)
                refine WA.one (i := 29) (by kernel_rfl) rfl ?_
                refine WR.skipG (b := true) rfl rfl rfl rfl rfl ?_
                refine WR.nil (WQ.any ?_)
                refine WA.one (i := 30) (by kernel_rfl) rfl ?_
                refine WR.skipG (b := true) rfl rfl rfl rfl rfl ?_
                refine WR.nil (WQ.any ?_)
                refine WA.one (i := 31) (by kernel_rfl) rfl ?_
                refine WR.step (Ex.pickT rfl rfl) (Wn.none rfl) rfl rfl ?_
                refine WR.nil (WQ.any ?_)
                refine WA.one (i := 32) (by kernel_rfl) rfl ?_
                refine WR.step (Ex.move rfl) (Wn.none rfl) rfl rfl ?_
                refine WR.nil (WQ.any ?_)
                refine WA.one (i := 33) (by kernel_rfl) rfl ?_
                refine WR.skipG (b := true) rfl rfl rfl rfl rfl ?_
                refine WR.nil (WQ.any ?_)
                refine WA.one (i := 34) (by kernel_rfl) rfl ?_
                refine WR.skipG (b := true) rfl rfl rfl rfl rfl ?_
                refine WR.nil (WQ.any ?_)
                refine WA.one (i := 35) (by kernel_rfl) rfl ?_
                refine WR.skipG (b := true) rfl rfl rfl rfl rfl ?_
                refine WR.nil (WQ.any ?_)
                refine WA.one (i := 36) (by kernel_rfl) rfl ?_
                refine WR.step (Ex.pickT rfl rfl) (Wn.none rfl) rfl rfl ?_
                refine WR.nil (WQ.any ?_)
                refine WA.done (by kernel_rfl) ?_
                refine WQ.then ?_
                refine WC.condT rfl ?_
                refine WC.seq ?_
                refine WC.region ?_
                refine WR.step (Ex.assign rfl) (Wn.none rfl) rfl rfl ?_
                refine WR.nil ?_
                refine WQ.then ?_
                refine WC.ret ?_
                (repeat (first | refine WQ.thenRet ?_ | refine WQ.inBlockRet ?_))
                refine WQ.ret1 rfl rfl H.ext ?_
                exact by rw [hv, hbad]
              ·
                refine WR.nil (WQ.any ?_)
                refine WA.one (i := 9) (by kernel_rfl) rfl ?_
                refine WR.step (Ex.pickF rfl rfl) (Wn.none rfl) rfl rfl ?_
                refine WR.nil (WQ.any ?_)
                refine WA.one (i := 10) (by kernel_rfl) rfl ?_
                refine WR.step (Ex.move rfl) (Wn.none rfl) rfl rfl ?_
                refine WR.nil (WQ.any ?_)
                refine WA.take (i := 11) rfl (by kernel_rfl) (by kernel_rfl) (by kernel_rfl) (fun _ => Ex.fieldAddr Tryd.underlying78 rfl Tryd.sizeOf5 (by decide) rfl) (Wn.some rfl rfl rfl) rfl rfl (fun _ _ => rfl) ?_
                refine WA.take (i := 13) rfl (by kernel_rfl) (by kernel_rfl) (by kernel_rfl) (fun _ => Ex.move rfl) (Wn.some rfl rfl rfl) rfl rfl (fun _ _ => rfl) ?_
                refine WA.take (i := 14) rfl (by kernel_rfl) (by kernel_rfl) (by kernel_rfl) (fun _ => Ex.idxStr Tryd.underlying9 rfl rfl (hx1)) (Wn.some rfl rfl rfl) rfl rfl (fun _ _ => rfl) ?_
                refine WA.one (i := 12) (by kernel_rfl) rfl ?_
                first | refine WR.step (Ex.loadM H rfl (by assumption) Tryd.isAgg5) (Wn.some rfl rfl rfl) rfl rfl ?_ | refine WR.step (Ex.load1 H rfl (by repeat (first | exact List.Mem.head _ | apply List.Mem.tail)) Tryd.isAgg5 (by rfl)) (Wn.some rfl rfl rfl) rfl rfl ?_
                refine WR.nil (WQ.any ?_)
                refine WA.one (i := 15) (by kernel_rfl) rfl ?_
                refine WR.split (Ex.lss rfl rfl) (Wn.some rfl rfl rfl) rfl rfl (fun h25_15 => ?_) (fun h25_15 => ?_)
                ·
                  have hbad := vld_bad hne (hm.2 (by omega))
                  refine WR.nil (WQ.any ?_)
                  refine WA.one (i := 16) (by kernel_rfl) rfl ?_
                  refine WR.step (Ex.pickF rfl rfl) (Wn.none rfl) rfl rfl ?_
                  refine WR.nil (WQ.any ?_)
                  refine WA.one (i := 17) (by kernel_rfl) rfl ?_
                  refine WR.step (Ex.move rfl) (Wn.none rfl) rfl rfl ?_
                  refine WR.nil (WQ.any ?_)
                  refine WA.one (i := 18) (by kernel_rfl) rfl ?_
                  refine WR.skipG (b := true) rfl rfl rfl rfl rfl ?_
                  refine WR.nil (WQ.any ?_)
                  refine WA.one (i := 19) (by kernel_rfl) rfl ?_
                  refine WR.skipG (b := true) rfl rfl rfl rfl rfl ?_
                  refine WR.nil (WQ.any ?_)
                  refine WA.one (i := 20) (by kernel_rfl) rfl ?_
                  refine WR.skipG (b := true) rfl rfl rfl rfl rfl ?_
                  refine WR.nil (WQ.any ?_)
                  refine WA.one (i := 21) (by kernel_rfl) rfl ?_
                  refine WR.step (Ex.pickT rfl rfl) (Wn.none rfl) rfl rfl ?_
                  refine WR.nil (WQ.any ?_)
                  refine WA.one (i := 22) (by kernel_rfl) rfl ?_
                  refine WR.step (Ex.move rfl) (Wn.none rfl) rfl rfl ?_
                  refine WR.nil (WQ.any ?_)
                  refine WA.one (i := 23) (by kernel_rfl) rfl ?_
                  refine WR.skipG (b := true) rfl rfl rfl rfl rfl ?_
                  refine WR.nil (WQ.any ?_)
                  refine WA.one (i := 24) (by kernel_rfl) rfl ?_
                  refine WR.skipG (b := true) rfl rfl rfl rfl rfl ?_
                  refine WR.nil (WQ.any ?_)
                  refine WA.one (i := 25) (by kernel_rfl) rfl ?_
                  refine WR.skipG (b := true) rfl rfl rfl rfl rfl ?_
                  refine WR.nil (WQ.any ?_)
                  refine WA.one (i := 26) (by kernel_rfl) rfl ?_
                  refine WR.step (Ex.pickT rfl rfl) (Wn.none rfl) rfl rfl ?_
                  refine WR.nil (WQ.any ?_)
                  refine WA.one (i := 27) (by kernel_rfl) rfl ?_
                  refine WR.step (Ex.move rfl) (Wn.none rfl) rfl rfl ?_
                  refine WR.nil (WQ.any ?_)
                  refine WA.one (i := 28) (by kernel_rfl) rfl ?_
                  refine WR.skipG (b := true) rfl rfl rfl rfl rfl ?_
                  refine WR.nil (WQ.any ?_)
                  refine WA.one (i := 29) (by kernel_rfl) rfl ?_
                  refine WR.skipG (b := true) rfl rfl rfl rfl rfl ?_
                  refine WR.nil (WQ.any ?_)
                  refine WA.one (i := 30) (by kernel_rfl) rfl ?_
                  refine WR.skipG (b := true) rfl rfl rfl rfl rfl ?_
                  refine WR.nil (WQ.any ?_)
                  refine WA.one (i := 31) (by kernel_rfl) rfl ?_
                  refine WR.step (Ex.pickT rfl rfl) (Wn.none rfl) rfl rfl ?_
                  refine WR.nil (WQ.any ?_)
                  refine WA.one (i := 32) (by kernel_rfl) rfl ?_
                  refine WR.step (Ex.move rfl) (Wn.none rfl) rfl rfl ?_
                  refine WR.nil (WQ.any ?_)
                  refine WA.one (i := 33) (by kernel_rfl) rfl ?_
                  refine WR.skipG (b := true) rfl rfl rfl rfl rfl ?_
                  refine WR.nil (WQ.any ?_)
                  refine WA.one (i := 34) (by kernel_rfl) rfl ?_
                  refine WR.skipG (b := true) rfl rfl rfl rfl rfl ?_
                  refine WR.nil (WQ.any ?_)
                  refine WA.one (i := 35) (by kernel_rfl) rfl ?_
                  refine WR.skipG (b := true) rfl rfl rfl rfl rfl ?_
                  refine WR.nil (WQ.any ?_)
                  refine WA.one (i := 36) (by kernel_rfl) rfl ?_
                  refine WR.step (Ex.pickT rfl rfl) (Wn.none rfl) rfl rfl ?_
                  refine WR.nil (WQ.any ?_)
                  refine WA.done (by kernel_rfl) ?_
                  refine WQ.then ?_
                  refine WC.condT rfl ?_
                  refine WC.seq ?_
                  refine WC.region ?_
                  refine WR.step (Ex.assign rfl) (Wn.none rfl) rfl rfl ?_
                  refine WR.nil ?_
                  refine WQ.then ?_
                  refine WC.ret ?_
                  (repeat (first | refine WQ.thenRet ?_ | refine WQ.inBlockRet ?_))
                  refine WQ.ret1 rfl rfl H.ext ?_
                  exact by rw [hv, hbad]
                ·
                  refine WR.nil (WQ.any ?_)
                  refine WA.one (i := 16) (by kernel_rfl) rfl ?_
                  refine WR.step (Ex.pickF rfl rfl) (Wn.none rfl) rfl rfl ?_
                  refine WR.nil (WQ.any ?_)
                  refine WA.one (i := 17) (by kernel_rfl) rfl ?_
                  refine WR.step (Ex.move rfl) (Wn.none rfl) rfl rfl ?_
                  refine WR.nil (WQ.any ?_)
                  refine WA.one (i := 18) (by kernel_rfl) rfl ?_
                  refine WR.step (Ex.move rfl) (Wn.some rfl rfl rfl) rfl rfl ?_
                  refine WR.nil (WQ.any ?_)
                  refine WA.one (i := 19) (by kernel_rfl) rfl ?_
                  refine WR.step (Ex.idxStr Tryd.underlying9 rfl rfl (hx2)) (Wn.some rfl rfl rfl) rfl rfl ?_
                  refine WR.nil (WQ.any ?_)
                  refine WA.one (i := 20) (by kernel_rfl) rfl ?_
                  refine WR.split (Ex.lss rfl rfl) (Wn.some rfl rfl rfl) rfl rfl (fun h25_20 => ?_) (fun h25_20 => ?_)
                  ·
                    have hbad := vld_bad hne (hm.2 (by omega))
                    refine WR.nil (WQ.any ?_)
                    refine WA.one (i := 21) (by kernel_rfl) rfl ?_
                    refine WR.step (Ex.pickF rfl rfl) (Wn.none rfl) rfl rfl ?_
                    refine WR.nil (WQ.any ?_)
                    refine WA.one (i := 22) (by kernel_rfl) rfl ?_
                    refine WR.step (Ex.move rfl) (Wn.none rfl) rfl rfl ?_
                    refine WR.nil (WQ.any ?_)
                    refine WA.one (i := 23) (by kernel_rfl) rfl ?_
                    refine WR.skipG (b := true) rfl rfl rfl rfl rfl ?_
                    refine WR.nil (WQ.any ?_)
                    refine WA.one (i := 24) (by kernel_rfl) rfl ?_
                    refine WR.skipG (b := true) rfl rfl rfl rfl rfl ?_
                    refine WR.nil (WQ.any ?_)
                    refine WA.one (i := 25) (by kernel_rfl) rfl ?_
                    refine WR.skipG (b := true) rfl rfl rfl rfl rfl ?_
                    refine WR.nil (WQ.any ?_)
                    refine WA.one (i := 26) (by kernel_rfl) rfl ?_
                    refine WR.step (Ex.pickT rfl rfl) (Wn.none rfl) rfl rfl ?_
                    refine WR.nil (WQ.any ?_)
                    refine WA.one (i := 27) (by kernel_rfl) rfl ?_
                    refine WR.step (Ex.move rfl) (Wn.none rfl) rfl rfl ?_
                    refine WR.nil (WQ.any ?_)
                    refine WA.one (i := 28) (by kernel_rfl) rfl ?_
                    refine WR.skipG (b := true) rfl rfl rfl rfl rfl ?_
                    refine WR.nil (WQ.any ?_)
                    refine WA.one (i := 29) (by kernel_rfl) rfl ?_
                    refine WR.skipG (b := true) rfl rfl rfl rfl rfl ?_
                    refine WR.nil (WQ.any ?_)
                    refine WA.one (i := 30) (by kernel_rfl) rfl ?_
                    refine WR.skipG (b := true) rfl rfl rfl rfl rfl ?_
                    refine WR.nil (WQ.any ?_)
                    refine WA.one (i := 31) (by kernel_rfl) rfl ?_
                    refine WR.step (Ex.pickT rfl rfl) (Wn.none rfl) rfl rfl ?_
                    refine WR.nil (WQ.any ?_)
                    refine WA.one (i := 32) (by kernel_rfl) rfl ?_
                    refine WR.step (Ex.move rfl) (Wn.none rfl) rfl rfl ?_
                    refine WR.nil (WQ.any ?_)
                    refine WA.one (i := 33) (by kernel_rfl) rfl ?_
                    refine WR.skipG (b := true) rfl rfl rfl rfl rfl ?_
                    refine WR.nil (WQ.any ?_)
                    refine WA.one (i := 34) (by kernel_rfl) rfl ?_
                    refine WR.skipG (b := true) rfl rfl rfl rfl rfl ?_
                    refine WR.nil (WQ.any ?_)
                    refine WA.one (i := 35) (by kernel_rfl) rfl ?_
                    refine WR.skipG (b := true) rfl rfl rfl rfl rfl ?_
                    refine WR.nil (WQ.any ?_)
                    refine WA.one (i := 36) (by kernel_rfl) rfl ?_
                    refine WR.step (Ex.pickT rfl rfl) (Wn.none rfl) rfl rfl ?_
                    refine WR.nil (WQ.any ?_)
                    refine WA.done (by kernel_rfl) ?_
                    refine WQ.then ?_
                    refine WC.condT rfl ?_
                    refine WC.seq ?_
                    refine WC.region ?_
                    refine WR.step (Ex.assign rfl) (Wn.none rfl) rfl rfl ?_
                    refine WR.nil ?_
                    refine WQ.then ?_
                    refine WC.ret ?_
                    (repeat (first | refine WQ.thenRet ?_ | refine WQ.inBlockRet ?_))
                    refine WQ.ret1 rfl rfl H.ext ?_
                    exact by rw [hv, hbad]
                  ·
                    refine WR.nil (WQ.any ?_)
                    refine WA.one (i := 21) (by kernel_rfl) rfl ?_
                    refine WR.step (Ex.pickF rfl rfl) (Wn.none rfl) rfl rfl ?_
                    refine WR.nil (WQ.any ?_)
                    refine WA.one (i := 22) (by kernel_rfl) rfl ?_
                    refine WR.step (Ex.move rfl) (Wn.none rfl) rfl rfl ?_
                    refine WR.nil (WQ.any ?_)
                    refine WA.one (i := 23) (by kernel_rfl) rfl ?_
                    refine WR.step (Ex.move rfl) (Wn.some rfl rfl rfl) rfl rfl ?_
                    refine WR.nil (WQ.any ?_)
                    refine WA.one (i := 24) (by kernel_rfl) rfl ?_
                    refine WR.step (Ex.idxStr Tryd.underlying9 rfl rfl (hx2)) (Wn.some rfl rfl rfl) rfl rfl ?_
                    refine WR.nil (WQ.any ?_)
                    refine WA.one (i := 25) (by kernel_rfl) rfl ?_
                    refine WR.split (Ex.lss rfl rfl) (Wn.some rfl rfl rfl) rfl rfl (fun h25_25 => ?_) (fun h25_25 => ?_)
                    ·
                      have hbad := vld_bad hne (hm.2 (by omega))
                      refine WR.nil (WQ.any ?_)
                      refine WA.one (i := 26) (by kernel_rfl) rfl ?_
                      refine WR.step (Ex.pickF rfl rfl) (Wn.none rfl) rfl rfl ?_
                      refine WR.nil (WQ.any ?_)
                      refine WA.one (i := 27) (by kernel_rfl) rfl ?_
                      refine WR.step (Ex.move rfl) (Wn.none rfl) rfl rfl ?_
                      refine WR.nil (WQ.any ?_)
                      refine WA.one (i := 28) (by kernel_rfl) rfl ?_
                      refine WR.skipG (b := true) rfl rfl rfl rfl rfl ?_
                      refine WR.nil (WQ.any ?_)
                      refine WA.one (i := 29) (by kernel_rfl) rfl ?_
                      refine WR.skipG (b := true) rfl rfl rfl rfl rfl ?_
                      refine WR.nil (WQ.any ?_)
                      refine WA.one (i := 30) (by kernel_rfl) rfl ?_
                      refine WR.skipG (b := true) rfl rfl rfl rfl rfl ?_
                      refine WR.nil (WQ.any ?_)
                      refine WA.one (i := 31) (by kernel_rfl) rfl ?_
                      refine WR.step (Ex.pickT rfl rfl) (Wn.none rfl) rfl rfl ?_
                      refine WR.nil (WQ.any ?_)
                      refine WA.one (i := 32) (by kernel_rfl) rfl ?_
                      refine WR.step (Ex.move rfl) (Wn.none rfl) rfl rfl ?_
                      refine WR.nil (WQ.any ?_)
                      refine WA.one (i := 33) (by kernel_rfl) rfl ?_
                      refine WR.skipG (b := true) rfl rfl rfl rfl rfl ?_
                      refine WR.nil (WQ.any ?_)
                      refine WA.one (i := 34) (by kernel_rfl) rfl ?_
                      refine WR.skipG (b := true) rfl rfl rfl rfl rfl ?_
                      refine WR.nil (WQ.any ?_)
                      refine WA.one (i := 35) (by kernel_rfl) rfl ?_
                      refine WR.skipG (b := true) rfl rfl rfl rfl rfl ?_
                      refine WR.nil (WQ.any ?_)
                      refine WA.one (i := 36) (by kernel_rfl) rfl ?_
                      refine WR.step (Ex.pickT rfl rfl) (Wn.none rfl) rfl rfl ?_
                      refine WR.nil (WQ.any ?_)
                      refine WA.done (by kernel_rfl) ?_
                      refine WQ.then ?_
                      refine WC.condT rfl ?_
                      refine WC.seq ?_
                      refine WC.region ?_
                      refine WR.step (Ex.assign rfl) (Wn.none rfl) rfl rfl ?_
                      refine WR.nil ?_
                      refine WQ.then ?_
                      refine WC.ret ?_
                      (repeat (first | refine WQ.thenRet ?_ | refine WQ.inBlockRet ?_))
                      refine WQ.ret1 rfl rfl H.ext ?_
                      exact by rw [hv, hbad]
                    ·
                      refine WR.nil (WQ.any ?_)
                      refine WA.one (i := 26) (by kernel_rfl) rfl ?_
                      refine WR.step (Ex.pickF rfl rfl) (Wn.none rfl) rfl rfl ?_
                      refine WR.nil (WQ.any ?_)
                      refine WA.one (i := 27) (by kernel_rfl) rfl ?_
                      refine WR.step (Ex.move rfl) (Wn.none rfl) rfl rfl ?_
                      refine WR.nil (WQ.any ?_)
                      refine WA.one (i := 28) (by kernel_rfl) rfl ?_
                      refine WR.step (Ex.move rfl) (Wn.some rfl rfl rfl) rfl rfl ?_
                      refine WR.nil (WQ.any ?_)
                      refine WA.one (i := 29) (by kernel_rfl) rfl ?_
                      refine WR.step (Ex.idxStr Tryd.underlying9 rfl rfl (hx3)) (Wn.some rfl rfl rfl) rfl rfl ?_
                      refine WR.nil (WQ.any ?_)
                      refine WA.one (i := 30) (by kernel_rfl) rfl ?_
                      refine WR.split (Ex.lss rfl rfl) (Wn.some rfl rfl rfl) rfl rfl (fun h25_30 => ?_) (fun h25_30 => ?_)
                      ·
                        have hbad := vld_bad hne (hm.2 (by omega))
                        refine WR.nil (WQ.any ?_)
                        refine WA.one (i := 31) (by kernel_rfl) rfl ?_
                        refine WR.step (Ex.pickF rfl rfl) (Wn.none rfl) rfl rfl ?_
                        refine WR.nil (WQ.any ?_)
                        refine WA.one (i := 32) (by kernel_rfl) rfl ?_
                        refine WR.step (Ex.move rfl) (Wn.none rfl) rfl rfl ?_
                        refine WR.nil (WQ.any ?_)
                        refine WA.one (i := 33) (by kernel_rfl) rfl ?_
                        refine WR.skipG (b := true) rfl rfl rfl rfl rfl ?_
                        refine WR.nil (WQ.any ?_)
                        refine WA.one (i := 34) (by kernel_rfl) rfl ?_
                        refine WR.skipG (b := true) rfl rfl rfl rfl rfl ?_
                        refine WR.nil (WQ.any ?_)
                        refine WA.one (i := 35) (by kernel_rfl) rfl ?_
                        refine WR.skipG (b := true) rfl rfl rfl rfl rfl ?_
                        refine WR.nil (WQ.any ?_)
                        refine WA.one (i := 36) (by kernel_rfl) rfl ?_
                        refine WR.step (Ex.pickT rfl rfl) (Wn.none rfl) rfl rfl ?_
                        refine WR.nil (WQ.any ?_)
                        refine WA.done (by kernel_rfl) ?_
                        refine WQ.then ?_
                        refine WC.condT rfl ?_
                        refine WC.seq ?_
                        refine WC.region ?_
                        refine WR.step (Ex.assign rfl) (Wn.none rfl) rfl rfl ?_
                        refine WR.nil ?_
                        refine WQ.then ?_
                        refine WC.ret ?_
                        (repeat (first | refine WQ.thenRet ?_ | refine WQ.inBlockRet ?_))
                        refine WQ.ret1 rfl rfl H.ext ?_
                        exact by rw [hv, hbad]
                      ·
                        refine WR.nil (WQ.any ?_)
                        refine WA.one (i := 31) (by kernel_rfl) rfl ?_
                        refine WR.step (Ex.pickF rfl rfl) (Wn.none rfl) rfl rfl ?_
                        refine WR.nil (WQ.any ?_)
                        refine WA.one (i := 32) (by kernel_rfl) rfl ?_
                        refine WR.step (Ex.move rfl) (Wn.none rfl) rfl rfl ?_
                        refine WR.nil (WQ.any ?_)
                        refine WA.one (i := 33) (by kernel_rfl) rfl ?_
                        refine WR.step (Ex.move rfl) (Wn.some rfl rfl rfl) rfl rfl ?_
                        refine WR.nil (WQ.any ?_)
                        refine WA.one (i := 34) (by kernel_rfl) rfl ?_
                        refine WR.step (Ex.idxStr Tryd.underlying9 rfl rfl (hx3)) (Wn.some rfl rfl rfl) rfl rfl ?_
                        refine WR.nil (WQ.any ?_)
                        refine WA.one (i := 35) (by kernel_rfl) rfl ?_
                        refine WR.split (Ex.lss rfl rfl) (Wn.some rfl rfl rfl) rfl rfl (fun h25_35 => ?_) (fun h25_35 => ?_)
                        ·
                          have hbad := vld_bad hne (hm.2 (by omega))
                          refine WR.nil (WQ.any ?_)
                          refine WA.one (i := 36) (by kernel_rfl) rfl ?_
                          refine WR.step (Ex.pickF rfl rfl) (Wn.none rfl) rfl rfl ?_
                          refine WR.nil (WQ.any ?_)
                          refine WA.done (by kernel_rfl) ?_
                          refine WQ.then ?_
                          refine WC.condT rfl ?_
                          refine WC.seq ?_
                          refine WC.region ?_
                          refine WR.step (Ex.assign rfl) (Wn.none rfl) rfl rfl ?_
                          refine WR.nil ?_
                          refine WQ.then ?_
                          refine WC.ret ?_
                          (repeat (first | refine WQ.thenRet ?_ | refine WQ.inBlockRet ?_))
                          refine WQ.ret1 rfl rfl H.ext ?_
                          exact by rw [hv, hbad]
                        ·
                          refine WR.nil (WQ.any ?_)
                          refine WA.one (i := 36) (by kernel_rfl) rfl ?_
                          refine WR.step (Ex.pickF rfl rfl) (Wn.none rfl) rfl rfl ?_
                          refine WR.nil (WQ.any ?_)
                          refine WA.done (by kernel_rfl) ?_
                          refine WQ.then ?_
                          refine WC.condF rfl ?_
                          refine WC.skip ?_
                          refine WQ.then ?_
                          refine WC.region ?_
                          refine WR.step (Ex.move rfl) (Wn.none rfl) rfl rfl ?_
                          refine WR.stepE (v' := S (t.drop 4)) (Ex.sliceStr (i := 4) (j := t.length) Tryd.underlying9 rfl (.inl ⟨_, rfl, rfl⟩) (.inr ⟨rfl, rfl⟩) (by omega) (by omega)) (by rw [List.take_length]) (Wn.none rfl) rfl rfl ?_
                          refine WR.step (Ex.assign rfl) (Wn.none rfl) rfl rfl ?_
                          refine WR.nil ?_
                          refine WQ.inBlock ?_
                          refine WQ.inBlock ?_
                          refine WQ.again1 (t.drop 4) ⟨rfl, trivial⟩ ?_ ?_
                          · exact ⟨by rw [List.length_drop]; omega, by rw [hv]; exact vld_good hne (hm.1 (by omega)), M, H.drop (List.nil_sublist _), hp⟩
                          · rw [List.length_drop]; omega
          ·
            have hbad := vld_bad hne (multi1 (t := t) (by omega) (by rw [hcn]; exact hc1 (by omega)))
            refine WR.step (Ex.assign rfl) (Wn.none rfl) rfl rfl ?_
            refine WR.nil ?_
            refine WQ.then ?_
            refine WC.condF rfl ?_
            refine WC.seq ?_
            refine WC.region ?_
            refine WR.step (Ex.assign rfl) (Wn.none rfl) rfl rfl ?_
            refine WR.nil ?_
            refine WQ.then ?_
            refine WC.ret ?_
            (repeat (first | refine WQ.thenRet ?_ | refine WQ.inBlockRet ?_))
            refine WQ.ret1 rfl rfl H.ext ?_
            exact by rw [hv, hbad]
  ·
    have hr : vld l = true := by rw [hv, List.eq_nil_of_length_eq_zero (show t.length = 0 by omega)]; rfl
    refine WR.nil ?_
    refine WQ.then ?_
    refine WC.condF rfl ?_
    refine WC.exit ?_
    refine WQ.thenExit ?_
    refine WQ.thenExit ?_
    refine WQ.exitHere ?_
    refine WQ.then ?_
    refine WC.seq ?_
    refine WC.region ?_
    refine WR.step (Ex.assign rfl) (Wn.none rfl) rfl rfl ?_
    refine WR.nil ?_
    refine WQ.then ?_
    refine WC.ret ?_
    (repeat (first | refine WQ.thenRet ?_ | refine WQ.inBlockRet ?_))
    refine WQ.ret1 rfl rfl H.ext ?_
    exact by rw [hr]

end Go.Proofs.YtnjglbmaonbcbaaDoor
