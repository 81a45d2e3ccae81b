/-
  Vst, Sts, Fnd, Cod, Rdc, Ren: own texts of this repository (wip/tpl, wip/plans), merged and shaken by wip/tools/pack.py.
-/
import Derived.KernelRfl
import Derived.Test.YtogkmhjnojphiaaGreatDoorE2b
set_option maxRecDepth 100000
section
set_option linter.unusedVariables false
set_option linter.unusedSimpArgs false
namespace Go.Proofs.YtogkmhjnojphiaaGreatDoor
open Go Go.RowKit Go.Ph
open Go.Ph.Gr Go.Ph.Utf Go.Ph.Chs
theorem word_spec (l : List UInt8) (hl : 8 ≤ l.length) : Ct Tryz.prog 78 [S l] (fun _ => True) (fun r _ => r = .int .u64 ((w8 l : Nat) : Int)) := by
  refine Ct.of Tryz.func78 (enters Tryz.func78 (by kernel_rfl) rfl) rfl rfl rfl ?_
  intro w0 M0 H hp
  obtain ⟨b0, hb0⟩ : ∃ u, l[0]? = some u := ⟨_, List.getElem?_eq_getElem (by omega)⟩
  have hlt0 := b0.toNat_lt
  have hn0 := nat_of hb0
  obtain ⟨b1, hb1⟩ : ∃ u, l[1]? = some u := ⟨_, List.getElem?_eq_getElem (by omega)⟩
  have hlt1 := b1.toNat_lt
  have hn1 := nat_of hb1
  obtain ⟨b2, hb2⟩ : ∃ u, l[2]? = some u := ⟨_, List.getElem?_eq_getElem (by omega)⟩
  have hlt2 := b2.toNat_lt
  have hn2 := nat_of hb2
  obtain ⟨b3, hb3⟩ : ∃ u, l[3]? = some u := ⟨_, List.getElem?_eq_getElem (by omega)⟩
  have hlt3 := b3.toNat_lt
  have hn3 := nat_of hb3
  obtain ⟨b4, hb4⟩ : ∃ u, l[4]? = some u := ⟨_, List.getElem?_eq_getElem (by omega)⟩
  have hlt4 := b4.toNat_lt
  have hn4 := nat_of hb4
  obtain ⟨b5, hb5⟩ : ∃ u, l[5]? = some u := ⟨_, List.getElem?_eq_getElem (by omega)⟩
  have hlt5 := b5.toNat_lt
  have hn5 := nat_of hb5
  obtain ⟨b6, hb6⟩ : ∃ u, l[6]? = some u := ⟨_, List.getElem?_eq_getElem (by omega)⟩
  have hlt6 := b6.toNat_lt
  have hn6 := nat_of hb6
  obtain ⟨b7, hb7⟩ : ∃ u, l[7]? = some u := ⟨_, List.getElem?_eq_getElem (by omega)⟩
  have hlt7 := b7.toNat_lt
  have hn7 := nat_of hb7
  have hw0 : b0.toNat < 2 ^ 64 := by omega
  have hs1 := shl64 (b := b1.toNat) (k := 8) hlt1 (by decide)
  have hw1 : b0.toNat ||| b1.toNat <<< 8 < 2 ^ 64 := Nat.or_lt_two_pow hw0 hs1.1
  have hs2 := shl64 (b := b2.toNat) (k := 16) hlt2 (by decide)
  have hw2 : b0.toNat ||| b1.toNat <<< 8 ||| b2.toNat <<< 16 < 2 ^ 64 := Nat.or_lt_two_pow hw1 hs2.1
  have hs3 := shl64 (b := b3.toNat) (k := 24) hlt3 (by decide)
  have hw3 : b0.toNat ||| b1.toNat <<< 8 ||| b2.toNat <<< 16 ||| b3.toNat <<< 24 < 2 ^ 64 := Nat.or_lt_two_pow hw2 hs3.1
  have hs4 := shl64 (b := b4.toNat) (k := 32) hlt4 (by decide)
  have hw4 : b0.toNat ||| b1.toNat <<< 8 ||| b2.toNat <<< 16 ||| b3.toNat <<< 24 ||| b4.toNat <<< 32 < 2 ^ 64 := Nat.or_lt_two_pow hw3 hs4.1
  have hs5 := shl64 (b := b5.toNat) (k := 40) hlt5 (by decide)
  have hw5 : b0.toNat ||| b1.toNat <<< 8 ||| b2.toNat <<< 16 ||| b3.toNat <<< 24 ||| b4.toNat <<< 32 ||| b5.toNat <<< 40 < 2 ^ 64 := Nat.or_lt_two_pow hw4 hs5.1
  have hs6 := shl64 (b := b6.toNat) (k := 48) hlt6 (by decide)
  have hw6 : b0.toNat ||| b1.toNat <<< 8 ||| b2.toNat <<< 16 ||| b3.toNat <<< 24 ||| b4.toNat <<< 32 ||| b5.toNat <<< 40 ||| b6.toNat <<< 48 < 2 ^ 64 := Nat.or_lt_two_pow hw5 hs6.1
  have hs7 := shl64 (b := b7.toNat) (k := 56) hlt7 (by decide)
  have hw7 : b0.toNat ||| b1.toNat <<< 8 ||| b2.toNat <<< 16 ||| b3.toNat <<< 24 ||| b4.toNat <<< 32 ||| b5.toNat <<< 40 ||| b6.toNat <<< 48 ||| b7.toNat <<< 56 < 2 ^ 64 := Nat.or_lt_two_pow hw6 hs7.1
  refine SQ (RG (AS rfl rfl (NL (TN (SQ (CF rfl (SK (TN (SQ (WC.draw (m := 39) rfl rfl H ?_))))))))))
  intro w H
  refine WA.take (i := 0) rfl (by kernel_rfl) (by kernel_rfl) (by kernel_rfl) (fun _ => Ex.move rfl) (Wn.none rfl) rfl rfl (fun _ _ => rfl) (WA.take (i := 1) rfl (by kernel_rfl) (by kernel_rfl) (by kernel_rfl) (fun _ => Ex.idxStr Tryz.underlying9 rfl rfl (hb0)) (Wn.none rfl) rfl rfl (fun _ _ => rfl) (WA.take (i := 2) rfl (by kernel_rfl) (by kernel_rfl) (by kernel_rfl) (fun _ => Ex.convU64 Tryz.underlying5 Tryz.underlying151 rfl (by omega)) (Wn.none rfl) rfl rfl (fun _ _ => rfl) ?_))
  refine WA.take (i := 3) rfl (by kernel_rfl) (by kernel_rfl) (by kernel_rfl) (fun _ => Ex.move rfl) (Wn.none rfl) rfl rfl (fun _ _ => rfl) (WA.take (i := 4) rfl (by kernel_rfl) (by kernel_rfl) (by kernel_rfl) (fun _ => Ex.idxStr Tryz.underlying9 rfl rfl (hb1)) (Wn.none rfl) rfl rfl (fun _ _ => rfl) (WA.take (i := 5) rfl (by kernel_rfl) (by kernel_rfl) (by kernel_rfl) (fun _ => Ex.convU64 Tryz.underlying5 Tryz.underlying151 rfl (by omega)) (Wn.none rfl) rfl rfl (fun _ _ => rfl) ?_))
  refine WA.takeE (v' := .int .u64 ((b1.toNat <<< 8 : Nat) : Int)) (i := 6) rfl (by kernel_rfl) (by kernel_rfl) (by kernel_rfl) (fun _ => Ex.shlK (m := b1.toNat) (s := 8) rfl rfl (by decide)) (congrArg (Value.int .u64) hs1.2) (Wn.none rfl) rfl rfl (fun _ _ => rfl) (WA.takeE (v' := .int .u64 ((b0.toNat ||| b1.toNat <<< 8 : Nat) : Int)) (i := 7) rfl (by kernel_rfl) (by kernel_rfl) (by kernel_rfl) (fun _ => Ex.orK (m := (b0.toNat)) (s := (b1.toNat <<< 8)) rfl rfl hw0 hs1.1) (congrArg (Value.int .u64) (or64 hw0 hs1.1)) (Wn.none rfl) rfl rfl (fun _ _ => rfl) (WA.take (i := 8) rfl (by kernel_rfl) (by kernel_rfl) (by kernel_rfl) (fun _ => Ex.move rfl) (Wn.none rfl) rfl rfl (fun _ _ => rfl) (WA.take (i := 9) rfl (by kernel_rfl) (by kernel_rfl) (by kernel_rfl) (fun _ => Ex.idxStr Tryz.underlying9 rfl rfl (hb2)) (Wn.none rfl) rfl rfl (fun _ _ => rfl) (WA.take (i := 10) rfl (by kernel_rfl) (by kernel_rfl) (by kernel_rfl) (fun _ => Ex.convU64 Tryz.underlying5 Tryz.underlying151 rfl (by omega)) (Wn.none rfl) rfl rfl (fun _ _ => rfl) ?_))))
  refine WA.takeE (v' := .int .u64 ((b2.toNat <<< 16 : Nat) : Int)) (i := 11) rfl (by kernel_rfl) (by kernel_rfl) (by kernel_rfl) (fun _ => Ex.shlK (m := b2.toNat) (s := 16) rfl rfl (by decide)) (congrArg (Value.int .u64) hs2.2) (Wn.none rfl) rfl rfl (fun _ _ => rfl) (WA.takeE (v' := .int .u64 ((b0.toNat ||| b1.toNat <<< 8 ||| b2.toNat <<< 16 : Nat) : Int)) (i := 12) rfl (by kernel_rfl) (by kernel_rfl) (by kernel_rfl) (fun _ => Ex.orK (m := (b0.toNat ||| b1.toNat <<< 8)) (s := (b2.toNat <<< 16)) rfl rfl hw1 hs2.1) (congrArg (Value.int .u64) (or64 hw1 hs2.1)) (Wn.none rfl) rfl rfl (fun _ _ => rfl) (WA.take (i := 13) rfl (by kernel_rfl) (by kernel_rfl) (by kernel_rfl) (fun _ => Ex.move rfl) (Wn.none rfl) rfl rfl (fun _ _ => rfl) (WA.take (i := 14) rfl (by kernel_rfl) (by kernel_rfl) (by kernel_rfl) (fun _ => Ex.idxStr Tryz.underlying9 rfl rfl (hb3)) (Wn.none rfl) rfl rfl (fun _ _ => rfl) (WA.take (i := 15) rfl (by kernel_rfl) (by kernel_rfl) (by kernel_rfl) (fun _ => Ex.convU64 Tryz.underlying5 Tryz.underlying151 rfl (by omega)) (Wn.none rfl) rfl rfl (fun _ _ => rfl) ?_))))
  refine WA.takeE (v' := .int .u64 ((b3.toNat <<< 24 : Nat) : Int)) (i := 16) rfl (by kernel_rfl) (by kernel_rfl) (by kernel_rfl) (fun _ => Ex.shlK (m := b3.toNat) (s := 24) rfl rfl (by decide)) (congrArg (Value.int .u64) hs3.2) (Wn.none rfl) rfl rfl (fun _ _ => rfl) (WA.takeE (v' := .int .u64 ((b0.toNat ||| b1.toNat <<< 8 ||| b2.toNat <<< 16 ||| b3.toNat <<< 24 : Nat) : Int)) (i := 17) rfl (by kernel_rfl) (by kernel_rfl) (by kernel_rfl) (fun _ => Ex.orK (m := (b0.toNat ||| b1.toNat <<< 8 ||| b2.toNat <<< 16)) (s := (b3.toNat <<< 24)) rfl rfl hw2 hs3.1) (congrArg (Value.int .u64) (or64 hw2 hs3.1)) (Wn.none rfl) rfl rfl (fun _ _ => rfl) (WA.take (i := 18) rfl (by kernel_rfl) (by kernel_rfl) (by kernel_rfl) (fun _ => Ex.move rfl) (Wn.none rfl) rfl rfl (fun _ _ => rfl) (WA.take (i := 19) rfl (by kernel_rfl) (by kernel_rfl) (by kernel_rfl) (fun _ => Ex.idxStr Tryz.underlying9 rfl rfl (hb4)) (Wn.none rfl) rfl rfl (fun _ _ => rfl) ?_)))
  refine WA.take (i := 20) rfl (by kernel_rfl) (by kernel_rfl) (by kernel_rfl) (fun _ => Ex.convU64 Tryz.underlying5 Tryz.underlying151 rfl (by omega)) (Wn.none rfl) rfl rfl (fun _ _ => rfl) ?_
  refine WA.takeE (v' := .int .u64 ((b4.toNat <<< 32 : Nat) : Int)) (i := 21) rfl (by kernel_rfl) (by kernel_rfl) (by kernel_rfl) (fun _ => Ex.shlK (m := b4.toNat) (s := 32) rfl rfl (by decide)) (congrArg (Value.int .u64) hs4.2) (Wn.none rfl) rfl rfl (fun _ _ => rfl) (WA.takeE (v' := .int .u64 ((b0.toNat ||| b1.toNat <<< 8 ||| b2.toNat <<< 16 ||| b3.toNat <<< 24 ||| b4.toNat <<< 32 : Nat) : Int)) (i := 22) rfl (by kernel_rfl) (by kernel_rfl) (by kernel_rfl) (fun _ => Ex.orK (m := (b0.toNat ||| b1.toNat <<< 8 ||| b2.toNat <<< 16 ||| b3.toNat <<< 24)) (s := (b4.toNat <<< 32)) rfl rfl hw3 hs4.1) (congrArg (Value.int .u64) (or64 hw3 hs4.1)) (Wn.none rfl) rfl rfl (fun _ _ => rfl) (WA.take (i := 23) rfl (by kernel_rfl) (by kernel_rfl) (by kernel_rfl) (fun _ => Ex.move rfl) (Wn.none rfl) rfl rfl (fun _ _ => rfl) (WA.take (i := 24) rfl (by kernel_rfl) (by kernel_rfl) (by kernel_rfl) (fun _ => Ex.idxStr Tryz.underlying9 rfl rfl (hb5)) (Wn.none rfl) rfl rfl (fun _ _ => rfl) ?_)))
  refine WA.take (i := 25) rfl (by kernel_rfl) (by kernel_rfl) (by kernel_rfl) (fun _ => Ex.convU64 Tryz.underlying5 Tryz.underlying151 rfl (by omega)) (Wn.none rfl) rfl rfl (fun _ _ => rfl) ?_
  refine WA.takeE (v' := .int .u64 ((b5.toNat <<< 40 : Nat) : Int)) (i := 26) rfl (by kernel_rfl) (by kernel_rfl) (by kernel_rfl) (fun _ => Ex.shlK (m := b5.toNat) (s := 40) rfl rfl (by decide)) (congrArg (Value.int .u64) hs5.2) (Wn.none rfl) rfl rfl (fun _ _ => rfl) (WA.takeE (v' := .int .u64 ((b0.toNat ||| b1.toNat <<< 8 ||| b2.toNat <<< 16 ||| b3.toNat <<< 24 ||| b4.toNat <<< 32 ||| b5.toNat <<< 40 : Nat) : Int)) (i := 27) rfl (by kernel_rfl) (by kernel_rfl) (by kernel_rfl) (fun _ => Ex.orK (m := (b0.toNat ||| b1.toNat <<< 8 ||| b2.toNat <<< 16 ||| b3.toNat <<< 24 ||| b4.toNat <<< 32)) (s := (b5.toNat <<< 40)) rfl rfl hw4 hs5.1) (congrArg (Value.int .u64) (or64 hw4 hs5.1)) (Wn.none rfl) rfl rfl (fun _ _ => rfl) (WA.take (i := 28) rfl (by kernel_rfl) (by kernel_rfl) (by kernel_rfl) (fun _ => Ex.move rfl) (Wn.none rfl) rfl rfl (fun _ _ => rfl) (WA.take (i := 29) rfl (by kernel_rfl) (by kernel_rfl) (by kernel_rfl) (fun _ => Ex.idxStr Tryz.underlying9 rfl rfl (hb6)) (Wn.none rfl) rfl rfl (fun _ _ => rfl) ?_)))
  refine WA.take (i := 30) rfl (by kernel_rfl) (by kernel_rfl) (by kernel_rfl) (fun _ => Ex.convU64 Tryz.underlying5 Tryz.underlying151 rfl (by omega)) (Wn.none rfl) rfl rfl (fun _ _ => rfl) ?_
  refine WA.takeE (v' := .int .u64 ((b6.toNat <<< 48 : Nat) : Int)) (i := 31) rfl (by kernel_rfl) (by kernel_rfl) (by kernel_rfl) (fun _ => Ex.shlK (m := b6.toNat) (s := 48) rfl rfl (by decide)) (congrArg (Value.int .u64) hs6.2) (Wn.none rfl) rfl rfl (fun _ _ => rfl) (WA.takeE (v' := .int .u64 ((b0.toNat ||| b1.toNat <<< 8 ||| b2.toNat <<< 16 ||| b3.toNat <<< 24 ||| b4.toNat <<< 32 ||| b5.toNat <<< 40 ||| b6.toNat <<< 48 : Nat) : Int)) (i := 32) rfl (by kernel_rfl) (by kernel_rfl) (by kernel_rfl) (fun _ => Ex.orK (m := (b0.toNat ||| b1.toNat <<< 8 ||| b2.toNat <<< 16 ||| b3.toNat <<< 24 ||| b4.toNat <<< 32 ||| b5.toNat <<< 40)) (s := (b6.toNat <<< 48)) rfl rfl hw5 hs6.1) (congrArg (Value.int .u64) (or64 hw5 hs6.1)) (Wn.none rfl) rfl rfl (fun _ _ => rfl) (ON 33 (by kernel_rfl) rfl (MV rfl rfl (NA (ON 34 (by kernel_rfl) rfl (ST (Ex.idxStr Tryz.underlying9 rfl rfl (hb7)) rfl (NA (ON 35 (by kernel_rfl) rfl ?_))))))))
  refine ST (Ex.convU64 Tryz.underlying5 Tryz.underlying151 rfl (by omega)) rfl ?_
  refine NA (ON 36 (by kernel_rfl) rfl (WR.stepE (v' := .int .u64 ((b7.toNat <<< 56 : Nat) : Int)) (Ex.shlK (m := b7.toNat) (s := 56) rfl rfl (by decide)) (congrArg (Value.int .u64) hs7.2) (Wn.none rfl) rfl rfl (NA (ON 37 (by kernel_rfl) rfl (WR.stepE (v' := .int .u64 ((b0.toNat ||| b1.toNat <<< 8 ||| b2.toNat <<< 16 ||| b3.toNat <<< 24 ||| b4.toNat <<< 32 ||| b5.toNat <<< 40 ||| b6.toNat <<< 48 ||| b7.toNat <<< 56 : Nat) : Int)) (Ex.orK (m := (b0.toNat ||| b1.toNat <<< 8 ||| b2.toNat <<< 16 ||| b3.toNat <<< 24 ||| b4.toNat <<< 32 ||| b5.toNat <<< 40 ||| b6.toNat <<< 48)) (s := (b7.toNat <<< 56)) rfl rfl hw6 hs7.1) (congrArg (Value.int .u64) (or64 hw6 hs7.1)) (Wn.none rfl) rfl rfl (NA (ON 38 (by kernel_rfl) rfl (AS rfl rfl (NA (WA.done (by kernel_rfl) (TN (RT ?_))))))))))))
  refine WQ.ret1 rfl rfl H.ext ?_
  exact by unfold w8; rw [hn0, hn1, hn2, hn3, hn4, hn5, hn6, hn7]
theorem tab_acc {w : World} (h : Lib.Utf8Tabs 0 1 w) {ai lo hi : Nat} (ha : ai < 16) (hlo : Lib.accLo ai = lo) (hhi : Lib.accHi ai = hi) : ∀ j u, ([.int .u8 ((lo : Nat) : Int), .int .u8 ((hi : Nat) : Int)] : List Value)[j]? = some u → w.cell? ⟨1, 2 * ai + j, none⟩ = some u := by
  obtain ⟨h1, h2⟩ := h.2 ai ha
  rw [hlo] at h1
  rw [hhi] at h2
  intro j u hj
  rcases j with _ | _ | j
  · cases hj; exact h1
  · cases hj; exact h2
  · simp at hj
theorem validString_spec (l : List UInt8) (hs : l.length ≤ 4611686018427387904) : Ct Tryz.prog 38 [S l] (fun M => Tabs M) (fun r _ => r = .bool (vld l)) := by
  refine Ct.of Tryz.func38 (enters Tryz.func38 (by kernel_rfl) rfl) rfl rfl rfl ?_
  intro w0 M0 H hp
  refine SQ (RG (AS rfl rfl (NL (TN (SQ (BL (WC.loop1 (fun (t : List UInt8) => [(0, S t)]) (fun (t : List UInt8) w => t.length ≤ l.length ∧ vld l = vld t ∧ ∃ M, St w0 M0 M [] w ∧ Tabs M) (fun (t : List UInt8) => t.length) (l) ⟨rfl, trivial⟩ (⟨Nat.le_refl _, rfl, M0, H, hp⟩) ?_)))))))
  intro t w
  rintro ⟨htl, hv, M, H, hp⟩
  refine SQ (SQ (RG (MV rfl rfl (ST (Ex.lenStr Tryz.underlying9 rfl) rfl ?_))))
  refine WR.split (Ex.gtr rfl rfl) (Wn.none rfl) rfl rfl (fun h1_2 => ?_) (fun h1_2 => ?_)
  · have hne : t ≠ [] := by rintro rfl; simp at h1_2
    obtain ⟨c, hc⟩ : ∃ c, t[0]? = some c := ⟨_, List.getElem?_eq_getElem (by omega)⟩
    have hcn := nat_of hc
    have hclt := c.toNat_lt
    refine NL (TN (CT rfl (SK (TN (BL (SQ (RG (MV rfl rfl (ST (Ex.idxStr Tryz.underlying9 rfl rfl (hc)) rfl (AS rfl rfl (NL (TN (SQ (SQ (RG (MV rfl rfl ?_))))))))))))))))
    refine WR.split (Ex.lss rfl rfl) (Wn.none rfl) rfl rfl (fun h3_1 => ?_) (fun h3_1 => ?_)
    · have hc128 : nat t 0 < 128 := by omega
      refine NL (TN (CT rfl (SQ (RG (MV rfl rfl (WR.stepE (v' := S (t.drop 1)) (Ex.sliceStr (i := 1) (j := t.length) Tryz.underlying9 rfl (.inl ⟨_, rfl, rfl⟩) (.inr ⟨rfl, rfl⟩) (by omega) (by omega)) (by rw [List.take_length]) (Wn.none rfl) rfl rfl ?_))))))
      refine AS rfl rfl (NL (TN (SQ (SQ (RG ?_)))))
      obtain ⟨u, hu⟩ : ∃ u, u = t.drop 1 := ⟨_, rfl⟩
      rw [← hu]
      have hv1 := vld_ascii hne hc128
      rw [← hu] at hv1
      have hul : u.length = t.length - 1 := by rw [hu, List.length_drop]
      refine MV rfl rfl (ST (Ex.lenStr Tryz.underlying9 rfl) rfl ?_)
      refine WR.split (Ex.gtr rfl rfl) (Wn.none rfl) rfl rfl (fun h5_2 => ?_) (fun h5_2 => ?_)
      · refine MV rfl rfl (SG (Ex.move rfl) rfl rfl rfl (WR.call H (word_spec u (by omega)) rfl (trivial) (Wn.some rfl rfl rfl) rfl ?_))
        intro v21 M w H hle hr21
        replace hp := hp.mono hle
        obtain rfl := hr21
        refine WR.stepE (v' := .int .u64 ((w8 u) &&& 9259542123273814144 : Nat)) (Ex.andK (m := (w8 u)) (s := 9259542123273814144) rfl rfl (w8_lt u) (by decide)) (congrArg (Value.int .u64) (and64 (w8_lt u))) (Wn.some rfl rfl rfl) rfl rfl ?_
        refine WR.split (Ex.eql rfl rfl) (Wn.some rfl rfl rfl) rfl rfl (fun h5_7 => ?_) (fun h5_7 => ?_)
        · have h8 : ∀ i, i < 8 → nat u i < 128 := w8_small (x := 0) (by rw [Nat.or_zero]; omega)
          have hv8 := vld_asciis 8 u (by omega) h8
          refine PT rfl rfl rfl (NL (TN (CT rfl (SQ (RG (MV rfl rfl (WR.stepE (v' := S (u.drop 8)) (Ex.sliceStr (i := 8) (j := u.length) Tryz.underlying9 rfl (.inl ⟨_, rfl, rfl⟩) (.inr ⟨rfl, rfl⟩) (by omega) (by omega)) (by rw [List.take_length]) (Wn.none rfl) rfl rfl ?_)))))))
          obtain ⟨u2, hu2⟩ : ∃ u2, u2 = u.drop 8 := ⟨_, rfl⟩
          rw [← hu2]
          have hul2 : u2.length = u.length - 8 := by rw [hu2, List.length_drop]
          refine AS rfl rfl (NL (TN (SQ (WC.draw (m := 13) rfl rfl H ?_))))
          intro w H
          refine ON 0 (by kernel_rfl) rfl (MV rfl rfl (NA (ON 1 (by kernel_rfl) rfl (ST (Ex.lenStr Tryz.underlying9 rfl) rfl (NA (ON 2 (by kernel_rfl) rfl ?_))))))
          refine WR.split (Ex.gtr rfl rfl) (Wn.none rfl) rfl rfl (fun h7_2 => ?_) (fun h7_2 => ?_)
          · refine NA (ON 3 (by kernel_rfl) rfl (MV rfl rfl (NA (WA.take (i := 4) rfl (by kernel_rfl) (by kernel_rfl) (by kernel_rfl) (fun _ => Ex.move rfl) (Wn.some rfl rfl rfl) rfl rfl (fun _ _ => rfl) (WA.take (i := 6) rfl (by kernel_rfl) (by kernel_rfl) (by kernel_rfl) (fun _ => Ex.move rfl) (Wn.some rfl rfl rfl) rfl rfl (fun _ _ => rfl) (WA.takeE (v' := S (u2.drop 8)) (i := 7) rfl (by kernel_rfl) (by kernel_rfl) (by kernel_rfl) (fun _ => Ex.sliceStr (i := 8) (j := u2.length) Tryz.underlying9 rfl (.inl ⟨_, rfl, rfl⟩) (.inr ⟨rfl, rfl⟩) (by omega) (by omega)) (by rw [List.take_length]) (Wn.some rfl rfl rfl) rfl rfl (fun _ _ => rfl) ?_))))))
            refine ON 5 (by kernel_rfl) rfl (WR.call H (word_spec u2 (by omega)) rfl (trivial) (Wn.some rfl rfl rfl) rfl ?_)
            intro v32 M w H hle hr32
            replace hp := hp.mono hle
            obtain rfl := hr32
            refine NA (ON 8 (by kernel_rfl) rfl (WR.call H (word_spec (u2.drop 8) (by rw [List.length_drop]; omega)) rfl (trivial) (Wn.some rfl rfl rfl) rfl ?_))
            intro v35 M w H hle hr35
            replace hp := hp.mono hle
            obtain rfl := hr35
            refine NA (ON 9 (by kernel_rfl) rfl (WR.stepE (v' := .int .u64 ((w8 u2) ||| (w8 (u2.drop 8)) : Nat)) (Ex.orK (m := (w8 u2)) (s := (w8 (u2.drop 8))) rfl rfl (w8_lt u2) (w8_lt (u2.drop 8))) (congrArg (Value.int .u64) (or64 (w8_lt u2) (w8_lt (u2.drop 8)))) (Wn.some rfl rfl rfl) rfl rfl (NA (ON 10 (by kernel_rfl) rfl (WR.stepE (v' := .int .u64 ((w8 u2 ||| w8 (u2.drop 8)) &&& 9259542123273814144 : Nat)) (Ex.andK (m := (w8 u2 ||| w8 (u2.drop 8))) (s := 9259542123273814144) rfl rfl (Nat.or_lt_two_pow (w8_lt u2) (w8_lt (u2.drop 8))) (by decide)) (congrArg (Value.int .u64) (and64 (Nat.or_lt_two_pow (w8_lt u2) (w8_lt (u2.drop 8))))) (Wn.some rfl rfl rfl) rfl rfl (NA (ON 11 (by kernel_rfl) rfl ?_)))))))
            refine WR.split (Ex.eql rfl rfl) (Wn.some rfl rfl rfl) rfl rfl (fun h7_11 => ?_) (fun h7_11 => ?_)
            · have ha := w8_small (l := u2) (x := w8 (u2.drop 8)) (by omega)
              have hb := w8_small (l := u2.drop 8) (x := w8 u2) (by rw [Nat.or_comm]; omega)
              have hv16 := (vld_asciis 8 u2 (by omega) ha).trans (vld_asciis 8 (u2.drop 8) (by rw [List.length_drop]; omega) hb)
              rw [List.drop_drop] at hv16
              refine NA (ON 12 (by kernel_rfl) rfl (PT rfl rfl rfl (NA (WA.done (by kernel_rfl) (TN (CT rfl (SQ (RG (MV rfl rfl (WR.stepE (v' := S (u2.drop 16)) (Ex.sliceStr (i := 16) (j := u2.length) Tryz.underlying9 rfl (.inl ⟨_, rfl, rfl⟩) (.inr ⟨rfl, rfl⟩) (by omega) (by omega)) (by rw [List.take_length]) (Wn.none rfl) rfl rfl ?_))))))))))
              refine AS rfl rfl (NL (TN (BL (WC.loop1 (fun (x : List UInt8) => [(0, S x)]) (fun (x : List UInt8) w => x.length < t.length ∧ vld l = vld x ∧ ∃ M, St w0 M0 M [] w ∧ Tabs M) (fun (x : List UInt8) => x.length) (u2.drop 16) ⟨rfl, trivial⟩ (⟨by rw [List.length_drop, hu2, hu, List.length_drop, List.length_drop]; omega, by rw [hv, hv1, hv8, ← hu2, hv16], M, H, hp⟩) ?_))))
              intro x w
              rintro ⟨hxt, hvx, M, H, hp⟩
              refine SQ (SQ (WC.draw (m := 21) rfl rfl H ?_))
              intro w H
              refine ON 0 (by kernel_rfl) rfl (MV rfl rfl (NA (ON 1 (by kernel_rfl) rfl (ST (Ex.lenStr Tryz.underlying9 rfl) rfl (NA (ON 2 (by kernel_rfl) rfl ?_))))))
              refine WR.split (Ex.gtr rfl rfl) (Wn.none rfl) rfl rfl (fun h9_2 => ?_) (fun h9_2 => ?_)
              · refine NA (ON 3 (by kernel_rfl) rfl (MV rfl rfl (NA (WA.take (i := 4) rfl (by kernel_rfl) (by kernel_rfl) (by kernel_rfl) (fun _ => Ex.move rfl) (Wn.some rfl rfl rfl) rfl rfl (fun _ _ => rfl) (WA.take (i := 6) rfl (by kernel_rfl) (by kernel_rfl) (by kernel_rfl) (fun _ => Ex.move rfl) (Wn.some rfl rfl rfl) rfl rfl (fun _ _ => rfl) (WA.takeE (v' := S (x.drop 8)) (i := 7) rfl (by kernel_rfl) (by kernel_rfl) (by kernel_rfl) (fun _ => Ex.sliceStr (i := 8) (j := x.length) Tryz.underlying9 rfl (.inl ⟨_, rfl, rfl⟩) (.inr ⟨rfl, rfl⟩) (by omega) (by omega)) (by rw [List.take_length]) (Wn.some rfl rfl rfl) rfl rfl (fun _ _ => rfl) ?_))))))
                refine WA.take (i := 10) rfl (by kernel_rfl) (by kernel_rfl) (by kernel_rfl) (fun _ => Ex.move rfl) (Wn.some rfl rfl rfl) rfl rfl (fun _ _ => rfl) (WA.takeE (v' := S (x.drop 16)) (i := 11) rfl (by kernel_rfl) (by kernel_rfl) (by kernel_rfl) (fun _ => Ex.sliceStr (i := 16) (j := x.length) Tryz.underlying9 rfl (.inl ⟨_, rfl, rfl⟩) (.inr ⟨rfl, rfl⟩) (by omega) (by omega)) (by rw [List.take_length]) (Wn.some rfl rfl rfl) rfl rfl (fun _ _ => rfl) ?_)
                refine WA.take (i := 13) rfl (by kernel_rfl) (by kernel_rfl) (by kernel_rfl) (fun _ => Ex.move rfl) (Wn.some rfl rfl rfl) rfl rfl (fun _ _ => rfl) (WA.takeE (v' := S (x.drop 24)) (i := 14) rfl (by kernel_rfl) (by kernel_rfl) (by kernel_rfl) (fun _ => Ex.sliceStr (i := 24) (j := x.length) Tryz.underlying9 rfl (.inl ⟨_, rfl, rfl⟩) (.inr ⟨rfl, rfl⟩) (by omega) (by omega)) (by rw [List.take_length]) (Wn.some rfl rfl rfl) rfl rfl (fun _ _ => rfl) ?_)
                refine ON 5 (by kernel_rfl) rfl (WR.call H (word_spec x (by omega)) rfl (trivial) (Wn.some rfl rfl rfl) rfl ?_)
                intro v47 M w H hle hr47
                replace hp := hp.mono hle
                obtain rfl := hr47
                refine NA (ON 8 (by kernel_rfl) rfl (WR.call H (word_spec (x.drop 8) (by rw [List.length_drop]; omega)) rfl (trivial) (Wn.some rfl rfl rfl) rfl ?_))
                intro v50 M w H hle hr50
                replace hp := hp.mono hle
                obtain rfl := hr50
                refine NA (WA.takeE (v' := .int .u64 ((w8 x) ||| (w8 (x.drop 8)) : Nat)) (i := 9) rfl (by kernel_rfl) (by kernel_rfl) (by kernel_rfl) (fun _ => Ex.orK (m := (w8 x)) (s := (w8 (x.drop 8))) rfl rfl (w8_lt x) (w8_lt (x.drop 8))) (congrArg (Value.int .u64) (or64 (w8_lt x) (w8_lt (x.drop 8)))) (Wn.some rfl rfl rfl) rfl rfl (fun _ _ => rfl) (ON 12 (by kernel_rfl) rfl (WR.call H (word_spec (x.drop 16) (by rw [List.length_drop]; omega)) rfl (trivial) (Wn.some rfl rfl rfl) rfl ?_)))
                intro v54 M w H hle hr54
                replace hp := hp.mono hle
                obtain rfl := hr54
                refine NA (ON 15 (by kernel_rfl) rfl (WR.call H (word_spec (x.drop 24) (by rw [List.length_drop]; omega)) rfl (trivial) (Wn.some rfl rfl rfl) rfl ?_))
                intro v57 M w H hle hr57
                replace hp := hp.mono hle
                obtain rfl := hr57
                refine NA (ON 16 (by kernel_rfl) rfl (WR.stepE (v' := .int .u64 ((w8 (x.drop 16)) ||| (w8 (x.drop 24)) : Nat)) (Ex.orK (m := (w8 (x.drop 16))) (s := (w8 (x.drop 24))) rfl rfl (w8_lt (x.drop 16)) (w8_lt (x.drop 24))) (congrArg (Value.int .u64) (or64 (w8_lt (x.drop 16)) (w8_lt (x.drop 24)))) (Wn.some rfl rfl rfl) rfl rfl (NA (ON 17 (by kernel_rfl) rfl (WR.stepE (v' := .int .u64 ((w8 x ||| w8 (x.drop 8)) ||| (w8 (x.drop 16) ||| w8 (x.drop 24)) : Nat)) (Ex.orK (m := (w8 x ||| w8 (x.drop 8))) (s := (w8 (x.drop 16) ||| w8 (x.drop 24))) rfl rfl (Nat.or_lt_two_pow (w8_lt x) (w8_lt (x.drop 8))) (Nat.or_lt_two_pow (w8_lt (x.drop 16)) (w8_lt (x.drop 24)))) (congrArg (Value.int .u64) (or64 (Nat.or_lt_two_pow (w8_lt x) (w8_lt (x.drop 8))) (Nat.or_lt_two_pow (w8_lt (x.drop 16)) (w8_lt (x.drop 24))))) (Wn.some rfl rfl rfl) rfl rfl (NA (ON 18 (by kernel_rfl) rfl (WR.stepE (v' := .int .u64 (((w8 x ||| w8 (x.drop 8)) ||| (w8 (x.drop 16) ||| w8 (x.drop 24))) &&& 9259542123273814144 : Nat)) (Ex.andK (m := ((w8 x ||| w8 (x.drop 8)) ||| (w8 (x.drop 16) ||| w8 (x.drop 24)))) (s := 9259542123273814144) rfl rfl (Nat.or_lt_two_pow (Nat.or_lt_two_pow (w8_lt x) (w8_lt (x.drop 8))) (Nat.or_lt_two_pow (w8_lt (x.drop 16)) (w8_lt (x.drop 24)))) (by decide)) (congrArg (Value.int .u64) (and64 (Nat.or_lt_two_pow (Nat.or_lt_two_pow (w8_lt x) (w8_lt (x.drop 8))) (Nat.or_lt_two_pow (w8_lt (x.drop 16)) (w8_lt (x.drop 24)))))) (Wn.some rfl rfl rfl) rfl rfl ?_))))))))
                refine NA (ON 19 (by kernel_rfl) rfl ?_)
                refine WR.split (Ex.eql rfl rfl) (Wn.some rfl rfl rfl) rfl rfl (fun h9_19 => ?_) (fun h9_19 => ?_)
                · have h1 := w8_small (l := x) (x := w8 (x.drop 8) ||| (w8 (x.drop 16) ||| w8 (x.drop 24))) (by rw [← Nat.or_assoc]; omega)
                  have h2 := w8_small (l := x.drop 8) (x := w8 x ||| (w8 (x.drop 16) ||| w8 (x.drop 24))) (by rw [← Nat.or_assoc, Nat.or_comm (w8 (x.drop 8))]; omega)
                  have h3 := w8_small (l := x.drop 16) (x := w8 (x.drop 24) ||| (w8 x ||| w8 (x.drop 8))) (by rw [← Nat.or_assoc, Nat.or_comm (w8 (x.drop 16) ||| w8 (x.drop 24))]; omega)
                  have h4 := w8_small (l := x.drop 24) (x := w8 (x.drop 16) ||| (w8 x ||| w8 (x.drop 8))) (by rw [← Nat.or_assoc, Nat.or_comm (w8 (x.drop 24)), Nat.or_comm (w8 (x.drop 16) ||| w8 (x.drop 24))]; omega)
                  have hv32 := vld_32 (by omega) h1 h2 h3 h4
                  refine NA (ON 20 (by kernel_rfl) rfl (PT rfl rfl rfl (NA (WA.done (by kernel_rfl) (TN (CT rfl (SK (TN (BL (RG (MV rfl rfl (WR.stepE (v' := S (x.drop 32)) (Ex.sliceStr (i := 32) (j := x.length) Tryz.underlying9 rfl (.inl ⟨_, rfl, rfl⟩) (.inr ⟨rfl, rfl⟩) (by omega) (by omega)) (by rw [List.take_length]) (Wn.none rfl) rfl rfl ?_))))))))))))
                  refine AS rfl rfl (NL (IB ?_))
                  refine WQ.again1 (x.drop 32) ⟨rfl, trivial⟩ ?_ ?_
                  · exact ⟨by rw [List.length_drop]; omega, hvx.trans hv32, M, H, hp⟩
                  · rw [List.length_drop]; omega
                · refine NA (ON 20 (by kernel_rfl) rfl (PT rfl rfl rfl (NA (WA.done (by kernel_rfl) (TN (CF rfl (WC.exit (WQ.thenExit (WQ.thenExit (WQ.exitHere (TN (WC.exit (WQ.thenExit (WQ.exitHere ?_))))))))))))))
                  refine WQ.again1 (x) ⟨rfl, trivial⟩ ?_ ?_
                  · exact ⟨by omega, hvx, M, H.drop (List.nil_sublist _), hp⟩
                  · omega
              · refine NA (ON 3 (by kernel_rfl) rfl (MV rfl rfl (NA (WA.takeN (i := 4) rfl (by kernel_rfl) (by kernel_rfl) (by kernel_rfl) (wanted_g (b := false) rfl rfl rfl) rfl rfl (fun _ _ => rfl) (WA.takeN (i := 6) rfl (by kernel_rfl) (by kernel_rfl) (by kernel_rfl) (wanted_g (b := false) rfl rfl rfl) rfl rfl (fun _ _ => rfl) (WA.takeN (i := 7) rfl (by kernel_rfl) (by kernel_rfl) (by kernel_rfl) (wanted_g (b := false) rfl rfl rfl) rfl rfl (fun _ _ => rfl) (WA.takeN (i := 10) rfl (by kernel_rfl) (by kernel_rfl) (by kernel_rfl) (wanted_g (b := false) rfl rfl rfl) rfl rfl (fun _ _ => rfl) (WA.takeN (i := 11) rfl (by kernel_rfl) (by kernel_rfl) (by kernel_rfl) (wanted_g (b := false) rfl rfl rfl) rfl rfl (fun _ _ => rfl) (WA.takeN (i := 13) rfl (by kernel_rfl) (by kernel_rfl) (by kernel_rfl) (wanted_g (b := false) rfl rfl rfl) rfl rfl (fun _ _ => rfl) (WA.takeN (i := 14) rfl (by kernel_rfl) (by kernel_rfl) (by kernel_rfl) (wanted_g (b := false) rfl rfl rfl) rfl rfl (fun _ _ => rfl) ?_))))))))))
                refine ON 5 (by kernel_rfl) rfl (GF rfl rfl rfl (NA (ON 8 (by kernel_rfl) rfl (GF rfl rfl rfl (NA (WA.takeN (i := 9) rfl (by kernel_rfl) (by kernel_rfl) (by kernel_rfl) (wanted_g (b := false) rfl rfl rfl) rfl rfl (fun _ _ => rfl) (ON 12 (by kernel_rfl) rfl (GF rfl rfl rfl (NA (ON 15 (by kernel_rfl) rfl (GF rfl rfl rfl (NA (ON 16 (by kernel_rfl) rfl (GF rfl rfl rfl (NA (ON 17 (by kernel_rfl) rfl (GF rfl rfl rfl (NA (ON 18 (by kernel_rfl) rfl (GF rfl rfl rfl (NA (ON 19 (by kernel_rfl) rfl (GF rfl rfl rfl (NA (ON 20 (by kernel_rfl) rfl (PF rfl rfl rfl (NA (WA.done (by kernel_rfl) (TN (CF rfl (WC.exit (WQ.thenExit (WQ.thenExit (WQ.exitHere (TN (WC.exit (WQ.thenExit (WQ.exitHere ?_))))))))))))))))))))))))))))))))))))))
                refine WQ.again1 (x) ⟨rfl, trivial⟩ ?_ ?_
                · exact ⟨by omega, hvx, M, H.drop (List.nil_sublist _), hp⟩
                · omega
            · refine NA (ON 12 (by kernel_rfl) rfl (PT rfl rfl rfl (NA (WA.done (by kernel_rfl) (TN (CF rfl (SK (TN (WC.exit (WQ.thenExit (WQ.exitHere ?_)))))))))))
              refine WQ.again1 (u2) ⟨rfl, trivial⟩ ?_ ?_
              · exact ⟨by rw [hu2, hu, List.length_drop, List.length_drop]; omega, (by rw [hv, hv1, hv8, ← hu2]), M, H.drop (List.nil_sublist _), hp⟩
              · rw [hu2, hu, List.length_drop, List.length_drop]; omega
          · refine NA (ON 3 (by kernel_rfl) rfl (MV rfl rfl (NA (WA.takeN (i := 4) rfl (by kernel_rfl) (by kernel_rfl) (by kernel_rfl) (wanted_g (b := false) rfl rfl rfl) rfl rfl (fun _ _ => rfl) (WA.takeN (i := 6) rfl (by kernel_rfl) (by kernel_rfl) (by kernel_rfl) (wanted_g (b := false) rfl rfl rfl) rfl rfl (fun _ _ => rfl) (WA.takeN (i := 7) rfl (by kernel_rfl) (by kernel_rfl) (by kernel_rfl) (wanted_g (b := false) rfl rfl rfl) rfl rfl (fun _ _ => rfl) (ON 5 (by kernel_rfl) rfl (GF rfl rfl rfl (NA (ON 8 (by kernel_rfl) rfl (GF rfl rfl rfl (NA (ON 9 (by kernel_rfl) rfl (GF rfl rfl rfl (NA (ON 10 (by kernel_rfl) rfl (GF rfl rfl rfl (NA (ON 11 (by kernel_rfl) rfl (GF rfl rfl rfl (NA (ON 12 (by kernel_rfl) rfl (PF rfl rfl rfl (NA (WA.done (by kernel_rfl) (TN (CF rfl (SK (TN (WC.exit (WQ.thenExit (WQ.exitHere ?_))))))))))))))))))))))))))))))))
            refine WQ.again1 (u2) ⟨rfl, trivial⟩ ?_ ?_
            · exact ⟨by rw [hu2, hu, List.length_drop, List.length_drop]; omega, (by rw [hv, hv1, hv8, ← hu2]), M, H.drop (List.nil_sublist _), hp⟩
            · rw [hu2, hu, List.length_drop, List.length_drop]; omega
        · refine PT rfl rfl rfl (NL (TN (CF rfl (SK (TN (WC.exit (WQ.thenExit (WQ.exitHere ?_))))))))
          refine WQ.again1 (u) ⟨rfl, trivial⟩ ?_ ?_
          · exact ⟨by rw [hu, List.length_drop]; omega, (by rw [hv, hv1]), M, H.drop (List.nil_sublist _), hp⟩
          · rw [hu, List.length_drop]; omega
      · refine MV rfl rfl (GF rfl rfl rfl (GF rfl rfl rfl (GF rfl rfl rfl (GF rfl rfl rfl (PF rfl rfl rfl (NL (TN (CF rfl (SK (TN (WC.exit (WQ.thenExit (WQ.exitHere ?_)))))))))))))
        refine WQ.again1 (u) ⟨rfl, trivial⟩ ?_ ?_
        · exact ⟨by rw [hu, List.length_drop]; omega, (by rw [hv, hv1]), M, H.drop (List.nil_sublist _), hp⟩
        · rw [hu, List.length_drop]; omega
    · obtain ⟨sz, ai, lo, hi, hF, hsz, hai, hai16, hlo, hhi, hlo2, hhi2, hszs, hc1, hc2, hc3, hc4⟩ := first_facts c.toNat (by omega) (by omega)
      refine NL (TN (CF rfl (SK (TN (SQ (RG (MV rfl rfl (WR.stepE (v' := ptr 0 c.toNat) (Ex.idxArr Tryz.underlying98 Tryz.sizeOf5 rfl rfl (by omega)) (by rw [Nat.zero_add, Nat.mul_one]) (Wn.none rfl) rfl rfl ?_))))))))
      refine ST (Ex.loadCell rfl ((hp _ H.ag).1 c.toNat (by omega)) Tryz.isAgg5) rfl ?_
      refine AS rfl rfl (NL (TN (SQ (RG (MV rfl rfl (WR.stepE (v' := .int .u8 ((sz : Nat) : Int)) (Ex.andK (m := (Lib.firstT c.toNat)) (s := 7) rfl rfl (by show _ < 256; omega) (by decide)) (congrArg (Value.int .u8) (by rw [hsz]; exact u8_in (by omega))) (Wn.none rfl) rfl rfl ?_))))))
      first | refine WR.step (Ex.convB Tryz.underlying5 Tryz.underlying3 rfl) (Wn.none rfl) rfl rfl ?_ | refine WR.step (Ex.convI Tryz.underlying5 Tryz.underlying3 rfl (by omega)) (Wn.none rfl) rfl rfl ?_
      refine AS rfl rfl (NL (TN (SQ (RG (MV rfl rfl (WR.stepE (v' := .int .u8 ((ai : Nat) : Int)) (Ex.shrN (m := (Lib.firstT c.toNat)) (s := 4) rfl rfl (by first | (show _ ≤ 64; omega) | (show _ ≤ 8; omega) | decide)) (congrArg (Value.int .u8) (by rw [hai])) (Wn.none rfl) rfl rfl ?_))))))
      refine WR.stepE (v' := ptr 1 (2 * ai)) (Ex.idxArr Tryz.underlying101 Tryz.sizeOf100 rfl rfl (by omega)) (by rw [Nat.zero_add, Nat.mul_comm]) (Wn.none rfl) rfl rfl ?_
      refine ST (Ex.loadAggW (cs := [.int .u8 ((lo : Nat) : Int), .int .u8 ((hi : Nat) : Int)]) rfl (tab_acc (hp _ H.ag) hai16 hlo hhi) Tryz.isAgg100 Tryz.sizeOf100 rfl) rfl (WR.alloc [_, _] H Tryz.zeroValue100 rfl (Wn.none rfl) rfl ?_)
      intro b6 w H
      refine WR.store [_, _] H rfl rfl rfl (by repeat first | exact .head | apply Upd.tail) Tryz.sizeOf100 rfl (by rfl) (by rfl) (Wn.none rfl) ?_
      intro w H
      refine NL (TN (SQ (RG (MV rfl rfl (NL (TN (BL (SQ (RG ?_)))))))))
      refine WR.split (Ex.eql rfl rfl) (Wn.none rfl) rfl rfl (fun h16_0 => ?_) (fun h16_0 => ?_)
      · obtain ⟨hq1, hq2, hq3, hq4⟩ := hc2 (by omega)
        have hm := multi2 (t := t) (by rw [hcn]; exact ⟨hq1, hq2⟩)
        subst hq3 hq4
        refine AS rfl rfl (NL (TN (CT rfl (SQ (SQ (WC.draw (m := 17) rfl rfl H ?_))))))
        intro w H
        refine ON 0 (by kernel_rfl) rfl (MV rfl rfl (NA (ON 1 (by kernel_rfl) rfl (ST (Ex.lenStr Tryz.underlying9 rfl) rfl (NA (ON 2 (by kernel_rfl) rfl ?_))))))
        refine WR.split (Ex.lss rfl rfl) (Wn.none rfl) rfl rfl (fun h17_2 => ?_) (fun h17_2 => ?_)
        · have hbad := vld_bad hne (hm.2 (by omega))
          refine NA (ON 3 (by kernel_rfl) rfl (MV rfl rfl (NA (WA.takeN (i := 4) rfl (by kernel_rfl) (by kernel_rfl) (by kernel_rfl) (wanted_g (b := true) rfl rfl rfl) rfl rfl (fun _ _ => rfl) (WA.takeN (i := 5) rfl (by kernel_rfl) (by kernel_rfl) (by kernel_rfl) (wanted_g (b := true) rfl rfl rfl) rfl rfl (fun _ _ => rfl) (ON 6 (by kernel_rfl) rfl (GT rfl rfl rfl (NA (ON 7 (by kernel_rfl) rfl (GT rfl rfl rfl (NA (ON 8 (by kernel_rfl) rfl (GT rfl rfl rfl (NA (ON 9 (by kernel_rfl) rfl (PT rfl rfl rfl (NA (ON 10 (by kernel_rfl) rfl (MV rfl rfl (NA (WA.takeN (i := 11) rfl (by kernel_rfl) (by kernel_rfl) (by kernel_rfl) (wanted_g (b := true) rfl rfl rfl) rfl rfl (fun _ _ => rfl) (WA.takeN (i := 12) rfl (by kernel_rfl) (by kernel_rfl) (by kernel_rfl) (wanted_g (b := true) rfl rfl rfl) rfl rfl (fun _ _ => rfl) (ON 13 (by kernel_rfl) rfl (GT rfl rfl rfl (NA (ON 14 (by kernel_rfl) rfl (GT rfl rfl rfl ?_)))))))))))))))))))))))))))
          refine NA (ON 15 (by kernel_rfl) rfl (GT rfl rfl rfl (NA (ON 16 (by kernel_rfl) rfl (PT rfl rfl rfl (NA (WA.done (by kernel_rfl) (TN (CT rfl (SQ (RG (AS rfl rfl (NL (TN (RT ?_)))))))))))))))
          refine WQ.ret1 rfl rfl H.ext ?_
          exact by rw [hv, hbad]
        · obtain ⟨x1, hx1⟩ : ∃ x, t[1]? = some x := ⟨_, List.getElem?_eq_getElem (by omega)⟩
          have hnx1 := nat_of hx1
          have hxl1 := x1.toNat_lt
          refine NA (ON 3 (by kernel_rfl) rfl (MV rfl rfl (NA (WA.take (i := 4) rfl (by kernel_rfl) (by kernel_rfl) (by kernel_rfl) (fun _ => Ex.move rfl) (Wn.some rfl rfl rfl) rfl rfl (fun _ _ => rfl) (WA.take (i := 5) rfl (by kernel_rfl) (by kernel_rfl) (by kernel_rfl) (fun _ => Ex.idxStr Tryz.underlying9 rfl rfl (hx1)) (Wn.some rfl rfl rfl) rfl rfl (fun _ _ => rfl) (ON 6 (by kernel_rfl) rfl (SG (Ex.fieldAddr Tryz.underlying100 rfl Tryz.sizeOf5 (by decide) rfl) rfl rfl rfl (NA (ON 7 (by kernel_rfl) rfl ?_)))))))))
          first | refine WR.step (Ex.loadM H rfl (by assumption) Tryz.isAgg5) (Wn.some rfl rfl rfl) rfl rfl ?_ | refine WR.step (Ex.load1 H rfl (by repeat (first | exact List.Mem.head _ | apply List.Mem.tail)) Tryz.isAgg5 (by rfl)) (Wn.some rfl rfl rfl) rfl rfl ?_
          refine NA (ON 8 (by kernel_rfl) rfl ?_)
          refine WR.split (Ex.lss rfl rfl) (Wn.some rfl rfl rfl) rfl rfl (fun h17_8 => ?_) (fun h17_8 => ?_)
          · have hbad := vld_bad hne (hm.2 (by omega))
            refine NA (ON 9 (by kernel_rfl) rfl (PF rfl rfl rfl (NA (ON 10 (by kernel_rfl) rfl (MV rfl rfl (NA (WA.takeN (i := 11) rfl (by kernel_rfl) (by kernel_rfl) (by kernel_rfl) (wanted_g (b := true) rfl rfl rfl) rfl rfl (fun _ _ => rfl) (WA.takeN (i := 12) rfl (by kernel_rfl) (by kernel_rfl) (by kernel_rfl) (wanted_g (b := true) rfl rfl rfl) rfl rfl (fun _ _ => rfl) (ON 13 (by kernel_rfl) rfl (GT rfl rfl rfl (NA (ON 14 (by kernel_rfl) rfl (GT rfl rfl rfl (NA (ON 15 (by kernel_rfl) rfl (GT rfl rfl rfl (NA (ON 16 (by kernel_rfl) rfl (PT rfl rfl rfl (NA (WA.done (by kernel_rfl) (TN (CT rfl (SQ (RG (AS rfl rfl (NL (TN (RT ?_)))))))))))))))))))))))))))))
            refine WQ.ret1 rfl rfl H.ext ?_
            exact by rw [hv, hbad]
          · refine NA (ON 9 (by kernel_rfl) rfl (PF rfl rfl rfl (NA (ON 10 (by kernel_rfl) rfl (MV rfl rfl (NA (WA.take (i := 11) rfl (by kernel_rfl) (by kernel_rfl) (by kernel_rfl) (fun _ => Ex.fieldAddr Tryz.underlying100 rfl Tryz.sizeOf5 (by decide) rfl) (Wn.some rfl rfl rfl) rfl rfl (fun _ _ => rfl) (WA.take (i := 13) rfl (by kernel_rfl) (by kernel_rfl) (by kernel_rfl) (fun _ => Ex.move rfl) (Wn.some rfl rfl rfl) rfl rfl (fun _ _ => rfl) (WA.take (i := 14) rfl (by kernel_rfl) (by kernel_rfl) (by kernel_rfl) (fun _ => Ex.idxStr Tryz.underlying9 rfl rfl (hx1)) (Wn.some rfl rfl rfl) rfl rfl (fun _ _ => rfl) (ON 12 (by kernel_rfl) rfl ?_))))))))))
            first | refine WR.step (Ex.loadM H rfl (by assumption) Tryz.isAgg5) (Wn.some rfl rfl rfl) rfl rfl ?_ | refine WR.step (Ex.load1 H rfl (by repeat (first | exact List.Mem.head _ | apply List.Mem.tail)) Tryz.isAgg5 (by rfl)) (Wn.some rfl rfl rfl) rfl rfl ?_
            refine NA (ON 15 (by kernel_rfl) rfl ?_)
            refine WR.split (Ex.lss rfl rfl) (Wn.some rfl rfl rfl) rfl rfl (fun h17_15 => ?_) (fun h17_15 => ?_)
            · have hbad := vld_bad hne (hm.2 (by omega))
              refine NA (ON 16 (by kernel_rfl) rfl (PF rfl rfl rfl (NA (WA.done (by kernel_rfl) (TN (CT rfl (SQ (RG (AS rfl rfl (NL (TN (RT ?_))))))))))))
              refine WQ.ret1 rfl rfl H.ext ?_
              exact by rw [hv, hbad]
            · refine NA (ON 16 (by kernel_rfl) rfl (PF rfl rfl rfl (NA (WA.done (by kernel_rfl) (TN (CF rfl (SK (TN (RG (MV rfl rfl (WR.stepE (v' := S (t.drop 2)) (Ex.sliceStr (i := 2) (j := t.length) Tryz.underlying9 rfl (.inl ⟨_, rfl, rfl⟩) (.inr ⟨rfl, rfl⟩) (by omega) (by omega)) (by rw [List.take_length]) (Wn.none rfl) rfl rfl ?_)))))))))))
              refine AS rfl rfl (NL (IB (IB ?_)))
              refine WQ.again1 (t.drop 2) ⟨rfl, trivial⟩ ?_ ?_
              · exact ⟨by rw [List.length_drop]; omega, by rw [hv]; exact vld_good hne (hm.1 (by omega)), M, H.drop (List.nil_sublist _), hp⟩
              · rw [List.length_drop]; omega
      · refine AS rfl rfl (NL (TN (CF rfl (SQ (RG ?_)))))
        refine WR.split (Ex.eql rfl rfl) (Wn.none rfl) rfl rfl (fun h20_0 => ?_) (fun h20_0 => ?_)
        · obtain ⟨hq1, hq2, hq3, hq4⟩ := hc3 (by omega)
          have hm := multi3 (t := t) (lo := lo) (hi := hi) (by rw [hcn]; exact ⟨hq1, hq2⟩) (by rw [hcn]; exact hq3) (by rw [hcn]; exact hq4)
          refine AS rfl rfl (NL (TN (CT rfl (SQ (SQ (WC.draw (m := 27) rfl rfl H ?_))))))
          intro w H
          refine ON 0 (by kernel_rfl) rfl (MV rfl rfl (NA (ON 1 (by kernel_rfl) rfl (ST (Ex.lenStr Tryz.underlying9 rfl) rfl (NA (ON 2 (by kernel_rfl) rfl ?_))))))
          refine WR.split (Ex.lss rfl rfl) (Wn.none rfl) rfl rfl (fun h21_2 => ?_) (fun h21_2 => ?_)
          · have hbad := vld_bad hne (hm.2 (by omega))
            refine NA (ON 3 (by kernel_rfl) rfl (MV rfl rfl (NA (WA.takeN (i := 4) rfl (by kernel_rfl) (by kernel_rfl) (by kernel_rfl) (wanted_g (b := true) rfl rfl rfl) rfl rfl (fun _ _ => rfl) (WA.takeN (i := 5) rfl (by kernel_rfl) (by kernel_rfl) (by kernel_rfl) (wanted_g (b := true) rfl rfl rfl) rfl rfl (fun _ _ => rfl) (ON 6 (by kernel_rfl) rfl (GT rfl rfl rfl (NA (ON 7 (by kernel_rfl) rfl (GT rfl rfl rfl (NA (ON 8 (by kernel_rfl) rfl (GT rfl rfl rfl (NA (ON 9 (by kernel_rfl) rfl (PT rfl rfl rfl (NA (ON 10 (by kernel_rfl) rfl (MV rfl rfl (NA (WA.takeN (i := 11) rfl (by kernel_rfl) (by kernel_rfl) (by kernel_rfl) (wanted_g (b := true) rfl rfl rfl) rfl rfl (fun _ _ => rfl) (WA.takeN (i := 12) rfl (by kernel_rfl) (by kernel_rfl) (by kernel_rfl) (wanted_g (b := true) rfl rfl rfl) rfl rfl (fun _ _ => rfl) (ON 13 (by kernel_rfl) rfl (GT rfl rfl rfl (NA (ON 14 (by kernel_rfl) rfl (GT rfl rfl rfl ?_)))))))))))))))))))))))))))
            refine NA (ON 15 (by kernel_rfl) rfl (GT rfl rfl rfl (NA (ON 16 (by kernel_rfl) rfl (PT rfl rfl rfl (NA (ON 17 (by kernel_rfl) rfl (MV rfl rfl (NA (ON 18 (by kernel_rfl) rfl (GT rfl rfl rfl (NA (ON 19 (by kernel_rfl) rfl (GT rfl rfl rfl (NA (ON 20 (by kernel_rfl) rfl (GT rfl rfl rfl (NA (ON 21 (by kernel_rfl) rfl (PT rfl rfl rfl (NA (ON 22 (by kernel_rfl) rfl (MV rfl rfl (NA (ON 23 (by kernel_rfl) rfl (GT rfl rfl rfl (NA (ON 24 (by kernel_rfl) rfl (GT rfl rfl rfl (NA (ON 25 (by kernel_rfl) rfl (GT rfl rfl rfl (NA (ON 26 (by kernel_rfl) rfl (PT rfl rfl rfl (NA (WA.done (by kernel_rfl) (TN (CT rfl (SQ (RG (AS rfl rfl (NL (TN (RT ?_)))))))))))))))))))))))))))))))))))))))))))))
            refine WQ.ret1 rfl rfl H.ext ?_
            exact by rw [hv, hbad]
          · obtain ⟨x1, hx1⟩ : ∃ x, t[1]? = some x := ⟨_, List.getElem?_eq_getElem (by omega)⟩
            have hnx1 := nat_of hx1
            have hxl1 := x1.toNat_lt
            obtain ⟨x2, hx2⟩ : ∃ x, t[2]? = some x := ⟨_, List.getElem?_eq_getElem (by omega)⟩
            have hnx2 := nat_of hx2
            have hxl2 := x2.toNat_lt
            refine NA (ON 3 (by kernel_rfl) rfl (MV rfl rfl (NA (WA.take (i := 4) rfl (by kernel_rfl) (by kernel_rfl) (by kernel_rfl) (fun _ => Ex.move rfl) (Wn.some rfl rfl rfl) rfl rfl (fun _ _ => rfl) (WA.take (i := 5) rfl (by kernel_rfl) (by kernel_rfl) (by kernel_rfl) (fun _ => Ex.idxStr Tryz.underlying9 rfl rfl (hx1)) (Wn.some rfl rfl rfl) rfl rfl (fun _ _ => rfl) (ON 6 (by kernel_rfl) rfl (SG (Ex.fieldAddr Tryz.underlying100 rfl Tryz.sizeOf5 (by decide) rfl) rfl rfl rfl (NA (ON 7 (by kernel_rfl) rfl ?_)))))))))
            first | refine WR.step (Ex.loadM H rfl (by assumption) Tryz.isAgg5) (Wn.some rfl rfl rfl) rfl rfl ?_ | refine WR.step (Ex.load1 H rfl (by repeat (first | exact List.Mem.head _ | apply List.Mem.tail)) Tryz.isAgg5 (by rfl)) (Wn.some rfl rfl rfl) rfl rfl ?_
            refine NA (ON 8 (by kernel_rfl) rfl ?_)
            refine WR.split (Ex.lss rfl rfl) (Wn.some rfl rfl rfl) rfl rfl (fun h21_8 => ?_) (fun h21_8 => ?_)
            · have hbad := vld_bad hne (hm.2 (by omega))
              refine NA (ON 9 (by kernel_rfl) rfl (PF rfl rfl rfl (NA (ON 10 (by kernel_rfl) rfl (MV rfl rfl (NA (WA.takeN (i := 11) rfl (by kernel_rfl) (by kernel_rfl) (by kernel_rfl) (wanted_g (b := true) rfl rfl rfl) rfl rfl (fun _ _ => rfl) (WA.takeN (i := 12) rfl (by kernel_rfl) (by kernel_rfl) (by kernel_rfl) (wanted_g (b := true) rfl rfl rfl) rfl rfl (fun _ _ => rfl) (ON 13 (by kernel_rfl) rfl (GT rfl rfl rfl (NA (ON 14 (by kernel_rfl) rfl (GT rfl rfl rfl (NA (ON 15 (by kernel_rfl) rfl (GT rfl rfl rfl (NA (ON 16 (by kernel_rfl) rfl (PT rfl rfl rfl (NA (ON 17 (by kernel_rfl) rfl (MV rfl rfl (NA (ON 18 (by kernel_rfl) rfl (GT rfl rfl rfl (NA (ON 19 (by kernel_rfl) rfl (GT rfl rfl rfl (NA (ON 20 (by kernel_rfl) rfl (GT rfl rfl rfl (NA (ON 21 (by kernel_rfl) rfl (PT rfl rfl rfl (NA (ON 22 (by kernel_rfl) rfl (MV rfl rfl (NA (ON 23 (by kernel_rfl) rfl (GT rfl rfl rfl ?_))))))))))))))))))))))))))))))))))))))))
              refine NA (ON 24 (by kernel_rfl) rfl (GT rfl rfl rfl (NA (ON 25 (by kernel_rfl) rfl (GT rfl rfl rfl (NA (ON 26 (by kernel_rfl) rfl (PT rfl rfl rfl (NA (WA.done (by kernel_rfl) (TN (CT rfl (SQ (RG (AS rfl rfl (NL (TN (RT ?_))))))))))))))))))
              refine WQ.ret1 rfl rfl H.ext ?_
              exact by rw [hv, hbad]
            · refine NA (ON 9 (by kernel_rfl) rfl (PF rfl rfl rfl (NA (ON 10 (by kernel_rfl) rfl (MV rfl rfl (NA (WA.take (i := 11) rfl (by kernel_rfl) (by kernel_rfl) (by kernel_rfl) (fun _ => Ex.fieldAddr Tryz.underlying100 rfl Tryz.sizeOf5 (by decide) rfl) (Wn.some rfl rfl rfl) rfl rfl (fun _ _ => rfl) (WA.take (i := 13) rfl (by kernel_rfl) (by kernel_rfl) (by kernel_rfl) (fun _ => Ex.move rfl) (Wn.some rfl rfl rfl) rfl rfl (fun _ _ => rfl) (WA.take (i := 14) rfl (by kernel_rfl) (by kernel_rfl) (by kernel_rfl) (fun _ => Ex.idxStr Tryz.underlying9 rfl rfl (hx1)) (Wn.some rfl rfl rfl) rfl rfl (fun _ _ => rfl) (ON 12 (by kernel_rfl) rfl ?_))))))))))
              first | refine WR.step (Ex.loadM H rfl (by assumption) Tryz.isAgg5) (Wn.some rfl rfl rfl) rfl rfl ?_ | refine WR.step (Ex.load1 H rfl (by repeat (first | exact List.Mem.head _ | apply List.Mem.tail)) Tryz.isAgg5 (by rfl)) (Wn.some rfl rfl rfl) rfl rfl ?_
              refine NA (ON 15 (by kernel_rfl) rfl ?_)
              refine WR.split (Ex.lss rfl rfl) (Wn.some rfl rfl rfl) rfl rfl (fun h21_15 => ?_) (fun h21_15 => ?_)
              · have hbad := vld_bad hne (hm.2 (by omega))
                refine NA (ON 16 (by kernel_rfl) rfl (PF rfl rfl rfl (NA (ON 17 (by kernel_rfl) rfl (MV rfl rfl (NA (ON 18 (by kernel_rfl) rfl (GT rfl rfl rfl (NA (ON 19 (by kernel_rfl) rfl (GT rfl rfl rfl (NA (ON 20 (by kernel_rfl) rfl (GT rfl rfl rfl (NA (ON 21 (by kernel_rfl) rfl (PT rfl rfl rfl (NA (ON 22 (by kernel_rfl) rfl (MV rfl rfl (NA (ON 23 (by kernel_rfl) rfl (GT rfl rfl rfl (NA (ON 24 (by kernel_rfl) rfl (GT rfl rfl rfl (NA (ON 25 (by kernel_rfl) rfl (GT rfl rfl rfl (NA (ON 26 (by kernel_rfl) rfl (PT rfl rfl rfl (NA (WA.done (by kernel_rfl) (TN (CT rfl (SQ (RG (AS rfl rfl (NL (TN (RT ?_))))))))))))))))))))))))))))))))))))))))))
                refine WQ.ret1 rfl rfl H.ext ?_
                exact by rw [hv, hbad]
              · refine NA (ON 16 (by kernel_rfl) rfl (PF rfl rfl rfl (NA (ON 17 (by kernel_rfl) rfl (MV rfl rfl (NA (ON 18 (by kernel_rfl) rfl (SG (Ex.move rfl) rfl rfl rfl (NA (ON 19 (by kernel_rfl) rfl (SG (Ex.idxStr Tryz.underlying9 rfl rfl (hx2)) rfl rfl rfl (NA (ON 20 (by kernel_rfl) rfl ?_)))))))))))))
                refine WR.split (Ex.lss rfl rfl) (Wn.some rfl rfl rfl) rfl rfl (fun h21_20 => ?_) (fun h21_20 => ?_)
                · have hbad := vld_bad hne (hm.2 (by omega))
                  refine NA (ON 21 (by kernel_rfl) rfl (PF rfl rfl rfl (NA (ON 22 (by kernel_rfl) rfl (MV rfl rfl (NA (ON 23 (by kernel_rfl) rfl (GT rfl rfl rfl (NA (ON 24 (by kernel_rfl) rfl (GT rfl rfl rfl (NA (ON 25 (by kernel_rfl) rfl (GT rfl rfl rfl (NA (ON 26 (by kernel_rfl) rfl (PT rfl rfl rfl (NA (WA.done (by kernel_rfl) (TN (CT rfl (SQ (RG (AS rfl rfl (NL (TN (RT ?_)))))))))))))))))))))))))))
                  refine WQ.ret1 rfl rfl H.ext ?_
                  exact by rw [hv, hbad]
                · refine NA (ON 21 (by kernel_rfl) rfl (PF rfl rfl rfl (NA (ON 22 (by kernel_rfl) rfl (MV rfl rfl (NA (ON 23 (by kernel_rfl) rfl (SG (Ex.move rfl) rfl rfl rfl (NA (ON 24 (by kernel_rfl) rfl (SG (Ex.idxStr Tryz.underlying9 rfl rfl (hx2)) rfl rfl rfl (NA (ON 25 (by kernel_rfl) rfl ?_)))))))))))))
                  refine WR.split (Ex.lss rfl rfl) (Wn.some rfl rfl rfl) rfl rfl (fun h21_25 => ?_) (fun h21_25 => ?_)
                  · have hbad := vld_bad hne (hm.2 (by omega))
                    refine NA (ON 26 (by kernel_rfl) rfl (PF rfl rfl rfl (NA (WA.done (by kernel_rfl) (TN (CT rfl (SQ (RG (AS rfl rfl (NL (TN (RT ?_))))))))))))
                    refine WQ.ret1 rfl rfl H.ext ?_
                    exact by rw [hv, hbad]
                  · refine NA (ON 26 (by kernel_rfl) rfl (PF rfl rfl rfl (NA (WA.done (by kernel_rfl) (TN (CF rfl (SK (TN (RG (MV rfl rfl (WR.stepE (v' := S (t.drop 3)) (Ex.sliceStr (i := 3) (j := t.length) Tryz.underlying9 rfl (.inl ⟨_, rfl, rfl⟩) (.inr ⟨rfl, rfl⟩) (by omega) (by omega)) (by rw [List.take_length]) (Wn.none rfl) rfl rfl ?_)))))))))))
                    refine AS rfl rfl (NL (IB (IB ?_)))
                    refine WQ.again1 (t.drop 3) ⟨rfl, trivial⟩ ?_ ?_
                    · exact ⟨by rw [List.length_drop]; omega, by rw [hv]; exact vld_good hne (hm.1 (by omega)), M, H.drop (List.nil_sublist _), hp⟩
                    · rw [List.length_drop]; omega
        · refine AS rfl rfl (NL (TN (CF rfl (SQ (RG ?_)))))
          refine WR.split (Ex.eql rfl rfl) (Wn.none rfl) rfl rfl (fun h24_0 => ?_) (fun h24_0 => ?_)
          · obtain ⟨hq1, hq2, hq3, hq4⟩ := hc4 (by omega)
            have hm := multi4 (t := t) (lo := lo) (hi := hi) (by rw [hcn]; exact ⟨hq1, hq2⟩) (by rw [hcn]; exact hq3) (by rw [hcn]; exact hq4)
            refine AS rfl rfl (NL (TN (CT rfl (SQ (SQ (WC.draw (m := 37) rfl rfl H ?_))))))
            intro w H
            refine ON 0 (by kernel_rfl) rfl (MV rfl rfl (NA (ON 1 (by kernel_rfl) rfl (ST (Ex.lenStr Tryz.underlying9 rfl) rfl (NA (ON 2 (by kernel_rfl) rfl ?_))))))
            refine WR.split (Ex.lss rfl rfl) (Wn.none rfl) rfl rfl (fun h25_2 => ?_) (fun h25_2 => ?_)
            · have hbad := vld_bad hne (hm.2 (by omega))
              refine NA (ON 3 (by kernel_rfl) rfl (MV rfl rfl (NA (WA.takeN (i := 4) rfl (by kernel_rfl) (by kernel_rfl) (by kernel_rfl) (wanted_g (b := true) rfl rfl rfl) rfl rfl (fun _ _ => rfl) (WA.takeN (i := 5) rfl (by kernel_rfl) (by kernel_rfl) (by kernel_rfl) (wanted_g (b := true) rfl rfl rfl) rfl rfl (fun _ _ => rfl) (ON 6 (by kernel_rfl) rfl (GT rfl rfl rfl (NA (ON 7 (by kernel_rfl) rfl (GT rfl rfl rfl (NA (ON 8 (by kernel_rfl) rfl (GT rfl rfl rfl (NA (ON 9 (by kernel_rfl) rfl (PT rfl rfl rfl (NA (ON 10 (by kernel_rfl) rfl (MV rfl rfl (NA (WA.takeN (i := 11) rfl (by kernel_rfl) (by kernel_rfl) (by kernel_rfl) (wanted_g (b := true) rfl rfl rfl) rfl rfl (fun _ _ => rfl) (WA.takeN (i := 12) rfl (by kernel_rfl) (by kernel_rfl) (by kernel_rfl) (wanted_g (b := true) rfl rfl rfl) rfl rfl (fun _ _ => rfl) (ON 13 (by kernel_rfl) rfl (GT rfl rfl rfl (NA (ON 14 (by kernel_rfl) rfl (GT rfl rfl rfl ?_)))))))))))))))))))))))))))
              refine NA (ON 15 (by kernel_rfl) rfl (GT rfl rfl rfl (NA (ON 16 (by kernel_rfl) rfl (PT rfl rfl rfl (NA (ON 17 (by kernel_rfl) rfl (MV rfl rfl (NA (ON 18 (by kernel_rfl) rfl (GT rfl rfl rfl (NA (ON 19 (by kernel_rfl) rfl (GT rfl rfl rfl (NA (ON 20 (by kernel_rfl) rfl (GT rfl rfl rfl (NA (ON 21 (by kernel_rfl) rfl (PT rfl rfl rfl (NA (ON 22 (by kernel_rfl) rfl (MV rfl rfl (NA (ON 23 (by kernel_rfl) rfl (GT rfl rfl rfl (NA (ON 24 (by kernel_rfl) rfl (GT rfl rfl rfl (NA (ON 25 (by kernel_rfl) rfl (GT rfl rfl rfl (NA (ON 26 (by kernel_rfl) rfl (PT rfl rfl rfl (NA (ON 27 (by kernel_rfl) rfl (MV rfl rfl (NA (ON 28 (by kernel_rfl) rfl (GT rfl rfl rfl (NA (ON 29 (by kernel_rfl) rfl (GT rfl rfl rfl (NA (ON 30 (by kernel_rfl) rfl (GT rfl rfl rfl (NA (ON 31 (by kernel_rfl) rfl (PT rfl rfl rfl (NA (ON 32 (by kernel_rfl) rfl (MV rfl rfl (NA (ON 33 (by kernel_rfl) rfl ?_)))))))))))))))))))))))))))))))))))))))))))))))))))))))
              refine GT rfl rfl rfl (NA (ON 34 (by kernel_rfl) rfl (GT rfl rfl rfl (NA (ON 35 (by kernel_rfl) rfl (GT rfl rfl rfl (NA (ON 36 (by kernel_rfl) rfl (PT rfl rfl rfl (NA (WA.done (by kernel_rfl) (TN (CT rfl (SQ (RG (AS rfl rfl (NL (TN (RT ?_)))))))))))))))))))
              refine WQ.ret1 rfl rfl H.ext ?_
              exact by rw [hv, hbad]
            · obtain ⟨x1, hx1⟩ : ∃ x, t[1]? = some x := ⟨_, List.getElem?_eq_getElem (by omega)⟩
              have hnx1 := nat_of hx1
              have hxl1 := x1.toNat_lt
              obtain ⟨x2, hx2⟩ : ∃ x, t[2]? = some x := ⟨_, List.getElem?_eq_getElem (by omega)⟩
              have hnx2 := nat_of hx2
              have hxl2 := x2.toNat_lt
              obtain ⟨x3, hx3⟩ : ∃ x, t[3]? = some x := ⟨_, List.getElem?_eq_getElem (by omega)⟩
              have hnx3 := nat_of hx3
              have hxl3 := x3.toNat_lt
              refine NA (ON 3 (by kernel_rfl) rfl (MV rfl rfl (NA (WA.take (i := 4) rfl (by kernel_rfl) (by kernel_rfl) (by kernel_rfl) (fun _ => Ex.move rfl) (Wn.some rfl rfl rfl) rfl rfl (fun _ _ => rfl) (WA.take (i := 5) rfl (by kernel_rfl) (by kernel_rfl) (by kernel_rfl) (fun _ => Ex.idxStr Tryz.underlying9 rfl rfl (hx1)) (Wn.some rfl rfl rfl) rfl rfl (fun _ _ => rfl) (ON 6 (by kernel_rfl) rfl (SG (Ex.fieldAddr Tryz.underlying100 rfl Tryz.sizeOf5 (by decide) rfl) rfl rfl rfl (NA (ON 7 (by kernel_rfl) rfl ?_)))))))))
              first | refine WR.step (Ex.loadM H rfl (by assumption) Tryz.isAgg5) (Wn.some rfl rfl rfl) rfl rfl ?_ | refine WR.step (Ex.load1 H rfl (by repeat (first | exact List.Mem.head _ | apply List.Mem.tail)) Tryz.isAgg5 (by rfl)) (Wn.some rfl rfl rfl) rfl rfl ?_
              refine NA (ON 8 (by kernel_rfl) rfl ?_)
              refine WR.split (Ex.lss rfl rfl) (Wn.some rfl rfl rfl) rfl rfl (fun h25_8 => ?_) (fun h25_8 => ?_)
              · have hbad := vld_bad hne (hm.2 (by omega))
                refine NA (ON 9 (by kernel_rfl) rfl (PF rfl rfl rfl (NA (ON 10 (by kernel_rfl) rfl (MV rfl rfl (NA (WA.takeN (i := 11) rfl (by kernel_rfl) (by kernel_rfl) (by kernel_rfl) (wanted_g (b := true) rfl rfl rfl) rfl rfl (fun _ _ => rfl) (WA.takeN (i := 12) rfl (by kernel_rfl) (by kernel_rfl) (by kernel_rfl) (wanted_g (b := true) rfl rfl rfl) rfl rfl (fun _ _ => rfl) (ON 13 (by kernel_rfl) rfl (GT rfl rfl rfl (NA (ON 14 (by kernel_rfl) rfl (GT rfl rfl rfl (NA (ON 15 (by kernel_rfl) rfl (GT rfl rfl rfl (NA (ON 16 (by kernel_rfl) rfl (PT rfl rfl rfl (NA (ON 17 (by kernel_rfl) rfl (MV rfl rfl (NA (ON 18 (by kernel_rfl) rfl (GT rfl rfl rfl (NA (ON 19 (by kernel_rfl) rfl (GT rfl rfl rfl (NA (ON 20 (by kernel_rfl) rfl (GT rfl rfl rfl (NA (ON 21 (by kernel_rfl) rfl (PT rfl rfl rfl (NA (ON 22 (by kernel_rfl) rfl (MV rfl rfl (NA (ON 23 (by kernel_rfl) rfl (GT rfl rfl rfl ?_))))))))))))))))))))))))))))))))))))))))
                refine NA (ON 24 (by kernel_rfl) rfl (GT rfl rfl rfl (NA (ON 25 (by kernel_rfl) rfl (GT rfl rfl rfl (NA (ON 26 (by kernel_rfl) rfl (PT rfl rfl rfl (NA (ON 27 (by kernel_rfl) rfl (MV rfl rfl (NA (ON 28 (by kernel_rfl) rfl (GT rfl rfl rfl (NA (ON 29 (by kernel_rfl) rfl (GT rfl rfl rfl (NA (ON 30 (by kernel_rfl) rfl (GT rfl rfl rfl (NA (ON 31 (by kernel_rfl) rfl (PT rfl rfl rfl (NA (ON 32 (by kernel_rfl) rfl (MV rfl rfl (NA (ON 33 (by kernel_rfl) rfl (GT rfl rfl rfl (NA (ON 34 (by kernel_rfl) rfl (GT rfl rfl rfl (NA (ON 35 (by kernel_rfl) rfl (GT rfl rfl rfl (NA (ON 36 (by kernel_rfl) rfl (PT rfl rfl rfl (NA (WA.done (by kernel_rfl) (TN (CT rfl (SQ (RG (AS rfl rfl (NL (TN (RT ?_))))))))))))))))))))))))))))))))))))))))))))))))
                refine WQ.ret1 rfl rfl H.ext ?_
                exact by rw [hv, hbad]
              · refine NA (ON 9 (by kernel_rfl) rfl (PF rfl rfl rfl (NA (ON 10 (by kernel_rfl) rfl (MV rfl rfl (NA (WA.take (i := 11) rfl (by kernel_rfl) (by kernel_rfl) (by kernel_rfl) (fun _ => Ex.fieldAddr Tryz.underlying100 rfl Tryz.sizeOf5 (by decide) rfl) (Wn.some rfl rfl rfl) rfl rfl (fun _ _ => rfl) (WA.take (i := 13) rfl (by kernel_rfl) (by kernel_rfl) (by kernel_rfl) (fun _ => Ex.move rfl) (Wn.some rfl rfl rfl) rfl rfl (fun _ _ => rfl) (WA.take (i := 14) rfl (by kernel_rfl) (by kernel_rfl) (by kernel_rfl) (fun _ => Ex.idxStr Tryz.underlying9 rfl rfl (hx1)) (Wn.some rfl rfl rfl) rfl rfl (fun _ _ => rfl) (ON 12 (by kernel_rfl) rfl ?_))))))))))
                first | refine WR.step (Ex.loadM H rfl (by assumption) Tryz.isAgg5) (Wn.some rfl rfl rfl) rfl rfl ?_ | refine WR.step (Ex.load1 H rfl (by repeat (first | exact List.Mem.head _ | apply List.Mem.tail)) Tryz.isAgg5 (by rfl)) (Wn.some rfl rfl rfl) rfl rfl ?_
                refine NA (ON 15 (by kernel_rfl) rfl ?_)
                refine WR.split (Ex.lss rfl rfl) (Wn.some rfl rfl rfl) rfl rfl (fun h25_15 => ?_) (fun h25_15 => ?_)
                · have hbad := vld_bad hne (hm.2 (by omega))
                  refine NA (ON 16 (by kernel_rfl) rfl (PF rfl rfl rfl (NA (ON 17 (by kernel_rfl) rfl (MV rfl rfl (NA (ON 18 (by kernel_rfl) rfl (GT rfl rfl rfl (NA (ON 19 (by kernel_rfl) rfl (GT rfl rfl rfl (NA (ON 20 (by kernel_rfl) rfl (GT rfl rfl rfl (NA (ON 21 (by kernel_rfl) rfl (PT rfl rfl rfl (NA (ON 22 (by kernel_rfl) rfl (MV rfl rfl (NA (ON 23 (by kernel_rfl) rfl (GT rfl rfl rfl (NA (ON 24 (by kernel_rfl) rfl (GT rfl rfl rfl (NA (ON 25 (by kernel_rfl) rfl (GT rfl rfl rfl (NA (ON 26 (by kernel_rfl) rfl (PT rfl rfl rfl (NA (ON 27 (by kernel_rfl) rfl (MV rfl rfl (NA (ON 28 (by kernel_rfl) rfl (GT rfl rfl rfl (NA (ON 29 (by kernel_rfl) rfl (GT rfl rfl rfl (NA (ON 30 (by kernel_rfl) rfl (GT rfl rfl rfl (NA (ON 31 (by kernel_rfl) rfl (PT rfl rfl rfl (NA (ON 32 (by kernel_rfl) rfl (MV rfl rfl (NA (ON 33 (by kernel_rfl) rfl (GT rfl rfl rfl (NA (ON 34 (by kernel_rfl) rfl ?_)))))))))))))))))))))))))))))))))))))))))))))))))))))))
                  refine GT rfl rfl rfl (NA (ON 35 (by kernel_rfl) rfl (GT rfl rfl rfl (NA (ON 36 (by kernel_rfl) rfl (PT rfl rfl rfl (NA (WA.done (by kernel_rfl) (TN (CT rfl (SQ (RG (AS rfl rfl (NL (TN (RT ?_))))))))))))))))
                  refine WQ.ret1 rfl rfl H.ext ?_
                  exact by rw [hv, hbad]
                · refine NA (ON 16 (by kernel_rfl) rfl (PF rfl rfl rfl (NA (ON 17 (by kernel_rfl) rfl (MV rfl rfl (NA (ON 18 (by kernel_rfl) rfl (SG (Ex.move rfl) rfl rfl rfl (NA (ON 19 (by kernel_rfl) rfl (SG (Ex.idxStr Tryz.underlying9 rfl rfl (hx2)) rfl rfl rfl (NA (ON 20 (by kernel_rfl) rfl ?_)))))))))))))
                  refine WR.split (Ex.lss rfl rfl) (Wn.some rfl rfl rfl) rfl rfl (fun h25_20 => ?_) (fun h25_20 => ?_)
                  · have hbad := vld_bad hne (hm.2 (by omega))
                    refine NA (ON 21 (by kernel_rfl) rfl (PF rfl rfl rfl (NA (ON 22 (by kernel_rfl) rfl (MV rfl rfl (NA (ON 23 (by kernel_rfl) rfl (GT rfl rfl rfl (NA (ON 24 (by kernel_rfl) rfl (GT rfl rfl rfl (NA (ON 25 (by kernel_rfl) rfl (GT rfl rfl rfl (NA (ON 26 (by kernel_rfl) rfl (PT rfl rfl rfl (NA (ON 27 (by kernel_rfl) rfl (MV rfl rfl (NA (ON 28 (by kernel_rfl) rfl (GT rfl rfl rfl (NA (ON 29 (by kernel_rfl) rfl (GT rfl rfl rfl (NA (ON 30 (by kernel_rfl) rfl (GT rfl rfl rfl (NA (ON 31 (by kernel_rfl) rfl (PT rfl rfl rfl (NA (ON 32 (by kernel_rfl) rfl (MV rfl rfl (NA (ON 33 (by kernel_rfl) rfl (GT rfl rfl rfl (NA (ON 34 (by kernel_rfl) rfl (GT rfl rfl rfl (NA (ON 35 (by kernel_rfl) rfl (GT rfl rfl rfl (NA (ON 36 (by kernel_rfl) rfl (PT rfl rfl rfl (NA (WA.done (by kernel_rfl) (TN (CT rfl (SQ (RG (AS rfl rfl (NL (TN (RT ?_)))))))))))))))))))))))))))))))))))))))))))))))))))))))))
                    refine WQ.ret1 rfl rfl H.ext ?_
                    exact by rw [hv, hbad]
                  · refine NA (ON 21 (by kernel_rfl) rfl (PF rfl rfl rfl (NA (ON 22 (by kernel_rfl) rfl (MV rfl rfl (NA (ON 23 (by kernel_rfl) rfl (SG (Ex.move rfl) rfl rfl rfl (NA (ON 24 (by kernel_rfl) rfl (SG (Ex.idxStr Tryz.underlying9 rfl rfl (hx2)) rfl rfl rfl (NA (ON 25 (by kernel_rfl) rfl ?_)))))))))))))
                    refine WR.split (Ex.lss rfl rfl) (Wn.some rfl rfl rfl) rfl rfl (fun h25_25 => ?_) (fun h25_25 => ?_)
                    · have hbad := vld_bad hne (hm.2 (by omega))
                      refine NA (ON 26 (by kernel_rfl) rfl (PF rfl rfl rfl (NA (ON 27 (by kernel_rfl) rfl (MV rfl rfl (NA (ON 28 (by kernel_rfl) rfl (GT rfl rfl rfl (NA (ON 29 (by kernel_rfl) rfl (GT rfl rfl rfl (NA (ON 30 (by kernel_rfl) rfl (GT rfl rfl rfl (NA (ON 31 (by kernel_rfl) rfl (PT rfl rfl rfl (NA (ON 32 (by kernel_rfl) rfl (MV rfl rfl (NA (ON 33 (by kernel_rfl) rfl (GT rfl rfl rfl (NA (ON 34 (by kernel_rfl) rfl (GT rfl rfl rfl (NA (ON 35 (by kernel_rfl) rfl (GT rfl rfl rfl (NA (ON 36 (by kernel_rfl) rfl (PT rfl rfl rfl (NA (WA.done (by kernel_rfl) (TN (CT rfl (SQ (RG (AS rfl rfl (NL (TN (RT ?_))))))))))))))))))))))))))))))))))))))))))
                      refine WQ.ret1 rfl rfl H.ext ?_
                      exact by rw [hv, hbad]
                    · refine NA (ON 26 (by kernel_rfl) rfl (PF rfl rfl rfl (NA (ON 27 (by kernel_rfl) rfl (MV rfl rfl (NA (ON 28 (by kernel_rfl) rfl (SG (Ex.move rfl) rfl rfl rfl (NA (ON 29 (by kernel_rfl) rfl (SG (Ex.idxStr Tryz.underlying9 rfl rfl (hx3)) rfl rfl rfl (NA (ON 30 (by kernel_rfl) rfl ?_)))))))))))))
                      refine WR.split (Ex.lss rfl rfl) (Wn.some rfl rfl rfl) rfl rfl (fun h25_30 => ?_) (fun h25_30 => ?_)
                      · have hbad := vld_bad hne (hm.2 (by omega))
                        refine NA (ON 31 (by kernel_rfl) rfl (PF rfl rfl rfl (NA (ON 32 (by kernel_rfl) rfl (MV rfl rfl (NA (ON 33 (by kernel_rfl) rfl (GT rfl rfl rfl (NA (ON 34 (by kernel_rfl) rfl (GT rfl rfl rfl (NA (ON 35 (by kernel_rfl) rfl (GT rfl rfl rfl (NA (ON 36 (by kernel_rfl) rfl (PT rfl rfl rfl (NA (WA.done (by kernel_rfl) (TN (CT rfl (SQ (RG (AS rfl rfl (NL (TN (RT ?_)))))))))))))))))))))))))))
                        refine WQ.ret1 rfl rfl H.ext ?_
                        exact by rw [hv, hbad]
                      · refine NA (ON 31 (by kernel_rfl) rfl (PF rfl rfl rfl (NA (ON 32 (by kernel_rfl) rfl (MV rfl rfl (NA (ON 33 (by kernel_rfl) rfl (SG (Ex.move rfl) rfl rfl rfl (NA (ON 34 (by kernel_rfl) rfl (SG (Ex.idxStr Tryz.underlying9 rfl rfl (hx3)) rfl rfl rfl (NA (ON 35 (by kernel_rfl) rfl ?_)))))))))))))
                        refine WR.split (Ex.lss rfl rfl) (Wn.some rfl rfl rfl) rfl rfl (fun h25_35 => ?_) (fun h25_35 => ?_)
                        · have hbad := vld_bad hne (hm.2 (by omega))
                          refine NA (ON 36 (by kernel_rfl) rfl (PF rfl rfl rfl (NA (WA.done (by kernel_rfl) (TN (CT rfl (SQ (RG (AS rfl rfl (NL (TN (RT ?_))))))))))))
                          refine WQ.ret1 rfl rfl H.ext ?_
                          exact by rw [hv, hbad]
                        · refine NA (ON 36 (by kernel_rfl) rfl (PF rfl rfl rfl (NA (WA.done (by kernel_rfl) (TN (CF rfl (SK (TN (RG (MV rfl rfl (WR.stepE (v' := S (t.drop 4)) (Ex.sliceStr (i := 4) (j := t.length) Tryz.underlying9 rfl (.inl ⟨_, rfl, rfl⟩) (.inr ⟨rfl, rfl⟩) (by omega) (by omega)) (by rw [List.take_length]) (Wn.none rfl) rfl rfl ?_)))))))))))
                          refine AS rfl rfl (NL (IB (IB ?_)))
                          refine WQ.again1 (t.drop 4) ⟨rfl, trivial⟩ ?_ ?_
                          · exact ⟨by rw [List.length_drop]; omega, by rw [hv]; exact vld_good hne (hm.1 (by omega)), M, H.drop (List.nil_sublist _), hp⟩
                          · rw [List.length_drop]; omega
          · have hbad := vld_bad hne (multi1 (t := t) (by omega) (by rw [hcn]; exact hc1 (by omega)))
            refine AS rfl rfl (NL (TN (CF rfl (SQ (RG (AS rfl rfl (NL (TN (RT ?_)))))))))
            refine WQ.ret1 rfl rfl H.ext ?_
            exact by rw [hv, hbad]
  · have hr : vld l = true := by rw [hv, List.eq_nil_of_length_eq_zero (show t.length = 0 by omega)]; rfl
    refine NL (TN (CF rfl (WC.exit (WQ.thenExit (WQ.thenExit (WQ.exitHere (TN (SQ (RG (AS rfl rfl (NL (TN (RT ?_)))))))))))))
    refine WQ.ret1 rfl rfl H.ext ?_
    exact by rw [hr]
end Go.Proofs.YtogkmhjnojphiaaGreatDoor
end
section
set_option linter.unusedVariables false
set_option linter.unusedSimpArgs false
namespace Go.Proofs.YtogkmhjnojphiaaGreatDoor
open Go Go.RowKit Go.Ph
open Go.Ph.Gr Go.Ph.Utf Go.Ph.Chs
theorem grown_alloc {w w' : World} {o : Obj} {row : Option Nat} (h : (w.alloc o).grownBy w' row) (hr : row = none) : w.grownBy w' none := by
  subst hr
  have h1 : w.grownBy (w.alloc o) none := grownBy_alloc' w o
  exact ⟨h.os.trans h1.os, h.tape.trans h1.tape, h.output.trans h1.output, Nat.le_trans h1.size h.size, fun k hk hn => (h.block k (Nat.lt_of_lt_of_le hk h1.size) (by simp)).trans (h1.block k hk (by simp))⟩
theorem utf8_Z (c : Int) : utf8 c = (Lib.encodeRuneZ c).map ub := by
  unfold utf8
  by_cases h1 : 0 ≤ c ∧ c ≤ 127
  · rw [fixN_id (by omega) (by omega) (by omega), Lib.encodeRuneZ_one h1.1 h1.2, utf8M, if_pos (by omega)]; rfl
  · by_cases h2 : 128 ≤ c ∧ c ≤ 2047
    · rw [fixN_id (by omega) (by omega) (by omega), Lib.encodeRuneZ_two h2.1 h2.2, utf8M, if_neg (by omega), if_pos (by omega)]; rfl
    · by_cases h3 : (2048 ≤ c ∧ c < 55296) ∨ (57343 < c ∧ c ≤ 65535)
      · rw [fixN_id (by omega) (by omega) (by omega), Lib.encodeRuneZ_three h3, utf8M, if_neg (by omega), if_neg (by omega), if_pos (by omega)]; rfl
      · by_cases h4 : 65536 ≤ c ∧ c ≤ 1114111
        · rw [fixN_id (by omega) (by omega) (by omega), Lib.encodeRuneZ_four h4.1 h4.2, utf8M, if_neg (by omega), if_neg (by omega), if_neg (by omega)]; rfl
        · rw [fixN_bad (by omega), Lib.encodeRuneZ_bad (by omega)]; decide
theorem runeCells_utf8 (c : Int) : Lib.runeCells c = (utf8 c).map encB := by
  unfold Lib.runeCells
  rw [utf8_Z, List.map_map]
  apply List.map_congr_left
  intro x hx
  have h := Lib.encodeRuneZ_byte c x hx
  show Value.int .u8 x = Value.int .u8 ((ub x).toNat : Int)
  rw [ub_nat h.1 h.2]
theorem appendRune_spec (c : Int) (h0 : -2147483648 ≤ c) (h1 : c ≤ 2147483647) : Ct Tryz.prog 160 [.slice none 0 0, encR c] (fun _ => True) (fun r M => Bs M r (utf8 c)) := by
  refine ⟨enters Tryz.func160 (by kernel_rfl) rfl, fun w M ha hp => ?_⟩
  have hlen := utf8_len c
  refine (Tryz.utf8_AppendRune_plain w.heap.size (.slice none 0 0) 0 [] c h0 h1 w (World.ownsRow_nil _ _ _ _) (by decide) (Nat.le_refl _)).mono fun e w' => ?_
  rintro ⟨v', rfl, hown, o, hg⟩
  have hgr := grown_alloc hg rfl
  rw [runeCells_utf8, List.nil_append, List.length_map, Nat.zero_add] at hown
  have hh : (RowI 5 encB v' (utf8 c)).holds w' := by
    refine ⟨hown.1, ?_⟩
    rcases hown.2 with h | ⟨g, cap, cur, hv, hb, hgg⟩
    · exact .inl h
    · exact .inr ⟨g, cap, cur, hv, Nat.zero_le _, hgg⟩
  have H1 : St w M M [RowI 5 encB v' (utf8 c)] w' := (StX.start ha).new hgr hh (fun b hb => (World.ownsRow.lt hown b hb).1)
  obtain ⟨M', hle, hS, H2⟩ := H1.freezeRow (L' := []) .head
  exact ⟨_, M', rfl, H2.ext, hS⟩
theorem dec1_spec (v : Value) (l : List UInt8) (b : Nat) (bound : Int) (hs : l.length ≤ 12000) : Ct Tryz.prog 186 [v, ptr b 0] (fun M => Bs M v l ∧ CellM M ⟨b, 0, none⟩ (encR bound)) (fun r M => Sl M encR r (decS bound l)) := by
  refine Ct.of Tryz.func186 (enters Tryz.func186 (by kernel_rfl) rfl) rfl rfl rfl ?_
  intro w0 M0 H hp
  obtain ⟨hb, hcell⟩ := hp
  refine SQ (RG (AS rfl rfl (NL (TN (SQ (RG (AS rfl rfl (NL (TN (SQ (SQ (RG (MV rfl rfl ?_)))))))))))))
  first | refine WR.step (Ex.lenSl Tryz.underlying30 (by assumption) rfl) (Wn.none rfl) rfl rfl ?_ | refine WR.step (Ex.lenRow Tryz.underlying30 H (by repeat (first | exact List.Mem.head _ | apply List.Mem.tail)) rfl) (Wn.none rfl) rfl rfl ?_ | refine WR.step (Ex.lenSlice Tryz.underlying30 rfl) (Wn.none rfl) rfl rfl ?_
  refine MV rfl rfl (NL (TN (BL ?_)))
  replace H := H.newRow 21 encR
  refine WC.loop3 (fun (k : Nat) (ov : Value) (o : List Int) => [(1, ptr b 0), (4, ov), (8, v), (9, I (l.length : Int)), (10, encN k)]) (fun (k : Nat) (ov : Value) (o : List Int) w => k ≤ l.length ∧ o = decS bound (l.take k) ∧ ∃ M, St w0 M0 M [RowI 21 encR ov o] w ∧ Bs M v l ∧ CellM M ⟨b, 0, none⟩ (encR bound)) (fun (k : Nat) (ov : Value) (o : List Int) => l.length - k) (0) (_) (_) ⟨rfl, rfl, rfl, rfl, rfl, trivial⟩ (⟨by omega, rfl, M0, H, hb, hcell⟩) ?_
  intro k ov o w
  rintro ⟨hk, ho, M, H, hb, hcell⟩
  have hol : o.length = k := by rw [ho]; simp [decS]; omega
  refine SQ (RG ?_)
  refine WR.split (Ex.lss rfl rfl) (Wn.none rfl) rfl rfl (fun h3_0 => ?_) (fun h3_0 => ?_)
  · obtain ⟨c, hc⟩ : ∃ c, l[k]? = some c := ⟨_, List.getElem?_eq_getElem (by omega)⟩
    have hclt := c.toNat_lt
    have hdn : decS bound (l.take (k + 1)) = decS bound (l.take k) ++ [if bound ≤ (c.toNat : Int) then 65533 else (c.toNat : Int)] := by
      obtain ⟨e1, e2⟩ := List.getElem?_eq_some_iff.1 hc
      rw [List.take_succ_eq_append_getElem e1, e2]; simp [decS]
    refine NL (TN (SQ (CT rfl (SK (TN (SQ (BL (SQ (RG (WR.idxSl Tryz.underlying30 Tryz.sizeOf5 (by assumption) rfl rfl (hc) (Wn.none rfl) rfl ?_))))))))))
    intro p12 hc12
    first | refine WR.step (Ex.loadM H rfl (by assumption) Tryz.isAgg5) (Wn.none rfl) rfl rfl ?_ | refine WR.step (Ex.load1 H rfl (by repeat (first | exact List.Mem.head _ | apply List.Mem.tail)) Tryz.isAgg5 (by rfl)) (Wn.none rfl) rfl rfl ?_
    refine AS rfl rfl (NL (TN (SQ (RG (MV rfl rfl (WR.stepE (v' := encR (c.toNat : Int)) (Ex.conv Tryz.underlying5 Tryz.underlying21 rfl) (congrArg encR (i32_in (by omega))) (Wn.none rfl) rfl rfl ?_))))))
    refine AS rfl rfl (NL (TN (SQ (SQ (RG (MV rfl rfl ?_))))))
    first | refine WR.step (Ex.loadM H rfl (by assumption) Tryz.isAgg21) (Wn.none rfl) rfl rfl ?_ | refine WR.step (Ex.load1 H rfl (by repeat (first | exact List.Mem.head _ | apply List.Mem.tail)) Tryz.isAgg21 (by rfl)) (Wn.none rfl) rfl rfl ?_
    refine WR.split (Ex.geq rfl rfl) (Wn.none rfl) rfl rfl (fun h6_2 => ?_) (fun h6_2 => ?_)
    · refine NL (TN (CT rfl (RG (AS rfl rfl (NL (TN (RG (MV rfl rfl (MV rfl rfl (WR.lit (enc := encR) ty170 [_] H rfl (by rfl) (fun _ => rfl) rfl rfl (Wn.none rfl) rfl ?_))))))))))
      intro v21 M w H hle hl21
      replace hb := hb.mono hle
      replace hcell := hcell.mono hle
      replace hc12 := hc12.mono hle
      refine WR.appendSl ty170 (fun _ => rfl) H rfl (fun _ => by repeat first | exact .head | apply Upd.tail) rfl (by assumption) (by first | omega | (simp only [List.length_append, List.length_cons, List.length_nil, List.length_take, List.length_drop]; omega)) (by first | (simp only [maxLen]; omega) | (simp only [maxLen, List.length_append, List.length_cons, List.length_nil, List.length_take, List.length_drop]; omega)) (Wn.none rfl) rfl ?_
      intro v22 w H
      refine AS rfl rfl (NL (IB (TN (RG (ST (Ex.add64 rfl rfl (by omega)) rfl ?_)))))
      refine MV rfl rfl (NL ?_)
      refine WQ.again3 (k + 1) (v22) (o ++ [65533]) ⟨rfl, rfl, rfl, rfl, rfl, trivial⟩ ?_ ?_
      · refine ⟨by omega, ?_, M, H, hb, hcell⟩
        rw [hdn, ← ho, if_pos h6_2]
      · omega
    · refine NL (TN (CF rfl (SK (TN (RG (MV rfl rfl (MV rfl rfl (WR.lit (enc := encR) ty170 [_] H rfl (by rfl) (fun _ => rfl) rfl rfl (Wn.none rfl) rfl ?_))))))))
      intro v21 M w H hle hl21
      replace hb := hb.mono hle
      replace hcell := hcell.mono hle
      replace hc12 := hc12.mono hle
      refine WR.appendSl ty170 (fun _ => rfl) H rfl (fun _ => by repeat first | exact .head | apply Upd.tail) rfl (by assumption) (by first | omega | (simp only [List.length_append, List.length_cons, List.length_nil, List.length_take, List.length_drop]; omega)) (by first | (simp only [maxLen]; omega) | (simp only [maxLen, List.length_append, List.length_cons, List.length_nil, List.length_take, List.length_drop]; omega)) (Wn.none rfl) rfl ?_
      intro v22 w H
      refine AS rfl rfl (NL (IB (TN (RG (ST (Ex.add64 rfl rfl (by omega)) rfl ?_)))))
      refine MV rfl rfl (NL ?_)
      refine WQ.again3 (k + 1) (v22) (o ++ [(c.toNat : Int)]) ⟨rfl, rfl, rfl, rfl, rfl, trivial⟩ ?_ ?_
      · refine ⟨by omega, ?_, M, H, hb, hcell⟩
        rw [hdn, ← ho, if_neg h6_2]
      · omega
  · refine NL (TN (SQ (CF rfl (WC.exit (WQ.thenExit (WQ.thenExit (WQ.exitHere (TN (SQ (RG (MV rfl rfl (AS rfl rfl (NL (TN (RT ?_)))))))))))))))
    obtain ⟨M, hle, hf, H⟩ := H.freezeRow (v := ov) (enc := encR) (t := 21) (by repeat first | exact .head | apply Rem.tail)
    refine WQ.ret1 rfl rfl H.ext ( ?_)
    rw [ho, List.take_of_length_le (by omega)] at hf
    exact hf
theorem enc1_spec (c : Int) (b : Nat) (bound : Int) : Ct Tryz.prog 187 [encR c, ptr b 0] (fun M => CellM M ⟨b, 0, none⟩ (encR bound)) (fun r M => ∃ v, r = .tuple #[v, .bool (decide (c < bound))] ∧ Bs M v ([ub c])) := by
  refine Ct.of Tryz.func187 (enters Tryz.func187 (by kernel_rfl) rfl) rfl rfl rfl ?_
  intro w0 M0 H hp
  refine SQ (RG (AS rfl rfl (AS rfl rfl (NL (TN (SQ (WC.draw (m := 8) rfl rfl H ?_)))))))
  intro w H
  refine WA.take (i := 0) rfl (by kernel_rfl) (by kernel_rfl) (by kernel_rfl) (fun _ => Ex.move rfl) (Wn.none rfl) rfl rfl (fun _ _ => rfl) (WA.take (i := 1) rfl (by kernel_rfl) (by kernel_rfl) (by kernel_rfl) (fun _ => Ex.convU8 Tryz.underlying21 Tryz.underlying5 rfl) (Wn.none rfl) rfl rfl (fun _ _ => rfl) (WA.take (i := 3) rfl (by kernel_rfl) (by kernel_rfl) (by kernel_rfl) (fun _ => Ex.move rfl) (Wn.none rfl) rfl rfl (fun _ _ => rfl) ?_))
  refine WA.two (i := 2) (j := 4) (by kernel_rfl) rfl rfl ?_ ?_
  · refine WR.lit (enc := encB) ty30 [_] H rfl (by rfl) (fun _ => rfl) rfl rfl (Wn.none rfl) rfl ?_
    intro v7 M w H hle hl7
    replace hp := hp.mono hle
    refine NA (WA.take (i := 6) rfl (by kernel_rfl) (by kernel_rfl) (by kernel_rfl) (fun _ => Ex.assign rfl) (Wn.none rfl) rfl rfl (fun _ _ => rfl) (ON 4 (by kernel_rfl) rfl ?_))
    first | refine WR.step (Ex.loadM H rfl (by assumption) Tryz.isAgg21) (Wn.none rfl) rfl rfl ?_ | refine WR.step (Ex.load1 H rfl (by repeat (first | exact List.Mem.head _ | apply List.Mem.tail)) Tryz.isAgg21 (by rfl)) (Wn.none rfl) rfl rfl ?_
    refine NA (ON 5 (by kernel_rfl) rfl (ST (Ex.lss rfl rfl) rfl (NA (ON 7 (by kernel_rfl) rfl (AS rfl rfl (NA (WA.done (by kernel_rfl) (TN (RT ?_)))))))))
    refine WQ.ret2 rfl rfl rfl H.ext ?_
    exact ⟨_, rfl, hl7⟩
  · first | refine WR.step (Ex.loadM H rfl (by assumption) Tryz.isAgg21) (Wn.none rfl) rfl rfl ?_ | refine WR.step (Ex.load1 H rfl (by repeat (first | exact List.Mem.head _ | apply List.Mem.tail)) Tryz.isAgg21 (by rfl)) (Wn.none rfl) rfl rfl ?_
    refine NA (WA.take (i := 5) rfl (by kernel_rfl) (by kernel_rfl) (by kernel_rfl) (fun _ => Ex.lss rfl rfl) (Wn.none rfl) rfl rfl (fun _ _ => rfl) (ON 2 (by kernel_rfl) rfl (WR.lit (enc := encB) ty30 [_] H rfl (by rfl) (fun _ => rfl) rfl rfl (Wn.none rfl) rfl ?_)))
    intro v7 M w H hle hl7
    replace hp := hp.mono hle
    refine NA (ON 6 (by kernel_rfl) rfl (AS rfl rfl (NA (ON 7 (by kernel_rfl) rfl (AS rfl rfl (NA (WA.done (by kernel_rfl) (TN (RT ?_)))))))))
    refine WQ.ret2 rfl rfl rfl H.ext ?_
    exact ⟨_, rfl, hl7⟩
theorem decU_spec (v : Value) (l : List UInt8) (hs : l.length ≤ 12000) : Ct Tryz.prog 158 [v] (fun M => Bs M v l) (fun r M => Sl M encR r (decU l)) := by
  refine Ct.of Tryz.func158 (enters Tryz.func158 (by kernel_rfl) rfl) rfl rfl rfl ?_
  intro w0 M0 H hp
  refine SQ (RG (AS rfl rfl (NL (TN (SQ (RG (MV rfl rfl (ST (Ex.toStr Tryz.underlying30 Tryz.underlying5 Tryz.underlying9 H (by assumption) rfl) rfl ?_))))))))
  refine WR.runesOf H Tryz.underlying9 Tryz.underlying170 Tryz.underlying21 rfl (by omega) (Wn.none rfl) rfl ?_
  intro v5 M w H hle hl5
  replace hp := hp.mono hle
  refine AS rfl rfl (NL (TN (RT ?_)))
  refine WQ.ret1 rfl rfl H.ext ?_
  exact hl5
theorem encU_spec (c : Int) (h0 : -2147483648 ≤ c) (h1 : c ≤ 2147483647) : Ct Tryz.prog 159 [encR c] (fun _ => True) (fun r M => ∃ v, r = .tuple #[v, .bool true] ∧ Bs M v (utf8 c)) := by
  refine Ct.of Tryz.func159 (enters Tryz.func159 (by kernel_rfl) rfl) rfl rfl rfl ?_
  intro w0 M0 H hp
  refine SQ (RG (AS rfl rfl (AS rfl rfl (NL (TN (SQ (RG (MV rfl rfl (WR.call H (appendRune_spec _ (by omega) (by omega)) rfl (trivial) (Wn.none rfl) rfl ?_)))))))))
  intro v5 M w H hle hr5
  have hf5 := hr5
  refine AS rfl rfl (AS rfl rfl (NL (TN (RT ?_))))
  refine WQ.ret2 rfl rfl rfl H.ext ?_
  exact ⟨_, rfl, hf5⟩
theorem unit_or (x y : UInt8) : ((x.toNat * 2 ^ 8 ||| y.toNat : Nat) : Int) = unit x y := by
  have hy := y.toNat_lt
  have h := Nat.shiftLeft_add_eq_or_of_lt (a := x.toNat) (b := y.toNat) (i := 8) hy
  rw [Nat.shiftLeft_eq] at h
  rw [← h]; unfold unit; omega
theorem unit_spec (v : Value) (l : List UInt8) (b i : Nat) (x y : UInt8) (hs : l.length ≤ 12000) (hx : l[i]? = some x) (hy : l[i + 1]? = some y) : Ct Tryz.prog 189 [encN i, ptr b 0] (fun M => Bs M v l ∧ CellM M ⟨b, 0, none⟩ v) (fun r _ => r = encR (unit x y)) := by
  refine Ct.of Tryz.func189 (enters Tryz.func189 (by kernel_rfl) rfl) rfl rfl rfl ?_
  intro w0 M0 H hp
  obtain ⟨hb, hcell⟩ := hp
  have hxl := x.toNat_lt
  have hyl := y.toNat_lt
  have hil := (List.getElem?_eq_some_iff.1 hy).1
  have hul := unit_lt x y
  refine SQ (RG (AS rfl rfl (NL (TN (SQ (WC.draw (m := 14) rfl rfl H ?_))))))
  intro w H
  refine WA.take (i := 1) rfl (by kernel_rfl) (by kernel_rfl) (by kernel_rfl) (fun _ => Ex.move rfl) (Wn.none rfl) rfl rfl (fun _ _ => rfl) (WA.take (i := 7) rfl (by kernel_rfl) (by kernel_rfl) (by kernel_rfl) (fun _ => Ex.move rfl) (Wn.none rfl) rfl rfl (fun _ _ => rfl) (WA.takeE (v' := encN (i + 1)) (i := 8) rfl (by kernel_rfl) (by kernel_rfl) (by kernel_rfl) (fun _ => Ex.add64 rfl rfl (by omega)) rfl (Wn.none rfl) rfl rfl (fun _ _ => rfl) ?_))
  refine WA.two (i := 0) (j := 6) (by kernel_rfl) rfl rfl ?_ ?_
  · first | refine WR.step (Ex.loadM H rfl (by assumption) Tryz.isAgg30) (Wn.none rfl) rfl rfl ?_ | refine WR.step (Ex.load1 H rfl (by repeat (first | exact List.Mem.head _ | apply List.Mem.tail)) Tryz.isAgg30 (by rfl)) (Wn.none rfl) rfl rfl ?_
    refine NA (WA.takeIdx (i := 2) rfl (by kernel_rfl) (by kernel_rfl) (by kernel_rfl) Tryz.underlying30 Tryz.sizeOf5 (by assumption) rfl rfl (hx) (Wn.none rfl) rfl ?_)
    intro p6 hc6
    refine WA.two (i := 3) (j := 6) (by kernel_rfl) rfl rfl ?_ ?_
    · first | refine WR.step (Ex.loadM H rfl (by assumption) Tryz.isAgg5) (Wn.none rfl) rfl rfl ?_ | refine WR.step (Ex.load1 H rfl (by repeat (first | exact List.Mem.head _ | apply List.Mem.tail)) Tryz.isAgg5 (by rfl)) (Wn.none rfl) rfl rfl ?_
      refine NA (WA.takeE (v' := encR (x.toNat : Int)) (i := 4) rfl (by kernel_rfl) (by kernel_rfl) (by kernel_rfl) (fun _ => Ex.conv Tryz.underlying5 Tryz.underlying21 rfl) (congrArg encR (i32_in (by omega))) (Wn.none rfl) rfl rfl (fun _ _ => rfl) ?_)
      refine WA.takeE (v' := encR ((x.toNat * 2 ^ 8 : Nat) : Int)) (i := 5) rfl (by kernel_rfl) (by kernel_rfl) (by kernel_rfl) (fun _ => Ex.shlK (m := x.toNat) (s := 8) rfl rfl (by decide)) (congrArg encR (i32_in (by omega))) (Wn.none rfl) rfl rfl (fun _ _ => rfl) ?_
      refine ON 6 (by kernel_rfl) rfl ?_
      first | refine WR.step (Ex.loadM H rfl (by assumption) Tryz.isAgg30) (Wn.none rfl) rfl rfl ?_ | refine WR.step (Ex.load1 H rfl (by repeat (first | exact List.Mem.head _ | apply List.Mem.tail)) Tryz.isAgg30 (by rfl)) (Wn.none rfl) rfl rfl ?_
      refine NA (ON 9 (by kernel_rfl) rfl (WR.idxSl Tryz.underlying30 Tryz.sizeOf5 (by assumption) rfl rfl (hy) (Wn.none rfl) rfl ?_))
      intro p13 hc13
      refine NA (ON 10 (by kernel_rfl) rfl ?_)
      first | refine WR.step (Ex.loadM H rfl (by assumption) Tryz.isAgg5) (Wn.none rfl) rfl rfl ?_ | refine WR.step (Ex.load1 H rfl (by repeat (first | exact List.Mem.head _ | apply List.Mem.tail)) Tryz.isAgg5 (by rfl)) (Wn.none rfl) rfl rfl ?_
      refine NA (ON 11 (by kernel_rfl) rfl (WR.stepE (v' := encR (y.toNat : Int)) (Ex.conv Tryz.underlying5 Tryz.underlying21 rfl) (congrArg encR (i32_in (by omega))) (Wn.none rfl) rfl rfl ?_))
      refine NA (ON 12 (by kernel_rfl) rfl (WR.stepE (v' := encR (unit x y)) (Ex.orK (m := (x.toNat * 2 ^ 8)) (s := y.toNat) rfl rfl (by first | decide | (show _ < 256; omega) | (show _ < 4294967296; omega) | (show _ < 18446744073709551616; omega)) (by first | decide | (show _ < 256; omega) | (show _ < 4294967296; omega) | (show _ < 18446744073709551616; omega))) (congrArg encR (by rw [unit_or]; exact i32_in (by omega))) (Wn.none rfl) rfl rfl ?_))
      refine NA (ON 13 (by kernel_rfl) rfl (AS rfl rfl (NA (WA.done (by kernel_rfl) (TN (RT ?_))))))
      refine WQ.ret1 rfl rfl H.ext ?_
      exact rfl
    · first | refine WR.step (Ex.loadM H rfl (by assumption) Tryz.isAgg30) (Wn.none rfl) rfl rfl ?_ | refine WR.step (Ex.load1 H rfl (by repeat (first | exact List.Mem.head _ | apply List.Mem.tail)) Tryz.isAgg30 (by rfl)) (Wn.none rfl) rfl rfl ?_
      refine NA (WA.takeIdx (i := 9) rfl (by kernel_rfl) (by kernel_rfl) (by kernel_rfl) Tryz.underlying30 Tryz.sizeOf5 (by assumption) rfl rfl (hy) (Wn.none rfl) rfl ?_)
      intro p13 hc13
      refine WA.two (i := 3) (j := 10) (by kernel_rfl) rfl rfl ?_ ?_
      · first | refine WR.step (Ex.loadM H rfl (by assumption) Tryz.isAgg5) (Wn.none rfl) rfl rfl ?_ | refine WR.step (Ex.load1 H rfl (by repeat (first | exact List.Mem.head _ | apply List.Mem.tail)) Tryz.isAgg5 (by rfl)) (Wn.none rfl) rfl rfl ?_
        refine NA (WA.takeE (v' := encR (x.toNat : Int)) (i := 4) rfl (by kernel_rfl) (by kernel_rfl) (by kernel_rfl) (fun _ => Ex.conv Tryz.underlying5 Tryz.underlying21 rfl) (congrArg encR (i32_in (by omega))) (Wn.none rfl) rfl rfl (fun _ _ => rfl) ?_)
        refine WA.takeE (v' := encR ((x.toNat * 2 ^ 8 : Nat) : Int)) (i := 5) rfl (by kernel_rfl) (by kernel_rfl) (by kernel_rfl) (fun _ => Ex.shlK (m := x.toNat) (s := 8) rfl rfl (by decide)) (congrArg encR (i32_in (by omega))) (Wn.none rfl) rfl rfl (fun _ _ => rfl) ?_
        refine ON 10 (by kernel_rfl) rfl ?_
        first | refine WR.step (Ex.loadM H rfl (by assumption) Tryz.isAgg5) (Wn.none rfl) rfl rfl ?_ | refine WR.step (Ex.load1 H rfl (by repeat (first | exact List.Mem.head _ | apply List.Mem.tail)) Tryz.isAgg5 (by rfl)) (Wn.none rfl) rfl rfl ?_
        refine NA (ON 11 (by kernel_rfl) rfl (WR.stepE (v' := encR (y.toNat : Int)) (Ex.conv Tryz.underlying5 Tryz.underlying21 rfl) (congrArg encR (i32_in (by omega))) (Wn.none rfl) rfl rfl ?_))
        refine NA (ON 12 (by kernel_rfl) rfl (WR.stepE (v' := encR (unit x y)) (Ex.orK (m := (x.toNat * 2 ^ 8)) (s := y.toNat) rfl rfl (by first | decide | (show _ < 256; omega) | (show _ < 4294967296; omega) | (show _ < 18446744073709551616; omega)) (by first | decide | (show _ < 256; omega) | (show _ < 4294967296; omega) | (show _ < 18446744073709551616; omega))) (congrArg encR (by rw [unit_or]; exact i32_in (by omega))) (Wn.none rfl) rfl rfl ?_))
        refine NA (ON 13 (by kernel_rfl) rfl (AS rfl rfl (NA (WA.done (by kernel_rfl) (TN (RT ?_))))))
        refine WQ.ret1 rfl rfl H.ext ?_
        exact rfl
      · first | refine WR.step (Ex.loadM H rfl (by assumption) Tryz.isAgg5) (Wn.none rfl) rfl rfl ?_ | refine WR.step (Ex.load1 H rfl (by repeat (first | exact List.Mem.head _ | apply List.Mem.tail)) Tryz.isAgg5 (by rfl)) (Wn.none rfl) rfl rfl ?_
        refine NA (WA.takeE (v' := encR (y.toNat : Int)) (i := 11) rfl (by kernel_rfl) (by kernel_rfl) (by kernel_rfl) (fun _ => Ex.conv Tryz.underlying5 Tryz.underlying21 rfl) (congrArg encR (i32_in (by omega))) (Wn.none rfl) rfl rfl (fun _ _ => rfl) ?_)
        refine ON 3 (by kernel_rfl) rfl ?_
        first | refine WR.step (Ex.loadM H rfl (by assumption) Tryz.isAgg5) (Wn.none rfl) rfl rfl ?_ | refine WR.step (Ex.load1 H rfl (by repeat (first | exact List.Mem.head _ | apply List.Mem.tail)) Tryz.isAgg5 (by rfl)) (Wn.none rfl) rfl rfl ?_
        refine NA (ON 4 (by kernel_rfl) rfl (WR.stepE (v' := encR (x.toNat : Int)) (Ex.conv Tryz.underlying5 Tryz.underlying21 rfl) (congrArg encR (i32_in (by omega))) (Wn.none rfl) rfl rfl ?_))
        refine NA (ON 5 (by kernel_rfl) rfl (WR.stepE (v' := encR ((x.toNat * 2 ^ 8 : Nat) : Int)) (Ex.shlK (m := x.toNat) (s := 8) rfl rfl (by decide)) (congrArg encR (i32_in (by omega))) (Wn.none rfl) rfl rfl ?_))
        refine NA (ON 12 (by kernel_rfl) rfl (WR.stepE (v' := encR (unit x y)) (Ex.orK (m := (x.toNat * 2 ^ 8)) (s := y.toNat) rfl rfl (by first | decide | (show _ < 256; omega) | (show _ < 4294967296; omega) | (show _ < 18446744073709551616; omega)) (by first | decide | (show _ < 256; omega) | (show _ < 4294967296; omega) | (show _ < 18446744073709551616; omega))) (congrArg encR (by rw [unit_or]; exact i32_in (by omega))) (Wn.none rfl) rfl rfl ?_))
        refine NA (ON 13 (by kernel_rfl) rfl (AS rfl rfl (NA (WA.done (by kernel_rfl) (TN (RT ?_))))))
        refine WQ.ret1 rfl rfl H.ext ?_
        exact rfl
  · first | refine WR.step (Ex.loadM H rfl (by assumption) Tryz.isAgg30) (Wn.none rfl) rfl rfl ?_ | refine WR.step (Ex.load1 H rfl (by repeat (first | exact List.Mem.head _ | apply List.Mem.tail)) Tryz.isAgg30 (by rfl)) (Wn.none rfl) rfl rfl ?_
    refine NA (WA.takeIdx (i := 9) rfl (by kernel_rfl) (by kernel_rfl) (by kernel_rfl) Tryz.underlying30 Tryz.sizeOf5 (by assumption) rfl rfl (hy) (Wn.none rfl) rfl ?_)
    intro p13 hc13
    refine WA.two (i := 0) (j := 10) (by kernel_rfl) rfl rfl ?_ ?_
    · first | refine WR.step (Ex.loadM H rfl (by assumption) Tryz.isAgg30) (Wn.none rfl) rfl rfl ?_ | refine WR.step (Ex.load1 H rfl (by repeat (first | exact List.Mem.head _ | apply List.Mem.tail)) Tryz.isAgg30 (by rfl)) (Wn.none rfl) rfl rfl ?_
      refine NA (WA.takeIdx (i := 2) rfl (by kernel_rfl) (by kernel_rfl) (by kernel_rfl) Tryz.underlying30 Tryz.sizeOf5 (by assumption) rfl rfl (hx) (Wn.none rfl) rfl ?_)
      intro p6 hc6
      refine WA.two (i := 3) (j := 10) (by kernel_rfl) rfl rfl ?_ ?_
      · first | refine WR.step (Ex.loadM H rfl (by assumption) Tryz.isAgg5) (Wn.none rfl) rfl rfl ?_ | refine WR.step (Ex.load1 H rfl (by repeat (first | exact List.Mem.head _ | apply List.Mem.tail)) Tryz.isAgg5 (by rfl)) (Wn.none rfl) rfl rfl ?_
        refine NA (WA.takeE (v' := encR (x.toNat : Int)) (i := 4) rfl (by kernel_rfl) (by kernel_rfl) (by kernel_rfl) (fun _ => Ex.conv Tryz.underlying5 Tryz.underlying21 rfl) (congrArg encR (i32_in (by omega))) (Wn.none rfl) rfl rfl (fun _ _ => rfl) ?_)
        refine WA.takeE (v' := encR ((x.toNat * 2 ^ 8 : Nat) : Int)) (i := 5) rfl (by kernel_rfl) (by kernel_rfl) (by kernel_rfl) (fun _ => Ex.shlK (m := x.toNat) (s := 8) rfl rfl (by decide)) (congrArg encR (i32_in (by omega))) (Wn.none rfl) rfl rfl (fun _ _ => rfl) ?_
        refine ON 10 (by kernel_rfl) rfl ?_
        first | refine WR.step (Ex.loadM H rfl (by assumption) Tryz.isAgg5) (Wn.none rfl) rfl rfl ?_ | refine WR.step (Ex.load1 H rfl (by repeat (first | exact List.Mem.head _ | apply List.Mem.tail)) Tryz.isAgg5 (by rfl)) (Wn.none rfl) rfl rfl ?_
        refine NA (ON 11 (by kernel_rfl) rfl (WR.stepE (v' := encR (y.toNat : Int)) (Ex.conv Tryz.underlying5 Tryz.underlying21 rfl) (congrArg encR (i32_in (by omega))) (Wn.none rfl) rfl rfl ?_))
        refine NA (ON 12 (by kernel_rfl) rfl (WR.stepE (v' := encR (unit x y)) (Ex.orK (m := (x.toNat * 2 ^ 8)) (s := y.toNat) rfl rfl (by first | decide | (show _ < 256; omega) | (show _ < 4294967296; omega) | (show _ < 18446744073709551616; omega)) (by first | decide | (show _ < 256; omega) | (show _ < 4294967296; omega) | (show _ < 18446744073709551616; omega))) (congrArg encR (by rw [unit_or]; exact i32_in (by omega))) (Wn.none rfl) rfl rfl ?_))
        refine NA (ON 13 (by kernel_rfl) rfl (AS rfl rfl (NA (WA.done (by kernel_rfl) (TN (RT ?_))))))
        refine WQ.ret1 rfl rfl H.ext ?_
        exact rfl
      · first | refine WR.step (Ex.loadM H rfl (by assumption) Tryz.isAgg5) (Wn.none rfl) rfl rfl ?_ | refine WR.step (Ex.load1 H rfl (by repeat (first | exact List.Mem.head _ | apply List.Mem.tail)) Tryz.isAgg5 (by rfl)) (Wn.none rfl) rfl rfl ?_
        refine NA (WA.takeE (v' := encR (y.toNat : Int)) (i := 11) rfl (by kernel_rfl) (by kernel_rfl) (by kernel_rfl) (fun _ => Ex.conv Tryz.underlying5 Tryz.underlying21 rfl) (congrArg encR (i32_in (by omega))) (Wn.none rfl) rfl rfl (fun _ _ => rfl) ?_)
        refine ON 3 (by kernel_rfl) rfl ?_
        first | refine WR.step (Ex.loadM H rfl (by assumption) Tryz.isAgg5) (Wn.none rfl) rfl rfl ?_ | refine WR.step (Ex.load1 H rfl (by repeat (first | exact List.Mem.head _ | apply List.Mem.tail)) Tryz.isAgg5 (by rfl)) (Wn.none rfl) rfl rfl ?_
        refine NA (ON 4 (by kernel_rfl) rfl (WR.stepE (v' := encR (x.toNat : Int)) (Ex.conv Tryz.underlying5 Tryz.underlying21 rfl) (congrArg encR (i32_in (by omega))) (Wn.none rfl) rfl rfl ?_))
        refine NA (ON 5 (by kernel_rfl) rfl (WR.stepE (v' := encR ((x.toNat * 2 ^ 8 : Nat) : Int)) (Ex.shlK (m := x.toNat) (s := 8) rfl rfl (by decide)) (congrArg encR (i32_in (by omega))) (Wn.none rfl) rfl rfl ?_))
        refine NA (ON 12 (by kernel_rfl) rfl (WR.stepE (v' := encR (unit x y)) (Ex.orK (m := (x.toNat * 2 ^ 8)) (s := y.toNat) rfl rfl (by first | decide | (show _ < 256; omega) | (show _ < 4294967296; omega) | (show _ < 18446744073709551616; omega)) (by first | decide | (show _ < 256; omega) | (show _ < 4294967296; omega) | (show _ < 18446744073709551616; omega))) (congrArg encR (by rw [unit_or]; exact i32_in (by omega))) (Wn.none rfl) rfl rfl ?_))
        refine NA (ON 13 (by kernel_rfl) rfl (AS rfl rfl (NA (WA.done (by kernel_rfl) (TN (RT ?_))))))
        refine WQ.ret1 rfl rfl H.ext ?_
        exact rfl
    · first | refine WR.step (Ex.loadM H rfl (by assumption) Tryz.isAgg5) (Wn.none rfl) rfl rfl ?_ | refine WR.step (Ex.load1 H rfl (by repeat (first | exact List.Mem.head _ | apply List.Mem.tail)) Tryz.isAgg5 (by rfl)) (Wn.none rfl) rfl rfl ?_
      refine NA (WA.takeE (v' := encR (y.toNat : Int)) (i := 11) rfl (by kernel_rfl) (by kernel_rfl) (by kernel_rfl) (fun _ => Ex.conv Tryz.underlying5 Tryz.underlying21 rfl) (congrArg encR (i32_in (by omega))) (Wn.none rfl) rfl rfl (fun _ _ => rfl) ?_)
      refine ON 0 (by kernel_rfl) rfl ?_
      first | refine WR.step (Ex.loadM H rfl (by assumption) Tryz.isAgg30) (Wn.none rfl) rfl rfl ?_ | refine WR.step (Ex.load1 H rfl (by repeat (first | exact List.Mem.head _ | apply List.Mem.tail)) Tryz.isAgg30 (by rfl)) (Wn.none rfl) rfl rfl ?_
      refine NA (ON 2 (by kernel_rfl) rfl (WR.idxSl Tryz.underlying30 Tryz.sizeOf5 (by assumption) rfl rfl (hx) (Wn.none rfl) rfl ?_))
      intro p6 hc6
      refine NA (ON 3 (by kernel_rfl) rfl ?_)
      first | refine WR.step (Ex.loadM H rfl (by assumption) Tryz.isAgg5) (Wn.none rfl) rfl rfl ?_ | refine WR.step (Ex.load1 H rfl (by repeat (first | exact List.Mem.head _ | apply List.Mem.tail)) Tryz.isAgg5 (by rfl)) (Wn.none rfl) rfl rfl ?_
      refine NA (ON 4 (by kernel_rfl) rfl (WR.stepE (v' := encR (x.toNat : Int)) (Ex.conv Tryz.underlying5 Tryz.underlying21 rfl) (congrArg encR (i32_in (by omega))) (Wn.none rfl) rfl rfl ?_))
      refine NA (ON 5 (by kernel_rfl) rfl (WR.stepE (v' := encR ((x.toNat * 2 ^ 8 : Nat) : Int)) (Ex.shlK (m := x.toNat) (s := 8) rfl rfl (by decide)) (congrArg encR (i32_in (by omega))) (Wn.none rfl) rfl rfl ?_))
      refine NA (ON 12 (by kernel_rfl) rfl (WR.stepE (v' := encR (unit x y)) (Ex.orK (m := (x.toNat * 2 ^ 8)) (s := y.toNat) rfl rfl (by first | decide | (show _ < 256; omega) | (show _ < 4294967296; omega) | (show _ < 18446744073709551616; omega)) (by first | decide | (show _ < 256; omega) | (show _ < 4294967296; omega) | (show _ < 18446744073709551616; omega))) (congrArg encR (by rw [unit_or]; exact i32_in (by omega))) (Wn.none rfl) rfl rfl ?_))
      refine NA (ON 13 (by kernel_rfl) rfl (AS rfl rfl (NA (WA.done (by kernel_rfl) (TN (RT ?_))))))
      refine WQ.ret1 rfl rfl H.ext ?_
      exact rfl
end Go.Proofs.YtogkmhjnojphiaaGreatDoor
end
section
set_option linter.unusedVariables false
set_option linter.unusedSimpArgs false
namespace Go.Proofs.YtogkmhjnojphiaaGreatDoor
open Go Go.RowKit Go.Ph
open Go.Ph.Gr Go.Ph.Utf Go.Ph.Chs
theorem units_spec (v : Value) (l : List UInt8) (hs : l.length ≤ 12000) : Ct Tryz.prog 161 [v] (fun M => Bs M v l) (fun r M => Sl M encR r (decW l)) := by
  refine Ct.of Tryz.func161 (enters Tryz.func161 (by kernel_rfl) rfl) rfl rfl rfl ?_
  intro w0 M0 H hp
  refine SQ (RG (WR.box [_] H rfl (One.cells (by first | exact One.slice _ _ _ | exact Sl.one (by assumption) | exact StX.rowOne H (by repeat (first | exact List.Mem.head _ | apply List.Mem.tail)))) (Wn.none rfl) rfl ?_))
  intro b1 w H
  obtain ⟨M, hle, hM, H⟩ := H.freezeBlk (by repeat first | exact .head | apply Rem.tail)
  replace hp := hp.mono hle
  have hcell : CellM M ⟨b1, 0, none⟩ v := ⟨rfl, _, _, _, hM, rfl⟩
  refine AS rfl rfl (NL (TN (SQ (RG (AS rfl rfl (NL (TN (SQ (RG (ST (Ex.makeFunc rfl) rfl (AS rfl rfl (NL (TN (SQ (SQ (RG (AS rfl rfl (NL (TN (BL ?_))))))))))))))))))))
  replace H := H.newRow 21 encR
  refine WC.loop3 (fun (i : Nat) (ov : Value) (o : List Int) => [(1, ptr b1 0), (3, ov), (4, .func (.func 189) #[] #[ptr b1 0]), (5, encN i)]) (fun (i : Nat) (ov : Value) (o : List Int) w => i ≤ l.length ∧ o.length ≤ i ∧ decW l = o ++ decW (l.drop i) ∧ ∃ M, St w0 M0 M [RowI 21 encR ov o] w ∧ Bs M v l ∧ CellM M ⟨b1, 0, none⟩ v) (fun (i : Nat) (ov : Value) (o : List Int) => l.length - i) (0) (_) (_) ⟨rfl, rfl, rfl, rfl, trivial⟩ (⟨by omega, by simp, rfl, M, H, hp, hcell⟩) ?_
  intro i ov o w
  rintro ⟨hi, hol, hdec, M, H, hp, hcell⟩
  refine SQ (SQ (RG (MV rfl rfl ?_)))
  first | refine WR.step (Ex.loadM H rfl (by assumption) Tryz.isAgg30) (Wn.none rfl) rfl rfl ?_ | refine WR.step (Ex.load1 H rfl (by repeat (first | exact List.Mem.head _ | apply List.Mem.tail)) Tryz.isAgg30 (by rfl)) (Wn.none rfl) rfl rfl ?_
  first | refine WR.step (Ex.lenSl Tryz.underlying30 (by assumption) rfl) (Wn.none rfl) rfl rfl ?_ | refine WR.step (Ex.lenRow Tryz.underlying30 H (by repeat (first | exact List.Mem.head _ | apply List.Mem.tail)) rfl) (Wn.none rfl) rfl rfl ?_ | refine WR.step (Ex.lenSlice Tryz.underlying30 rfl) (Wn.none rfl) rfl rfl ?_
  refine WR.split (Ex.lss rfl rfl) (Wn.none rfl) rfl rfl (fun h4_3 => ?_) (fun h4_3 => ?_)
  · obtain ⟨x, hx⟩ : ∃ c, l[i]? = some c := ⟨_, List.getElem?_eq_getElem (by omega)⟩
    refine NL (TN (CT rfl (SK (TN (SQ (BL (SQ (SQ (RG (MV rfl rfl (ST (Ex.add64 rfl rfl (by omega)) rfl ?_)))))))))))
    first | refine WR.step (Ex.loadM H rfl (by assumption) Tryz.isAgg30) (Wn.none rfl) rfl rfl ?_ | refine WR.step (Ex.load1 H rfl (by repeat (first | exact List.Mem.head _ | apply List.Mem.tail)) Tryz.isAgg30 (by rfl)) (Wn.none rfl) rfl rfl ?_
    first | refine WR.step (Ex.lenSl Tryz.underlying30 (by assumption) rfl) (Wn.none rfl) rfl rfl ?_ | refine WR.step (Ex.lenRow Tryz.underlying30 H (by repeat (first | exact List.Mem.head _ | apply List.Mem.tail)) rfl) (Wn.none rfl) rfl rfl ?_ | refine WR.step (Ex.lenSlice Tryz.underlying30 rfl) (Wn.none rfl) rfl rfl ?_
    refine WR.split (Ex.eql rfl rfl) (Wn.none rfl) rfl rfl (fun h6_4 => ?_) (fun h6_4 => ?_)
    · have hlast : l.drop i = [x] := by
        obtain ⟨e1, e2⟩ := List.getElem?_eq_some_iff.1 hx
        rw [List.drop_eq_getElem_cons e1, e2, List.drop_eq_nil_of_le (by omega)]
      refine NL (TN (CT rfl (SQ (RG (MV rfl rfl (WR.lit (enc := encR) ty170 [_] H rfl (by rfl) (fun _ => rfl) rfl rfl (Wn.none rfl) rfl ?_))))))
      intro v21 M w H hle hl21
      replace hp := hp.mono hle
      replace hcell := hcell.mono hle
      refine WR.appendSl ty170 (fun _ => rfl) H rfl (fun _ => by repeat first | exact .head | apply Upd.tail) rfl (by assumption) (by first | omega | (simp only [List.length_append, List.length_cons, List.length_nil, List.length_take, List.length_drop]; omega)) (by first | (simp only [maxLen]; omega) | (simp only [maxLen, List.length_append, List.length_cons, List.length_nil, List.length_take, List.length_drop]; omega)) (Wn.none rfl) rfl ?_
      intro v22 w H
      refine AS rfl rfl (NL (TN (RT ?_)))
      obtain ⟨M, hle, hf, H⟩ := H.freezeRow (v := v22) (enc := encR) (t := 21) (by repeat first | exact .head | apply Rem.tail)
      refine WQ.ret1 rfl rfl H.ext ( ?_)
      rw [hdec, hlast]
      simpa [decW] using hf
    · obtain ⟨y, hy⟩ : ∃ c, l[i + 1]? = some c := ⟨_, List.getElem?_eq_getElem (by omega)⟩
      have hd : l.drop i = x :: y :: l.drop (i + 2) := by
        obtain ⟨e1, e2⟩ := List.getElem?_eq_some_iff.1 hx
        obtain ⟨e3, e4⟩ := List.getElem?_eq_some_iff.1 hy
        rw [List.drop_eq_getElem_cons e1, e2, List.drop_eq_getElem_cons e3, e4]
      have hul := unit_lt x y
      refine NL (TN (CF rfl (SK (TN (SQ (RG (MV rfl rfl (MV rfl rfl (WR.callV (cap := [ptr b1 0]) H (unit_spec v l b1 i x y hs hx hy) rfl rfl (⟨by assumption, by assumption⟩) (Wn.none rfl) rfl ?_)))))))))
      intro v25 M w H hle hr25
      replace hp := hp.mono hle
      replace hcell := hcell.mono hle
      obtain rfl := hr25
      refine AS rfl rfl (NL (TN (SQ (SQ (RG (MV rfl rfl ?_))))))
      refine WR.split (Ex.geq rfl rfl) (Wn.none rfl) rfl rfl (fun h9_1 => ?_) (fun h9_1 => ?_)
      · refine MV rfl rfl (SG (Ex.move rfl) rfl rfl rfl ?_)
        refine WR.split (Ex.lss rfl rfl) (Wn.some rfl rfl rfl) rfl rfl (fun h9_4 => ?_) (fun h9_4 => ?_)
        · refine PT rfl rfl rfl (MV rfl rfl (SG (Ex.move rfl) rfl rfl rfl (SG (Ex.add64 rfl rfl (by omega)) rfl rfl rfl ?_)))
          first | refine WR.step (Ex.loadM H rfl (by assumption) Tryz.isAgg30) (Wn.some rfl rfl rfl) rfl rfl ?_ | refine WR.step (Ex.load1 H rfl (by repeat (first | exact List.Mem.head _ | apply List.Mem.tail)) Tryz.isAgg30 (by rfl)) (Wn.some rfl rfl rfl) rfl rfl ?_
          first | refine WR.step (Ex.lenSl Tryz.underlying30 (by assumption) rfl) (Wn.some rfl rfl rfl) rfl rfl ?_ | refine WR.step (Ex.lenRow Tryz.underlying30 H (by repeat (first | exact List.Mem.head _ | apply List.Mem.tail)) rfl) (Wn.some rfl rfl rfl) rfl rfl ?_ | refine WR.step (Ex.lenSlice Tryz.underlying30 rfl) (Wn.some rfl rfl rfl) rfl rfl ?_
          refine WR.split (Ex.lss rfl rfl) (Wn.some rfl rfl rfl) rfl rfl (fun h9_11 => ?_) (fun h9_11 => ?_)
          · obtain ⟨x2, hx2⟩ : ∃ c, l[i + 2]? = some c := ⟨_, List.getElem?_eq_getElem (by omega)⟩
            obtain ⟨y2, hy2⟩ : ∃ c, l[i + 3]? = some c := ⟨_, List.getElem?_eq_getElem (by omega)⟩
            have hd2 : l.drop (i + 2) = x2 :: y2 :: l.drop (i + 2 + 2) := by
              obtain ⟨e1, e2⟩ := List.getElem?_eq_some_iff.1 hx2
              obtain ⟨e3, e4⟩ := List.getElem?_eq_some_iff.1 hy2
              rw [List.drop_eq_getElem_cons e1, e2, List.drop_eq_getElem_cons e3, e4]
            have hul2 := unit_lt x2 y2
            refine PT rfl rfl rfl (NL (TN (CT rfl (SQ (RG (MV rfl rfl (MV rfl rfl (WR.stepE (v' := encN (i + 2)) (Ex.add64 rfl rfl (by omega)) rfl (Wn.none rfl) rfl rfl ?_))))))))
            refine WR.callV (cap := [ptr b1 0]) H (unit_spec v l b1 (i + 2) x2 y2 hs hx2 hy2) rfl rfl (⟨by assumption, by assumption⟩) (Wn.none rfl) rfl ?_
            intro v42 M w H hle hr42
            replace hp := hp.mono hle
            replace hcell := hcell.mono hle
            obtain rfl := hr42
            refine AS rfl rfl (NL (TN (SQ (RG (MV rfl rfl ?_)))))
            refine WR.split (Ex.geq rfl rfl) (Wn.none rfl) rfl rfl (fun h11_1 => ?_) (fun h11_1 => ?_)
            · refine MV rfl rfl (SG (Ex.move rfl) rfl rfl rfl ?_)
              refine WR.split (Ex.lss rfl rfl) (Wn.some rfl rfl rfl) rfl rfl (fun h11_4 => ?_) (fun h11_4 => ?_)
              · refine PT rfl rfl rfl (NL (TN (CT rfl (SQ (RG (MV rfl rfl (WR.stepE (v' := encR (((unit x y - 55296).toNat : Nat) : Int)) (Ex.subW rfl rfl (i32_in (by omega))) (congrArg encR (by omega)) (Wn.none rfl) rfl rfl ?_)))))))
                refine WR.stepE (v' := encR (1024 * (unit x y - 55296))) (Ex.shlK (m := (unit x y - 55296).toNat) (s := 10) rfl rfl (by decide)) (congrArg encR (by rw [i32_in (by omega)]; omega)) (Wn.none rfl) rfl rfl ?_
                refine ST (Ex.addW rfl rfl (i32_in (by omega))) rfl ?_
                refine MV rfl rfl (ST (Ex.addW rfl rfl (i32_in (by omega))) rfl ?_)
                refine ST (Ex.subW rfl rfl (i32_in (by omega))) rfl ?_
                refine AS rfl rfl (NL (TN (RG (MV rfl rfl (WR.stepE (v' := encN (i + 2)) (Ex.add64 rfl rfl (by omega)) rfl (Wn.none rfl) rfl rfl ?_)))))
                refine AS rfl rfl (NL (TN (SQ (SQ (RG (MV rfl rfl (WR.stepT (Ex.geq rfl rfl) (by omega) (Wn.none rfl) rfl rfl ?_)))))))
                refine MV rfl rfl (SG (Ex.move rfl) rfl rfl rfl (WR.stepF (Ex.lss rfl rfl) (by omega) (Wn.some rfl rfl rfl) rfl rfl ?_))
                refine PT rfl rfl rfl (NL (TN (CF rfl (SK (TN (RG (MV rfl rfl (MV rfl rfl (WR.lit (enc := encR) ty170 [_] H rfl (by rfl) (fun _ => rfl) rfl rfl (Wn.none rfl) rfl ?_)))))))))
                intro v66 M w H hle hl66
                replace hp := hp.mono hle
                replace hcell := hcell.mono hle
                refine WR.appendSl ty170 (fun _ => rfl) H rfl (fun _ => by repeat first | exact .head | apply Upd.tail) rfl (by assumption) (by first | omega | (simp only [List.length_append, List.length_cons, List.length_nil, List.length_take, List.length_drop]; omega)) (by first | (simp only [maxLen]; omega) | (simp only [maxLen, List.length_append, List.length_cons, List.length_nil, List.length_take, List.length_drop]; omega)) (Wn.none rfl) rfl ?_
                intro v67 w H
                refine AS rfl rfl (NL (IB (TN (RG (MV rfl rfl (WR.stepE (v' := encN (i + 2 + 2)) (Ex.add64 rfl rfl (by omega)) rfl (Wn.none rfl) rfl rfl ?_))))))
                refine AS rfl rfl (NL ?_)
                refine WQ.again3 (i + 2 + 2) (v67) (o ++ [65536 + 1024 * (unit x y - 55296) + unit x2 y2 - 56320]) ⟨rfl, rfl, rfl, rfl, trivial⟩ ?_ ?_
                · exact ⟨by omega, by simp; omega, by rw [hdec, hd, hd2, decW_pair ⟨h9_1, h9_4⟩ ⟨h11_1, h11_4⟩]; simp, M, H, hp, hcell⟩
                · omega
              · have hone : decW (x :: y :: l.drop (i + 2)) = unsur (unit x y) :: decW (l.drop (i + 2)) := decW_one (by
                  rintro ⟨_, c', d', r', hr, h3, h4⟩
                  rw [hd2] at hr
                  cases hr
                  omega)
                refine PT rfl rfl rfl (NL (TN (CF rfl (SK (TN (SQ (SQ (RG (MV rfl rfl ?_)))))))))
                refine WR.split (Ex.geq rfl rfl) (Wn.none rfl) rfl rfl (fun h14_1 => ?_) (fun h14_1 => ?_)
                · refine MV rfl rfl (SG (Ex.move rfl) rfl rfl rfl ?_)
                  refine WR.split (Ex.lss rfl rfl) (Wn.some rfl rfl rfl) rfl rfl (fun h14_4 => ?_) (fun h14_4 => ?_)
                  · refine PT rfl rfl rfl (NL (TN (CT rfl (RG (AS rfl rfl (NL (TN (RG (MV rfl rfl (MV rfl rfl (WR.lit (enc := encR) ty170 [_] H rfl (by rfl) (fun _ => rfl) rfl rfl (Wn.none rfl) rfl ?_)))))))))))
                    intro v66 M w H hle hl66
                    replace hp := hp.mono hle
                    replace hcell := hcell.mono hle
                    refine WR.appendSl ty170 (fun _ => rfl) H rfl (fun _ => by repeat first | exact .head | apply Upd.tail) rfl (by assumption) (by first | omega | (simp only [List.length_append, List.length_cons, List.length_nil, List.length_take, List.length_drop]; omega)) (by first | (simp only [maxLen]; omega) | (simp only [maxLen, List.length_append, List.length_cons, List.length_nil, List.length_take, List.length_drop]; omega)) (Wn.none rfl) rfl ?_
                    intro v67 w H
                    refine AS rfl rfl (NL (IB (TN (RG (MV rfl rfl (WR.stepE (v' := encN (i + 2)) (Ex.add64 rfl rfl (by omega)) rfl (Wn.none rfl) rfl rfl ?_))))))
                    refine AS rfl rfl (NL ?_)
                    refine WQ.again3 (i + 2) (v67) (o ++ [65533]) ⟨rfl, rfl, rfl, rfl, trivial⟩ ?_ ?_
                    · exact ⟨by omega, by simp; omega, by rw [hdec, hd, hone, unsur, if_pos ⟨h14_1, h14_4⟩]; simp, M, H, hp, hcell⟩
                    · omega
                  · refine PT rfl rfl rfl (NL (TN (CF rfl (SK (TN (RG (MV rfl rfl (MV rfl rfl (WR.lit (enc := encR) ty170 [_] H rfl (by rfl) (fun _ => rfl) rfl rfl (Wn.none rfl) rfl ?_)))))))))
                    intro v66 M w H hle hl66
                    replace hp := hp.mono hle
                    replace hcell := hcell.mono hle
                    refine WR.appendSl ty170 (fun _ => rfl) H rfl (fun _ => by repeat first | exact .head | apply Upd.tail) rfl (by assumption) (by first | omega | (simp only [List.length_append, List.length_cons, List.length_nil, List.length_take, List.length_drop]; omega)) (by first | (simp only [maxLen]; omega) | (simp only [maxLen, List.length_append, List.length_cons, List.length_nil, List.length_take, List.length_drop]; omega)) (Wn.none rfl) rfl ?_
                    intro v67 w H
                    refine AS rfl rfl (NL (IB (TN (RG (MV rfl rfl (WR.stepE (v' := encN (i + 2)) (Ex.add64 rfl rfl (by omega)) rfl (Wn.none rfl) rfl rfl ?_))))))
                    refine AS rfl rfl (NL ?_)
                    refine WQ.again3 (i + 2) (v67) (o ++ [unit x y]) ⟨rfl, rfl, rfl, rfl, trivial⟩ ?_ ?_
                    · exact ⟨by omega, by simp; omega, by rw [hdec, hd, hone, unsur, if_neg (by omega)]; simp, M, H, hp, hcell⟩
                    · omega
                · refine MV rfl rfl (GF rfl rfl rfl (GF rfl rfl rfl (PF rfl rfl rfl (NL (TN (CF rfl (SK (TN (RG (MV rfl rfl (MV rfl rfl (WR.lit (enc := encR) ty170 [_] H rfl (by rfl) (fun _ => rfl) rfl rfl (Wn.none rfl) rfl ?_))))))))))))
                  intro v66 M w H hle hl66
                  replace hp := hp.mono hle
                  replace hcell := hcell.mono hle
                  refine WR.appendSl ty170 (fun _ => rfl) H rfl (fun _ => by repeat first | exact .head | apply Upd.tail) rfl (by assumption) (by first | omega | (simp only [List.length_append, List.length_cons, List.length_nil, List.length_take, List.length_drop]; omega)) (by first | (simp only [maxLen]; omega) | (simp only [maxLen, List.length_append, List.length_cons, List.length_nil, List.length_take, List.length_drop]; omega)) (Wn.none rfl) rfl ?_
                  intro v67 w H
                  refine AS rfl rfl (NL (IB (TN (RG (MV rfl rfl (WR.stepE (v' := encN (i + 2)) (Ex.add64 rfl rfl (by omega)) rfl (Wn.none rfl) rfl rfl ?_))))))
                  refine AS rfl rfl (NL ?_)
                  refine WQ.again3 (i + 2) (v67) (o ++ [unit x y]) ⟨rfl, rfl, rfl, rfl, trivial⟩ ?_ ?_
                  · exact ⟨by omega, by simp; omega, by rw [hdec, hd, hone, unsur, if_neg (by omega)]; simp, M, H, hp, hcell⟩
                  · omega
            · have hone : decW (x :: y :: l.drop (i + 2)) = unsur (unit x y) :: decW (l.drop (i + 2)) := decW_one (by
                rintro ⟨_, c', d', r', hr, h3, h4⟩
                rw [hd2] at hr
                cases hr
                omega)
              refine MV rfl rfl (GF rfl rfl rfl (GF rfl rfl rfl (PF rfl rfl rfl (NL (TN (CF rfl (SK (TN (SQ (SQ (RG (MV rfl rfl ?_))))))))))))
              refine WR.split (Ex.geq rfl rfl) (Wn.none rfl) rfl rfl (fun h14_1 => ?_) (fun h14_1 => ?_)
              · refine MV rfl rfl (SG (Ex.move rfl) rfl rfl rfl ?_)
                refine WR.split (Ex.lss rfl rfl) (Wn.some rfl rfl rfl) rfl rfl (fun h14_4 => ?_) (fun h14_4 => ?_)
                · refine PT rfl rfl rfl (NL (TN (CT rfl (RG (AS rfl rfl (NL (TN (RG (MV rfl rfl (MV rfl rfl (WR.lit (enc := encR) ty170 [_] H rfl (by rfl) (fun _ => rfl) rfl rfl (Wn.none rfl) rfl ?_)))))))))))
                  intro v66 M w H hle hl66
                  replace hp := hp.mono hle
                  replace hcell := hcell.mono hle
                  refine WR.appendSl ty170 (fun _ => rfl) H rfl (fun _ => by repeat first | exact .head | apply Upd.tail) rfl (by assumption) (by first | omega | (simp only [List.length_append, List.length_cons, List.length_nil, List.length_take, List.length_drop]; omega)) (by first | (simp only [maxLen]; omega) | (simp only [maxLen, List.length_append, List.length_cons, List.length_nil, List.length_take, List.length_drop]; omega)) (Wn.none rfl) rfl ?_
                  intro v67 w H
                  refine AS rfl rfl (NL (IB (TN (RG (MV rfl rfl (WR.stepE (v' := encN (i + 2)) (Ex.add64 rfl rfl (by omega)) rfl (Wn.none rfl) rfl rfl ?_))))))
                  refine AS rfl rfl (NL ?_)
                  refine WQ.again3 (i + 2) (v67) (o ++ [65533]) ⟨rfl, rfl, rfl, rfl, trivial⟩ ?_ ?_
                  · exact ⟨by omega, by simp; omega, by rw [hdec, hd, hone, unsur, if_pos ⟨h14_1, h14_4⟩]; simp, M, H, hp, hcell⟩
                  · omega
                · refine PT rfl rfl rfl (NL (TN (CF rfl (SK (TN (RG (MV rfl rfl (MV rfl rfl (WR.lit (enc := encR) ty170 [_] H rfl (by rfl) (fun _ => rfl) rfl rfl (Wn.none rfl) rfl ?_)))))))))
                  intro v66 M w H hle hl66
                  replace hp := hp.mono hle
                  replace hcell := hcell.mono hle
                  refine WR.appendSl ty170 (fun _ => rfl) H rfl (fun _ => by repeat first | exact .head | apply Upd.tail) rfl (by assumption) (by first | omega | (simp only [List.length_append, List.length_cons, List.length_nil, List.length_take, List.length_drop]; omega)) (by first | (simp only [maxLen]; omega) | (simp only [maxLen, List.length_append, List.length_cons, List.length_nil, List.length_take, List.length_drop]; omega)) (Wn.none rfl) rfl ?_
                  intro v67 w H
                  refine AS rfl rfl (NL (IB (TN (RG (MV rfl rfl (WR.stepE (v' := encN (i + 2)) (Ex.add64 rfl rfl (by omega)) rfl (Wn.none rfl) rfl rfl ?_))))))
                  refine AS rfl rfl (NL ?_)
                  refine WQ.again3 (i + 2) (v67) (o ++ [unit x y]) ⟨rfl, rfl, rfl, rfl, trivial⟩ ?_ ?_
                  · exact ⟨by omega, by simp; omega, by rw [hdec, hd, hone, unsur, if_neg (by omega)]; simp, M, H, hp, hcell⟩
                  · omega
              · refine MV rfl rfl (GF rfl rfl rfl (GF rfl rfl rfl (PF rfl rfl rfl (NL (TN (CF rfl (SK (TN (RG (MV rfl rfl (MV rfl rfl (WR.lit (enc := encR) ty170 [_] H rfl (by rfl) (fun _ => rfl) rfl rfl (Wn.none rfl) rfl ?_))))))))))))
                intro v66 M w H hle hl66
                replace hp := hp.mono hle
                replace hcell := hcell.mono hle
                refine WR.appendSl ty170 (fun _ => rfl) H rfl (fun _ => by repeat first | exact .head | apply Upd.tail) rfl (by assumption) (by first | omega | (simp only [List.length_append, List.length_cons, List.length_nil, List.length_take, List.length_drop]; omega)) (by first | (simp only [maxLen]; omega) | (simp only [maxLen, List.length_append, List.length_cons, List.length_nil, List.length_take, List.length_drop]; omega)) (Wn.none rfl) rfl ?_
                intro v67 w H
                refine AS rfl rfl (NL (IB (TN (RG (MV rfl rfl (WR.stepE (v' := encN (i + 2)) (Ex.add64 rfl rfl (by omega)) rfl (Wn.none rfl) rfl rfl ?_))))))
                refine AS rfl rfl (NL ?_)
                refine WQ.again3 (i + 2) (v67) (o ++ [unit x y]) ⟨rfl, rfl, rfl, rfl, trivial⟩ ?_ ?_
                · exact ⟨by omega, by simp; omega, by rw [hdec, hd, hone, unsur, if_neg (by omega)]; simp, M, H, hp, hcell⟩
                · omega
          · have hone : decW (x :: y :: l.drop (i + 2)) = unsur (unit x y) :: decW (l.drop (i + 2)) := decW_one (by
              rintro ⟨_, c', d', r', hr, _⟩
              have := congrArg List.length hr
              rw [List.length_drop] at this
              simp at this
              omega)
            refine PT rfl rfl rfl (NL (TN (CF rfl (SK (TN (SQ (SQ (RG (MV rfl rfl ?_)))))))))
            refine WR.split (Ex.geq rfl rfl) (Wn.none rfl) rfl rfl (fun h14_1 => ?_) (fun h14_1 => ?_)
            · refine MV rfl rfl (SG (Ex.move rfl) rfl rfl rfl ?_)
              refine WR.split (Ex.lss rfl rfl) (Wn.some rfl rfl rfl) rfl rfl (fun h14_4 => ?_) (fun h14_4 => ?_)
              · refine PT rfl rfl rfl (NL (TN (CT rfl (RG (AS rfl rfl (NL (TN (RG (MV rfl rfl (MV rfl rfl (WR.lit (enc := encR) ty170 [_] H rfl (by rfl) (fun _ => rfl) rfl rfl (Wn.none rfl) rfl ?_)))))))))))
                intro v66 M w H hle hl66
                replace hp := hp.mono hle
                replace hcell := hcell.mono hle
                refine WR.appendSl ty170 (fun _ => rfl) H rfl (fun _ => by repeat first | exact .head | apply Upd.tail) rfl (by assumption) (by first | omega | (simp only [List.length_append, List.length_cons, List.length_nil, List.length_take, List.length_drop]; omega)) (by first | (simp only [maxLen]; omega) | (simp only [maxLen, List.length_append, List.length_cons, List.length_nil, List.length_take, List.length_drop]; omega)) (Wn.none rfl) rfl ?_
                intro v67 w H
                refine AS rfl rfl (NL (IB (TN (RG (MV rfl rfl (WR.stepE (v' := encN (i + 2)) (Ex.add64 rfl rfl (by omega)) rfl (Wn.none rfl) rfl rfl ?_))))))
                refine AS rfl rfl (NL ?_)
                refine WQ.again3 (i + 2) (v67) (o ++ [65533]) ⟨rfl, rfl, rfl, rfl, trivial⟩ ?_ ?_
                · exact ⟨by omega, by simp; omega, by rw [hdec, hd, hone, unsur, if_pos ⟨h14_1, h14_4⟩]; simp, M, H, hp, hcell⟩
                · omega
              · refine PT rfl rfl rfl (NL (TN (CF rfl (SK (TN (RG (MV rfl rfl (MV rfl rfl (WR.lit (enc := encR) ty170 [_] H rfl (by rfl) (fun _ => rfl) rfl rfl (Wn.none rfl) rfl ?_)))))))))
                intro v66 M w H hle hl66
                replace hp := hp.mono hle
                replace hcell := hcell.mono hle
                refine WR.appendSl ty170 (fun _ => rfl) H rfl (fun _ => by repeat first | exact .head | apply Upd.tail) rfl (by assumption) (by first | omega | (simp only [List.length_append, List.length_cons, List.length_nil, List.length_take, List.length_drop]; omega)) (by first | (simp only [maxLen]; omega) | (simp only [maxLen, List.length_append, List.length_cons, List.length_nil, List.length_take, List.length_drop]; omega)) (Wn.none rfl) rfl ?_
                intro v67 w H
                refine AS rfl rfl (NL (IB (TN (RG (MV rfl rfl (WR.stepE (v' := encN (i + 2)) (Ex.add64 rfl rfl (by omega)) rfl (Wn.none rfl) rfl rfl ?_))))))
                refine AS rfl rfl (NL ?_)
                refine WQ.again3 (i + 2) (v67) (o ++ [unit x y]) ⟨rfl, rfl, rfl, rfl, trivial⟩ ?_ ?_
                · exact ⟨by omega, by simp; omega, by rw [hdec, hd, hone, unsur, if_neg (by omega)]; simp, M, H, hp, hcell⟩
                · omega
            · refine MV rfl rfl (GF rfl rfl rfl (GF rfl rfl rfl (PF rfl rfl rfl (NL (TN (CF rfl (SK (TN (RG (MV rfl rfl (MV rfl rfl (WR.lit (enc := encR) ty170 [_] H rfl (by rfl) (fun _ => rfl) rfl rfl (Wn.none rfl) rfl ?_))))))))))))
              intro v66 M w H hle hl66
              replace hp := hp.mono hle
              replace hcell := hcell.mono hle
              refine WR.appendSl ty170 (fun _ => rfl) H rfl (fun _ => by repeat first | exact .head | apply Upd.tail) rfl (by assumption) (by first | omega | (simp only [List.length_append, List.length_cons, List.length_nil, List.length_take, List.length_drop]; omega)) (by first | (simp only [maxLen]; omega) | (simp only [maxLen, List.length_append, List.length_cons, List.length_nil, List.length_take, List.length_drop]; omega)) (Wn.none rfl) rfl ?_
              intro v67 w H
              refine AS rfl rfl (NL (IB (TN (RG (MV rfl rfl (WR.stepE (v' := encN (i + 2)) (Ex.add64 rfl rfl (by omega)) rfl (Wn.none rfl) rfl rfl ?_))))))
              refine AS rfl rfl (NL ?_)
              refine WQ.again3 (i + 2) (v67) (o ++ [unit x y]) ⟨rfl, rfl, rfl, rfl, trivial⟩ ?_ ?_
              · exact ⟨by omega, by simp; omega, by rw [hdec, hd, hone, unsur, if_neg (by omega)]; simp, M, H, hp, hcell⟩
              · omega
        · have hone : decW (x :: y :: l.drop (i + 2)) = unsur (unit x y) :: decW (l.drop (i + 2)) := decW_one (fun h => absurd h.1.2 h9_4)
          refine PT rfl rfl rfl (MV rfl rfl (GF rfl rfl rfl (GF rfl rfl rfl (GF rfl rfl rfl (GF rfl rfl rfl (GF rfl rfl rfl (PF rfl rfl rfl (NL (TN (CF rfl (SK (TN (SQ (SQ (RG (MV rfl rfl ?_))))))))))))))))
          refine WR.split (Ex.geq rfl rfl) (Wn.none rfl) rfl rfl (fun h14_1 => ?_) (fun h14_1 => ?_)
          · refine MV rfl rfl (SG (Ex.move rfl) rfl rfl rfl ?_)
            refine WR.split (Ex.lss rfl rfl) (Wn.some rfl rfl rfl) rfl rfl (fun h14_4 => ?_) (fun h14_4 => ?_)
            · refine PT rfl rfl rfl (NL (TN (CT rfl (RG (AS rfl rfl (NL (TN (RG (MV rfl rfl (MV rfl rfl (WR.lit (enc := encR) ty170 [_] H rfl (by rfl) (fun _ => rfl) rfl rfl (Wn.none rfl) rfl ?_)))))))))))
              intro v66 M w H hle hl66
              replace hp := hp.mono hle
              replace hcell := hcell.mono hle
              refine WR.appendSl ty170 (fun _ => rfl) H rfl (fun _ => by repeat first | exact .head | apply Upd.tail) rfl (by assumption) (by first | omega | (simp only [List.length_append, List.length_cons, List.length_nil, List.length_take, List.length_drop]; omega)) (by first | (simp only [maxLen]; omega) | (simp only [maxLen, List.length_append, List.length_cons, List.length_nil, List.length_take, List.length_drop]; omega)) (Wn.none rfl) rfl ?_
              intro v67 w H
              refine AS rfl rfl (NL (IB (TN (RG (MV rfl rfl (WR.stepE (v' := encN (i + 2)) (Ex.add64 rfl rfl (by omega)) rfl (Wn.none rfl) rfl rfl ?_))))))
              refine AS rfl rfl (NL ?_)
              refine WQ.again3 (i + 2) (v67) (o ++ [65533]) ⟨rfl, rfl, rfl, rfl, trivial⟩ ?_ ?_
              · exact ⟨by omega, by simp; omega, by rw [hdec, hd, hone, unsur, if_pos ⟨h14_1, h14_4⟩]; simp, M, H, hp, hcell⟩
              · omega
            · refine PT rfl rfl rfl (NL (TN (CF rfl (SK (TN (RG (MV rfl rfl (MV rfl rfl (WR.lit (enc := encR) ty170 [_] H rfl (by rfl) (fun _ => rfl) rfl rfl (Wn.none rfl) rfl ?_)))))))))
              intro v66 M w H hle hl66
              replace hp := hp.mono hle
              replace hcell := hcell.mono hle
              refine WR.appendSl ty170 (fun _ => rfl) H rfl (fun _ => by repeat first | exact .head | apply Upd.tail) rfl (by assumption) (by first | omega | (simp only [List.length_append, List.length_cons, List.length_nil, List.length_take, List.length_drop]; omega)) (by first | (simp only [maxLen]; omega) | (simp only [maxLen, List.length_append, List.length_cons, List.length_nil, List.length_take, List.length_drop]; omega)) (Wn.none rfl) rfl ?_
              intro v67 w H
              refine AS rfl rfl (NL (IB (TN (RG (MV rfl rfl (WR.stepE (v' := encN (i + 2)) (Ex.add64 rfl rfl (by omega)) rfl (Wn.none rfl) rfl rfl ?_))))))
              refine AS rfl rfl (NL ?_)
              refine WQ.again3 (i + 2) (v67) (o ++ [unit x y]) ⟨rfl, rfl, rfl, rfl, trivial⟩ ?_ ?_
              · exact ⟨by omega, by simp; omega, by rw [hdec, hd, hone, unsur, if_neg (by omega)]; simp, M, H, hp, hcell⟩
              · omega
          · refine MV rfl rfl (GF rfl rfl rfl (GF rfl rfl rfl (PF rfl rfl rfl (NL (TN (CF rfl (SK (TN (RG (MV rfl rfl (MV rfl rfl (WR.lit (enc := encR) ty170 [_] H rfl (by rfl) (fun _ => rfl) rfl rfl (Wn.none rfl) rfl ?_))))))))))))
            intro v66 M w H hle hl66
            replace hp := hp.mono hle
            replace hcell := hcell.mono hle
            refine WR.appendSl ty170 (fun _ => rfl) H rfl (fun _ => by repeat first | exact .head | apply Upd.tail) rfl (by assumption) (by first | omega | (simp only [List.length_append, List.length_cons, List.length_nil, List.length_take, List.length_drop]; omega)) (by first | (simp only [maxLen]; omega) | (simp only [maxLen, List.length_append, List.length_cons, List.length_nil, List.length_take, List.length_drop]; omega)) (Wn.none rfl) rfl ?_
            intro v67 w H
            refine AS rfl rfl (NL (IB (TN (RG (MV rfl rfl (WR.stepE (v' := encN (i + 2)) (Ex.add64 rfl rfl (by omega)) rfl (Wn.none rfl) rfl rfl ?_))))))
            refine AS rfl rfl (NL ?_)
            refine WQ.again3 (i + 2) (v67) (o ++ [unit x y]) ⟨rfl, rfl, rfl, rfl, trivial⟩ ?_ ?_
            · exact ⟨by omega, by simp; omega, by rw [hdec, hd, hone, unsur, if_neg (by omega)]; simp, M, H, hp, hcell⟩
            · omega
      · have hone : decW (x :: y :: l.drop (i + 2)) = unsur (unit x y) :: decW (l.drop (i + 2)) := decW_one (fun h => absurd h.1.1 h9_1)
        refine MV rfl rfl (GF rfl rfl rfl (GF rfl rfl rfl (PF rfl rfl rfl (MV rfl rfl (GF rfl rfl rfl (GF rfl rfl rfl (GF rfl rfl rfl (GF rfl rfl rfl (GF rfl rfl rfl (PF rfl rfl rfl (NL (TN (CF rfl (SK (TN (SQ (SQ (RG (MV rfl rfl ?_)))))))))))))))))))
        refine WR.split (Ex.geq rfl rfl) (Wn.none rfl) rfl rfl (fun h14_1 => ?_) (fun h14_1 => ?_)
        · refine MV rfl rfl (SG (Ex.move rfl) rfl rfl rfl ?_)
          refine WR.split (Ex.lss rfl rfl) (Wn.some rfl rfl rfl) rfl rfl (fun h14_4 => ?_) (fun h14_4 => ?_)
          · refine PT rfl rfl rfl (NL (TN (CT rfl (RG (AS rfl rfl (NL (TN (RG (MV rfl rfl (MV rfl rfl (WR.lit (enc := encR) ty170 [_] H rfl (by rfl) (fun _ => rfl) rfl rfl (Wn.none rfl) rfl ?_)))))))))))
            intro v66 M w H hle hl66
            replace hp := hp.mono hle
            replace hcell := hcell.mono hle
            refine WR.appendSl ty170 (fun _ => rfl) H rfl (fun _ => by repeat first | exact .head | apply Upd.tail) rfl (by assumption) (by first | omega | (simp only [List.length_append, List.length_cons, List.length_nil, List.length_take, List.length_drop]; omega)) (by first | (simp only [maxLen]; omega) | (simp only [maxLen, List.length_append, List.length_cons, List.length_nil, List.length_take, List.length_drop]; omega)) (Wn.none rfl) rfl ?_
            intro v67 w H
            refine AS rfl rfl (NL (IB (TN (RG (MV rfl rfl (WR.stepE (v' := encN (i + 2)) (Ex.add64 rfl rfl (by omega)) rfl (Wn.none rfl) rfl rfl ?_))))))
            refine AS rfl rfl (NL ?_)
            refine WQ.again3 (i + 2) (v67) (o ++ [65533]) ⟨rfl, rfl, rfl, rfl, trivial⟩ ?_ ?_
            · exact ⟨by omega, by simp; omega, by rw [hdec, hd, hone, unsur, if_pos ⟨h14_1, h14_4⟩]; simp, M, H, hp, hcell⟩
            · omega
          · refine PT rfl rfl rfl (NL (TN (CF rfl (SK (TN (RG (MV rfl rfl (MV rfl rfl (WR.lit (enc := encR) ty170 [_] H rfl (by rfl) (fun _ => rfl) rfl rfl (Wn.none rfl) rfl ?_)))))))))
            intro v66 M w H hle hl66
            replace hp := hp.mono hle
            replace hcell := hcell.mono hle
            refine WR.appendSl ty170 (fun _ => rfl) H rfl (fun _ => by repeat first | exact .head | apply Upd.tail) rfl (by assumption) (by first | omega | (simp only [List.length_append, List.length_cons, List.length_nil, List.length_take, List.length_drop]; omega)) (by first | (simp only [maxLen]; omega) | (simp only [maxLen, List.length_append, List.length_cons, List.length_nil, List.length_take, List.length_drop]; omega)) (Wn.none rfl) rfl ?_
            intro v67 w H
            refine AS rfl rfl (NL (IB (TN (RG (MV rfl rfl (WR.stepE (v' := encN (i + 2)) (Ex.add64 rfl rfl (by omega)) rfl (Wn.none rfl) rfl rfl ?_))))))
            refine AS rfl rfl (NL ?_)
            refine WQ.again3 (i + 2) (v67) (o ++ [unit x y]) ⟨rfl, rfl, rfl, rfl, trivial⟩ ?_ ?_
            · exact ⟨by omega, by simp; omega, by rw [hdec, hd, hone, unsur, if_neg (by omega)]; simp, M, H, hp, hcell⟩
            · omega
        · refine MV rfl rfl (GF rfl rfl rfl (GF rfl rfl rfl (PF rfl rfl rfl (NL (TN (CF rfl (SK (TN (RG (MV rfl rfl (MV rfl rfl (WR.lit (enc := encR) ty170 [_] H rfl (by rfl) (fun _ => rfl) rfl rfl (Wn.none rfl) rfl ?_))))))))))))
          intro v66 M w H hle hl66
          replace hp := hp.mono hle
          replace hcell := hcell.mono hle
          refine WR.appendSl ty170 (fun _ => rfl) H rfl (fun _ => by repeat first | exact .head | apply Upd.tail) rfl (by assumption) (by first | omega | (simp only [List.length_append, List.length_cons, List.length_nil, List.length_take, List.length_drop]; omega)) (by first | (simp only [maxLen]; omega) | (simp only [maxLen, List.length_append, List.length_cons, List.length_nil, List.length_take, List.length_drop]; omega)) (Wn.none rfl) rfl ?_
          intro v67 w H
          refine AS rfl rfl (NL (IB (TN (RG (MV rfl rfl (WR.stepE (v' := encN (i + 2)) (Ex.add64 rfl rfl (by omega)) rfl (Wn.none rfl) rfl rfl ?_))))))
          refine AS rfl rfl (NL ?_)
          refine WQ.again3 (i + 2) (v67) (o ++ [unit x y]) ⟨rfl, rfl, rfl, rfl, trivial⟩ ?_ ?_
          · exact ⟨by omega, by simp; omega, by rw [hdec, hd, hone, unsur, if_neg (by omega)]; simp, M, H, hp, hcell⟩
          · omega
  · have hend : decW l = o := by rw [hdec, List.drop_eq_nil_of_le (by omega)]; simp [decW]
    refine NL (TN (CF rfl (WC.exit (WQ.thenExit (WQ.thenExit (WQ.exitHere (TN (SQ (RG (MV rfl rfl (AS rfl rfl (NL (TN (RT ?_))))))))))))))
    obtain ⟨M, hle, hf, H⟩ := H.freezeRow (v := ov) (enc := encR) (t := 21) (by repeat first | exact .head | apply Rem.tail)
    refine WQ.ret1 rfl rfl H.ext ( ?_)
    rw [hend]
    exact hf
theorem ub_mod (a : Int) : ub (a % 256) = ub a := by
  unfold ub; rw [Int.emod_emod_of_dvd _ (Int.dvd_refl 256)]
theorem encK0 : encK 0 = encS 128 := rfl
theorem encK1 : encK 1 = encS 256 := rfl
theorem encK2 : encK 2 = encU := rfl
theorem encK3 : encK 3 = encW := rfl
def encWb (c : Int) : List UInt8 := if c < 65536 then [ub (c / 256), ub (c % 256)] else [ub (hiS c / 256), ub (hiS c % 256), ub (loS c / 256), ub (loS c % 256)]
theorem hiS_nat {m : Nat} (h : 65536 ≤ m) : hiS (m : Int) = ((55296 + (m - 65536) / 2 ^ 10 : Nat) : Int) := by unfold hiS; omega
theorem loS_nat {m : Nat} (h : 65536 ≤ m) : loS (m : Int) = ((56320 + (m - 65536) % 1024 : Nat) : Int) := by unfold loS; omega
theorem div256 (n : Nat) : ((n / 2 ^ 8 : Nat) : Int) = (n : Int) / 256 := by omega
theorem double_spec (m : Nat) (hm : m ≤ 1114111) : Ct Tryz.prog 162 [encR (m : Int)] (fun _ => True) (fun r M => ∃ v, r = .tuple #[v, .bool true] ∧ Bs M v (encWb (m : Int))) := by
  refine Ct.of Tryz.func162 (enters Tryz.func162 (by kernel_rfl) rfl) rfl rfl rfl ?_
  intro w0 M0 H hp
  refine SQ (RG (AS rfl rfl (AS rfl rfl (NL (TN (SQ (SQ (RG (MV rfl rfl ?_)))))))))
  refine WR.split (Ex.lss rfl rfl) (Wn.none rfl) rfl rfl (fun h1_1 => ?_) (fun h1_1 => ?_)
  · refine NL (TN (CT rfl (SQ (RG (MV rfl rfl (ST (Ex.shrN (m := m) (s := 8) rfl rfl (by first | (show _ ≤ 64; omega) | (show _ ≤ 8; omega) | decide)) rfl ?_))))))
    refine ST (Ex.convU8 Tryz.underlying21 Tryz.underlying5 rfl) rfl (MV rfl rfl (ST (Ex.convU8 Tryz.underlying21 Tryz.underlying5 rfl) rfl (WR.lit (enc := encB) ty30 [_, _] H rfl (by rfl) (fun _ => rfl) rfl rfl (Wn.none rfl) rfl ?_)))
    intro v13 M w H hle hl13
    refine AS rfl rfl (AS rfl rfl (NL (TN (RT ?_))))
    refine WQ.ret2 rfl rfl rfl H.ext ?_
    refine ⟨_, rfl, ?_⟩
    unfold encWb
    rw [if_pos (by omega), ub_mod, ← div256]
    exact hl13
  · refine NL (TN (CF rfl (SK (TN (SQ (RG (MV rfl rfl (WR.stepE (v' := encR ((m - 65536 : Nat) : Int)) (Ex.subW rfl rfl (i32_in (by omega))) (congrArg encR (by omega)) (Wn.none rfl) rfl rfl ?_))))))))
    refine AS rfl rfl (NL (TN (SQ (RG (MV rfl rfl (ST (Ex.shrN (m := (m - 65536)) (s := 10) rfl rfl (by first | (show _ ≤ 64; omega) | (show _ ≤ 8; omega) | decide)) rfl ?_))))))
    refine WR.stepE (v' := encR ((55296 + (m - 65536) / 2 ^ 10 : Nat) : Int)) (Ex.addW rfl rfl (i32_in (by omega))) (congrArg encR (by omega)) (Wn.none rfl) rfl rfl ?_
    refine MV rfl rfl (WR.stepE (v' := encR (((m - 65536) % 1024 : Nat) : Int)) (Ex.andK (m := (m - 65536)) (s := 1023) rfl rfl (by first | decide | (show _ < 256; omega) | (show _ < 4294967296; omega) | (show _ < 18446744073709551616; omega)) (by first | decide | (show _ < 256; omega) | (show _ < 4294967296; omega) | (show _ < 18446744073709551616; omega))) (congrArg encR (by rw [Nat.and_two_pow_sub_one_eq_mod (m - 65536) 10]; exact i32_in (by omega))) (Wn.none rfl) rfl rfl ?_)
    refine WR.stepE (v' := encR ((56320 + (m - 65536) % 1024 : Nat) : Int)) (Ex.addW rfl rfl (i32_in (by omega))) (congrArg encR (by omega)) (Wn.none rfl) rfl rfl ?_
    refine AS rfl rfl (AS rfl rfl (NL (TN (SQ (RG (MV rfl rfl (ST (Ex.shrN (m := (55296 + (m - 65536) / 2 ^ 10)) (s := 8) rfl rfl (by first | (show _ ≤ 64; omega) | (show _ ≤ 8; omega) | decide)) rfl ?_)))))))
    refine ST (Ex.convU8 Tryz.underlying21 Tryz.underlying5 rfl) rfl (MV rfl rfl (ST (Ex.convU8 Tryz.underlying21 Tryz.underlying5 rfl) rfl (MV rfl rfl (ST (Ex.shrN (m := (56320 + (m - 65536) % 1024)) (s := 8) rfl rfl (by first | (show _ ≤ 64; omega) | (show _ ≤ 8; omega) | decide)) rfl ?_))))
    refine ST (Ex.convU8 Tryz.underlying21 Tryz.underlying5 rfl) rfl (MV rfl rfl (ST (Ex.convU8 Tryz.underlying21 Tryz.underlying5 rfl) rfl (WR.lit (enc := encB) ty30 [_, _, _, _] H rfl (by rfl) (fun _ => rfl) rfl rfl (Wn.none rfl) rfl ?_)))
    intro v32 M w H hle hl32
    refine AS rfl rfl (AS rfl rfl (NL (TN (RT ?_))))
    refine WQ.ret2 rfl rfl rfl H.ext ?_
    refine ⟨_, rfl, ?_⟩
    unfold encWb
    rw [if_neg (by omega), ub_mod, ub_mod, hiS_nat (by omega), loS_nat (by omega), ← div256, ← div256]
    exact hl32
theorem single_spec (nm : List UInt8) (bound : Int) : Ct Tryz.prog 157 [S nm, encR bound] (fun _ => True) (fun r M => ∃ b, r = .agg #[S nm, .func (.func 186) #[] #[ptr b 0], .func (.func 187) #[] #[ptr b 0]] ∧ CellM M ⟨b, 0, none⟩ (encR bound)) := by
  refine Ct.of Tryz.func157 (enters Tryz.func157 (by kernel_rfl) rfl) rfl rfl rfl ?_
  intro w0 M0 H hp
  refine SQ (RG (WR.box [_] H rfl rfl (Wn.none rfl) rfl ?_))
  intro b3 w H
  refine WR.alloc [_, _, _] H Tryz.zeroValue156 rfl (Wn.none rfl) rfl ?_
  intro b4 w H
  refine NL (TN (SQ (RG (MV rfl rfl (ST (Ex.makeFunc rfl) rfl (ST (Ex.makeFunc rfl) rfl (ST (Ex.build [_, _, _] Tryz.underlying156 Tryz.zeroValue156 (places156 Tryz.underlying156) rfl rfl) rfl (WR.store [_, _, _] H rfl rfl rfl (by repeat first | exact .head | apply Upd.tail) Tryz.sizeOf156 rfl (by rfl) (by rfl) (Wn.none rfl) ?_))))))))
  intro w H
  refine NL (TN (RT ?_))
  obtain ⟨M, hle, hM, H⟩ := H.freezeBlk (b := b3) (by repeat first | exact .head | apply Rem.tail)
  refine WQ.ret1 rfl ⟨_, rfl, H.loadAgg (by repeat (first | exact List.Mem.head _ | apply List.Mem.tail)) Tryz.isAgg156 Tryz.sizeOf156 (by rfl)⟩ H.ext ?_
  exact ⟨b3, rfl, rfl, _, _, _, hM, rfl⟩
theorem ty185 : ElemTy Tryz.prog 185 156 (.agg #[.string ⟨#[]⟩, .nilFunc, .nilFunc]) 3 32 := ElemTy.mk' Tryz.underlying185 (by kernel_rfl) rfl (by decide)
abbrev encT (s : Value × Value × Value) : List Value := [s.1, s.2.1, s.2.2]
def rowsV (b0 b1 : Nat) : List (Value × Value × Value) := [(S [97, 115, 99, 105, 105], .func (.func 186) #[] #[ptr b0 0], .func (.func 187) #[] #[ptr b0 0]), (S [108, 97, 116, 105, 110, 49], .func (.func 186) #[] #[ptr b1 0], .func (.func 187) #[] #[ptr b1 0]), (S [117, 116, 102, 56], .func (.func 158) #[] #[], .func (.func 159) #[] #[]), (S [117, 116, 102, 49, 54, 98, 101], .func (.func 161) #[] #[], .func (.func 162) #[] #[])]
theorem row_at (b0 b1 k : Nat) (hk : k < 4) : ∃ x dv fv, setN[k]? = some x ∧ (rowsV b0 b1)[k]? = some (S x, dv, fv) ∧ dv.oneCell' = true ∧ fv.oneCell' = true ∧ x.length ≤ 7 := by
  rcases k with _ | _ | _ | _ | k
  · exact ⟨_, _, _, rfl, rfl, rfl, rfl, by decide⟩
  · exact ⟨_, _, _, rfl, rfl, rfl, rfl, by decide⟩
  · exact ⟨_, _, _, rfl, rfl, rfl, rfl, by decide⟩
  · exact ⟨_, _, _, rfl, rfl, rfl, rfl, by decide⟩
  · omega
def found (b0 b1 : Nat) : Option Nat → Value
  | none => .tuple #[.agg #[S [], .nilFunc, .nilFunc], .bool false]
  | some k => match (rowsV b0 b1)[k]? with
    | some s => .tuple #[.agg (encT s).toArray, .bool true]
    | none => .tuple #[]
theorem find_spec (name : List UInt8) (hs : name.length ≤ maxLen) : Ct Tryz.prog 126 [S name] (fun _ => True) (fun r M => ∃ b0 b1, CellM M ⟨b0, 0, none⟩ (encR 128) ∧ CellM M ⟨b1, 0, none⟩ (encR 256) ∧ r = found b0 b1 (setOf name)) := by
  refine Ct.of Tryz.func126 (enters Tryz.func126 (by kernel_rfl) rfl) rfl rfl rfl ?_
  intro w0 M0 H hp
  refine SQ (RG (WR.alloc [_, _, _] H Tryz.zeroValue156 rfl (Wn.none rfl) rfl ?_))
  intro b2 w H
  refine AS rfl rfl (NL (TN (SQ (RG (WR.call H (single_spec _ _) rfl (trivial) (Wn.none rfl) rfl ?_)))))
  intro v7 M w H hle hr7
  obtain ⟨bb7, rfl, hcell7⟩ := hr7
  refine WR.call H (single_spec _ _) rfl (trivial) (Wn.none rfl) rfl ?_
  intro v8 M w H hle hr8
  replace hcell7 := hcell7.mono hle
  obtain ⟨bb8, rfl, hcell8⟩ := hr8
  refine WR.stepE (v' := .agg #[S [117, 116, 102, 56], .func (.func 158) #[] #[], .func (.func 159) #[] #[]]) (Ex.build [_, _, _] Tryz.underlying156 Tryz.zeroValue156 (places156 Tryz.underlying156) rfl rfl) rfl (Wn.none rfl) rfl rfl (WR.stepE (v' := .agg #[S [117, 116, 102, 49, 54, 98, 101], .func (.func 161) #[] #[], .func (.func 162) #[] #[]]) (Ex.build [_, _, _] Tryz.underlying156 Tryz.zeroValue156 (places156 Tryz.underlying156) rfl rfl) rfl (Wn.none rfl) rfl rfl (WR.litS (enc := encT) ty185 (rowsV bb7 bb8) H (fun _ => rfl) rfl (by kernel_rfl) rfl rfl rfl (Wn.none rfl) rfl ?_))
  intro v11 M w H hle hl11
  replace hcell7 := hcell7.mono hle
  replace hcell8 := hcell8.mono hle
  refine AS rfl rfl (NL (TN (SQ (SQ (RG (MV rfl rfl (WR.stepE (v' := I 4) (Ex.lenSlS Tryz.underlying185 (by assumption) rfl) rfl (Wn.none rfl) rfl rfl ?_)))))))
  refine MV rfl rfl (NL (TN (BL (WC.loop1 (fun (k : Nat) => [(0, S name), (2, ptr b2 0), (12, v11), (13, I 4), (14, encN k)]) (fun (k : Nat) w => k ≤ 4 ∧ setOf name = ((setN.drop k).findIdx? (same name)).map (· + k) ∧ ∃ M, St w0 M0 M [.blk b2 (.cells #[S [], .nilFunc, .nilFunc] 156)] w ∧ SlS M 3 encT v11 (rowsV bb7 bb8) ∧ CellM M ⟨bb7, 0, none⟩ (encR 128) ∧ CellM M ⟨bb8, 0, none⟩ (encR 256)) (fun (k : Nat) => 4 - k) (0) ⟨rfl, rfl, rfl, rfl, rfl, trivial⟩ (⟨by omega, by rw [List.drop_zero]; simp only [Nat.add_zero, Option.map_id']; rfl, M, H, hl11, hcell7, hcell8⟩) ?_))))
  intro k w
  rintro ⟨hk, hso, M, H, hl11, hcell7, hcell8⟩
  refine SQ (RG ?_)
  refine WR.split (Ex.lss rfl rfl) (Wn.none rfl) rfl rfl (fun h3_0 => ?_) (fun h3_0 => ?_)
  · obtain ⟨x, dv, fv, hx, hrow, hd1, hf1, hxl⟩ := row_at bb7 bb8 k (by omega)
    refine NL (TN (SQ (CT rfl (SK (TN (SQ (BL (SQ (RG (WR.idxSlS Tryz.underlying185 Tryz.sizeOf156 (by assumption) rfl rfl (hrow) (Wn.none rfl) rfl ?_))))))))))
    intro b16 o16 hc16
    first | refine WR.step (Ex.loadAgg H rfl (by repeat (first | exact List.Mem.head _ | apply List.Mem.tail)) Tryz.isAgg156 Tryz.sizeOf156 (by rfl)) (Wn.none rfl) rfl rfl ?_ | refine WR.step (Ex.loadAggM H rfl (by assumption) Tryz.isAgg156 Tryz.sizeOf156 (by rfl)) (Wn.none rfl) rfl rfl ?_
    refine WR.alloc [_, _, _] H Tryz.zeroValue156 rfl (Wn.none rfl) rfl ?_
    intro b6 w H
    refine WR.store [S x, dv, fv] H rfl rfl rfl (by repeat first | exact .head | apply Upd.tail) Tryz.sizeOf156 rfl (by rfl) (by show (true && (dv.oneCell' && (fv.oneCell' && true))) = true; rw [hd1, hf1]; rfl) (Wn.none rfl) ?_
    intro w H
    refine NL (TN (SQ (RG (ST (Ex.fieldAddr Tryz.underlying156 rfl Tryz.sizeOf9 (by decide) rfl) rfl ?_))))
    first | refine WR.step (Ex.loadM H rfl (by assumption) Tryz.isAgg9) (Wn.none rfl) rfl rfl ?_ | refine WR.step (Ex.load1 H rfl (by repeat (first | exact List.Mem.head _ | apply List.Mem.tail)) Tryz.isAgg9 (by rfl)) (Wn.none rfl) rfl rfl ?_
    refine MV rfl rfl ?_
    by_cases h5_3 : lower x = lower name
    · have hr := (setOf_from hso hx).1 h5_3
      refine WR.call H (Ct.mono (same_spec _ _ (by simp only [maxLen]; omega) hs) (R' := fun r _ => r = .bool true) (fun _ _ h => h.trans (congrArg Value.bool (decide_eq_true h5_3)))) rfl (trivial) (Wn.none rfl) rfl ?_
      intro v21 M w H hle hr21
      replace hl11 := hl11.mono hle
      replace hcell7 := hcell7.mono hle
      replace hcell8 := hcell8.mono hle
      replace hc16 := hc16.mono hle
      obtain rfl := hr21
      refine NL (TN (CT rfl (SQ (RG ?_))))
      first | refine WR.step (Ex.loadAgg H rfl (by repeat (first | exact List.Mem.head _ | apply List.Mem.tail)) Tryz.isAgg156 Tryz.sizeOf156 (by rfl)) (Wn.none rfl) rfl rfl ?_ | refine WR.step (Ex.loadAggM H rfl (by assumption) Tryz.isAgg156 Tryz.sizeOf156 (by rfl)) (Wn.none rfl) rfl rfl ?_
      refine WR.store [S x, dv, fv] H rfl rfl rfl (by repeat first | exact .head | apply Upd.tail) Tryz.sizeOf156 rfl (by rfl) (by show (true && (dv.oneCell' && (fv.oneCell' && true))) = true; rw [hd1, hf1]; rfl) (Wn.none rfl) ?_
      intro w H
      refine AS rfl rfl (NL (TN (RT ?_)))
      refine WQ.ret2 rfl ⟨_, rfl, H.loadAgg (by repeat (first | exact List.Mem.head _ | apply List.Mem.tail)) Tryz.isAgg156 Tryz.sizeOf156 (by rfl)⟩ rfl H.ext ?_
      exact ⟨_, _, hcell7, hcell8, by rw [hr, found, hrow]⟩
    · refine WR.call H (Ct.mono (same_spec _ _ (by simp only [maxLen]; omega) hs) (R' := fun r _ => r = .bool false) (fun _ _ h => h.trans (congrArg Value.bool (decide_eq_false h5_3)))) rfl (trivial) (Wn.none rfl) rfl ?_
      intro v21 M w H hle hr21
      replace hl11 := hl11.mono hle
      replace hcell7 := hcell7.mono hle
      replace hcell8 := hcell8.mono hle
      replace hc16 := hc16.mono hle
      obtain rfl := hr21
      refine NL (TN (CF rfl (SK (IB (TN (RG (WR.stepE (v' := encN (k + 1)) (Ex.add64 rfl rfl (by omega)) rfl (Wn.none rfl) rfl rfl ?_)))))))
      refine MV rfl rfl (NL ?_)
      refine WQ.again1 (k + 1) ⟨rfl, rfl, rfl, rfl, rfl, trivial⟩ ?_ ?_
      · exact ⟨by omega, (setOf_from hso hx).2 h5_3, M, H.drop (List.sublist_cons_self _ _), hl11, hcell7, hcell8⟩
      · omega
  · have hr : setOf name = none := by rw [hso, List.drop_eq_nil_of_le (show setN.length ≤ k by show 4 ≤ k; omega)]; rfl
    refine NL (TN (SQ (CF rfl (WC.exit (WQ.thenExit (WQ.thenExit (WQ.exitHere (TN (SQ (RG (ST (Ex.build [_, _, _] Tryz.underlying156 Tryz.zeroValue156 (places156 Tryz.underlying156) rfl rfl) rfl (WR.store [_, _, _] H rfl rfl rfl (by repeat first | exact .head | apply Upd.tail) Tryz.sizeOf156 rfl (by rfl) (by rfl) (Wn.none rfl) ?_))))))))))))
    intro w H
    refine AS rfl rfl (NL (TN (RT ?_)))
    refine WQ.ret2 rfl ⟨_, rfl, H.loadAgg (by repeat (first | exact List.Mem.head _ | apply List.Mem.tail)) Tryz.isAgg156 Tryz.sizeOf156 (by rfl)⟩ rfl H.ext ?_
    exact ⟨_, _, hcell7, hcell8, by rw [hr, found]⟩
end Go.Proofs.YtogkmhjnojphiaaGreatDoor
end
section
set_option linter.unusedVariables false
set_option linter.unusedSimpArgs false
namespace Go.Proofs.YtogkmhjnojphiaaGreatDoor
open Go Go.RowKit Go.Ph
open Go.Ph.Gr Go.Ph.Utf Go.Ph.Chs
theorem decode_big (name : List UInt8) (v : Value) (l : List UInt8) (hn : name.length ≤ maxLen) (hs : 12000 < l.length) : Ct Tryz.prog 97 [S name, v] (fun M => Bs M v l) (fun r _ => r = .tuple #[S [], fault 1 (-1)]) := by
  refine Ct.of Tryz.func97 (enters Tryz.func97 (by kernel_rfl) rfl) rfl rfl rfl ?_
  intro w0 M0 H hp
  refine SQ (RG (AS rfl rfl (WR.alloc [_, _] H Tryz.zeroValue24 rfl (Wn.none rfl) rfl ?_)))
  intro b5 w H
  refine NL (TN (SQ (SQ (RG (MV rfl rfl ?_)))))
  first | refine WR.step (Ex.lenSl Tryz.underlying30 (by assumption) rfl) (Wn.none rfl) rfl rfl ?_ | refine WR.step (Ex.lenRow Tryz.underlying30 H (by repeat (first | exact List.Mem.head _ | apply List.Mem.tail)) rfl) (Wn.none rfl) rfl rfl ?_ | refine WR.step (Ex.lenSlice Tryz.underlying30 rfl) (Wn.none rfl) rfl rfl ?_
  refine WR.stepT (Ex.gtr rfl rfl) (by omega) (Wn.none rfl) rfl rfl ?_
  refine NL (TN (CT rfl (SQ (RG (WR.call H (fault_spec _ _) rfl (trivial) (Wn.none rfl) rfl ?_)))))
  intro v11 M w H hle hr11
  replace hp := hp.mono hle
  obtain rfl := hr11
  refine AS rfl rfl (WR.store [_, _] H rfl rfl rfl (by repeat first | exact .head | apply Upd.tail) Tryz.sizeOf24 rfl (by rfl) (by rfl) (Wn.none rfl) ?_)
  intro w H
  refine NL (TN (RT ?_))
  refine WQ.ret2 rfl rfl ⟨_, rfl, H.loadAgg (by repeat (first | exact List.Mem.head _ | apply List.Mem.tail)) Tryz.isAgg24 Tryz.sizeOf24 (by rfl)⟩ H.ext ?_
  exact rfl
theorem decode_unk (name : List UInt8) (v : Value) (l : List UInt8) (hn : name.length ≤ maxLen) (hs : l.length ≤ 12000) (hk : setOf name = none) : Ct Tryz.prog 97 [S name, v] (fun M => Bs M v l) (fun r _ => r = .tuple #[S [], fault 18 (-2)]) := by
  refine Ct.of Tryz.func97 (enters Tryz.func97 (by kernel_rfl) rfl) rfl rfl rfl ?_
  intro w0 M0 H hp
  refine SQ (RG (AS rfl rfl (WR.alloc [_, _] H Tryz.zeroValue24 rfl (Wn.none rfl) rfl ?_)))
  intro b5 w H
  refine NL (TN (SQ (SQ (RG (MV rfl rfl ?_)))))
  first | refine WR.step (Ex.lenSl Tryz.underlying30 (by assumption) rfl) (Wn.none rfl) rfl rfl ?_ | refine WR.step (Ex.lenRow Tryz.underlying30 H (by repeat (first | exact List.Mem.head _ | apply List.Mem.tail)) rfl) (Wn.none rfl) rfl rfl ?_ | refine WR.step (Ex.lenSlice Tryz.underlying30 rfl) (Wn.none rfl) rfl rfl ?_
  refine WR.stepF (Ex.gtr rfl rfl) (by omega) (Wn.none rfl) rfl rfl ?_
  refine NL (TN (CF rfl (SK (TN (SQ (RG (MV rfl rfl (WR.call H (Ct.mono (find_spec name hn) (R' := fun r M => ∃ b0 b1, CellM M ⟨b0, 0, none⟩ (encR 128) ∧ CellM M ⟨b1, 0, none⟩ (encR 256) ∧ r = .tuple #[.agg #[S [], .nilFunc, .nilFunc], .bool false]) (fun _ _ ⟨b0, b1, h0, h1, h⟩ => ⟨b0, b1, h0, h1, by rw [hk] at h; exact h⟩)) rfl (trivial) (Wn.none rfl) rfl ?_))))))))
  intro v14 M w H hle hr14
  replace hp := hp.mono hle
  obtain ⟨b0, b1, hc0, hc1, rfl⟩ := hr14
  refine MV rfl rfl (ST (Ex.extract rfl rfl) rfl (ST (Ex.extract rfl rfl) rfl (WR.alloc [_, _, _] H Tryz.zeroValue156 rfl (Wn.none rfl) rfl ?_)))
  intro b6 w H
  refine WR.store [_, _, _] H rfl rfl rfl (by repeat first | exact .head | apply Upd.tail) Tryz.sizeOf156 rfl (by rfl) (by rfl) (Wn.none rfl) ?_
  intro w H
  refine AS rfl rfl (NL (TN (SQ (SQ (RG (MV rfl rfl (ST (Ex.notF rfl) rfl (NL (TN (CT rfl (SQ (RG (WR.call H (fault_spec _ _) rfl (trivial) (Wn.none rfl) rfl ?_)))))))))))))
  intro v19 M w H hle hr19
  replace hp := hp.mono hle
  replace hc0 := hc0.mono hle
  replace hc1 := hc1.mono hle
  obtain rfl := hr19
  refine AS rfl rfl (WR.store [_, _] H rfl rfl rfl (by repeat first | exact .head | apply Upd.tail) Tryz.sizeOf24 rfl (by rfl) (by rfl) (Wn.none rfl) ?_)
  intro w H
  refine NL (TN (RT ?_))
  refine WQ.ret2 rfl rfl ⟨_, rfl, H.loadAgg (by repeat (first | exact List.Mem.head _ | apply List.Mem.tail)) Tryz.isAgg24 Tryz.sizeOf24 (by rfl)⟩ H.ext ?_
  exact rfl
theorem decode_0 (name : List UInt8) (v : Value) (l : List UInt8) (hn : name.length ≤ maxLen) (hs : l.length ≤ 12000) (hk : setOf name = some 0) : Ct Tryz.prog 97 [S name, v] (fun M => Bs M v l) (fun r _ => r = .tuple #[S (decoded 0 l), fault 0 0]) := by
  refine Ct.of Tryz.func97 (enters Tryz.func97 (by kernel_rfl) rfl) rfl rfl rfl ?_
  intro w0 M0 H hp
  refine SQ (RG (AS rfl rfl (WR.alloc [_, _] H Tryz.zeroValue24 rfl (Wn.none rfl) rfl ?_)))
  intro b5 w H
  refine NL (TN (SQ (SQ (RG (MV rfl rfl ?_)))))
  first | refine WR.step (Ex.lenSl Tryz.underlying30 (by assumption) rfl) (Wn.none rfl) rfl rfl ?_ | refine WR.step (Ex.lenRow Tryz.underlying30 H (by repeat (first | exact List.Mem.head _ | apply List.Mem.tail)) rfl) (Wn.none rfl) rfl rfl ?_ | refine WR.step (Ex.lenSlice Tryz.underlying30 rfl) (Wn.none rfl) rfl rfl ?_
  refine WR.stepF (Ex.gtr rfl rfl) (by omega) (Wn.none rfl) rfl rfl ?_
  refine NL (TN (CF rfl (SK (TN (SQ (RG (MV rfl rfl (WR.call H (Ct.mono (find_spec name hn) (R' := fun r M => ∃ b0 b1, CellM M ⟨b0, 0, none⟩ (encR 128) ∧ CellM M ⟨b1, 0, none⟩ (encR 256) ∧ r = .tuple #[.agg #[S [97, 115, 99, 105, 105], .func (.func 186) #[] #[ptr b0 0], .func (.func 187) #[] #[ptr b0 0]], .bool true]) (fun _ _ ⟨b0, b1, h0, h1, h⟩ => ⟨b0, b1, h0, h1, by rw [hk] at h; exact h⟩)) rfl (trivial) (Wn.none rfl) rfl ?_))))))))
  intro v14 M w H hle hr14
  replace hp := hp.mono hle
  obtain ⟨b0, b1, hc0, hc1, rfl⟩ := hr14
  refine MV rfl rfl (ST (Ex.extract rfl rfl) rfl (ST (Ex.extract rfl rfl) rfl (WR.alloc [_, _, _] H Tryz.zeroValue156 rfl (Wn.none rfl) rfl ?_)))
  intro b6 w H
  refine WR.store [_, _, _] H rfl rfl rfl (by repeat first | exact .head | apply Upd.tail) Tryz.sizeOf156 rfl (by rfl) (by rfl) (Wn.none rfl) ?_
  intro w H
  refine AS rfl rfl (NL (TN (SQ (SQ (RG (MV rfl rfl (ST (Ex.notT rfl) rfl (NL (TN (CF rfl (SK (TN (SQ (WC.draw (m := 8) rfl rfl H ?_))))))))))))))
  intro w H
  refine WA.take (i := 0) rfl (by kernel_rfl) (by kernel_rfl) (by kernel_rfl) (fun _ => Ex.fieldAddr Tryz.underlying156 rfl Tryz.sizeOf153 (by decide) rfl) (Wn.none rfl) rfl rfl (fun _ _ => rfl) (WA.take (i := 2) rfl (by kernel_rfl) (by kernel_rfl) (by kernel_rfl) (fun _ => Ex.move rfl) (Wn.none rfl) rfl rfl (fun _ _ => rfl) (ON 1 (by kernel_rfl) rfl ?_))
  first | refine WR.step (Ex.loadM H rfl (by assumption) Tryz.isAgg153) (Wn.none rfl) rfl rfl ?_ | refine WR.step (Ex.load1 H rfl (by repeat (first | exact List.Mem.head _ | apply List.Mem.tail)) Tryz.isAgg153 (by rfl)) (Wn.none rfl) rfl rfl ?_
  refine NA (ON 3 (by kernel_rfl) rfl (WR.callV (cap := [ptr b0 0]) H (dec1_spec _ l b0 128 (by omega)) rfl rfl (⟨by assumption, by assumption⟩) (Wn.none rfl) rfl ?_))
  intro v23 M w H hle hr23
  replace hp := hp.mono hle
  replace hc0 := hc0.mono hle
  replace hc1 := hc1.mono hle
  have hf23 := hr23
  refine NA ?_
  refine WA.two (i := 4) (j := 5) (by kernel_rfl) rfl rfl ?_ ?_
  · refine ST (Ex.runesStr Tryz.underlying170 Tryz.underlying21 Tryz.underlying9 H (by assumption) rfl) rfl ?_
    refine NA (ON 5 (by kernel_rfl) rfl (WR.call H (none_spec) rfl (trivial) (Wn.none rfl) rfl ?_))
    intro v25 M w H hle hr25
    replace hp := hp.mono hle
    replace hc0 := hc0.mono hle
    replace hc1 := hc1.mono hle
    replace hf23 := hf23.mono hle
    obtain rfl := hr25
    refine NA (ON 6 (by kernel_rfl) rfl (AS rfl rfl (NA (ON 7 (by kernel_rfl) rfl (WR.store [_, _] H rfl rfl rfl (by repeat first | exact .head | apply Upd.tail) Tryz.sizeOf24 rfl (by rfl) (by rfl) (Wn.none rfl) ?_)))))
    intro w H
    refine NA (WA.done (by kernel_rfl) (TN (RT ?_)))
    refine WQ.ret2 rfl rfl ⟨_, rfl, H.loadAgg (by repeat (first | exact List.Mem.head _ | apply List.Mem.tail)) Tryz.isAgg24 Tryz.sizeOf24 (by rfl)⟩ H.ext ?_
    exact rfl
  · refine WR.call H (none_spec) rfl (trivial) (Wn.none rfl) rfl ?_
    intro v25 M w H hle hr25
    replace hp := hp.mono hle
    replace hc0 := hc0.mono hle
    replace hc1 := hc1.mono hle
    replace hf23 := hf23.mono hle
    obtain rfl := hr25
    refine NA (ON 4 (by kernel_rfl) rfl (ST (Ex.runesStr Tryz.underlying170 Tryz.underlying21 Tryz.underlying9 H (by assumption) rfl) rfl ?_))
    refine NA (ON 6 (by kernel_rfl) rfl (AS rfl rfl (NA (ON 7 (by kernel_rfl) rfl (WR.store [_, _] H rfl rfl rfl (by repeat first | exact .head | apply Upd.tail) Tryz.sizeOf24 rfl (by rfl) (by rfl) (Wn.none rfl) ?_)))))
    intro w H
    refine NA (WA.done (by kernel_rfl) (TN (RT ?_)))
    refine WQ.ret2 rfl rfl ⟨_, rfl, H.loadAgg (by repeat (first | exact List.Mem.head _ | apply List.Mem.tail)) Tryz.isAgg24 Tryz.sizeOf24 (by rfl)⟩ H.ext ?_
    exact rfl
theorem decode_1 (name : List UInt8) (v : Value) (l : List UInt8) (hn : name.length ≤ maxLen) (hs : l.length ≤ 12000) (hk : setOf name = some 1) : Ct Tryz.prog 97 [S name, v] (fun M => Bs M v l) (fun r _ => r = .tuple #[S (decoded 1 l), fault 0 0]) := by
  refine Ct.of Tryz.func97 (enters Tryz.func97 (by kernel_rfl) rfl) rfl rfl rfl ?_
  intro w0 M0 H hp
  refine SQ (RG (AS rfl rfl (WR.alloc [_, _] H Tryz.zeroValue24 rfl (Wn.none rfl) rfl ?_)))
  intro b5 w H
  refine NL (TN (SQ (SQ (RG (MV rfl rfl ?_)))))
  first | refine WR.step (Ex.lenSl Tryz.underlying30 (by assumption) rfl) (Wn.none rfl) rfl rfl ?_ | refine WR.step (Ex.lenRow Tryz.underlying30 H (by repeat (first | exact List.Mem.head _ | apply List.Mem.tail)) rfl) (Wn.none rfl) rfl rfl ?_ | refine WR.step (Ex.lenSlice Tryz.underlying30 rfl) (Wn.none rfl) rfl rfl ?_
  refine WR.stepF (Ex.gtr rfl rfl) (by omega) (Wn.none rfl) rfl rfl ?_
  refine NL (TN (CF rfl (SK (TN (SQ (RG (MV rfl rfl (WR.call H (Ct.mono (find_spec name hn) (R' := fun r M => ∃ b0 b1, CellM M ⟨b0, 0, none⟩ (encR 128) ∧ CellM M ⟨b1, 0, none⟩ (encR 256) ∧ r = .tuple #[.agg #[S [108, 97, 116, 105, 110, 49], .func (.func 186) #[] #[ptr b1 0], .func (.func 187) #[] #[ptr b1 0]], .bool true]) (fun _ _ ⟨b0, b1, h0, h1, h⟩ => ⟨b0, b1, h0, h1, by rw [hk] at h; exact h⟩)) rfl (trivial) (Wn.none rfl) rfl ?_))))))))
  intro v14 M w H hle hr14
  replace hp := hp.mono hle
  obtain ⟨b0, b1, hc0, hc1, rfl⟩ := hr14
  refine MV rfl rfl (ST (Ex.extract rfl rfl) rfl (ST (Ex.extract rfl rfl) rfl (WR.alloc [_, _, _] H Tryz.zeroValue156 rfl (Wn.none rfl) rfl ?_)))
  intro b6 w H
  refine WR.store [_, _, _] H rfl rfl rfl (by repeat first | exact .head | apply Upd.tail) Tryz.sizeOf156 rfl (by rfl) (by rfl) (Wn.none rfl) ?_
  intro w H
  refine AS rfl rfl (NL (TN (SQ (SQ (RG (MV rfl rfl (ST (Ex.notT rfl) rfl (NL (TN (CF rfl (SK (TN (SQ (WC.draw (m := 8) rfl rfl H ?_))))))))))))))
  intro w H
  refine WA.take (i := 0) rfl (by kernel_rfl) (by kernel_rfl) (by kernel_rfl) (fun _ => Ex.fieldAddr Tryz.underlying156 rfl Tryz.sizeOf153 (by decide) rfl) (Wn.none rfl) rfl rfl (fun _ _ => rfl) (WA.take (i := 2) rfl (by kernel_rfl) (by kernel_rfl) (by kernel_rfl) (fun _ => Ex.move rfl) (Wn.none rfl) rfl rfl (fun _ _ => rfl) (ON 1 (by kernel_rfl) rfl ?_))
  first | refine WR.step (Ex.loadM H rfl (by assumption) Tryz.isAgg153) (Wn.none rfl) rfl rfl ?_ | refine WR.step (Ex.load1 H rfl (by repeat (first | exact List.Mem.head _ | apply List.Mem.tail)) Tryz.isAgg153 (by rfl)) (Wn.none rfl) rfl rfl ?_
  refine NA (ON 3 (by kernel_rfl) rfl (WR.callV (cap := [ptr b1 0]) H (dec1_spec _ l b1 256 (by omega)) rfl rfl (⟨by assumption, by assumption⟩) (Wn.none rfl) rfl ?_))
  intro v23 M w H hle hr23
  replace hp := hp.mono hle
  replace hc0 := hc0.mono hle
  replace hc1 := hc1.mono hle
  have hf23 := hr23
  refine NA ?_
  refine WA.two (i := 4) (j := 5) (by kernel_rfl) rfl rfl ?_ ?_
  · refine ST (Ex.runesStr Tryz.underlying170 Tryz.underlying21 Tryz.underlying9 H (by assumption) rfl) rfl ?_
    refine NA (ON 5 (by kernel_rfl) rfl (WR.call H (none_spec) rfl (trivial) (Wn.none rfl) rfl ?_))
    intro v25 M w H hle hr25
    replace hp := hp.mono hle
    replace hc0 := hc0.mono hle
    replace hc1 := hc1.mono hle
    replace hf23 := hf23.mono hle
    obtain rfl := hr25
    refine NA (ON 6 (by kernel_rfl) rfl (AS rfl rfl (NA (ON 7 (by kernel_rfl) rfl (WR.store [_, _] H rfl rfl rfl (by repeat first | exact .head | apply Upd.tail) Tryz.sizeOf24 rfl (by rfl) (by rfl) (Wn.none rfl) ?_)))))
    intro w H
    refine NA (WA.done (by kernel_rfl) (TN (RT ?_)))
    refine WQ.ret2 rfl rfl ⟨_, rfl, H.loadAgg (by repeat (first | exact List.Mem.head _ | apply List.Mem.tail)) Tryz.isAgg24 Tryz.sizeOf24 (by rfl)⟩ H.ext ?_
    exact rfl
  · refine WR.call H (none_spec) rfl (trivial) (Wn.none rfl) rfl ?_
    intro v25 M w H hle hr25
    replace hp := hp.mono hle
    replace hc0 := hc0.mono hle
    replace hc1 := hc1.mono hle
    replace hf23 := hf23.mono hle
    obtain rfl := hr25
    refine NA (ON 4 (by kernel_rfl) rfl (ST (Ex.runesStr Tryz.underlying170 Tryz.underlying21 Tryz.underlying9 H (by assumption) rfl) rfl ?_))
    refine NA (ON 6 (by kernel_rfl) rfl (AS rfl rfl (NA (ON 7 (by kernel_rfl) rfl (WR.store [_, _] H rfl rfl rfl (by repeat first | exact .head | apply Upd.tail) Tryz.sizeOf24 rfl (by rfl) (by rfl) (Wn.none rfl) ?_)))))
    intro w H
    refine NA (WA.done (by kernel_rfl) (TN (RT ?_)))
    refine WQ.ret2 rfl rfl ⟨_, rfl, H.loadAgg (by repeat (first | exact List.Mem.head _ | apply List.Mem.tail)) Tryz.isAgg24 Tryz.sizeOf24 (by rfl)⟩ H.ext ?_
    exact rfl
theorem decode_2 (name : List UInt8) (v : Value) (l : List UInt8) (hn : name.length ≤ maxLen) (hs : l.length ≤ 12000) (hk : setOf name = some 2) : Ct Tryz.prog 97 [S name, v] (fun M => Bs M v l) (fun r _ => r = .tuple #[S (decoded 2 l), fault 0 0]) := by
  refine Ct.of Tryz.func97 (enters Tryz.func97 (by kernel_rfl) rfl) rfl rfl rfl ?_
  intro w0 M0 H hp
  refine SQ (RG (AS rfl rfl (WR.alloc [_, _] H Tryz.zeroValue24 rfl (Wn.none rfl) rfl ?_)))
  intro b5 w H
  refine NL (TN (SQ (SQ (RG (MV rfl rfl ?_)))))
  first | refine WR.step (Ex.lenSl Tryz.underlying30 (by assumption) rfl) (Wn.none rfl) rfl rfl ?_ | refine WR.step (Ex.lenRow Tryz.underlying30 H (by repeat (first | exact List.Mem.head _ | apply List.Mem.tail)) rfl) (Wn.none rfl) rfl rfl ?_ | refine WR.step (Ex.lenSlice Tryz.underlying30 rfl) (Wn.none rfl) rfl rfl ?_
  refine WR.stepF (Ex.gtr rfl rfl) (by omega) (Wn.none rfl) rfl rfl ?_
  refine NL (TN (CF rfl (SK (TN (SQ (RG (MV rfl rfl (WR.call H (Ct.mono (find_spec name hn) (R' := fun r M => ∃ b0 b1, CellM M ⟨b0, 0, none⟩ (encR 128) ∧ CellM M ⟨b1, 0, none⟩ (encR 256) ∧ r = .tuple #[.agg #[S [117, 116, 102, 56], .func (.func 158) #[] #[], .func (.func 159) #[] #[]], .bool true]) (fun _ _ ⟨b0, b1, h0, h1, h⟩ => ⟨b0, b1, h0, h1, by rw [hk] at h; exact h⟩)) rfl (trivial) (Wn.none rfl) rfl ?_))))))))
  intro v14 M w H hle hr14
  replace hp := hp.mono hle
  obtain ⟨b0, b1, hc0, hc1, rfl⟩ := hr14
  refine MV rfl rfl (ST (Ex.extract rfl rfl) rfl (ST (Ex.extract rfl rfl) rfl (WR.alloc [_, _, _] H Tryz.zeroValue156 rfl (Wn.none rfl) rfl ?_)))
  intro b6 w H
  refine WR.store [_, _, _] H rfl rfl rfl (by repeat first | exact .head | apply Upd.tail) Tryz.sizeOf156 rfl (by rfl) (by rfl) (Wn.none rfl) ?_
  intro w H
  refine AS rfl rfl (NL (TN (SQ (SQ (RG (MV rfl rfl (ST (Ex.notT rfl) rfl (NL (TN (CF rfl (SK (TN (SQ (WC.draw (m := 8) rfl rfl H ?_))))))))))))))
  intro w H
  refine WA.take (i := 0) rfl (by kernel_rfl) (by kernel_rfl) (by kernel_rfl) (fun _ => Ex.fieldAddr Tryz.underlying156 rfl Tryz.sizeOf153 (by decide) rfl) (Wn.none rfl) rfl rfl (fun _ _ => rfl) (WA.take (i := 2) rfl (by kernel_rfl) (by kernel_rfl) (by kernel_rfl) (fun _ => Ex.move rfl) (Wn.none rfl) rfl rfl (fun _ _ => rfl) (ON 1 (by kernel_rfl) rfl ?_))
  first | refine WR.step (Ex.loadM H rfl (by assumption) Tryz.isAgg153) (Wn.none rfl) rfl rfl ?_ | refine WR.step (Ex.load1 H rfl (by repeat (first | exact List.Mem.head _ | apply List.Mem.tail)) Tryz.isAgg153 (by rfl)) (Wn.none rfl) rfl rfl ?_
  refine NA (ON 3 (by kernel_rfl) rfl (WR.callV (cap := []) H (decU_spec _ l (by omega)) rfl rfl (by assumption) (Wn.none rfl) rfl ?_))
  intro v23 M w H hle hr23
  replace hp := hp.mono hle
  replace hc0 := hc0.mono hle
  replace hc1 := hc1.mono hle
  have hf23 := hr23
  refine NA ?_
  refine WA.two (i := 4) (j := 5) (by kernel_rfl) rfl rfl ?_ ?_
  · refine ST (Ex.runesStr Tryz.underlying170 Tryz.underlying21 Tryz.underlying9 H (by assumption) rfl) rfl ?_
    refine NA (ON 5 (by kernel_rfl) rfl (WR.call H (none_spec) rfl (trivial) (Wn.none rfl) rfl ?_))
    intro v25 M w H hle hr25
    replace hp := hp.mono hle
    replace hc0 := hc0.mono hle
    replace hc1 := hc1.mono hle
    replace hf23 := hf23.mono hle
    obtain rfl := hr25
    refine NA (ON 6 (by kernel_rfl) rfl (AS rfl rfl (NA (ON 7 (by kernel_rfl) rfl (WR.store [_, _] H rfl rfl rfl (by repeat first | exact .head | apply Upd.tail) Tryz.sizeOf24 rfl (by rfl) (by rfl) (Wn.none rfl) ?_)))))
    intro w H
    refine NA (WA.done (by kernel_rfl) (TN (RT ?_)))
    refine WQ.ret2 rfl rfl ⟨_, rfl, H.loadAgg (by repeat (first | exact List.Mem.head _ | apply List.Mem.tail)) Tryz.isAgg24 Tryz.sizeOf24 (by rfl)⟩ H.ext ?_
    exact rfl
  · refine WR.call H (none_spec) rfl (trivial) (Wn.none rfl) rfl ?_
    intro v25 M w H hle hr25
    replace hp := hp.mono hle
    replace hc0 := hc0.mono hle
    replace hc1 := hc1.mono hle
    replace hf23 := hf23.mono hle
    obtain rfl := hr25
    refine NA (ON 4 (by kernel_rfl) rfl (ST (Ex.runesStr Tryz.underlying170 Tryz.underlying21 Tryz.underlying9 H (by assumption) rfl) rfl ?_))
    refine NA (ON 6 (by kernel_rfl) rfl (AS rfl rfl (NA (ON 7 (by kernel_rfl) rfl (WR.store [_, _] H rfl rfl rfl (by repeat first | exact .head | apply Upd.tail) Tryz.sizeOf24 rfl (by rfl) (by rfl) (Wn.none rfl) ?_)))))
    intro w H
    refine NA (WA.done (by kernel_rfl) (TN (RT ?_)))
    refine WQ.ret2 rfl rfl ⟨_, rfl, H.loadAgg (by repeat (first | exact List.Mem.head _ | apply List.Mem.tail)) Tryz.isAgg24 Tryz.sizeOf24 (by rfl)⟩ H.ext ?_
    exact rfl
theorem decode_3 (name : List UInt8) (v : Value) (l : List UInt8) (hn : name.length ≤ maxLen) (hs : l.length ≤ 12000) (hk : setOf name = some 3) : Ct Tryz.prog 97 [S name, v] (fun M => Bs M v l) (fun r _ => r = .tuple #[S (decoded 3 l), fault 0 0]) := by
  refine Ct.of Tryz.func97 (enters Tryz.func97 (by kernel_rfl) rfl) rfl rfl rfl ?_
  intro w0 M0 H hp
  refine SQ (RG (AS rfl rfl (WR.alloc [_, _] H Tryz.zeroValue24 rfl (Wn.none rfl) rfl ?_)))
  intro b5 w H
  refine NL (TN (SQ (SQ (RG (MV rfl rfl ?_)))))
  first | refine WR.step (Ex.lenSl Tryz.underlying30 (by assumption) rfl) (Wn.none rfl) rfl rfl ?_ | refine WR.step (Ex.lenRow Tryz.underlying30 H (by repeat (first | exact List.Mem.head _ | apply List.Mem.tail)) rfl) (Wn.none rfl) rfl rfl ?_ | refine WR.step (Ex.lenSlice Tryz.underlying30 rfl) (Wn.none rfl) rfl rfl ?_
  refine WR.stepF (Ex.gtr rfl rfl) (by omega) (Wn.none rfl) rfl rfl ?_
  refine NL (TN (CF rfl (SK (TN (SQ (RG (MV rfl rfl (WR.call H (Ct.mono (find_spec name hn) (R' := fun r M => ∃ b0 b1, CellM M ⟨b0, 0, none⟩ (encR 128) ∧ CellM M ⟨b1, 0, none⟩ (encR 256) ∧ r = .tuple #[.agg #[S [117, 116, 102, 49, 54, 98, 101], .func (.func 161) #[] #[], .func (.func 162) #[] #[]], .bool true]) (fun _ _ ⟨b0, b1, h0, h1, h⟩ => ⟨b0, b1, h0, h1, by rw [hk] at h; exact h⟩)) rfl (trivial) (Wn.none rfl) rfl ?_))))))))
  intro v14 M w H hle hr14
  replace hp := hp.mono hle
  obtain ⟨b0, b1, hc0, hc1, rfl⟩ := hr14
  refine MV rfl rfl (ST (Ex.extract rfl rfl) rfl (ST (Ex.extract rfl rfl) rfl (WR.alloc [_, _, _] H Tryz.zeroValue156 rfl (Wn.none rfl) rfl ?_)))
  intro b6 w H
  refine WR.store [_, _, _] H rfl rfl rfl (by repeat first | exact .head | apply Upd.tail) Tryz.sizeOf156 rfl (by rfl) (by rfl) (Wn.none rfl) ?_
  intro w H
  refine AS rfl rfl (NL (TN (SQ (SQ (RG (MV rfl rfl (ST (Ex.notT rfl) rfl (NL (TN (CF rfl (SK (TN (SQ (WC.draw (m := 8) rfl rfl H ?_))))))))))))))
  intro w H
  refine WA.take (i := 0) rfl (by kernel_rfl) (by kernel_rfl) (by kernel_rfl) (fun _ => Ex.fieldAddr Tryz.underlying156 rfl Tryz.sizeOf153 (by decide) rfl) (Wn.none rfl) rfl rfl (fun _ _ => rfl) (WA.take (i := 2) rfl (by kernel_rfl) (by kernel_rfl) (by kernel_rfl) (fun _ => Ex.move rfl) (Wn.none rfl) rfl rfl (fun _ _ => rfl) (ON 1 (by kernel_rfl) rfl ?_))
  first | refine WR.step (Ex.loadM H rfl (by assumption) Tryz.isAgg153) (Wn.none rfl) rfl rfl ?_ | refine WR.step (Ex.load1 H rfl (by repeat (first | exact List.Mem.head _ | apply List.Mem.tail)) Tryz.isAgg153 (by rfl)) (Wn.none rfl) rfl rfl ?_
  refine NA (ON 3 (by kernel_rfl) rfl (WR.callV (cap := []) H (units_spec _ l (by omega)) rfl rfl (by assumption) (Wn.none rfl) rfl ?_))
  intro v23 M w H hle hr23
  replace hp := hp.mono hle
  replace hc0 := hc0.mono hle
  replace hc1 := hc1.mono hle
  have hf23 := hr23
  refine NA ?_
  refine WA.two (i := 4) (j := 5) (by kernel_rfl) rfl rfl ?_ ?_
  · refine ST (Ex.runesStr Tryz.underlying170 Tryz.underlying21 Tryz.underlying9 H (by assumption) rfl) rfl ?_
    refine NA (ON 5 (by kernel_rfl) rfl (WR.call H (none_spec) rfl (trivial) (Wn.none rfl) rfl ?_))
    intro v25 M w H hle hr25
    replace hp := hp.mono hle
    replace hc0 := hc0.mono hle
    replace hc1 := hc1.mono hle
    replace hf23 := hf23.mono hle
    obtain rfl := hr25
    refine NA (ON 6 (by kernel_rfl) rfl (AS rfl rfl (NA (ON 7 (by kernel_rfl) rfl (WR.store [_, _] H rfl rfl rfl (by repeat first | exact .head | apply Upd.tail) Tryz.sizeOf24 rfl (by rfl) (by rfl) (Wn.none rfl) ?_)))))
    intro w H
    refine NA (WA.done (by kernel_rfl) (TN (RT ?_)))
    refine WQ.ret2 rfl rfl ⟨_, rfl, H.loadAgg (by repeat (first | exact List.Mem.head _ | apply List.Mem.tail)) Tryz.isAgg24 Tryz.sizeOf24 (by rfl)⟩ H.ext ?_
    exact rfl
  · refine WR.call H (none_spec) rfl (trivial) (Wn.none rfl) rfl ?_
    intro v25 M w H hle hr25
    replace hp := hp.mono hle
    replace hc0 := hc0.mono hle
    replace hc1 := hc1.mono hle
    replace hf23 := hf23.mono hle
    obtain rfl := hr25
    refine NA (ON 4 (by kernel_rfl) rfl (ST (Ex.runesStr Tryz.underlying170 Tryz.underlying21 Tryz.underlying9 H (by assumption) rfl) rfl ?_))
    refine NA (ON 6 (by kernel_rfl) rfl (AS rfl rfl (NA (ON 7 (by kernel_rfl) rfl (WR.store [_, _] H rfl rfl rfl (by repeat first | exact .head | apply Upd.tail) Tryz.sizeOf24 rfl (by rfl) (by rfl) (Wn.none rfl) ?_)))))
    intro w H
    refine NA (WA.done (by kernel_rfl) (TN (RT ?_)))
    refine WQ.ret2 rfl rfl ⟨_, rfl, H.loadAgg (by repeat (first | exact List.Mem.head _ | apply List.Mem.tail)) Tryz.isAgg24 Tryz.sizeOf24 (by rfl)⟩ H.ext ?_
    exact rfl
theorem decode_spec_k (name : List UInt8) (v : Value) (l : List UInt8) (hn : name.length ≤ maxLen) (hs : l.length ≤ 12000) (k : Nat) (hk : setOf name = some k) : Ct Tryz.prog 97 [S name, v] (fun M => Bs M v l) (fun r _ => r = .tuple #[S (decoded k l), fault 0 0]) := by
  have h4 := setOf_lt hk
  rcases k with _ | _ | _ | _ | k
  · exact decode_0 name v l hn hs hk
  · exact decode_1 name v l hn hs hk
  · exact decode_2 name v l hn hs hk
  · exact decode_3 name v l hn hs hk
  · omega
theorem dr_fix0 (l : List UInt8) : ((dr l).1 : Int) = fix0 (rune l).1 := by
  rw [rune_dr]; unfold fix0
  split
  · rfl
  · simp only []; omega
theorem fix0_id {n : Int} (h : 0 ≤ n) : fix0 n = n := by unfold fix0; rw [if_neg (by omega)]
theorem encode_unk (name l : List UInt8) (hn : name.length ≤ maxLen) (hs : l.length ≤ 12000) (hk : setOf name = none) : Ct Tryz.prog 84 [S name, S l] (fun M => Tabs M) (fun r _ => r = .tuple #[.slice none 0 0, fault 18 (-2)]) := by
  refine Ct.of Tryz.func84 (enters Tryz.func84 (by kernel_rfl) rfl) rfl rfl rfl ?_
  intro w0 M0 H hp
  refine SQ (RG (AS rfl rfl (WR.alloc [_, _] H Tryz.zeroValue24 rfl (Wn.none rfl) rfl ?_)))
  intro b5 w H
  refine NL (TN (SQ (SQ (RG (MV rfl rfl (ST (Ex.lenStr Tryz.underlying9 rfl) rfl (WR.stepF (Ex.gtr rfl rfl) (by omega) (Wn.none rfl) rfl rfl ?_)))))))
  refine NL (TN (CF rfl (SK (TN (SQ (RG (MV rfl rfl (WR.call H (Ct.mono (find_spec name hn) (R' := fun r M => ∃ b0 b1, CellM M ⟨b0, 0, none⟩ (encR 128) ∧ CellM M ⟨b1, 0, none⟩ (encR 256) ∧ r = .tuple #[.agg #[S [], .nilFunc, .nilFunc], .bool false]) (fun _ _ ⟨b0, b1, h0, h1, h⟩ => ⟨b0, b1, h0, h1, by rw [hk] at h; exact h⟩)) rfl (trivial) (Wn.none rfl) rfl ?_))))))))
  intro v19 M w H hle hr19
  replace hp := hp.mono hle
  obtain ⟨b0, b1, hc0, hc1, rfl⟩ := hr19
  refine MV rfl rfl (ST (Ex.extract rfl rfl) rfl (ST (Ex.extract rfl rfl) rfl (WR.alloc [_, _, _] H Tryz.zeroValue156 rfl (Wn.none rfl) rfl ?_)))
  intro b6 w H
  refine WR.store [_, _, _] H rfl rfl rfl (by repeat first | exact .head | apply Upd.tail) Tryz.sizeOf156 rfl (by rfl) (by rfl) (Wn.none rfl) ?_
  intro w H
  refine AS rfl rfl (NL (TN (SQ (SQ (RG (MV rfl rfl (ST (Ex.notF rfl) rfl (NL (TN (CT rfl (SQ (RG (WR.call H (fault_spec _ _) rfl (trivial) (Wn.none rfl) rfl ?_)))))))))))))
  intro v24 M w H hle hr24
  replace hp := hp.mono hle
  replace hc0 := hc0.mono hle
  replace hc1 := hc1.mono hle
  obtain rfl := hr24
  refine AS rfl rfl (WR.store [_, _] H rfl rfl rfl (by repeat first | exact .head | apply Upd.tail) Tryz.sizeOf24 rfl (by rfl) (by rfl) (Wn.none rfl) ?_)
  intro w H
  refine NL (TN (RT ?_))
  refine WQ.ret2 rfl rfl ⟨_, rfl, H.loadAgg (by repeat (first | exact List.Mem.head _ | apply List.Mem.tail)) Tryz.isAgg24 Tryz.sizeOf24 (by rfl)⟩ H.ext ?_
  exact rfl
theorem encode_mal0 (name l : List UInt8) (hn : name.length ≤ maxLen) (hs : l.length ≤ 12000) (hk : setOf name = some 0) (hv : vld l = false) : Ct Tryz.prog 84 [S name, S l] (fun M => Tabs M) (fun r _ => r = .tuple #[.slice none 0 0, fault 5 (-3)]) := by
  refine Ct.of Tryz.func84 (enters Tryz.func84 (by kernel_rfl) rfl) rfl rfl rfl ?_
  intro w0 M0 H hp
  refine SQ (RG (AS rfl rfl (WR.alloc [_, _] H Tryz.zeroValue24 rfl (Wn.none rfl) rfl ?_)))
  intro b5 w H
  refine NL (TN (SQ (SQ (RG (MV rfl rfl (ST (Ex.lenStr Tryz.underlying9 rfl) rfl (WR.stepF (Ex.gtr rfl rfl) (by omega) (Wn.none rfl) rfl rfl ?_)))))))
  refine NL (TN (CF rfl (SK (TN (SQ (RG (MV rfl rfl (WR.call H (Ct.mono (find_spec name hn) (R' := fun r M => ∃ b0 b1, CellM M ⟨b0, 0, none⟩ (encR 128) ∧ CellM M ⟨b1, 0, none⟩ (encR 256) ∧ r = .tuple #[.agg #[S [97, 115, 99, 105, 105], .func (.func 186) #[] #[ptr b0 0], .func (.func 187) #[] #[ptr b0 0]], .bool true]) (fun _ _ ⟨b0, b1, h0, h1, h⟩ => ⟨b0, b1, h0, h1, by rw [hk] at h; exact h⟩)) rfl (trivial) (Wn.none rfl) rfl ?_))))))))
  intro v19 M w H hle hr19
  replace hp := hp.mono hle
  obtain ⟨b0, b1, hc0, hc1, rfl⟩ := hr19
  refine MV rfl rfl (ST (Ex.extract rfl rfl) rfl (ST (Ex.extract rfl rfl) rfl (WR.alloc [_, _, _] H Tryz.zeroValue156 rfl (Wn.none rfl) rfl ?_)))
  intro b6 w H
  refine WR.store [_, _, _] H rfl rfl rfl (by repeat first | exact .head | apply Upd.tail) Tryz.sizeOf156 rfl (by rfl) (by rfl) (Wn.none rfl) ?_
  intro w H
  refine AS rfl rfl (NL (TN (SQ (SQ (RG (MV rfl rfl (ST (Ex.notT rfl) rfl (NL (TN (CF rfl (SK (TN (SQ (SQ (RG (MV rfl rfl (WR.call H (Ct.mono (validString_spec l (by omega)) (R' := fun r _ => r = .bool false) (fun _ _ h => by rw [hv] at h; exact h)) rfl (by assumption) (Wn.none rfl) rfl ?_)))))))))))))))))
  intro v26 M w H hle hr26
  replace hp := hp.mono hle
  replace hc0 := hc0.mono hle
  replace hc1 := hc1.mono hle
  obtain rfl := hr26
  refine ST (Ex.notF rfl) rfl (NL (TN (CT rfl (SQ (RG (WR.call H (fault_spec _ _) rfl (trivial) (Wn.none rfl) rfl ?_))))))
  intro v28 M w H hle hr28
  replace hp := hp.mono hle
  replace hc0 := hc0.mono hle
  replace hc1 := hc1.mono hle
  obtain rfl := hr28
  refine AS rfl rfl (WR.store [_, _] H rfl rfl rfl (by repeat first | exact .head | apply Upd.tail) Tryz.sizeOf24 rfl (by rfl) (by rfl) (Wn.none rfl) ?_)
  intro w H
  refine NL (TN (RT ?_))
  refine WQ.ret2 rfl rfl ⟨_, rfl, H.loadAgg (by repeat (first | exact List.Mem.head _ | apply List.Mem.tail)) Tryz.isAgg24 Tryz.sizeOf24 (by rfl)⟩ H.ext ?_
  exact rfl
theorem encode_mal1 (name l : List UInt8) (hn : name.length ≤ maxLen) (hs : l.length ≤ 12000) (hk : setOf name = some 1) (hv : vld l = false) : Ct Tryz.prog 84 [S name, S l] (fun M => Tabs M) (fun r _ => r = .tuple #[.slice none 0 0, fault 5 (-3)]) := by
  refine Ct.of Tryz.func84 (enters Tryz.func84 (by kernel_rfl) rfl) rfl rfl rfl ?_
  intro w0 M0 H hp
  refine SQ (RG (AS rfl rfl (WR.alloc [_, _] H Tryz.zeroValue24 rfl (Wn.none rfl) rfl ?_)))
  intro b5 w H
  refine NL (TN (SQ (SQ (RG (MV rfl rfl (ST (Ex.lenStr Tryz.underlying9 rfl) rfl (WR.stepF (Ex.gtr rfl rfl) (by omega) (Wn.none rfl) rfl rfl ?_)))))))
  refine NL (TN (CF rfl (SK (TN (SQ (RG (MV rfl rfl (WR.call H (Ct.mono (find_spec name hn) (R' := fun r M => ∃ b0 b1, CellM M ⟨b0, 0, none⟩ (encR 128) ∧ CellM M ⟨b1, 0, none⟩ (encR 256) ∧ r = .tuple #[.agg #[S [108, 97, 116, 105, 110, 49], .func (.func 186) #[] #[ptr b1 0], .func (.func 187) #[] #[ptr b1 0]], .bool true]) (fun _ _ ⟨b0, b1, h0, h1, h⟩ => ⟨b0, b1, h0, h1, by rw [hk] at h; exact h⟩)) rfl (trivial) (Wn.none rfl) rfl ?_))))))))
  intro v19 M w H hle hr19
  replace hp := hp.mono hle
  obtain ⟨b0, b1, hc0, hc1, rfl⟩ := hr19
  refine MV rfl rfl (ST (Ex.extract rfl rfl) rfl (ST (Ex.extract rfl rfl) rfl (WR.alloc [_, _, _] H Tryz.zeroValue156 rfl (Wn.none rfl) rfl ?_)))
  intro b6 w H
  refine WR.store [_, _, _] H rfl rfl rfl (by repeat first | exact .head | apply Upd.tail) Tryz.sizeOf156 rfl (by rfl) (by rfl) (Wn.none rfl) ?_
  intro w H
  refine AS rfl rfl (NL (TN (SQ (SQ (RG (MV rfl rfl (ST (Ex.notT rfl) rfl (NL (TN (CF rfl (SK (TN (SQ (SQ (RG (MV rfl rfl (WR.call H (Ct.mono (validString_spec l (by omega)) (R' := fun r _ => r = .bool false) (fun _ _ h => by rw [hv] at h; exact h)) rfl (by assumption) (Wn.none rfl) rfl ?_)))))))))))))))))
  intro v26 M w H hle hr26
  replace hp := hp.mono hle
  replace hc0 := hc0.mono hle
  replace hc1 := hc1.mono hle
  obtain rfl := hr26
  refine ST (Ex.notF rfl) rfl (NL (TN (CT rfl (SQ (RG (WR.call H (fault_spec _ _) rfl (trivial) (Wn.none rfl) rfl ?_))))))
  intro v28 M w H hle hr28
  replace hp := hp.mono hle
  replace hc0 := hc0.mono hle
  replace hc1 := hc1.mono hle
  obtain rfl := hr28
  refine AS rfl rfl (WR.store [_, _] H rfl rfl rfl (by repeat first | exact .head | apply Upd.tail) Tryz.sizeOf24 rfl (by rfl) (by rfl) (Wn.none rfl) ?_)
  intro w H
  refine NL (TN (RT ?_))
  refine WQ.ret2 rfl rfl ⟨_, rfl, H.loadAgg (by repeat (first | exact List.Mem.head _ | apply List.Mem.tail)) Tryz.isAgg24 Tryz.sizeOf24 (by rfl)⟩ H.ext ?_
  exact rfl
theorem encode_mal2 (name l : List UInt8) (hn : name.length ≤ maxLen) (hs : l.length ≤ 12000) (hk : setOf name = some 2) (hv : vld l = false) : Ct Tryz.prog 84 [S name, S l] (fun M => Tabs M) (fun r _ => r = .tuple #[.slice none 0 0, fault 5 (-3)]) := by
  refine Ct.of Tryz.func84 (enters Tryz.func84 (by kernel_rfl) rfl) rfl rfl rfl ?_
  intro w0 M0 H hp
  refine SQ (RG (AS rfl rfl (WR.alloc [_, _] H Tryz.zeroValue24 rfl (Wn.none rfl) rfl ?_)))
  intro b5 w H
  refine NL (TN (SQ (SQ (RG (MV rfl rfl (ST (Ex.lenStr Tryz.underlying9 rfl) rfl (WR.stepF (Ex.gtr rfl rfl) (by omega) (Wn.none rfl) rfl rfl ?_)))))))
  refine NL (TN (CF rfl (SK (TN (SQ (RG (MV rfl rfl (WR.call H (Ct.mono (find_spec name hn) (R' := fun r M => ∃ b0 b1, CellM M ⟨b0, 0, none⟩ (encR 128) ∧ CellM M ⟨b1, 0, none⟩ (encR 256) ∧ r = .tuple #[.agg #[S [117, 116, 102, 56], .func (.func 158) #[] #[], .func (.func 159) #[] #[]], .bool true]) (fun _ _ ⟨b0, b1, h0, h1, h⟩ => ⟨b0, b1, h0, h1, by rw [hk] at h; exact h⟩)) rfl (trivial) (Wn.none rfl) rfl ?_))))))))
  intro v19 M w H hle hr19
  replace hp := hp.mono hle
  obtain ⟨b0, b1, hc0, hc1, rfl⟩ := hr19
  refine MV rfl rfl (ST (Ex.extract rfl rfl) rfl (ST (Ex.extract rfl rfl) rfl (WR.alloc [_, _, _] H Tryz.zeroValue156 rfl (Wn.none rfl) rfl ?_)))
  intro b6 w H
  refine WR.store [_, _, _] H rfl rfl rfl (by repeat first | exact .head | apply Upd.tail) Tryz.sizeOf156 rfl (by rfl) (by rfl) (Wn.none rfl) ?_
  intro w H
  refine AS rfl rfl (NL (TN (SQ (SQ (RG (MV rfl rfl (ST (Ex.notT rfl) rfl (NL (TN (CF rfl (SK (TN (SQ (SQ (RG (MV rfl rfl (WR.call H (Ct.mono (validString_spec l (by omega)) (R' := fun r _ => r = .bool false) (fun _ _ h => by rw [hv] at h; exact h)) rfl (by assumption) (Wn.none rfl) rfl ?_)))))))))))))))))
  intro v26 M w H hle hr26
  replace hp := hp.mono hle
  replace hc0 := hc0.mono hle
  replace hc1 := hc1.mono hle
  obtain rfl := hr26
  refine ST (Ex.notF rfl) rfl (NL (TN (CT rfl (SQ (RG (WR.call H (fault_spec _ _) rfl (trivial) (Wn.none rfl) rfl ?_))))))
  intro v28 M w H hle hr28
  replace hp := hp.mono hle
  replace hc0 := hc0.mono hle
  replace hc1 := hc1.mono hle
  obtain rfl := hr28
  refine AS rfl rfl (WR.store [_, _] H rfl rfl rfl (by repeat first | exact .head | apply Upd.tail) Tryz.sizeOf24 rfl (by rfl) (by rfl) (Wn.none rfl) ?_)
  intro w H
  refine NL (TN (RT ?_))
  refine WQ.ret2 rfl rfl ⟨_, rfl, H.loadAgg (by repeat (first | exact List.Mem.head _ | apply List.Mem.tail)) Tryz.isAgg24 Tryz.sizeOf24 (by rfl)⟩ H.ext ?_
  exact rfl
theorem encode_mal3 (name l : List UInt8) (hn : name.length ≤ maxLen) (hs : l.length ≤ 12000) (hk : setOf name = some 3) (hv : vld l = false) : Ct Tryz.prog 84 [S name, S l] (fun M => Tabs M) (fun r _ => r = .tuple #[.slice none 0 0, fault 5 (-3)]) := by
  refine Ct.of Tryz.func84 (enters Tryz.func84 (by kernel_rfl) rfl) rfl rfl rfl ?_
  intro w0 M0 H hp
  refine SQ (RG (AS rfl rfl (WR.alloc [_, _] H Tryz.zeroValue24 rfl (Wn.none rfl) rfl ?_)))
  intro b5 w H
  refine NL (TN (SQ (SQ (RG (MV rfl rfl (ST (Ex.lenStr Tryz.underlying9 rfl) rfl (WR.stepF (Ex.gtr rfl rfl) (by omega) (Wn.none rfl) rfl rfl ?_)))))))
  refine NL (TN (CF rfl (SK (TN (SQ (RG (MV rfl rfl (WR.call H (Ct.mono (find_spec name hn) (R' := fun r M => ∃ b0 b1, CellM M ⟨b0, 0, none⟩ (encR 128) ∧ CellM M ⟨b1, 0, none⟩ (encR 256) ∧ r = .tuple #[.agg #[S [117, 116, 102, 49, 54, 98, 101], .func (.func 161) #[] #[], .func (.func 162) #[] #[]], .bool true]) (fun _ _ ⟨b0, b1, h0, h1, h⟩ => ⟨b0, b1, h0, h1, by rw [hk] at h; exact h⟩)) rfl (trivial) (Wn.none rfl) rfl ?_))))))))
  intro v19 M w H hle hr19
  replace hp := hp.mono hle
  obtain ⟨b0, b1, hc0, hc1, rfl⟩ := hr19
  refine MV rfl rfl (ST (Ex.extract rfl rfl) rfl (ST (Ex.extract rfl rfl) rfl (WR.alloc [_, _, _] H Tryz.zeroValue156 rfl (Wn.none rfl) rfl ?_)))
  intro b6 w H
  refine WR.store [_, _, _] H rfl rfl rfl (by repeat first | exact .head | apply Upd.tail) Tryz.sizeOf156 rfl (by rfl) (by rfl) (Wn.none rfl) ?_
  intro w H
  refine AS rfl rfl (NL (TN (SQ (SQ (RG (MV rfl rfl (ST (Ex.notT rfl) rfl (NL (TN (CF rfl (SK (TN (SQ (SQ (RG (MV rfl rfl (WR.call H (Ct.mono (validString_spec l (by omega)) (R' := fun r _ => r = .bool false) (fun _ _ h => by rw [hv] at h; exact h)) rfl (by assumption) (Wn.none rfl) rfl ?_)))))))))))))))))
  intro v26 M w H hle hr26
  replace hp := hp.mono hle
  replace hc0 := hc0.mono hle
  replace hc1 := hc1.mono hle
  obtain rfl := hr26
  refine ST (Ex.notF rfl) rfl (NL (TN (CT rfl (SQ (RG (WR.call H (fault_spec _ _) rfl (trivial) (Wn.none rfl) rfl ?_))))))
  intro v28 M w H hle hr28
  replace hp := hp.mono hle
  replace hc0 := hc0.mono hle
  replace hc1 := hc1.mono hle
  obtain rfl := hr28
  refine AS rfl rfl (WR.store [_, _] H rfl rfl rfl (by repeat first | exact .head | apply Upd.tail) Tryz.sizeOf24 rfl (by rfl) (by rfl) (Wn.none rfl) ?_)
  intro w H
  refine NL (TN (RT ?_))
  refine WQ.ret2 rfl rfl ⟨_, rfl, H.loadAgg (by repeat (first | exact List.Mem.head _ | apply List.Mem.tail)) Tryz.isAgg24 Tryz.sizeOf24 (by rfl)⟩ H.ext ?_
  exact rfl
theorem encode_0 (name l : List UInt8) (hn : name.length ≤ maxLen) (hs : l.length ≤ 12000) (hk : setOf name = some 0) (hv : vld l = true) : Ct Tryz.prog 84 [S name, S l] (fun M => Tabs M) (fun r M => match encGo (encK 0) (chars l) 0 with | .ok b => ∃ v, r = .tuple #[v, fault 0 0] ∧ Bs M v b | .error e => r = .tuple #[.slice none 0 0, fault 17 (e : Int)]) := by
  refine Ct.of Tryz.func84 (enters Tryz.func84 (by kernel_rfl) rfl) rfl rfl rfl ?_
  intro w0 M0 H hp
  refine SQ (RG (AS rfl rfl (WR.alloc [_, _] H Tryz.zeroValue24 rfl (Wn.none rfl) rfl ?_)))
  intro b5 w H
  refine NL (TN (SQ (SQ (RG (MV rfl rfl (ST (Ex.lenStr Tryz.underlying9 rfl) rfl (WR.stepF (Ex.gtr rfl rfl) (by omega) (Wn.none rfl) rfl rfl ?_)))))))
  refine NL (TN (CF rfl (SK (TN (SQ (RG (MV rfl rfl (WR.call H (Ct.mono (find_spec name hn) (R' := fun r M => ∃ b0 b1, CellM M ⟨b0, 0, none⟩ (encR 128) ∧ CellM M ⟨b1, 0, none⟩ (encR 256) ∧ r = .tuple #[.agg #[S [97, 115, 99, 105, 105], .func (.func 186) #[] #[ptr b0 0], .func (.func 187) #[] #[ptr b0 0]], .bool true]) (fun _ _ ⟨b0, b1, h0, h1, h⟩ => ⟨b0, b1, h0, h1, by rw [hk] at h; exact h⟩)) rfl (trivial) (Wn.none rfl) rfl ?_))))))))
  intro v19 M w H hle hr19
  replace hp := hp.mono hle
  obtain ⟨b0, b1, hc0, hc1, rfl⟩ := hr19
  refine MV rfl rfl (ST (Ex.extract rfl rfl) rfl (ST (Ex.extract rfl rfl) rfl (WR.alloc [_, _, _] H Tryz.zeroValue156 rfl (Wn.none rfl) rfl ?_)))
  intro b6 w H
  refine WR.store [_, _, _] H rfl rfl rfl (by repeat first | exact .head | apply Upd.tail) Tryz.sizeOf156 rfl (by rfl) (by rfl) (Wn.none rfl) ?_
  intro w H
  refine AS rfl rfl (NL (TN (SQ (SQ (RG (MV rfl rfl (ST (Ex.notT rfl) rfl (NL (TN (CF rfl (SK (TN (SQ (SQ (RG (MV rfl rfl (WR.call H (Ct.mono (validString_spec l (by omega)) (R' := fun r _ => r = .bool true) (fun _ _ h => by rw [hv] at h; exact h)) rfl (by assumption) (Wn.none rfl) rfl ?_)))))))))))))))))
  intro v26 M w H hle hr26
  replace hp := hp.mono hle
  replace hc0 := hc0.mono hle
  replace hc1 := hc1.mono hle
  obtain rfl := hr26
  refine ST (Ex.notT rfl) rfl (NL (TN (CF rfl (SK (TN (SQ (RG ?_)))))))
  replace H := H.newRow 5 encB
  refine AS rfl rfl (NL (TN (SQ (SQ (RG (MV rfl rfl (WR.rangeStr H Tryz.underlying9 rfl (Wn.none rfl) rfl ?_)))))))
  intro b30 w H
  refine NL (TN (BL (WC.loop3 (fun (q : Nat) (ov : Value) (o : List UInt8) => [(5, ptr b5 0), (6, ptr b6 0), (8, ov), (30, ptr b30 0)]) (fun (q : Nat) (ov : Value) (o : List UInt8) w => (q ≤ l.length ∧ o.length ≤ 4 * q) ∧ vld (l.drop q) = true ∧ encGo (encK 0) (chars l) 0 = pre o (encGo (encK 0) (chars (l.drop q)) q) ∧ ∃ M, St w0 M0 M [.blk b30 (.stringIter ⟨l.toArray⟩ q), RowI 5 encB ov o, .blk b6 (.cells #[S [97, 115, 99, 105, 105], .func (.func 186) #[] #[ptr b0 0], .func (.func 187) #[] #[ptr b0 0]] 156), .blk b5 (.cells #[I 0, I 0] 24)] w ∧ CellM M ⟨b0, 0, none⟩ (encR 128)) (fun (q : Nat) (ov : Value) (o : List UInt8) => l.length - q) (0) (_) (_) ⟨rfl, rfl, rfl, rfl, trivial⟩ (⟨by simp, hv, (pre_nil _).symm, M, H, hc0⟩) ?_)))
  intro q ov o w
  rintro ⟨hq, hvq, hgo, M, H, hc0⟩
  refine SQ (RG ?_)
  by_cases h10_0 : q < l.length
  · have hne := drop_ne (t := l) (n := q) h10_0
    have hrs := rune_size (l.drop q)
    have hrs3 := hrs.2.2 hne
    rw [List.length_drop] at hrs3
    rw [vld_cons hne, Bool.and_eq_true] at hvq
    have hr0 := of_decide_eq_true hvq.1
    have hvn := hvq.2
    have hrl := rune_lt (l.drop q)
    have hdr : ((dr (l.drop q)).1 : Int) = (rune (l.drop q)).1 := by rw [dr_fix0, fix0_id hr0]
    have hch : chars (l.drop q) = ((rune (l.drop q)).1, (l.drop q).take (rune (l.drop q)).2) :: chars (l.drop (q + (rune (l.drop q)).2)) := by rw [chars_cons hne, List.drop_drop]
    refine WR.nextT H h10_0 rfl (by repeat first | exact .head | apply Upd.tail) (Wn.none rfl) rfl ?_
    intro w H
    refine ST (Ex.extract rfl rfl) rfl (NL (TN (SQ (CT rfl (SK (TN (BL (SQ (RG (ST (Ex.extract rfl rfl) rfl (WR.stepE (v' := encR (rune (l.drop q)).1) (Ex.extract rfl rfl) (congrArg encR hdr) (Wn.none rfl) rfl rfl (AS rfl rfl (AS rfl rfl (NL (TN (SQ (RG (ST (Ex.fieldAddr Tryz.underlying156 rfl Tryz.sizeOf154 (by decide) rfl) rfl ?_))))))))))))))))))
    first | refine WR.step (Ex.loadM H rfl (by assumption) Tryz.isAgg154) (Wn.none rfl) rfl rfl ?_ | refine WR.step (Ex.load1 H rfl (by repeat (first | exact List.Mem.head _ | apply List.Mem.tail)) Tryz.isAgg154 (by rfl)) (Wn.none rfl) rfl rfl ?_
    refine MV rfl rfl ?_
    by_cases hok : (rune (l.drop q)).1 < 128
    · have hstep : encK 0 (rune (l.drop q)).1 = some ([ub (rune (l.drop q)).1]) := by rw [encK0, Chs.encS, if_pos hok]
      have hbl := encK_len hstep
      refine WR.callV (cap := [ptr b0 0]) H (Ct.mono (enc1_spec (rune (l.drop q)).1 b0 128) (R' := fun r M => ∃ v, r = .tuple #[v, .bool true] ∧ Bs M v ([ub (rune (l.drop q)).1])) (fun _ _ ⟨v, h1, h2⟩ => ⟨v, by rw [decide_eq_true hok] at h1; exact h1, h2⟩)) rfl rfl (by assumption) (Wn.none rfl) rfl ?_
      intro v39 M w H hle hr39
      replace hc0 := hc0.mono hle
      obtain ⟨v39, rfl, hf39⟩ := hr39
      refine MV rfl rfl (ST (Ex.extract rfl rfl) rfl (ST (Ex.extract rfl rfl) rfl (AS rfl rfl (AS rfl rfl (NL (TN (SQ (SQ (RG (MV rfl rfl (ST (Ex.notT rfl) rfl (NL (TN (CF rfl (SK (TN (RG (MV rfl rfl (MV rfl rfl (WR.appendSl ty30 (fun _ => rfl) H rfl (fun _ => by repeat first | exact .head | apply Upd.tail) rfl (by assumption) (by first | omega | (simp only [List.length_append, List.length_cons, List.length_nil, List.length_take, List.length_drop]; omega)) (by first | (simp only [maxLen]; omega) | (simp only [maxLen, List.length_append, List.length_cons, List.length_nil, List.length_take, List.length_drop]; omega)) (Wn.none rfl) rfl ?_))))))))))))))))))))
      intro v48 w H
      refine AS rfl rfl (NL (IB ?_))
      refine WQ.again3 (q + (dr (l.drop q)).2) (v48) (o ++ ([ub (rune (l.drop q)).1])) ⟨rfl, rfl, rfl, rfl, trivial⟩ ?_ ?_
      · refine ⟨by rw [dr_size, List.length_append]; omega, ?_, ?_, M, H, hc0⟩
        · rw [dr_size, ← List.drop_drop]; exact hvn
        · rw [hgo, hch, encGo_step o hstep, dr_size]
          simp only [List.length_take, List.length_drop]
          rw [Nat.min_eq_left (by omega)]
      · rw [dr_size]; omega
    · have hres : encGo (encK 0) (chars l) 0 = .error q := by rw [hgo, hch]; exact encGo_stop o (by rw [encK0, Chs.encS, if_neg hok])
      refine WR.callV (cap := [ptr b0 0]) H (Ct.mono (enc1_spec (rune (l.drop q)).1 b0 128) (R' := fun r M => ∃ v, r = .tuple #[v, .bool false] ∧ Bs M v ([ub (rune (l.drop q)).1])) (fun _ _ ⟨v, h1, h2⟩ => ⟨v, by rw [decide_eq_false hok] at h1; exact h1, h2⟩)) rfl rfl (by assumption) (Wn.none rfl) rfl ?_
      intro v39 M w H hle hr39
      replace hc0 := hc0.mono hle
      obtain ⟨v39, rfl, hf39⟩ := hr39
      refine MV rfl rfl (ST (Ex.extract rfl rfl) rfl (ST (Ex.extract rfl rfl) rfl (AS rfl rfl (AS rfl rfl (NL (TN (SQ (SQ (RG (MV rfl rfl (ST (Ex.notF rfl) rfl (NL (TN (CT rfl (SQ (RG (MV rfl rfl (WR.call H (fault_spec _ _) rfl (trivial) (Wn.none rfl) rfl ?_))))))))))))))))))
      intro v45 M w H hle hr45
      replace hc0 := hc0.mono hle
      replace hf39 := hf39.mono hle
      obtain rfl := hr45
      refine AS rfl rfl (WR.store [_, _] H rfl rfl rfl (by repeat first | exact .head | apply Upd.tail) Tryz.sizeOf24 rfl (by rfl) (by rfl) (Wn.none rfl) ?_)
      intro w H
      refine NL (TN (RT ?_))
      refine WQ.ret2 rfl rfl ⟨_, rfl, H.loadAgg (by repeat (first | exact List.Mem.head _ | apply List.Mem.tail)) Tryz.isAgg24 Tryz.sizeOf24 (by rfl)⟩ H.ext ?_
      refine  ?_
      rw [hres]
  · have hres : encGo (encK 0) (chars l) 0 = .ok o := by rw [hgo, List.drop_eq_nil_of_le (by omega), chars_nil]; simp [encGo, pre]
    refine WR.nextF H (Nat.le_of_not_lt h10_0) rfl (by repeat (first | exact List.Mem.head _ | apply List.Mem.tail)) (Wn.none rfl) rfl ?_
    refine ST (Ex.extract rfl rfl) rfl (NL (TN (SQ (CF rfl (WC.exit (WQ.thenExit (WQ.thenExit (WQ.exitHere (TN (SQ (RG (MV rfl rfl (WR.call H (none_spec) rfl (trivial) (Wn.none rfl) rfl ?_)))))))))))))
    intro v50 M w H hle hr50
    replace hc0 := hc0.mono hle
    obtain rfl := hr50
    refine AS rfl rfl (WR.store [_, _] H rfl rfl rfl (by repeat first | exact .head | apply Upd.tail) Tryz.sizeOf24 rfl (by rfl) (by rfl) (Wn.none rfl) ?_)
    intro w H
    refine NL (TN (RT ?_))
    obtain ⟨M, hle, hf, H⟩ := H.freezeRow (v := ov) (enc := encB) (t := 5) (by repeat first | exact .head | apply Rem.tail)
    refine WQ.ret2 rfl rfl ⟨_, rfl, H.loadAgg (by repeat (first | exact List.Mem.head _ | apply List.Mem.tail)) Tryz.isAgg24 Tryz.sizeOf24 (by rfl)⟩ H.ext ?_
    refine  ?_
    rw [hres]
    exact ⟨_, rfl, hf⟩
theorem encode_1 (name l : List UInt8) (hn : name.length ≤ maxLen) (hs : l.length ≤ 12000) (hk : setOf name = some 1) (hv : vld l = true) : Ct Tryz.prog 84 [S name, S l] (fun M => Tabs M) (fun r M => match encGo (encK 1) (chars l) 0 with | .ok b => ∃ v, r = .tuple #[v, fault 0 0] ∧ Bs M v b | .error e => r = .tuple #[.slice none 0 0, fault 17 (e : Int)]) := by
  refine Ct.of Tryz.func84 (enters Tryz.func84 (by kernel_rfl) rfl) rfl rfl rfl ?_
  intro w0 M0 H hp
  refine SQ (RG (AS rfl rfl (WR.alloc [_, _] H Tryz.zeroValue24 rfl (Wn.none rfl) rfl ?_)))
  intro b5 w H
  refine NL (TN (SQ (SQ (RG (MV rfl rfl (ST (Ex.lenStr Tryz.underlying9 rfl) rfl (WR.stepF (Ex.gtr rfl rfl) (by omega) (Wn.none rfl) rfl rfl ?_)))))))
  refine NL (TN (CF rfl (SK (TN (SQ (RG (MV rfl rfl (WR.call H (Ct.mono (find_spec name hn) (R' := fun r M => ∃ b0 b1, CellM M ⟨b0, 0, none⟩ (encR 128) ∧ CellM M ⟨b1, 0, none⟩ (encR 256) ∧ r = .tuple #[.agg #[S [108, 97, 116, 105, 110, 49], .func (.func 186) #[] #[ptr b1 0], .func (.func 187) #[] #[ptr b1 0]], .bool true]) (fun _ _ ⟨b0, b1, h0, h1, h⟩ => ⟨b0, b1, h0, h1, by rw [hk] at h; exact h⟩)) rfl (trivial) (Wn.none rfl) rfl ?_))))))))
  intro v19 M w H hle hr19
  replace hp := hp.mono hle
  obtain ⟨b0, b1, hc0, hc1, rfl⟩ := hr19
  refine MV rfl rfl (ST (Ex.extract rfl rfl) rfl (ST (Ex.extract rfl rfl) rfl (WR.alloc [_, _, _] H Tryz.zeroValue156 rfl (Wn.none rfl) rfl ?_)))
  intro b6 w H
  refine WR.store [_, _, _] H rfl rfl rfl (by repeat first | exact .head | apply Upd.tail) Tryz.sizeOf156 rfl (by rfl) (by rfl) (Wn.none rfl) ?_
  intro w H
  refine AS rfl rfl (NL (TN (SQ (SQ (RG (MV rfl rfl (ST (Ex.notT rfl) rfl (NL (TN (CF rfl (SK (TN (SQ (SQ (RG (MV rfl rfl (WR.call H (Ct.mono (validString_spec l (by omega)) (R' := fun r _ => r = .bool true) (fun _ _ h => by rw [hv] at h; exact h)) rfl (by assumption) (Wn.none rfl) rfl ?_)))))))))))))))))
  intro v26 M w H hle hr26
  replace hp := hp.mono hle
  replace hc0 := hc0.mono hle
  replace hc1 := hc1.mono hle
  obtain rfl := hr26
  refine ST (Ex.notT rfl) rfl (NL (TN (CF rfl (SK (TN (SQ (RG ?_)))))))
  replace H := H.newRow 5 encB
  refine AS rfl rfl (NL (TN (SQ (SQ (RG (MV rfl rfl (WR.rangeStr H Tryz.underlying9 rfl (Wn.none rfl) rfl ?_)))))))
  intro b30 w H
  refine NL (TN (BL (WC.loop3 (fun (q : Nat) (ov : Value) (o : List UInt8) => [(5, ptr b5 0), (6, ptr b6 0), (8, ov), (30, ptr b30 0)]) (fun (q : Nat) (ov : Value) (o : List UInt8) w => (q ≤ l.length ∧ o.length ≤ 4 * q) ∧ vld (l.drop q) = true ∧ encGo (encK 1) (chars l) 0 = pre o (encGo (encK 1) (chars (l.drop q)) q) ∧ ∃ M, St w0 M0 M [.blk b30 (.stringIter ⟨l.toArray⟩ q), RowI 5 encB ov o, .blk b6 (.cells #[S [108, 97, 116, 105, 110, 49], .func (.func 186) #[] #[ptr b1 0], .func (.func 187) #[] #[ptr b1 0]] 156), .blk b5 (.cells #[I 0, I 0] 24)] w ∧ CellM M ⟨b1, 0, none⟩ (encR 256)) (fun (q : Nat) (ov : Value) (o : List UInt8) => l.length - q) (0) (_) (_) ⟨rfl, rfl, rfl, rfl, trivial⟩ (⟨by simp, hv, (pre_nil _).symm, M, H, hc1⟩) ?_)))
  intro q ov o w
  rintro ⟨hq, hvq, hgo, M, H, hc1⟩
  refine SQ (RG ?_)
  by_cases h10_0 : q < l.length
  · have hne := drop_ne (t := l) (n := q) h10_0
    have hrs := rune_size (l.drop q)
    have hrs3 := hrs.2.2 hne
    rw [List.length_drop] at hrs3
    rw [vld_cons hne, Bool.and_eq_true] at hvq
    have hr0 := of_decide_eq_true hvq.1
    have hvn := hvq.2
    have hrl := rune_lt (l.drop q)
    have hdr : ((dr (l.drop q)).1 : Int) = (rune (l.drop q)).1 := by rw [dr_fix0, fix0_id hr0]
    have hch : chars (l.drop q) = ((rune (l.drop q)).1, (l.drop q).take (rune (l.drop q)).2) :: chars (l.drop (q + (rune (l.drop q)).2)) := by rw [chars_cons hne, List.drop_drop]
    refine WR.nextT H h10_0 rfl (by repeat first | exact .head | apply Upd.tail) (Wn.none rfl) rfl ?_
    intro w H
    refine ST (Ex.extract rfl rfl) rfl (NL (TN (SQ (CT rfl (SK (TN (BL (SQ (RG (ST (Ex.extract rfl rfl) rfl (WR.stepE (v' := encR (rune (l.drop q)).1) (Ex.extract rfl rfl) (congrArg encR hdr) (Wn.none rfl) rfl rfl (AS rfl rfl (AS rfl rfl (NL (TN (SQ (RG (ST (Ex.fieldAddr Tryz.underlying156 rfl Tryz.sizeOf154 (by decide) rfl) rfl ?_))))))))))))))))))
    first | refine WR.step (Ex.loadM H rfl (by assumption) Tryz.isAgg154) (Wn.none rfl) rfl rfl ?_ | refine WR.step (Ex.load1 H rfl (by repeat (first | exact List.Mem.head _ | apply List.Mem.tail)) Tryz.isAgg154 (by rfl)) (Wn.none rfl) rfl rfl ?_
    refine MV rfl rfl ?_
    by_cases hok : (rune (l.drop q)).1 < 256
    · have hstep : encK 1 (rune (l.drop q)).1 = some ([ub (rune (l.drop q)).1]) := by rw [encK1, Chs.encS, if_pos hok]
      have hbl := encK_len hstep
      refine WR.callV (cap := [ptr b1 0]) H (Ct.mono (enc1_spec (rune (l.drop q)).1 b1 256) (R' := fun r M => ∃ v, r = .tuple #[v, .bool true] ∧ Bs M v ([ub (rune (l.drop q)).1])) (fun _ _ ⟨v, h1, h2⟩ => ⟨v, by rw [decide_eq_true hok] at h1; exact h1, h2⟩)) rfl rfl (by assumption) (Wn.none rfl) rfl ?_
      intro v39 M w H hle hr39
      replace hc1 := hc1.mono hle
      obtain ⟨v39, rfl, hf39⟩ := hr39
      refine MV rfl rfl (ST (Ex.extract rfl rfl) rfl (ST (Ex.extract rfl rfl) rfl (AS rfl rfl (AS rfl rfl (NL (TN (SQ (SQ (RG (MV rfl rfl (ST (Ex.notT rfl) rfl (NL (TN (CF rfl (SK (TN (RG (MV rfl rfl (MV rfl rfl (WR.appendSl ty30 (fun _ => rfl) H rfl (fun _ => by repeat first | exact .head | apply Upd.tail) rfl (by assumption) (by first | omega | (simp only [List.length_append, List.length_cons, List.length_nil, List.length_take, List.length_drop]; omega)) (by first | (simp only [maxLen]; omega) | (simp only [maxLen, List.length_append, List.length_cons, List.length_nil, List.length_take, List.length_drop]; omega)) (Wn.none rfl) rfl ?_))))))))))))))))))))
      intro v48 w H
      refine AS rfl rfl (NL (IB ?_))
      refine WQ.again3 (q + (dr (l.drop q)).2) (v48) (o ++ ([ub (rune (l.drop q)).1])) ⟨rfl, rfl, rfl, rfl, trivial⟩ ?_ ?_
      · refine ⟨by rw [dr_size, List.length_append]; omega, ?_, ?_, M, H, hc1⟩
        · rw [dr_size, ← List.drop_drop]; exact hvn
        · rw [hgo, hch, encGo_step o hstep, dr_size]
          simp only [List.length_take, List.length_drop]
          rw [Nat.min_eq_left (by omega)]
      · rw [dr_size]; omega
    · have hres : encGo (encK 1) (chars l) 0 = .error q := by rw [hgo, hch]; exact encGo_stop o (by rw [encK1, Chs.encS, if_neg hok])
      refine WR.callV (cap := [ptr b1 0]) H (Ct.mono (enc1_spec (rune (l.drop q)).1 b1 256) (R' := fun r M => ∃ v, r = .tuple #[v, .bool false] ∧ Bs M v ([ub (rune (l.drop q)).1])) (fun _ _ ⟨v, h1, h2⟩ => ⟨v, by rw [decide_eq_false hok] at h1; exact h1, h2⟩)) rfl rfl (by assumption) (Wn.none rfl) rfl ?_
      intro v39 M w H hle hr39
      replace hc1 := hc1.mono hle
      obtain ⟨v39, rfl, hf39⟩ := hr39
      refine MV rfl rfl (ST (Ex.extract rfl rfl) rfl (ST (Ex.extract rfl rfl) rfl (AS rfl rfl (AS rfl rfl (NL (TN (SQ (SQ (RG (MV rfl rfl (ST (Ex.notF rfl) rfl (NL (TN (CT rfl (SQ (RG (MV rfl rfl (WR.call H (fault_spec _ _) rfl (trivial) (Wn.none rfl) rfl ?_))))))))))))))))))
      intro v45 M w H hle hr45
      replace hc1 := hc1.mono hle
      replace hf39 := hf39.mono hle
      obtain rfl := hr45
      refine AS rfl rfl (WR.store [_, _] H rfl rfl rfl (by repeat first | exact .head | apply Upd.tail) Tryz.sizeOf24 rfl (by rfl) (by rfl) (Wn.none rfl) ?_)
      intro w H
      refine NL (TN (RT ?_))
      refine WQ.ret2 rfl rfl ⟨_, rfl, H.loadAgg (by repeat (first | exact List.Mem.head _ | apply List.Mem.tail)) Tryz.isAgg24 Tryz.sizeOf24 (by rfl)⟩ H.ext ?_
      refine  ?_
      rw [hres]
  · have hres : encGo (encK 1) (chars l) 0 = .ok o := by rw [hgo, List.drop_eq_nil_of_le (by omega), chars_nil]; simp [encGo, pre]
    refine WR.nextF H (Nat.le_of_not_lt h10_0) rfl (by repeat (first | exact List.Mem.head _ | apply List.Mem.tail)) (Wn.none rfl) rfl ?_
    refine ST (Ex.extract rfl rfl) rfl (NL (TN (SQ (CF rfl (WC.exit (WQ.thenExit (WQ.thenExit (WQ.exitHere (TN (SQ (RG (MV rfl rfl (WR.call H (none_spec) rfl (trivial) (Wn.none rfl) rfl ?_)))))))))))))
    intro v50 M w H hle hr50
    replace hc1 := hc1.mono hle
    obtain rfl := hr50
    refine AS rfl rfl (WR.store [_, _] H rfl rfl rfl (by repeat first | exact .head | apply Upd.tail) Tryz.sizeOf24 rfl (by rfl) (by rfl) (Wn.none rfl) ?_)
    intro w H
    refine NL (TN (RT ?_))
    obtain ⟨M, hle, hf, H⟩ := H.freezeRow (v := ov) (enc := encB) (t := 5) (by repeat first | exact .head | apply Rem.tail)
    refine WQ.ret2 rfl rfl ⟨_, rfl, H.loadAgg (by repeat (first | exact List.Mem.head _ | apply List.Mem.tail)) Tryz.isAgg24 Tryz.sizeOf24 (by rfl)⟩ H.ext ?_
    refine  ?_
    rw [hres]
    exact ⟨_, rfl, hf⟩
theorem encode_2 (name l : List UInt8) (hn : name.length ≤ maxLen) (hs : l.length ≤ 12000) (hk : setOf name = some 2) (hv : vld l = true) : Ct Tryz.prog 84 [S name, S l] (fun M => Tabs M) (fun r M => match encGo (encK 2) (chars l) 0 with | .ok b => ∃ v, r = .tuple #[v, fault 0 0] ∧ Bs M v b | .error e => r = .tuple #[.slice none 0 0, fault 17 (e : Int)]) := by
  refine Ct.of Tryz.func84 (enters Tryz.func84 (by kernel_rfl) rfl) rfl rfl rfl ?_
  intro w0 M0 H hp
  refine SQ (RG (AS rfl rfl (WR.alloc [_, _] H Tryz.zeroValue24 rfl (Wn.none rfl) rfl ?_)))
  intro b5 w H
  refine NL (TN (SQ (SQ (RG (MV rfl rfl (ST (Ex.lenStr Tryz.underlying9 rfl) rfl (WR.stepF (Ex.gtr rfl rfl) (by omega) (Wn.none rfl) rfl rfl ?_)))))))
  refine NL (TN (CF rfl (SK (TN (SQ (RG (MV rfl rfl (WR.call H (Ct.mono (find_spec name hn) (R' := fun r M => ∃ b0 b1, CellM M ⟨b0, 0, none⟩ (encR 128) ∧ CellM M ⟨b1, 0, none⟩ (encR 256) ∧ r = .tuple #[.agg #[S [117, 116, 102, 56], .func (.func 158) #[] #[], .func (.func 159) #[] #[]], .bool true]) (fun _ _ ⟨b0, b1, h0, h1, h⟩ => ⟨b0, b1, h0, h1, by rw [hk] at h; exact h⟩)) rfl (trivial) (Wn.none rfl) rfl ?_))))))))
  intro v19 M w H hle hr19
  replace hp := hp.mono hle
  obtain ⟨b0, b1, hc0, hc1, rfl⟩ := hr19
  refine MV rfl rfl (ST (Ex.extract rfl rfl) rfl (ST (Ex.extract rfl rfl) rfl (WR.alloc [_, _, _] H Tryz.zeroValue156 rfl (Wn.none rfl) rfl ?_)))
  intro b6 w H
  refine WR.store [_, _, _] H rfl rfl rfl (by repeat first | exact .head | apply Upd.tail) Tryz.sizeOf156 rfl (by rfl) (by rfl) (Wn.none rfl) ?_
  intro w H
  refine AS rfl rfl (NL (TN (SQ (SQ (RG (MV rfl rfl (ST (Ex.notT rfl) rfl (NL (TN (CF rfl (SK (TN (SQ (SQ (RG (MV rfl rfl (WR.call H (Ct.mono (validString_spec l (by omega)) (R' := fun r _ => r = .bool true) (fun _ _ h => by rw [hv] at h; exact h)) rfl (by assumption) (Wn.none rfl) rfl ?_)))))))))))))))))
  intro v26 M w H hle hr26
  replace hp := hp.mono hle
  replace hc0 := hc0.mono hle
  replace hc1 := hc1.mono hle
  obtain rfl := hr26
  refine ST (Ex.notT rfl) rfl (NL (TN (CF rfl (SK (TN (SQ (RG ?_)))))))
  replace H := H.newRow 5 encB
  refine AS rfl rfl (NL (TN (SQ (SQ (RG (MV rfl rfl (WR.rangeStr H Tryz.underlying9 rfl (Wn.none rfl) rfl ?_)))))))
  intro b30 w H
  refine NL (TN (BL (WC.loop3 (fun (q : Nat) (ov : Value) (o : List UInt8) => [(5, ptr b5 0), (6, ptr b6 0), (8, ov), (30, ptr b30 0)]) (fun (q : Nat) (ov : Value) (o : List UInt8) w => (q ≤ l.length ∧ o.length ≤ 4 * q) ∧ vld (l.drop q) = true ∧ encGo (encK 2) (chars l) 0 = pre o (encGo (encK 2) (chars (l.drop q)) q) ∧ ∃ M, St w0 M0 M [.blk b30 (.stringIter ⟨l.toArray⟩ q), RowI 5 encB ov o, .blk b6 (.cells #[S [117, 116, 102, 56], .func (.func 158) #[] #[], .func (.func 159) #[] #[]] 156), .blk b5 (.cells #[I 0, I 0] 24)] w) (fun (q : Nat) (ov : Value) (o : List UInt8) => l.length - q) (0) (_) (_) ⟨rfl, rfl, rfl, rfl, trivial⟩ (⟨by simp, hv, (pre_nil _).symm, M, H⟩) ?_)))
  intro q ov o w
  rintro ⟨hq, hvq, hgo, M, H⟩
  refine SQ (RG ?_)
  by_cases h10_0 : q < l.length
  · have hne := drop_ne (t := l) (n := q) h10_0
    have hrs := rune_size (l.drop q)
    have hrs3 := hrs.2.2 hne
    rw [List.length_drop] at hrs3
    rw [vld_cons hne, Bool.and_eq_true] at hvq
    have hr0 := of_decide_eq_true hvq.1
    have hvn := hvq.2
    have hrl := rune_lt (l.drop q)
    have hdr : ((dr (l.drop q)).1 : Int) = (rune (l.drop q)).1 := by rw [dr_fix0, fix0_id hr0]
    have hch : chars (l.drop q) = ((rune (l.drop q)).1, (l.drop q).take (rune (l.drop q)).2) :: chars (l.drop (q + (rune (l.drop q)).2)) := by rw [chars_cons hne, List.drop_drop]
    have hstep : encK 2 (rune (l.drop q)).1 = some (utf8 (rune (l.drop q)).1) := by rw [encK2]; rfl
    have hbl := encK_len hstep
    refine WR.nextT H h10_0 rfl (by repeat first | exact .head | apply Upd.tail) (Wn.none rfl) rfl ?_
    intro w H
    refine ST (Ex.extract rfl rfl) rfl (NL (TN (SQ (CT rfl (SK (TN (BL (SQ (RG (ST (Ex.extract rfl rfl) rfl (WR.stepE (v' := encR (rune (l.drop q)).1) (Ex.extract rfl rfl) (congrArg encR hdr) (Wn.none rfl) rfl rfl (AS rfl rfl (AS rfl rfl (NL (TN (SQ (RG (ST (Ex.fieldAddr Tryz.underlying156 rfl Tryz.sizeOf154 (by decide) rfl) rfl ?_))))))))))))))))))
    first | refine WR.step (Ex.loadM H rfl (by assumption) Tryz.isAgg154) (Wn.none rfl) rfl rfl ?_ | refine WR.step (Ex.load1 H rfl (by repeat (first | exact List.Mem.head _ | apply List.Mem.tail)) Tryz.isAgg154 (by rfl)) (Wn.none rfl) rfl rfl ?_
    refine MV rfl rfl (WR.callV (cap := []) H (encU_spec (rune (l.drop q)).1 (by omega) (by omega)) rfl rfl (trivial) (Wn.none rfl) rfl ?_)
    intro v39 M w H hle hr39
    obtain ⟨v39, rfl, hf39⟩ := hr39
    refine MV rfl rfl (ST (Ex.extract rfl rfl) rfl (ST (Ex.extract rfl rfl) rfl (AS rfl rfl (AS rfl rfl (NL (TN (SQ (SQ (RG (MV rfl rfl (ST (Ex.notT rfl) rfl (NL (TN (CF rfl (SK (TN (RG (MV rfl rfl (MV rfl rfl (WR.appendSl ty30 (fun _ => rfl) H rfl (fun _ => by repeat first | exact .head | apply Upd.tail) rfl (by assumption) (by first | omega | (simp only [List.length_append, List.length_cons, List.length_nil, List.length_take, List.length_drop]; omega)) (by first | (simp only [maxLen]; omega) | (simp only [maxLen, List.length_append, List.length_cons, List.length_nil, List.length_take, List.length_drop]; omega)) (Wn.none rfl) rfl ?_))))))))))))))))))))
    intro v48 w H
    refine AS rfl rfl (NL (IB ?_))
    refine WQ.again3 (q + (dr (l.drop q)).2) (v48) (o ++ (utf8 (rune (l.drop q)).1)) ⟨rfl, rfl, rfl, rfl, trivial⟩ ?_ ?_
    · refine ⟨by rw [dr_size, List.length_append]; omega, ?_, ?_, M, H⟩
      · rw [dr_size, ← List.drop_drop]; exact hvn
      · rw [hgo, hch, encGo_step o hstep, dr_size]
        simp only [List.length_take, List.length_drop]
        rw [Nat.min_eq_left (by omega)]
    · rw [dr_size]; omega
  · have hres : encGo (encK 2) (chars l) 0 = .ok o := by rw [hgo, List.drop_eq_nil_of_le (by omega), chars_nil]; simp [encGo, pre]
    refine WR.nextF H (Nat.le_of_not_lt h10_0) rfl (by repeat (first | exact List.Mem.head _ | apply List.Mem.tail)) (Wn.none rfl) rfl ?_
    refine ST (Ex.extract rfl rfl) rfl (NL (TN (SQ (CF rfl (WC.exit (WQ.thenExit (WQ.thenExit (WQ.exitHere (TN (SQ (RG (MV rfl rfl (WR.call H (none_spec) rfl (trivial) (Wn.none rfl) rfl ?_)))))))))))))
    intro v50 M w H hle hr50
    obtain rfl := hr50
    refine AS rfl rfl (WR.store [_, _] H rfl rfl rfl (by repeat first | exact .head | apply Upd.tail) Tryz.sizeOf24 rfl (by rfl) (by rfl) (Wn.none rfl) ?_)
    intro w H
    refine NL (TN (RT ?_))
    obtain ⟨M, hle, hf, H⟩ := H.freezeRow (v := ov) (enc := encB) (t := 5) (by repeat first | exact .head | apply Rem.tail)
    refine WQ.ret2 rfl rfl ⟨_, rfl, H.loadAgg (by repeat (first | exact List.Mem.head _ | apply List.Mem.tail)) Tryz.isAgg24 Tryz.sizeOf24 (by rfl)⟩ H.ext ?_
    refine  ?_
    rw [hres]
    exact ⟨_, rfl, hf⟩
theorem encode_3 (name l : List UInt8) (hn : name.length ≤ maxLen) (hs : l.length ≤ 12000) (hk : setOf name = some 3) (hv : vld l = true) : Ct Tryz.prog 84 [S name, S l] (fun M => Tabs M) (fun r M => match encGo (encK 3) (chars l) 0 with | .ok b => ∃ v, r = .tuple #[v, fault 0 0] ∧ Bs M v b | .error e => r = .tuple #[.slice none 0 0, fault 17 (e : Int)]) := by
  refine Ct.of Tryz.func84 (enters Tryz.func84 (by kernel_rfl) rfl) rfl rfl rfl ?_
  intro w0 M0 H hp
  refine SQ (RG (AS rfl rfl (WR.alloc [_, _] H Tryz.zeroValue24 rfl (Wn.none rfl) rfl ?_)))
  intro b5 w H
  refine NL (TN (SQ (SQ (RG (MV rfl rfl (ST (Ex.lenStr Tryz.underlying9 rfl) rfl (WR.stepF (Ex.gtr rfl rfl) (by omega) (Wn.none rfl) rfl rfl ?_)))))))
  refine NL (TN (CF rfl (SK (TN (SQ (RG (MV rfl rfl (WR.call H (Ct.mono (find_spec name hn) (R' := fun r M => ∃ b0 b1, CellM M ⟨b0, 0, none⟩ (encR 128) ∧ CellM M ⟨b1, 0, none⟩ (encR 256) ∧ r = .tuple #[.agg #[S [117, 116, 102, 49, 54, 98, 101], .func (.func 161) #[] #[], .func (.func 162) #[] #[]], .bool true]) (fun _ _ ⟨b0, b1, h0, h1, h⟩ => ⟨b0, b1, h0, h1, by rw [hk] at h; exact h⟩)) rfl (trivial) (Wn.none rfl) rfl ?_))))))))
  intro v19 M w H hle hr19
  replace hp := hp.mono hle
  obtain ⟨b0, b1, hc0, hc1, rfl⟩ := hr19
  refine MV rfl rfl (ST (Ex.extract rfl rfl) rfl (ST (Ex.extract rfl rfl) rfl (WR.alloc [_, _, _] H Tryz.zeroValue156 rfl (Wn.none rfl) rfl ?_)))
  intro b6 w H
  refine WR.store [_, _, _] H rfl rfl rfl (by repeat first | exact .head | apply Upd.tail) Tryz.sizeOf156 rfl (by rfl) (by rfl) (Wn.none rfl) ?_
  intro w H
  refine AS rfl rfl (NL (TN (SQ (SQ (RG (MV rfl rfl (ST (Ex.notT rfl) rfl (NL (TN (CF rfl (SK (TN (SQ (SQ (RG (MV rfl rfl (WR.call H (Ct.mono (validString_spec l (by omega)) (R' := fun r _ => r = .bool true) (fun _ _ h => by rw [hv] at h; exact h)) rfl (by assumption) (Wn.none rfl) rfl ?_)))))))))))))))))
  intro v26 M w H hle hr26
  replace hp := hp.mono hle
  replace hc0 := hc0.mono hle
  replace hc1 := hc1.mono hle
  obtain rfl := hr26
  refine ST (Ex.notT rfl) rfl (NL (TN (CF rfl (SK (TN (SQ (RG ?_)))))))
  replace H := H.newRow 5 encB
  refine AS rfl rfl (NL (TN (SQ (SQ (RG (MV rfl rfl (WR.rangeStr H Tryz.underlying9 rfl (Wn.none rfl) rfl ?_)))))))
  intro b30 w H
  refine NL (TN (BL (WC.loop3 (fun (q : Nat) (ov : Value) (o : List UInt8) => [(5, ptr b5 0), (6, ptr b6 0), (8, ov), (30, ptr b30 0)]) (fun (q : Nat) (ov : Value) (o : List UInt8) w => (q ≤ l.length ∧ o.length ≤ 4 * q) ∧ vld (l.drop q) = true ∧ encGo (encK 3) (chars l) 0 = pre o (encGo (encK 3) (chars (l.drop q)) q) ∧ ∃ M, St w0 M0 M [.blk b30 (.stringIter ⟨l.toArray⟩ q), RowI 5 encB ov o, .blk b6 (.cells #[S [117, 116, 102, 49, 54, 98, 101], .func (.func 161) #[] #[], .func (.func 162) #[] #[]] 156), .blk b5 (.cells #[I 0, I 0] 24)] w) (fun (q : Nat) (ov : Value) (o : List UInt8) => l.length - q) (0) (_) (_) ⟨rfl, rfl, rfl, rfl, trivial⟩ (⟨by simp, hv, (pre_nil _).symm, M, H⟩) ?_)))
  intro q ov o w
  rintro ⟨hq, hvq, hgo, M, H⟩
  refine SQ (RG ?_)
  by_cases h10_0 : q < l.length
  · have hne := drop_ne (t := l) (n := q) h10_0
    have hrs := rune_size (l.drop q)
    have hrs3 := hrs.2.2 hne
    rw [List.length_drop] at hrs3
    rw [vld_cons hne, Bool.and_eq_true] at hvq
    have hr0 := of_decide_eq_true hvq.1
    have hvn := hvq.2
    have hrl := rune_lt (l.drop q)
    have hdr : ((dr (l.drop q)).1 : Int) = (rune (l.drop q)).1 := by rw [dr_fix0, fix0_id hr0]
    have hch : chars (l.drop q) = ((rune (l.drop q)).1, (l.drop q).take (rune (l.drop q)).2) :: chars (l.drop (q + (rune (l.drop q)).2)) := by rw [chars_cons hne, List.drop_drop]
    have hstep : encK 3 (rune (l.drop q)).1 = some (encWb (rune (l.drop q)).1) := by rw [encK3]; rfl
    have hbl := encK_len hstep
    refine WR.nextT H h10_0 rfl (by repeat first | exact .head | apply Upd.tail) (Wn.none rfl) rfl ?_
    intro w H
    refine ST (Ex.extract rfl rfl) rfl (NL (TN (SQ (CT rfl (SK (TN (BL (SQ (RG (ST (Ex.extract rfl rfl) rfl (WR.stepE (v' := encR (rune (l.drop q)).1) (Ex.extract rfl rfl) (congrArg encR hdr) (Wn.none rfl) rfl rfl (AS rfl rfl (AS rfl rfl (NL (TN (SQ (RG (ST (Ex.fieldAddr Tryz.underlying156 rfl Tryz.sizeOf154 (by decide) rfl) rfl ?_))))))))))))))))))
    first | refine WR.step (Ex.loadM H rfl (by assumption) Tryz.isAgg154) (Wn.none rfl) rfl rfl ?_ | refine WR.step (Ex.load1 H rfl (by repeat (first | exact List.Mem.head _ | apply List.Mem.tail)) Tryz.isAgg154 (by rfl)) (Wn.none rfl) rfl rfl ?_
    refine MV rfl rfl ?_
    refine WR.callV (cap := []) H ((show Ct Tryz.prog 162 [encR (rune (l.drop q)).1] (fun _ => True) (fun r M => ∃ v, r = .tuple #[v, .bool true] ∧ Bs M v (encWb (rune (l.drop q)).1)) by
      have h := double_spec (rune (l.drop q)).1.toNat (by omega)
      rw [Int.toNat_of_nonneg hr0] at h
      exact h)) rfl rfl (trivial) (Wn.none rfl) rfl ?_
    intro v39 M w H hle hr39
    obtain ⟨v39, rfl, hf39⟩ := hr39
    refine MV rfl rfl (ST (Ex.extract rfl rfl) rfl (ST (Ex.extract rfl rfl) rfl (AS rfl rfl (AS rfl rfl (NL (TN (SQ (SQ (RG (MV rfl rfl (ST (Ex.notT rfl) rfl (NL (TN (CF rfl (SK (TN (RG (MV rfl rfl (MV rfl rfl (WR.appendSl ty30 (fun _ => rfl) H rfl (fun _ => by repeat first | exact .head | apply Upd.tail) rfl (by assumption) (by first | omega | (simp only [List.length_append, List.length_cons, List.length_nil, List.length_take, List.length_drop]; omega)) (by first | (simp only [maxLen]; omega) | (simp only [maxLen, List.length_append, List.length_cons, List.length_nil, List.length_take, List.length_drop]; omega)) (Wn.none rfl) rfl ?_))))))))))))))))))))
    intro v48 w H
    refine AS rfl rfl (NL (IB ?_))
    refine WQ.again3 (q + (dr (l.drop q)).2) (v48) (o ++ (encWb (rune (l.drop q)).1)) ⟨rfl, rfl, rfl, rfl, trivial⟩ ?_ ?_
    · refine ⟨by rw [dr_size, List.length_append]; omega, ?_, ?_, M, H⟩
      · rw [dr_size, ← List.drop_drop]; exact hvn
      · rw [hgo, hch, encGo_step o hstep, dr_size]
        simp only [List.length_take, List.length_drop]
        rw [Nat.min_eq_left (by omega)]
    · rw [dr_size]; omega
  · have hres : encGo (encK 3) (chars l) 0 = .ok o := by rw [hgo, List.drop_eq_nil_of_le (by omega), chars_nil]; simp [encGo, pre]
    refine WR.nextF H (Nat.le_of_not_lt h10_0) rfl (by repeat (first | exact List.Mem.head _ | apply List.Mem.tail)) (Wn.none rfl) rfl ?_
    refine ST (Ex.extract rfl rfl) rfl (NL (TN (SQ (CF rfl (WC.exit (WQ.thenExit (WQ.thenExit (WQ.exitHere (TN (SQ (RG (MV rfl rfl (WR.call H (none_spec) rfl (trivial) (Wn.none rfl) rfl ?_)))))))))))))
    intro v50 M w H hle hr50
    obtain rfl := hr50
    refine AS rfl rfl (WR.store [_, _] H rfl rfl rfl (by repeat first | exact .head | apply Upd.tail) Tryz.sizeOf24 rfl (by rfl) (by rfl) (Wn.none rfl) ?_)
    intro w H
    refine NL (TN (RT ?_))
    obtain ⟨M, hle, hf, H⟩ := H.freezeRow (v := ov) (enc := encB) (t := 5) (by repeat first | exact .head | apply Rem.tail)
    refine WQ.ret2 rfl rfl ⟨_, rfl, H.loadAgg (by repeat (first | exact List.Mem.head _ | apply List.Mem.tail)) Tryz.isAgg24 Tryz.sizeOf24 (by rfl)⟩ H.ext ?_
    refine  ?_
    rw [hres]
    exact ⟨_, rfl, hf⟩
end Go.Proofs.YtogkmhjnojphiaaGreatDoor
end
section
set_option linter.unusedVariables false
set_option linter.unusedSimpArgs false
namespace Go.Proofs.YtogkmhjnojphiaaGreatDoor
open Go Go.RowKit Go.Ph
open Go.Ph.Gr Go.Ph.Utf Go.Ph.Chs
theorem utf8_fix0 (n : Int) : utf8 (fix0 n) = utf8 n := by
  unfold utf8 fix0
  split
  · rw [fixN_bad (n := n) (by omega)]; rfl
  · rfl
theorem utf8_unsur {u : Int} (h : 0 ≤ u) (h1 : u < 65536) : utf8 (unsur u) = utf8 u := by
  unfold utf8 unsur
  split
  · rw [fixN_bad (n := u) (by omega)]; rfl
  · rfl
theorem flat_len (ns : List Int) : (ns.flatMap utf8).length ≤ 4 * ns.length := by
  induction ns with
  | nil => simp
  | cons n ns ih =>
    have := utf8_len n
    rw [List.flatMap_cons, List.length_append, List.length_cons]; omega
theorem decoded_0 (v : Value) (l : List UInt8) (hs : l.length ≤ 1048576) : Ct Tryz.prog 101 [I 0, v] (fun M => Bs M v l) (fun r _ => r = S (decoded 0 l)) := by
  refine Ct.of Tryz.func101 (enters Tryz.func101 (by kernel_rfl) rfl) rfl rfl rfl ?_
  intro w0 M0 H hp
  refine SQ (RG (AS rfl rfl (NL (TN (SQ (RG (AS rfl rfl (NL (TN (SQ (SQ (RG (MV rfl rfl (NL (TN (BL (SQ (SQ (RG (WR.stepT (Ex.eql rfl rfl) rfl (Wn.none rfl) rfl rfl (AS rfl rfl (NL (TN (CT rfl (SK (TN (CT rfl (SQ (RG (AS rfl rfl (NL (TN (BL (WC.loop2 (fun (q : Nat) (o : List UInt8) => [(0, I 0), (1, v), (5, S o), (6, encN q)]) (fun (q : Nat) (o : List UInt8) w => q ≤ l.length ∧ o = (decS 128 (l.take q)).flatMap utf8 ∧ ∃ M, St w0 M0 M [] w ∧ Bs M v l) (fun (q : Nat) (o : List UInt8) => l.length - q) (0) ([]) ⟨rfl, rfl, rfl, rfl, trivial⟩ (⟨by omega, rfl, M0, H, hp⟩) ?_))))))))))))))))))))))))))))))))))
  intro q o w
  rintro ⟨hq, ho, M, H, hp⟩
  have hol := flat_len (decS 128 (l.take q))
  rw [← ho] at hol
  have hdl : (decS 128 (l.take q)).length = q := by simp [decS]; omega
  refine SQ (SQ (RG (MV rfl rfl (MV rfl rfl ?_))))
  first | refine WR.step (Ex.lenSl Tryz.underlying30 (by assumption) rfl) (Wn.none rfl) rfl rfl ?_ | refine WR.step (Ex.lenRow Tryz.underlying30 H (by repeat (first | exact List.Mem.head _ | apply List.Mem.tail)) rfl) (Wn.none rfl) rfl rfl ?_ | refine WR.step (Ex.lenSlice Tryz.underlying30 rfl) (Wn.none rfl) rfl rfl ?_
  refine WR.split (Ex.lss rfl rfl) (Wn.none rfl) rfl rfl (fun h6_3 => ?_) (fun h6_3 => ?_)
  · obtain ⟨c, hc⟩ : ∃ c, l[q]? = some c := ⟨_, List.getElem?_eq_getElem (by omega)⟩
    have hclt := c.toNat_lt
    have hdn : decS 128 (l.take (q + 1)) = decS 128 (l.take q) ++ [if 128 ≤ (c.toNat : Int) then 65533 else (c.toNat : Int)] := by
      obtain ⟨e1, e2⟩ := List.getElem?_eq_some_iff.1 hc
      rw [List.take_succ_eq_append_getElem e1, e2]; simp [decS]
    have hul1 := utf8_len 65533
    have hul2 := utf8_len (c.toNat : Int)
    refine NL (TN (CT rfl (SK (TN (SQ (BL (SQ (RG (MV rfl rfl (MV rfl rfl (WR.idxSl Tryz.underlying30 Tryz.sizeOf5 (by assumption) rfl rfl (hc) (Wn.none rfl) rfl ?_)))))))))))
    intro p25 hc25
    first | refine WR.step (Ex.loadM H rfl (by assumption) Tryz.isAgg5) (Wn.none rfl) rfl rfl ?_ | refine WR.step (Ex.load1 H rfl (by repeat (first | exact List.Mem.head _ | apply List.Mem.tail)) Tryz.isAgg5 (by rfl)) (Wn.none rfl) rfl rfl ?_
    first | refine WR.step (Ex.convB Tryz.underlying5 Tryz.underlying3 rfl) (Wn.none rfl) rfl rfl ?_ | refine WR.step (Ex.convI Tryz.underlying5 Tryz.underlying3 rfl (by omega)) (Wn.none rfl) rfl rfl ?_
    refine AS rfl rfl (NL (TN (SQ (SQ (RG (MV rfl rfl (WR.stepT (Ex.eql rfl rfl) rfl (Wn.none rfl) rfl rfl (MV rfl rfl (SG (Ex.move rfl) rfl rfl rfl ?_)))))))))
    refine WR.split (Ex.gtr rfl rfl) (Wn.some rfl rfl rfl) rfl rfl (fun h9_4 => ?_) (fun h9_4 => ?_)
    · refine PT rfl rfl rfl (NL (TN (CT rfl (RG (AS rfl rfl (NL (TN (RG (MV rfl rfl (MV rfl rfl (WR.call H (utf8_spec _) rfl (trivial) (Wn.none rfl) rfl ?_)))))))))))
      intro v36 M w H hle hr36
      replace hp := hp.mono hle
      replace hc25 := hc25.mono hle
      obtain rfl := hr36
      refine ST (Ex.strAdd rfl rfl (by first | omega | (simp only [List.length_cons, List.length_nil]; omega) | (simp only [List.length_append, List.length_cons, List.length_nil, List.length_drop, List.length_take]; omega))) rfl ?_
      refine AS rfl rfl (NL (IB (TN (RG (MV rfl rfl (ST (Ex.add64 rfl rfl (by omega)) rfl ?_))))))
      refine AS rfl rfl (NL ?_)
      refine WQ.again2 (q + 1) (o ++ utf8 65533) ⟨rfl, rfl, rfl, rfl, trivial⟩ ?_ ?_
      · refine ⟨by omega, ?_, M, H, hp⟩
        rw [hdn, List.flatMap_append, ← ho, if_pos (by omega)]; simp
      · omega
    · refine PT rfl rfl rfl (NL (TN (CF rfl (SK (TN (RG (MV rfl rfl (MV rfl rfl (WR.call H (utf8_spec _) rfl (trivial) (Wn.none rfl) rfl ?_)))))))))
      intro v36 M w H hle hr36
      replace hp := hp.mono hle
      replace hc25 := hc25.mono hle
      obtain rfl := hr36
      refine ST (Ex.strAdd rfl rfl (by first | omega | (simp only [List.length_cons, List.length_nil]; omega) | (simp only [List.length_append, List.length_cons, List.length_nil, List.length_drop, List.length_take]; omega))) rfl ?_
      refine AS rfl rfl (NL (IB (TN (RG (MV rfl rfl (ST (Ex.add64 rfl rfl (by omega)) rfl ?_))))))
      refine AS rfl rfl (NL ?_)
      refine WQ.again2 (q + 1) (o ++ utf8 (c.toNat : Int)) ⟨rfl, rfl, rfl, rfl, trivial⟩ ?_ ?_
      · refine ⟨by omega, ?_, M, H, hp⟩
        rw [hdn, List.flatMap_append, ← ho, if_neg (by omega)]; simp
      · omega
  · refine NL (TN (CF rfl (WC.exit (WQ.thenExit (WQ.thenExit (WQ.exitHere (IB (TN (SQ (RG (MV rfl rfl (AS rfl rfl (NL (TN (RT ?_)))))))))))))))
    refine WQ.ret1 rfl rfl H.ext ?_
    exact by rw [ho, List.take_of_length_le (by omega)]; rfl
theorem decoded_1 (v : Value) (l : List UInt8) (hs : l.length ≤ 1048576) : Ct Tryz.prog 101 [I 1, v] (fun M => Bs M v l) (fun r _ => r = S (decoded 1 l)) := by
  refine Ct.of Tryz.func101 (enters Tryz.func101 (by kernel_rfl) rfl) rfl rfl rfl ?_
  intro w0 M0 H hp
  refine SQ (RG (AS rfl rfl (NL (TN (SQ (RG (AS rfl rfl (NL (TN (SQ (SQ (RG (MV rfl rfl (NL (TN (BL (SQ (SQ (RG (WR.stepF (Ex.eql rfl rfl) (by decide) (Wn.none rfl) rfl rfl (AS rfl rfl (NL (TN (CF rfl (RG (WR.stepT (Ex.eql rfl rfl) rfl (Wn.none rfl) rfl rfl (AS rfl rfl (NL (TN (CT rfl (SQ (RG (AS rfl rfl (NL (TN (BL (WC.loop2 (fun (q : Nat) (o : List UInt8) => [(0, I 1), (1, v), (5, S o), (6, encN q)]) (fun (q : Nat) (o : List UInt8) w => q ≤ l.length ∧ o = (decS 256 (l.take q)).flatMap utf8 ∧ ∃ M, St w0 M0 M [] w ∧ Bs M v l) (fun (q : Nat) (o : List UInt8) => l.length - q) (0) ([]) ⟨rfl, rfl, rfl, rfl, trivial⟩ (⟨by omega, rfl, M0, H, hp⟩) ?_)))))))))))))))))))))))))))))))))))))
  intro q o w
  rintro ⟨hq, ho, M, H, hp⟩
  have hol := flat_len (decS 256 (l.take q))
  rw [← ho] at hol
  have hdl : (decS 256 (l.take q)).length = q := by simp [decS]; omega
  refine SQ (SQ (RG (MV rfl rfl (MV rfl rfl ?_))))
  first | refine WR.step (Ex.lenSl Tryz.underlying30 (by assumption) rfl) (Wn.none rfl) rfl rfl ?_ | refine WR.step (Ex.lenRow Tryz.underlying30 H (by repeat (first | exact List.Mem.head _ | apply List.Mem.tail)) rfl) (Wn.none rfl) rfl rfl ?_ | refine WR.step (Ex.lenSlice Tryz.underlying30 rfl) (Wn.none rfl) rfl rfl ?_
  refine WR.split (Ex.lss rfl rfl) (Wn.none rfl) rfl rfl (fun h6_3 => ?_) (fun h6_3 => ?_)
  · obtain ⟨c, hc⟩ : ∃ c, l[q]? = some c := ⟨_, List.getElem?_eq_getElem (by omega)⟩
    have hclt := c.toNat_lt
    have hdn : decS 256 (l.take (q + 1)) = decS 256 (l.take q) ++ [if 256 ≤ (c.toNat : Int) then 65533 else (c.toNat : Int)] := by
      obtain ⟨e1, e2⟩ := List.getElem?_eq_some_iff.1 hc
      rw [List.take_succ_eq_append_getElem e1, e2]; simp [decS]
    have hul1 := utf8_len 65533
    have hul2 := utf8_len (c.toNat : Int)
    refine NL (TN (CT rfl (SK (TN (SQ (BL (SQ (RG (MV rfl rfl (MV rfl rfl (WR.idxSl Tryz.underlying30 Tryz.sizeOf5 (by assumption) rfl rfl (hc) (Wn.none rfl) rfl ?_)))))))))))
    intro p25 hc25
    first | refine WR.step (Ex.loadM H rfl (by assumption) Tryz.isAgg5) (Wn.none rfl) rfl rfl ?_ | refine WR.step (Ex.load1 H rfl (by repeat (first | exact List.Mem.head _ | apply List.Mem.tail)) Tryz.isAgg5 (by rfl)) (Wn.none rfl) rfl rfl ?_
    first | refine WR.step (Ex.convB Tryz.underlying5 Tryz.underlying3 rfl) (Wn.none rfl) rfl rfl ?_ | refine WR.step (Ex.convI Tryz.underlying5 Tryz.underlying3 rfl (by omega)) (Wn.none rfl) rfl rfl ?_
    refine AS rfl rfl (NL (TN (SQ (SQ (RG (MV rfl rfl (WR.stepF (Ex.eql rfl rfl) (by decide) (Wn.none rfl) rfl rfl (MV rfl rfl (GF rfl rfl rfl (GF rfl rfl rfl (PF rfl rfl rfl (NL (TN (CF rfl (SK (TN (RG (MV rfl rfl (MV rfl rfl (WR.call H (utf8_spec _) rfl (trivial) (Wn.none rfl) rfl ?_))))))))))))))))))))
    intro v36 M w H hle hr36
    replace hp := hp.mono hle
    replace hc25 := hc25.mono hle
    obtain rfl := hr36
    refine ST (Ex.strAdd rfl rfl (by first | omega | (simp only [List.length_cons, List.length_nil]; omega) | (simp only [List.length_append, List.length_cons, List.length_nil, List.length_drop, List.length_take]; omega))) rfl ?_
    refine AS rfl rfl (NL (IB (TN (RG (MV rfl rfl (ST (Ex.add64 rfl rfl (by omega)) rfl ?_))))))
    refine AS rfl rfl (NL ?_)
    refine WQ.again2 (q + 1) (o ++ utf8 (c.toNat : Int)) ⟨rfl, rfl, rfl, rfl, trivial⟩ ?_ ?_
    · refine ⟨by omega, ?_, M, H, hp⟩
      rw [hdn, List.flatMap_append, ← ho, if_neg (by omega)]; simp
    · omega
  · refine NL (TN (CF rfl (WC.exit (WQ.thenExit (WQ.thenExit (WQ.exitHere (IB (TN (SQ (RG (MV rfl rfl (AS rfl rfl (NL (TN (RT ?_)))))))))))))))
    refine WQ.ret1 rfl rfl H.ext ?_
    exact by rw [ho, List.take_of_length_le (by omega)]; rfl
theorem decoded_2 (v : Value) (l : List UInt8) (hs : l.length ≤ 1048576) : Ct Tryz.prog 101 [I 2, v] (fun M => Bs M v l) (fun r _ => r = S (decoded 2 l)) := by
  refine Ct.of Tryz.func101 (enters Tryz.func101 (by kernel_rfl) rfl) rfl rfl rfl ?_
  intro w0 M0 H hp
  refine SQ (RG (AS rfl rfl (NL (TN (SQ (RG (AS rfl rfl (NL (TN (SQ (SQ (RG (MV rfl rfl (NL (TN (BL (SQ (SQ (RG (WR.stepF (Ex.eql rfl rfl) (by decide) (Wn.none rfl) rfl rfl (AS rfl rfl (NL (TN (CF rfl (RG (WR.stepF (Ex.eql rfl rfl) (by decide) (Wn.none rfl) rfl rfl (AS rfl rfl (NL (TN (CF rfl (SQ (RG (WR.stepT (Ex.eql rfl rfl) rfl (Wn.none rfl) rfl rfl (AS rfl rfl (NL (TN (CT rfl (SQ (RG (MV rfl rfl (ST (Ex.toStr Tryz.underlying30 Tryz.underlying5 Tryz.underlying9 H (by assumption) rfl) rfl ?_)))))))))))))))))))))))))))))))))))))))))
  refine WR.call H (runes_spec _ (by omega)) rfl (trivial) (Wn.none rfl) rfl ?_
  intro v42 M w H hle hr42
  replace hp := hp.mono hle
  have hf42 := hr42
  refine AS rfl rfl (NL (TN (SQ (RG (AS rfl rfl (NL (TN (BL (WC.loop2 (fun (k : Nat) (o : List UInt8) => [(5, S o), (8, v42), (9, encN k)]) (fun (k : Nat) (o : List UInt8) w => k ≤ (chars l).length ∧ o = (((chars l).take k).map (fun c => fix0 c.1)).flatMap utf8 ∧ ∃ M, St w0 M0 M [] w ∧ Sl M encI v42 ((chars l).map (·.1))) (fun (k : Nat) (o : List UInt8) => (chars l).length - k) (0) ([]) ⟨rfl, rfl, rfl, trivial⟩ (⟨by omega, rfl, M, H, hf42⟩) ?_)))))))))
  intro k o w
  rintro ⟨hk, ho, M, H, hf42⟩
  have hml : ((chars l).map (·.1)).length = (chars l).length := List.length_map _
  have hol := flat_len (((chars l).take k).map (fun c => fix0 c.1))
  rw [← ho, List.length_map, List.length_take] at hol
  have hcl := decU_len l
  rw [decU, List.length_map] at hcl
  refine SQ (SQ (RG (MV rfl rfl (MV rfl rfl ?_))))
  first | refine WR.step (Ex.lenSl Tryz.underlying107 (by assumption) rfl) (Wn.none rfl) rfl rfl ?_ | refine WR.step (Ex.lenRow Tryz.underlying107 H (by repeat (first | exact List.Mem.head _ | apply List.Mem.tail)) rfl) (Wn.none rfl) rfl rfl ?_ | refine WR.step (Ex.lenSlice Tryz.underlying107 rfl) (Wn.none rfl) rfl rfl ?_
  refine WR.split (Ex.lss rfl rfl) (Wn.none rfl) rfl rfl (fun h15_3 => ?_) (fun h15_3 => ?_)
  · obtain ⟨c, hc⟩ : ∃ c, (chars l)[k]? = some c := ⟨_, List.getElem?_eq_getElem (by omega)⟩
    have hx : ((chars l).map (·.1))[k]? = some c.1 := by rw [List.getElem?_map, hc]; rfl
    have hsn : (chars l).take (k + 1) = (chars l).take k ++ [c] := by
      have e := List.getElem?_eq_some_iff.1 hc
      rw [List.take_succ_eq_append_getElem e.1, e.2]
    have hul1 := utf8_len c.1
    refine NL (TN (CT rfl (SK (TN (SQ (BL (RG (MV rfl rfl (MV rfl rfl (MV rfl rfl (WR.idxSl Tryz.underlying107 Tryz.sizeOf3 (by assumption) rfl rfl (hx) (Wn.none rfl) rfl ?_)))))))))))
    intro p52 hc52
    first | refine WR.step (Ex.loadM H rfl (by assumption) Tryz.isAgg3) (Wn.none rfl) rfl rfl ?_ | refine WR.step (Ex.load1 H rfl (by repeat (first | exact List.Mem.head _ | apply List.Mem.tail)) Tryz.isAgg3 (by rfl)) (Wn.none rfl) rfl rfl ?_
    refine WR.call H (utf8_spec _) rfl (trivial) (Wn.none rfl) rfl ?_
    intro v54 M w H hle hr54
    replace hf42 := hf42.mono hle
    replace hc52 := hc52.mono hle
    obtain rfl := hr54
    refine ST (Ex.strAdd rfl rfl (by first | omega | (simp only [List.length_cons, List.length_nil]; omega) | (simp only [List.length_append, List.length_cons, List.length_nil, List.length_drop, List.length_take]; omega))) rfl ?_
    refine AS rfl rfl (NL (IB (TN (RG (MV rfl rfl (ST (Ex.add64 rfl rfl (by omega)) rfl ?_))))))
    refine AS rfl rfl (NL ?_)
    refine WQ.again2 (k + 1) (o ++ utf8 c.1) ⟨rfl, rfl, rfl, trivial⟩ ?_ ?_
    · refine ⟨by omega, ?_, M, H, hf42⟩
      rw [hsn, List.map_append, List.flatMap_append, ← ho]; simp [utf8_fix0]
    · omega
  · refine NL (TN (CF rfl (WC.exit (WQ.thenExit (WQ.thenExit (WQ.exitHere (IB (TN (SQ (RG (MV rfl rfl (AS rfl rfl (NL (TN (RT ?_)))))))))))))))
    refine WQ.ret1 rfl rfl H.ext ?_
    exact by rw [ho, List.take_of_length_le (by omega)]; rfl
set_option maxHeartbeats 2000000 in
theorem decoded_3 (v : Value) (l : List UInt8) (hs : l.length ≤ 1048576) : Ct Tryz.prog 101 [I 3, v] (fun M => Bs M v l) (fun r _ => r = S (decoded 3 l)) := by
  refine Ct.of Tryz.func101 (enters Tryz.func101 (by kernel_rfl) rfl) rfl rfl rfl ?_
  intro w0 M0 H hp
  refine SQ (RG (AS rfl rfl (NL (TN (SQ (RG (AS rfl rfl (NL (TN (SQ (SQ (RG (MV rfl rfl (NL (TN (BL (SQ (SQ (RG (WR.stepF (Ex.eql rfl rfl) (by decide) (Wn.none rfl) rfl rfl (AS rfl rfl (NL (TN (CF rfl (RG (WR.stepF (Ex.eql rfl rfl) (by decide) (Wn.none rfl) rfl rfl (AS rfl rfl (NL (TN (CF rfl (SQ (RG (WR.stepF (Ex.eql rfl rfl) (by decide) (Wn.none rfl) rfl rfl (AS rfl rfl (NL (TN (CF rfl (SQ (RG (WR.stepT (Ex.eql rfl rfl) rfl (Wn.none rfl) rfl rfl (AS rfl rfl (NL (TN (CT rfl (SQ (RG (AS rfl rfl (NL (TN (BL (WC.loop2 (fun (q : Nat) (o : List UInt8) => [(1, v), (5, S o), (10, encN q)]) (fun (q : Nat) (o : List UInt8) w => q ≤ l.length ∧ o.length ≤ 4 * q ∧ (decW l).flatMap utf8 = o ++ (decW (l.drop q)).flatMap utf8 ∧ ∃ M, St w0 M0 M [] w ∧ Bs M v l) (fun (q : Nat) (o : List UInt8) => l.length - q) (0) ([]) ⟨rfl, rfl, rfl, trivial⟩ (⟨by omega, by simp, rfl, M0, H, hp⟩) ?_)))))))))))))))))))))))))))))))))))))))))))))))))))
  intro q o w
  rintro ⟨hq, hol, hdec, M, H, hp⟩
  refine SQ (SQ (RG (MV rfl rfl (MV rfl rfl ?_))))
  first | refine WR.step (Ex.lenSl Tryz.underlying30 (by assumption) rfl) (Wn.none rfl) rfl rfl ?_ | refine WR.step (Ex.lenRow Tryz.underlying30 H (by repeat (first | exact List.Mem.head _ | apply List.Mem.tail)) rfl) (Wn.none rfl) rfl rfl ?_ | refine WR.step (Ex.lenSlice Tryz.underlying30 rfl) (Wn.none rfl) rfl rfl ?_
  refine WR.split (Ex.lss rfl rfl) (Wn.none rfl) rfl rfl (fun h20_3 => ?_) (fun h20_3 => ?_)
  · obtain ⟨x, hx⟩ : ∃ c, l[q]? = some c := ⟨_, List.getElem?_eq_getElem (by omega)⟩
    have hltx := x.toNat_lt
    have hulm := utf8_len (-1)
    refine NL (TN (CT rfl (SK (TN (SQ (BL (SQ (SQ (RG (MV rfl rfl (ST (Ex.add64 rfl rfl (by omega)) rfl ?_)))))))))))
    refine MV rfl rfl ?_
    first | refine WR.step (Ex.lenSl Tryz.underlying30 (by assumption) rfl) (Wn.none rfl) rfl rfl ?_ | refine WR.step (Ex.lenRow Tryz.underlying30 H (by repeat (first | exact List.Mem.head _ | apply List.Mem.tail)) rfl) (Wn.none rfl) rfl rfl ?_ | refine WR.step (Ex.lenSlice Tryz.underlying30 rfl) (Wn.none rfl) rfl rfl ?_
    refine WR.split (Ex.eql rfl rfl) (Wn.none rfl) rfl rfl (fun h22_4 => ?_) (fun h22_4 => ?_)
    · have hlast : l.drop q = [x] := by
        obtain ⟨e1, e2⟩ := List.getElem?_eq_some_iff.1 hx
        rw [List.drop_eq_getElem_cons e1, e2, List.drop_eq_nil_of_le (by omega)]
      have hr : (decW l).flatMap utf8 = o ++ utf8 (-1) := by rw [hdec, hlast]; simp [decW]; decide
      refine NL (TN (CT rfl (SQ (RG (MV rfl rfl (WR.call H (utf8_spec _) rfl (trivial) (Wn.none rfl) rfl ?_))))))
      intro v70 M w H hle hr70
      replace hp := hp.mono hle
      obtain rfl := hr70
      refine ST (Ex.strAdd rfl rfl (by first | omega | (simp only [List.length_cons, List.length_nil]; omega) | (simp only [List.length_append, List.length_cons, List.length_nil, List.length_drop, List.length_take]; omega))) rfl ?_
      refine AS rfl rfl (NL (TN (RT ?_)))
      refine WQ.ret1 rfl rfl H.ext ?_
      exact by rw [← hr]; rfl
    · obtain ⟨y, hy⟩ : ∃ c, l[q + 1]? = some c := ⟨_, List.getElem?_eq_getElem (by omega)⟩
      have hlty := y.toNat_lt
      have hd : l.drop q = x :: y :: l.drop (q + 2) := by
        obtain ⟨e1, e2⟩ := List.getElem?_eq_some_iff.1 hx
        obtain ⟨e3, e4⟩ := List.getElem?_eq_some_iff.1 hy
        rw [List.drop_eq_getElem_cons e1, e2, List.drop_eq_getElem_cons e3, e4]
      have hul := unit_lt x y
      have hulu := utf8_len (unit x y)
      refine NL (TN (CF rfl (SK (TN (SQ (WC.draw (m := 14) rfl rfl H ?_))))))
      intro w H
      refine WA.take (i := 0) rfl (by kernel_rfl) (by kernel_rfl) (by kernel_rfl) (fun _ => Ex.move rfl) (Wn.none rfl) rfl rfl (fun _ _ => rfl) (WA.take (i := 1) rfl (by kernel_rfl) (by kernel_rfl) (by kernel_rfl) (fun _ => Ex.move rfl) (Wn.none rfl) rfl rfl (fun _ _ => rfl) (WA.takeIdx (i := 2) rfl (by kernel_rfl) (by kernel_rfl) (by kernel_rfl) Tryz.underlying30 Tryz.sizeOf5 (by assumption) rfl rfl (hx) (Wn.none rfl) rfl ?_))
      intro p74 hc74
      refine WA.take (i := 6) rfl (by kernel_rfl) (by kernel_rfl) (by kernel_rfl) (fun _ => Ex.move rfl) (Wn.none rfl) rfl rfl (fun _ _ => rfl) (WA.take (i := 7) rfl (by kernel_rfl) (by kernel_rfl) (by kernel_rfl) (fun _ => Ex.move rfl) (Wn.none rfl) rfl rfl (fun _ _ => rfl) (WA.takeE (v' := encN (q + 1)) (i := 8) rfl (by kernel_rfl) (by kernel_rfl) (by kernel_rfl) (fun _ => Ex.add64 rfl rfl (by omega)) rfl (Wn.none rfl) rfl rfl (fun _ _ => rfl) ?_))
      refine WA.takeIdx (i := 9) rfl (by kernel_rfl) (by kernel_rfl) (by kernel_rfl) Tryz.underlying30 Tryz.sizeOf5 (by assumption) rfl rfl (hy) (Wn.none rfl) rfl ?_
      intro p81 hc81
      refine WA.two (i := 3) (j := 10) (by kernel_rfl) rfl rfl ?_ ?_
      · first | refine WR.step (Ex.loadM H rfl (by assumption) Tryz.isAgg5) (Wn.none rfl) rfl rfl ?_ | refine WR.step (Ex.load1 H rfl (by repeat (first | exact List.Mem.head _ | apply List.Mem.tail)) Tryz.isAgg5 (by rfl)) (Wn.none rfl) rfl rfl ?_
        refine NA (WA.take (i := 4) rfl (by kernel_rfl) (by kernel_rfl) (by kernel_rfl) (fun _ => Ex.convB Tryz.underlying5 Tryz.underlying3 rfl) (Wn.none rfl) rfl rfl (fun _ _ => rfl) (WA.take (i := 5) rfl (by kernel_rfl) (by kernel_rfl) (by kernel_rfl) (fun _ => Ex.mul64 rfl rfl (by omega)) (Wn.none rfl) rfl rfl (fun _ _ => rfl) ?_))
        refine ON 10 (by kernel_rfl) rfl ?_
        first | refine WR.step (Ex.loadM H rfl (by assumption) Tryz.isAgg5) (Wn.none rfl) rfl rfl ?_ | refine WR.step (Ex.load1 H rfl (by repeat (first | exact List.Mem.head _ | apply List.Mem.tail)) Tryz.isAgg5 (by rfl)) (Wn.none rfl) rfl rfl ?_
        refine NA (ON 11 (by kernel_rfl) rfl ?_)
        first | refine WR.step (Ex.convB Tryz.underlying5 Tryz.underlying3 rfl) (Wn.none rfl) rfl rfl ?_ | refine WR.step (Ex.convI Tryz.underlying5 Tryz.underlying3 rfl (by omega)) (Wn.none rfl) rfl rfl ?_
        refine NA (ON 12 (by kernel_rfl) rfl (WR.stepE (v' := I (unit x y)) (Ex.add64 rfl rfl (by omega)) (congrArg I (by unfold unit; rfl)) (Wn.none rfl) rfl rfl ?_))
        refine NA (ON 13 (by kernel_rfl) rfl (AS rfl rfl (NA (WA.done (by kernel_rfl) (TN (SQ (SQ (RG (MV rfl rfl ?_)))))))))
        by_cases h25_1 : (55296 : Int) ≤ unit x y ∧ unit x y ≤ 56319
        · refine WR.call H (Ct.mono (in_spec _ _ _) (R' := fun r _ => r = .bool true) (fun _ _ h => h.trans (congrArg Value.bool (decide_eq_true h25_1)))) rfl (trivial) (Wn.none rfl) rfl ?_
          intro v86 M w H hle hr86
          replace hp := hp.mono hle
          replace hc74 := hc74.mono hle
          replace hc81 := hc81.mono hle
          obtain rfl := hr86
          refine MV rfl rfl (SG (Ex.move rfl) rfl rfl rfl (SG (Ex.add64 rfl rfl (by omega)) rfl rfl rfl ?_))
          refine SG (Ex.move rfl) rfl rfl rfl ?_
          first | refine WR.step (Ex.lenSl Tryz.underlying30 (by assumption) rfl) (Wn.some rfl rfl rfl) rfl rfl ?_ | refine WR.step (Ex.lenRow Tryz.underlying30 H (by repeat (first | exact List.Mem.head _ | apply List.Mem.tail)) rfl) (Wn.some rfl rfl rfl) rfl rfl ?_ | refine WR.step (Ex.lenSlice Tryz.underlying30 rfl) (Wn.some rfl rfl rfl) rfl rfl ?_
          refine WR.split (Ex.lss rfl rfl) (Wn.some rfl rfl rfl) rfl rfl (fun h25_7 => ?_) (fun h25_7 => ?_)
          · obtain ⟨x2, hx2⟩ : ∃ c, l[q + 2]? = some c := ⟨_, List.getElem?_eq_getElem (by omega)⟩
            have hltx2 := x2.toNat_lt
            obtain ⟨y2, hy2⟩ : ∃ c, l[q + 3]? = some c := ⟨_, List.getElem?_eq_getElem (by omega)⟩
            have hlty2 := y2.toNat_lt
            have hd2 : l.drop (q + 2) = x2 :: y2 :: l.drop (q + 2 + 2) := by
              obtain ⟨e1, e2⟩ := List.getElem?_eq_some_iff.1 hx2
              obtain ⟨e3, e4⟩ := List.getElem?_eq_some_iff.1 hy2
              rw [List.drop_eq_getElem_cons e1, e2, List.drop_eq_getElem_cons e3, e4]
            have hul2 := unit_lt x2 y2
            have hulp := utf8_len (65536 + 1024 * (unit x y - 55296) + unit x2 y2 - 56320)
            refine PT rfl rfl rfl (NL (TN (CT rfl (SQ (WC.draw (m := 15) rfl rfl H ?_)))))
            intro w H
            refine WA.take (i := 0) rfl (by kernel_rfl) (by kernel_rfl) (by kernel_rfl) (fun _ => Ex.move rfl) (Wn.none rfl) rfl rfl (fun _ _ => rfl) (WA.take (i := 1) rfl (by kernel_rfl) (by kernel_rfl) (by kernel_rfl) (fun _ => Ex.move rfl) (Wn.none rfl) rfl rfl (fun _ _ => rfl) (WA.takeE (v' := encN (q + 2)) (i := 2) rfl (by kernel_rfl) (by kernel_rfl) (by kernel_rfl) (fun _ => Ex.add64 rfl rfl (by omega)) rfl (Wn.none rfl) rfl rfl (fun _ _ => rfl) ?_))
            refine WA.takeIdx (i := 3) rfl (by kernel_rfl) (by kernel_rfl) (by kernel_rfl) Tryz.underlying30 Tryz.sizeOf5 (by assumption) rfl rfl (hx2) (Wn.none rfl) rfl ?_
            intro p97 hc97
            refine WA.take (i := 7) rfl (by kernel_rfl) (by kernel_rfl) (by kernel_rfl) (fun _ => Ex.move rfl) (Wn.none rfl) rfl rfl (fun _ _ => rfl) (WA.take (i := 8) rfl (by kernel_rfl) (by kernel_rfl) (by kernel_rfl) (fun _ => Ex.move rfl) (Wn.none rfl) rfl rfl (fun _ _ => rfl) (WA.takeE (v' := encN (q + 3)) (i := 9) rfl (by kernel_rfl) (by kernel_rfl) (by kernel_rfl) (fun _ => Ex.add64 rfl rfl (by omega)) rfl (Wn.none rfl) rfl rfl (fun _ _ => rfl) ?_))
            refine WA.takeIdx (i := 10) rfl (by kernel_rfl) (by kernel_rfl) (by kernel_rfl) Tryz.underlying30 Tryz.sizeOf5 (by assumption) rfl rfl (hy2) (Wn.none rfl) rfl ?_
            intro p104 hc104
            refine WA.two (i := 4) (j := 11) (by kernel_rfl) rfl rfl ?_ ?_
            · first | refine WR.step (Ex.loadM H rfl (by assumption) Tryz.isAgg5) (Wn.none rfl) rfl rfl ?_ | refine WR.step (Ex.load1 H rfl (by repeat (first | exact List.Mem.head _ | apply List.Mem.tail)) Tryz.isAgg5 (by rfl)) (Wn.none rfl) rfl rfl ?_
              refine NA (WA.take (i := 5) rfl (by kernel_rfl) (by kernel_rfl) (by kernel_rfl) (fun _ => Ex.convB Tryz.underlying5 Tryz.underlying3 rfl) (Wn.none rfl) rfl rfl (fun _ _ => rfl) (WA.take (i := 6) rfl (by kernel_rfl) (by kernel_rfl) (by kernel_rfl) (fun _ => Ex.mul64 rfl rfl (by omega)) (Wn.none rfl) rfl rfl (fun _ _ => rfl) ?_))
              refine ON 11 (by kernel_rfl) rfl ?_
              first | refine WR.step (Ex.loadM H rfl (by assumption) Tryz.isAgg5) (Wn.none rfl) rfl rfl ?_ | refine WR.step (Ex.load1 H rfl (by repeat (first | exact List.Mem.head _ | apply List.Mem.tail)) Tryz.isAgg5 (by rfl)) (Wn.none rfl) rfl rfl ?_
              refine NA (ON 12 (by kernel_rfl) rfl ?_)
              first | refine WR.step (Ex.convB Tryz.underlying5 Tryz.underlying3 rfl) (Wn.none rfl) rfl rfl ?_ | refine WR.step (Ex.convI Tryz.underlying5 Tryz.underlying3 rfl (by omega)) (Wn.none rfl) rfl rfl ?_
              refine NA (ON 13 (by kernel_rfl) rfl (WR.stepE (v' := I (unit x2 y2)) (Ex.add64 rfl rfl (by omega)) (congrArg I (by unfold unit; rfl)) (Wn.none rfl) rfl rfl ?_))
              refine NA (ON 14 (by kernel_rfl) rfl (AS rfl rfl (NA (WA.done (by kernel_rfl) (TN (SQ (RG (MV rfl rfl ?_))))))))
              by_cases h27_1 : (56320 : Int) ≤ unit x2 y2 ∧ unit x2 y2 ≤ 57343
              · refine WR.call H (Ct.mono (in_spec _ _ _) (R' := fun r _ => r = .bool true) (fun _ _ h => h.trans (congrArg Value.bool (decide_eq_true h27_1)))) rfl (trivial) (Wn.none rfl) rfl ?_
                intro v109 M w H hle hr109
                replace hp := hp.mono hle
                replace hc74 := hc74.mono hle
                replace hc81 := hc81.mono hle
                replace hc97 := hc97.mono hle
                replace hc104 := hc104.mono hle
                obtain rfl := hr109
                refine NL (TN (CT rfl (SQ (RG (MV rfl rfl (MV rfl rfl (ST (Ex.sub64 rfl rfl (by omega)) rfl ?_)))))))
                refine ST (Ex.mul64 rfl rfl (by omega)) rfl ?_
                refine ST (Ex.add64 rfl rfl (by omega)) rfl ?_
                refine MV rfl rfl (ST (Ex.add64 rfl rfl (by omega)) rfl ?_)
                refine ST (Ex.sub64 rfl rfl (by omega)) rfl ?_
                refine WR.call H (utf8_spec _) rfl (trivial) (Wn.none rfl) rfl ?_
                intro v118 M w H hle hr118
                replace hp := hp.mono hle
                replace hc74 := hc74.mono hle
                replace hc81 := hc81.mono hle
                replace hc97 := hc97.mono hle
                replace hc104 := hc104.mono hle
                obtain rfl := hr118
                refine ST (Ex.strAdd rfl rfl (by first | omega | (simp only [List.length_cons, List.length_nil]; omega) | (simp only [List.length_append, List.length_cons, List.length_nil, List.length_drop, List.length_take]; omega))) rfl ?_
                refine AS rfl rfl (NL (TN (SQ (RG (MV rfl rfl (WR.stepE (v' := encN (q + 2)) (Ex.add64 rfl rfl (by omega)) rfl (Wn.none rfl) rfl rfl ?_))))))
                refine AS rfl rfl (NL (TN (WC.exit (WQ.thenExit (WQ.exitHere (TN (RG (MV rfl rfl (WR.stepE (v' := encN (q + 2 + 2)) (Ex.add64 rfl rfl (by omega)) rfl (Wn.none rfl) rfl rfl ?_)))))))))
                refine AS rfl rfl (NL ?_)
                refine WQ.again2 (q + 2 + 2) (o ++ utf8 (65536 + 1024 * (unit x y - 55296) + unit x2 y2 - 56320)) ⟨rfl, rfl, rfl, trivial⟩ ?_ ?_
                · refine ⟨by omega, by rw [List.length_append]; omega, ?_, M, H, hp⟩
                  rw [hdec, hd, hd2, decW_pair (by omega) (by omega)]; simp
                · omega
              · have hone : decW (x :: y :: l.drop (q + 2)) = unsur (unit x y) :: decW (l.drop (q + 2)) := decW_one (by
                  rintro ⟨_, c', d', r', hr, h3, h4⟩
                  rw [hd2] at hr
                  cases hr
                  exact h27_1 (by omega))
                refine WR.call H (Ct.mono (in_spec _ _ _) (R' := fun r _ => r = .bool false) (fun _ _ h => h.trans (congrArg Value.bool (decide_eq_false h27_1)))) rfl (trivial) (Wn.none rfl) rfl ?_
                intro v109 M w H hle hr109
                replace hp := hp.mono hle
                replace hc74 := hc74.mono hle
                replace hc81 := hc81.mono hle
                replace hc97 := hc97.mono hle
                replace hc104 := hc104.mono hle
                obtain rfl := hr109
                refine NL (TN (CF rfl (SK (TN (RG (MV rfl rfl (MV rfl rfl (WR.call H (utf8_spec _) rfl (trivial) (Wn.none rfl) rfl ?_))))))))
                intro v124 M w H hle hr124
                replace hp := hp.mono hle
                replace hc74 := hc74.mono hle
                replace hc81 := hc81.mono hle
                replace hc97 := hc97.mono hle
                replace hc104 := hc104.mono hle
                obtain rfl := hr124
                refine ST (Ex.strAdd rfl rfl (by first | omega | (simp only [List.length_cons, List.length_nil]; omega) | (simp only [List.length_append, List.length_cons, List.length_nil, List.length_drop, List.length_take]; omega))) rfl ?_
                refine AS rfl rfl (NL (IB (TN (RG (MV rfl rfl (WR.stepE (v' := encN (q + 2)) (Ex.add64 rfl rfl (by omega)) rfl (Wn.none rfl) rfl rfl ?_))))))
                refine AS rfl rfl (NL ?_)
                refine WQ.again2 (q + 2) (o ++ utf8 (unit x y)) ⟨rfl, rfl, rfl, trivial⟩ ?_ ?_
                · refine ⟨by omega, by rw [List.length_append]; omega, ?_, M, H, hp⟩
                  rw [hdec, hd, hone]; simp [utf8_unsur hul.1 hul.2]
                · omega
            · first | refine WR.step (Ex.loadM H rfl (by assumption) Tryz.isAgg5) (Wn.none rfl) rfl rfl ?_ | refine WR.step (Ex.load1 H rfl (by repeat (first | exact List.Mem.head _ | apply List.Mem.tail)) Tryz.isAgg5 (by rfl)) (Wn.none rfl) rfl rfl ?_
              refine NA (WA.take (i := 12) rfl (by kernel_rfl) (by kernel_rfl) (by kernel_rfl) (fun _ => Ex.convB Tryz.underlying5 Tryz.underlying3 rfl) (Wn.none rfl) rfl rfl (fun _ _ => rfl) (ON 4 (by kernel_rfl) rfl ?_))
              first | refine WR.step (Ex.loadM H rfl (by assumption) Tryz.isAgg5) (Wn.none rfl) rfl rfl ?_ | refine WR.step (Ex.load1 H rfl (by repeat (first | exact List.Mem.head _ | apply List.Mem.tail)) Tryz.isAgg5 (by rfl)) (Wn.none rfl) rfl rfl ?_
              refine NA (ON 5 (by kernel_rfl) rfl ?_)
              first | refine WR.step (Ex.convB Tryz.underlying5 Tryz.underlying3 rfl) (Wn.none rfl) rfl rfl ?_ | refine WR.step (Ex.convI Tryz.underlying5 Tryz.underlying3 rfl (by omega)) (Wn.none rfl) rfl rfl ?_
              refine NA (ON 6 (by kernel_rfl) rfl (ST (Ex.mul64 rfl rfl (by omega)) rfl ?_))
              refine NA (ON 13 (by kernel_rfl) rfl (WR.stepE (v' := I (unit x2 y2)) (Ex.add64 rfl rfl (by omega)) (congrArg I (by unfold unit; rfl)) (Wn.none rfl) rfl rfl ?_))
              refine NA (ON 14 (by kernel_rfl) rfl (AS rfl rfl (NA (WA.done (by kernel_rfl) (TN (SQ (RG (MV rfl rfl ?_))))))))
              by_cases h27_1 : (56320 : Int) ≤ unit x2 y2 ∧ unit x2 y2 ≤ 57343
              · refine WR.call H (Ct.mono (in_spec _ _ _) (R' := fun r _ => r = .bool true) (fun _ _ h => h.trans (congrArg Value.bool (decide_eq_true h27_1)))) rfl (trivial) (Wn.none rfl) rfl ?_
                intro v109 M w H hle hr109
                replace hp := hp.mono hle
                replace hc74 := hc74.mono hle
                replace hc81 := hc81.mono hle
                replace hc97 := hc97.mono hle
                replace hc104 := hc104.mono hle
                obtain rfl := hr109
                refine NL (TN (CT rfl (SQ (RG (MV rfl rfl (MV rfl rfl (ST (Ex.sub64 rfl rfl (by omega)) rfl ?_)))))))
                refine ST (Ex.mul64 rfl rfl (by omega)) rfl ?_
                refine ST (Ex.add64 rfl rfl (by omega)) rfl ?_
                refine MV rfl rfl (ST (Ex.add64 rfl rfl (by omega)) rfl ?_)
                refine ST (Ex.sub64 rfl rfl (by omega)) rfl ?_
                refine WR.call H (utf8_spec _) rfl (trivial) (Wn.none rfl) rfl ?_
                intro v118 M w H hle hr118
                replace hp := hp.mono hle
                replace hc74 := hc74.mono hle
                replace hc81 := hc81.mono hle
                replace hc97 := hc97.mono hle
                replace hc104 := hc104.mono hle
                obtain rfl := hr118
                refine ST (Ex.strAdd rfl rfl (by first | omega | (simp only [List.length_cons, List.length_nil]; omega) | (simp only [List.length_append, List.length_cons, List.length_nil, List.length_drop, List.length_take]; omega))) rfl ?_
                refine AS rfl rfl (NL (TN (SQ (RG (MV rfl rfl (WR.stepE (v' := encN (q + 2)) (Ex.add64 rfl rfl (by omega)) rfl (Wn.none rfl) rfl rfl ?_))))))
                refine AS rfl rfl (NL (TN (WC.exit (WQ.thenExit (WQ.exitHere (TN (RG (MV rfl rfl (WR.stepE (v' := encN (q + 2 + 2)) (Ex.add64 rfl rfl (by omega)) rfl (Wn.none rfl) rfl rfl ?_)))))))))
                refine AS rfl rfl (NL ?_)
                refine WQ.again2 (q + 2 + 2) (o ++ utf8 (65536 + 1024 * (unit x y - 55296) + unit x2 y2 - 56320)) ⟨rfl, rfl, rfl, trivial⟩ ?_ ?_
                · refine ⟨by omega, by rw [List.length_append]; omega, ?_, M, H, hp⟩
                  rw [hdec, hd, hd2, decW_pair (by omega) (by omega)]; simp
                · omega
              · have hone : decW (x :: y :: l.drop (q + 2)) = unsur (unit x y) :: decW (l.drop (q + 2)) := decW_one (by
                  rintro ⟨_, c', d', r', hr, h3, h4⟩
                  rw [hd2] at hr
                  cases hr
                  exact h27_1 (by omega))
                refine WR.call H (Ct.mono (in_spec _ _ _) (R' := fun r _ => r = .bool false) (fun _ _ h => h.trans (congrArg Value.bool (decide_eq_false h27_1)))) rfl (trivial) (Wn.none rfl) rfl ?_
                intro v109 M w H hle hr109
                replace hp := hp.mono hle
                replace hc74 := hc74.mono hle
                replace hc81 := hc81.mono hle
                replace hc97 := hc97.mono hle
                replace hc104 := hc104.mono hle
                obtain rfl := hr109
                refine NL (TN (CF rfl (SK (TN (RG (MV rfl rfl (MV rfl rfl (WR.call H (utf8_spec _) rfl (trivial) (Wn.none rfl) rfl ?_))))))))
                intro v124 M w H hle hr124
                replace hp := hp.mono hle
                replace hc74 := hc74.mono hle
                replace hc81 := hc81.mono hle
                replace hc97 := hc97.mono hle
                replace hc104 := hc104.mono hle
                obtain rfl := hr124
                refine ST (Ex.strAdd rfl rfl (by first | omega | (simp only [List.length_cons, List.length_nil]; omega) | (simp only [List.length_append, List.length_cons, List.length_nil, List.length_drop, List.length_take]; omega))) rfl ?_
                refine AS rfl rfl (NL (IB (TN (RG (MV rfl rfl (WR.stepE (v' := encN (q + 2)) (Ex.add64 rfl rfl (by omega)) rfl (Wn.none rfl) rfl rfl ?_))))))
                refine AS rfl rfl (NL ?_)
                refine WQ.again2 (q + 2) (o ++ utf8 (unit x y)) ⟨rfl, rfl, rfl, trivial⟩ ?_ ?_
                · refine ⟨by omega, by rw [List.length_append]; omega, ?_, M, H, hp⟩
                  rw [hdec, hd, hone]; simp [utf8_unsur hul.1 hul.2]
                · omega
          · have hone : decW (x :: y :: l.drop (q + 2)) = unsur (unit x y) :: decW (l.drop (q + 2)) := decW_one (by
              rintro ⟨_, c', d', r', hr, _⟩
              have := congrArg List.length hr
              rw [List.length_drop] at this
              simp at this
              omega)
            refine PT rfl rfl rfl (NL (TN (CF rfl (SK (TN (RG (MV rfl rfl (MV rfl rfl (WR.call H (utf8_spec _) rfl (trivial) (Wn.none rfl) rfl ?_)))))))))
            intro v124 M w H hle hr124
            replace hp := hp.mono hle
            replace hc74 := hc74.mono hle
            replace hc81 := hc81.mono hle
            obtain rfl := hr124
            refine ST (Ex.strAdd rfl rfl (by first | omega | (simp only [List.length_cons, List.length_nil]; omega) | (simp only [List.length_append, List.length_cons, List.length_nil, List.length_drop, List.length_take]; omega))) rfl ?_
            refine AS rfl rfl (NL (IB (TN (RG (MV rfl rfl (WR.stepE (v' := encN (q + 2)) (Ex.add64 rfl rfl (by omega)) rfl (Wn.none rfl) rfl rfl ?_))))))
            refine AS rfl rfl (NL ?_)
            refine WQ.again2 (q + 2) (o ++ utf8 (unit x y)) ⟨rfl, rfl, rfl, trivial⟩ ?_ ?_
            · refine ⟨by omega, by rw [List.length_append]; omega, ?_, M, H, hp⟩
              rw [hdec, hd, hone]; simp [utf8_unsur hul.1 hul.2]
            · omega
        · have hone : decW (x :: y :: l.drop (q + 2)) = unsur (unit x y) :: decW (l.drop (q + 2)) := decW_one (fun h => h25_1 (by omega))
          refine WR.call H (Ct.mono (in_spec _ _ _) (R' := fun r _ => r = .bool false) (fun _ _ h => h.trans (congrArg Value.bool (decide_eq_false h25_1)))) rfl (trivial) (Wn.none rfl) rfl ?_
          intro v86 M w H hle hr86
          replace hp := hp.mono hle
          replace hc74 := hc74.mono hle
          replace hc81 := hc81.mono hle
          obtain rfl := hr86
          refine MV rfl rfl (GF rfl rfl rfl (GF rfl rfl rfl (GF rfl rfl rfl (GF rfl rfl rfl (GF rfl rfl rfl (PF rfl rfl rfl (NL (TN (CF rfl (SK (TN (RG (MV rfl rfl (MV rfl rfl (WR.call H (utf8_spec _) rfl (trivial) (Wn.none rfl) rfl ?_)))))))))))))))
          intro v124 M w H hle hr124
          replace hp := hp.mono hle
          replace hc74 := hc74.mono hle
          replace hc81 := hc81.mono hle
          obtain rfl := hr124
          refine ST (Ex.strAdd rfl rfl (by first | omega | (simp only [List.length_cons, List.length_nil]; omega) | (simp only [List.length_append, List.length_cons, List.length_nil, List.length_drop, List.length_take]; omega))) rfl ?_
          refine AS rfl rfl (NL (IB (TN (RG (MV rfl rfl (WR.stepE (v' := encN (q + 2)) (Ex.add64 rfl rfl (by omega)) rfl (Wn.none rfl) rfl rfl ?_))))))
          refine AS rfl rfl (NL ?_)
          refine WQ.again2 (q + 2) (o ++ utf8 (unit x y)) ⟨rfl, rfl, rfl, trivial⟩ ?_ ?_
          · refine ⟨by omega, by rw [List.length_append]; omega, ?_, M, H, hp⟩
            rw [hdec, hd, hone]; simp [utf8_unsur hul.1 hul.2]
          · omega
      · first | refine WR.step (Ex.loadM H rfl (by assumption) Tryz.isAgg5) (Wn.none rfl) rfl rfl ?_ | refine WR.step (Ex.load1 H rfl (by repeat (first | exact List.Mem.head _ | apply List.Mem.tail)) Tryz.isAgg5 (by rfl)) (Wn.none rfl) rfl rfl ?_
        refine NA (WA.take (i := 11) rfl (by kernel_rfl) (by kernel_rfl) (by kernel_rfl) (fun _ => Ex.convB Tryz.underlying5 Tryz.underlying3 rfl) (Wn.none rfl) rfl rfl (fun _ _ => rfl) (ON 3 (by kernel_rfl) rfl ?_))
        first | refine WR.step (Ex.loadM H rfl (by assumption) Tryz.isAgg5) (Wn.none rfl) rfl rfl ?_ | refine WR.step (Ex.load1 H rfl (by repeat (first | exact List.Mem.head _ | apply List.Mem.tail)) Tryz.isAgg5 (by rfl)) (Wn.none rfl) rfl rfl ?_
        refine NA (ON 4 (by kernel_rfl) rfl ?_)
        first | refine WR.step (Ex.convB Tryz.underlying5 Tryz.underlying3 rfl) (Wn.none rfl) rfl rfl ?_ | refine WR.step (Ex.convI Tryz.underlying5 Tryz.underlying3 rfl (by omega)) (Wn.none rfl) rfl rfl ?_
        refine NA (ON 5 (by kernel_rfl) rfl (ST (Ex.mul64 rfl rfl (by omega)) rfl ?_))
        refine NA (ON 12 (by kernel_rfl) rfl (WR.stepE (v' := I (unit x y)) (Ex.add64 rfl rfl (by omega)) (congrArg I (by unfold unit; rfl)) (Wn.none rfl) rfl rfl ?_))
        refine NA (ON 13 (by kernel_rfl) rfl (AS rfl rfl (NA (WA.done (by kernel_rfl) (TN (SQ (SQ (RG (MV rfl rfl ?_)))))))))
        by_cases h25_1 : (55296 : Int) ≤ unit x y ∧ unit x y ≤ 56319
        · refine WR.call H (Ct.mono (in_spec _ _ _) (R' := fun r _ => r = .bool true) (fun _ _ h => h.trans (congrArg Value.bool (decide_eq_true h25_1)))) rfl (trivial) (Wn.none rfl) rfl ?_
          intro v86 M w H hle hr86
          replace hp := hp.mono hle
          replace hc74 := hc74.mono hle
          replace hc81 := hc81.mono hle
          obtain rfl := hr86
          refine MV rfl rfl (SG (Ex.move rfl) rfl rfl rfl (SG (Ex.add64 rfl rfl (by omega)) rfl rfl rfl ?_))
          refine SG (Ex.move rfl) rfl rfl rfl ?_
          first | refine WR.step (Ex.lenSl Tryz.underlying30 (by assumption) rfl) (Wn.some rfl rfl rfl) rfl rfl ?_ | refine WR.step (Ex.lenRow Tryz.underlying30 H (by repeat (first | exact List.Mem.head _ | apply List.Mem.tail)) rfl) (Wn.some rfl rfl rfl) rfl rfl ?_ | refine WR.step (Ex.lenSlice Tryz.underlying30 rfl) (Wn.some rfl rfl rfl) rfl rfl ?_
          refine WR.split (Ex.lss rfl rfl) (Wn.some rfl rfl rfl) rfl rfl (fun h25_7 => ?_) (fun h25_7 => ?_)
          · obtain ⟨x2, hx2⟩ : ∃ c, l[q + 2]? = some c := ⟨_, List.getElem?_eq_getElem (by omega)⟩
            have hltx2 := x2.toNat_lt
            obtain ⟨y2, hy2⟩ : ∃ c, l[q + 3]? = some c := ⟨_, List.getElem?_eq_getElem (by omega)⟩
            have hlty2 := y2.toNat_lt
            have hd2 : l.drop (q + 2) = x2 :: y2 :: l.drop (q + 2 + 2) := by
              obtain ⟨e1, e2⟩ := List.getElem?_eq_some_iff.1 hx2
              obtain ⟨e3, e4⟩ := List.getElem?_eq_some_iff.1 hy2
              rw [List.drop_eq_getElem_cons e1, e2, List.drop_eq_getElem_cons e3, e4]
            have hul2 := unit_lt x2 y2
            have hulp := utf8_len (65536 + 1024 * (unit x y - 55296) + unit x2 y2 - 56320)
            refine PT rfl rfl rfl (NL (TN (CT rfl (SQ (WC.draw (m := 15) rfl rfl H ?_)))))
            intro w H
            refine WA.take (i := 0) rfl (by kernel_rfl) (by kernel_rfl) (by kernel_rfl) (fun _ => Ex.move rfl) (Wn.none rfl) rfl rfl (fun _ _ => rfl) (WA.take (i := 1) rfl (by kernel_rfl) (by kernel_rfl) (by kernel_rfl) (fun _ => Ex.move rfl) (Wn.none rfl) rfl rfl (fun _ _ => rfl) (WA.takeE (v' := encN (q + 2)) (i := 2) rfl (by kernel_rfl) (by kernel_rfl) (by kernel_rfl) (fun _ => Ex.add64 rfl rfl (by omega)) rfl (Wn.none rfl) rfl rfl (fun _ _ => rfl) ?_))
            refine WA.takeIdx (i := 3) rfl (by kernel_rfl) (by kernel_rfl) (by kernel_rfl) Tryz.underlying30 Tryz.sizeOf5 (by assumption) rfl rfl (hx2) (Wn.none rfl) rfl ?_
            intro p97 hc97
            refine WA.take (i := 7) rfl (by kernel_rfl) (by kernel_rfl) (by kernel_rfl) (fun _ => Ex.move rfl) (Wn.none rfl) rfl rfl (fun _ _ => rfl) (WA.take (i := 8) rfl (by kernel_rfl) (by kernel_rfl) (by kernel_rfl) (fun _ => Ex.move rfl) (Wn.none rfl) rfl rfl (fun _ _ => rfl) (WA.takeE (v' := encN (q + 3)) (i := 9) rfl (by kernel_rfl) (by kernel_rfl) (by kernel_rfl) (fun _ => Ex.add64 rfl rfl (by omega)) rfl (Wn.none rfl) rfl rfl (fun _ _ => rfl) ?_))
            refine WA.takeIdx (i := 10) rfl (by kernel_rfl) (by kernel_rfl) (by kernel_rfl) Tryz.underlying30 Tryz.sizeOf5 (by assumption) rfl rfl (hy2) (Wn.none rfl) rfl ?_
            intro p104 hc104
            refine WA.two (i := 4) (j := 11) (by kernel_rfl) rfl rfl ?_ ?_
            · first | refine WR.step (Ex.loadM H rfl (by assumption) Tryz.isAgg5) (Wn.none rfl) rfl rfl ?_ | refine WR.step (Ex.load1 H rfl (by repeat (first | exact List.Mem.head _ | apply List.Mem.tail)) Tryz.isAgg5 (by rfl)) (Wn.none rfl) rfl rfl ?_
              refine NA (WA.take (i := 5) rfl (by kernel_rfl) (by kernel_rfl) (by kernel_rfl) (fun _ => Ex.convB Tryz.underlying5 Tryz.underlying3 rfl) (Wn.none rfl) rfl rfl (fun _ _ => rfl) (WA.take (i := 6) rfl (by kernel_rfl) (by kernel_rfl) (by kernel_rfl) (fun _ => Ex.mul64 rfl rfl (by omega)) (Wn.none rfl) rfl rfl (fun _ _ => rfl) ?_))
              refine ON 11 (by kernel_rfl) rfl ?_
              first | refine WR.step (Ex.loadM H rfl (by assumption) Tryz.isAgg5) (Wn.none rfl) rfl rfl ?_ | refine WR.step (Ex.load1 H rfl (by repeat (first | exact List.Mem.head _ | apply List.Mem.tail)) Tryz.isAgg5 (by rfl)) (Wn.none rfl) rfl rfl ?_
              refine NA (ON 12 (by kernel_rfl) rfl ?_)
              first | refine WR.step (Ex.convB Tryz.underlying5 Tryz.underlying3 rfl) (Wn.none rfl) rfl rfl ?_ | refine WR.step (Ex.convI Tryz.underlying5 Tryz.underlying3 rfl (by omega)) (Wn.none rfl) rfl rfl ?_
              refine NA (ON 13 (by kernel_rfl) rfl (WR.stepE (v' := I (unit x2 y2)) (Ex.add64 rfl rfl (by omega)) (congrArg I (by unfold unit; rfl)) (Wn.none rfl) rfl rfl ?_))
              refine NA (ON 14 (by kernel_rfl) rfl (AS rfl rfl (NA (WA.done (by kernel_rfl) (TN (SQ (RG (MV rfl rfl ?_))))))))
              by_cases h27_1 : (56320 : Int) ≤ unit x2 y2 ∧ unit x2 y2 ≤ 57343
              · refine WR.call H (Ct.mono (in_spec _ _ _) (R' := fun r _ => r = .bool true) (fun _ _ h => h.trans (congrArg Value.bool (decide_eq_true h27_1)))) rfl (trivial) (Wn.none rfl) rfl ?_
                intro v109 M w H hle hr109
                replace hp := hp.mono hle
                replace hc74 := hc74.mono hle
                replace hc81 := hc81.mono hle
                replace hc97 := hc97.mono hle
                replace hc104 := hc104.mono hle
                obtain rfl := hr109
                refine NL (TN (CT rfl (SQ (RG (MV rfl rfl (MV rfl rfl (ST (Ex.sub64 rfl rfl (by omega)) rfl ?_)))))))
                refine ST (Ex.mul64 rfl rfl (by omega)) rfl ?_
                refine ST (Ex.add64 rfl rfl (by omega)) rfl ?_
                refine MV rfl rfl (ST (Ex.add64 rfl rfl (by omega)) rfl ?_)
                refine ST (Ex.sub64 rfl rfl (by omega)) rfl ?_
                refine WR.call H (utf8_spec _) rfl (trivial) (Wn.none rfl) rfl ?_
                intro v118 M w H hle hr118
                replace hp := hp.mono hle
                replace hc74 := hc74.mono hle
                replace hc81 := hc81.mono hle
                replace hc97 := hc97.mono hle
                replace hc104 := hc104.mono hle
                obtain rfl := hr118
                refine ST (Ex.strAdd rfl rfl (by first | omega | (simp only [List.length_cons, List.length_nil]; omega) | (simp only [List.length_append, List.length_cons, List.length_nil, List.length_drop, List.length_take]; omega))) rfl ?_
                refine AS rfl rfl (NL (TN (SQ (RG (MV rfl rfl (WR.stepE (v' := encN (q + 2)) (Ex.add64 rfl rfl (by omega)) rfl (Wn.none rfl) rfl rfl ?_))))))
                refine AS rfl rfl (NL (TN (WC.exit (WQ.thenExit (WQ.exitHere (TN (RG (MV rfl rfl (WR.stepE (v' := encN (q + 2 + 2)) (Ex.add64 rfl rfl (by omega)) rfl (Wn.none rfl) rfl rfl ?_)))))))))
                refine AS rfl rfl (NL ?_)
                refine WQ.again2 (q + 2 + 2) (o ++ utf8 (65536 + 1024 * (unit x y - 55296) + unit x2 y2 - 56320)) ⟨rfl, rfl, rfl, trivial⟩ ?_ ?_
                · refine ⟨by omega, by rw [List.length_append]; omega, ?_, M, H, hp⟩
                  rw [hdec, hd, hd2, decW_pair (by omega) (by omega)]; simp
                · omega
              · have hone : decW (x :: y :: l.drop (q + 2)) = unsur (unit x y) :: decW (l.drop (q + 2)) := decW_one (by
                  rintro ⟨_, c', d', r', hr, h3, h4⟩
                  rw [hd2] at hr
                  cases hr
                  exact h27_1 (by omega))
                refine WR.call H (Ct.mono (in_spec _ _ _) (R' := fun r _ => r = .bool false) (fun _ _ h => h.trans (congrArg Value.bool (decide_eq_false h27_1)))) rfl (trivial) (Wn.none rfl) rfl ?_
                intro v109 M w H hle hr109
                replace hp := hp.mono hle
                replace hc74 := hc74.mono hle
                replace hc81 := hc81.mono hle
                replace hc97 := hc97.mono hle
                replace hc104 := hc104.mono hle
                obtain rfl := hr109
                refine NL (TN (CF rfl (SK (TN (RG (MV rfl rfl (MV rfl rfl (WR.call H (utf8_spec _) rfl (trivial) (Wn.none rfl) rfl ?_))))))))
                intro v124 M w H hle hr124
                replace hp := hp.mono hle
                replace hc74 := hc74.mono hle
                replace hc81 := hc81.mono hle
                replace hc97 := hc97.mono hle
                replace hc104 := hc104.mono hle
                obtain rfl := hr124
                refine ST (Ex.strAdd rfl rfl (by first | omega | (simp only [List.length_cons, List.length_nil]; omega) | (simp only [List.length_append, List.length_cons, List.length_nil, List.length_drop, List.length_take]; omega))) rfl ?_
                refine AS rfl rfl (NL (IB (TN (RG (MV rfl rfl (WR.stepE (v' := encN (q + 2)) (Ex.add64 rfl rfl (by omega)) rfl (Wn.none rfl) rfl rfl ?_))))))
                refine AS rfl rfl (NL ?_)
                refine WQ.again2 (q + 2) (o ++ utf8 (unit x y)) ⟨rfl, rfl, rfl, trivial⟩ ?_ ?_
                · refine ⟨by omega, by rw [List.length_append]; omega, ?_, M, H, hp⟩
                  rw [hdec, hd, hone]; simp [utf8_unsur hul.1 hul.2]
                · omega
            · first | refine WR.step (Ex.loadM H rfl (by assumption) Tryz.isAgg5) (Wn.none rfl) rfl rfl ?_ | refine WR.step (Ex.load1 H rfl (by repeat (first | exact List.Mem.head _ | apply List.Mem.tail)) Tryz.isAgg5 (by rfl)) (Wn.none rfl) rfl rfl ?_
              refine NA (WA.take (i := 12) rfl (by kernel_rfl) (by kernel_rfl) (by kernel_rfl) (fun _ => Ex.convB Tryz.underlying5 Tryz.underlying3 rfl) (Wn.none rfl) rfl rfl (fun _ _ => rfl) (ON 4 (by kernel_rfl) rfl ?_))
              first | refine WR.step (Ex.loadM H rfl (by assumption) Tryz.isAgg5) (Wn.none rfl) rfl rfl ?_ | refine WR.step (Ex.load1 H rfl (by repeat (first | exact List.Mem.head _ | apply List.Mem.tail)) Tryz.isAgg5 (by rfl)) (Wn.none rfl) rfl rfl ?_
              refine NA (ON 5 (by kernel_rfl) rfl ?_)
              first | refine WR.step (Ex.convB Tryz.underlying5 Tryz.underlying3 rfl) (Wn.none rfl) rfl rfl ?_ | refine WR.step (Ex.convI Tryz.underlying5 Tryz.underlying3 rfl (by omega)) (Wn.none rfl) rfl rfl ?_
              refine NA (ON 6 (by kernel_rfl) rfl (ST (Ex.mul64 rfl rfl (by omega)) rfl ?_))
              refine NA (ON 13 (by kernel_rfl) rfl (WR.stepE (v' := I (unit x2 y2)) (Ex.add64 rfl rfl (by omega)) (congrArg I (by unfold unit; rfl)) (Wn.none rfl) rfl rfl ?_))
              refine NA (ON 14 (by kernel_rfl) rfl (AS rfl rfl (NA (WA.done (by kernel_rfl) (TN (SQ (RG (MV rfl rfl ?_))))))))
              by_cases h27_1 : (56320 : Int) ≤ unit x2 y2 ∧ unit x2 y2 ≤ 57343
              · refine WR.call H (Ct.mono (in_spec _ _ _) (R' := fun r _ => r = .bool true) (fun _ _ h => h.trans (congrArg Value.bool (decide_eq_true h27_1)))) rfl (trivial) (Wn.none rfl) rfl ?_
                intro v109 M w H hle hr109
                replace hp := hp.mono hle
                replace hc74 := hc74.mono hle
                replace hc81 := hc81.mono hle
                replace hc97 := hc97.mono hle
                replace hc104 := hc104.mono hle
                obtain rfl := hr109
                refine NL (TN (CT rfl (SQ (RG (MV rfl rfl (MV rfl rfl (ST (Ex.sub64 rfl rfl (by omega)) rfl ?_)))))))
                refine ST (Ex.mul64 rfl rfl (by omega)) rfl ?_
                refine ST (Ex.add64 rfl rfl (by omega)) rfl ?_
                refine MV rfl rfl (ST (Ex.add64 rfl rfl (by omega)) rfl ?_)
                refine ST (Ex.sub64 rfl rfl (by omega)) rfl ?_
                refine WR.call H (utf8_spec _) rfl (trivial) (Wn.none rfl) rfl ?_
                intro v118 M w H hle hr118
                replace hp := hp.mono hle
                replace hc74 := hc74.mono hle
                replace hc81 := hc81.mono hle
                replace hc97 := hc97.mono hle
                replace hc104 := hc104.mono hle
                obtain rfl := hr118
                refine ST (Ex.strAdd rfl rfl (by first | omega | (simp only [List.length_cons, List.length_nil]; omega) | (simp only [List.length_append, List.length_cons, List.length_nil, List.length_drop, List.length_take]; omega))) rfl ?_
                refine AS rfl rfl (NL (TN (SQ (RG (MV rfl rfl (WR.stepE (v' := encN (q + 2)) (Ex.add64 rfl rfl (by omega)) rfl (Wn.none rfl) rfl rfl ?_))))))
                refine AS rfl rfl (NL (TN (WC.exit (WQ.thenExit (WQ.exitHere (TN (RG (MV rfl rfl (WR.stepE (v' := encN (q + 2 + 2)) (Ex.add64 rfl rfl (by omega)) rfl (Wn.none rfl) rfl rfl ?_)))))))))
                refine AS rfl rfl (NL ?_)
                refine WQ.again2 (q + 2 + 2) (o ++ utf8 (65536 + 1024 * (unit x y - 55296) + unit x2 y2 - 56320)) ⟨rfl, rfl, rfl, trivial⟩ ?_ ?_
                · refine ⟨by omega, by rw [List.length_append]; omega, ?_, M, H, hp⟩
                  rw [hdec, hd, hd2, decW_pair (by omega) (by omega)]; simp
                · omega
              · have hone : decW (x :: y :: l.drop (q + 2)) = unsur (unit x y) :: decW (l.drop (q + 2)) := decW_one (by
                  rintro ⟨_, c', d', r', hr, h3, h4⟩
                  rw [hd2] at hr
                  cases hr
                  exact h27_1 (by omega))
                refine WR.call H (Ct.mono (in_spec _ _ _) (R' := fun r _ => r = .bool false) (fun _ _ h => h.trans (congrArg Value.bool (decide_eq_false h27_1)))) rfl (trivial) (Wn.none rfl) rfl ?_
                intro v109 M w H hle hr109
                replace hp := hp.mono hle
                replace hc74 := hc74.mono hle
                replace hc81 := hc81.mono hle
                replace hc97 := hc97.mono hle
                replace hc104 := hc104.mono hle
                obtain rfl := hr109
                refine NL (TN (CF rfl (SK (TN (RG (MV rfl rfl (MV rfl rfl (WR.call H (utf8_spec _) rfl (trivial) (Wn.none rfl) rfl ?_))))))))
                intro v124 M w H hle hr124
                replace hp := hp.mono hle
                replace hc74 := hc74.mono hle
                replace hc81 := hc81.mono hle
                replace hc97 := hc97.mono hle
                replace hc104 := hc104.mono hle
                obtain rfl := hr124
                refine ST (Ex.strAdd rfl rfl (by first | omega | (simp only [List.length_cons, List.length_nil]; omega) | (simp only [List.length_append, List.length_cons, List.length_nil, List.length_drop, List.length_take]; omega))) rfl ?_
                refine AS rfl rfl (NL (IB (TN (RG (MV rfl rfl (WR.stepE (v' := encN (q + 2)) (Ex.add64 rfl rfl (by omega)) rfl (Wn.none rfl) rfl rfl ?_))))))
                refine AS rfl rfl (NL ?_)
                refine WQ.again2 (q + 2) (o ++ utf8 (unit x y)) ⟨rfl, rfl, rfl, trivial⟩ ?_ ?_
                · refine ⟨by omega, by rw [List.length_append]; omega, ?_, M, H, hp⟩
                  rw [hdec, hd, hone]; simp [utf8_unsur hul.1 hul.2]
                · omega
          · have hone : decW (x :: y :: l.drop (q + 2)) = unsur (unit x y) :: decW (l.drop (q + 2)) := decW_one (by
              rintro ⟨_, c', d', r', hr, _⟩
              have := congrArg List.length hr
              rw [List.length_drop] at this
              simp at this
              omega)
            refine PT rfl rfl rfl (NL (TN (CF rfl (SK (TN (RG (MV rfl rfl (MV rfl rfl (WR.call H (utf8_spec _) rfl (trivial) (Wn.none rfl) rfl ?_)))))))))
            intro v124 M w H hle hr124
            replace hp := hp.mono hle
            replace hc74 := hc74.mono hle
            replace hc81 := hc81.mono hle
            obtain rfl := hr124
            refine ST (Ex.strAdd rfl rfl (by first | omega | (simp only [List.length_cons, List.length_nil]; omega) | (simp only [List.length_append, List.length_cons, List.length_nil, List.length_drop, List.length_take]; omega))) rfl ?_
            refine AS rfl rfl (NL (IB (TN (RG (MV rfl rfl (WR.stepE (v' := encN (q + 2)) (Ex.add64 rfl rfl (by omega)) rfl (Wn.none rfl) rfl rfl ?_))))))
            refine AS rfl rfl (NL ?_)
            refine WQ.again2 (q + 2) (o ++ utf8 (unit x y)) ⟨rfl, rfl, rfl, trivial⟩ ?_ ?_
            · refine ⟨by omega, by rw [List.length_append]; omega, ?_, M, H, hp⟩
              rw [hdec, hd, hone]; simp [utf8_unsur hul.1 hul.2]
            · omega
        · have hone : decW (x :: y :: l.drop (q + 2)) = unsur (unit x y) :: decW (l.drop (q + 2)) := decW_one (fun h => h25_1 (by omega))
          refine WR.call H (Ct.mono (in_spec _ _ _) (R' := fun r _ => r = .bool false) (fun _ _ h => h.trans (congrArg Value.bool (decide_eq_false h25_1)))) rfl (trivial) (Wn.none rfl) rfl ?_
          intro v86 M w H hle hr86
          replace hp := hp.mono hle
          replace hc74 := hc74.mono hle
          replace hc81 := hc81.mono hle
          obtain rfl := hr86
          refine MV rfl rfl (GF rfl rfl rfl (GF rfl rfl rfl (GF rfl rfl rfl (GF rfl rfl rfl (GF rfl rfl rfl (PF rfl rfl rfl (NL (TN (CF rfl (SK (TN (RG (MV rfl rfl (MV rfl rfl (WR.call H (utf8_spec _) rfl (trivial) (Wn.none rfl) rfl ?_)))))))))))))))
          intro v124 M w H hle hr124
          replace hp := hp.mono hle
          replace hc74 := hc74.mono hle
          replace hc81 := hc81.mono hle
          obtain rfl := hr124
          refine ST (Ex.strAdd rfl rfl (by first | omega | (simp only [List.length_cons, List.length_nil]; omega) | (simp only [List.length_append, List.length_cons, List.length_nil, List.length_drop, List.length_take]; omega))) rfl ?_
          refine AS rfl rfl (NL (IB (TN (RG (MV rfl rfl (WR.stepE (v' := encN (q + 2)) (Ex.add64 rfl rfl (by omega)) rfl (Wn.none rfl) rfl rfl ?_))))))
          refine AS rfl rfl (NL ?_)
          refine WQ.again2 (q + 2) (o ++ utf8 (unit x y)) ⟨rfl, rfl, rfl, trivial⟩ ?_ ?_
          · refine ⟨by omega, by rw [List.length_append]; omega, ?_, M, H, hp⟩
            rw [hdec, hd, hone]; simp [utf8_unsur hul.1 hul.2]
          · omega
  · have hr : (decW l).flatMap utf8 = o := by rw [hdec, List.drop_eq_nil_of_le (by omega)]; simp [decW]
    refine NL (TN (CF rfl (WC.exit (WQ.thenExit (WQ.thenExit (WQ.exitHere (IB (TN (SQ (RG (MV rfl rfl (AS rfl rfl (NL (TN (RT ?_)))))))))))))))
    refine WQ.ret1 rfl rfl H.ext ?_
    exact by rw [← hr]; rfl
theorem decoded_spec_k (v : Value) (l : List UInt8) (hs : l.length ≤ 1048576) (k : Nat) (hk : k < 4) : Ct Tryz.prog 101 [I (k : Int), v] (fun M => Bs M v l) (fun r _ => r = S (decoded k l)) := by
  rcases k with _ | _ | _ | _ | k
  · exact decoded_0 v l hs
  · exact decoded_1 v l hs
  · exact decoded_2 v l hs
  · exact decoded_3 v l hs
  · omega
def bestN (l : List UInt8) : List UInt8 := setN.getD (bestK l) []
theorem best_spec (l : List UInt8) : Ct Tryz.prog 41 [S l] (fun _ => True) (fun r _ => r = S (bestN l)) := by
  refine Ct.of Tryz.func41 (enters Tryz.func41 (by kernel_rfl) rfl) rfl rfl rfl ?_
  intro w0 M0 H hp
  refine SQ (RG (AS rfl rfl (NL (TN (SQ (RG (AS rfl rfl (NL (TN (SQ (SQ (RG (MV rfl rfl (WR.rangeStr H Tryz.underlying9 rfl (Wn.none rfl) rfl ?_))))))))))))))
  intro b7 w H
  refine NL (TN (BL (WC.loop2 (fun (q : Nat) (seen : Bool) => [(3, S (if seen then [108, 97, 116, 105, 110, 49] else [97, 115, 99, 105, 105])), (7, ptr b7 0)]) (fun (q : Nat) (seen : Bool) w => q ≤ l.length ∧ (chars l).any (fun c : Ch => decide (255 < fix0 c.1)) = (chars (l.drop q)).any (fun c : Ch => decide (255 < fix0 c.1)) ∧ (chars l).any (fun c : Ch => decide (127 < fix0 c.1)) = (seen || (chars (l.drop q)).any (fun c : Ch => decide (127 < fix0 c.1))) ∧ ∃ M, St w0 M0 M [.blk b7 (.stringIter ⟨l.toArray⟩ q)] w) (fun (q : Nat) (seen : Bool) => l.length - q) (0) (false) ⟨rfl, rfl, trivial⟩ (⟨by omega, rfl, rfl, M0, H⟩) ?_)))
  intro q seen w
  rintro ⟨hq, h255, h127, M, H⟩
  refine SQ (RG ?_)
  by_cases h3_0 : q < l.length
  · have hne := drop_ne (t := l) (n := q) h3_0
    have hrs := rune_size (l.drop q)
    have hrs3 := hrs.2.2 hne
    rw [List.length_drop] at hrs3
    have hch : chars (l.drop q) = ((rune (l.drop q)).1, (l.drop q).take (rune (l.drop q)).2) :: chars (l.drop (q + (rune (l.drop q)).2)) := by rw [chars_cons hne, List.drop_drop]
    refine WR.nextT H h3_0 rfl (by repeat first | exact .head | apply Upd.tail) (Wn.none rfl) rfl ?_
    intro w H
    refine ST (Ex.extract rfl rfl) rfl (NL (TN (SQ (CT rfl (SK (TN (BL (SQ (RG (WR.stepE (v' := encR (fix0 (rune (l.drop q)).1)) (Ex.extract rfl rfl) (congrArg encR (dr_fix0 _)) (Wn.none rfl) rfl rfl (AS rfl rfl (NL (TN (BL (SQ (RG (MV rfl rfl ?_)))))))))))))))))
    refine WR.split (Ex.gtr rfl rfl) (Wn.none rfl) rfl rfl (fun h5_1 => ?_) (fun h5_1 => ?_)
    · have hr : bestK l = 2 := by unfold bestK; rw [h255, hch, List.any_cons, decide_eq_true (by omega)]; rfl
      refine AS rfl rfl (NL (TN (CT rfl (SQ (RG (AS rfl rfl (NL (TN (RT ?_)))))))))
      refine WQ.ret1 rfl rfl H.ext ?_
      exact by unfold bestN; rw [hr]; rfl
    · refine AS rfl rfl (NL (TN (CF rfl (SQ (RG (MV rfl rfl ?_))))))
      refine WR.split (Ex.gtr rfl rfl) (Wn.none rfl) rfl rfl (fun h7_1 => ?_) (fun h7_1 => ?_)
      · refine AS rfl rfl (NL (TN (CT rfl (RG (AS rfl rfl (NL (IB (IB ?_))))))))
        refine WQ.again2 (q + (dr (l.drop q)).2) (true) ⟨rfl, rfl, trivial⟩ ?_ ?_
        · refine ⟨by rw [dr_size]; omega, ?_, ?_, M, H⟩
          · rw [h255, hch, dr_size, List.any_cons, decide_eq_false (by omega), Bool.false_or]
          · rw [h127, hch, dr_size, List.any_cons, decide_eq_true (by omega)]; simp
        · rw [dr_size]; omega
      · refine AS rfl rfl (NL (TN (CF rfl (SK (IB (IB ?_))))))
        refine WQ.again2 (q + (dr (l.drop q)).2) (seen) ⟨rfl, rfl, trivial⟩ ?_ ?_
        · refine ⟨by rw [dr_size]; omega, ?_, ?_, M, H⟩
          · rw [h255, hch, dr_size, List.any_cons, decide_eq_false (by omega), Bool.false_or]
          · rw [h127, hch, dr_size, List.any_cons, decide_eq_false (by omega)]; simp
        · rw [dr_size]; omega
  · have hr : bestK l = if seen then 1 else 0 := by
      unfold bestK
      rw [h255, h127, List.drop_eq_nil_of_le (by omega), chars_nil]
      simp
    refine WR.nextF H (Nat.le_of_not_lt h3_0) rfl (by repeat (first | exact List.Mem.head _ | apply List.Mem.tail)) (Wn.none rfl) rfl ?_
    refine ST (Ex.extract rfl rfl) rfl (NL (TN (SQ (CF rfl (WC.exit (WQ.thenExit (WQ.thenExit (WQ.exitHere (TN (SQ (RG (MV rfl rfl (AS rfl rfl (NL (TN (RT ?_))))))))))))))))
    refine WQ.ret1 rfl rfl H.ext ?_
    exact by unfold bestN; rw [hr]; cases seen <;> rfl
end Go.Proofs.YtogkmhjnojphiaaGreatDoor
end
section
set_option linter.unusedVariables false
set_option linter.unusedSimpArgs false
namespace Go.Proofs.YtogkmhjnojphiaaGreatDoor
open Go Go.RowKit Go.Ph
open Go.Ph.Gr Go.Ph.Utf Go.Ph.Chs
abbrev encPostP (k : Nat) (l : List UInt8) (r : Value) (M : Mem) : Prop := match encGo (encK k) (chars l) 0 with | .ok b => ∃ v, r = .tuple #[v, fault 0 0] ∧ Bs M v b | .error e => r = .tuple #[.slice none 0 0, fault 17 (e : Int)]
theorem encode_k (name l : List UInt8) (hn : name.length ≤ maxLen) (hs : l.length ≤ 12000) (k : Nat) (hk : setOf name = some k) (hv : vld l = true) : Ct Tryz.prog 84 [S name, S l] (fun M => Tabs M) (fun r M => encPostP k l r M) := by
  have h4 := setOf_lt hk
  rcases k with _ | _ | _ | _ | k
  · exact encode_0 name l hn hs hk hv
  · exact encode_1 name l hn hs hk hv
  · exact encode_2 name l hn hs hk hv
  · exact encode_3 name l hn hs hk hv
  · omega
theorem encode_ok {name l b : List UInt8} (hn : name.length ≤ maxLen) (hs : l.length ≤ 12000) {k : Nat} (hk : setOf name = some k) (hv : vld l = true) (h : encGo (encK k) (chars l) 0 = .ok b) : Ct Tryz.prog 84 [S name, S l] (fun M => Tabs M) (fun r M => ∃ v, r = .tuple #[v, fault 0 0] ∧ Bs M v b) :=
  Ct.mono (encode_k name l hn hs k hk hv) fun r M hr => by unfold encPostP at hr; rw [h] at hr; exact hr
theorem encode_err {name l : List UInt8} {e : Nat} (hn : name.length ≤ maxLen) (hs : l.length ≤ 12000) {k : Nat} (hk : setOf name = some k) (hv : vld l = true) (h : encGo (encK k) (chars l) 0 = .error e) : Ct Tryz.prog 84 [S name, S l] (fun M => Tabs M) (fun r M => r = .tuple #[.slice none 0 0, fault 17 (e : Int)]) :=
  Ct.mono (encode_k name l hn hs k hk hv) fun r M hr => by unfold encPostP at hr; rw [h] at hr; exact hr
theorem encode_mal (name l : List UInt8) (hn : name.length ≤ maxLen) (hs : l.length ≤ 12000) (k : Nat) (hk : setOf name = some k) (hv : vld l = false) : Ct Tryz.prog 84 [S name, S l] (fun M => Tabs M) (fun r _ => r = .tuple #[.slice none 0 0, fault 5 (-3)]) := by
  have h4 := setOf_lt hk
  rcases k with _ | _ | _ | _ | k
  · exact encode_mal0 name l hn hs hk hv
  · exact encode_mal1 name l hn hs hk hv
  · exact encode_mal2 name l hn hs hk hv
  · exact encode_mal3 name l hn hs hk hv
  · omega
end Go.Proofs.YtogkmhjnojphiaaGreatDoor
end
