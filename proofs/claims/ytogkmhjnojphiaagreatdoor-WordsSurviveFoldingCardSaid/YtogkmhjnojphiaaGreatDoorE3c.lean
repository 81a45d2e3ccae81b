/-
  Vst, Sts, Fnd, Cod, Rdc, Ren, B64Plain, Ref, Dec, Grp: own texts of this repository (wip/tpl, wip/plans), merged and shaken by wip/tools/pack.py.
-/
import Derived.KernelRfl
import Derived.Test.YtogkmhjnojphiaaGreatDoorE3b
set_option maxRecDepth 100000
section
set_option linter.unusedVariables false
set_option linter.unusedSimpArgs false
namespace Go.Proofs.YtogkmhjnojphiaaGreatDoor
open Go Go.RowKit Go.Ph
open Go.Ph.Gr Go.Ph.Utf Go.Ph.Chs
theorem word_spec (l : List UInt8) (hl : 8 ≤ l.length) : Ct Tryz.prog 78 [S l] (fun _ => True) (fun r _ => r = .int .u64 ((w8 l : Nat) : Int)) := by
  refine Ct.of Tryz.func78 (enters Tryz.func78 (by kernel_rfl) rfl) rfl rfl rfl ?_
  intro w0 M0 H hp
  obtain ⟨b0, hb0⟩ : ∃ u, l[0]? = some u := ⟨_, List.getElem?_eq_getElem (by omega)⟩
  have hlt0 := b0.toNat_lt
  have hn0 := nat_of hb0
  obtain ⟨b1, hb1⟩ : ∃ u, l[1]? = some u := ⟨_, List.getElem?_eq_getElem (by omega)⟩
  have hlt1 := b1.toNat_lt
  have hn1 := nat_of hb1
  obtain ⟨b2, hb2⟩ : ∃ u, l[2]? = some u := ⟨_, List.getElem?_eq_getElem (by omega)⟩
  have hlt2 := b2.toNat_lt
  have hn2 := nat_of hb2
  obtain ⟨b3, hb3⟩ : ∃ u, l[3]? = some u := ⟨_, List.getElem?_eq_getElem (by omega)⟩
  have hlt3 := b3.toNat_lt
  have hn3 := nat_of hb3
  obtain ⟨b4, hb4⟩ : ∃ u, l[4]? = some u := ⟨_, List.getElem?_eq_getElem (by omega)⟩
  have hlt4 := b4.toNat_lt
  have hn4 := nat_of hb4
  obtain ⟨b5, hb5⟩ : ∃ u, l[5]? = some u := ⟨_, List.getElem?_eq_getElem (by omega)⟩
  have hlt5 := b5.toNat_lt
  have hn5 := nat_of hb5
  obtain ⟨b6, hb6⟩ : ∃ u, l[6]? = some u := ⟨_, List.getElem?_eq_getElem (by omega)⟩
  have hlt6 := b6.toNat_lt
  have hn6 := nat_of hb6
  obtain ⟨b7, hb7⟩ : ∃ u, l[7]? = some u := ⟨_, List.getElem?_eq_getElem (by omega)⟩
  have hlt7 := b7.toNat_lt
  have hn7 := nat_of hb7
  have hw0 : b0.toNat < 2 ^ 64 := by omega
  have hs1 := shl64 (b := b1.toNat) (k := 8) hlt1 (by decide)
  have hw1 : b0.toNat ||| b1.toNat <<< 8 < 2 ^ 64 := Nat.or_lt_two_pow hw0 hs1.1
  have hs2 := shl64 (b := b2.toNat) (k := 16) hlt2 (by decide)
  have hw2 : b0.toNat ||| b1.toNat <<< 8 ||| b2.toNat <<< 16 < 2 ^ 64 := Nat.or_lt_two_pow hw1 hs2.1
  have hs3 := shl64 (b := b3.toNat) (k := 24) hlt3 (by decide)
  have hw3 : b0.toNat ||| b1.toNat <<< 8 ||| b2.toNat <<< 16 ||| b3.toNat <<< 24 < 2 ^ 64 := Nat.or_lt_two_pow hw2 hs3.1
  have hs4 := shl64 (b := b4.toNat) (k := 32) hlt4 (by decide)
  have hw4 : b0.toNat ||| b1.toNat <<< 8 ||| b2.toNat <<< 16 ||| b3.toNat <<< 24 ||| b4.toNat <<< 32 < 2 ^ 64 := Nat.or_lt_two_pow hw3 hs4.1
  have hs5 := shl64 (b := b5.toNat) (k := 40) hlt5 (by decide)
  have hw5 : b0.toNat ||| b1.toNat <<< 8 ||| b2.toNat <<< 16 ||| b3.toNat <<< 24 ||| b4.toNat <<< 32 ||| b5.toNat <<< 40 < 2 ^ 64 := Nat.or_lt_two_pow hw4 hs5.1
  have hs6 := shl64 (b := b6.toNat) (k := 48) hlt6 (by decide)
  have hw6 : b0.toNat ||| b1.toNat <<< 8 ||| b2.toNat <<< 16 ||| b3.toNat <<< 24 ||| b4.toNat <<< 32 ||| b5.toNat <<< 40 ||| b6.toNat <<< 48 < 2 ^ 64 := Nat.or_lt_two_pow hw5 hs6.1
  have hs7 := shl64 (b := b7.toNat) (k := 56) hlt7 (by decide)
  have hw7 : b0.toNat ||| b1.toNat <<< 8 ||| b2.toNat <<< 16 ||| b3.toNat <<< 24 ||| b4.toNat <<< 32 ||| b5.toNat <<< 40 ||| b6.toNat <<< 48 ||| b7.toNat <<< 56 < 2 ^ 64 := Nat.or_lt_two_pow hw6 hs7.1
  refine SQ (RG (AS rfl rfl (NL (TN (SQ (CF rfl (SK (TN (SQ (WC.draw (m := 39) rfl rfl H ?_))))))))))
  intro w H
  refine WA.take (i := 0) rfl (by kernel_rfl) (by kernel_rfl) (by kernel_rfl) (fun _ => Ex.move rfl) (Wn.none rfl) rfl rfl (fun _ _ => rfl) (WA.take (i := 1) rfl (by kernel_rfl) (by kernel_rfl) (by kernel_rfl) (fun _ => Ex.idxStr Tryz.underlying9 rfl rfl (hb0)) (Wn.none rfl) rfl rfl (fun _ _ => rfl) (WA.take (i := 2) rfl (by kernel_rfl) (by kernel_rfl) (by kernel_rfl) (fun _ => Ex.convU64 Tryz.underlying5 Tryz.underlying151 rfl (by omega)) (Wn.none rfl) rfl rfl (fun _ _ => rfl) ?_))
  refine WA.take (i := 3) rfl (by kernel_rfl) (by kernel_rfl) (by kernel_rfl) (fun _ => Ex.move rfl) (Wn.none rfl) rfl rfl (fun _ _ => rfl) (WA.take (i := 4) rfl (by kernel_rfl) (by kernel_rfl) (by kernel_rfl) (fun _ => Ex.idxStr Tryz.underlying9 rfl rfl (hb1)) (Wn.none rfl) rfl rfl (fun _ _ => rfl) (WA.take (i := 5) rfl (by kernel_rfl) (by kernel_rfl) (by kernel_rfl) (fun _ => Ex.convU64 Tryz.underlying5 Tryz.underlying151 rfl (by omega)) (Wn.none rfl) rfl rfl (fun _ _ => rfl) ?_))
  refine WA.takeE (v' := .int .u64 ((b1.toNat <<< 8 : Nat) : Int)) (i := 6) rfl (by kernel_rfl) (by kernel_rfl) (by kernel_rfl) (fun _ => Ex.shlK (m := b1.toNat) (s := 8) rfl rfl (by decide)) (congrArg (Value.int .u64) hs1.2) (Wn.none rfl) rfl rfl (fun _ _ => rfl) (WA.takeE (v' := .int .u64 ((b0.toNat ||| b1.toNat <<< 8 : Nat) : Int)) (i := 7) rfl (by kernel_rfl) (by kernel_rfl) (by kernel_rfl) (fun _ => Ex.orK (m := (b0.toNat)) (s := (b1.toNat <<< 8)) rfl rfl hw0 hs1.1) (congrArg (Value.int .u64) (or64 hw0 hs1.1)) (Wn.none rfl) rfl rfl (fun _ _ => rfl) (WA.take (i := 8) rfl (by kernel_rfl) (by kernel_rfl) (by kernel_rfl) (fun _ => Ex.move rfl) (Wn.none rfl) rfl rfl (fun _ _ => rfl) (WA.take (i := 9) rfl (by kernel_rfl) (by kernel_rfl) (by kernel_rfl) (fun _ => Ex.idxStr Tryz.underlying9 rfl rfl (hb2)) (Wn.none rfl) rfl rfl (fun _ _ => rfl) (WA.take (i := 10) rfl (by kernel_rfl) (by kernel_rfl) (by kernel_rfl) (fun _ => Ex.convU64 Tryz.underlying5 Tryz.underlying151 rfl (by omega)) (Wn.none rfl) rfl rfl (fun _ _ => rfl) ?_))))
  refine WA.takeE (v' := .int .u64 ((b2.toNat <<< 16 : Nat) : Int)) (i := 11) rfl (by kernel_rfl) (by kernel_rfl) (by kernel_rfl) (fun _ => Ex.shlK (m := b2.toNat) (s := 16) rfl rfl (by decide)) (congrArg (Value.int .u64) hs2.2) (Wn.none rfl) rfl rfl (fun _ _ => rfl) (WA.takeE (v' := .int .u64 ((b0.toNat ||| b1.toNat <<< 8 ||| b2.toNat <<< 16 : Nat) : Int)) (i := 12) rfl (by kernel_rfl) (by kernel_rfl) (by kernel_rfl) (fun _ => Ex.orK (m := (b0.toNat ||| b1.toNat <<< 8)) (s := (b2.toNat <<< 16)) rfl rfl hw1 hs2.1) (congrArg (Value.int .u64) (or64 hw1 hs2.1)) (Wn.none rfl) rfl rfl (fun _ _ => rfl) (WA.take (i := 13) rfl (by kernel_rfl) (by kernel_rfl) (by kernel_rfl) (fun _ => Ex.move rfl) (Wn.none rfl) rfl rfl (fun _ _ => rfl) (WA.take (i := 14) rfl (by kernel_rfl) (by kernel_rfl) (by kernel_rfl) (fun _ => Ex.idxStr Tryz.underlying9 rfl rfl (hb3)) (Wn.none rfl) rfl rfl (fun _ _ => rfl) (WA.take (i := 15) rfl (by kernel_rfl) (by kernel_rfl) (by kernel_rfl) (fun _ => Ex.convU64 Tryz.underlying5 Tryz.underlying151 rfl (by omega)) (Wn.none rfl) rfl rfl (fun _ _ => rfl) ?_))))
  refine WA.takeE (v' := .int .u64 ((b3.toNat <<< 24 : Nat) : Int)) (i := 16) rfl (by kernel_rfl) (by kernel_rfl) (by kernel_rfl) (fun _ => Ex.shlK (m := b3.toNat) (s := 24) rfl rfl (by decide)) (congrArg (Value.int .u64) hs3.2) (Wn.none rfl) rfl rfl (fun _ _ => rfl) (WA.takeE (v' := .int .u64 ((b0.toNat ||| b1.toNat <<< 8 ||| b2.toNat <<< 16 ||| b3.toNat <<< 24 : Nat) : Int)) (i := 17) rfl (by kernel_rfl) (by kernel_rfl) (by kernel_rfl) (fun _ => Ex.orK (m := (b0.toNat ||| b1.toNat <<< 8 ||| b2.toNat <<< 16)) (s := (b3.toNat <<< 24)) rfl rfl hw2 hs3.1) (congrArg (Value.int .u64) (or64 hw2 hs3.1)) (Wn.none rfl) rfl rfl (fun _ _ => rfl) (WA.take (i := 18) rfl (by kernel_rfl) (by kernel_rfl) (by kernel_rfl) (fun _ => Ex.move rfl) (Wn.none rfl) rfl rfl (fun _ _ => rfl) (WA.take (i := 19) rfl (by kernel_rfl) (by kernel_rfl) (by kernel_rfl) (fun _ => Ex.idxStr Tryz.underlying9 rfl rfl (hb4)) (Wn.none rfl) rfl rfl (fun _ _ => rfl) ?_)))
  refine WA.take (i := 20) rfl (by kernel_rfl) (by kernel_rfl) (by kernel_rfl) (fun _ => Ex.convU64 Tryz.underlying5 Tryz.underlying151 rfl (by omega)) (Wn.none rfl) rfl rfl (fun _ _ => rfl) ?_
  refine WA.takeE (v' := .int .u64 ((b4.toNat <<< 32 : Nat) : Int)) (i := 21) rfl (by kernel_rfl) (by kernel_rfl) (by kernel_rfl) (fun _ => Ex.shlK (m := b4.toNat) (s := 32) rfl rfl (by decide)) (congrArg (Value.int .u64) hs4.2) (Wn.none rfl) rfl rfl (fun _ _ => rfl) (WA.takeE (v' := .int .u64 ((b0.toNat ||| b1.toNat <<< 8 ||| b2.toNat <<< 16 ||| b3.toNat <<< 24 ||| b4.toNat <<< 32 : Nat) : Int)) (i := 22) rfl (by kernel_rfl) (by kernel_rfl) (by kernel_rfl) (fun _ => Ex.orK (m := (b0.toNat ||| b1.toNat <<< 8 ||| b2.toNat <<< 16 ||| b3.toNat <<< 24)) (s := (b4.toNat <<< 32)) rfl rfl hw3 hs4.1) (congrArg (Value.int .u64) (or64 hw3 hs4.1)) (Wn.none rfl) rfl rfl (fun _ _ => rfl) (WA.take (i := 23) rfl (by kernel_rfl) (by kernel_rfl) (by kernel_rfl) (fun _ => Ex.move rfl) (Wn.none rfl) rfl rfl (fun _ _ => rfl) (WA.take (i := 24) rfl (by kernel_rfl) (by kernel_rfl) (by kernel_rfl) (fun _ => Ex.idxStr Tryz.underlying9 rfl rfl (hb5)) (Wn.none rfl) rfl rfl (fun _ _ => rfl) ?_)))
  refine WA.take (i := 25) rfl (by kernel_rfl) (by kernel_rfl) (by kernel_rfl) (fun _ => Ex.convU64 Tryz.underlying5 Tryz.underlying151 rfl (by omega)) (Wn.none rfl) rfl rfl (fun _ _ => rfl) ?_
  refine WA.takeE (v' := .int .u64 ((b5.toNat <<< 40 : Nat) : Int)) (i := 26) rfl (by kernel_rfl) (by kernel_rfl) (by kernel_rfl) (fun _ => Ex.shlK (m := b5.toNat) (s := 40) rfl rfl (by decide)) (congrArg (Value.int .u64) hs5.2) (Wn.none rfl) rfl rfl (fun _ _ => rfl) (WA.takeE (v' := .int .u64 ((b0.toNat ||| b1.toNat <<< 8 ||| b2.toNat <<< 16 ||| b3.toNat <<< 24 ||| b4.toNat <<< 32 ||| b5.toNat <<< 40 : Nat) : Int)) (i := 27) rfl (by kernel_rfl) (by kernel_rfl) (by kernel_rfl) (fun _ => Ex.orK (m := (b0.toNat ||| b1.toNat <<< 8 ||| b2.toNat <<< 16 ||| b3.toNat <<< 24 ||| b4.toNat <<< 32)) (s := (b5.toNat <<< 40)) rfl rfl hw4 hs5.1) (congrArg (Value.int .u64) (or64 hw4 hs5.1)) (Wn.none rfl) rfl rfl (fun _ _ => rfl) (WA.take (i := 28) rfl (by kernel_rfl) (by kernel_rfl) (by kernel_rfl) (fun _ => Ex.move rfl) (Wn.none rfl) rfl rfl (fun _ _ => rfl) (WA.take (i := 29) rfl (by kernel_rfl) (by kernel_rfl) (by kernel_rfl) (fun _ => Ex.idxStr Tryz.underlying9 rfl rfl (hb6)) (Wn.none rfl) rfl rfl (fun _ _ => rfl) ?_)))
  refine WA.take (i := 30) rfl (by kernel_rfl) (by kernel_rfl) (by kernel_rfl) (fun _ => Ex.convU64 Tryz.underlying5 Tryz.underlying151 rfl (by omega)) (Wn.none rfl) rfl rfl (fun _ _ => rfl) ?_
  refine WA.takeE (v' := .int .u64 ((b6.toNat <<< 48 : Nat) : Int)) (i := 31) rfl (by kernel_rfl) (by kernel_rfl) (by kernel_rfl) (fun _ => Ex.shlK (m := b6.toNat) (s := 48) rfl rfl (by decide)) (congrArg (Value.int .u64) hs6.2) (Wn.none rfl) rfl rfl (fun _ _ => rfl) (WA.takeE (v' := .int .u64 ((b0.toNat ||| b1.toNat <<< 8 ||| b2.toNat <<< 16 ||| b3.toNat <<< 24 ||| b4.toNat <<< 32 ||| b5.toNat <<< 40 ||| b6.toNat <<< 48 : Nat) : Int)) (i := 32) rfl (by kernel_rfl) (by kernel_rfl) (by kernel_rfl) (fun _ => Ex.orK (m := (b0.toNat ||| b1.toNat <<< 8 ||| b2.toNat <<< 16 ||| b3.toNat <<< 24 ||| b4.toNat <<< 32 ||| b5.toNat <<< 40)) (s := (b6.toNat <<< 48)) rfl rfl hw5 hs6.1) (congrArg (Value.int .u64) (or64 hw5 hs6.1)) (Wn.none rfl) rfl rfl (fun _ _ => rfl) (ON 33 (by kernel_rfl) rfl (MV rfl rfl (NA (ON 34 (by kernel_rfl) rfl (ST (Ex.idxStr Tryz.underlying9 rfl rfl (hb7)) rfl (NA (ON 35 (by kernel_rfl) rfl ?_))))))))
  refine ST (Ex.convU64 Tryz.underlying5 Tryz.underlying151 rfl (by omega)) rfl ?_
  refine NA (ON 36 (by kernel_rfl) rfl (WR.stepE (v' := .int .u64 ((b7.toNat <<< 56 : Nat) : Int)) (Ex.shlK (m := b7.toNat) (s := 56) rfl rfl (by decide)) (congrArg (Value.int .u64) hs7.2) (Wn.none rfl) rfl rfl (NA (ON 37 (by kernel_rfl) rfl (WR.stepE (v' := .int .u64 ((b0.toNat ||| b1.toNat <<< 8 ||| b2.toNat <<< 16 ||| b3.toNat <<< 24 ||| b4.toNat <<< 32 ||| b5.toNat <<< 40 ||| b6.toNat <<< 48 ||| b7.toNat <<< 56 : Nat) : Int)) (Ex.orK (m := (b0.toNat ||| b1.toNat <<< 8 ||| b2.toNat <<< 16 ||| b3.toNat <<< 24 ||| b4.toNat <<< 32 ||| b5.toNat <<< 40 ||| b6.toNat <<< 48)) (s := (b7.toNat <<< 56)) rfl rfl hw6 hs7.1) (congrArg (Value.int .u64) (or64 hw6 hs7.1)) (Wn.none rfl) rfl rfl (NA (ON 38 (by kernel_rfl) rfl (AS rfl rfl (NA (WA.done (by kernel_rfl) (TN (RT ?_))))))))))))
  refine WQ.ret1 rfl rfl H.ext ?_
  exact by unfold w8; rw [hn0, hn1, hn2, hn3, hn4, hn5, hn6, hn7]
theorem tab_acc {w : World} (h : Lib.Utf8Tabs 0 1 w) {ai lo hi : Nat} (ha : ai < 16) (hlo : Lib.accLo ai = lo) (hhi : Lib.accHi ai = hi) : ∀ j u, ([.int .u8 ((lo : Nat) : Int), .int .u8 ((hi : Nat) : Int)] : List Value)[j]? = some u → w.cell? ⟨1, 2 * ai + j, none⟩ = some u := by
  obtain ⟨h1, h2⟩ := h.2 ai ha
  rw [hlo] at h1
  rw [hhi] at h2
  intro j u hj
  rcases j with _ | _ | j
  · cases hj; exact h1
  · cases hj; exact h2
  · simp at hj
theorem validString_spec (l : List UInt8) (hs : l.length ≤ 4611686018427387904) : Ct Tryz.prog 38 [S l] (fun M => Tabs M) (fun r _ => r = .bool (vld l)) := by
  refine Ct.of Tryz.func38 (enters Tryz.func38 (by kernel_rfl) rfl) rfl rfl rfl ?_
  intro w0 M0 H hp
  refine SQ (RG (AS rfl rfl (NL (TN (SQ (BL (WC.loop1 (fun (t : List UInt8) => [(0, S t)]) (fun (t : List UInt8) w => t.length ≤ l.length ∧ vld l = vld t ∧ ∃ M, St w0 M0 M [] w ∧ Tabs M) (fun (t : List UInt8) => t.length) (l) ⟨rfl, trivial⟩ (⟨Nat.le_refl _, rfl, M0, H, hp⟩) ?_)))))))
  intro t w
  rintro ⟨htl, hv, M, H, hp⟩
  refine SQ (SQ (RG (MV rfl rfl (ST (Ex.lenStr Tryz.underlying9 rfl) rfl ?_))))
  refine WR.split (Ex.gtr rfl rfl) (Wn.none rfl) rfl rfl (fun h1_2 => ?_) (fun h1_2 => ?_)
  · have hne : t ≠ [] := by rintro rfl; simp at h1_2
    obtain ⟨c, hc⟩ : ∃ c, t[0]? = some c := ⟨_, List.getElem?_eq_getElem (by omega)⟩
    have hcn := nat_of hc
    have hclt := c.toNat_lt
    refine NL (TN (CT rfl (SK (TN (BL (SQ (RG (MV rfl rfl (ST (Ex.idxStr Tryz.underlying9 rfl rfl (hc)) rfl (AS rfl rfl (NL (TN (SQ (SQ (RG (MV rfl rfl ?_))))))))))))))))
    refine WR.split (Ex.lss rfl rfl) (Wn.none rfl) rfl rfl (fun h3_1 => ?_) (fun h3_1 => ?_)
    · have hc128 : nat t 0 < 128 := by omega
      refine NL (TN (CT rfl (SQ (RG (MV rfl rfl (WR.stepE (v' := S (t.drop 1)) (Ex.sliceStr (i := 1) (j := t.length) Tryz.underlying9 rfl (.inl ⟨_, rfl, rfl⟩) (.inr ⟨rfl, rfl⟩) (by omega) (by omega)) (by rw [List.take_length]) (Wn.none rfl) rfl rfl ?_))))))
      refine AS rfl rfl (NL (TN (SQ (SQ (RG ?_)))))
      obtain ⟨u, hu⟩ : ∃ u, u = t.drop 1 := ⟨_, rfl⟩
      rw [← hu]
      have hv1 := vld_ascii hne hc128
      rw [← hu] at hv1
      have hul : u.length = t.length - 1 := by rw [hu, List.length_drop]
      refine MV rfl rfl (ST (Ex.lenStr Tryz.underlying9 rfl) rfl ?_)
      refine WR.split (Ex.gtr rfl rfl) (Wn.none rfl) rfl rfl (fun h5_2 => ?_) (fun h5_2 => ?_)
      · refine MV rfl rfl (SG (Ex.move rfl) rfl rfl rfl (WR.call H (word_spec u (by omega)) rfl (trivial) (Wn.some rfl rfl rfl) rfl ?_))
        intro v21 M w H hle hr21
        replace hp := hp.mono hle
        obtain rfl := hr21
        refine WR.stepE (v' := .int .u64 ((w8 u) &&& 9259542123273814144 : Nat)) (Ex.andK (m := (w8 u)) (s := 9259542123273814144) rfl rfl (w8_lt u) (by decide)) (congrArg (Value.int .u64) (and64 (w8_lt u))) (Wn.some rfl rfl rfl) rfl rfl ?_
        refine WR.split (Ex.eql rfl rfl) (Wn.some rfl rfl rfl) rfl rfl (fun h5_7 => ?_) (fun h5_7 => ?_)
        · have h8 : ∀ i, i < 8 → nat u i < 128 := w8_small (x := 0) (by rw [Nat.or_zero]; omega)
          have hv8 := vld_asciis 8 u (by omega) h8
          refine PT rfl rfl rfl (NL (TN (CT rfl (SQ (RG (MV rfl rfl (WR.stepE (v' := S (u.drop 8)) (Ex.sliceStr (i := 8) (j := u.length) Tryz.underlying9 rfl (.inl ⟨_, rfl, rfl⟩) (.inr ⟨rfl, rfl⟩) (by omega) (by omega)) (by rw [List.take_length]) (Wn.none rfl) rfl rfl ?_)))))))
          obtain ⟨u2, hu2⟩ : ∃ u2, u2 = u.drop 8 := ⟨_, rfl⟩
          rw [← hu2]
          have hul2 : u2.length = u.length - 8 := by rw [hu2, List.length_drop]
          refine AS rfl rfl (NL (TN (SQ (WC.draw (m := 13) rfl rfl H ?_))))
          intro w H
          refine ON 0 (by kernel_rfl) rfl (MV rfl rfl (NA (ON 1 (by kernel_rfl) rfl (ST (Ex.lenStr Tryz.underlying9 rfl) rfl (NA (ON 2 (by kernel_rfl) rfl ?_))))))
          refine WR.split (Ex.gtr rfl rfl) (Wn.none rfl) rfl rfl (fun h7_2 => ?_) (fun h7_2 => ?_)
          · refine NA (ON 3 (by kernel_rfl) rfl (MV rfl rfl (NA (WA.take (i := 4) rfl (by kernel_rfl) (by kernel_rfl) (by kernel_rfl) (fun _ => Ex.move rfl) (Wn.some rfl rfl rfl) rfl rfl (fun _ _ => rfl) (WA.take (i := 6) rfl (by kernel_rfl) (by kernel_rfl) (by kernel_rfl) (fun _ => Ex.move rfl) (Wn.some rfl rfl rfl) rfl rfl (fun _ _ => rfl) (WA.takeE (v' := S (u2.drop 8)) (i := 7) rfl (by kernel_rfl) (by kernel_rfl) (by kernel_rfl) (fun _ => Ex.sliceStr (i := 8) (j := u2.length) Tryz.underlying9 rfl (.inl ⟨_, rfl, rfl⟩) (.inr ⟨rfl, rfl⟩) (by omega) (by omega)) (by rw [List.take_length]) (Wn.some rfl rfl rfl) rfl rfl (fun _ _ => rfl) ?_))))))
            refine ON 5 (by kernel_rfl) rfl (WR.call H (word_spec u2 (by omega)) rfl (trivial) (Wn.some rfl rfl rfl) rfl ?_)
            intro v32 M w H hle hr32
            replace hp := hp.mono hle
            obtain rfl := hr32
            refine NA (ON 8 (by kernel_rfl) rfl (WR.call H (word_spec (u2.drop 8) (by rw [List.length_drop]; omega)) rfl (trivial) (Wn.some rfl rfl rfl) rfl ?_))
            intro v35 M w H hle hr35
            replace hp := hp.mono hle
            obtain rfl := hr35
            refine NA (ON 9 (by kernel_rfl) rfl (WR.stepE (v' := .int .u64 ((w8 u2) ||| (w8 (u2.drop 8)) : Nat)) (Ex.orK (m := (w8 u2)) (s := (w8 (u2.drop 8))) rfl rfl (w8_lt u2) (w8_lt (u2.drop 8))) (congrArg (Value.int .u64) (or64 (w8_lt u2) (w8_lt (u2.drop 8)))) (Wn.some rfl rfl rfl) rfl rfl (NA (ON 10 (by kernel_rfl) rfl (WR.stepE (v' := .int .u64 ((w8 u2 ||| w8 (u2.drop 8)) &&& 9259542123273814144 : Nat)) (Ex.andK (m := (w8 u2 ||| w8 (u2.drop 8))) (s := 9259542123273814144) rfl rfl (Nat.or_lt_two_pow (w8_lt u2) (w8_lt (u2.drop 8))) (by decide)) (congrArg (Value.int .u64) (and64 (Nat.or_lt_two_pow (w8_lt u2) (w8_lt (u2.drop 8))))) (Wn.some rfl rfl rfl) rfl rfl (NA (ON 11 (by kernel_rfl) rfl ?_)))))))
            refine WR.split (Ex.eql rfl rfl) (Wn.some rfl rfl rfl) rfl rfl (fun h7_11 => ?_) (fun h7_11 => ?_)
            · have ha := w8_small (l := u2) (x := w8 (u2.drop 8)) (by omega)
              have hb := w8_small (l := u2.drop 8) (x := w8 u2) (by rw [Nat.or_comm]; omega)
              have hv16 := (vld_asciis 8 u2 (by omega) ha).trans (vld_asciis 8 (u2.drop 8) (by rw [List.length_drop]; omega) hb)
              rw [List.drop_drop] at hv16
              refine NA (ON 12 (by kernel_rfl) rfl (PT rfl rfl rfl (NA (WA.done (by kernel_rfl) (TN (CT rfl (SQ (RG (MV rfl rfl (WR.stepE (v' := S (u2.drop 16)) (Ex.sliceStr (i := 16) (j := u2.length) Tryz.underlying9 rfl (.inl ⟨_, rfl, rfl⟩) (.inr ⟨rfl, rfl⟩) (by omega) (by omega)) (by rw [List.take_length]) (Wn.none rfl) rfl rfl ?_))))))))))
              refine AS rfl rfl (NL (TN (BL (WC.loop1 (fun (x : List UInt8) => [(0, S x)]) (fun (x : List UInt8) w => x.length < t.length ∧ vld l = vld x ∧ ∃ M, St w0 M0 M [] w ∧ Tabs M) (fun (x : List UInt8) => x.length) (u2.drop 16) ⟨rfl, trivial⟩ (⟨by rw [List.length_drop, hu2, hu, List.length_drop, List.length_drop]; omega, by rw [hv, hv1, hv8, ← hu2, hv16], M, H, hp⟩) ?_))))
              intro x w
              rintro ⟨hxt, hvx, M, H, hp⟩
              refine SQ (SQ (WC.draw (m := 21) rfl rfl H ?_))
              intro w H
              refine ON 0 (by kernel_rfl) rfl (MV rfl rfl (NA (ON 1 (by kernel_rfl) rfl (ST (Ex.lenStr Tryz.underlying9 rfl) rfl (NA (ON 2 (by kernel_rfl) rfl ?_))))))
              refine WR.split (Ex.gtr rfl rfl) (Wn.none rfl) rfl rfl (fun h9_2 => ?_) (fun h9_2 => ?_)
              · refine NA (ON 3 (by kernel_rfl) rfl (MV rfl rfl (NA (WA.take (i := 4) rfl (by kernel_rfl) (by kernel_rfl) (by kernel_rfl) (fun _ => Ex.move rfl) (Wn.some rfl rfl rfl) rfl rfl (fun _ _ => rfl) (WA.take (i := 6) rfl (by kernel_rfl) (by kernel_rfl) (by kernel_rfl) (fun _ => Ex.move rfl) (Wn.some rfl rfl rfl) rfl rfl (fun _ _ => rfl) (WA.takeE (v' := S (x.drop 8)) (i := 7) rfl (by kernel_rfl) (by kernel_rfl) (by kernel_rfl) (fun _ => Ex.sliceStr (i := 8) (j := x.length) Tryz.underlying9 rfl (.inl ⟨_, rfl, rfl⟩) (.inr ⟨rfl, rfl⟩) (by omega) (by omega)) (by rw [List.take_length]) (Wn.some rfl rfl rfl) rfl rfl (fun _ _ => rfl) ?_))))))
                refine WA.take (i := 10) rfl (by kernel_rfl) (by kernel_rfl) (by kernel_rfl) (fun _ => Ex.move rfl) (Wn.some rfl rfl rfl) rfl rfl (fun _ _ => rfl) (WA.takeE (v' := S (x.drop 16)) (i := 11) rfl (by kernel_rfl) (by kernel_rfl) (by kernel_rfl) (fun _ => Ex.sliceStr (i := 16) (j := x.length) Tryz.underlying9 rfl (.inl ⟨_, rfl, rfl⟩) (.inr ⟨rfl, rfl⟩) (by omega) (by omega)) (by rw [List.take_length]) (Wn.some rfl rfl rfl) rfl rfl (fun _ _ => rfl) ?_)
                refine WA.take (i := 13) rfl (by kernel_rfl) (by kernel_rfl) (by kernel_rfl) (fun _ => Ex.move rfl) (Wn.some rfl rfl rfl) rfl rfl (fun _ _ => rfl) (WA.takeE (v' := S (x.drop 24)) (i := 14) rfl (by kernel_rfl) (by kernel_rfl) (by kernel_rfl) (fun _ => Ex.sliceStr (i := 24) (j := x.length) Tryz.underlying9 rfl (.inl ⟨_, rfl, rfl⟩) (.inr ⟨rfl, rfl⟩) (by omega) (by omega)) (by rw [List.take_length]) (Wn.some rfl rfl rfl) rfl rfl (fun _ _ => rfl) ?_)
                refine ON 5 (by kernel_rfl) rfl (WR.call H (word_spec x (by omega)) rfl (trivial) (Wn.some rfl rfl rfl) rfl ?_)
                intro v47 M w H hle hr47
                replace hp := hp.mono hle
                obtain rfl := hr47
                refine NA (ON 8 (by kernel_rfl) rfl (WR.call H (word_spec (x.drop 8) (by rw [List.length_drop]; omega)) rfl (trivial) (Wn.some rfl rfl rfl) rfl ?_))
                intro v50 M w H hle hr50
                replace hp := hp.mono hle
                obtain rfl := hr50
                refine NA (WA.takeE (v' := .int .u64 ((w8 x) ||| (w8 (x.drop 8)) : Nat)) (i := 9) rfl (by kernel_rfl) (by kernel_rfl) (by kernel_rfl) (fun _ => Ex.orK (m := (w8 x)) (s := (w8 (x.drop 8))) rfl rfl (w8_lt x) (w8_lt (x.drop 8))) (congrArg (Value.int .u64) (or64 (w8_lt x) (w8_lt (x.drop 8)))) (Wn.some rfl rfl rfl) rfl rfl (fun _ _ => rfl) (ON 12 (by kernel_rfl) rfl (WR.call H (word_spec (x.drop 16) (by rw [List.length_drop]; omega)) rfl (trivial) (Wn.some rfl rfl rfl) rfl ?_)))
                intro v54 M w H hle hr54
                replace hp := hp.mono hle
                obtain rfl := hr54
                refine NA (ON 15 (by kernel_rfl) rfl (WR.call H (word_spec (x.drop 24) (by rw [List.length_drop]; omega)) rfl (trivial) (Wn.some rfl rfl rfl) rfl ?_))
                intro v57 M w H hle hr57
                replace hp := hp.mono hle
                obtain rfl := hr57
                refine NA (ON 16 (by kernel_rfl) rfl (WR.stepE (v' := .int .u64 ((w8 (x.drop 16)) ||| (w8 (x.drop 24)) : Nat)) (Ex.orK (m := (w8 (x.drop 16))) (s := (w8 (x.drop 24))) rfl rfl (w8_lt (x.drop 16)) (w8_lt (x.drop 24))) (congrArg (Value.int .u64) (or64 (w8_lt (x.drop 16)) (w8_lt (x.drop 24)))) (Wn.some rfl rfl rfl) rfl rfl (NA (ON 17 (by kernel_rfl) rfl (WR.stepE (v' := .int .u64 ((w8 x ||| w8 (x.drop 8)) ||| (w8 (x.drop 16) ||| w8 (x.drop 24)) : Nat)) (Ex.orK (m := (w8 x ||| w8 (x.drop 8))) (s := (w8 (x.drop 16) ||| w8 (x.drop 24))) rfl rfl (Nat.or_lt_two_pow (w8_lt x) (w8_lt (x.drop 8))) (Nat.or_lt_two_pow (w8_lt (x.drop 16)) (w8_lt (x.drop 24)))) (congrArg (Value.int .u64) (or64 (Nat.or_lt_two_pow (w8_lt x) (w8_lt (x.drop 8))) (Nat.or_lt_two_pow (w8_lt (x.drop 16)) (w8_lt (x.drop 24))))) (Wn.some rfl rfl rfl) rfl rfl (NA (ON 18 (by kernel_rfl) rfl (WR.stepE (v' := .int .u64 (((w8 x ||| w8 (x.drop 8)) ||| (w8 (x.drop 16) ||| w8 (x.drop 24))) &&& 9259542123273814144 : Nat)) (Ex.andK (m := ((w8 x ||| w8 (x.drop 8)) ||| (w8 (x.drop 16) ||| w8 (x.drop 24)))) (s := 9259542123273814144) rfl rfl (Nat.or_lt_two_pow (Nat.or_lt_two_pow (w8_lt x) (w8_lt (x.drop 8))) (Nat.or_lt_two_pow (w8_lt (x.drop 16)) (w8_lt (x.drop 24)))) (by decide)) (congrArg (Value.int .u64) (and64 (Nat.or_lt_two_pow (Nat.or_lt_two_pow (w8_lt x) (w8_lt (x.drop 8))) (Nat.or_lt_two_pow (w8_lt (x.drop 16)) (w8_lt (x.drop 24)))))) (Wn.some rfl rfl rfl) rfl rfl ?_))))))))
                refine NA (ON 19 (by kernel_rfl) rfl ?_)
                refine WR.split (Ex.eql rfl rfl) (Wn.some rfl rfl rfl) rfl rfl (fun h9_19 => ?_) (fun h9_19 => ?_)
                · have h1 := w8_small (l := x) (x := w8 (x.drop 8) ||| (w8 (x.drop 16) ||| w8 (x.drop 24))) (by rw [← Nat.or_assoc]; omega)
                  have h2 := w8_small (l := x.drop 8) (x := w8 x ||| (w8 (x.drop 16) ||| w8 (x.drop 24))) (by rw [← Nat.or_assoc, Nat.or_comm (w8 (x.drop 8))]; omega)
                  have h3 := w8_small (l := x.drop 16) (x := w8 (x.drop 24) ||| (w8 x ||| w8 (x.drop 8))) (by rw [← Nat.or_assoc, Nat.or_comm (w8 (x.drop 16) ||| w8 (x.drop 24))]; omega)
                  have h4 := w8_small (l := x.drop 24) (x := w8 (x.drop 16) ||| (w8 x ||| w8 (x.drop 8))) (by rw [← Nat.or_assoc, Nat.or_comm (w8 (x.drop 24)), Nat.or_comm (w8 (x.drop 16) ||| w8 (x.drop 24))]; omega)
                  have hv32 := vld_32 (by omega) h1 h2 h3 h4
                  refine NA (ON 20 (by kernel_rfl) rfl (PT rfl rfl rfl (NA (WA.done (by kernel_rfl) (TN (CT rfl (SK (TN (BL (RG (MV rfl rfl (WR.stepE (v' := S (x.drop 32)) (Ex.sliceStr (i := 32) (j := x.length) Tryz.underlying9 rfl (.inl ⟨_, rfl, rfl⟩) (.inr ⟨rfl, rfl⟩) (by omega) (by omega)) (by rw [List.take_length]) (Wn.none rfl) rfl rfl ?_))))))))))))
                  refine AS rfl rfl (NL (IB ?_))
                  refine WQ.again1 (x.drop 32) ⟨rfl, trivial⟩ ?_ ?_
                  · exact ⟨by rw [List.length_drop]; omega, hvx.trans hv32, M, H, hp⟩
                  · rw [List.length_drop]; omega
                · refine NA (ON 20 (by kernel_rfl) rfl (PT rfl rfl rfl (NA (WA.done (by kernel_rfl) (TN (CF rfl (WC.exit (WQ.thenExit (WQ.thenExit (WQ.exitHere (TN (WC.exit (WQ.thenExit (WQ.exitHere ?_))))))))))))))
                  refine WQ.again1 (x) ⟨rfl, trivial⟩ ?_ ?_
                  · exact ⟨by omega, hvx, M, H.drop (List.nil_sublist _), hp⟩
                  · omega
              · refine NA (ON 3 (by kernel_rfl) rfl (MV rfl rfl (NA (WA.takeN (i := 4) rfl (by kernel_rfl) (by kernel_rfl) (by kernel_rfl) (wanted_g (b := false) rfl rfl rfl) rfl rfl (fun _ _ => rfl) (WA.takeN (i := 6) rfl (by kernel_rfl) (by kernel_rfl) (by kernel_rfl) (wanted_g (b := false) rfl rfl rfl) rfl rfl (fun _ _ => rfl) (WA.takeN (i := 7) rfl (by kernel_rfl) (by kernel_rfl) (by kernel_rfl) (wanted_g (b := false) rfl rfl rfl) rfl rfl (fun _ _ => rfl) (WA.takeN (i := 10) rfl (by kernel_rfl) (by kernel_rfl) (by kernel_rfl) (wanted_g (b := false) rfl rfl rfl) rfl rfl (fun _ _ => rfl) (WA.takeN (i := 11) rfl (by kernel_rfl) (by kernel_rfl) (by kernel_rfl) (wanted_g (b := false) rfl rfl rfl) rfl rfl (fun _ _ => rfl) (WA.takeN (i := 13) rfl (by kernel_rfl) (by kernel_rfl) (by kernel_rfl) (wanted_g (b := false) rfl rfl rfl) rfl rfl (fun _ _ => rfl) (WA.takeN (i := 14) rfl (by kernel_rfl) (by kernel_rfl) (by kernel_rfl) (wanted_g (b := false) rfl rfl rfl) rfl rfl (fun _ _ => rfl) ?_))))))))))
                refine ON 5 (by kernel_rfl) rfl (GF rfl rfl rfl (NA (ON 8 (by kernel_rfl) rfl (GF rfl rfl rfl (NA (WA.takeN (i := 9) rfl (by kernel_rfl) (by kernel_rfl) (by kernel_rfl) (wanted_g (b := false) rfl rfl rfl) rfl rfl (fun _ _ => rfl) (ON 12 (by kernel_rfl) rfl (GF rfl rfl rfl (NA (ON 15 (by kernel_rfl) rfl (GF rfl rfl rfl (NA (ON 16 (by kernel_rfl) rfl (GF rfl rfl rfl (NA (ON 17 (by kernel_rfl) rfl (GF rfl rfl rfl (NA (ON 18 (by kernel_rfl) rfl (GF rfl rfl rfl (NA (ON 19 (by kernel_rfl) rfl (GF rfl rfl rfl (NA (ON 20 (by kernel_rfl) rfl (PF rfl rfl rfl (NA (WA.done (by kernel_rfl) (TN (CF rfl (WC.exit (WQ.thenExit (WQ.thenExit (WQ.exitHere (TN (WC.exit (WQ.thenExit (WQ.exitHere ?_))))))))))))))))))))))))))))))))))))))
                refine WQ.again1 (x) ⟨rfl, trivial⟩ ?_ ?_
                · exact ⟨by omega, hvx, M, H.drop (List.nil_sublist _), hp⟩
                · omega
            · refine NA (ON 12 (by kernel_rfl) rfl (PT rfl rfl rfl (NA (WA.done (by kernel_rfl) (TN (CF rfl (SK (TN (WC.exit (WQ.thenExit (WQ.exitHere ?_)))))))))))
              refine WQ.again1 (u2) ⟨rfl, trivial⟩ ?_ ?_
              · exact ⟨by rw [hu2, hu, List.length_drop, List.length_drop]; omega, (by rw [hv, hv1, hv8, ← hu2]), M, H.drop (List.nil_sublist _), hp⟩
              · rw [hu2, hu, List.length_drop, List.length_drop]; omega
          · refine NA (ON 3 (by kernel_rfl) rfl (MV rfl rfl (NA (WA.takeN (i := 4) rfl (by kernel_rfl) (by kernel_rfl) (by kernel_rfl) (wanted_g (b := false) rfl rfl rfl) rfl rfl (fun _ _ => rfl) (WA.takeN (i := 6) rfl (by kernel_rfl) (by kernel_rfl) (by kernel_rfl) (wanted_g (b := false) rfl rfl rfl) rfl rfl (fun _ _ => rfl) (WA.takeN (i := 7) rfl (by kernel_rfl) (by kernel_rfl) (by kernel_rfl) (wanted_g (b := false) rfl rfl rfl) rfl rfl (fun _ _ => rfl) (ON 5 (by kernel_rfl) rfl (GF rfl rfl rfl (NA (ON 8 (by kernel_rfl) rfl (GF rfl rfl rfl (NA (ON 9 (by kernel_rfl) rfl (GF rfl rfl rfl (NA (ON 10 (by kernel_rfl) rfl (GF rfl rfl rfl (NA (ON 11 (by kernel_rfl) rfl (GF rfl rfl rfl (NA (ON 12 (by kernel_rfl) rfl (PF rfl rfl rfl (NA (WA.done (by kernel_rfl) (TN (CF rfl (SK (TN (WC.exit (WQ.thenExit (WQ.exitHere ?_))))))))))))))))))))))))))))))))
            refine WQ.again1 (u2) ⟨rfl, trivial⟩ ?_ ?_
            · exact ⟨by rw [hu2, hu, List.length_drop, List.length_drop]; omega, (by rw [hv, hv1, hv8, ← hu2]), M, H.drop (List.nil_sublist _), hp⟩
            · rw [hu2, hu, List.length_drop, List.length_drop]; omega
        · refine PT rfl rfl rfl (NL (TN (CF rfl (SK (TN (WC.exit (WQ.thenExit (WQ.exitHere ?_))))))))
          refine WQ.again1 (u) ⟨rfl, trivial⟩ ?_ ?_
          · exact ⟨by rw [hu, List.length_drop]; omega, (by rw [hv, hv1]), M, H.drop (List.nil_sublist _), hp⟩
          · rw [hu, List.length_drop]; omega
      · refine MV rfl rfl (GF rfl rfl rfl (GF rfl rfl rfl (GF rfl rfl rfl (GF rfl rfl rfl (PF rfl rfl rfl (NL (TN (CF rfl (SK (TN (WC.exit (WQ.thenExit (WQ.exitHere ?_)))))))))))))
        refine WQ.again1 (u) ⟨rfl, trivial⟩ ?_ ?_
        · exact ⟨by rw [hu, List.length_drop]; omega, (by rw [hv, hv1]), M, H.drop (List.nil_sublist _), hp⟩
        · rw [hu, List.length_drop]; omega
    · obtain ⟨sz, ai, lo, hi, hF, hsz, hai, hai16, hlo, hhi, hlo2, hhi2, hszs, hc1, hc2, hc3, hc4⟩ := first_facts c.toNat (by omega) (by omega)
      refine NL (TN (CF rfl (SK (TN (SQ (RG (MV rfl rfl (WR.stepE (v' := ptr 0 c.toNat) (Ex.idxArr Tryz.underlying98 Tryz.sizeOf5 rfl rfl (by omega)) (by rw [Nat.zero_add, Nat.mul_one]) (Wn.none rfl) rfl rfl ?_))))))))
      refine ST (Ex.loadCell rfl ((hp _ H.ag).1 c.toNat (by omega)) Tryz.isAgg5) rfl ?_
      refine AS rfl rfl (NL (TN (SQ (RG (MV rfl rfl (WR.stepE (v' := .int .u8 ((sz : Nat) : Int)) (Ex.andK (m := (Lib.firstT c.toNat)) (s := 7) rfl rfl (by show _ < 256; omega) (by decide)) (congrArg (Value.int .u8) (by rw [hsz]; exact u8_in (by omega))) (Wn.none rfl) rfl rfl ?_))))))
      first | refine WR.step (Ex.convB Tryz.underlying5 Tryz.underlying3 rfl) (Wn.none rfl) rfl rfl ?_ | refine WR.step (Ex.convI Tryz.underlying5 Tryz.underlying3 rfl (by omega)) (Wn.none rfl) rfl rfl ?_
      refine AS rfl rfl (NL (TN (SQ (RG (MV rfl rfl (WR.stepE (v' := .int .u8 ((ai : Nat) : Int)) (Ex.shrN (m := (Lib.firstT c.toNat)) (s := 4) rfl rfl (by first | (show _ ≤ 64; omega) | (show _ ≤ 8; omega) | decide)) (congrArg (Value.int .u8) (by rw [hai])) (Wn.none rfl) rfl rfl ?_))))))
      refine WR.stepE (v' := ptr 1 (2 * ai)) (Ex.idxArr Tryz.underlying101 Tryz.sizeOf100 rfl rfl (by omega)) (by rw [Nat.zero_add, Nat.mul_comm]) (Wn.none rfl) rfl rfl ?_
      refine ST (Ex.loadAggW (cs := [.int .u8 ((lo : Nat) : Int), .int .u8 ((hi : Nat) : Int)]) rfl (tab_acc (hp _ H.ag) hai16 hlo hhi) Tryz.isAgg100 Tryz.sizeOf100 rfl) rfl (WR.alloc [_, _] H Tryz.zeroValue100 rfl (Wn.none rfl) rfl ?_)
      intro b6 w H
      refine WR.store [_, _] H rfl rfl rfl (by repeat first | exact .head | apply Upd.tail) Tryz.sizeOf100 rfl (by rfl) (by rfl) (Wn.none rfl) ?_
      intro w H
      refine NL (TN (SQ (RG (MV rfl rfl (NL (TN (BL (SQ (RG ?_)))))))))
      refine WR.split (Ex.eql rfl rfl) (Wn.none rfl) rfl rfl (fun h16_0 => ?_) (fun h16_0 => ?_)
      · obtain ⟨hq1, hq2, hq3, hq4⟩ := hc2 (by omega)
        have hm := multi2 (t := t) (by rw [hcn]; exact ⟨hq1, hq2⟩)
        subst hq3 hq4
        refine AS rfl rfl (NL (TN (CT rfl (SQ (SQ (WC.draw (m := 17) rfl rfl H ?_))))))
        intro w H
        refine ON 0 (by kernel_rfl) rfl (MV rfl rfl (NA (ON 1 (by kernel_rfl) rfl (ST (Ex.lenStr Tryz.underlying9 rfl) rfl (NA (ON 2 (by kernel_rfl) rfl ?_))))))
        refine WR.split (Ex.lss rfl rfl) (Wn.none rfl) rfl rfl (fun h17_2 => ?_) (fun h17_2 => ?_)
        · have hbad := vld_bad hne (hm.2 (by omega))
          refine NA (ON 3 (by kernel_rfl) rfl (MV rfl rfl (NA (WA.takeN (i := 4) rfl (by kernel_rfl) (by kernel_rfl) (by kernel_rfl) (wanted_g (b := true) rfl rfl rfl) rfl rfl (fun _ _ => rfl) (WA.takeN (i := 5) rfl (by kernel_rfl) (by kernel_rfl) (by kernel_rfl) (wanted_g (b := true) rfl rfl rfl) rfl rfl (fun _ _ => rfl) (ON 6 (by kernel_rfl) rfl (GT rfl rfl rfl (NA (ON 7 (by kernel_rfl) rfl (GT rfl rfl rfl (NA (ON 8 (by kernel_rfl) rfl (GT rfl rfl rfl (NA (ON 9 (by kernel_rfl) rfl (PT rfl rfl rfl (NA (ON 10 (by kernel_rfl) rfl (MV rfl rfl (NA (WA.takeN (i := 11) rfl (by kernel_rfl) (by kernel_rfl) (by kernel_rfl) (wanted_g (b := true) rfl rfl rfl) rfl rfl (fun _ _ => rfl) (WA.takeN (i := 12) rfl (by kernel_rfl) (by kernel_rfl) (by kernel_rfl) (wanted_g (b := true) rfl rfl rfl) rfl rfl (fun _ _ => rfl) (ON 13 (by kernel_rfl) rfl (GT rfl rfl rfl (NA (ON 14 (by kernel_rfl) rfl (GT rfl rfl rfl ?_)))))))))))))))))))))))))))
          refine NA (ON 15 (by kernel_rfl) rfl (GT rfl rfl rfl (NA (ON 16 (by kernel_rfl) rfl (PT rfl rfl rfl (NA (WA.done (by kernel_rfl) (TN (CT rfl (SQ (RG (AS rfl rfl (NL (TN (RT ?_)))))))))))))))
          refine WQ.ret1 rfl rfl H.ext ?_
          exact by rw [hv, hbad]
        · obtain ⟨x1, hx1⟩ : ∃ x, t[1]? = some x := ⟨_, List.getElem?_eq_getElem (by omega)⟩
          have hnx1 := nat_of hx1
          have hxl1 := x1.toNat_lt
          refine NA (ON 3 (by kernel_rfl) rfl (MV rfl rfl (NA (WA.take (i := 4) rfl (by kernel_rfl) (by kernel_rfl) (by kernel_rfl) (fun _ => Ex.move rfl) (Wn.some rfl rfl rfl) rfl rfl (fun _ _ => rfl) (WA.take (i := 5) rfl (by kernel_rfl) (by kernel_rfl) (by kernel_rfl) (fun _ => Ex.idxStr Tryz.underlying9 rfl rfl (hx1)) (Wn.some rfl rfl rfl) rfl rfl (fun _ _ => rfl) (ON 6 (by kernel_rfl) rfl (SG (Ex.fieldAddr Tryz.underlying100 rfl Tryz.sizeOf5 (by decide) rfl) rfl rfl rfl (NA (ON 7 (by kernel_rfl) rfl ?_)))))))))
          first | refine WR.step (Ex.loadM H rfl (by assumption) Tryz.isAgg5) (Wn.some rfl rfl rfl) rfl rfl ?_ | refine WR.step (Ex.load1 H rfl (by repeat (first | exact List.Mem.head _ | apply List.Mem.tail)) Tryz.isAgg5 (by rfl)) (Wn.some rfl rfl rfl) rfl rfl ?_
          refine NA (ON 8 (by kernel_rfl) rfl ?_)
          refine WR.split (Ex.lss rfl rfl) (Wn.some rfl rfl rfl) rfl rfl (fun h17_8 => ?_) (fun h17_8 => ?_)
          · have hbad := vld_bad hne (hm.2 (by omega))
            refine NA (ON 9 (by kernel_rfl) rfl (PF rfl rfl rfl (NA (ON 10 (by kernel_rfl) rfl (MV rfl rfl (NA (WA.takeN (i := 11) rfl (by kernel_rfl) (by kernel_rfl) (by kernel_rfl) (wanted_g (b := true) rfl rfl rfl) rfl rfl (fun _ _ => rfl) (WA.takeN (i := 12) rfl (by kernel_rfl) (by kernel_rfl) (by kernel_rfl) (wanted_g (b := true) rfl rfl rfl) rfl rfl (fun _ _ => rfl) (ON 13 (by kernel_rfl) rfl (GT rfl rfl rfl (NA (ON 14 (by kernel_rfl) rfl (GT rfl rfl rfl (NA (ON 15 (by kernel_rfl) rfl (GT rfl rfl rfl (NA (ON 16 (by kernel_rfl) rfl (PT rfl rfl rfl (NA (WA.done (by kernel_rfl) (TN (CT rfl (SQ (RG (AS rfl rfl (NL (TN (RT ?_)))))))))))))))))))))))))))))
            refine WQ.ret1 rfl rfl H.ext ?_
            exact by rw [hv, hbad]
          · refine NA (ON 9 (by kernel_rfl) rfl (PF rfl rfl rfl (NA (ON 10 (by kernel_rfl) rfl (MV rfl rfl (NA (WA.take (i := 11) rfl (by kernel_rfl) (by kernel_rfl) (by kernel_rfl) (fun _ => Ex.fieldAddr Tryz.underlying100 rfl Tryz.sizeOf5 (by decide) rfl) (Wn.some rfl rfl rfl) rfl rfl (fun _ _ => rfl) (WA.take (i := 13) rfl (by kernel_rfl) (by kernel_rfl) (by kernel_rfl) (fun _ => Ex.move rfl) (Wn.some rfl rfl rfl) rfl rfl (fun _ _ => rfl) (WA.take (i := 14) rfl (by kernel_rfl) (by kernel_rfl) (by kernel_rfl) (fun _ => Ex.idxStr Tryz.underlying9 rfl rfl (hx1)) (Wn.some rfl rfl rfl) rfl rfl (fun _ _ => rfl) (ON 12 (by kernel_rfl) rfl ?_))))))))))
            first | refine WR.step (Ex.loadM H rfl (by assumption) Tryz.isAgg5) (Wn.some rfl rfl rfl) rfl rfl ?_ | refine WR.step (Ex.load1 H rfl (by repeat (first | exact List.Mem.head _ | apply List.Mem.tail)) Tryz.isAgg5 (by rfl)) (Wn.some rfl rfl rfl) rfl rfl ?_
            refine NA (ON 15 (by kernel_rfl) rfl ?_)
            refine WR.split (Ex.lss rfl rfl) (Wn.some rfl rfl rfl) rfl rfl (fun h17_15 => ?_) (fun h17_15 => ?_)
            · have hbad := vld_bad hne (hm.2 (by omega))
              refine NA (ON 16 (by kernel_rfl) rfl (PF rfl rfl rfl (NA (WA.done (by kernel_rfl) (TN (CT rfl (SQ (RG (AS rfl rfl (NL (TN (RT ?_))))))))))))
              refine WQ.ret1 rfl rfl H.ext ?_
              exact by rw [hv, hbad]
            · refine NA (ON 16 (by kernel_rfl) rfl (PF rfl rfl rfl (NA (WA.done (by kernel_rfl) (TN (CF rfl (SK (TN (RG (MV rfl rfl (WR.stepE (v' := S (t.drop 2)) (Ex.sliceStr (i := 2) (j := t.length) Tryz.underlying9 rfl (.inl ⟨_, rfl, rfl⟩) (.inr ⟨rfl, rfl⟩) (by omega) (by omega)) (by rw [List.take_length]) (Wn.none rfl) rfl rfl ?_)))))))))))
              refine AS rfl rfl (NL (IB (IB ?_)))
              refine WQ.again1 (t.drop 2) ⟨rfl, trivial⟩ ?_ ?_
              · exact ⟨by rw [List.length_drop]; omega, by rw [hv]; exact vld_good hne (hm.1 (by omega)), M, H.drop (List.nil_sublist _), hp⟩
              · rw [List.length_drop]; omega
      · refine AS rfl rfl (NL (TN (CF rfl (SQ (RG ?_)))))
        refine WR.split (Ex.eql rfl rfl) (Wn.none rfl) rfl rfl (fun h20_0 => ?_) (fun h20_0 => ?_)
        · obtain ⟨hq1, hq2, hq3, hq4⟩ := hc3 (by omega)
          have hm := multi3 (t := t) (lo := lo) (hi := hi) (by rw [hcn]; exact ⟨hq1, hq2⟩) (by rw [hcn]; exact hq3) (by rw [hcn]; exact hq4)
          refine AS rfl rfl (NL (TN (CT rfl (SQ (SQ (WC.draw (m := 27) rfl rfl H ?_))))))
          intro w H
          refine ON 0 (by kernel_rfl) rfl (MV rfl rfl (NA (ON 1 (by kernel_rfl) rfl (ST (Ex.lenStr Tryz.underlying9 rfl) rfl (NA (ON 2 (by kernel_rfl) rfl ?_))))))
          refine WR.split (Ex.lss rfl rfl) (Wn.none rfl) rfl rfl (fun h21_2 => ?_) (fun h21_2 => ?_)
          · have hbad := vld_bad hne (hm.2 (by omega))
            refine NA (ON 3 (by kernel_rfl) rfl (MV rfl rfl (NA (WA.takeN (i := 4) rfl (by kernel_rfl) (by kernel_rfl) (by kernel_rfl) (wanted_g (b := true) rfl rfl rfl) rfl rfl (fun _ _ => rfl) (WA.takeN (i := 5) rfl (by kernel_rfl) (by kernel_rfl) (by kernel_rfl) (wanted_g (b := true) rfl rfl rfl) rfl rfl (fun _ _ => rfl) (ON 6 (by kernel_rfl) rfl (GT rfl rfl rfl (NA (ON 7 (by kernel_rfl) rfl (GT rfl rfl rfl (NA (ON 8 (by kernel_rfl) rfl (GT rfl rfl rfl (NA (ON 9 (by kernel_rfl) rfl (PT rfl rfl rfl (NA (ON 10 (by kernel_rfl) rfl (MV rfl rfl (NA (WA.takeN (i := 11) rfl (by kernel_rfl) (by kernel_rfl) (by kernel_rfl) (wanted_g (b := true) rfl rfl rfl) rfl rfl (fun _ _ => rfl) (WA.takeN (i := 12) rfl (by kernel_rfl) (by kernel_rfl) (by kernel_rfl) (wanted_g (b := true) rfl rfl rfl) rfl rfl (fun _ _ => rfl) (ON 13 (by kernel_rfl) rfl (GT rfl rfl rfl (NA (ON 14 (by kernel_rfl) rfl (GT rfl rfl rfl ?_)))))))))))))))))))))))))))
            refine NA (ON 15 (by kernel_rfl) rfl (GT rfl rfl rfl (NA (ON 16 (by kernel_rfl) rfl (PT rfl rfl rfl (NA (ON 17 (by kernel_rfl) rfl (MV rfl rfl (NA (ON 18 (by kernel_rfl) rfl (GT rfl rfl rfl (NA (ON 19 (by kernel_rfl) rfl (GT rfl rfl rfl (NA (ON 20 (by kernel_rfl) rfl (GT rfl rfl rfl (NA (ON 21 (by kernel_rfl) rfl (PT rfl rfl rfl (NA (ON 22 (by kernel_rfl) rfl (MV rfl rfl (NA (ON 23 (by kernel_rfl) rfl (GT rfl rfl rfl (NA (ON 24 (by kernel_rfl) rfl (GT rfl rfl rfl (NA (ON 25 (by kernel_rfl) rfl (GT rfl rfl rfl (NA (ON 26 (by kernel_rfl) rfl (PT rfl rfl rfl (NA (WA.done (by kernel_rfl) (TN (CT rfl (SQ (RG (AS rfl rfl (NL (TN (RT ?_)))))))))))))))))))))))))))))))))))))))))))))
            refine WQ.ret1 rfl rfl H.ext ?_
            exact by rw [hv, hbad]
          · obtain ⟨x1, hx1⟩ : ∃ x, t[1]? = some x := ⟨_, List.getElem?_eq_getElem (by omega)⟩
            have hnx1 := nat_of hx1
            have hxl1 := x1.toNat_lt
            obtain ⟨x2, hx2⟩ : ∃ x, t[2]? = some x := ⟨_, List.getElem?_eq_getElem (by omega)⟩
            have hnx2 := nat_of hx2
            have hxl2 := x2.toNat_lt
            refine NA (ON 3 (by kernel_rfl) rfl (MV rfl rfl (NA (WA.take (i := 4) rfl (by kernel_rfl) (by kernel_rfl) (by kernel_rfl) (fun _ => Ex.move rfl) (Wn.some rfl rfl rfl) rfl rfl (fun _ _ => rfl) (WA.take (i := 5) rfl (by kernel_rfl) (by kernel_rfl) (by kernel_rfl) (fun _ => Ex.idxStr Tryz.underlying9 rfl rfl (hx1)) (Wn.some rfl rfl rfl) rfl rfl (fun _ _ => rfl) (ON 6 (by kernel_rfl) rfl (SG (Ex.fieldAddr Tryz.underlying100 rfl Tryz.sizeOf5 (by decide) rfl) rfl rfl rfl (NA (ON 7 (by kernel_rfl) rfl ?_)))))))))
            first | refine WR.step (Ex.loadM H rfl (by assumption) Tryz.isAgg5) (Wn.some rfl rfl rfl) rfl rfl ?_ | refine WR.step (Ex.load1 H rfl (by repeat (first | exact List.Mem.head _ | apply List.Mem.tail)) Tryz.isAgg5 (by rfl)) (Wn.some rfl rfl rfl) rfl rfl ?_
            refine NA (ON 8 (by kernel_rfl) rfl ?_)
            refine WR.split (Ex.lss rfl rfl) (Wn.some rfl rfl rfl) rfl rfl (fun h21_8 => ?_) (fun h21_8 => ?_)
            · have hbad := vld_bad hne (hm.2 (by omega))
              refine NA (ON 9 (by kernel_rfl) rfl (PF rfl rfl rfl (NA (ON 10 (by kernel_rfl) rfl (MV rfl rfl (NA (WA.takeN (i := 11) rfl (by kernel_rfl) (by kernel_rfl) (by kernel_rfl) (wanted_g (b := true) rfl rfl rfl) rfl rfl (fun _ _ => rfl) (WA.takeN (i := 12) rfl (by kernel_rfl) (by kernel_rfl) (by kernel_rfl) (wanted_g (b := true) rfl rfl rfl) rfl rfl (fun _ _ => rfl) (ON 13 (by kernel_rfl) rfl (GT rfl rfl rfl (NA (ON 14 (by kernel_rfl) rfl (GT rfl rfl rfl (NA (ON 15 (by kernel_rfl) rfl (GT rfl rfl rfl (NA (ON 16 (by kernel_rfl) rfl (PT rfl rfl rfl (NA (ON 17 (by kernel_rfl) rfl (MV rfl rfl (NA (ON 18 (by kernel_rfl) rfl (GT rfl rfl rfl (NA (ON 19 (by kernel_rfl) rfl (GT rfl rfl rfl (NA (ON 20 (by kernel_rfl) rfl (GT rfl rfl rfl (NA (ON 21 (by kernel_rfl) rfl (PT rfl rfl rfl (NA (ON 22 (by kernel_rfl) rfl (MV rfl rfl (NA (ON 23 (by kernel_rfl) rfl (GT rfl rfl rfl ?_))))))))))))))))))))))))))))))))))))))))
              refine NA (ON 24 (by kernel_rfl) rfl (GT rfl rfl rfl (NA (ON 25 (by kernel_rfl) rfl (GT rfl rfl rfl (NA (ON 26 (by kernel_rfl) rfl (PT rfl rfl rfl (NA (WA.done (by kernel_rfl) (TN (CT rfl (SQ (RG (AS rfl rfl (NL (TN (RT ?_))))))))))))))))))
              refine WQ.ret1 rfl rfl H.ext ?_
              exact by rw [hv, hbad]
            · refine NA (ON 9 (by kernel_rfl) rfl (PF rfl rfl rfl (NA (ON 10 (by kernel_rfl) rfl (MV rfl rfl (NA (WA.take (i := 11) rfl (by kernel_rfl) (by kernel_rfl) (by kernel_rfl) (fun _ => Ex.fieldAddr Tryz.underlying100 rfl Tryz.sizeOf5 (by decide) rfl) (Wn.some rfl rfl rfl) rfl rfl (fun _ _ => rfl) (WA.take (i := 13) rfl (by kernel_rfl) (by kernel_rfl) (by kernel_rfl) (fun _ => Ex.move rfl) (Wn.some rfl rfl rfl) rfl rfl (fun _ _ => rfl) (WA.take (i := 14) rfl (by kernel_rfl) (by kernel_rfl) (by kernel_rfl) (fun _ => Ex.idxStr Tryz.underlying9 rfl rfl (hx1)) (Wn.some rfl rfl rfl) rfl rfl (fun _ _ => rfl) (ON 12 (by kernel_rfl) rfl ?_))))))))))
              first | refine WR.step (Ex.loadM H rfl (by assumption) Tryz.isAgg5) (Wn.some rfl rfl rfl) rfl rfl ?_ | refine WR.step (Ex.load1 H rfl (by repeat (first | exact List.Mem.head _ | apply List.Mem.tail)) Tryz.isAgg5 (by rfl)) (Wn.some rfl rfl rfl) rfl rfl ?_
              refine NA (ON 15 (by kernel_rfl) rfl ?_)
              refine WR.split (Ex.lss rfl rfl) (Wn.some rfl rfl rfl) rfl rfl (fun h21_15 => ?_) (fun h21_15 => ?_)
              · have hbad := vld_bad hne (hm.2 (by omega))
                refine NA (ON 16 (by kernel_rfl) rfl (PF rfl rfl rfl (NA (ON 17 (by kernel_rfl) rfl (MV rfl rfl (NA (ON 18 (by kernel_rfl) rfl (GT rfl rfl rfl (NA (ON 19 (by kernel_rfl) rfl (GT rfl rfl rfl (NA (ON 20 (by kernel_rfl) rfl (GT rfl rfl rfl (NA (ON 21 (by kernel_rfl) rfl (PT rfl rfl rfl (NA (ON 22 (by kernel_rfl) rfl (MV rfl rfl (NA (ON 23 (by kernel_rfl) rfl (GT rfl rfl rfl (NA (ON 24 (by kernel_rfl) rfl (GT rfl rfl rfl (NA (ON 25 (by kernel_rfl) rfl (GT rfl rfl rfl (NA (ON 26 (by kernel_rfl) rfl (PT rfl rfl rfl (NA (WA.done (by kernel_rfl) (TN (CT rfl (SQ (RG (AS rfl rfl (NL (TN (RT ?_))))))))))))))))))))))))))))))))))))))))))
                refine WQ.ret1 rfl rfl H.ext ?_
                exact by rw [hv, hbad]
              · refine NA (ON 16 (by kernel_rfl) rfl (PF rfl rfl rfl (NA (ON 17 (by kernel_rfl) rfl (MV rfl rfl (NA (ON 18 (by kernel_rfl) rfl (SG (Ex.move rfl) rfl rfl rfl (NA (ON 19 (by kernel_rfl) rfl (SG (Ex.idxStr Tryz.underlying9 rfl rfl (hx2)) rfl rfl rfl (NA (ON 20 (by kernel_rfl) rfl ?_)))))))))))))
                refine WR.split (Ex.lss rfl rfl) (Wn.some rfl rfl rfl) rfl rfl (fun h21_20 => ?_) (fun h21_20 => ?_)
                · have hbad := vld_bad hne (hm.2 (by omega))
                  refine NA (ON 21 (by kernel_rfl) rfl (PF rfl rfl rfl (NA (ON 22 (by kernel_rfl) rfl (MV rfl rfl (NA (ON 23 (by kernel_rfl) rfl (GT rfl rfl rfl (NA (ON 24 (by kernel_rfl) rfl (GT rfl rfl rfl (NA (ON 25 (by kernel_rfl) rfl (GT rfl rfl rfl (NA (ON 26 (by kernel_rfl) rfl (PT rfl rfl rfl (NA (WA.done (by kernel_rfl) (TN (CT rfl (SQ (RG (AS rfl rfl (NL (TN (RT ?_)))))))))))))))))))))))))))
                  refine WQ.ret1 rfl rfl H.ext ?_
                  exact by rw [hv, hbad]
                · refine NA (ON 21 (by kernel_rfl) rfl (PF rfl rfl rfl (NA (ON 22 (by kernel_rfl) rfl (MV rfl rfl (NA (ON 23 (by kernel_rfl) rfl (SG (Ex.move rfl) rfl rfl rfl (NA (ON 24 (by kernel_rfl) rfl (SG (Ex.idxStr Tryz.underlying9 rfl rfl (hx2)) rfl rfl rfl (NA (ON 25 (by kernel_rfl) rfl ?_)))))))))))))
                  refine WR.split (Ex.lss rfl rfl) (Wn.some rfl rfl rfl) rfl rfl (fun h21_25 => ?_) (fun h21_25 => ?_)
                  · have hbad := vld_bad hne (hm.2 (by omega))
                    refine NA (ON 26 (by kernel_rfl) rfl (PF rfl rfl rfl (NA (WA.done (by kernel_rfl) (TN (CT rfl (SQ (RG (AS rfl rfl (NL (TN (RT ?_))))))))))))
                    refine WQ.ret1 rfl rfl H.ext ?_
                    exact by rw [hv, hbad]
                  · refine NA (ON 26 (by kernel_rfl) rfl (PF rfl rfl rfl (NA (WA.done (by kernel_rfl) (TN (CF rfl (SK (TN (RG (MV rfl rfl (WR.stepE (v' := S (t.drop 3)) (Ex.sliceStr (i := 3) (j := t.length) Tryz.underlying9 rfl (.inl ⟨_, rfl, rfl⟩) (.inr ⟨rfl, rfl⟩) (by omega) (by omega)) (by rw [List.take_length]) (Wn.none rfl) rfl rfl ?_)))))))))))
                    refine AS rfl rfl (NL (IB (IB ?_)))
                    refine WQ.again1 (t.drop 3) ⟨rfl, trivial⟩ ?_ ?_
                    · exact ⟨by rw [List.length_drop]; omega, by rw [hv]; exact vld_good hne (hm.1 (by omega)), M, H.drop (List.nil_sublist _), hp⟩
                    · rw [List.length_drop]; omega
        · refine AS rfl rfl (NL (TN (CF rfl (SQ (RG ?_)))))
          refine WR.split (Ex.eql rfl rfl) (Wn.none rfl) rfl rfl (fun h24_0 => ?_) (fun h24_0 => ?_)
          · obtain ⟨hq1, hq2, hq3, hq4⟩ := hc4 (by omega)
            have hm := multi4 (t := t) (lo := lo) (hi := hi) (by rw [hcn]; exact ⟨hq1, hq2⟩) (by rw [hcn]; exact hq3) (by rw [hcn]; exact hq4)
            refine AS rfl rfl (NL (TN (CT rfl (SQ (SQ (WC.draw (m := 37) rfl rfl H ?_))))))
            intro w H
            refine ON 0 (by kernel_rfl) rfl (MV rfl rfl (NA (ON 1 (by kernel_rfl) rfl (ST (Ex.lenStr Tryz.underlying9 rfl) rfl (NA (ON 2 (by kernel_rfl) rfl ?_))))))
            refine WR.split (Ex.lss rfl rfl) (Wn.none rfl) rfl rfl (fun h25_2 => ?_) (fun h25_2 => ?_)
            · have hbad := vld_bad hne (hm.2 (by omega))
              refine NA (ON 3 (by kernel_rfl) rfl (MV rfl rfl (NA (WA.takeN (i := 4) rfl (by kernel_rfl) (by kernel_rfl) (by kernel_rfl) (wanted_g (b := true) rfl rfl rfl) rfl rfl (fun _ _ => rfl) (WA.takeN (i := 5) rfl (by kernel_rfl) (by kernel_rfl) (by kernel_rfl) (wanted_g (b := true) rfl rfl rfl) rfl rfl (fun _ _ => rfl) (ON 6 (by kernel_rfl) rfl (GT rfl rfl rfl (NA (ON 7 (by kernel_rfl) rfl (GT rfl rfl rfl (NA (ON 8 (by kernel_rfl) rfl (GT rfl rfl rfl (NA (ON 9 (by kernel_rfl) rfl (PT rfl rfl rfl (NA (ON 10 (by kernel_rfl) rfl (MV rfl rfl (NA (WA.takeN (i := 11) rfl (by kernel_rfl) (by kernel_rfl) (by kernel_rfl) (wanted_g (b := true) rfl rfl rfl) rfl rfl (fun _ _ => rfl) (WA.takeN (i := 12) rfl (by kernel_rfl) (by kernel_rfl) (by kernel_rfl) (wanted_g (b := true) rfl rfl rfl) rfl rfl (fun _ _ => rfl) (ON 13 (by kernel_rfl) rfl (GT rfl rfl rfl (NA (ON 14 (by kernel_rfl) rfl (GT rfl rfl rfl ?_)))))))))))))))))))))))))))
              refine NA (ON 15 (by kernel_rfl) rfl (GT rfl rfl rfl (NA (ON 16 (by kernel_rfl) rfl (PT rfl rfl rfl (NA (ON 17 (by kernel_rfl) rfl (MV rfl rfl (NA (ON 18 (by kernel_rfl) rfl (GT rfl rfl rfl (NA (ON 19 (by kernel_rfl) rfl (GT rfl rfl rfl (NA (ON 20 (by kernel_rfl) rfl (GT rfl rfl rfl (NA (ON 21 (by kernel_rfl) rfl (PT rfl rfl rfl (NA (ON 22 (by kernel_rfl) rfl (MV rfl rfl (NA (ON 23 (by kernel_rfl) rfl (GT rfl rfl rfl (NA (ON 24 (by kernel_rfl) rfl (GT rfl rfl rfl (NA (ON 25 (by kernel_rfl) rfl (GT rfl rfl rfl (NA (ON 26 (by kernel_rfl) rfl (PT rfl rfl rfl (NA (ON 27 (by kernel_rfl) rfl (MV rfl rfl (NA (ON 28 (by kernel_rfl) rfl (GT rfl rfl rfl (NA (ON 29 (by kernel_rfl) rfl (GT rfl rfl rfl (NA (ON 30 (by kernel_rfl) rfl (GT rfl rfl rfl (NA (ON 31 (by kernel_rfl) rfl (PT rfl rfl rfl (NA (ON 32 (by kernel_rfl) rfl (MV rfl rfl (NA (ON 33 (by kernel_rfl) rfl ?_)))))))))))))))))))))))))))))))))))))))))))))))))))))))
              refine GT rfl rfl rfl (NA (ON 34 (by kernel_rfl) rfl (GT rfl rfl rfl (NA (ON 35 (by kernel_rfl) rfl (GT rfl rfl rfl (NA (ON 36 (by kernel_rfl) rfl (PT rfl rfl rfl (NA (WA.done (by kernel_rfl) (TN (CT rfl (SQ (RG (AS rfl rfl (NL (TN (RT ?_)))))))))))))))))))
              refine WQ.ret1 rfl rfl H.ext ?_
              exact by rw [hv, hbad]
            · obtain ⟨x1, hx1⟩ : ∃ x, t[1]? = some x := ⟨_, List.getElem?_eq_getElem (by omega)⟩
              have hnx1 := nat_of hx1
              have hxl1 := x1.toNat_lt
              obtain ⟨x2, hx2⟩ : ∃ x, t[2]? = some x := ⟨_, List.getElem?_eq_getElem (by omega)⟩
              have hnx2 := nat_of hx2
              have hxl2 := x2.toNat_lt
              obtain ⟨x3, hx3⟩ : ∃ x, t[3]? = some x := ⟨_, List.getElem?_eq_getElem (by omega)⟩
              have hnx3 := nat_of hx3
              have hxl3 := x3.toNat_lt
              refine NA (ON 3 (by kernel_rfl) rfl (MV rfl rfl (NA (WA.take (i := 4) rfl (by kernel_rfl) (by kernel_rfl) (by kernel_rfl) (fun _ => Ex.move rfl) (Wn.some rfl rfl rfl) rfl rfl (fun _ _ => rfl) (WA.take (i := 5) rfl (by kernel_rfl) (by kernel_rfl) (by kernel_rfl) (fun _ => Ex.idxStr Tryz.underlying9 rfl rfl (hx1)) (Wn.some rfl rfl rfl) rfl rfl (fun _ _ => rfl) (ON 6 (by kernel_rfl) rfl (SG (Ex.fieldAddr Tryz.underlying100 rfl Tryz.sizeOf5 (by decide) rfl) rfl rfl rfl (NA (ON 7 (by kernel_rfl) rfl ?_)))))))))
              first | refine WR.step (Ex.loadM H rfl (by assumption) Tryz.isAgg5) (Wn.some rfl rfl rfl) rfl rfl ?_ | refine WR.step (Ex.load1 H rfl (by repeat (first | exact List.Mem.head _ | apply List.Mem.tail)) Tryz.isAgg5 (by rfl)) (Wn.some rfl rfl rfl) rfl rfl ?_
              refine NA (ON 8 (by kernel_rfl) rfl ?_)
              refine WR.split (Ex.lss rfl rfl) (Wn.some rfl rfl rfl) rfl rfl (fun h25_8 => ?_) (fun h25_8 => ?_)
              · have hbad := vld_bad hne (hm.2 (by omega))
                refine NA (ON 9 (by kernel_rfl) rfl (PF rfl rfl rfl (NA (ON 10 (by kernel_rfl) rfl (MV rfl rfl (NA (WA.takeN (i := 11) rfl (by kernel_rfl) (by kernel_rfl) (by kernel_rfl) (wanted_g (b := true) rfl rfl rfl) rfl rfl (fun _ _ => rfl) (WA.takeN (i := 12) rfl (by kernel_rfl) (by kernel_rfl) (by kernel_rfl) (wanted_g (b := true) rfl rfl rfl) rfl rfl (fun _ _ => rfl) (ON 13 (by kernel_rfl) rfl (GT rfl rfl rfl (NA (ON 14 (by kernel_rfl) rfl (GT rfl rfl rfl (NA (ON 15 (by kernel_rfl) rfl (GT rfl rfl rfl (NA (ON 16 (by kernel_rfl) rfl (PT rfl rfl rfl (NA (ON 17 (by kernel_rfl) rfl (MV rfl rfl (NA (ON 18 (by kernel_rfl) rfl (GT rfl rfl rfl (NA (ON 19 (by kernel_rfl) rfl (GT rfl rfl rfl (NA (ON 20 (by kernel_rfl) rfl (GT rfl rfl rfl (NA (ON 21 (by kernel_rfl) rfl (PT rfl rfl rfl (NA (ON 22 (by kernel_rfl) rfl (MV rfl rfl (NA (ON 23 (by kernel_rfl) rfl (GT rfl rfl rfl ?_))))))))))))))))))))))))))))))))))))))))
                refine NA (ON 24 (by kernel_rfl) rfl (GT rfl rfl rfl (NA (ON 25 (by kernel_rfl) rfl (GT rfl rfl rfl (NA (ON 26 (by kernel_rfl) rfl (PT rfl rfl rfl (NA (ON 27 (by kernel_rfl) rfl (MV rfl rfl (NA (ON 28 (by kernel_rfl) rfl (GT rfl rfl rfl (NA (ON 29 (by kernel_rfl) rfl (GT rfl rfl rfl (NA (ON 30 (by kernel_rfl) rfl (GT rfl rfl rfl (NA (ON 31 (by kernel_rfl) rfl (PT rfl rfl rfl (NA (ON 32 (by kernel_rfl) rfl (MV rfl rfl (NA (ON 33 (by kernel_rfl) rfl (GT rfl rfl rfl (NA (ON 34 (by kernel_rfl) rfl (GT rfl rfl rfl (NA (ON 35 (by kernel_rfl) rfl (GT rfl rfl rfl (NA (ON 36 (by kernel_rfl) rfl (PT rfl rfl rfl (NA (WA.done (by kernel_rfl) (TN (CT rfl (SQ (RG (AS rfl rfl (NL (TN (RT ?_))))))))))))))))))))))))))))))))))))))))))))))))
                refine WQ.ret1 rfl rfl H.ext ?_
                exact by rw [hv, hbad]
              · refine NA (ON 9 (by kernel_rfl) rfl (PF rfl rfl rfl (NA (ON 10 (by kernel_rfl) rfl (MV rfl rfl (NA (WA.take (i := 11) rfl (by kernel_rfl) (by kernel_rfl) (by kernel_rfl) (fun _ => Ex.fieldAddr Tryz.underlying100 rfl Tryz.sizeOf5 (by decide) rfl) (Wn.some rfl rfl rfl) rfl rfl (fun _ _ => rfl) (WA.take (i := 13) rfl (by kernel_rfl) (by kernel_rfl) (by kernel_rfl) (fun _ => Ex.move rfl) (Wn.some rfl rfl rfl) rfl rfl (fun _ _ => rfl) (WA.take (i := 14) rfl (by kernel_rfl) (by kernel_rfl) (by kernel_rfl) (fun _ => Ex.idxStr Tryz.underlying9 rfl rfl (hx1)) (Wn.some rfl rfl rfl) rfl rfl (fun _ _ => rfl) (ON 12 (by kernel_rfl) rfl ?_))))))))))
                first | refine WR.step (Ex.loadM H rfl (by assumption) Tryz.isAgg5) (Wn.some rfl rfl rfl) rfl rfl ?_ | refine WR.step (Ex.load1 H rfl (by repeat (first | exact List.Mem.head _ | apply List.Mem.tail)) Tryz.isAgg5 (by rfl)) (Wn.some rfl rfl rfl) rfl rfl ?_
                refine NA (ON 15 (by kernel_rfl) rfl ?_)
                refine WR.split (Ex.lss rfl rfl) (Wn.some rfl rfl rfl) rfl rfl (fun h25_15 => ?_) (fun h25_15 => ?_)
                · have hbad := vld_bad hne (hm.2 (by omega))
                  refine NA (ON 16 (by kernel_rfl) rfl (PF rfl rfl rfl (NA (ON 17 (by kernel_rfl) rfl (MV rfl rfl (NA (ON 18 (by kernel_rfl) rfl (GT rfl rfl rfl (NA (ON 19 (by kernel_rfl) rfl (GT rfl rfl rfl (NA (ON 20 (by kernel_rfl) rfl (GT rfl rfl rfl (NA (ON 21 (by kernel_rfl) rfl (PT rfl rfl rfl (NA (ON 22 (by kernel_rfl) rfl (MV rfl rfl (NA (ON 23 (by kernel_rfl) rfl (GT rfl rfl rfl (NA (ON 24 (by kernel_rfl) rfl (GT rfl rfl rfl (NA (ON 25 (by kernel_rfl) rfl (GT rfl rfl rfl (NA (ON 26 (by kernel_rfl) rfl (PT rfl rfl rfl (NA (ON 27 (by kernel_rfl) rfl (MV rfl rfl (NA (ON 28 (by kernel_rfl) rfl (GT rfl rfl rfl (NA (ON 29 (by kernel_rfl) rfl (GT rfl rfl rfl (NA (ON 30 (by kernel_rfl) rfl (GT rfl rfl rfl (NA (ON 31 (by kernel_rfl) rfl (PT rfl rfl rfl (NA (ON 32 (by kernel_rfl) rfl (MV rfl rfl (NA (ON 33 (by kernel_rfl) rfl (GT rfl rfl rfl (NA (ON 34 (by kernel_rfl) rfl ?_)))))))))))))))))))))))))))))))))))))))))))))))))))))))
                  refine GT rfl rfl rfl (NA (ON 35 (by kernel_rfl) rfl (GT rfl rfl rfl (NA (ON 36 (by kernel_rfl) rfl (PT rfl rfl rfl (NA (WA.done (by kernel_rfl) (TN (CT rfl (SQ (RG (AS rfl rfl (NL (TN (RT ?_))))))))))))))))
                  refine WQ.ret1 rfl rfl H.ext ?_
                  exact by rw [hv, hbad]
                · refine NA (ON 16 (by kernel_rfl) rfl (PF rfl rfl rfl (NA (ON 17 (by kernel_rfl) rfl (MV rfl rfl (NA (ON 18 (by kernel_rfl) rfl (SG (Ex.move rfl) rfl rfl rfl (NA (ON 19 (by kernel_rfl) rfl (SG (Ex.idxStr Tryz.underlying9 rfl rfl (hx2)) rfl rfl rfl (NA (ON 20 (by kernel_rfl) rfl ?_)))))))))))))
                  refine WR.split (Ex.lss rfl rfl) (Wn.some rfl rfl rfl) rfl rfl (fun h25_20 => ?_) (fun h25_20 => ?_)
                  · have hbad := vld_bad hne (hm.2 (by omega))
                    refine NA (ON 21 (by kernel_rfl) rfl (PF rfl rfl rfl (NA (ON 22 (by kernel_rfl) rfl (MV rfl rfl (NA (ON 23 (by kernel_rfl) rfl (GT rfl rfl rfl (NA (ON 24 (by kernel_rfl) rfl (GT rfl rfl rfl (NA (ON 25 (by kernel_rfl) rfl (GT rfl rfl rfl (NA (ON 26 (by kernel_rfl) rfl (PT rfl rfl rfl (NA (ON 27 (by kernel_rfl) rfl (MV rfl rfl (NA (ON 28 (by kernel_rfl) rfl (GT rfl rfl rfl (NA (ON 29 (by kernel_rfl) rfl (GT rfl rfl rfl (NA (ON 30 (by kernel_rfl) rfl (GT rfl rfl rfl (NA (ON 31 (by kernel_rfl) rfl (PT rfl rfl rfl (NA (ON 32 (by kernel_rfl) rfl (MV rfl rfl (NA (ON 33 (by kernel_rfl) rfl (GT rfl rfl rfl (NA (ON 34 (by kernel_rfl) rfl (GT rfl rfl rfl (NA (ON 35 (by kernel_rfl) rfl (GT rfl rfl rfl (NA (ON 36 (by kernel_rfl) rfl (PT rfl rfl rfl (NA (WA.done (by kernel_rfl) (TN (CT rfl (SQ (RG (AS rfl rfl (NL (TN (RT ?_)))))))))))))))))))))))))))))))))))))))))))))))))))))))))
                    refine WQ.ret1 rfl rfl H.ext ?_
                    exact by rw [hv, hbad]
                  · refine NA (ON 21 (by kernel_rfl) rfl (PF rfl rfl rfl (NA (ON 22 (by kernel_rfl) rfl (MV rfl rfl (NA (ON 23 (by kernel_rfl) rfl (SG (Ex.move rfl) rfl rfl rfl (NA (ON 24 (by kernel_rfl) rfl (SG (Ex.idxStr Tryz.underlying9 rfl rfl (hx2)) rfl rfl rfl (NA (ON 25 (by kernel_rfl) rfl ?_)))))))))))))
                    refine WR.split (Ex.lss rfl rfl) (Wn.some rfl rfl rfl) rfl rfl (fun h25_25 => ?_) (fun h25_25 => ?_)
                    · have hbad := vld_bad hne (hm.2 (by omega))
                      refine NA (ON 26 (by kernel_rfl) rfl (PF rfl rfl rfl (NA (ON 27 (by kernel_rfl) rfl (MV rfl rfl (NA (ON 28 (by kernel_rfl) rfl (GT rfl rfl rfl (NA (ON 29 (by kernel_rfl) rfl (GT rfl rfl rfl (NA (ON 30 (by kernel_rfl) rfl (GT rfl rfl rfl (NA (ON 31 (by kernel_rfl) rfl (PT rfl rfl rfl (NA (ON 32 (by kernel_rfl) rfl (MV rfl rfl (NA (ON 33 (by kernel_rfl) rfl (GT rfl rfl rfl (NA (ON 34 (by kernel_rfl) rfl (GT rfl rfl rfl (NA (ON 35 (by kernel_rfl) rfl (GT rfl rfl rfl (NA (ON 36 (by kernel_rfl) rfl (PT rfl rfl rfl (NA (WA.done (by kernel_rfl) (TN (CT rfl (SQ (RG (AS rfl rfl (NL (TN (RT ?_))))))))))))))))))))))))))))))))))))))))))
                      refine WQ.ret1 rfl rfl H.ext ?_
                      exact by rw [hv, hbad]
                    · refine NA (ON 26 (by kernel_rfl) rfl (PF rfl rfl rfl (NA (ON 27 (by kernel_rfl) rfl (MV rfl rfl (NA (ON 28 (by kernel_rfl) rfl (SG (Ex.move rfl) rfl rfl rfl (NA (ON 29 (by kernel_rfl) rfl (SG (Ex.idxStr Tryz.underlying9 rfl rfl (hx3)) rfl rfl rfl (NA (ON 30 (by kernel_rfl) rfl ?_)))))))))))))
                      refine WR.split (Ex.lss rfl rfl) (Wn.some rfl rfl rfl) rfl rfl (fun h25_30 => ?_) (fun h25_30 => ?_)
                      · have hbad := vld_bad hne (hm.2 (by omega))
                        refine NA (ON 31 (by kernel_rfl) rfl (PF rfl rfl rfl (NA (ON 32 (by kernel_rfl) rfl (MV rfl rfl (NA (ON 33 (by kernel_rfl) rfl (GT rfl rfl rfl (NA (ON 34 (by kernel_rfl) rfl (GT rfl rfl rfl (NA (ON 35 (by kernel_rfl) rfl (GT rfl rfl rfl (NA (ON 36 (by kernel_rfl) rfl (PT rfl rfl rfl (NA (WA.done (by kernel_rfl) (TN (CT rfl (SQ (RG (AS rfl rfl (NL (TN (RT ?_)))))))))))))))))))))))))))
                        refine WQ.ret1 rfl rfl H.ext ?_
                        exact by rw [hv, hbad]
                      · refine NA (ON 31 (by kernel_rfl) rfl (PF rfl rfl rfl (NA (ON 32 (by kernel_rfl) rfl (MV rfl rfl (NA (ON 33 (by kernel_rfl) rfl (SG (Ex.move rfl) rfl rfl rfl (NA (ON 34 (by kernel_rfl) rfl (SG (Ex.idxStr Tryz.underlying9 rfl rfl (hx3)) rfl rfl rfl (NA (ON 35 (by kernel_rfl) rfl ?_)))))))))))))
                        refine WR.split (Ex.lss rfl rfl) (Wn.some rfl rfl rfl) rfl rfl (fun h25_35 => ?_) (fun h25_35 => ?_)
                        · have hbad := vld_bad hne (hm.2 (by omega))
                          refine NA (ON 36 (by kernel_rfl) rfl (PF rfl rfl rfl (NA (WA.done (by kernel_rfl) (TN (CT rfl (SQ (RG (AS rfl rfl (NL (TN (RT ?_))))))))))))
                          refine WQ.ret1 rfl rfl H.ext ?_
                          exact by rw [hv, hbad]
                        · refine NA (ON 36 (by kernel_rfl) rfl (PF rfl rfl rfl (NA (WA.done (by kernel_rfl) (TN (CF rfl (SK (TN (RG (MV rfl rfl (WR.stepE (v' := S (t.drop 4)) (Ex.sliceStr (i := 4) (j := t.length) Tryz.underlying9 rfl (.inl ⟨_, rfl, rfl⟩) (.inr ⟨rfl, rfl⟩) (by omega) (by omega)) (by rw [List.take_length]) (Wn.none rfl) rfl rfl ?_)))))))))))
                          refine AS rfl rfl (NL (IB (IB ?_)))
                          refine WQ.again1 (t.drop 4) ⟨rfl, trivial⟩ ?_ ?_
                          · exact ⟨by rw [List.length_drop]; omega, by rw [hv]; exact vld_good hne (hm.1 (by omega)), M, H.drop (List.nil_sublist _), hp⟩
                          · rw [List.length_drop]; omega
          · have hbad := vld_bad hne (multi1 (t := t) (by omega) (by rw [hcn]; exact hc1 (by omega)))
            refine AS rfl rfl (NL (TN (CF rfl (SQ (RG (AS rfl rfl (NL (TN (RT ?_)))))))))
            refine WQ.ret1 rfl rfl H.ext ?_
            exact by rw [hv, hbad]
  · have hr : vld l = true := by rw [hv, List.eq_nil_of_length_eq_zero (show t.length = 0 by omega)]; rfl
    refine NL (TN (CF rfl (WC.exit (WQ.thenExit (WQ.thenExit (WQ.exitHere (TN (SQ (RG (AS rfl rfl (NL (TN (RT ?_)))))))))))))
    refine WQ.ret1 rfl rfl H.ext ?_
    exact by rw [hr]
end Go.Proofs.YtogkmhjnojphiaaGreatDoor
end
section
set_option linter.unusedVariables false
set_option linter.unusedSimpArgs false
namespace Go.Proofs.YtogkmhjnojphiaaGreatDoor
open Go Go.RowKit Go.Ph
open Go.Ph.Gr Go.Ph.Utf Go.Ph.Chs
theorem grown_alloc {w w' : World} {o : Obj} {row : Option Nat} (h : (w.alloc o).grownBy w' row) (hr : row = none) : w.grownBy w' none := by
  subst hr
  have h1 : w.grownBy (w.alloc o) none := grownBy_alloc' w o
  exact ⟨h.os.trans h1.os, h.tape.trans h1.tape, h.output.trans h1.output, Nat.le_trans h1.size h.size, fun k hk hn => (h.block k (Nat.lt_of_lt_of_le hk h1.size) (by simp)).trans (h1.block k hk (by simp))⟩
theorem utf8_Z (c : Int) : utf8 c = (Lib.encodeRuneZ c).map ub := by
  unfold utf8
  by_cases h1 : 0 ≤ c ∧ c ≤ 127
  · rw [fixN_id (by omega) (by omega) (by omega), Lib.encodeRuneZ_one h1.1 h1.2, utf8M, if_pos (by omega)]; rfl
  · by_cases h2 : 128 ≤ c ∧ c ≤ 2047
    · rw [fixN_id (by omega) (by omega) (by omega), Lib.encodeRuneZ_two h2.1 h2.2, utf8M, if_neg (by omega), if_pos (by omega)]; rfl
    · by_cases h3 : (2048 ≤ c ∧ c < 55296) ∨ (57343 < c ∧ c ≤ 65535)
      · rw [fixN_id (by omega) (by omega) (by omega), Lib.encodeRuneZ_three h3, utf8M, if_neg (by omega), if_neg (by omega), if_pos (by omega)]; rfl
      · by_cases h4 : 65536 ≤ c ∧ c ≤ 1114111
        · rw [fixN_id (by omega) (by omega) (by omega), Lib.encodeRuneZ_four h4.1 h4.2, utf8M, if_neg (by omega), if_neg (by omega), if_neg (by omega)]; rfl
        · rw [fixN_bad (by omega), Lib.encodeRuneZ_bad (by omega)]; decide
theorem runeCells_utf8 (c : Int) : Lib.runeCells c = (utf8 c).map encB := by
  unfold Lib.runeCells
  rw [utf8_Z, List.map_map]
  apply List.map_congr_left
  intro x hx
  have h := Lib.encodeRuneZ_byte c x hx
  show Value.int .u8 x = Value.int .u8 ((ub x).toNat : Int)
  rw [ub_nat h.1 h.2]
theorem appendRune_spec (c : Int) (h0 : -2147483648 ≤ c) (h1 : c ≤ 2147483647) : Ct Tryz.prog 160 [.slice none 0 0, encR c] (fun _ => True) (fun r M => Bs M r (utf8 c)) := by
  refine ⟨enters Tryz.func160 (by kernel_rfl) rfl, fun w M ha hp => ?_⟩
  have hlen := utf8_len c
  refine (Tryz.utf8_AppendRune_plain w.heap.size (.slice none 0 0) 0 [] c h0 h1 w (World.ownsRow_nil _ _ _ _) (by decide) (Nat.le_refl _)).mono fun e w' => ?_
  rintro ⟨v', rfl, hown, o, hg⟩
  have hgr := grown_alloc hg rfl
  rw [runeCells_utf8, List.nil_append, List.length_map, Nat.zero_add] at hown
  have hh : (RowI 5 encB v' (utf8 c)).holds w' := by
    refine ⟨hown.1, ?_⟩
    rcases hown.2 with h | ⟨g, cap, cur, hv, hb, hgg⟩
    · exact .inl h
    · exact .inr ⟨g, cap, cur, hv, Nat.zero_le _, hgg⟩
  have H1 : St w M M [RowI 5 encB v' (utf8 c)] w' := (StX.start ha).new hgr hh (fun b hb => (World.ownsRow.lt hown b hb).1)
  obtain ⟨M', hle, hS, H2⟩ := H1.freezeRow (L' := []) .head
  exact ⟨_, M', rfl, H2.ext, hS⟩
theorem dec1_spec (v : Value) (l : List UInt8) (b : Nat) (bound : Int) (hs : l.length ≤ 12000) : Ct Tryz.prog 186 [v, ptr b 0] (fun M => Bs M v l ∧ CellM M ⟨b, 0, none⟩ (encR bound)) (fun r M => Sl M encR r (decS bound l)) := by
  refine Ct.of Tryz.func186 (enters Tryz.func186 (by kernel_rfl) rfl) rfl rfl rfl ?_
  intro w0 M0 H hp
  obtain ⟨hb, hcell⟩ := hp
  refine SQ (RG (AS rfl rfl (NL (TN (SQ (RG (AS rfl rfl (NL (TN (SQ (SQ (RG (MV rfl rfl ?_)))))))))))))
  first | refine WR.step (Ex.lenSl Tryz.underlying30 (by assumption) rfl) (Wn.none rfl) rfl rfl ?_ | refine WR.step (Ex.lenRow Tryz.underlying30 H (by repeat (first | exact List.Mem.head _ | apply List.Mem.tail)) rfl) (Wn.none rfl) rfl rfl ?_ | refine WR.step (Ex.lenSlice Tryz.underlying30 rfl) (Wn.none rfl) rfl rfl ?_
  refine MV rfl rfl (NL (TN (BL ?_)))
  replace H := H.newRow 21 encR
  refine WC.loop3 (fun (k : Nat) (ov : Value) (o : List Int) => [(1, ptr b 0), (4, ov), (8, v), (9, I (l.length : Int)), (10, encN k)]) (fun (k : Nat) (ov : Value) (o : List Int) w => k ≤ l.length ∧ o = decS bound (l.take k) ∧ ∃ M, St w0 M0 M [RowI 21 encR ov o] w ∧ Bs M v l ∧ CellM M ⟨b, 0, none⟩ (encR bound)) (fun (k : Nat) (ov : Value) (o : List Int) => l.length - k) (0) (_) (_) ⟨rfl, rfl, rfl, rfl, rfl, trivial⟩ (⟨by omega, rfl, M0, H, hb, hcell⟩) ?_
  intro k ov o w
  rintro ⟨hk, ho, M, H, hb, hcell⟩
  have hol : o.length = k := by rw [ho]; simp [decS]; omega
  refine SQ (RG ?_)
  refine WR.split (Ex.lss rfl rfl) (Wn.none rfl) rfl rfl (fun h3_0 => ?_) (fun h3_0 => ?_)
  · obtain ⟨c, hc⟩ : ∃ c, l[k]? = some c := ⟨_, List.getElem?_eq_getElem (by omega)⟩
    have hclt := c.toNat_lt
    have hdn : decS bound (l.take (k + 1)) = decS bound (l.take k) ++ [if bound ≤ (c.toNat : Int) then 65533 else (c.toNat : Int)] := by
      obtain ⟨e1, e2⟩ := List.getElem?_eq_some_iff.1 hc
      rw [List.take_succ_eq_append_getElem e1, e2]; simp [decS]
    refine NL (TN (SQ (CT rfl (SK (TN (SQ (BL (SQ (RG (WR.idxSl Tryz.underlying30 Tryz.sizeOf5 (by assumption) rfl rfl (hc) (Wn.none rfl) rfl ?_))))))))))
    intro p12 hc12
    first | refine WR.step (Ex.loadM H rfl (by assumption) Tryz.isAgg5) (Wn.none rfl) rfl rfl ?_ | refine WR.step (Ex.load1 H rfl (by repeat (first | exact List.Mem.head _ | apply List.Mem.tail)) Tryz.isAgg5 (by rfl)) (Wn.none rfl) rfl rfl ?_
    refine AS rfl rfl (NL (TN (SQ (RG (MV rfl rfl (WR.stepE (v' := encR (c.toNat : Int)) (Ex.conv Tryz.underlying5 Tryz.underlying21 rfl) (congrArg encR (i32_in (by omega))) (Wn.none rfl) rfl rfl ?_))))))
    refine AS rfl rfl (NL (TN (SQ (SQ (RG (MV rfl rfl ?_))))))
    first | refine WR.step (Ex.loadM H rfl (by assumption) Tryz.isAgg21) (Wn.none rfl) rfl rfl ?_ | refine WR.step (Ex.load1 H rfl (by repeat (first | exact List.Mem.head _ | apply List.Mem.tail)) Tryz.isAgg21 (by rfl)) (Wn.none rfl) rfl rfl ?_
    refine WR.split (Ex.geq rfl rfl) (Wn.none rfl) rfl rfl (fun h6_2 => ?_) (fun h6_2 => ?_)
    · refine NL (TN (CT rfl (RG (AS rfl rfl (NL (TN (RG (MV rfl rfl (MV rfl rfl (WR.lit (enc := encR) ty170 [_] H rfl (by rfl) (fun _ => rfl) rfl rfl (Wn.none rfl) rfl ?_))))))))))
      intro v21 M w H hle hl21
      replace hb := hb.mono hle
      replace hcell := hcell.mono hle
      replace hc12 := hc12.mono hle
      refine WR.appendSl ty170 (fun _ => rfl) H rfl (fun _ => by repeat first | exact .head | apply Upd.tail) rfl (by assumption) (by first | omega | (simp only [List.length_append, List.length_cons, List.length_nil, List.length_take, List.length_drop]; omega)) (by first | (simp only [maxLen]; omega) | (simp only [maxLen, List.length_append, List.length_cons, List.length_nil, List.length_take, List.length_drop]; omega)) (Wn.none rfl) rfl ?_
      intro v22 w H
      refine AS rfl rfl (NL (IB (TN (RG (ST (Ex.add64 rfl rfl (by omega)) rfl ?_)))))
      refine MV rfl rfl (NL ?_)
      refine WQ.again3 (k + 1) (v22) (o ++ [65533]) ⟨rfl, rfl, rfl, rfl, rfl, trivial⟩ ?_ ?_
      · refine ⟨by omega, ?_, M, H, hb, hcell⟩
        rw [hdn, ← ho, if_pos h6_2]
      · omega
    · refine NL (TN (CF rfl (SK (TN (RG (MV rfl rfl (MV rfl rfl (WR.lit (enc := encR) ty170 [_] H rfl (by rfl) (fun _ => rfl) rfl rfl (Wn.none rfl) rfl ?_))))))))
      intro v21 M w H hle hl21
      replace hb := hb.mono hle
      replace hcell := hcell.mono hle
      replace hc12 := hc12.mono hle
      refine WR.appendSl ty170 (fun _ => rfl) H rfl (fun _ => by repeat first | exact .head | apply Upd.tail) rfl (by assumption) (by first | omega | (simp only [List.length_append, List.length_cons, List.length_nil, List.length_take, List.length_drop]; omega)) (by first | (simp only [maxLen]; omega) | (simp only [maxLen, List.length_append, List.length_cons, List.length_nil, List.length_take, List.length_drop]; omega)) (Wn.none rfl) rfl ?_
      intro v22 w H
      refine AS rfl rfl (NL (IB (TN (RG (ST (Ex.add64 rfl rfl (by omega)) rfl ?_)))))
      refine MV rfl rfl (NL ?_)
      refine WQ.again3 (k + 1) (v22) (o ++ [(c.toNat : Int)]) ⟨rfl, rfl, rfl, rfl, rfl, trivial⟩ ?_ ?_
      · refine ⟨by omega, ?_, M, H, hb, hcell⟩
        rw [hdn, ← ho, if_neg h6_2]
      · omega
  · refine NL (TN (SQ (CF rfl (WC.exit (WQ.thenExit (WQ.thenExit (WQ.exitHere (TN (SQ (RG (MV rfl rfl (AS rfl rfl (NL (TN (RT ?_)))))))))))))))
    obtain ⟨M, hle, hf, H⟩ := H.freezeRow (v := ov) (enc := encR) (t := 21) (by repeat first | exact .head | apply Rem.tail)
    refine WQ.ret1 rfl rfl H.ext ( ?_)
    rw [ho, List.take_of_length_le (by omega)] at hf
    exact hf
theorem enc1_spec (c : Int) (b : Nat) (bound : Int) : Ct Tryz.prog 187 [encR c, ptr b 0] (fun M => CellM M ⟨b, 0, none⟩ (encR bound)) (fun r M => ∃ v, r = .tuple #[v, .bool (decide (c < bound))] ∧ Bs M v ([ub c])) := by
  refine Ct.of Tryz.func187 (enters Tryz.func187 (by kernel_rfl) rfl) rfl rfl rfl ?_
  intro w0 M0 H hp
  refine SQ (RG (AS rfl rfl (AS rfl rfl (NL (TN (SQ (WC.draw (m := 8) rfl rfl H ?_)))))))
  intro w H
  refine WA.take (i := 0) rfl (by kernel_rfl) (by kernel_rfl) (by kernel_rfl) (fun _ => Ex.move rfl) (Wn.none rfl) rfl rfl (fun _ _ => rfl) (WA.take (i := 1) rfl (by kernel_rfl) (by kernel_rfl) (by kernel_rfl) (fun _ => Ex.convU8 Tryz.underlying21 Tryz.underlying5 rfl) (Wn.none rfl) rfl rfl (fun _ _ => rfl) (WA.take (i := 3) rfl (by kernel_rfl) (by kernel_rfl) (by kernel_rfl) (fun _ => Ex.move rfl) (Wn.none rfl) rfl rfl (fun _ _ => rfl) ?_))
  refine WA.two (i := 2) (j := 4) (by kernel_rfl) rfl rfl ?_ ?_
  · refine WR.lit (enc := encB) ty30 [_] H rfl (by rfl) (fun _ => rfl) rfl rfl (Wn.none rfl) rfl ?_
    intro v7 M w H hle hl7
    replace hp := hp.mono hle
    refine NA (WA.take (i := 6) rfl (by kernel_rfl) (by kernel_rfl) (by kernel_rfl) (fun _ => Ex.assign rfl) (Wn.none rfl) rfl rfl (fun _ _ => rfl) (ON 4 (by kernel_rfl) rfl ?_))
    first | refine WR.step (Ex.loadM H rfl (by assumption) Tryz.isAgg21) (Wn.none rfl) rfl rfl ?_ | refine WR.step (Ex.load1 H rfl (by repeat (first | exact List.Mem.head _ | apply List.Mem.tail)) Tryz.isAgg21 (by rfl)) (Wn.none rfl) rfl rfl ?_
    refine NA (ON 5 (by kernel_rfl) rfl (ST (Ex.lss rfl rfl) rfl (NA (ON 7 (by kernel_rfl) rfl (AS rfl rfl (NA (WA.done (by kernel_rfl) (TN (RT ?_)))))))))
    refine WQ.ret2 rfl rfl rfl H.ext ?_
    exact ⟨_, rfl, hl7⟩
  · first | refine WR.step (Ex.loadM H rfl (by assumption) Tryz.isAgg21) (Wn.none rfl) rfl rfl ?_ | refine WR.step (Ex.load1 H rfl (by repeat (first | exact List.Mem.head _ | apply List.Mem.tail)) Tryz.isAgg21 (by rfl)) (Wn.none rfl) rfl rfl ?_
    refine NA (WA.take (i := 5) rfl (by kernel_rfl) (by kernel_rfl) (by kernel_rfl) (fun _ => Ex.lss rfl rfl) (Wn.none rfl) rfl rfl (fun _ _ => rfl) (ON 2 (by kernel_rfl) rfl (WR.lit (enc := encB) ty30 [_] H rfl (by rfl) (fun _ => rfl) rfl rfl (Wn.none rfl) rfl ?_)))
    intro v7 M w H hle hl7
    replace hp := hp.mono hle
    refine NA (ON 6 (by kernel_rfl) rfl (AS rfl rfl (NA (ON 7 (by kernel_rfl) rfl (AS rfl rfl (NA (WA.done (by kernel_rfl) (TN (RT ?_)))))))))
    refine WQ.ret2 rfl rfl rfl H.ext ?_
    exact ⟨_, rfl, hl7⟩
theorem decU_spec (v : Value) (l : List UInt8) (hs : l.length ≤ 12000) : Ct Tryz.prog 158 [v] (fun M => Bs M v l) (fun r M => Sl M encR r (decU l)) := by
  refine Ct.of Tryz.func158 (enters Tryz.func158 (by kernel_rfl) rfl) rfl rfl rfl ?_
  intro w0 M0 H hp
  refine SQ (RG (AS rfl rfl (NL (TN (SQ (RG (MV rfl rfl (ST (Ex.toStr Tryz.underlying30 Tryz.underlying5 Tryz.underlying9 H (by assumption) rfl) rfl ?_))))))))
  refine WR.runesOf H Tryz.underlying9 Tryz.underlying170 Tryz.underlying21 rfl (by omega) (Wn.none rfl) rfl ?_
  intro v5 M w H hle hl5
  replace hp := hp.mono hle
  refine AS rfl rfl (NL (TN (RT ?_)))
  refine WQ.ret1 rfl rfl H.ext ?_
  exact hl5
theorem encU_spec (c : Int) (h0 : -2147483648 ≤ c) (h1 : c ≤ 2147483647) : Ct Tryz.prog 159 [encR c] (fun _ => True) (fun r M => ∃ v, r = .tuple #[v, .bool true] ∧ Bs M v (utf8 c)) := by
  refine Ct.of Tryz.func159 (enters Tryz.func159 (by kernel_rfl) rfl) rfl rfl rfl ?_
  intro w0 M0 H hp
  refine SQ (RG (AS rfl rfl (AS rfl rfl (NL (TN (SQ (RG (MV rfl rfl (WR.call H (appendRune_spec _ (by omega) (by omega)) rfl (trivial) (Wn.none rfl) rfl ?_)))))))))
  intro v5 M w H hle hr5
  have hf5 := hr5
  refine AS rfl rfl (AS rfl rfl (NL (TN (RT ?_))))
  refine WQ.ret2 rfl rfl rfl H.ext ?_
  exact ⟨_, rfl, hf5⟩
theorem unit_or (x y : UInt8) : ((x.toNat * 2 ^ 8 ||| y.toNat : Nat) : Int) = unit x y := by
  have hy := y.toNat_lt
  have h := Nat.shiftLeft_add_eq_or_of_lt (a := x.toNat) (b := y.toNat) (i := 8) hy
  rw [Nat.shiftLeft_eq] at h
  rw [← h]; unfold unit; omega
theorem unit_spec (v : Value) (l : List UInt8) (b i : Nat) (x y : UInt8) (hs : l.length ≤ 12000) (hx : l[i]? = some x) (hy : l[i + 1]? = some y) : Ct Tryz.prog 189 [encN i, ptr b 0] (fun M => Bs M v l ∧ CellM M ⟨b, 0, none⟩ v) (fun r _ => r = encR (unit x y)) := by
  refine Ct.of Tryz.func189 (enters Tryz.func189 (by kernel_rfl) rfl) rfl rfl rfl ?_
  intro w0 M0 H hp
  obtain ⟨hb, hcell⟩ := hp
  have hxl := x.toNat_lt
  have hyl := y.toNat_lt
  have hil := (List.getElem?_eq_some_iff.1 hy).1
  have hul := unit_lt x y
  refine SQ (RG (AS rfl rfl (NL (TN (SQ (WC.draw (m := 14) rfl rfl H ?_))))))
  intro w H
  refine WA.take (i := 1) rfl (by kernel_rfl) (by kernel_rfl) (by kernel_rfl) (fun _ => Ex.move rfl) (Wn.none rfl) rfl rfl (fun _ _ => rfl) (WA.take (i := 7) rfl (by kernel_rfl) (by kernel_rfl) (by kernel_rfl) (fun _ => Ex.move rfl) (Wn.none rfl) rfl rfl (fun _ _ => rfl) (WA.takeE (v' := encN (i + 1)) (i := 8) rfl (by kernel_rfl) (by kernel_rfl) (by kernel_rfl) (fun _ => Ex.add64 rfl rfl (by omega)) rfl (Wn.none rfl) rfl rfl (fun _ _ => rfl) ?_))
  refine WA.two (i := 0) (j := 6) (by kernel_rfl) rfl rfl ?_ ?_
  · first | refine WR.step (Ex.loadM H rfl (by assumption) Tryz.isAgg30) (Wn.none rfl) rfl rfl ?_ | refine WR.step (Ex.load1 H rfl (by repeat (first | exact List.Mem.head _ | apply List.Mem.tail)) Tryz.isAgg30 (by rfl)) (Wn.none rfl) rfl rfl ?_
    refine NA (WA.takeIdx (i := 2) rfl (by kernel_rfl) (by kernel_rfl) (by kernel_rfl) Tryz.underlying30 Tryz.sizeOf5 (by assumption) rfl rfl (hx) (Wn.none rfl) rfl ?_)
    intro p6 hc6
    refine WA.two (i := 3) (j := 6) (by kernel_rfl) rfl rfl ?_ ?_
    · first | refine WR.step (Ex.loadM H rfl (by assumption) Tryz.isAgg5) (Wn.none rfl) rfl rfl ?_ | refine WR.step (Ex.load1 H rfl (by repeat (first | exact List.Mem.head _ | apply List.Mem.tail)) Tryz.isAgg5 (by rfl)) (Wn.none rfl) rfl rfl ?_
      refine NA (WA.takeE (v' := encR (x.toNat : Int)) (i := 4) rfl (by kernel_rfl) (by kernel_rfl) (by kernel_rfl) (fun _ => Ex.conv Tryz.underlying5 Tryz.underlying21 rfl) (congrArg encR (i32_in (by omega))) (Wn.none rfl) rfl rfl (fun _ _ => rfl) ?_)
      refine WA.takeE (v' := encR ((x.toNat * 2 ^ 8 : Nat) : Int)) (i := 5) rfl (by kernel_rfl) (by kernel_rfl) (by kernel_rfl) (fun _ => Ex.shlK (m := x.toNat) (s := 8) rfl rfl (by decide)) (congrArg encR (i32_in (by omega))) (Wn.none rfl) rfl rfl (fun _ _ => rfl) ?_
      refine ON 6 (by kernel_rfl) rfl ?_
      first | refine WR.step (Ex.loadM H rfl (by assumption) Tryz.isAgg30) (Wn.none rfl) rfl rfl ?_ | refine WR.step (Ex.load1 H rfl (by repeat (first | exact List.Mem.head _ | apply List.Mem.tail)) Tryz.isAgg30 (by rfl)) (Wn.none rfl) rfl rfl ?_
      refine NA (ON 9 (by kernel_rfl) rfl (WR.idxSl Tryz.underlying30 Tryz.sizeOf5 (by assumption) rfl rfl (hy) (Wn.none rfl) rfl ?_))
      intro p13 hc13
      refine NA (ON 10 (by kernel_rfl) rfl ?_)
      first | refine WR.step (Ex.loadM H rfl (by assumption) Tryz.isAgg5) (Wn.none rfl) rfl rfl ?_ | refine WR.step (Ex.load1 H rfl (by repeat (first | exact List.Mem.head _ | apply List.Mem.tail)) Tryz.isAgg5 (by rfl)) (Wn.none rfl) rfl rfl ?_
      refine NA (ON 11 (by kernel_rfl) rfl (WR.stepE (v' := encR (y.toNat : Int)) (Ex.conv Tryz.underlying5 Tryz.underlying21 rfl) (congrArg encR (i32_in (by omega))) (Wn.none rfl) rfl rfl ?_))
      refine NA (ON 12 (by kernel_rfl) rfl (WR.stepE (v' := encR (unit x y)) (Ex.orK (m := (x.toNat * 2 ^ 8)) (s := y.toNat) rfl rfl (by first | decide | (show _ < 256; omega) | (show _ < 4294967296; omega) | (show _ < 18446744073709551616; omega)) (by first | decide | (show _ < 256; omega) | (show _ < 4294967296; omega) | (show _ < 18446744073709551616; omega))) (congrArg encR (by rw [unit_or]; exact i32_in (by omega))) (Wn.none rfl) rfl rfl ?_))
      refine NA (ON 13 (by kernel_rfl) rfl (AS rfl rfl (NA (WA.done (by kernel_rfl) (TN (RT ?_))))))
      refine WQ.ret1 rfl rfl H.ext ?_
      exact rfl
    · first | refine WR.step (Ex.loadM H rfl (by assumption) Tryz.isAgg30) (Wn.none rfl) rfl rfl ?_ | refine WR.step (Ex.load1 H rfl (by repeat (first | exact List.Mem.head _ | apply List.Mem.tail)) Tryz.isAgg30 (by rfl)) (Wn.none rfl) rfl rfl ?_
      refine NA (WA.takeIdx (i := 9) rfl (by kernel_rfl) (by kernel_rfl) (by kernel_rfl) Tryz.underlying30 Tryz.sizeOf5 (by assumption) rfl rfl (hy) (Wn.none rfl) rfl ?_)
      intro p13 hc13
      refine WA.two (i := 3) (j := 10) (by kernel_rfl) rfl rfl ?_ ?_
      · first | refine WR.step (Ex.loadM H rfl (by assumption) Tryz.isAgg5) (Wn.none rfl) rfl rfl ?_ | refine WR.step (Ex.load1 H rfl (by repeat (first | exact List.Mem.head _ | apply List.Mem.tail)) Tryz.isAgg5 (by rfl)) (Wn.none rfl) rfl rfl ?_
        refine NA (WA.takeE (v' := encR (x.toNat : Int)) (i := 4) rfl (by kernel_rfl) (by kernel_rfl) (by kernel_rfl) (fun _ => Ex.conv Tryz.underlying5 Tryz.underlying21 rfl) (congrArg encR (i32_in (by omega))) (Wn.none rfl) rfl rfl (fun _ _ => rfl) ?_)
        refine WA.takeE (v' := encR ((x.toNat * 2 ^ 8 : Nat) : Int)) (i := 5) rfl (by kernel_rfl) (by kernel_rfl) (by kernel_rfl) (fun _ => Ex.shlK (m := x.toNat) (s := 8) rfl rfl (by decide)) (congrArg encR (i32_in (by omega))) (Wn.none rfl) rfl rfl (fun _ _ => rfl) ?_
        refine ON 10 (by kernel_rfl) rfl ?_
        first | refine WR.step (Ex.loadM H rfl (by assumption) Tryz.isAgg5) (Wn.none rfl) rfl rfl ?_ | refine WR.step (Ex.load1 H rfl (by repeat (first | exact List.Mem.head _ | apply List.Mem.tail)) Tryz.isAgg5 (by rfl)) (Wn.none rfl) rfl rfl ?_
        refine NA (ON 11 (by kernel_rfl) rfl (WR.stepE (v' := encR (y.toNat : Int)) (Ex.conv Tryz.underlying5 Tryz.underlying21 rfl) (congrArg encR (i32_in (by omega))) (Wn.none rfl) rfl rfl ?_))
        refine NA (ON 12 (by kernel_rfl) rfl (WR.stepE (v' := encR (unit x y)) (Ex.orK (m := (x.toNat * 2 ^ 8)) (s := y.toNat) rfl rfl (by first | decide | (show _ < 256; omega) | (show _ < 4294967296; omega) | (show _ < 18446744073709551616; omega)) (by first | decide | (show _ < 256; omega) | (show _ < 4294967296; omega) | (show _ < 18446744073709551616; omega))) (congrArg encR (by rw [unit_or]; exact i32_in (by omega))) (Wn.none rfl) rfl rfl ?_))
        refine NA (ON 13 (by kernel_rfl) rfl (AS rfl rfl (NA (WA.done (by kernel_rfl) (TN (RT ?_))))))
        refine WQ.ret1 rfl rfl H.ext ?_
        exact rfl
      · first | refine WR.step (Ex.loadM H rfl (by assumption) Tryz.isAgg5) (Wn.none rfl) rfl rfl ?_ | refine WR.step (Ex.load1 H rfl (by repeat (first | exact List.Mem.head _ | apply List.Mem.tail)) Tryz.isAgg5 (by rfl)) (Wn.none rfl) rfl rfl ?_
        refine NA (WA.takeE (v' := encR (y.toNat : Int)) (i := 11) rfl (by kernel_rfl) (by kernel_rfl) (by kernel_rfl) (fun _ => Ex.conv Tryz.underlying5 Tryz.underlying21 rfl) (congrArg encR (i32_in (by omega))) (Wn.none rfl) rfl rfl (fun _ _ => rfl) ?_)
        refine ON 3 (by kernel_rfl) rfl ?_
        first | refine WR.step (Ex.loadM H rfl (by assumption) Tryz.isAgg5) (Wn.none rfl) rfl rfl ?_ | refine WR.step (Ex.load1 H rfl (by repeat (first | exact List.Mem.head _ | apply List.Mem.tail)) Tryz.isAgg5 (by rfl)) (Wn.none rfl) rfl rfl ?_
        refine NA (ON 4 (by kernel_rfl) rfl (WR.stepE (v' := encR (x.toNat : Int)) (Ex.conv Tryz.underlying5 Tryz.underlying21 rfl) (congrArg encR (i32_in (by omega))) (Wn.none rfl) rfl rfl ?_))
        refine NA (ON 5 (by kernel_rfl) rfl (WR.stepE (v' := encR ((x.toNat * 2 ^ 8 : Nat) : Int)) (Ex.shlK (m := x.toNat) (s := 8) rfl rfl (by decide)) (congrArg encR (i32_in (by omega))) (Wn.none rfl) rfl rfl ?_))
        refine NA (ON 12 (by kernel_rfl) rfl (WR.stepE (v' := encR (unit x y)) (Ex.orK (m := (x.toNat * 2 ^ 8)) (s := y.toNat) rfl rfl (by first | decide | (show _ < 256; omega) | (show _ < 4294967296; omega) | (show _ < 18446744073709551616; omega)) (by first | decide | (show _ < 256; omega) | (show _ < 4294967296; omega) | (show _ < 18446744073709551616; omega))) (congrArg encR (by rw [unit_or]; exact i32_in (by omega))) (Wn.none rfl) rfl rfl ?_))
        refine NA (ON 13 (by kernel_rfl) rfl (AS rfl rfl (NA (WA.done (by kernel_rfl) (TN (RT ?_))))))
        refine WQ.ret1 rfl rfl H.ext ?_
        exact rfl
  · first | refine WR.step (Ex.loadM H rfl (by assumption) Tryz.isAgg30) (Wn.none rfl) rfl rfl ?_ | refine WR.step (Ex.load1 H rfl (by repeat (first | exact List.Mem.head _ | apply List.Mem.tail)) Tryz.isAgg30 (by rfl)) (Wn.none rfl) rfl rfl ?_
    refine NA (WA.takeIdx (i := 9) rfl (by kernel_rfl) (by kernel_rfl) (by kernel_rfl) Tryz.underlying30 Tryz.sizeOf5 (by assumption) rfl rfl (hy) (Wn.none rfl) rfl ?_)
    intro p13 hc13
    refine WA.two (i := 0) (j := 10) (by kernel_rfl) rfl rfl ?_ ?_
    · first | refine WR.step (Ex.loadM H rfl (by assumption) Tryz.isAgg30) (Wn.none rfl) rfl rfl ?_ | refine WR.step (Ex.load1 H rfl (by repeat (first | exact List.Mem.head _ | apply List.Mem.tail)) Tryz.isAgg30 (by rfl)) (Wn.none rfl) rfl rfl ?_
      refine NA (WA.takeIdx (i := 2) rfl (by kernel_rfl) (by kernel_rfl) (by kernel_rfl) Tryz.underlying30 Tryz.sizeOf5 (by assumption) rfl rfl (hx) (Wn.none rfl) rfl ?_)
      intro p6 hc6
      refine WA.two (i := 3) (j := 10) (by kernel_rfl) rfl rfl ?_ ?_
      · first | refine WR.step (Ex.loadM H rfl (by assumption) Tryz.isAgg5) (Wn.none rfl) rfl rfl ?_ | refine WR.step (Ex.load1 H rfl (by repeat (first | exact List.Mem.head _ | apply List.Mem.tail)) Tryz.isAgg5 (by rfl)) (Wn.none rfl) rfl rfl ?_
        refine NA (WA.takeE (v' := encR (x.toNat : Int)) (i := 4) rfl (by kernel_rfl) (by kernel_rfl) (by kernel_rfl) (fun _ => Ex.conv Tryz.underlying5 Tryz.underlying21 rfl) (congrArg encR (i32_in (by omega))) (Wn.none rfl) rfl rfl (fun _ _ => rfl) ?_)
        refine WA.takeE (v' := encR ((x.toNat * 2 ^ 8 : Nat) : Int)) (i := 5) rfl (by kernel_rfl) (by kernel_rfl) (by kernel_rfl) (fun _ => Ex.shlK (m := x.toNat) (s := 8) rfl rfl (by decide)) (congrArg encR (i32_in (by omega))) (Wn.none rfl) rfl rfl (fun _ _ => rfl) ?_
        refine ON 10 (by kernel_rfl) rfl ?_
        first | refine WR.step (Ex.loadM H rfl (by assumption) Tryz.isAgg5) (Wn.none rfl) rfl rfl ?_ | refine WR.step (Ex.load1 H rfl (by repeat (first | exact List.Mem.head _ | apply List.Mem.tail)) Tryz.isAgg5 (by rfl)) (Wn.none rfl) rfl rfl ?_
        refine NA (ON 11 (by kernel_rfl) rfl (WR.stepE (v' := encR (y.toNat : Int)) (Ex.conv Tryz.underlying5 Tryz.underlying21 rfl) (congrArg encR (i32_in (by omega))) (Wn.none rfl) rfl rfl ?_))
        refine NA (ON 12 (by kernel_rfl) rfl (WR.stepE (v' := encR (unit x y)) (Ex.orK (m := (x.toNat * 2 ^ 8)) (s := y.toNat) rfl rfl (by first | decide | (show _ < 256; omega) | (show _ < 4294967296; omega) | (show _ < 18446744073709551616; omega)) (by first | decide | (show _ < 256; omega) | (show _ < 4294967296; omega) | (show _ < 18446744073709551616; omega))) (congrArg encR (by rw [unit_or]; exact i32_in (by omega))) (Wn.none rfl) rfl rfl ?_))
        refine NA (ON 13 (by kernel_rfl) rfl (AS rfl rfl (NA (WA.done (by kernel_rfl) (TN (RT ?_))))))
        refine WQ.ret1 rfl rfl H.ext ?_
        exact rfl
      · first | refine WR.step (Ex.loadM H rfl (by assumption) Tryz.isAgg5) (Wn.none rfl) rfl rfl ?_ | refine WR.step (Ex.load1 H rfl (by repeat (first | exact List.Mem.head _ | apply List.Mem.tail)) Tryz.isAgg5 (by rfl)) (Wn.none rfl) rfl rfl ?_
        refine NA (WA.takeE (v' := encR (y.toNat : Int)) (i := 11) rfl (by kernel_rfl) (by kernel_rfl) (by kernel_rfl) (fun _ => Ex.conv Tryz.underlying5 Tryz.underlying21 rfl) (congrArg encR (i32_in (by omega))) (Wn.none rfl) rfl rfl (fun _ _ => rfl) ?_)
        refine ON 3 (by kernel_rfl) rfl ?_
        first | refine WR.step (Ex.loadM H rfl (by assumption) Tryz.isAgg5) (Wn.none rfl) rfl rfl ?_ | refine WR.step (Ex.load1 H rfl (by repeat (first | exact List.Mem.head _ | apply List.Mem.tail)) Tryz.isAgg5 (by rfl)) (Wn.none rfl) rfl rfl ?_
        refine NA (ON 4 (by kernel_rfl) rfl (WR.stepE (v' := encR (x.toNat : Int)) (Ex.conv Tryz.underlying5 Tryz.underlying21 rfl) (congrArg encR (i32_in (by omega))) (Wn.none rfl) rfl rfl ?_))
        refine NA (ON 5 (by kernel_rfl) rfl (WR.stepE (v' := encR ((x.toNat * 2 ^ 8 : Nat) : Int)) (Ex.shlK (m := x.toNat) (s := 8) rfl rfl (by decide)) (congrArg encR (i32_in (by omega))) (Wn.none rfl) rfl rfl ?_))
        refine NA (ON 12 (by kernel_rfl) rfl (WR.stepE (v' := encR (unit x y)) (Ex.orK (m := (x.toNat * 2 ^ 8)) (s := y.toNat) rfl rfl (by first | decide | (show _ < 256; omega) | (show _ < 4294967296; omega) | (show _ < 18446744073709551616; omega)) (by first | decide | (show _ < 256; omega) | (show _ < 4294967296; omega) | (show _ < 18446744073709551616; omega))) (congrArg encR (by rw [unit_or]; exact i32_in (by omega))) (Wn.none rfl) rfl rfl ?_))
        refine NA (ON 13 (by kernel_rfl) rfl (AS rfl rfl (NA (WA.done (by kernel_rfl) (TN (RT ?_))))))
        refine WQ.ret1 rfl rfl H.ext ?_
        exact rfl
    · first | refine WR.step (Ex.loadM H rfl (by assumption) Tryz.isAgg5) (Wn.none rfl) rfl rfl ?_ | refine WR.step (Ex.load1 H rfl (by repeat (first | exact List.Mem.head _ | apply List.Mem.tail)) Tryz.isAgg5 (by rfl)) (Wn.none rfl) rfl rfl ?_
      refine NA (WA.takeE (v' := encR (y.toNat : Int)) (i := 11) rfl (by kernel_rfl) (by kernel_rfl) (by kernel_rfl) (fun _ => Ex.conv Tryz.underlying5 Tryz.underlying21 rfl) (congrArg encR (i32_in (by omega))) (Wn.none rfl) rfl rfl (fun _ _ => rfl) ?_)
      refine ON 0 (by kernel_rfl) rfl ?_
      first | refine WR.step (Ex.loadM H rfl (by assumption) Tryz.isAgg30) (Wn.none rfl) rfl rfl ?_ | refine WR.step (Ex.load1 H rfl (by repeat (first | exact List.Mem.head _ | apply List.Mem.tail)) Tryz.isAgg30 (by rfl)) (Wn.none rfl) rfl rfl ?_
      refine NA (ON 2 (by kernel_rfl) rfl (WR.idxSl Tryz.underlying30 Tryz.sizeOf5 (by assumption) rfl rfl (hx) (Wn.none rfl) rfl ?_))
      intro p6 hc6
      refine NA (ON 3 (by kernel_rfl) rfl ?_)
      first | refine WR.step (Ex.loadM H rfl (by assumption) Tryz.isAgg5) (Wn.none rfl) rfl rfl ?_ | refine WR.step (Ex.load1 H rfl (by repeat (first | exact List.Mem.head _ | apply List.Mem.tail)) Tryz.isAgg5 (by rfl)) (Wn.none rfl) rfl rfl ?_
      refine NA (ON 4 (by kernel_rfl) rfl (WR.stepE (v' := encR (x.toNat : Int)) (Ex.conv Tryz.underlying5 Tryz.underlying21 rfl) (congrArg encR (i32_in (by omega))) (Wn.none rfl) rfl rfl ?_))
      refine NA (ON 5 (by kernel_rfl) rfl (WR.stepE (v' := encR ((x.toNat * 2 ^ 8 : Nat) : Int)) (Ex.shlK (m := x.toNat) (s := 8) rfl rfl (by decide)) (congrArg encR (i32_in (by omega))) (Wn.none rfl) rfl rfl ?_))
      refine NA (ON 12 (by kernel_rfl) rfl (WR.stepE (v' := encR (unit x y)) (Ex.orK (m := (x.toNat * 2 ^ 8)) (s := y.toNat) rfl rfl (by first | decide | (show _ < 256; omega) | (show _ < 4294967296; omega) | (show _ < 18446744073709551616; omega)) (by first | decide | (show _ < 256; omega) | (show _ < 4294967296; omega) | (show _ < 18446744073709551616; omega))) (congrArg encR (by rw [unit_or]; exact i32_in (by omega))) (Wn.none rfl) rfl rfl ?_))
      refine NA (ON 13 (by kernel_rfl) rfl (AS rfl rfl (NA (WA.done (by kernel_rfl) (TN (RT ?_))))))
      refine WQ.ret1 rfl rfl H.ext ?_
      exact rfl
end Go.Proofs.YtogkmhjnojphiaaGreatDoor
end
section
set_option linter.unusedVariables false
set_option linter.unusedSimpArgs false
namespace Go.Proofs.YtogkmhjnojphiaaGreatDoor
open Go Go.RowKit Go.Ph
open Go.Ph.Gr Go.Ph.Utf Go.Ph.Chs
theorem units_spec (v : Value) (l : List UInt8) (hs : l.length ≤ 12000) : Ct Tryz.prog 161 [v] (fun M => Bs M v l) (fun r M => Sl M encR r (decW l)) := by
  refine Ct.of Tryz.func161 (enters Tryz.func161 (by kernel_rfl) rfl) rfl rfl rfl ?_
  intro w0 M0 H hp
  refine SQ (RG (WR.box [_] H rfl (One.cells (by first | exact One.slice _ _ _ | exact Sl.one (by assumption) | exact StX.rowOne H (by repeat (first | exact List.Mem.head _ | apply List.Mem.tail)))) (Wn.none rfl) rfl ?_))
  intro b1 w H
  obtain ⟨M, hle, hM, H⟩ := H.freezeBlk (by repeat first | exact .head | apply Rem.tail)
  replace hp := hp.mono hle
  have hcell : CellM M ⟨b1, 0, none⟩ v := ⟨rfl, _, _, _, hM, rfl⟩
  refine AS rfl rfl (NL (TN (SQ (RG (AS rfl rfl (NL (TN (SQ (RG (ST (Ex.makeFunc rfl) rfl (AS rfl rfl (NL (TN (SQ (SQ (RG (AS rfl rfl (NL (TN (BL ?_))))))))))))))))))))
  replace H := H.newRow 21 encR
  refine WC.loop3 (fun (i : Nat) (ov : Value) (o : List Int) => [(1, ptr b1 0), (3, ov), (4, .func (.func 189) #[] #[ptr b1 0]), (5, encN i)]) (fun (i : Nat) (ov : Value) (o : List Int) w => i ≤ l.length ∧ o.length ≤ i ∧ decW l = o ++ decW (l.drop i) ∧ ∃ M, St w0 M0 M [RowI 21 encR ov o] w ∧ Bs M v l ∧ CellM M ⟨b1, 0, none⟩ v) (fun (i : Nat) (ov : Value) (o : List Int) => l.length - i) (0) (_) (_) ⟨rfl, rfl, rfl, rfl, trivial⟩ (⟨by omega, by simp, rfl, M, H, hp, hcell⟩) ?_
  intro i ov o w
  rintro ⟨hi, hol, hdec, M, H, hp, hcell⟩
  refine SQ (SQ (RG (MV rfl rfl ?_)))
  first | refine WR.step (Ex.loadM H rfl (by assumption) Tryz.isAgg30) (Wn.none rfl) rfl rfl ?_ | refine WR.step (Ex.load1 H rfl (by repeat (first | exact List.Mem.head _ | apply List.Mem.tail)) Tryz.isAgg30 (by rfl)) (Wn.none rfl) rfl rfl ?_
  first | refine WR.step (Ex.lenSl Tryz.underlying30 (by assumption) rfl) (Wn.none rfl) rfl rfl ?_ | refine WR.step (Ex.lenRow Tryz.underlying30 H (by repeat (first | exact List.Mem.head _ | apply List.Mem.tail)) rfl) (Wn.none rfl) rfl rfl ?_ | refine WR.step (Ex.lenSlice Tryz.underlying30 rfl) (Wn.none rfl) rfl rfl ?_
  refine WR.split (Ex.lss rfl rfl) (Wn.none rfl) rfl rfl (fun h4_3 => ?_) (fun h4_3 => ?_)
  · obtain ⟨x, hx⟩ : ∃ c, l[i]? = some c := ⟨_, List.getElem?_eq_getElem (by omega)⟩
    refine NL (TN (CT rfl (SK (TN (SQ (BL (SQ (SQ (RG (MV rfl rfl (ST (Ex.add64 rfl rfl (by omega)) rfl ?_)))))))))))
    first | refine WR.step (Ex.loadM H rfl (by assumption) Tryz.isAgg30) (Wn.none rfl) rfl rfl ?_ | refine WR.step (Ex.load1 H rfl (by repeat (first | exact List.Mem.head _ | apply List.Mem.tail)) Tryz.isAgg30 (by rfl)) (Wn.none rfl) rfl rfl ?_
    first | refine WR.step (Ex.lenSl Tryz.underlying30 (by assumption) rfl) (Wn.none rfl) rfl rfl ?_ | refine WR.step (Ex.lenRow Tryz.underlying30 H (by repeat (first | exact List.Mem.head _ | apply List.Mem.tail)) rfl) (Wn.none rfl) rfl rfl ?_ | refine WR.step (Ex.lenSlice Tryz.underlying30 rfl) (Wn.none rfl) rfl rfl ?_
    refine WR.split (Ex.eql rfl rfl) (Wn.none rfl) rfl rfl (fun h6_4 => ?_) (fun h6_4 => ?_)
    · have hlast : l.drop i = [x] := by
        obtain ⟨e1, e2⟩ := List.getElem?_eq_some_iff.1 hx
        rw [List.drop_eq_getElem_cons e1, e2, List.drop_eq_nil_of_le (by omega)]
      refine NL (TN (CT rfl (SQ (RG (MV rfl rfl (WR.lit (enc := encR) ty170 [_] H rfl (by rfl) (fun _ => rfl) rfl rfl (Wn.none rfl) rfl ?_))))))
      intro v21 M w H hle hl21
      replace hp := hp.mono hle
      replace hcell := hcell.mono hle
      refine WR.appendSl ty170 (fun _ => rfl) H rfl (fun _ => by repeat first | exact .head | apply Upd.tail) rfl (by assumption) (by first | omega | (simp only [List.length_append, List.length_cons, List.length_nil, List.length_take, List.length_drop]; omega)) (by first | (simp only [maxLen]; omega) | (simp only [maxLen, List.length_append, List.length_cons, List.length_nil, List.length_take, List.length_drop]; omega)) (Wn.none rfl) rfl ?_
      intro v22 w H
      refine AS rfl rfl (NL (TN (RT ?_)))
      obtain ⟨M, hle, hf, H⟩ := H.freezeRow (v := v22) (enc := encR) (t := 21) (by repeat first | exact .head | apply Rem.tail)
      refine WQ.ret1 rfl rfl H.ext ( ?_)
      rw [hdec, hlast]
      simpa [decW] using hf
    · obtain ⟨y, hy⟩ : ∃ c, l[i + 1]? = some c := ⟨_, List.getElem?_eq_getElem (by omega)⟩
      have hd : l.drop i = x :: y :: l.drop (i + 2) := by
        obtain ⟨e1, e2⟩ := List.getElem?_eq_some_iff.1 hx
        obtain ⟨e3, e4⟩ := List.getElem?_eq_some_iff.1 hy
        rw [List.drop_eq_getElem_cons e1, e2, List.drop_eq_getElem_cons e3, e4]
      have hul := unit_lt x y
      refine NL (TN (CF rfl (SK (TN (SQ (RG (MV rfl rfl (MV rfl rfl (WR.callV (cap := [ptr b1 0]) H (unit_spec v l b1 i x y hs hx hy) rfl rfl (⟨by assumption, by assumption⟩) (Wn.none rfl) rfl ?_)))))))))
      intro v25 M w H hle hr25
      replace hp := hp.mono hle
      replace hcell := hcell.mono hle
      obtain rfl := hr25
      refine AS rfl rfl (NL (TN (SQ (SQ (RG (MV rfl rfl ?_))))))
      refine WR.split (Ex.geq rfl rfl) (Wn.none rfl) rfl rfl (fun h9_1 => ?_) (fun h9_1 => ?_)
      · refine MV rfl rfl (SG (Ex.move rfl) rfl rfl rfl ?_)
        refine WR.split (Ex.lss rfl rfl) (Wn.some rfl rfl rfl) rfl rfl (fun h9_4 => ?_) (fun h9_4 => ?_)
        · refine PT rfl rfl rfl (MV rfl rfl (SG (Ex.move rfl) rfl rfl rfl (SG (Ex.add64 rfl rfl (by omega)) rfl rfl rfl ?_)))
          first | refine WR.step (Ex.loadM H rfl (by assumption) Tryz.isAgg30) (Wn.some rfl rfl rfl) rfl rfl ?_ | refine WR.step (Ex.load1 H rfl (by repeat (first | exact List.Mem.head _ | apply List.Mem.tail)) Tryz.isAgg30 (by rfl)) (Wn.some rfl rfl rfl) rfl rfl ?_
          first | refine WR.step (Ex.lenSl Tryz.underlying30 (by assumption) rfl) (Wn.some rfl rfl rfl) rfl rfl ?_ | refine WR.step (Ex.lenRow Tryz.underlying30 H (by repeat (first | exact List.Mem.head _ | apply List.Mem.tail)) rfl) (Wn.some rfl rfl rfl) rfl rfl ?_ | refine WR.step (Ex.lenSlice Tryz.underlying30 rfl) (Wn.some rfl rfl rfl) rfl rfl ?_
          refine WR.split (Ex.lss rfl rfl) (Wn.some rfl rfl rfl) rfl rfl (fun h9_11 => ?_) (fun h9_11 => ?_)
          · obtain ⟨x2, hx2⟩ : ∃ c, l[i + 2]? = some c := ⟨_, List.getElem?_eq_getElem (by omega)⟩
            obtain ⟨y2, hy2⟩ : ∃ c, l[i + 3]? = some c := ⟨_, List.getElem?_eq_getElem (by omega)⟩
            have hd2 : l.drop (i + 2) = x2 :: y2 :: l.drop (i + 2 + 2) := by
              obtain ⟨e1, e2⟩ := List.getElem?_eq_some_iff.1 hx2
              obtain ⟨e3, e4⟩ := List.getElem?_eq_some_iff.1 hy2
              rw [List.drop_eq_getElem_cons e1, e2, List.drop_eq_getElem_cons e3, e4]
            have hul2 := unit_lt x2 y2
            refine PT rfl rfl rfl (NL (TN (CT rfl (SQ (RG (MV rfl rfl (MV rfl rfl (WR.stepE (v' := encN (i + 2)) (Ex.add64 rfl rfl (by omega)) rfl (Wn.none rfl) rfl rfl ?_))))))))
            refine WR.callV (cap := [ptr b1 0]) H (unit_spec v l b1 (i + 2) x2 y2 hs hx2 hy2) rfl rfl (⟨by assumption, by assumption⟩) (Wn.none rfl) rfl ?_
            intro v42 M w H hle hr42
            replace hp := hp.mono hle
            replace hcell := hcell.mono hle
            obtain rfl := hr42
            refine AS rfl rfl (NL (TN (SQ (RG (MV rfl rfl ?_)))))
            refine WR.split (Ex.geq rfl rfl) (Wn.none rfl) rfl rfl (fun h11_1 => ?_) (fun h11_1 => ?_)
            · refine MV rfl rfl (SG (Ex.move rfl) rfl rfl rfl ?_)
              refine WR.split (Ex.lss rfl rfl) (Wn.some rfl rfl rfl) rfl rfl (fun h11_4 => ?_) (fun h11_4 => ?_)
              · refine PT rfl rfl rfl (NL (TN (CT rfl (SQ (RG (MV rfl rfl (WR.stepE (v' := encR (((unit x y - 55296).toNat : Nat) : Int)) (Ex.subW rfl rfl (i32_in (by omega))) (congrArg encR (by omega)) (Wn.none rfl) rfl rfl ?_)))))))
                refine WR.stepE (v' := encR (1024 * (unit x y - 55296))) (Ex.shlK (m := (unit x y - 55296).toNat) (s := 10) rfl rfl (by decide)) (congrArg encR (by rw [i32_in (by omega)]; omega)) (Wn.none rfl) rfl rfl ?_
                refine ST (Ex.addW rfl rfl (i32_in (by omega))) rfl ?_
                refine MV rfl rfl (ST (Ex.addW rfl rfl (i32_in (by omega))) rfl ?_)
                refine ST (Ex.subW rfl rfl (i32_in (by omega))) rfl ?_
                refine AS rfl rfl (NL (TN (RG (MV rfl rfl (WR.stepE (v' := encN (i + 2)) (Ex.add64 rfl rfl (by omega)) rfl (Wn.none rfl) rfl rfl ?_)))))
                refine AS rfl rfl (NL (TN (SQ (SQ (RG (MV rfl rfl (WR.stepT (Ex.geq rfl rfl) (by omega) (Wn.none rfl) rfl rfl ?_)))))))
                refine MV rfl rfl (SG (Ex.move rfl) rfl rfl rfl (WR.stepF (Ex.lss rfl rfl) (by omega) (Wn.some rfl rfl rfl) rfl rfl ?_))
                refine PT rfl rfl rfl (NL (TN (CF rfl (SK (TN (RG (MV rfl rfl (MV rfl rfl (WR.lit (enc := encR) ty170 [_] H rfl (by rfl) (fun _ => rfl) rfl rfl (Wn.none rfl) rfl ?_)))))))))
                intro v66 M w H hle hl66
                replace hp := hp.mono hle
                replace hcell := hcell.mono hle
                refine WR.appendSl ty170 (fun _ => rfl) H rfl (fun _ => by repeat first | exact .head | apply Upd.tail) rfl (by assumption) (by first | omega | (simp only [List.length_append, List.length_cons, List.length_nil, List.length_take, List.length_drop]; omega)) (by first | (simp only [maxLen]; omega) | (simp only [maxLen, List.length_append, List.length_cons, List.length_nil, List.length_take, List.length_drop]; omega)) (Wn.none rfl) rfl ?_
                intro v67 w H
                refine AS rfl rfl (NL (IB (TN (RG (MV rfl rfl (WR.stepE (v' := encN (i + 2 + 2)) (Ex.add64 rfl rfl (by omega)) rfl (Wn.none rfl) rfl rfl ?_))))))
                refine AS rfl rfl (NL ?_)
                refine WQ.again3 (i + 2 + 2) (v67) (o ++ [65536 + 1024 * (unit x y - 55296) + unit x2 y2 - 56320]) ⟨rfl, rfl, rfl, rfl, trivial⟩ ?_ ?_
                · exact ⟨by omega, by simp; omega, by rw [hdec, hd, hd2, decW_pair ⟨h9_1, h9_4⟩ ⟨h11_1, h11_4⟩]; simp, M, H, hp, hcell⟩
                · omega
              · have hone : decW (x :: y :: l.drop (i + 2)) = unsur (unit x y) :: decW (l.drop (i + 2)) := decW_one (by
                  rintro ⟨_, c', d', r', hr, h3, h4⟩
                  rw [hd2] at hr
                  cases hr
                  omega)
                refine PT rfl rfl rfl (NL (TN (CF rfl (SK (TN (SQ (SQ (RG (MV rfl rfl ?_)))))))))
                refine WR.split (Ex.geq rfl rfl) (Wn.none rfl) rfl rfl (fun h14_1 => ?_) (fun h14_1 => ?_)
                · refine MV rfl rfl (SG (Ex.move rfl) rfl rfl rfl ?_)
                  refine WR.split (Ex.lss rfl rfl) (Wn.some rfl rfl rfl) rfl rfl (fun h14_4 => ?_) (fun h14_4 => ?_)
                  · refine PT rfl rfl rfl (NL (TN (CT rfl (RG (AS rfl rfl (NL (TN (RG (MV rfl rfl (MV rfl rfl (WR.lit (enc := encR) ty170 [_] H rfl (by rfl) (fun _ => rfl) rfl rfl (Wn.none rfl) rfl ?_)))))))))))
                    intro v66 M w H hle hl66
                    replace hp := hp.mono hle
                    replace hcell := hcell.mono hle
                    refine WR.appendSl ty170 (fun _ => rfl) H rfl (fun _ => by repeat first | exact .head | apply Upd.tail) rfl (by assumption) (by first | omega | (simp only [List.length_append, List.length_cons, List.length_nil, List.length_take, List.length_drop]; omega)) (by first | (simp only [maxLen]; omega) | (simp only [maxLen, List.length_append, List.length_cons, List.length_nil, List.length_take, List.length_drop]; omega)) (Wn.none rfl) rfl ?_
                    intro v67 w H
                    refine AS rfl rfl (NL (IB (TN (RG (MV rfl rfl (WR.stepE (v' := encN (i + 2)) (Ex.add64 rfl rfl (by omega)) rfl (Wn.none rfl) rfl rfl ?_))))))
                    refine AS rfl rfl (NL ?_)
                    refine WQ.again3 (i + 2) (v67) (o ++ [65533]) ⟨rfl, rfl, rfl, rfl, trivial⟩ ?_ ?_
                    · exact ⟨by omega, by simp; omega, by rw [hdec, hd, hone, unsur, if_pos ⟨h14_1, h14_4⟩]; simp, M, H, hp, hcell⟩
                    · omega
                  · refine PT rfl rfl rfl (NL (TN (CF rfl (SK (TN (RG (MV rfl rfl (MV rfl rfl (WR.lit (enc := encR) ty170 [_] H rfl (by rfl) (fun _ => rfl) rfl rfl (Wn.none rfl) rfl ?_)))))))))
                    intro v66 M w H hle hl66
                    replace hp := hp.mono hle
                    replace hcell := hcell.mono hle
                    refine WR.appendSl ty170 (fun _ => rfl) H rfl (fun _ => by repeat first | exact .head | apply Upd.tail) rfl (by assumption) (by first | omega | (simp only [List.length_append, List.length_cons, List.length_nil, List.length_take, List.length_drop]; omega)) (by first | (simp only [maxLen]; omega) | (simp only [maxLen, List.length_append, List.length_cons, List.length_nil, List.length_take, List.length_drop]; omega)) (Wn.none rfl) rfl ?_
                    intro v67 w H
                    refine AS rfl rfl (NL (IB (TN (RG (MV rfl rfl (WR.stepE (v' := encN (i + 2)) (Ex.add64 rfl rfl (by omega)) rfl (Wn.none rfl) rfl rfl ?_))))))
                    refine AS rfl rfl (NL ?_)
                    refine WQ.again3 (i + 2) (v67) (o ++ [unit x y]) ⟨rfl, rfl, rfl, rfl, trivial⟩ ?_ ?_
                    · exact ⟨by omega, by simp; omega, by rw [hdec, hd, hone, unsur, if_neg (by omega)]; simp, M, H, hp, hcell⟩
                    · omega
                · refine MV rfl rfl (GF rfl rfl rfl (GF rfl rfl rfl (PF rfl rfl rfl (NL (TN (CF rfl (SK (TN (RG (MV rfl rfl (MV rfl rfl (WR.lit (enc := encR) ty170 [_] H rfl (by rfl) (fun _ => rfl) rfl rfl (Wn.none rfl) rfl ?_))))))))))))
                  intro v66 M w H hle hl66
                  replace hp := hp.mono hle
                  replace hcell := hcell.mono hle
                  refine WR.appendSl ty170 (fun _ => rfl) H rfl (fun _ => by repeat first | exact .head | apply Upd.tail) rfl (by assumption) (by first | omega | (simp only [List.length_append, List.length_cons, List.length_nil, List.length_take, List.length_drop]; omega)) (by first | (simp only [maxLen]; omega) | (simp only [maxLen, List.length_append, List.length_cons, List.length_nil, List.length_take, List.length_drop]; omega)) (Wn.none rfl) rfl ?_
                  intro v67 w H
                  refine AS rfl rfl (NL (IB (TN (RG (MV rfl rfl (WR.stepE (v' := encN (i + 2)) (Ex.add64 rfl rfl (by omega)) rfl (Wn.none rfl) rfl rfl ?_))))))
                  refine AS rfl rfl (NL ?_)
                  refine WQ.again3 (i + 2) (v67) (o ++ [unit x y]) ⟨rfl, rfl, rfl, rfl, trivial⟩ ?_ ?_
                  · exact ⟨by omega, by simp; omega, by rw [hdec, hd, hone, unsur, if_neg (by omega)]; simp, M, H, hp, hcell⟩
                  · omega
            · have hone : decW (x :: y :: l.drop (i + 2)) = unsur (unit x y) :: decW (l.drop (i + 2)) := decW_one (by
                rintro ⟨_, c', d', r', hr, h3, h4⟩
                rw [hd2] at hr
                cases hr
                omega)
              refine MV rfl rfl (GF rfl rfl rfl (GF rfl rfl rfl (PF rfl rfl rfl (NL (TN (CF rfl (SK (TN (SQ (SQ (RG (MV rfl rfl ?_))))))))))))
              refine WR.split (Ex.geq rfl rfl) (Wn.none rfl) rfl rfl (fun h14_1 => ?_) (fun h14_1 => ?_)
              · refine MV rfl rfl (SG (Ex.move rfl) rfl rfl rfl ?_)
                refine WR.split (Ex.lss rfl rfl) (Wn.some rfl rfl rfl) rfl rfl (fun h14_4 => ?_) (fun h14_4 => ?_)
                · refine PT rfl rfl rfl (NL (TN (CT rfl (RG (AS rfl rfl (NL (TN (RG (MV rfl rfl (MV rfl rfl (WR.lit (enc := encR) ty170 [_] H rfl (by rfl) (fun _ => rfl) rfl rfl (Wn.none rfl) rfl ?_)))))))))))
                  intro v66 M w H hle hl66
                  replace hp := hp.mono hle
                  replace hcell := hcell.mono hle
                  refine WR.appendSl ty170 (fun _ => rfl) H rfl (fun _ => by repeat first | exact .head | apply Upd.tail) rfl (by assumption) (by first | omega | (simp only [List.length_append, List.length_cons, List.length_nil, List.length_take, List.length_drop]; omega)) (by first | (simp only [maxLen]; omega) | (simp only [maxLen, List.length_append, List.length_cons, List.length_nil, List.length_take, List.length_drop]; omega)) (Wn.none rfl) rfl ?_
                  intro v67 w H
                  refine AS rfl rfl (NL (IB (TN (RG (MV rfl rfl (WR.stepE (v' := encN (i + 2)) (Ex.add64 rfl rfl (by omega)) rfl (Wn.none rfl) rfl rfl ?_))))))
                  refine AS rfl rfl (NL ?_)
                  refine WQ.again3 (i + 2) (v67) (o ++ [65533]) ⟨rfl, rfl, rfl, rfl, trivial⟩ ?_ ?_
                  · exact ⟨by omega, by simp; omega, by rw [hdec, hd, hone, unsur, if_pos ⟨h14_1, h14_4⟩]; simp, M, H, hp, hcell⟩
                  · omega
                · refine PT rfl rfl rfl (NL (TN (CF rfl (SK (TN (RG (MV rfl rfl (MV rfl rfl (WR.lit (enc := encR) ty170 [_] H rfl (by rfl) (fun _ => rfl) rfl rfl (Wn.none rfl) rfl ?_)))))))))
                  intro v66 M w H hle hl66
                  replace hp := hp.mono hle
                  replace hcell := hcell.mono hle
                  refine WR.appendSl ty170 (fun _ => rfl) H rfl (fun _ => by repeat first | exact .head | apply Upd.tail) rfl (by assumption) (by first | omega | (simp only [List.length_append, List.length_cons, List.length_nil, List.length_take, List.length_drop]; omega)) (by first | (simp only [maxLen]; omega) | (simp only [maxLen, List.length_append, List.length_cons, List.length_nil, List.length_take, List.length_drop]; omega)) (Wn.none rfl) rfl ?_
                  intro v67 w H
                  refine AS rfl rfl (NL (IB (TN (RG (MV rfl rfl (WR.stepE (v' := encN (i + 2)) (Ex.add64 rfl rfl (by omega)) rfl (Wn.none rfl) rfl rfl ?_))))))
                  refine AS rfl rfl (NL ?_)
                  refine WQ.again3 (i + 2) (v67) (o ++ [unit x y]) ⟨rfl, rfl, rfl, rfl, trivial⟩ ?_ ?_
                  · exact ⟨by omega, by simp; omega, by rw [hdec, hd, hone, unsur, if_neg (by omega)]; simp, M, H, hp, hcell⟩
                  · omega
              · refine MV rfl rfl (GF rfl rfl rfl (GF rfl rfl rfl (PF rfl rfl rfl (NL (TN (CF rfl (SK (TN (RG (MV rfl rfl (MV rfl rfl (WR.lit (enc := encR) ty170 [_] H rfl (by rfl) (fun _ => rfl) rfl rfl (Wn.none rfl) rfl ?_))))))))))))
                intro v66 M w H hle hl66
                replace hp := hp.mono hle
                replace hcell := hcell.mono hle
                refine WR.appendSl ty170 (fun _ => rfl) H rfl (fun _ => by repeat first | exact .head | apply Upd.tail) rfl (by assumption) (by first | omega | (simp only [List.length_append, List.length_cons, List.length_nil, List.length_take, List.length_drop]; omega)) (by first | (simp only [maxLen]; omega) | (simp only [maxLen, List.length_append, List.length_cons, List.length_nil, List.length_take, List.length_drop]; omega)) (Wn.none rfl) rfl ?_
                intro v67 w H
                refine AS rfl rfl (NL (IB (TN (RG (MV rfl rfl (WR.stepE (v' := encN (i + 2)) (Ex.add64 rfl rfl (by omega)) rfl (Wn.none rfl) rfl rfl ?_))))))
                refine AS rfl rfl (NL ?_)
                refine WQ.again3 (i + 2) (v67) (o ++ [unit x y]) ⟨rfl, rfl, rfl, rfl, trivial⟩ ?_ ?_
                · exact ⟨by omega, by simp; omega, by rw [hdec, hd, hone, unsur, if_neg (by omega)]; simp, M, H, hp, hcell⟩
                · omega
          · have hone : decW (x :: y :: l.drop (i + 2)) = unsur (unit x y) :: decW (l.drop (i + 2)) := decW_one (by
              rintro ⟨_, c', d', r', hr, _⟩
              have := congrArg List.length hr
              rw [List.length_drop] at this
              simp at this
              omega)
            refine PT rfl rfl rfl (NL (TN (CF rfl (SK (TN (SQ (SQ (RG (MV rfl rfl ?_)))))))))
            refine WR.split (Ex.geq rfl rfl) (Wn.none rfl) rfl rfl (fun h14_1 => ?_) (fun h14_1 => ?_)
            · refine MV rfl rfl (SG (Ex.move rfl) rfl rfl rfl ?_)
              refine WR.split (Ex.lss rfl rfl) (Wn.some rfl rfl rfl) rfl rfl (fun h14_4 => ?_) (fun h14_4 => ?_)
              · refine PT rfl rfl rfl (NL (TN (CT rfl (RG (AS rfl rfl (NL (TN (RG (MV rfl rfl (MV rfl rfl (WR.lit (enc := encR) ty170 [_] H rfl (by rfl) (fun _ => rfl) rfl rfl (Wn.none rfl) rfl ?_)))))))))))
                intro v66 M w H hle hl66
                replace hp := hp.mono hle
                replace hcell := hcell.mono hle
                refine WR.appendSl ty170 (fun _ => rfl) H rfl (fun _ => by repeat first | exact .head | apply Upd.tail) rfl (by assumption) (by first | omega | (simp only [List.length_append, List.length_cons, List.length_nil, List.length_take, List.length_drop]; omega)) (by first | (simp only [maxLen]; omega) | (simp only [maxLen, List.length_append, List.length_cons, List.length_nil, List.length_take, List.length_drop]; omega)) (Wn.none rfl) rfl ?_
                intro v67 w H
                refine AS rfl rfl (NL (IB (TN (RG (MV rfl rfl (WR.stepE (v' := encN (i + 2)) (Ex.add64 rfl rfl (by omega)) rfl (Wn.none rfl) rfl rfl ?_))))))
                refine AS rfl rfl (NL ?_)
                refine WQ.again3 (i + 2) (v67) (o ++ [65533]) ⟨rfl, rfl, rfl, rfl, trivial⟩ ?_ ?_
                · exact ⟨by omega, by simp; omega, by rw [hdec, hd, hone, unsur, if_pos ⟨h14_1, h14_4⟩]; simp, M, H, hp, hcell⟩
                · omega
              · refine PT rfl rfl rfl (NL (TN (CF rfl (SK (TN (RG (MV rfl rfl (MV rfl rfl (WR.lit (enc := encR) ty170 [_] H rfl (by rfl) (fun _ => rfl) rfl rfl (Wn.none rfl) rfl ?_)))))))))
                intro v66 M w H hle hl66
                replace hp := hp.mono hle
                replace hcell := hcell.mono hle
                refine WR.appendSl ty170 (fun _ => rfl) H rfl (fun _ => by repeat first | exact .head | apply Upd.tail) rfl (by assumption) (by first | omega | (simp only [List.length_append, List.length_cons, List.length_nil, List.length_take, List.length_drop]; omega)) (by first | (simp only [maxLen]; omega) | (simp only [maxLen, List.length_append, List.length_cons, List.length_nil, List.length_take, List.length_drop]; omega)) (Wn.none rfl) rfl ?_
                intro v67 w H
                refine AS rfl rfl (NL (IB (TN (RG (MV rfl rfl (WR.stepE (v' := encN (i + 2)) (Ex.add64 rfl rfl (by omega)) rfl (Wn.none rfl) rfl rfl ?_))))))
                refine AS rfl rfl (NL ?_)
                refine WQ.again3 (i + 2) (v67) (o ++ [unit x y]) ⟨rfl, rfl, rfl, rfl, trivial⟩ ?_ ?_
                · exact ⟨by omega, by simp; omega, by rw [hdec, hd, hone, unsur, if_neg (by omega)]; simp, M, H, hp, hcell⟩
                · omega
            · refine MV rfl rfl (GF rfl rfl rfl (GF rfl rfl rfl (PF rfl rfl rfl (NL (TN (CF rfl (SK (TN (RG (MV rfl rfl (MV rfl rfl (WR.lit (enc := encR) ty170 [_] H rfl (by rfl) (fun _ => rfl) rfl rfl (Wn.none rfl) rfl ?_))))))))))))
              intro v66 M w H hle hl66
              replace hp := hp.mono hle
              replace hcell := hcell.mono hle
              refine WR.appendSl ty170 (fun _ => rfl) H rfl (fun _ => by repeat first | exact .head | apply Upd.tail) rfl (by assumption) (by first | omega | (simp only [List.length_append, List.length_cons, List.length_nil, List.length_take, List.length_drop]; omega)) (by first | (simp only [maxLen]; omega) | (simp only [maxLen, List.length_append, List.length_cons, List.length_nil, List.length_take, List.length_drop]; omega)) (Wn.none rfl) rfl ?_
              intro v67 w H
              refine AS rfl rfl (NL (IB (TN (RG (MV rfl rfl (WR.stepE (v' := encN (i + 2)) (Ex.add64 rfl rfl (by omega)) rfl (Wn.none rfl) rfl rfl ?_))))))
              refine AS rfl rfl (NL ?_)
              refine WQ.again3 (i + 2) (v67) (o ++ [unit x y]) ⟨rfl, rfl, rfl, rfl, trivial⟩ ?_ ?_
              · exact ⟨by omega, by simp; omega, by rw [hdec, hd, hone, unsur, if_neg (by omega)]; simp, M, H, hp, hcell⟩
              · omega
        · have hone : decW (x :: y :: l.drop (i + 2)) = unsur (unit x y) :: decW (l.drop (i + 2)) := decW_one (fun h => absurd h.1.2 h9_4)
          refine PT rfl rfl rfl (MV rfl rfl (GF rfl rfl rfl (GF rfl rfl rfl (GF rfl rfl rfl (GF rfl rfl rfl (GF rfl rfl rfl (PF rfl rfl rfl (NL (TN (CF rfl (SK (TN (SQ (SQ (RG (MV rfl rfl ?_))))))))))))))))
          refine WR.split (Ex.geq rfl rfl) (Wn.none rfl) rfl rfl (fun h14_1 => ?_) (fun h14_1 => ?_)
          · refine MV rfl rfl (SG (Ex.move rfl) rfl rfl rfl ?_)
            refine WR.split (Ex.lss rfl rfl) (Wn.some rfl rfl rfl) rfl rfl (fun h14_4 => ?_) (fun h14_4 => ?_)
            · refine PT rfl rfl rfl (NL (TN (CT rfl (RG (AS rfl rfl (NL (TN (RG (MV rfl rfl (MV rfl rfl (WR.lit (enc := encR) ty170 [_] H rfl (by rfl) (fun _ => rfl) rfl rfl (Wn.none rfl) rfl ?_)))))))))))
              intro v66 M w H hle hl66
              replace hp := hp.mono hle
              replace hcell := hcell.mono hle
              refine WR.appendSl ty170 (fun _ => rfl) H rfl (fun _ => by repeat first | exact .head | apply Upd.tail) rfl (by assumption) (by first | omega | (simp only [List.length_append, List.length_cons, List.length_nil, List.length_take, List.length_drop]; omega)) (by first | (simp only [maxLen]; omega) | (simp only [maxLen, List.length_append, List.length_cons, List.length_nil, List.length_take, List.length_drop]; omega)) (Wn.none rfl) rfl ?_
              intro v67 w H
              refine AS rfl rfl (NL (IB (TN (RG (MV rfl rfl (WR.stepE (v' := encN (i + 2)) (Ex.add64 rfl rfl (by omega)) rfl (Wn.none rfl) rfl rfl ?_))))))
              refine AS rfl rfl (NL ?_)
              refine WQ.again3 (i + 2) (v67) (o ++ [65533]) ⟨rfl, rfl, rfl, rfl, trivial⟩ ?_ ?_
              · exact ⟨by omega, by simp; omega, by rw [hdec, hd, hone, unsur, if_pos ⟨h14_1, h14_4⟩]; simp, M, H, hp, hcell⟩
              · omega
            · refine PT rfl rfl rfl (NL (TN (CF rfl (SK (TN (RG (MV rfl rfl (MV rfl rfl (WR.lit (enc := encR) ty170 [_] H rfl (by rfl) (fun _ => rfl) rfl rfl (Wn.none rfl) rfl ?_)))))))))
              intro v66 M w H hle hl66
              replace hp := hp.mono hle
              replace hcell := hcell.mono hle
              refine WR.appendSl ty170 (fun _ => rfl) H rfl (fun _ => by repeat first | exact .head | apply Upd.tail) rfl (by assumption) (by first | omega | (simp only [List.length_append, List.length_cons, List.length_nil, List.length_take, List.length_drop]; omega)) (by first | (simp only [maxLen]; omega) | (simp only [maxLen, List.length_append, List.length_cons, List.length_nil, List.length_take, List.length_drop]; omega)) (Wn.none rfl) rfl ?_
              intro v67 w H
              refine AS rfl rfl (NL (IB (TN (RG (MV rfl rfl (WR.stepE (v' := encN (i + 2)) (Ex.add64 rfl rfl (by omega)) rfl (Wn.none rfl) rfl rfl ?_))))))
              refine AS rfl rfl (NL ?_)
              refine WQ.again3 (i + 2) (v67) (o ++ [unit x y]) ⟨rfl, rfl, rfl, rfl, trivial⟩ ?_ ?_
              · exact ⟨by omega, by simp; omega, by rw [hdec, hd, hone, unsur, if_neg (by omega)]; simp, M, H, hp, hcell⟩
              · omega
          · refine MV rfl rfl (GF rfl rfl rfl (GF rfl rfl rfl (PF rfl rfl rfl (NL (TN (CF rfl (SK (TN (RG (MV rfl rfl (MV rfl rfl (WR.lit (enc := encR) ty170 [_] H rfl (by rfl) (fun _ => rfl) rfl rfl (Wn.none rfl) rfl ?_))))))))))))
            intro v66 M w H hle hl66
            replace hp := hp.mono hle
            replace hcell := hcell.mono hle
            refine WR.appendSl ty170 (fun _ => rfl) H rfl (fun _ => by repeat first | exact .head | apply Upd.tail) rfl (by assumption) (by first | omega | (simp only [List.length_append, List.length_cons, List.length_nil, List.length_take, List.length_drop]; omega)) (by first | (simp only [maxLen]; omega) | (simp only [maxLen, List.length_append, List.length_cons, List.length_nil, List.length_take, List.length_drop]; omega)) (Wn.none rfl) rfl ?_
            intro v67 w H
            refine AS rfl rfl (NL (IB (TN (RG (MV rfl rfl (WR.stepE (v' := encN (i + 2)) (Ex.add64 rfl rfl (by omega)) rfl (Wn.none rfl) rfl rfl ?_))))))
            refine AS rfl rfl (NL ?_)
            refine WQ.again3 (i + 2) (v67) (o ++ [unit x y]) ⟨rfl, rfl, rfl, rfl, trivial⟩ ?_ ?_
            · exact ⟨by omega, by simp; omega, by rw [hdec, hd, hone, unsur, if_neg (by omega)]; simp, M, H, hp, hcell⟩
            · omega
      · have hone : decW (x :: y :: l.drop (i + 2)) = unsur (unit x y) :: decW (l.drop (i + 2)) := decW_one (fun h => absurd h.1.1 h9_1)
        refine MV rfl rfl (GF rfl rfl rfl (GF rfl rfl rfl (PF rfl rfl rfl (MV rfl rfl (GF rfl rfl rfl (GF rfl rfl rfl (GF rfl rfl rfl (GF rfl rfl rfl (GF rfl rfl rfl (PF rfl rfl rfl (NL (TN (CF rfl (SK (TN (SQ (SQ (RG (MV rfl rfl ?_)))))))))))))))))))
        refine WR.split (Ex.geq rfl rfl) (Wn.none rfl) rfl rfl (fun h14_1 => ?_) (fun h14_1 => ?_)
        · refine MV rfl rfl (SG (Ex.move rfl) rfl rfl rfl ?_)
          refine WR.split (Ex.lss rfl rfl) (Wn.some rfl rfl rfl) rfl rfl (fun h14_4 => ?_) (fun h14_4 => ?_)
          · refine PT rfl rfl rfl (NL (TN (CT rfl (RG (AS rfl rfl (NL (TN (RG (MV rfl rfl (MV rfl rfl (WR.lit (enc := encR) ty170 [_] H rfl (by rfl) (fun _ => rfl) rfl rfl (Wn.none rfl) rfl ?_)))))))))))
            intro v66 M w H hle hl66
            replace hp := hp.mono hle
            replace hcell := hcell.mono hle
            refine WR.appendSl ty170 (fun _ => rfl) H rfl (fun _ => by repeat first | exact .head | apply Upd.tail) rfl (by assumption) (by first | omega | (simp only [List.length_append, List.length_cons, List.length_nil, List.length_take, List.length_drop]; omega)) (by first | (simp only [maxLen]; omega) | (simp only [maxLen, List.length_append, List.length_cons, List.length_nil, List.length_take, List.length_drop]; omega)) (Wn.none rfl) rfl ?_
            intro v67 w H
            refine AS rfl rfl (NL (IB (TN (RG (MV rfl rfl (WR.stepE (v' := encN (i + 2)) (Ex.add64 rfl rfl (by omega)) rfl (Wn.none rfl) rfl rfl ?_))))))
            refine AS rfl rfl (NL ?_)
            refine WQ.again3 (i + 2) (v67) (o ++ [65533]) ⟨rfl, rfl, rfl, rfl, trivial⟩ ?_ ?_
            · exact ⟨by omega, by simp; omega, by rw [hdec, hd, hone, unsur, if_pos ⟨h14_1, h14_4⟩]; simp, M, H, hp, hcell⟩
            · omega
          · refine PT rfl rfl rfl (NL (TN (CF rfl (SK (TN (RG (MV rfl rfl (MV rfl rfl (WR.lit (enc := encR) ty170 [_] H rfl (by rfl) (fun _ => rfl) rfl rfl (Wn.none rfl) rfl ?_)))))))))
            intro v66 M w H hle hl66
            replace hp := hp.mono hle
            replace hcell := hcell.mono hle
            refine WR.appendSl ty170 (fun _ => rfl) H rfl (fun _ => by repeat first | exact .head | apply Upd.tail) rfl (by assumption) (by first | omega | (simp only [List.length_append, List.length_cons, List.length_nil, List.length_take, List.length_drop]; omega)) (by first | (simp only [maxLen]; omega) | (simp only [maxLen, List.length_append, List.length_cons, List.length_nil, List.length_take, List.length_drop]; omega)) (Wn.none rfl) rfl ?_
            intro v67 w H
            refine AS rfl rfl (NL (IB (TN (RG (MV rfl rfl (WR.stepE (v' := encN (i + 2)) (Ex.add64 rfl rfl (by omega)) rfl (Wn.none rfl) rfl rfl ?_))))))
            refine AS rfl rfl (NL ?_)
            refine WQ.again3 (i + 2) (v67) (o ++ [unit x y]) ⟨rfl, rfl, rfl, rfl, trivial⟩ ?_ ?_
            · exact ⟨by omega, by simp; omega, by rw [hdec, hd, hone, unsur, if_neg (by omega)]; simp, M, H, hp, hcell⟩
            · omega
        · refine MV rfl rfl (GF rfl rfl rfl (GF rfl rfl rfl (PF rfl rfl rfl (NL (TN (CF rfl (SK (TN (RG (MV rfl rfl (MV rfl rfl (WR.lit (enc := encR) ty170 [_] H rfl (by rfl) (fun _ => rfl) rfl rfl (Wn.none rfl) rfl ?_))))))))))))
          intro v66 M w H hle hl66
          replace hp := hp.mono hle
          replace hcell := hcell.mono hle
          refine WR.appendSl ty170 (fun _ => rfl) H rfl (fun _ => by repeat first | exact .head | apply Upd.tail) rfl (by assumption) (by first | omega | (simp only [List.length_append, List.length_cons, List.length_nil, List.length_take, List.length_drop]; omega)) (by first | (simp only [maxLen]; omega) | (simp only [maxLen, List.length_append, List.length_cons, List.length_nil, List.length_take, List.length_drop]; omega)) (Wn.none rfl) rfl ?_
          intro v67 w H
          refine AS rfl rfl (NL (IB (TN (RG (MV rfl rfl (WR.stepE (v' := encN (i + 2)) (Ex.add64 rfl rfl (by omega)) rfl (Wn.none rfl) rfl rfl ?_))))))
          refine AS rfl rfl (NL ?_)
          refine WQ.again3 (i + 2) (v67) (o ++ [unit x y]) ⟨rfl, rfl, rfl, rfl, trivial⟩ ?_ ?_
          · exact ⟨by omega, by simp; omega, by rw [hdec, hd, hone, unsur, if_neg (by omega)]; simp, M, H, hp, hcell⟩
          · omega
  · have hend : decW l = o := by rw [hdec, List.drop_eq_nil_of_le (by omega)]; simp [decW]
    refine NL (TN (CF rfl (WC.exit (WQ.thenExit (WQ.thenExit (WQ.exitHere (TN (SQ (RG (MV rfl rfl (AS rfl rfl (NL (TN (RT ?_))))))))))))))
    obtain ⟨M, hle, hf, H⟩ := H.freezeRow (v := ov) (enc := encR) (t := 21) (by repeat first | exact .head | apply Rem.tail)
    refine WQ.ret1 rfl rfl H.ext ( ?_)
    rw [hend]
    exact hf
theorem ub_mod (a : Int) : ub (a % 256) = ub a := by
  unfold ub; rw [Int.emod_emod_of_dvd _ (Int.dvd_refl 256)]
theorem encK0 : encK 0 = encS 128 := rfl
theorem encK1 : encK 1 = encS 256 := rfl
theorem encK2 : encK 2 = encU := rfl
theorem encK3 : encK 3 = encW := rfl
def encWb (c : Int) : List UInt8 := if c < 65536 then [ub (c / 256), ub (c % 256)] else [ub (hiS c / 256), ub (hiS c % 256), ub (loS c / 256), ub (loS c % 256)]
theorem hiS_nat {m : Nat} (h : 65536 ≤ m) : hiS (m : Int) = ((55296 + (m - 65536) / 2 ^ 10 : Nat) : Int) := by unfold hiS; omega
theorem loS_nat {m : Nat} (h : 65536 ≤ m) : loS (m : Int) = ((56320 + (m - 65536) % 1024 : Nat) : Int) := by unfold loS; omega
theorem div256 (n : Nat) : ((n / 2 ^ 8 : Nat) : Int) = (n : Int) / 256 := by omega
theorem double_spec (m : Nat) (hm : m ≤ 1114111) : Ct Tryz.prog 162 [encR (m : Int)] (fun _ => True) (fun r M => ∃ v, r = .tuple #[v, .bool true] ∧ Bs M v (encWb (m : Int))) := by
  refine Ct.of Tryz.func162 (enters Tryz.func162 (by kernel_rfl) rfl) rfl rfl rfl ?_
  intro w0 M0 H hp
  refine SQ (RG (AS rfl rfl (AS rfl rfl (NL (TN (SQ (SQ (RG (MV rfl rfl ?_)))))))))
  refine WR.split (Ex.lss rfl rfl) (Wn.none rfl) rfl rfl (fun h1_1 => ?_) (fun h1_1 => ?_)
  · refine NL (TN (CT rfl (SQ (RG (MV rfl rfl (ST (Ex.shrN (m := m) (s := 8) rfl rfl (by first | (show _ ≤ 64; omega) | (show _ ≤ 8; omega) | decide)) rfl ?_))))))
    refine ST (Ex.convU8 Tryz.underlying21 Tryz.underlying5 rfl) rfl (MV rfl rfl (ST (Ex.convU8 Tryz.underlying21 Tryz.underlying5 rfl) rfl (WR.lit (enc := encB) ty30 [_, _] H rfl (by rfl) (fun _ => rfl) rfl rfl (Wn.none rfl) rfl ?_)))
    intro v13 M w H hle hl13
    refine AS rfl rfl (AS rfl rfl (NL (TN (RT ?_))))
    refine WQ.ret2 rfl rfl rfl H.ext ?_
    refine ⟨_, rfl, ?_⟩
    unfold encWb
    rw [if_pos (by omega), ub_mod, ← div256]
    exact hl13
  · refine NL (TN (CF rfl (SK (TN (SQ (RG (MV rfl rfl (WR.stepE (v' := encR ((m - 65536 : Nat) : Int)) (Ex.subW rfl rfl (i32_in (by omega))) (congrArg encR (by omega)) (Wn.none rfl) rfl rfl ?_))))))))
    refine AS rfl rfl (NL (TN (SQ (RG (MV rfl rfl (ST (Ex.shrN (m := (m - 65536)) (s := 10) rfl rfl (by first | (show _ ≤ 64; omega) | (show _ ≤ 8; omega) | decide)) rfl ?_))))))
    refine WR.stepE (v' := encR ((55296 + (m - 65536) / 2 ^ 10 : Nat) : Int)) (Ex.addW rfl rfl (i32_in (by omega))) (congrArg encR (by omega)) (Wn.none rfl) rfl rfl ?_
    refine MV rfl rfl (WR.stepE (v' := encR (((m - 65536) % 1024 : Nat) : Int)) (Ex.andK (m := (m - 65536)) (s := 1023) rfl rfl (by first | decide | (show _ < 256; omega) | (show _ < 4294967296; omega) | (show _ < 18446744073709551616; omega)) (by first | decide | (show _ < 256; omega) | (show _ < 4294967296; omega) | (show _ < 18446744073709551616; omega))) (congrArg encR (by rw [Nat.and_two_pow_sub_one_eq_mod (m - 65536) 10]; exact i32_in (by omega))) (Wn.none rfl) rfl rfl ?_)
    refine WR.stepE (v' := encR ((56320 + (m - 65536) % 1024 : Nat) : Int)) (Ex.addW rfl rfl (i32_in (by omega))) (congrArg encR (by omega)) (Wn.none rfl) rfl rfl ?_
    refine AS rfl rfl (AS rfl rfl (NL (TN (SQ (RG (MV rfl rfl (ST (Ex.shrN (m := (55296 + (m - 65536) / 2 ^ 10)) (s := 8) rfl rfl (by first | (show _ ≤ 64; omega) | (show _ ≤ 8; omega) | decide)) rfl ?_)))))))
    refine ST (Ex.convU8 Tryz.underlying21 Tryz.underlying5 rfl) rfl (MV rfl rfl (ST (Ex.convU8 Tryz.underlying21 Tryz.underlying5 rfl) rfl (MV rfl rfl (ST (Ex.shrN (m := (56320 + (m - 65536) % 1024)) (s := 8) rfl rfl (by first | (show _ ≤ 64; omega) | (show _ ≤ 8; omega) | decide)) rfl ?_))))
    refine ST (Ex.convU8 Tryz.underlying21 Tryz.underlying5 rfl) rfl (MV rfl rfl (ST (Ex.convU8 Tryz.underlying21 Tryz.underlying5 rfl) rfl (WR.lit (enc := encB) ty30 [_, _, _, _] H rfl (by rfl) (fun _ => rfl) rfl rfl (Wn.none rfl) rfl ?_)))
    intro v32 M w H hle hl32
    refine AS rfl rfl (AS rfl rfl (NL (TN (RT ?_))))
    refine WQ.ret2 rfl rfl rfl H.ext ?_
    refine ⟨_, rfl, ?_⟩
    unfold encWb
    rw [if_neg (by omega), ub_mod, ub_mod, hiS_nat (by omega), loS_nat (by omega), ← div256, ← div256]
    exact hl32
theorem single_spec (nm : List UInt8) (bound : Int) : Ct Tryz.prog 157 [S nm, encR bound] (fun _ => True) (fun r M => ∃ b, r = .agg #[S nm, .func (.func 186) #[] #[ptr b 0], .func (.func 187) #[] #[ptr b 0]] ∧ CellM M ⟨b, 0, none⟩ (encR bound)) := by
  refine Ct.of Tryz.func157 (enters Tryz.func157 (by kernel_rfl) rfl) rfl rfl rfl ?_
  intro w0 M0 H hp
  refine SQ (RG (WR.box [_] H rfl rfl (Wn.none rfl) rfl ?_))
  intro b3 w H
  refine WR.alloc [_, _, _] H Tryz.zeroValue156 rfl (Wn.none rfl) rfl ?_
  intro b4 w H
  refine NL (TN (SQ (RG (MV rfl rfl (ST (Ex.makeFunc rfl) rfl (ST (Ex.makeFunc rfl) rfl (ST (Ex.build [_, _, _] Tryz.underlying156 Tryz.zeroValue156 (places156 Tryz.underlying156) rfl rfl) rfl (WR.store [_, _, _] H rfl rfl rfl (by repeat first | exact .head | apply Upd.tail) Tryz.sizeOf156 rfl (by rfl) (by rfl) (Wn.none rfl) ?_))))))))
  intro w H
  refine NL (TN (RT ?_))
  obtain ⟨M, hle, hM, H⟩ := H.freezeBlk (b := b3) (by repeat first | exact .head | apply Rem.tail)
  refine WQ.ret1 rfl ⟨_, rfl, H.loadAgg (by repeat (first | exact List.Mem.head _ | apply List.Mem.tail)) Tryz.isAgg156 Tryz.sizeOf156 (by rfl)⟩ H.ext ?_
  exact ⟨b3, rfl, rfl, _, _, _, hM, rfl⟩
theorem ty185 : ElemTy Tryz.prog 185 156 (.agg #[.string ⟨#[]⟩, .nilFunc, .nilFunc]) 3 32 := ElemTy.mk' Tryz.underlying185 (by kernel_rfl) rfl (by decide)
abbrev encT (s : Value × Value × Value) : List Value := [s.1, s.2.1, s.2.2]
def rowsV (b0 b1 : Nat) : List (Value × Value × Value) := [(S [97, 115, 99, 105, 105], .func (.func 186) #[] #[ptr b0 0], .func (.func 187) #[] #[ptr b0 0]), (S [108, 97, 116, 105, 110, 49], .func (.func 186) #[] #[ptr b1 0], .func (.func 187) #[] #[ptr b1 0]), (S [117, 116, 102, 56], .func (.func 158) #[] #[], .func (.func 159) #[] #[]), (S [117, 116, 102, 49, 54, 98, 101], .func (.func 161) #[] #[], .func (.func 162) #[] #[])]
theorem row_at (b0 b1 k : Nat) (hk : k < 4) : ∃ x dv fv, setN[k]? = some x ∧ (rowsV b0 b1)[k]? = some (S x, dv, fv) ∧ dv.oneCell' = true ∧ fv.oneCell' = true ∧ x.length ≤ 7 := by
  rcases k with _ | _ | _ | _ | k
  · exact ⟨_, _, _, rfl, rfl, rfl, rfl, by decide⟩
  · exact ⟨_, _, _, rfl, rfl, rfl, rfl, by decide⟩
  · exact ⟨_, _, _, rfl, rfl, rfl, rfl, by decide⟩
  · exact ⟨_, _, _, rfl, rfl, rfl, rfl, by decide⟩
  · omega
def found (b0 b1 : Nat) : Option Nat → Value
  | none => .tuple #[.agg #[S [], .nilFunc, .nilFunc], .bool false]
  | some k => match (rowsV b0 b1)[k]? with
    | some s => .tuple #[.agg (encT s).toArray, .bool true]
    | none => .tuple #[]
theorem find_spec (name : List UInt8) (hs : name.length ≤ maxLen) : Ct Tryz.prog 126 [S name] (fun _ => True) (fun r M => ∃ b0 b1, CellM M ⟨b0, 0, none⟩ (encR 128) ∧ CellM M ⟨b1, 0, none⟩ (encR 256) ∧ r = found b0 b1 (setOf name)) := by
  refine Ct.of Tryz.func126 (enters Tryz.func126 (by kernel_rfl) rfl) rfl rfl rfl ?_
  intro w0 M0 H hp
  refine SQ (RG (WR.alloc [_, _, _] H Tryz.zeroValue156 rfl (Wn.none rfl) rfl ?_))
  intro b2 w H
  refine AS rfl rfl (NL (TN (SQ (RG (WR.call H (single_spec _ _) rfl (trivial) (Wn.none rfl) rfl ?_)))))
  intro v7 M w H hle hr7
  obtain ⟨bb7, rfl, hcell7⟩ := hr7
  refine WR.call H (single_spec _ _) rfl (trivial) (Wn.none rfl) rfl ?_
  intro v8 M w H hle hr8
  replace hcell7 := hcell7.mono hle
  obtain ⟨bb8, rfl, hcell8⟩ := hr8
  refine WR.stepE (v' := .agg #[S [117, 116, 102, 56], .func (.func 158) #[] #[], .func (.func 159) #[] #[]]) (Ex.build [_, _, _] Tryz.underlying156 Tryz.zeroValue156 (places156 Tryz.underlying156) rfl rfl) rfl (Wn.none rfl) rfl rfl (WR.stepE (v' := .agg #[S [117, 116, 102, 49, 54, 98, 101], .func (.func 161) #[] #[], .func (.func 162) #[] #[]]) (Ex.build [_, _, _] Tryz.underlying156 Tryz.zeroValue156 (places156 Tryz.underlying156) rfl rfl) rfl (Wn.none rfl) rfl rfl (WR.litS (enc := encT) ty185 (rowsV bb7 bb8) H (fun _ => rfl) rfl (by kernel_rfl) rfl rfl rfl (Wn.none rfl) rfl ?_))
  intro v11 M w H hle hl11
  replace hcell7 := hcell7.mono hle
  replace hcell8 := hcell8.mono hle
  refine AS rfl rfl (NL (TN (SQ (SQ (RG (MV rfl rfl (WR.stepE (v' := I 4) (Ex.lenSlS Tryz.underlying185 (by assumption) rfl) rfl (Wn.none rfl) rfl rfl ?_)))))))
  refine MV rfl rfl (NL (TN (BL (WC.loop1 (fun (k : Nat) => [(0, S name), (2, ptr b2 0), (12, v11), (13, I 4), (14, encN k)]) (fun (k : Nat) w => k ≤ 4 ∧ setOf name = ((setN.drop k).findIdx? (same name)).map (· + k) ∧ ∃ M, St w0 M0 M [.blk b2 (.cells #[S [], .nilFunc, .nilFunc] 156)] w ∧ SlS M 3 encT v11 (rowsV bb7 bb8) ∧ CellM M ⟨bb7, 0, none⟩ (encR 128) ∧ CellM M ⟨bb8, 0, none⟩ (encR 256)) (fun (k : Nat) => 4 - k) (0) ⟨rfl, rfl, rfl, rfl, rfl, trivial⟩ (⟨by omega, by rw [List.drop_zero]; simp only [Nat.add_zero, Option.map_id']; rfl, M, H, hl11, hcell7, hcell8⟩) ?_))))
  intro k w
  rintro ⟨hk, hso, M, H, hl11, hcell7, hcell8⟩
  refine SQ (RG ?_)
  refine WR.split (Ex.lss rfl rfl) (Wn.none rfl) rfl rfl (fun h3_0 => ?_) (fun h3_0 => ?_)
  · obtain ⟨x, dv, fv, hx, hrow, hd1, hf1, hxl⟩ := row_at bb7 bb8 k (by omega)
    refine NL (TN (SQ (CT rfl (SK (TN (SQ (BL (SQ (RG (WR.idxSlS Tryz.underlying185 Tryz.sizeOf156 (by assumption) rfl rfl (hrow) (Wn.none rfl) rfl ?_))))))))))
    intro b16 o16 hc16
    first | refine WR.step (Ex.loadAgg H rfl (by repeat (first | exact List.Mem.head _ | apply List.Mem.tail)) Tryz.isAgg156 Tryz.sizeOf156 (by rfl)) (Wn.none rfl) rfl rfl ?_ | refine WR.step (Ex.loadAggM H rfl (by assumption) Tryz.isAgg156 Tryz.sizeOf156 (by rfl)) (Wn.none rfl) rfl rfl ?_
    refine WR.alloc [_, _, _] H Tryz.zeroValue156 rfl (Wn.none rfl) rfl ?_
    intro b6 w H
    refine WR.store [S x, dv, fv] H rfl rfl rfl (by repeat first | exact .head | apply Upd.tail) Tryz.sizeOf156 rfl (by rfl) (by show (true && (dv.oneCell' && (fv.oneCell' && true))) = true; rw [hd1, hf1]; rfl) (Wn.none rfl) ?_
    intro w H
    refine NL (TN (SQ (RG (ST (Ex.fieldAddr Tryz.underlying156 rfl Tryz.sizeOf9 (by decide) rfl) rfl ?_))))
    first | refine WR.step (Ex.loadM H rfl (by assumption) Tryz.isAgg9) (Wn.none rfl) rfl rfl ?_ | refine WR.step (Ex.load1 H rfl (by repeat (first | exact List.Mem.head _ | apply List.Mem.tail)) Tryz.isAgg9 (by rfl)) (Wn.none rfl) rfl rfl ?_
    refine MV rfl rfl ?_
    by_cases h5_3 : lower x = lower name
    · have hr := (setOf_from hso hx).1 h5_3
      refine WR.call H (Ct.mono (same_spec _ _ (by simp only [maxLen]; omega) hs) (R' := fun r _ => r = .bool true) (fun _ _ h => h.trans (congrArg Value.bool (decide_eq_true h5_3)))) rfl (trivial) (Wn.none rfl) rfl ?_
      intro v21 M w H hle hr21
      replace hl11 := hl11.mono hle
      replace hcell7 := hcell7.mono hle
      replace hcell8 := hcell8.mono hle
      replace hc16 := hc16.mono hle
      obtain rfl := hr21
      refine NL (TN (CT rfl (SQ (RG ?_))))
      first | refine WR.step (Ex.loadAgg H rfl (by repeat (first | exact List.Mem.head _ | apply List.Mem.tail)) Tryz.isAgg156 Tryz.sizeOf156 (by rfl)) (Wn.none rfl) rfl rfl ?_ | refine WR.step (Ex.loadAggM H rfl (by assumption) Tryz.isAgg156 Tryz.sizeOf156 (by rfl)) (Wn.none rfl) rfl rfl ?_
      refine WR.store [S x, dv, fv] H rfl rfl rfl (by repeat first | exact .head | apply Upd.tail) Tryz.sizeOf156 rfl (by rfl) (by show (true && (dv.oneCell' && (fv.oneCell' && true))) = true; rw [hd1, hf1]; rfl) (Wn.none rfl) ?_
      intro w H
      refine AS rfl rfl (NL (TN (RT ?_)))
      refine WQ.ret2 rfl ⟨_, rfl, H.loadAgg (by repeat (first | exact List.Mem.head _ | apply List.Mem.tail)) Tryz.isAgg156 Tryz.sizeOf156 (by rfl)⟩ rfl H.ext ?_
      exact ⟨_, _, hcell7, hcell8, by rw [hr, found, hrow]⟩
    · refine WR.call H (Ct.mono (same_spec _ _ (by simp only [maxLen]; omega) hs) (R' := fun r _ => r = .bool false) (fun _ _ h => h.trans (congrArg Value.bool (decide_eq_false h5_3)))) rfl (trivial) (Wn.none rfl) rfl ?_
      intro v21 M w H hle hr21
      replace hl11 := hl11.mono hle
      replace hcell7 := hcell7.mono hle
      replace hcell8 := hcell8.mono hle
      replace hc16 := hc16.mono hle
      obtain rfl := hr21
      refine NL (TN (CF rfl (SK (IB (TN (RG (WR.stepE (v' := encN (k + 1)) (Ex.add64 rfl rfl (by omega)) rfl (Wn.none rfl) rfl rfl ?_)))))))
      refine MV rfl rfl (NL ?_)
      refine WQ.again1 (k + 1) ⟨rfl, rfl, rfl, rfl, rfl, trivial⟩ ?_ ?_
      · exact ⟨by omega, (setOf_from hso hx).2 h5_3, M, H.drop (List.sublist_cons_self _ _), hl11, hcell7, hcell8⟩
      · omega
  · have hr : setOf name = none := by rw [hso, List.drop_eq_nil_of_le (show setN.length ≤ k by show 4 ≤ k; omega)]; rfl
    refine NL (TN (SQ (CF rfl (WC.exit (WQ.thenExit (WQ.thenExit (WQ.exitHere (TN (SQ (RG (ST (Ex.build [_, _, _] Tryz.underlying156 Tryz.zeroValue156 (places156 Tryz.underlying156) rfl rfl) rfl (WR.store [_, _, _] H rfl rfl rfl (by repeat first | exact .head | apply Upd.tail) Tryz.sizeOf156 rfl (by rfl) (by rfl) (Wn.none rfl) ?_))))))))))))
    intro w H
    refine AS rfl rfl (NL (TN (RT ?_)))
    refine WQ.ret2 rfl ⟨_, rfl, H.loadAgg (by repeat (first | exact List.Mem.head _ | apply List.Mem.tail)) Tryz.isAgg156 Tryz.sizeOf156 (by rfl)⟩ rfl H.ext ?_
    exact ⟨_, _, hcell7, hcell8, by rw [hr, found]⟩
end Go.Proofs.YtogkmhjnojphiaaGreatDoor
end
section
set_option linter.unusedVariables false
set_option linter.unusedSimpArgs false
namespace Go.Proofs.YtogkmhjnojphiaaGreatDoor
open Go Go.RowKit Go.Ph
open Go.Ph.Gr Go.Ph.Utf Go.Ph.Chs
theorem decode_unk (name : List UInt8) (v : Value) (l : List UInt8) (hn : name.length ≤ maxLen) (hs : l.length ≤ 12000) (hk : setOf name = none) : Ct Tryz.prog 97 [S name, v] (fun M => Bs M v l) (fun r _ => r = .tuple #[S [], fault 18 (-2)]) := by
  refine Ct.of Tryz.func97 (enters Tryz.func97 (by kernel_rfl) rfl) rfl rfl rfl ?_
  intro w0 M0 H hp
  refine SQ (RG (AS rfl rfl (WR.alloc [_, _] H Tryz.zeroValue24 rfl (Wn.none rfl) rfl ?_)))
  intro b5 w H
  refine NL (TN (SQ (SQ (RG (MV rfl rfl ?_)))))
  first | refine WR.step (Ex.lenSl Tryz.underlying30 (by assumption) rfl) (Wn.none rfl) rfl rfl ?_ | refine WR.step (Ex.lenRow Tryz.underlying30 H (by repeat (first | exact List.Mem.head _ | apply List.Mem.tail)) rfl) (Wn.none rfl) rfl rfl ?_ | refine WR.step (Ex.lenSlice Tryz.underlying30 rfl) (Wn.none rfl) rfl rfl ?_
  refine WR.stepF (Ex.gtr rfl rfl) (by omega) (Wn.none rfl) rfl rfl ?_
  refine NL (TN (CF rfl (SK (TN (SQ (RG (MV rfl rfl (WR.call H (Ct.mono (find_spec name hn) (R' := fun r M => ∃ b0 b1, CellM M ⟨b0, 0, none⟩ (encR 128) ∧ CellM M ⟨b1, 0, none⟩ (encR 256) ∧ r = .tuple #[.agg #[S [], .nilFunc, .nilFunc], .bool false]) (fun _ _ ⟨b0, b1, h0, h1, h⟩ => ⟨b0, b1, h0, h1, by rw [hk] at h; exact h⟩)) rfl (trivial) (Wn.none rfl) rfl ?_))))))))
  intro v14 M w H hle hr14
  replace hp := hp.mono hle
  obtain ⟨b0, b1, hc0, hc1, rfl⟩ := hr14
  refine MV rfl rfl (ST (Ex.extract rfl rfl) rfl (ST (Ex.extract rfl rfl) rfl (WR.alloc [_, _, _] H Tryz.zeroValue156 rfl (Wn.none rfl) rfl ?_)))
  intro b6 w H
  refine WR.store [_, _, _] H rfl rfl rfl (by repeat first | exact .head | apply Upd.tail) Tryz.sizeOf156 rfl (by rfl) (by rfl) (Wn.none rfl) ?_
  intro w H
  refine AS rfl rfl (NL (TN (SQ (SQ (RG (MV rfl rfl (ST (Ex.notF rfl) rfl (NL (TN (CT rfl (SQ (RG (WR.call H (fault_spec _ _) rfl (trivial) (Wn.none rfl) rfl ?_)))))))))))))
  intro v19 M w H hle hr19
  replace hp := hp.mono hle
  replace hc0 := hc0.mono hle
  replace hc1 := hc1.mono hle
  obtain rfl := hr19
  refine AS rfl rfl (WR.store [_, _] H rfl rfl rfl (by repeat first | exact .head | apply Upd.tail) Tryz.sizeOf24 rfl (by rfl) (by rfl) (Wn.none rfl) ?_)
  intro w H
  refine NL (TN (RT ?_))
  refine WQ.ret2 rfl rfl ⟨_, rfl, H.loadAgg (by repeat (first | exact List.Mem.head _ | apply List.Mem.tail)) Tryz.isAgg24 Tryz.sizeOf24 (by rfl)⟩ H.ext ?_
  exact rfl
theorem decode_0 (name : List UInt8) (v : Value) (l : List UInt8) (hn : name.length ≤ maxLen) (hs : l.length ≤ 12000) (hk : setOf name = some 0) : Ct Tryz.prog 97 [S name, v] (fun M => Bs M v l) (fun r _ => r = .tuple #[S (decoded 0 l), fault 0 0]) := by
  refine Ct.of Tryz.func97 (enters Tryz.func97 (by kernel_rfl) rfl) rfl rfl rfl ?_
  intro w0 M0 H hp
  refine SQ (RG (AS rfl rfl (WR.alloc [_, _] H Tryz.zeroValue24 rfl (Wn.none rfl) rfl ?_)))
  intro b5 w H
  refine NL (TN (SQ (SQ (RG (MV rfl rfl ?_)))))
  first | refine WR.step (Ex.lenSl Tryz.underlying30 (by assumption) rfl) (Wn.none rfl) rfl rfl ?_ | refine WR.step (Ex.lenRow Tryz.underlying30 H (by repeat (first | exact List.Mem.head _ | apply List.Mem.tail)) rfl) (Wn.none rfl) rfl rfl ?_ | refine WR.step (Ex.lenSlice Tryz.underlying30 rfl) (Wn.none rfl) rfl rfl ?_
  refine WR.stepF (Ex.gtr rfl rfl) (by omega) (Wn.none rfl) rfl rfl ?_
  refine NL (TN (CF rfl (SK (TN (SQ (RG (MV rfl rfl (WR.call H (Ct.mono (find_spec name hn) (R' := fun r M => ∃ b0 b1, CellM M ⟨b0, 0, none⟩ (encR 128) ∧ CellM M ⟨b1, 0, none⟩ (encR 256) ∧ r = .tuple #[.agg #[S [97, 115, 99, 105, 105], .func (.func 186) #[] #[ptr b0 0], .func (.func 187) #[] #[ptr b0 0]], .bool true]) (fun _ _ ⟨b0, b1, h0, h1, h⟩ => ⟨b0, b1, h0, h1, by rw [hk] at h; exact h⟩)) rfl (trivial) (Wn.none rfl) rfl ?_))))))))
  intro v14 M w H hle hr14
  replace hp := hp.mono hle
  obtain ⟨b0, b1, hc0, hc1, rfl⟩ := hr14
  refine MV rfl rfl (ST (Ex.extract rfl rfl) rfl (ST (Ex.extract rfl rfl) rfl (WR.alloc [_, _, _] H Tryz.zeroValue156 rfl (Wn.none rfl) rfl ?_)))
  intro b6 w H
  refine WR.store [_, _, _] H rfl rfl rfl (by repeat first | exact .head | apply Upd.tail) Tryz.sizeOf156 rfl (by rfl) (by rfl) (Wn.none rfl) ?_
  intro w H
  refine AS rfl rfl (NL (TN (SQ (SQ (RG (MV rfl rfl (ST (Ex.notT rfl) rfl (NL (TN (CF rfl (SK (TN (SQ (WC.draw (m := 8) rfl rfl H ?_))))))))))))))
  intro w H
  refine WA.take (i := 0) rfl (by kernel_rfl) (by kernel_rfl) (by kernel_rfl) (fun _ => Ex.fieldAddr Tryz.underlying156 rfl Tryz.sizeOf153 (by decide) rfl) (Wn.none rfl) rfl rfl (fun _ _ => rfl) (WA.take (i := 2) rfl (by kernel_rfl) (by kernel_rfl) (by kernel_rfl) (fun _ => Ex.move rfl) (Wn.none rfl) rfl rfl (fun _ _ => rfl) (ON 1 (by kernel_rfl) rfl ?_))
  first | refine WR.step (Ex.loadM H rfl (by assumption) Tryz.isAgg153) (Wn.none rfl) rfl rfl ?_ | refine WR.step (Ex.load1 H rfl (by repeat (first | exact List.Mem.head _ | apply List.Mem.tail)) Tryz.isAgg153 (by rfl)) (Wn.none rfl) rfl rfl ?_
  refine NA (ON 3 (by kernel_rfl) rfl (WR.callV (cap := [ptr b0 0]) H (dec1_spec _ l b0 128 (by omega)) rfl rfl (⟨by assumption, by assumption⟩) (Wn.none rfl) rfl ?_))
  intro v23 M w H hle hr23
  replace hp := hp.mono hle
  replace hc0 := hc0.mono hle
  replace hc1 := hc1.mono hle
  have hf23 := hr23
  refine NA ?_
  refine WA.two (i := 4) (j := 5) (by kernel_rfl) rfl rfl ?_ ?_
  · refine ST (Ex.runesStr Tryz.underlying170 Tryz.underlying21 Tryz.underlying9 H (by assumption) rfl) rfl ?_
    refine NA (ON 5 (by kernel_rfl) rfl (WR.call H (none_spec) rfl (trivial) (Wn.none rfl) rfl ?_))
    intro v25 M w H hle hr25
    replace hp := hp.mono hle
    replace hc0 := hc0.mono hle
    replace hc1 := hc1.mono hle
    replace hf23 := hf23.mono hle
    obtain rfl := hr25
    refine NA (ON 6 (by kernel_rfl) rfl (AS rfl rfl (NA (ON 7 (by kernel_rfl) rfl (WR.store [_, _] H rfl rfl rfl (by repeat first | exact .head | apply Upd.tail) Tryz.sizeOf24 rfl (by rfl) (by rfl) (Wn.none rfl) ?_)))))
    intro w H
    refine NA (WA.done (by kernel_rfl) (TN (RT ?_)))
    refine WQ.ret2 rfl rfl ⟨_, rfl, H.loadAgg (by repeat (first | exact List.Mem.head _ | apply List.Mem.tail)) Tryz.isAgg24 Tryz.sizeOf24 (by rfl)⟩ H.ext ?_
    exact rfl
  · refine WR.call H (none_spec) rfl (trivial) (Wn.none rfl) rfl ?_
    intro v25 M w H hle hr25
    replace hp := hp.mono hle
    replace hc0 := hc0.mono hle
    replace hc1 := hc1.mono hle
    replace hf23 := hf23.mono hle
    obtain rfl := hr25
    refine NA (ON 4 (by kernel_rfl) rfl (ST (Ex.runesStr Tryz.underlying170 Tryz.underlying21 Tryz.underlying9 H (by assumption) rfl) rfl ?_))
    refine NA (ON 6 (by kernel_rfl) rfl (AS rfl rfl (NA (ON 7 (by kernel_rfl) rfl (WR.store [_, _] H rfl rfl rfl (by repeat first | exact .head | apply Upd.tail) Tryz.sizeOf24 rfl (by rfl) (by rfl) (Wn.none rfl) ?_)))))
    intro w H
    refine NA (WA.done (by kernel_rfl) (TN (RT ?_)))
    refine WQ.ret2 rfl rfl ⟨_, rfl, H.loadAgg (by repeat (first | exact List.Mem.head _ | apply List.Mem.tail)) Tryz.isAgg24 Tryz.sizeOf24 (by rfl)⟩ H.ext ?_
    exact rfl
theorem decode_1 (name : List UInt8) (v : Value) (l : List UInt8) (hn : name.length ≤ maxLen) (hs : l.length ≤ 12000) (hk : setOf name = some 1) : Ct Tryz.prog 97 [S name, v] (fun M => Bs M v l) (fun r _ => r = .tuple #[S (decoded 1 l), fault 0 0]) := by
  refine Ct.of Tryz.func97 (enters Tryz.func97 (by kernel_rfl) rfl) rfl rfl rfl ?_
  intro w0 M0 H hp
  refine SQ (RG (AS rfl rfl (WR.alloc [_, _] H Tryz.zeroValue24 rfl (Wn.none rfl) rfl ?_)))
  intro b5 w H
  refine NL (TN (SQ (SQ (RG (MV rfl rfl ?_)))))
  first | refine WR.step (Ex.lenSl Tryz.underlying30 (by assumption) rfl) (Wn.none rfl) rfl rfl ?_ | refine WR.step (Ex.lenRow Tryz.underlying30 H (by repeat (first | exact List.Mem.head _ | apply List.Mem.tail)) rfl) (Wn.none rfl) rfl rfl ?_ | refine WR.step (Ex.lenSlice Tryz.underlying30 rfl) (Wn.none rfl) rfl rfl ?_
  refine WR.stepF (Ex.gtr rfl rfl) (by omega) (Wn.none rfl) rfl rfl ?_
  refine NL (TN (CF rfl (SK (TN (SQ (RG (MV rfl rfl (WR.call H (Ct.mono (find_spec name hn) (R' := fun r M => ∃ b0 b1, CellM M ⟨b0, 0, none⟩ (encR 128) ∧ CellM M ⟨b1, 0, none⟩ (encR 256) ∧ r = .tuple #[.agg #[S [108, 97, 116, 105, 110, 49], .func (.func 186) #[] #[ptr b1 0], .func (.func 187) #[] #[ptr b1 0]], .bool true]) (fun _ _ ⟨b0, b1, h0, h1, h⟩ => ⟨b0, b1, h0, h1, by rw [hk] at h; exact h⟩)) rfl (trivial) (Wn.none rfl) rfl ?_))))))))
  intro v14 M w H hle hr14
  replace hp := hp.mono hle
  obtain ⟨b0, b1, hc0, hc1, rfl⟩ := hr14
  refine MV rfl rfl (ST (Ex.extract rfl rfl) rfl (ST (Ex.extract rfl rfl) rfl (WR.alloc [_, _, _] H Tryz.zeroValue156 rfl (Wn.none rfl) rfl ?_)))
  intro b6 w H
  refine WR.store [_, _, _] H rfl rfl rfl (by repeat first | exact .head | apply Upd.tail) Tryz.sizeOf156 rfl (by rfl) (by rfl) (Wn.none rfl) ?_
  intro w H
  refine AS rfl rfl (NL (TN (SQ (SQ (RG (MV rfl rfl (ST (Ex.notT rfl) rfl (NL (TN (CF rfl (SK (TN (SQ (WC.draw (m := 8) rfl rfl H ?_))))))))))))))
  intro w H
  refine WA.take (i := 0) rfl (by kernel_rfl) (by kernel_rfl) (by kernel_rfl) (fun _ => Ex.fieldAddr Tryz.underlying156 rfl Tryz.sizeOf153 (by decide) rfl) (Wn.none rfl) rfl rfl (fun _ _ => rfl) (WA.take (i := 2) rfl (by kernel_rfl) (by kernel_rfl) (by kernel_rfl) (fun _ => Ex.move rfl) (Wn.none rfl) rfl rfl (fun _ _ => rfl) (ON 1 (by kernel_rfl) rfl ?_))
  first | refine WR.step (Ex.loadM H rfl (by assumption) Tryz.isAgg153) (Wn.none rfl) rfl rfl ?_ | refine WR.step (Ex.load1 H rfl (by repeat (first | exact List.Mem.head _ | apply List.Mem.tail)) Tryz.isAgg153 (by rfl)) (Wn.none rfl) rfl rfl ?_
  refine NA (ON 3 (by kernel_rfl) rfl (WR.callV (cap := [ptr b1 0]) H (dec1_spec _ l b1 256 (by omega)) rfl rfl (⟨by assumption, by assumption⟩) (Wn.none rfl) rfl ?_))
  intro v23 M w H hle hr23
  replace hp := hp.mono hle
  replace hc0 := hc0.mono hle
  replace hc1 := hc1.mono hle
  have hf23 := hr23
  refine NA ?_
  refine WA.two (i := 4) (j := 5) (by kernel_rfl) rfl rfl ?_ ?_
  · refine ST (Ex.runesStr Tryz.underlying170 Tryz.underlying21 Tryz.underlying9 H (by assumption) rfl) rfl ?_
    refine NA (ON 5 (by kernel_rfl) rfl (WR.call H (none_spec) rfl (trivial) (Wn.none rfl) rfl ?_))
    intro v25 M w H hle hr25
    replace hp := hp.mono hle
    replace hc0 := hc0.mono hle
    replace hc1 := hc1.mono hle
    replace hf23 := hf23.mono hle
    obtain rfl := hr25
    refine NA (ON 6 (by kernel_rfl) rfl (AS rfl rfl (NA (ON 7 (by kernel_rfl) rfl (WR.store [_, _] H rfl rfl rfl (by repeat first | exact .head | apply Upd.tail) Tryz.sizeOf24 rfl (by rfl) (by rfl) (Wn.none rfl) ?_)))))
    intro w H
    refine NA (WA.done (by kernel_rfl) (TN (RT ?_)))
    refine WQ.ret2 rfl rfl ⟨_, rfl, H.loadAgg (by repeat (first | exact List.Mem.head _ | apply List.Mem.tail)) Tryz.isAgg24 Tryz.sizeOf24 (by rfl)⟩ H.ext ?_
    exact rfl
  · refine WR.call H (none_spec) rfl (trivial) (Wn.none rfl) rfl ?_
    intro v25 M w H hle hr25
    replace hp := hp.mono hle
    replace hc0 := hc0.mono hle
    replace hc1 := hc1.mono hle
    replace hf23 := hf23.mono hle
    obtain rfl := hr25
    refine NA (ON 4 (by kernel_rfl) rfl (ST (Ex.runesStr Tryz.underlying170 Tryz.underlying21 Tryz.underlying9 H (by assumption) rfl) rfl ?_))
    refine NA (ON 6 (by kernel_rfl) rfl (AS rfl rfl (NA (ON 7 (by kernel_rfl) rfl (WR.store [_, _] H rfl rfl rfl (by repeat first | exact .head | apply Upd.tail) Tryz.sizeOf24 rfl (by rfl) (by rfl) (Wn.none rfl) ?_)))))
    intro w H
    refine NA (WA.done (by kernel_rfl) (TN (RT ?_)))
    refine WQ.ret2 rfl rfl ⟨_, rfl, H.loadAgg (by repeat (first | exact List.Mem.head _ | apply List.Mem.tail)) Tryz.isAgg24 Tryz.sizeOf24 (by rfl)⟩ H.ext ?_
    exact rfl
theorem decode_2 (name : List UInt8) (v : Value) (l : List UInt8) (hn : name.length ≤ maxLen) (hs : l.length ≤ 12000) (hk : setOf name = some 2) : Ct Tryz.prog 97 [S name, v] (fun M => Bs M v l) (fun r _ => r = .tuple #[S (decoded 2 l), fault 0 0]) := by
  refine Ct.of Tryz.func97 (enters Tryz.func97 (by kernel_rfl) rfl) rfl rfl rfl ?_
  intro w0 M0 H hp
  refine SQ (RG (AS rfl rfl (WR.alloc [_, _] H Tryz.zeroValue24 rfl (Wn.none rfl) rfl ?_)))
  intro b5 w H
  refine NL (TN (SQ (SQ (RG (MV rfl rfl ?_)))))
  first | refine WR.step (Ex.lenSl Tryz.underlying30 (by assumption) rfl) (Wn.none rfl) rfl rfl ?_ | refine WR.step (Ex.lenRow Tryz.underlying30 H (by repeat (first | exact List.Mem.head _ | apply List.Mem.tail)) rfl) (Wn.none rfl) rfl rfl ?_ | refine WR.step (Ex.lenSlice Tryz.underlying30 rfl) (Wn.none rfl) rfl rfl ?_
  refine WR.stepF (Ex.gtr rfl rfl) (by omega) (Wn.none rfl) rfl rfl ?_
  refine NL (TN (CF rfl (SK (TN (SQ (RG (MV rfl rfl (WR.call H (Ct.mono (find_spec name hn) (R' := fun r M => ∃ b0 b1, CellM M ⟨b0, 0, none⟩ (encR 128) ∧ CellM M ⟨b1, 0, none⟩ (encR 256) ∧ r = .tuple #[.agg #[S [117, 116, 102, 56], .func (.func 158) #[] #[], .func (.func 159) #[] #[]], .bool true]) (fun _ _ ⟨b0, b1, h0, h1, h⟩ => ⟨b0, b1, h0, h1, by rw [hk] at h; exact h⟩)) rfl (trivial) (Wn.none rfl) rfl ?_))))))))
  intro v14 M w H hle hr14
  replace hp := hp.mono hle
  obtain ⟨b0, b1, hc0, hc1, rfl⟩ := hr14
  refine MV rfl rfl (ST (Ex.extract rfl rfl) rfl (ST (Ex.extract rfl rfl) rfl (WR.alloc [_, _, _] H Tryz.zeroValue156 rfl (Wn.none rfl) rfl ?_)))
  intro b6 w H
  refine WR.store [_, _, _] H rfl rfl rfl (by repeat first | exact .head | apply Upd.tail) Tryz.sizeOf156 rfl (by rfl) (by rfl) (Wn.none rfl) ?_
  intro w H
  refine AS rfl rfl (NL (TN (SQ (SQ (RG (MV rfl rfl (ST (Ex.notT rfl) rfl (NL (TN (CF rfl (SK (TN (SQ (WC.draw (m := 8) rfl rfl H ?_))))))))))))))
  intro w H
  refine WA.take (i := 0) rfl (by kernel_rfl) (by kernel_rfl) (by kernel_rfl) (fun _ => Ex.fieldAddr Tryz.underlying156 rfl Tryz.sizeOf153 (by decide) rfl) (Wn.none rfl) rfl rfl (fun _ _ => rfl) (WA.take (i := 2) rfl (by kernel_rfl) (by kernel_rfl) (by kernel_rfl) (fun _ => Ex.move rfl) (Wn.none rfl) rfl rfl (fun _ _ => rfl) (ON 1 (by kernel_rfl) rfl ?_))
  first | refine WR.step (Ex.loadM H rfl (by assumption) Tryz.isAgg153) (Wn.none rfl) rfl rfl ?_ | refine WR.step (Ex.load1 H rfl (by repeat (first | exact List.Mem.head _ | apply List.Mem.tail)) Tryz.isAgg153 (by rfl)) (Wn.none rfl) rfl rfl ?_
  refine NA (ON 3 (by kernel_rfl) rfl (WR.callV (cap := []) H (decU_spec _ l (by omega)) rfl rfl (by assumption) (Wn.none rfl) rfl ?_))
  intro v23 M w H hle hr23
  replace hp := hp.mono hle
  replace hc0 := hc0.mono hle
  replace hc1 := hc1.mono hle
  have hf23 := hr23
  refine NA ?_
  refine WA.two (i := 4) (j := 5) (by kernel_rfl) rfl rfl ?_ ?_
  · refine ST (Ex.runesStr Tryz.underlying170 Tryz.underlying21 Tryz.underlying9 H (by assumption) rfl) rfl ?_
    refine NA (ON 5 (by kernel_rfl) rfl (WR.call H (none_spec) rfl (trivial) (Wn.none rfl) rfl ?_))
    intro v25 M w H hle hr25
    replace hp := hp.mono hle
    replace hc0 := hc0.mono hle
    replace hc1 := hc1.mono hle
    replace hf23 := hf23.mono hle
    obtain rfl := hr25
    refine NA (ON 6 (by kernel_rfl) rfl (AS rfl rfl (NA (ON 7 (by kernel_rfl) rfl (WR.store [_, _] H rfl rfl rfl (by repeat first | exact .head | apply Upd.tail) Tryz.sizeOf24 rfl (by rfl) (by rfl) (Wn.none rfl) ?_)))))
    intro w H
    refine NA (WA.done (by kernel_rfl) (TN (RT ?_)))
    refine WQ.ret2 rfl rfl ⟨_, rfl, H.loadAgg (by repeat (first | exact List.Mem.head _ | apply List.Mem.tail)) Tryz.isAgg24 Tryz.sizeOf24 (by rfl)⟩ H.ext ?_
    exact rfl
  · refine WR.call H (none_spec) rfl (trivial) (Wn.none rfl) rfl ?_
    intro v25 M w H hle hr25
    replace hp := hp.mono hle
    replace hc0 := hc0.mono hle
    replace hc1 := hc1.mono hle
    replace hf23 := hf23.mono hle
    obtain rfl := hr25
    refine NA (ON 4 (by kernel_rfl) rfl (ST (Ex.runesStr Tryz.underlying170 Tryz.underlying21 Tryz.underlying9 H (by assumption) rfl) rfl ?_))
    refine NA (ON 6 (by kernel_rfl) rfl (AS rfl rfl (NA (ON 7 (by kernel_rfl) rfl (WR.store [_, _] H rfl rfl rfl (by repeat first | exact .head | apply Upd.tail) Tryz.sizeOf24 rfl (by rfl) (by rfl) (Wn.none rfl) ?_)))))
    intro w H
    refine NA (WA.done (by kernel_rfl) (TN (RT ?_)))
    refine WQ.ret2 rfl rfl ⟨_, rfl, H.loadAgg (by repeat (first | exact List.Mem.head _ | apply List.Mem.tail)) Tryz.isAgg24 Tryz.sizeOf24 (by rfl)⟩ H.ext ?_
    exact rfl
theorem decode_3 (name : List UInt8) (v : Value) (l : List UInt8) (hn : name.length ≤ maxLen) (hs : l.length ≤ 12000) (hk : setOf name = some 3) : Ct Tryz.prog 97 [S name, v] (fun M => Bs M v l) (fun r _ => r = .tuple #[S (decoded 3 l), fault 0 0]) := by
  refine Ct.of Tryz.func97 (enters Tryz.func97 (by kernel_rfl) rfl) rfl rfl rfl ?_
  intro w0 M0 H hp
  refine SQ (RG (AS rfl rfl (WR.alloc [_, _] H Tryz.zeroValue24 rfl (Wn.none rfl) rfl ?_)))
  intro b5 w H
  refine NL (TN (SQ (SQ (RG (MV rfl rfl ?_)))))
  first | refine WR.step (Ex.lenSl Tryz.underlying30 (by assumption) rfl) (Wn.none rfl) rfl rfl ?_ | refine WR.step (Ex.lenRow Tryz.underlying30 H (by repeat (first | exact List.Mem.head _ | apply List.Mem.tail)) rfl) (Wn.none rfl) rfl rfl ?_ | refine WR.step (Ex.lenSlice Tryz.underlying30 rfl) (Wn.none rfl) rfl rfl ?_
  refine WR.stepF (Ex.gtr rfl rfl) (by omega) (Wn.none rfl) rfl rfl ?_
  refine NL (TN (CF rfl (SK (TN (SQ (RG (MV rfl rfl (WR.call H (Ct.mono (find_spec name hn) (R' := fun r M => ∃ b0 b1, CellM M ⟨b0, 0, none⟩ (encR 128) ∧ CellM M ⟨b1, 0, none⟩ (encR 256) ∧ r = .tuple #[.agg #[S [117, 116, 102, 49, 54, 98, 101], .func (.func 161) #[] #[], .func (.func 162) #[] #[]], .bool true]) (fun _ _ ⟨b0, b1, h0, h1, h⟩ => ⟨b0, b1, h0, h1, by rw [hk] at h; exact h⟩)) rfl (trivial) (Wn.none rfl) rfl ?_))))))))
  intro v14 M w H hle hr14
  replace hp := hp.mono hle
  obtain ⟨b0, b1, hc0, hc1, rfl⟩ := hr14
  refine MV rfl rfl (ST (Ex.extract rfl rfl) rfl (ST (Ex.extract rfl rfl) rfl (WR.alloc [_, _, _] H Tryz.zeroValue156 rfl (Wn.none rfl) rfl ?_)))
  intro b6 w H
  refine WR.store [_, _, _] H rfl rfl rfl (by repeat first | exact .head | apply Upd.tail) Tryz.sizeOf156 rfl (by rfl) (by rfl) (Wn.none rfl) ?_
  intro w H
  refine AS rfl rfl (NL (TN (SQ (SQ (RG (MV rfl rfl (ST (Ex.notT rfl) rfl (NL (TN (CF rfl (SK (TN (SQ (WC.draw (m := 8) rfl rfl H ?_))))))))))))))
  intro w H
  refine WA.take (i := 0) rfl (by kernel_rfl) (by kernel_rfl) (by kernel_rfl) (fun _ => Ex.fieldAddr Tryz.underlying156 rfl Tryz.sizeOf153 (by decide) rfl) (Wn.none rfl) rfl rfl (fun _ _ => rfl) (WA.take (i := 2) rfl (by kernel_rfl) (by kernel_rfl) (by kernel_rfl) (fun _ => Ex.move rfl) (Wn.none rfl) rfl rfl (fun _ _ => rfl) (ON 1 (by kernel_rfl) rfl ?_))
  first | refine WR.step (Ex.loadM H rfl (by assumption) Tryz.isAgg153) (Wn.none rfl) rfl rfl ?_ | refine WR.step (Ex.load1 H rfl (by repeat (first | exact List.Mem.head _ | apply List.Mem.tail)) Tryz.isAgg153 (by rfl)) (Wn.none rfl) rfl rfl ?_
  refine NA (ON 3 (by kernel_rfl) rfl (WR.callV (cap := []) H (units_spec _ l (by omega)) rfl rfl (by assumption) (Wn.none rfl) rfl ?_))
  intro v23 M w H hle hr23
  replace hp := hp.mono hle
  replace hc0 := hc0.mono hle
  replace hc1 := hc1.mono hle
  have hf23 := hr23
  refine NA ?_
  refine WA.two (i := 4) (j := 5) (by kernel_rfl) rfl rfl ?_ ?_
  · refine ST (Ex.runesStr Tryz.underlying170 Tryz.underlying21 Tryz.underlying9 H (by assumption) rfl) rfl ?_
    refine NA (ON 5 (by kernel_rfl) rfl (WR.call H (none_spec) rfl (trivial) (Wn.none rfl) rfl ?_))
    intro v25 M w H hle hr25
    replace hp := hp.mono hle
    replace hc0 := hc0.mono hle
    replace hc1 := hc1.mono hle
    replace hf23 := hf23.mono hle
    obtain rfl := hr25
    refine NA (ON 6 (by kernel_rfl) rfl (AS rfl rfl (NA (ON 7 (by kernel_rfl) rfl (WR.store [_, _] H rfl rfl rfl (by repeat first | exact .head | apply Upd.tail) Tryz.sizeOf24 rfl (by rfl) (by rfl) (Wn.none rfl) ?_)))))
    intro w H
    refine NA (WA.done (by kernel_rfl) (TN (RT ?_)))
    refine WQ.ret2 rfl rfl ⟨_, rfl, H.loadAgg (by repeat (first | exact List.Mem.head _ | apply List.Mem.tail)) Tryz.isAgg24 Tryz.sizeOf24 (by rfl)⟩ H.ext ?_
    exact rfl
  · refine WR.call H (none_spec) rfl (trivial) (Wn.none rfl) rfl ?_
    intro v25 M w H hle hr25
    replace hp := hp.mono hle
    replace hc0 := hc0.mono hle
    replace hc1 := hc1.mono hle
    replace hf23 := hf23.mono hle
    obtain rfl := hr25
    refine NA (ON 4 (by kernel_rfl) rfl (ST (Ex.runesStr Tryz.underlying170 Tryz.underlying21 Tryz.underlying9 H (by assumption) rfl) rfl ?_))
    refine NA (ON 6 (by kernel_rfl) rfl (AS rfl rfl (NA (ON 7 (by kernel_rfl) rfl (WR.store [_, _] H rfl rfl rfl (by repeat first | exact .head | apply Upd.tail) Tryz.sizeOf24 rfl (by rfl) (by rfl) (Wn.none rfl) ?_)))))
    intro w H
    refine NA (WA.done (by kernel_rfl) (TN (RT ?_)))
    refine WQ.ret2 rfl rfl ⟨_, rfl, H.loadAgg (by repeat (first | exact List.Mem.head _ | apply List.Mem.tail)) Tryz.isAgg24 Tryz.sizeOf24 (by rfl)⟩ H.ext ?_
    exact rfl
theorem decode_spec_k (name : List UInt8) (v : Value) (l : List UInt8) (hn : name.length ≤ maxLen) (hs : l.length ≤ 12000) (k : Nat) (hk : setOf name = some k) : Ct Tryz.prog 97 [S name, v] (fun M => Bs M v l) (fun r _ => r = .tuple #[S (decoded k l), fault 0 0]) := by
  have h4 := setOf_lt hk
  rcases k with _ | _ | _ | _ | k
  · exact decode_0 name v l hn hs hk
  · exact decode_1 name v l hn hs hk
  · exact decode_2 name v l hn hs hk
  · exact decode_3 name v l hn hs hk
  · omega
theorem dr_fix0 (l : List UInt8) : ((dr l).1 : Int) = fix0 (rune l).1 := by
  rw [rune_dr]; unfold fix0
  split
  · rfl
  · simp only []; omega
theorem fix0_id {n : Int} (h : 0 ≤ n) : fix0 n = n := by unfold fix0; rw [if_neg (by omega)]
theorem encode_big (name l : List UInt8) (hn : name.length ≤ maxLen) (hs : 12000 < l.length) : Ct Tryz.prog 84 [S name, S l] (fun M => Tabs M) (fun r _ => r = .tuple #[.slice none 0 0, fault 1 (-1)]) := by
  refine Ct.of Tryz.func84 (enters Tryz.func84 (by kernel_rfl) rfl) rfl rfl rfl ?_
  intro w0 M0 H hp
  refine SQ (RG (AS rfl rfl (WR.alloc [_, _] H Tryz.zeroValue24 rfl (Wn.none rfl) rfl ?_)))
  intro b5 w H
  refine NL (TN (SQ (SQ (RG (MV rfl rfl (ST (Ex.lenStr Tryz.underlying9 rfl) rfl (WR.stepT (Ex.gtr rfl rfl) (by omega) (Wn.none rfl) rfl rfl ?_)))))))
  refine NL (TN (CT rfl (SQ (RG (WR.call H (fault_spec _ _) rfl (trivial) (Wn.none rfl) rfl ?_)))))
  intro v16 M w H hle hr16
  replace hp := hp.mono hle
  obtain rfl := hr16
  refine AS rfl rfl (WR.store [_, _] H rfl rfl rfl (by repeat first | exact .head | apply Upd.tail) Tryz.sizeOf24 rfl (by rfl) (by rfl) (Wn.none rfl) ?_)
  intro w H
  refine NL (TN (RT ?_))
  refine WQ.ret2 rfl rfl ⟨_, rfl, H.loadAgg (by repeat (first | exact List.Mem.head _ | apply List.Mem.tail)) Tryz.isAgg24 Tryz.sizeOf24 (by rfl)⟩ H.ext ?_
  exact rfl
theorem encode_unk (name l : List UInt8) (hn : name.length ≤ maxLen) (hs : l.length ≤ 12000) (hk : setOf name = none) : Ct Tryz.prog 84 [S name, S l] (fun M => Tabs M) (fun r _ => r = .tuple #[.slice none 0 0, fault 18 (-2)]) := by
  refine Ct.of Tryz.func84 (enters Tryz.func84 (by kernel_rfl) rfl) rfl rfl rfl ?_
  intro w0 M0 H hp
  refine SQ (RG (AS rfl rfl (WR.alloc [_, _] H Tryz.zeroValue24 rfl (Wn.none rfl) rfl ?_)))
  intro b5 w H
  refine NL (TN (SQ (SQ (RG (MV rfl rfl (ST (Ex.lenStr Tryz.underlying9 rfl) rfl (WR.stepF (Ex.gtr rfl rfl) (by omega) (Wn.none rfl) rfl rfl ?_)))))))
  refine NL (TN (CF rfl (SK (TN (SQ (RG (MV rfl rfl (WR.call H (Ct.mono (find_spec name hn) (R' := fun r M => ∃ b0 b1, CellM M ⟨b0, 0, none⟩ (encR 128) ∧ CellM M ⟨b1, 0, none⟩ (encR 256) ∧ r = .tuple #[.agg #[S [], .nilFunc, .nilFunc], .bool false]) (fun _ _ ⟨b0, b1, h0, h1, h⟩ => ⟨b0, b1, h0, h1, by rw [hk] at h; exact h⟩)) rfl (trivial) (Wn.none rfl) rfl ?_))))))))
  intro v19 M w H hle hr19
  replace hp := hp.mono hle
  obtain ⟨b0, b1, hc0, hc1, rfl⟩ := hr19
  refine MV rfl rfl (ST (Ex.extract rfl rfl) rfl (ST (Ex.extract rfl rfl) rfl (WR.alloc [_, _, _] H Tryz.zeroValue156 rfl (Wn.none rfl) rfl ?_)))
  intro b6 w H
  refine WR.store [_, _, _] H rfl rfl rfl (by repeat first | exact .head | apply Upd.tail) Tryz.sizeOf156 rfl (by rfl) (by rfl) (Wn.none rfl) ?_
  intro w H
  refine AS rfl rfl (NL (TN (SQ (SQ (RG (MV rfl rfl (ST (Ex.notF rfl) rfl (NL (TN (CT rfl (SQ (RG (WR.call H (fault_spec _ _) rfl (trivial) (Wn.none rfl) rfl ?_)))))))))))))
  intro v24 M w H hle hr24
  replace hp := hp.mono hle
  replace hc0 := hc0.mono hle
  replace hc1 := hc1.mono hle
  obtain rfl := hr24
  refine AS rfl rfl (WR.store [_, _] H rfl rfl rfl (by repeat first | exact .head | apply Upd.tail) Tryz.sizeOf24 rfl (by rfl) (by rfl) (Wn.none rfl) ?_)
  intro w H
  refine NL (TN (RT ?_))
  refine WQ.ret2 rfl rfl ⟨_, rfl, H.loadAgg (by repeat (first | exact List.Mem.head _ | apply List.Mem.tail)) Tryz.isAgg24 Tryz.sizeOf24 (by rfl)⟩ H.ext ?_
  exact rfl
theorem encode_mal0 (name l : List UInt8) (hn : name.length ≤ maxLen) (hs : l.length ≤ 12000) (hk : setOf name = some 0) (hv : vld l = false) : Ct Tryz.prog 84 [S name, S l] (fun M => Tabs M) (fun r _ => r = .tuple #[.slice none 0 0, fault 5 (-3)]) := by
  refine Ct.of Tryz.func84 (enters Tryz.func84 (by kernel_rfl) rfl) rfl rfl rfl ?_
  intro w0 M0 H hp
  refine SQ (RG (AS rfl rfl (WR.alloc [_, _] H Tryz.zeroValue24 rfl (Wn.none rfl) rfl ?_)))
  intro b5 w H
  refine NL (TN (SQ (SQ (RG (MV rfl rfl (ST (Ex.lenStr Tryz.underlying9 rfl) rfl (WR.stepF (Ex.gtr rfl rfl) (by omega) (Wn.none rfl) rfl rfl ?_)))))))
  refine NL (TN (CF rfl (SK (TN (SQ (RG (MV rfl rfl (WR.call H (Ct.mono (find_spec name hn) (R' := fun r M => ∃ b0 b1, CellM M ⟨b0, 0, none⟩ (encR 128) ∧ CellM M ⟨b1, 0, none⟩ (encR 256) ∧ r = .tuple #[.agg #[S [97, 115, 99, 105, 105], .func (.func 186) #[] #[ptr b0 0], .func (.func 187) #[] #[ptr b0 0]], .bool true]) (fun _ _ ⟨b0, b1, h0, h1, h⟩ => ⟨b0, b1, h0, h1, by rw [hk] at h; exact h⟩)) rfl (trivial) (Wn.none rfl) rfl ?_))))))))
  intro v19 M w H hle hr19
  replace hp := hp.mono hle
  obtain ⟨b0, b1, hc0, hc1, rfl⟩ := hr19
  refine MV rfl rfl (ST (Ex.extract rfl rfl) rfl (ST (Ex.extract rfl rfl) rfl (WR.alloc [_, _, _] H Tryz.zeroValue156 rfl (Wn.none rfl) rfl ?_)))
  intro b6 w H
  refine WR.store [_, _, _] H rfl rfl rfl (by repeat first | exact .head | apply Upd.tail) Tryz.sizeOf156 rfl (by rfl) (by rfl) (Wn.none rfl) ?_
  intro w H
  refine AS rfl rfl (NL (TN (SQ (SQ (RG (MV rfl rfl (ST (Ex.notT rfl) rfl (NL (TN (CF rfl (SK (TN (SQ (SQ (RG (MV rfl rfl (WR.call H (Ct.mono (validString_spec l (by omega)) (R' := fun r _ => r = .bool false) (fun _ _ h => by rw [hv] at h; exact h)) rfl (by assumption) (Wn.none rfl) rfl ?_)))))))))))))))))
  intro v26 M w H hle hr26
  replace hp := hp.mono hle
  replace hc0 := hc0.mono hle
  replace hc1 := hc1.mono hle
  obtain rfl := hr26
  refine ST (Ex.notF rfl) rfl (NL (TN (CT rfl (SQ (RG (WR.call H (fault_spec _ _) rfl (trivial) (Wn.none rfl) rfl ?_))))))
  intro v28 M w H hle hr28
  replace hp := hp.mono hle
  replace hc0 := hc0.mono hle
  replace hc1 := hc1.mono hle
  obtain rfl := hr28
  refine AS rfl rfl (WR.store [_, _] H rfl rfl rfl (by repeat first | exact .head | apply Upd.tail) Tryz.sizeOf24 rfl (by rfl) (by rfl) (Wn.none rfl) ?_)
  intro w H
  refine NL (TN (RT ?_))
  refine WQ.ret2 rfl rfl ⟨_, rfl, H.loadAgg (by repeat (first | exact List.Mem.head _ | apply List.Mem.tail)) Tryz.isAgg24 Tryz.sizeOf24 (by rfl)⟩ H.ext ?_
  exact rfl
theorem encode_mal1 (name l : List UInt8) (hn : name.length ≤ maxLen) (hs : l.length ≤ 12000) (hk : setOf name = some 1) (hv : vld l = false) : Ct Tryz.prog 84 [S name, S l] (fun M => Tabs M) (fun r _ => r = .tuple #[.slice none 0 0, fault 5 (-3)]) := by
  refine Ct.of Tryz.func84 (enters Tryz.func84 (by kernel_rfl) rfl) rfl rfl rfl ?_
  intro w0 M0 H hp
  refine SQ (RG (AS rfl rfl (WR.alloc [_, _] H Tryz.zeroValue24 rfl (Wn.none rfl) rfl ?_)))
  intro b5 w H
  refine NL (TN (SQ (SQ (RG (MV rfl rfl (ST (Ex.lenStr Tryz.underlying9 rfl) rfl (WR.stepF (Ex.gtr rfl rfl) (by omega) (Wn.none rfl) rfl rfl ?_)))))))
  refine NL (TN (CF rfl (SK (TN (SQ (RG (MV rfl rfl (WR.call H (Ct.mono (find_spec name hn) (R' := fun r M => ∃ b0 b1, CellM M ⟨b0, 0, none⟩ (encR 128) ∧ CellM M ⟨b1, 0, none⟩ (encR 256) ∧ r = .tuple #[.agg #[S [108, 97, 116, 105, 110, 49], .func (.func 186) #[] #[ptr b1 0], .func (.func 187) #[] #[ptr b1 0]], .bool true]) (fun _ _ ⟨b0, b1, h0, h1, h⟩ => ⟨b0, b1, h0, h1, by rw [hk] at h; exact h⟩)) rfl (trivial) (Wn.none rfl) rfl ?_))))))))
  intro v19 M w H hle hr19
  replace hp := hp.mono hle
  obtain ⟨b0, b1, hc0, hc1, rfl⟩ := hr19
  refine MV rfl rfl (ST (Ex.extract rfl rfl) rfl (ST (Ex.extract rfl rfl) rfl (WR.alloc [_, _, _] H Tryz.zeroValue156 rfl (Wn.none rfl) rfl ?_)))
  intro b6 w H
  refine WR.store [_, _, _] H rfl rfl rfl (by repeat first | exact .head | apply Upd.tail) Tryz.sizeOf156 rfl (by rfl) (by rfl) (Wn.none rfl) ?_
  intro w H
  refine AS rfl rfl (NL (TN (SQ (SQ (RG (MV rfl rfl (ST (Ex.notT rfl) rfl (NL (TN (CF rfl (SK (TN (SQ (SQ (RG (MV rfl rfl (WR.call H (Ct.mono (validString_spec l (by omega)) (R' := fun r _ => r = .bool false) (fun _ _ h => by rw [hv] at h; exact h)) rfl (by assumption) (Wn.none rfl) rfl ?_)))))))))))))))))
  intro v26 M w H hle hr26
  replace hp := hp.mono hle
  replace hc0 := hc0.mono hle
  replace hc1 := hc1.mono hle
  obtain rfl := hr26
  refine ST (Ex.notF rfl) rfl (NL (TN (CT rfl (SQ (RG (WR.call H (fault_spec _ _) rfl (trivial) (Wn.none rfl) rfl ?_))))))
  intro v28 M w H hle hr28
  replace hp := hp.mono hle
  replace hc0 := hc0.mono hle
  replace hc1 := hc1.mono hle
  obtain rfl := hr28
  refine AS rfl rfl (WR.store [_, _] H rfl rfl rfl (by repeat first | exact .head | apply Upd.tail) Tryz.sizeOf24 rfl (by rfl) (by rfl) (Wn.none rfl) ?_)
  intro w H
  refine NL (TN (RT ?_))
  refine WQ.ret2 rfl rfl ⟨_, rfl, H.loadAgg (by repeat (first | exact List.Mem.head _ | apply List.Mem.tail)) Tryz.isAgg24 Tryz.sizeOf24 (by rfl)⟩ H.ext ?_
  exact rfl
theorem encode_mal2 (name l : List UInt8) (hn : name.length ≤ maxLen) (hs : l.length ≤ 12000) (hk : setOf name = some 2) (hv : vld l = false) : Ct Tryz.prog 84 [S name, S l] (fun M => Tabs M) (fun r _ => r = .tuple #[.slice none 0 0, fault 5 (-3)]) := by
  refine Ct.of Tryz.func84 (enters Tryz.func84 (by kernel_rfl) rfl) rfl rfl rfl ?_
  intro w0 M0 H hp
  refine SQ (RG (AS rfl rfl (WR.alloc [_, _] H Tryz.zeroValue24 rfl (Wn.none rfl) rfl ?_)))
  intro b5 w H
  refine NL (TN (SQ (SQ (RG (MV rfl rfl (ST (Ex.lenStr Tryz.underlying9 rfl) rfl (WR.stepF (Ex.gtr rfl rfl) (by omega) (Wn.none rfl) rfl rfl ?_)))))))
  refine NL (TN (CF rfl (SK (TN (SQ (RG (MV rfl rfl (WR.call H (Ct.mono (find_spec name hn) (R' := fun r M => ∃ b0 b1, CellM M ⟨b0, 0, none⟩ (encR 128) ∧ CellM M ⟨b1, 0, none⟩ (encR 256) ∧ r = .tuple #[.agg #[S [117, 116, 102, 56], .func (.func 158) #[] #[], .func (.func 159) #[] #[]], .bool true]) (fun _ _ ⟨b0, b1, h0, h1, h⟩ => ⟨b0, b1, h0, h1, by rw [hk] at h; exact h⟩)) rfl (trivial) (Wn.none rfl) rfl ?_))))))))
  intro v19 M w H hle hr19
  replace hp := hp.mono hle
  obtain ⟨b0, b1, hc0, hc1, rfl⟩ := hr19
  refine MV rfl rfl (ST (Ex.extract rfl rfl) rfl (ST (Ex.extract rfl rfl) rfl (WR.alloc [_, _, _] H Tryz.zeroValue156 rfl (Wn.none rfl) rfl ?_)))
  intro b6 w H
  refine WR.store [_, _, _] H rfl rfl rfl (by repeat first | exact .head | apply Upd.tail) Tryz.sizeOf156 rfl (by rfl) (by rfl) (Wn.none rfl) ?_
  intro w H
  refine AS rfl rfl (NL (TN (SQ (SQ (RG (MV rfl rfl (ST (Ex.notT rfl) rfl (NL (TN (CF rfl (SK (TN (SQ (SQ (RG (MV rfl rfl (WR.call H (Ct.mono (validString_spec l (by omega)) (R' := fun r _ => r = .bool false) (fun _ _ h => by rw [hv] at h; exact h)) rfl (by assumption) (Wn.none rfl) rfl ?_)))))))))))))))))
  intro v26 M w H hle hr26
  replace hp := hp.mono hle
  replace hc0 := hc0.mono hle
  replace hc1 := hc1.mono hle
  obtain rfl := hr26
  refine ST (Ex.notF rfl) rfl (NL (TN (CT rfl (SQ (RG (WR.call H (fault_spec _ _) rfl (trivial) (Wn.none rfl) rfl ?_))))))
  intro v28 M w H hle hr28
  replace hp := hp.mono hle
  replace hc0 := hc0.mono hle
  replace hc1 := hc1.mono hle
  obtain rfl := hr28
  refine AS rfl rfl (WR.store [_, _] H rfl rfl rfl (by repeat first | exact .head | apply Upd.tail) Tryz.sizeOf24 rfl (by rfl) (by rfl) (Wn.none rfl) ?_)
  intro w H
  refine NL (TN (RT ?_))
  refine WQ.ret2 rfl rfl ⟨_, rfl, H.loadAgg (by repeat (first | exact List.Mem.head _ | apply List.Mem.tail)) Tryz.isAgg24 Tryz.sizeOf24 (by rfl)⟩ H.ext ?_
  exact rfl
theorem encode_mal3 (name l : List UInt8) (hn : name.length ≤ maxLen) (hs : l.length ≤ 12000) (hk : setOf name = some 3) (hv : vld l = false) : Ct Tryz.prog 84 [S name, S l] (fun M => Tabs M) (fun r _ => r = .tuple #[.slice none 0 0, fault 5 (-3)]) := by
  refine Ct.of Tryz.func84 (enters Tryz.func84 (by kernel_rfl) rfl) rfl rfl rfl ?_
  intro w0 M0 H hp
  refine SQ (RG (AS rfl rfl (WR.alloc [_, _] H Tryz.zeroValue24 rfl (Wn.none rfl) rfl ?_)))
  intro b5 w H
  refine NL (TN (SQ (SQ (RG (MV rfl rfl (ST (Ex.lenStr Tryz.underlying9 rfl) rfl (WR.stepF (Ex.gtr rfl rfl) (by omega) (Wn.none rfl) rfl rfl ?_)))))))
  refine NL (TN (CF rfl (SK (TN (SQ (RG (MV rfl rfl (WR.call H (Ct.mono (find_spec name hn) (R' := fun r M => ∃ b0 b1, CellM M ⟨b0, 0, none⟩ (encR 128) ∧ CellM M ⟨b1, 0, none⟩ (encR 256) ∧ r = .tuple #[.agg #[S [117, 116, 102, 49, 54, 98, 101], .func (.func 161) #[] #[], .func (.func 162) #[] #[]], .bool true]) (fun _ _ ⟨b0, b1, h0, h1, h⟩ => ⟨b0, b1, h0, h1, by rw [hk] at h; exact h⟩)) rfl (trivial) (Wn.none rfl) rfl ?_))))))))
  intro v19 M w H hle hr19
  replace hp := hp.mono hle
  obtain ⟨b0, b1, hc0, hc1, rfl⟩ := hr19
  refine MV rfl rfl (ST (Ex.extract rfl rfl) rfl (ST (Ex.extract rfl rfl) rfl (WR.alloc [_, _, _] H Tryz.zeroValue156 rfl (Wn.none rfl) rfl ?_)))
  intro b6 w H
  refine WR.store [_, _, _] H rfl rfl rfl (by repeat first | exact .head | apply Upd.tail) Tryz.sizeOf156 rfl (by rfl) (by rfl) (Wn.none rfl) ?_
  intro w H
  refine AS rfl rfl (NL (TN (SQ (SQ (RG (MV rfl rfl (ST (Ex.notT rfl) rfl (NL (TN (CF rfl (SK (TN (SQ (SQ (RG (MV rfl rfl (WR.call H (Ct.mono (validString_spec l (by omega)) (R' := fun r _ => r = .bool false) (fun _ _ h => by rw [hv] at h; exact h)) rfl (by assumption) (Wn.none rfl) rfl ?_)))))))))))))))))
  intro v26 M w H hle hr26
  replace hp := hp.mono hle
  replace hc0 := hc0.mono hle
  replace hc1 := hc1.mono hle
  obtain rfl := hr26
  refine ST (Ex.notF rfl) rfl (NL (TN (CT rfl (SQ (RG (WR.call H (fault_spec _ _) rfl (trivial) (Wn.none rfl) rfl ?_))))))
  intro v28 M w H hle hr28
  replace hp := hp.mono hle
  replace hc0 := hc0.mono hle
  replace hc1 := hc1.mono hle
  obtain rfl := hr28
  refine AS rfl rfl (WR.store [_, _] H rfl rfl rfl (by repeat first | exact .head | apply Upd.tail) Tryz.sizeOf24 rfl (by rfl) (by rfl) (Wn.none rfl) ?_)
  intro w H
  refine NL (TN (RT ?_))
  refine WQ.ret2 rfl rfl ⟨_, rfl, H.loadAgg (by repeat (first | exact List.Mem.head _ | apply List.Mem.tail)) Tryz.isAgg24 Tryz.sizeOf24 (by rfl)⟩ H.ext ?_
  exact rfl
theorem encode_0 (name l : List UInt8) (hn : name.length ≤ maxLen) (hs : l.length ≤ 12000) (hk : setOf name = some 0) (hv : vld l = true) : Ct Tryz.prog 84 [S name, S l] (fun M => Tabs M) (fun r M => match encGo (encK 0) (chars l) 0 with | .ok b => ∃ v, r = .tuple #[v, fault 0 0] ∧ Bs M v b | .error e => r = .tuple #[.slice none 0 0, fault 17 (e : Int)]) := by
  refine Ct.of Tryz.func84 (enters Tryz.func84 (by kernel_rfl) rfl) rfl rfl rfl ?_
  intro w0 M0 H hp
  refine SQ (RG (AS rfl rfl (WR.alloc [_, _] H Tryz.zeroValue24 rfl (Wn.none rfl) rfl ?_)))
  intro b5 w H
  refine NL (TN (SQ (SQ (RG (MV rfl rfl (ST (Ex.lenStr Tryz.underlying9 rfl) rfl (WR.stepF (Ex.gtr rfl rfl) (by omega) (Wn.none rfl) rfl rfl ?_)))))))
  refine NL (TN (CF rfl (SK (TN (SQ (RG (MV rfl rfl (WR.call H (Ct.mono (find_spec name hn) (R' := fun r M => ∃ b0 b1, CellM M ⟨b0, 0, none⟩ (encR 128) ∧ CellM M ⟨b1, 0, none⟩ (encR 256) ∧ r = .tuple #[.agg #[S [97, 115, 99, 105, 105], .func (.func 186) #[] #[ptr b0 0], .func (.func 187) #[] #[ptr b0 0]], .bool true]) (fun _ _ ⟨b0, b1, h0, h1, h⟩ => ⟨b0, b1, h0, h1, by rw [hk] at h; exact h⟩)) rfl (trivial) (Wn.none rfl) rfl ?_))))))))
  intro v19 M w H hle hr19
  replace hp := hp.mono hle
  obtain ⟨b0, b1, hc0, hc1, rfl⟩ := hr19
  refine MV rfl rfl (ST (Ex.extract rfl rfl) rfl (ST (Ex.extract rfl rfl) rfl (WR.alloc [_, _, _] H Tryz.zeroValue156 rfl (Wn.none rfl) rfl ?_)))
  intro b6 w H
  refine WR.store [_, _, _] H rfl rfl rfl (by repeat first | exact .head | apply Upd.tail) Tryz.sizeOf156 rfl (by rfl) (by rfl) (Wn.none rfl) ?_
  intro w H
  refine AS rfl rfl (NL (TN (SQ (SQ (RG (MV rfl rfl (ST (Ex.notT rfl) rfl (NL (TN (CF rfl (SK (TN (SQ (SQ (RG (MV rfl rfl (WR.call H (Ct.mono (validString_spec l (by omega)) (R' := fun r _ => r = .bool true) (fun _ _ h => by rw [hv] at h; exact h)) rfl (by assumption) (Wn.none rfl) rfl ?_)))))))))))))))))
  intro v26 M w H hle hr26
  replace hp := hp.mono hle
  replace hc0 := hc0.mono hle
  replace hc1 := hc1.mono hle
  obtain rfl := hr26
  refine ST (Ex.notT rfl) rfl (NL (TN (CF rfl (SK (TN (SQ (RG ?_)))))))
  replace H := H.newRow 5 encB
  refine AS rfl rfl (NL (TN (SQ (SQ (RG (MV rfl rfl (WR.rangeStr H Tryz.underlying9 rfl (Wn.none rfl) rfl ?_)))))))
  intro b30 w H
  refine NL (TN (BL (WC.loop3 (fun (q : Nat) (ov : Value) (o : List UInt8) => [(5, ptr b5 0), (6, ptr b6 0), (8, ov), (30, ptr b30 0)]) (fun (q : Nat) (ov : Value) (o : List UInt8) w => (q ≤ l.length ∧ o.length ≤ 4 * q) ∧ vld (l.drop q) = true ∧ encGo (encK 0) (chars l) 0 = pre o (encGo (encK 0) (chars (l.drop q)) q) ∧ ∃ M, St w0 M0 M [.blk b30 (.stringIter ⟨l.toArray⟩ q), RowI 5 encB ov o, .blk b6 (.cells #[S [97, 115, 99, 105, 105], .func (.func 186) #[] #[ptr b0 0], .func (.func 187) #[] #[ptr b0 0]] 156), .blk b5 (.cells #[I 0, I 0] 24)] w ∧ CellM M ⟨b0, 0, none⟩ (encR 128)) (fun (q : Nat) (ov : Value) (o : List UInt8) => l.length - q) (0) (_) (_) ⟨rfl, rfl, rfl, rfl, trivial⟩ (⟨by simp, hv, (pre_nil _).symm, M, H, hc0⟩) ?_)))
  intro q ov o w
  rintro ⟨hq, hvq, hgo, M, H, hc0⟩
  refine SQ (RG ?_)
  by_cases h10_0 : q < l.length
  · have hne := drop_ne (t := l) (n := q) h10_0
    have hrs := rune_size (l.drop q)
    have hrs3 := hrs.2.2 hne
    rw [List.length_drop] at hrs3
    rw [vld_cons hne, Bool.and_eq_true] at hvq
    have hr0 := of_decide_eq_true hvq.1
    have hvn := hvq.2
    have hrl := rune_lt (l.drop q)
    have hdr : ((dr (l.drop q)).1 : Int) = (rune (l.drop q)).1 := by rw [dr_fix0, fix0_id hr0]
    have hch : chars (l.drop q) = ((rune (l.drop q)).1, (l.drop q).take (rune (l.drop q)).2) :: chars (l.drop (q + (rune (l.drop q)).2)) := by rw [chars_cons hne, List.drop_drop]
    refine WR.nextT H h10_0 rfl (by repeat first | exact .head | apply Upd.tail) (Wn.none rfl) rfl ?_
    intro w H
    refine ST (Ex.extract rfl rfl) rfl (NL (TN (SQ (CT rfl (SK (TN (BL (SQ (RG (ST (Ex.extract rfl rfl) rfl (WR.stepE (v' := encR (rune (l.drop q)).1) (Ex.extract rfl rfl) (congrArg encR hdr) (Wn.none rfl) rfl rfl (AS rfl rfl (AS rfl rfl (NL (TN (SQ (RG (ST (Ex.fieldAddr Tryz.underlying156 rfl Tryz.sizeOf154 (by decide) rfl) rfl ?_))))))))))))))))))
    first | refine WR.step (Ex.loadM H rfl (by assumption) Tryz.isAgg154) (Wn.none rfl) rfl rfl ?_ | refine WR.step (Ex.load1 H rfl (by repeat (first | exact List.Mem.head _ | apply List.Mem.tail)) Tryz.isAgg154 (by rfl)) (Wn.none rfl) rfl rfl ?_
    refine MV rfl rfl ?_
    by_cases hok : (rune (l.drop q)).1 < 128
    · have hstep : encK 0 (rune (l.drop q)).1 = some ([ub (rune (l.drop q)).1]) := by rw [encK0, Chs.encS, if_pos hok]
      have hbl := encK_len hstep
      refine WR.callV (cap := [ptr b0 0]) H (Ct.mono (enc1_spec (rune (l.drop q)).1 b0 128) (R' := fun r M => ∃ v, r = .tuple #[v, .bool true] ∧ Bs M v ([ub (rune (l.drop q)).1])) (fun _ _ ⟨v, h1, h2⟩ => ⟨v, by rw [decide_eq_true hok] at h1; exact h1, h2⟩)) rfl rfl (by assumption) (Wn.none rfl) rfl ?_
      intro v39 M w H hle hr39
      replace hc0 := hc0.mono hle
      obtain ⟨v39, rfl, hf39⟩ := hr39
      refine MV rfl rfl (ST (Ex.extract rfl rfl) rfl (ST (Ex.extract rfl rfl) rfl (AS rfl rfl (AS rfl rfl (NL (TN (SQ (SQ (RG (MV rfl rfl (ST (Ex.notT rfl) rfl (NL (TN (CF rfl (SK (TN (RG (MV rfl rfl (MV rfl rfl (WR.appendSl ty30 (fun _ => rfl) H rfl (fun _ => by repeat first | exact .head | apply Upd.tail) rfl (by assumption) (by first | omega | (simp only [List.length_append, List.length_cons, List.length_nil, List.length_take, List.length_drop]; omega)) (by first | (simp only [maxLen]; omega) | (simp only [maxLen, List.length_append, List.length_cons, List.length_nil, List.length_take, List.length_drop]; omega)) (Wn.none rfl) rfl ?_))))))))))))))))))))
      intro v48 w H
      refine AS rfl rfl (NL (IB ?_))
      refine WQ.again3 (q + (dr (l.drop q)).2) (v48) (o ++ ([ub (rune (l.drop q)).1])) ⟨rfl, rfl, rfl, rfl, trivial⟩ ?_ ?_
      · refine ⟨by rw [dr_size, List.length_append]; omega, ?_, ?_, M, H, hc0⟩
        · rw [dr_size, ← List.drop_drop]; exact hvn
        · rw [hgo, hch, encGo_step o hstep, dr_size]
          simp only [List.length_take, List.length_drop]
          rw [Nat.min_eq_left (by omega)]
      · rw [dr_size]; omega
    · have hres : encGo (encK 0) (chars l) 0 = .error q := by rw [hgo, hch]; exact encGo_stop o (by rw [encK0, Chs.encS, if_neg hok])
      refine WR.callV (cap := [ptr b0 0]) H (Ct.mono (enc1_spec (rune (l.drop q)).1 b0 128) (R' := fun r M => ∃ v, r = .tuple #[v, .bool false] ∧ Bs M v ([ub (rune (l.drop q)).1])) (fun _ _ ⟨v, h1, h2⟩ => ⟨v, by rw [decide_eq_false hok] at h1; exact h1, h2⟩)) rfl rfl (by assumption) (Wn.none rfl) rfl ?_
      intro v39 M w H hle hr39
      replace hc0 := hc0.mono hle
      obtain ⟨v39, rfl, hf39⟩ := hr39
      refine MV rfl rfl (ST (Ex.extract rfl rfl) rfl (ST (Ex.extract rfl rfl) rfl (AS rfl rfl (AS rfl rfl (NL (TN (SQ (SQ (RG (MV rfl rfl (ST (Ex.notF rfl) rfl (NL (TN (CT rfl (SQ (RG (MV rfl rfl (WR.call H (fault_spec _ _) rfl (trivial) (Wn.none rfl) rfl ?_))))))))))))))))))
      intro v45 M w H hle hr45
      replace hc0 := hc0.mono hle
      replace hf39 := hf39.mono hle
      obtain rfl := hr45
      refine AS rfl rfl (WR.store [_, _] H rfl rfl rfl (by repeat first | exact .head | apply Upd.tail) Tryz.sizeOf24 rfl (by rfl) (by rfl) (Wn.none rfl) ?_)
      intro w H
      refine NL (TN (RT ?_))
      refine WQ.ret2 rfl rfl ⟨_, rfl, H.loadAgg (by repeat (first | exact List.Mem.head _ | apply List.Mem.tail)) Tryz.isAgg24 Tryz.sizeOf24 (by rfl)⟩ H.ext ?_
      refine  ?_
      rw [hres]
  · have hres : encGo (encK 0) (chars l) 0 = .ok o := by rw [hgo, List.drop_eq_nil_of_le (by omega), chars_nil]; simp [encGo, pre]
    refine WR.nextF H (Nat.le_of_not_lt h10_0) rfl (by repeat (first | exact List.Mem.head _ | apply List.Mem.tail)) (Wn.none rfl) rfl ?_
    refine ST (Ex.extract rfl rfl) rfl (NL (TN (SQ (CF rfl (WC.exit (WQ.thenExit (WQ.thenExit (WQ.exitHere (TN (SQ (RG (MV rfl rfl (WR.call H (none_spec) rfl (trivial) (Wn.none rfl) rfl ?_)))))))))))))
    intro v50 M w H hle hr50
    replace hc0 := hc0.mono hle
    obtain rfl := hr50
    refine AS rfl rfl (WR.store [_, _] H rfl rfl rfl (by repeat first | exact .head | apply Upd.tail) Tryz.sizeOf24 rfl (by rfl) (by rfl) (Wn.none rfl) ?_)
    intro w H
    refine NL (TN (RT ?_))
    obtain ⟨M, hle, hf, H⟩ := H.freezeRow (v := ov) (enc := encB) (t := 5) (by repeat first | exact .head | apply Rem.tail)
    refine WQ.ret2 rfl rfl ⟨_, rfl, H.loadAgg (by repeat (first | exact List.Mem.head _ | apply List.Mem.tail)) Tryz.isAgg24 Tryz.sizeOf24 (by rfl)⟩ H.ext ?_
    refine  ?_
    rw [hres]
    exact ⟨_, rfl, hf⟩
theorem encode_1 (name l : List UInt8) (hn : name.length ≤ maxLen) (hs : l.length ≤ 12000) (hk : setOf name = some 1) (hv : vld l = true) : Ct Tryz.prog 84 [S name, S l] (fun M => Tabs M) (fun r M => match encGo (encK 1) (chars l) 0 with | .ok b => ∃ v, r = .tuple #[v, fault 0 0] ∧ Bs M v b | .error e => r = .tuple #[.slice none 0 0, fault 17 (e : Int)]) := by
  refine Ct.of Tryz.func84 (enters Tryz.func84 (by kernel_rfl) rfl) rfl rfl rfl ?_
  intro w0 M0 H hp
  refine SQ (RG (AS rfl rfl (WR.alloc [_, _] H Tryz.zeroValue24 rfl (Wn.none rfl) rfl ?_)))
  intro b5 w H
  refine NL (TN (SQ (SQ (RG (MV rfl rfl (ST (Ex.lenStr Tryz.underlying9 rfl) rfl (WR.stepF (Ex.gtr rfl rfl) (by omega) (Wn.none rfl) rfl rfl ?_)))))))
  refine NL (TN (CF rfl (SK (TN (SQ (RG (MV rfl rfl (WR.call H (Ct.mono (find_spec name hn) (R' := fun r M => ∃ b0 b1, CellM M ⟨b0, 0, none⟩ (encR 128) ∧ CellM M ⟨b1, 0, none⟩ (encR 256) ∧ r = .tuple #[.agg #[S [108, 97, 116, 105, 110, 49], .func (.func 186) #[] #[ptr b1 0], .func (.func 187) #[] #[ptr b1 0]], .bool true]) (fun _ _ ⟨b0, b1, h0, h1, h⟩ => ⟨b0, b1, h0, h1, by rw [hk] at h; exact h⟩)) rfl (trivial) (Wn.none rfl) rfl ?_))))))))
  intro v19 M w H hle hr19
  replace hp := hp.mono hle
  obtain ⟨b0, b1, hc0, hc1, rfl⟩ := hr19
  refine MV rfl rfl (ST (Ex.extract rfl rfl) rfl (ST (Ex.extract rfl rfl) rfl (WR.alloc [_, _, _] H Tryz.zeroValue156 rfl (Wn.none rfl) rfl ?_)))
  intro b6 w H
  refine WR.store [_, _, _] H rfl rfl rfl (by repeat first | exact .head | apply Upd.tail) Tryz.sizeOf156 rfl (by rfl) (by rfl) (Wn.none rfl) ?_
  intro w H
  refine AS rfl rfl (NL (TN (SQ (SQ (RG (MV rfl rfl (ST (Ex.notT rfl) rfl (NL (TN (CF rfl (SK (TN (SQ (SQ (RG (MV rfl rfl (WR.call H (Ct.mono (validString_spec l (by omega)) (R' := fun r _ => r = .bool true) (fun _ _ h => by rw [hv] at h; exact h)) rfl (by assumption) (Wn.none rfl) rfl ?_)))))))))))))))))
  intro v26 M w H hle hr26
  replace hp := hp.mono hle
  replace hc0 := hc0.mono hle
  replace hc1 := hc1.mono hle
  obtain rfl := hr26
  refine ST (Ex.notT rfl) rfl (NL (TN (CF rfl (SK (TN (SQ (RG ?_)))))))
  replace H := H.newRow 5 encB
  refine AS rfl rfl (NL (TN (SQ (SQ (RG (MV rfl rfl (WR.rangeStr H Tryz.underlying9 rfl (Wn.none rfl) rfl ?_)))))))
  intro b30 w H
  refine NL (TN (BL (WC.loop3 (fun (q : Nat) (ov : Value) (o : List UInt8) => [(5, ptr b5 0), (6, ptr b6 0), (8, ov), (30, ptr b30 0)]) (fun (q : Nat) (ov : Value) (o : List UInt8) w => (q ≤ l.length ∧ o.length ≤ 4 * q) ∧ vld (l.drop q) = true ∧ encGo (encK 1) (chars l) 0 = pre o (encGo (encK 1) (chars (l.drop q)) q) ∧ ∃ M, St w0 M0 M [.blk b30 (.stringIter ⟨l.toArray⟩ q), RowI 5 encB ov o, .blk b6 (.cells #[S [108, 97, 116, 105, 110, 49], .func (.func 186) #[] #[ptr b1 0], .func (.func 187) #[] #[ptr b1 0]] 156), .blk b5 (.cells #[I 0, I 0] 24)] w ∧ CellM M ⟨b1, 0, none⟩ (encR 256)) (fun (q : Nat) (ov : Value) (o : List UInt8) => l.length - q) (0) (_) (_) ⟨rfl, rfl, rfl, rfl, trivial⟩ (⟨by simp, hv, (pre_nil _).symm, M, H, hc1⟩) ?_)))
  intro q ov o w
  rintro ⟨hq, hvq, hgo, M, H, hc1⟩
  refine SQ (RG ?_)
  by_cases h10_0 : q < l.length
  · have hne := drop_ne (t := l) (n := q) h10_0
    have hrs := rune_size (l.drop q)
    have hrs3 := hrs.2.2 hne
    rw [List.length_drop] at hrs3
    rw [vld_cons hne, Bool.and_eq_true] at hvq
    have hr0 := of_decide_eq_true hvq.1
    have hvn := hvq.2
    have hrl := rune_lt (l.drop q)
    have hdr : ((dr (l.drop q)).1 : Int) = (rune (l.drop q)).1 := by rw [dr_fix0, fix0_id hr0]
    have hch : chars (l.drop q) = ((rune (l.drop q)).1, (l.drop q).take (rune (l.drop q)).2) :: chars (l.drop (q + (rune (l.drop q)).2)) := by rw [chars_cons hne, List.drop_drop]
    refine WR.nextT H h10_0 rfl (by repeat first | exact .head | apply Upd.tail) (Wn.none rfl) rfl ?_
    intro w H
    refine ST (Ex.extract rfl rfl) rfl (NL (TN (SQ (CT rfl (SK (TN (BL (SQ (RG (ST (Ex.extract rfl rfl) rfl (WR.stepE (v' := encR (rune (l.drop q)).1) (Ex.extract rfl rfl) (congrArg encR hdr) (Wn.none rfl) rfl rfl (AS rfl rfl (AS rfl rfl (NL (TN (SQ (RG (ST (Ex.fieldAddr Tryz.underlying156 rfl Tryz.sizeOf154 (by decide) rfl) rfl ?_))))))))))))))))))
    first | refine WR.step (Ex.loadM H rfl (by assumption) Tryz.isAgg154) (Wn.none rfl) rfl rfl ?_ | refine WR.step (Ex.load1 H rfl (by repeat (first | exact List.Mem.head _ | apply List.Mem.tail)) Tryz.isAgg154 (by rfl)) (Wn.none rfl) rfl rfl ?_
    refine MV rfl rfl ?_
    by_cases hok : (rune (l.drop q)).1 < 256
    · have hstep : encK 1 (rune (l.drop q)).1 = some ([ub (rune (l.drop q)).1]) := by rw [encK1, Chs.encS, if_pos hok]
      have hbl := encK_len hstep
      refine WR.callV (cap := [ptr b1 0]) H (Ct.mono (enc1_spec (rune (l.drop q)).1 b1 256) (R' := fun r M => ∃ v, r = .tuple #[v, .bool true] ∧ Bs M v ([ub (rune (l.drop q)).1])) (fun _ _ ⟨v, h1, h2⟩ => ⟨v, by rw [decide_eq_true hok] at h1; exact h1, h2⟩)) rfl rfl (by assumption) (Wn.none rfl) rfl ?_
      intro v39 M w H hle hr39
      replace hc1 := hc1.mono hle
      obtain ⟨v39, rfl, hf39⟩ := hr39
      refine MV rfl rfl (ST (Ex.extract rfl rfl) rfl (ST (Ex.extract rfl rfl) rfl (AS rfl rfl (AS rfl rfl (NL (TN (SQ (SQ (RG (MV rfl rfl (ST (Ex.notT rfl) rfl (NL (TN (CF rfl (SK (TN (RG (MV rfl rfl (MV rfl rfl (WR.appendSl ty30 (fun _ => rfl) H rfl (fun _ => by repeat first | exact .head | apply Upd.tail) rfl (by assumption) (by first | omega | (simp only [List.length_append, List.length_cons, List.length_nil, List.length_take, List.length_drop]; omega)) (by first | (simp only [maxLen]; omega) | (simp only [maxLen, List.length_append, List.length_cons, List.length_nil, List.length_take, List.length_drop]; omega)) (Wn.none rfl) rfl ?_))))))))))))))))))))
      intro v48 w H
      refine AS rfl rfl (NL (IB ?_))
      refine WQ.again3 (q + (dr (l.drop q)).2) (v48) (o ++ ([ub (rune (l.drop q)).1])) ⟨rfl, rfl, rfl, rfl, trivial⟩ ?_ ?_
      · refine ⟨by rw [dr_size, List.length_append]; omega, ?_, ?_, M, H, hc1⟩
        · rw [dr_size, ← List.drop_drop]; exact hvn
        · rw [hgo, hch, encGo_step o hstep, dr_size]
          simp only [List.length_take, List.length_drop]
          rw [Nat.min_eq_left (by omega)]
      · rw [dr_size]; omega
    · have hres : encGo (encK 1) (chars l) 0 = .error q := by rw [hgo, hch]; exact encGo_stop o (by rw [encK1, Chs.encS, if_neg hok])
      refine WR.callV (cap := [ptr b1 0]) H (Ct.mono (enc1_spec (rune (l.drop q)).1 b1 256) (R' := fun r M => ∃ v, r = .tuple #[v, .bool false] ∧ Bs M v ([ub (rune (l.drop q)).1])) (fun _ _ ⟨v, h1, h2⟩ => ⟨v, by rw [decide_eq_false hok] at h1; exact h1, h2⟩)) rfl rfl (by assumption) (Wn.none rfl) rfl ?_
      intro v39 M w H hle hr39
      replace hc1 := hc1.mono hle
      obtain ⟨v39, rfl, hf39⟩ := hr39
      refine MV rfl rfl (ST (Ex.extract rfl rfl) rfl (ST (Ex.extract rfl rfl) rfl (AS rfl rfl (AS rfl rfl (NL (TN (SQ (SQ (RG (MV rfl rfl (ST (Ex.notF rfl) rfl (NL (TN (CT rfl (SQ (RG (MV rfl rfl (WR.call H (fault_spec _ _) rfl (trivial) (Wn.none rfl) rfl ?_))))))))))))))))))
      intro v45 M w H hle hr45
      replace hc1 := hc1.mono hle
      replace hf39 := hf39.mono hle
      obtain rfl := hr45
      refine AS rfl rfl (WR.store [_, _] H rfl rfl rfl (by repeat first | exact .head | apply Upd.tail) Tryz.sizeOf24 rfl (by rfl) (by rfl) (Wn.none rfl) ?_)
      intro w H
      refine NL (TN (RT ?_))
      refine WQ.ret2 rfl rfl ⟨_, rfl, H.loadAgg (by repeat (first | exact List.Mem.head _ | apply List.Mem.tail)) Tryz.isAgg24 Tryz.sizeOf24 (by rfl)⟩ H.ext ?_
      refine  ?_
      rw [hres]
  · have hres : encGo (encK 1) (chars l) 0 = .ok o := by rw [hgo, List.drop_eq_nil_of_le (by omega), chars_nil]; simp [encGo, pre]
    refine WR.nextF H (Nat.le_of_not_lt h10_0) rfl (by repeat (first | exact List.Mem.head _ | apply List.Mem.tail)) (Wn.none rfl) rfl ?_
    refine ST (Ex.extract rfl rfl) rfl (NL (TN (SQ (CF rfl (WC.exit (WQ.thenExit (WQ.thenExit (WQ.exitHere (TN (SQ (RG (MV rfl rfl (WR.call H (none_spec) rfl (trivial) (Wn.none rfl) rfl ?_)))))))))))))
    intro v50 M w H hle hr50
    replace hc1 := hc1.mono hle
    obtain rfl := hr50
    refine AS rfl rfl (WR.store [_, _] H rfl rfl rfl (by repeat first | exact .head | apply Upd.tail) Tryz.sizeOf24 rfl (by rfl) (by rfl) (Wn.none rfl) ?_)
    intro w H
    refine NL (TN (RT ?_))
    obtain ⟨M, hle, hf, H⟩ := H.freezeRow (v := ov) (enc := encB) (t := 5) (by repeat first | exact .head | apply Rem.tail)
    refine WQ.ret2 rfl rfl ⟨_, rfl, H.loadAgg (by repeat (first | exact List.Mem.head _ | apply List.Mem.tail)) Tryz.isAgg24 Tryz.sizeOf24 (by rfl)⟩ H.ext ?_
    refine  ?_
    rw [hres]
    exact ⟨_, rfl, hf⟩
theorem encode_2 (name l : List UInt8) (hn : name.length ≤ maxLen) (hs : l.length ≤ 12000) (hk : setOf name = some 2) (hv : vld l = true) : Ct Tryz.prog 84 [S name, S l] (fun M => Tabs M) (fun r M => match encGo (encK 2) (chars l) 0 with | .ok b => ∃ v, r = .tuple #[v, fault 0 0] ∧ Bs M v b | .error e => r = .tuple #[.slice none 0 0, fault 17 (e : Int)]) := by
  refine Ct.of Tryz.func84 (enters Tryz.func84 (by kernel_rfl) rfl) rfl rfl rfl ?_
  intro w0 M0 H hp
  refine SQ (RG (AS rfl rfl (WR.alloc [_, _] H Tryz.zeroValue24 rfl (Wn.none rfl) rfl ?_)))
  intro b5 w H
  refine NL (TN (SQ (SQ (RG (MV rfl rfl (ST (Ex.lenStr Tryz.underlying9 rfl) rfl (WR.stepF (Ex.gtr rfl rfl) (by omega) (Wn.none rfl) rfl rfl ?_)))))))
  refine NL (TN (CF rfl (SK (TN (SQ (RG (MV rfl rfl (WR.call H (Ct.mono (find_spec name hn) (R' := fun r M => ∃ b0 b1, CellM M ⟨b0, 0, none⟩ (encR 128) ∧ CellM M ⟨b1, 0, none⟩ (encR 256) ∧ r = .tuple #[.agg #[S [117, 116, 102, 56], .func (.func 158) #[] #[], .func (.func 159) #[] #[]], .bool true]) (fun _ _ ⟨b0, b1, h0, h1, h⟩ => ⟨b0, b1, h0, h1, by rw [hk] at h; exact h⟩)) rfl (trivial) (Wn.none rfl) rfl ?_))))))))
  intro v19 M w H hle hr19
  replace hp := hp.mono hle
  obtain ⟨b0, b1, hc0, hc1, rfl⟩ := hr19
  refine MV rfl rfl (ST (Ex.extract rfl rfl) rfl (ST (Ex.extract rfl rfl) rfl (WR.alloc [_, _, _] H Tryz.zeroValue156 rfl (Wn.none rfl) rfl ?_)))
  intro b6 w H
  refine WR.store [_, _, _] H rfl rfl rfl (by repeat first | exact .head | apply Upd.tail) Tryz.sizeOf156 rfl (by rfl) (by rfl) (Wn.none rfl) ?_
  intro w H
  refine AS rfl rfl (NL (TN (SQ (SQ (RG (MV rfl rfl (ST (Ex.notT rfl) rfl (NL (TN (CF rfl (SK (TN (SQ (SQ (RG (MV rfl rfl (WR.call H (Ct.mono (validString_spec l (by omega)) (R' := fun r _ => r = .bool true) (fun _ _ h => by rw [hv] at h; exact h)) rfl (by assumption) (Wn.none rfl) rfl ?_)))))))))))))))))
  intro v26 M w H hle hr26
  replace hp := hp.mono hle
  replace hc0 := hc0.mono hle
  replace hc1 := hc1.mono hle
  obtain rfl := hr26
  refine ST (Ex.notT rfl) rfl (NL (TN (CF rfl (SK (TN (SQ (RG ?_)))))))
  replace H := H.newRow 5 encB
  refine AS rfl rfl (NL (TN (SQ (SQ (RG (MV rfl rfl (WR.rangeStr H Tryz.underlying9 rfl (Wn.none rfl) rfl ?_)))))))
  intro b30 w H
  refine NL (TN (BL (WC.loop3 (fun (q : Nat) (ov : Value) (o : List UInt8) => [(5, ptr b5 0), (6, ptr b6 0), (8, ov), (30, ptr b30 0)]) (fun (q : Nat) (ov : Value) (o : List UInt8) w => (q ≤ l.length ∧ o.length ≤ 4 * q) ∧ vld (l.drop q) = true ∧ encGo (encK 2) (chars l) 0 = pre o (encGo (encK 2) (chars (l.drop q)) q) ∧ ∃ M, St w0 M0 M [.blk b30 (.stringIter ⟨l.toArray⟩ q), RowI 5 encB ov o, .blk b6 (.cells #[S [117, 116, 102, 56], .func (.func 158) #[] #[], .func (.func 159) #[] #[]] 156), .blk b5 (.cells #[I 0, I 0] 24)] w) (fun (q : Nat) (ov : Value) (o : List UInt8) => l.length - q) (0) (_) (_) ⟨rfl, rfl, rfl, rfl, trivial⟩ (⟨by simp, hv, (pre_nil _).symm, M, H⟩) ?_)))
  intro q ov o w
  rintro ⟨hq, hvq, hgo, M, H⟩
  refine SQ (RG ?_)
  by_cases h10_0 : q < l.length
  · have hne := drop_ne (t := l) (n := q) h10_0
    have hrs := rune_size (l.drop q)
    have hrs3 := hrs.2.2 hne
    rw [List.length_drop] at hrs3
    rw [vld_cons hne, Bool.and_eq_true] at hvq
    have hr0 := of_decide_eq_true hvq.1
    have hvn := hvq.2
    have hrl := rune_lt (l.drop q)
    have hdr : ((dr (l.drop q)).1 : Int) = (rune (l.drop q)).1 := by rw [dr_fix0, fix0_id hr0]
    have hch : chars (l.drop q) = ((rune (l.drop q)).1, (l.drop q).take (rune (l.drop q)).2) :: chars (l.drop (q + (rune (l.drop q)).2)) := by rw [chars_cons hne, List.drop_drop]
    have hstep : encK 2 (rune (l.drop q)).1 = some (utf8 (rune (l.drop q)).1) := by rw [encK2]; rfl
    have hbl := encK_len hstep
    refine WR.nextT H h10_0 rfl (by repeat first | exact .head | apply Upd.tail) (Wn.none rfl) rfl ?_
    intro w H
    refine ST (Ex.extract rfl rfl) rfl (NL (TN (SQ (CT rfl (SK (TN (BL (SQ (RG (ST (Ex.extract rfl rfl) rfl (WR.stepE (v' := encR (rune (l.drop q)).1) (Ex.extract rfl rfl) (congrArg encR hdr) (Wn.none rfl) rfl rfl (AS rfl rfl (AS rfl rfl (NL (TN (SQ (RG (ST (Ex.fieldAddr Tryz.underlying156 rfl Tryz.sizeOf154 (by decide) rfl) rfl ?_))))))))))))))))))
    first | refine WR.step (Ex.loadM H rfl (by assumption) Tryz.isAgg154) (Wn.none rfl) rfl rfl ?_ | refine WR.step (Ex.load1 H rfl (by repeat (first | exact List.Mem.head _ | apply List.Mem.tail)) Tryz.isAgg154 (by rfl)) (Wn.none rfl) rfl rfl ?_
    refine MV rfl rfl (WR.callV (cap := []) H (encU_spec (rune (l.drop q)).1 (by omega) (by omega)) rfl rfl (trivial) (Wn.none rfl) rfl ?_)
    intro v39 M w H hle hr39
    obtain ⟨v39, rfl, hf39⟩ := hr39
    refine MV rfl rfl (ST (Ex.extract rfl rfl) rfl (ST (Ex.extract rfl rfl) rfl (AS rfl rfl (AS rfl rfl (NL (TN (SQ (SQ (RG (MV rfl rfl (ST (Ex.notT rfl) rfl (NL (TN (CF rfl (SK (TN (RG (MV rfl rfl (MV rfl rfl (WR.appendSl ty30 (fun _ => rfl) H rfl (fun _ => by repeat first | exact .head | apply Upd.tail) rfl (by assumption) (by first | omega | (simp only [List.length_append, List.length_cons, List.length_nil, List.length_take, List.length_drop]; omega)) (by first | (simp only [maxLen]; omega) | (simp only [maxLen, List.length_append, List.length_cons, List.length_nil, List.length_take, List.length_drop]; omega)) (Wn.none rfl) rfl ?_))))))))))))))))))))
    intro v48 w H
    refine AS rfl rfl (NL (IB ?_))
    refine WQ.again3 (q + (dr (l.drop q)).2) (v48) (o ++ (utf8 (rune (l.drop q)).1)) ⟨rfl, rfl, rfl, rfl, trivial⟩ ?_ ?_
    · refine ⟨by rw [dr_size, List.length_append]; omega, ?_, ?_, M, H⟩
      · rw [dr_size, ← List.drop_drop]; exact hvn
      · rw [hgo, hch, encGo_step o hstep, dr_size]
        simp only [List.length_take, List.length_drop]
        rw [Nat.min_eq_left (by omega)]
    · rw [dr_size]; omega
  · have hres : encGo (encK 2) (chars l) 0 = .ok o := by rw [hgo, List.drop_eq_nil_of_le (by omega), chars_nil]; simp [encGo, pre]
    refine WR.nextF H (Nat.le_of_not_lt h10_0) rfl (by repeat (first | exact List.Mem.head _ | apply List.Mem.tail)) (Wn.none rfl) rfl ?_
    refine ST (Ex.extract rfl rfl) rfl (NL (TN (SQ (CF rfl (WC.exit (WQ.thenExit (WQ.thenExit (WQ.exitHere (TN (SQ (RG (MV rfl rfl (WR.call H (none_spec) rfl (trivial) (Wn.none rfl) rfl ?_)))))))))))))
    intro v50 M w H hle hr50
    obtain rfl := hr50
    refine AS rfl rfl (WR.store [_, _] H rfl rfl rfl (by repeat first | exact .head | apply Upd.tail) Tryz.sizeOf24 rfl (by rfl) (by rfl) (Wn.none rfl) ?_)
    intro w H
    refine NL (TN (RT ?_))
    obtain ⟨M, hle, hf, H⟩ := H.freezeRow (v := ov) (enc := encB) (t := 5) (by repeat first | exact .head | apply Rem.tail)
    refine WQ.ret2 rfl rfl ⟨_, rfl, H.loadAgg (by repeat (first | exact List.Mem.head _ | apply List.Mem.tail)) Tryz.isAgg24 Tryz.sizeOf24 (by rfl)⟩ H.ext ?_
    refine  ?_
    rw [hres]
    exact ⟨_, rfl, hf⟩
theorem encode_3 (name l : List UInt8) (hn : name.length ≤ maxLen) (hs : l.length ≤ 12000) (hk : setOf name = some 3) (hv : vld l = true) : Ct Tryz.prog 84 [S name, S l] (fun M => Tabs M) (fun r M => match encGo (encK 3) (chars l) 0 with | .ok b => ∃ v, r = .tuple #[v, fault 0 0] ∧ Bs M v b | .error e => r = .tuple #[.slice none 0 0, fault 17 (e : Int)]) := by
  refine Ct.of Tryz.func84 (enters Tryz.func84 (by kernel_rfl) rfl) rfl rfl rfl ?_
  intro w0 M0 H hp
  refine SQ (RG (AS rfl rfl (WR.alloc [_, _] H Tryz.zeroValue24 rfl (Wn.none rfl) rfl ?_)))
  intro b5 w H
  refine NL (TN (SQ (SQ (RG (MV rfl rfl (ST (Ex.lenStr Tryz.underlying9 rfl) rfl (WR.stepF (Ex.gtr rfl rfl) (by omega) (Wn.none rfl) rfl rfl ?_)))))))
  refine NL (TN (CF rfl (SK (TN (SQ (RG (MV rfl rfl (WR.call H (Ct.mono (find_spec name hn) (R' := fun r M => ∃ b0 b1, CellM M ⟨b0, 0, none⟩ (encR 128) ∧ CellM M ⟨b1, 0, none⟩ (encR 256) ∧ r = .tuple #[.agg #[S [117, 116, 102, 49, 54, 98, 101], .func (.func 161) #[] #[], .func (.func 162) #[] #[]], .bool true]) (fun _ _ ⟨b0, b1, h0, h1, h⟩ => ⟨b0, b1, h0, h1, by rw [hk] at h; exact h⟩)) rfl (trivial) (Wn.none rfl) rfl ?_))))))))
  intro v19 M w H hle hr19
  replace hp := hp.mono hle
  obtain ⟨b0, b1, hc0, hc1, rfl⟩ := hr19
  refine MV rfl rfl (ST (Ex.extract rfl rfl) rfl (ST (Ex.extract rfl rfl) rfl (WR.alloc [_, _, _] H Tryz.zeroValue156 rfl (Wn.none rfl) rfl ?_)))
  intro b6 w H
  refine WR.store [_, _, _] H rfl rfl rfl (by repeat first | exact .head | apply Upd.tail) Tryz.sizeOf156 rfl (by rfl) (by rfl) (Wn.none rfl) ?_
  intro w H
  refine AS rfl rfl (NL (TN (SQ (SQ (RG (MV rfl rfl (ST (Ex.notT rfl) rfl (NL (TN (CF rfl (SK (TN (SQ (SQ (RG (MV rfl rfl (WR.call H (Ct.mono (validString_spec l (by omega)) (R' := fun r _ => r = .bool true) (fun _ _ h => by rw [hv] at h; exact h)) rfl (by assumption) (Wn.none rfl) rfl ?_)))))))))))))))))
  intro v26 M w H hle hr26
  replace hp := hp.mono hle
  replace hc0 := hc0.mono hle
  replace hc1 := hc1.mono hle
  obtain rfl := hr26
  refine ST (Ex.notT rfl) rfl (NL (TN (CF rfl (SK (TN (SQ (RG ?_)))))))
  replace H := H.newRow 5 encB
  refine AS rfl rfl (NL (TN (SQ (SQ (RG (MV rfl rfl (WR.rangeStr H Tryz.underlying9 rfl (Wn.none rfl) rfl ?_)))))))
  intro b30 w H
  refine NL (TN (BL (WC.loop3 (fun (q : Nat) (ov : Value) (o : List UInt8) => [(5, ptr b5 0), (6, ptr b6 0), (8, ov), (30, ptr b30 0)]) (fun (q : Nat) (ov : Value) (o : List UInt8) w => (q ≤ l.length ∧ o.length ≤ 4 * q) ∧ vld (l.drop q) = true ∧ encGo (encK 3) (chars l) 0 = pre o (encGo (encK 3) (chars (l.drop q)) q) ∧ ∃ M, St w0 M0 M [.blk b30 (.stringIter ⟨l.toArray⟩ q), RowI 5 encB ov o, .blk b6 (.cells #[S [117, 116, 102, 49, 54, 98, 101], .func (.func 161) #[] #[], .func (.func 162) #[] #[]] 156), .blk b5 (.cells #[I 0, I 0] 24)] w) (fun (q : Nat) (ov : Value) (o : List UInt8) => l.length - q) (0) (_) (_) ⟨rfl, rfl, rfl, rfl, trivial⟩ (⟨by simp, hv, (pre_nil _).symm, M, H⟩) ?_)))
  intro q ov o w
  rintro ⟨hq, hvq, hgo, M, H⟩
  refine SQ (RG ?_)
  by_cases h10_0 : q < l.length
  · have hne := drop_ne (t := l) (n := q) h10_0
    have hrs := rune_size (l.drop q)
    have hrs3 := hrs.2.2 hne
    rw [List.length_drop] at hrs3
    rw [vld_cons hne, Bool.and_eq_true] at hvq
    have hr0 := of_decide_eq_true hvq.1
    have hvn := hvq.2
    have hrl := rune_lt (l.drop q)
    have hdr : ((dr (l.drop q)).1 : Int) = (rune (l.drop q)).1 := by rw [dr_fix0, fix0_id hr0]
    have hch : chars (l.drop q) = ((rune (l.drop q)).1, (l.drop q).take (rune (l.drop q)).2) :: chars (l.drop (q + (rune (l.drop q)).2)) := by rw [chars_cons hne, List.drop_drop]
    have hstep : encK 3 (rune (l.drop q)).1 = some (encWb (rune (l.drop q)).1) := by rw [encK3]; rfl
    have hbl := encK_len hstep
    refine WR.nextT H h10_0 rfl (by repeat first | exact .head | apply Upd.tail) (Wn.none rfl) rfl ?_
    intro w H
    refine ST (Ex.extract rfl rfl) rfl (NL (TN (SQ (CT rfl (SK (TN (BL (SQ (RG (ST (Ex.extract rfl rfl) rfl (WR.stepE (v' := encR (rune (l.drop q)).1) (Ex.extract rfl rfl) (congrArg encR hdr) (Wn.none rfl) rfl rfl (AS rfl rfl (AS rfl rfl (NL (TN (SQ (RG (ST (Ex.fieldAddr Tryz.underlying156 rfl Tryz.sizeOf154 (by decide) rfl) rfl ?_))))))))))))))))))
    first | refine WR.step (Ex.loadM H rfl (by assumption) Tryz.isAgg154) (Wn.none rfl) rfl rfl ?_ | refine WR.step (Ex.load1 H rfl (by repeat (first | exact List.Mem.head _ | apply List.Mem.tail)) Tryz.isAgg154 (by rfl)) (Wn.none rfl) rfl rfl ?_
    refine MV rfl rfl ?_
    refine WR.callV (cap := []) H ((show Ct Tryz.prog 162 [encR (rune (l.drop q)).1] (fun _ => True) (fun r M => ∃ v, r = .tuple #[v, .bool true] ∧ Bs M v (encWb (rune (l.drop q)).1)) by
      have h := double_spec (rune (l.drop q)).1.toNat (by omega)
      rw [Int.toNat_of_nonneg hr0] at h
      exact h)) rfl rfl (trivial) (Wn.none rfl) rfl ?_
    intro v39 M w H hle hr39
    obtain ⟨v39, rfl, hf39⟩ := hr39
    refine MV rfl rfl (ST (Ex.extract rfl rfl) rfl (ST (Ex.extract rfl rfl) rfl (AS rfl rfl (AS rfl rfl (NL (TN (SQ (SQ (RG (MV rfl rfl (ST (Ex.notT rfl) rfl (NL (TN (CF rfl (SK (TN (RG (MV rfl rfl (MV rfl rfl (WR.appendSl ty30 (fun _ => rfl) H rfl (fun _ => by repeat first | exact .head | apply Upd.tail) rfl (by assumption) (by first | omega | (simp only [List.length_append, List.length_cons, List.length_nil, List.length_take, List.length_drop]; omega)) (by first | (simp only [maxLen]; omega) | (simp only [maxLen, List.length_append, List.length_cons, List.length_nil, List.length_take, List.length_drop]; omega)) (Wn.none rfl) rfl ?_))))))))))))))))))))
    intro v48 w H
    refine AS rfl rfl (NL (IB ?_))
    refine WQ.again3 (q + (dr (l.drop q)).2) (v48) (o ++ (encWb (rune (l.drop q)).1)) ⟨rfl, rfl, rfl, rfl, trivial⟩ ?_ ?_
    · refine ⟨by rw [dr_size, List.length_append]; omega, ?_, ?_, M, H⟩
      · rw [dr_size, ← List.drop_drop]; exact hvn
      · rw [hgo, hch, encGo_step o hstep, dr_size]
        simp only [List.length_take, List.length_drop]
        rw [Nat.min_eq_left (by omega)]
    · rw [dr_size]; omega
  · have hres : encGo (encK 3) (chars l) 0 = .ok o := by rw [hgo, List.drop_eq_nil_of_le (by omega), chars_nil]; simp [encGo, pre]
    refine WR.nextF H (Nat.le_of_not_lt h10_0) rfl (by repeat (first | exact List.Mem.head _ | apply List.Mem.tail)) (Wn.none rfl) rfl ?_
    refine ST (Ex.extract rfl rfl) rfl (NL (TN (SQ (CF rfl (WC.exit (WQ.thenExit (WQ.thenExit (WQ.exitHere (TN (SQ (RG (MV rfl rfl (WR.call H (none_spec) rfl (trivial) (Wn.none rfl) rfl ?_)))))))))))))
    intro v50 M w H hle hr50
    obtain rfl := hr50
    refine AS rfl rfl (WR.store [_, _] H rfl rfl rfl (by repeat first | exact .head | apply Upd.tail) Tryz.sizeOf24 rfl (by rfl) (by rfl) (Wn.none rfl) ?_)
    intro w H
    refine NL (TN (RT ?_))
    obtain ⟨M, hle, hf, H⟩ := H.freezeRow (v := ov) (enc := encB) (t := 5) (by repeat first | exact .head | apply Rem.tail)
    refine WQ.ret2 rfl rfl ⟨_, rfl, H.loadAgg (by repeat (first | exact List.Mem.head _ | apply List.Mem.tail)) Tryz.isAgg24 Tryz.sizeOf24 (by rfl)⟩ H.ext ?_
    refine  ?_
    rw [hres]
    exact ⟨_, rfl, hf⟩
end Go.Proofs.YtogkmhjnojphiaaGreatDoor
end
section
set_option linter.unusedVariables false
set_option linter.unusedSimpArgs false
namespace Go.Proofs.YtogkmhjnojphiaaGreatDoor
open Go Go.RowKit Go.Ph
open Go.Ph.Gr Go.Ph.Utf Go.Ph.Chs
theorem flat_len (ns : List Int) : (ns.flatMap utf8).length ≤ 4 * ns.length := by
  induction ns with
  | nil => simp
  | cons n ns ih =>
    have := utf8_len n
    rw [List.flatMap_cons, List.length_append, List.length_cons]; omega
def bestN (l : List UInt8) : List UInt8 := setN.getD (bestK l) []
theorem best_spec (l : List UInt8) : Ct Tryz.prog 41 [S l] (fun _ => True) (fun r _ => r = S (bestN l)) := by
  refine Ct.of Tryz.func41 (enters Tryz.func41 (by kernel_rfl) rfl) rfl rfl rfl ?_
  intro w0 M0 H hp
  refine SQ (RG (AS rfl rfl (NL (TN (SQ (RG (AS rfl rfl (NL (TN (SQ (SQ (RG (MV rfl rfl (WR.rangeStr H Tryz.underlying9 rfl (Wn.none rfl) rfl ?_))))))))))))))
  intro b7 w H
  refine NL (TN (BL (WC.loop2 (fun (q : Nat) (seen : Bool) => [(3, S (if seen then [108, 97, 116, 105, 110, 49] else [97, 115, 99, 105, 105])), (7, ptr b7 0)]) (fun (q : Nat) (seen : Bool) w => q ≤ l.length ∧ (chars l).any (fun c : Ch => decide (255 < fix0 c.1)) = (chars (l.drop q)).any (fun c : Ch => decide (255 < fix0 c.1)) ∧ (chars l).any (fun c : Ch => decide (127 < fix0 c.1)) = (seen || (chars (l.drop q)).any (fun c : Ch => decide (127 < fix0 c.1))) ∧ ∃ M, St w0 M0 M [.blk b7 (.stringIter ⟨l.toArray⟩ q)] w) (fun (q : Nat) (seen : Bool) => l.length - q) (0) (false) ⟨rfl, rfl, trivial⟩ (⟨by omega, rfl, rfl, M0, H⟩) ?_)))
  intro q seen w
  rintro ⟨hq, h255, h127, M, H⟩
  refine SQ (RG ?_)
  by_cases h3_0 : q < l.length
  · have hne := drop_ne (t := l) (n := q) h3_0
    have hrs := rune_size (l.drop q)
    have hrs3 := hrs.2.2 hne
    rw [List.length_drop] at hrs3
    have hch : chars (l.drop q) = ((rune (l.drop q)).1, (l.drop q).take (rune (l.drop q)).2) :: chars (l.drop (q + (rune (l.drop q)).2)) := by rw [chars_cons hne, List.drop_drop]
    refine WR.nextT H h3_0 rfl (by repeat first | exact .head | apply Upd.tail) (Wn.none rfl) rfl ?_
    intro w H
    refine ST (Ex.extract rfl rfl) rfl (NL (TN (SQ (CT rfl (SK (TN (BL (SQ (RG (WR.stepE (v' := encR (fix0 (rune (l.drop q)).1)) (Ex.extract rfl rfl) (congrArg encR (dr_fix0 _)) (Wn.none rfl) rfl rfl (AS rfl rfl (NL (TN (BL (SQ (RG (MV rfl rfl ?_)))))))))))))))))
    refine WR.split (Ex.gtr rfl rfl) (Wn.none rfl) rfl rfl (fun h5_1 => ?_) (fun h5_1 => ?_)
    · have hr : bestK l = 2 := by unfold bestK; rw [h255, hch, List.any_cons, decide_eq_true (by omega)]; rfl
      refine AS rfl rfl (NL (TN (CT rfl (SQ (RG (AS rfl rfl (NL (TN (RT ?_)))))))))
      refine WQ.ret1 rfl rfl H.ext ?_
      exact by unfold bestN; rw [hr]; rfl
    · refine AS rfl rfl (NL (TN (CF rfl (SQ (RG (MV rfl rfl ?_))))))
      refine WR.split (Ex.gtr rfl rfl) (Wn.none rfl) rfl rfl (fun h7_1 => ?_) (fun h7_1 => ?_)
      · refine AS rfl rfl (NL (TN (CT rfl (RG (AS rfl rfl (NL (IB (IB ?_))))))))
        refine WQ.again2 (q + (dr (l.drop q)).2) (true) ⟨rfl, rfl, trivial⟩ ?_ ?_
        · refine ⟨by rw [dr_size]; omega, ?_, ?_, M, H⟩
          · rw [h255, hch, dr_size, List.any_cons, decide_eq_false (by omega), Bool.false_or]
          · rw [h127, hch, dr_size, List.any_cons, decide_eq_true (by omega)]; simp
        · rw [dr_size]; omega
      · refine AS rfl rfl (NL (TN (CF rfl (SK (IB (IB ?_))))))
        refine WQ.again2 (q + (dr (l.drop q)).2) (seen) ⟨rfl, rfl, trivial⟩ ?_ ?_
        · refine ⟨by rw [dr_size]; omega, ?_, ?_, M, H⟩
          · rw [h255, hch, dr_size, List.any_cons, decide_eq_false (by omega), Bool.false_or]
          · rw [h127, hch, dr_size, List.any_cons, decide_eq_false (by omega)]; simp
        · rw [dr_size]; omega
  · have hr : bestK l = if seen then 1 else 0 := by
      unfold bestK
      rw [h255, h127, List.drop_eq_nil_of_le (by omega), chars_nil]
      simp
    refine WR.nextF H (Nat.le_of_not_lt h3_0) rfl (by repeat (first | exact List.Mem.head _ | apply List.Mem.tail)) (Wn.none rfl) rfl ?_
    refine ST (Ex.extract rfl rfl) rfl (NL (TN (SQ (CF rfl (WC.exit (WQ.thenExit (WQ.thenExit (WQ.exitHere (TN (SQ (RG (MV rfl rfl (AS rfl rfl (NL (TN (RT ?_))))))))))))))))
    refine WQ.ret1 rfl rfl H.ext ?_
    exact by unfold bestN; rw [hr]; cases seen <;> rfl
end Go.Proofs.YtogkmhjnojphiaaGreatDoor
end
section
set_option linter.unusedVariables false
set_option linter.unusedSimpArgs false
namespace Go.Proofs.YtogkmhjnojphiaaGreatDoor
open Go Go.RowKit Go.Ph
open Go.Ph.Gr Go.Ph.Utf Go.Ph.Chs
abbrev encPostP (k : Nat) (l : List UInt8) (r : Value) (M : Mem) : Prop := match encGo (encK k) (chars l) 0 with | .ok b => ∃ v, r = .tuple #[v, fault 0 0] ∧ Bs M v b | .error e => r = .tuple #[.slice none 0 0, fault 17 (e : Int)]
theorem encode_k (name l : List UInt8) (hn : name.length ≤ maxLen) (hs : l.length ≤ 12000) (k : Nat) (hk : setOf name = some k) (hv : vld l = true) : Ct Tryz.prog 84 [S name, S l] (fun M => Tabs M) (fun r M => encPostP k l r M) := by
  have h4 := setOf_lt hk
  rcases k with _ | _ | _ | _ | k
  · exact encode_0 name l hn hs hk hv
  · exact encode_1 name l hn hs hk hv
  · exact encode_2 name l hn hs hk hv
  · exact encode_3 name l hn hs hk hv
  · omega
theorem encode_ok {name l b : List UInt8} (hn : name.length ≤ maxLen) (hs : l.length ≤ 12000) {k : Nat} (hk : setOf name = some k) (hv : vld l = true) (h : encGo (encK k) (chars l) 0 = .ok b) : Ct Tryz.prog 84 [S name, S l] (fun M => Tabs M) (fun r M => ∃ v, r = .tuple #[v, fault 0 0] ∧ Bs M v b) :=
  Ct.mono (encode_k name l hn hs k hk hv) fun r M hr => by unfold encPostP at hr; rw [h] at hr; exact hr
theorem encode_err {name l : List UInt8} {e : Nat} (hn : name.length ≤ maxLen) (hs : l.length ≤ 12000) {k : Nat} (hk : setOf name = some k) (hv : vld l = true) (h : encGo (encK k) (chars l) 0 = .error e) : Ct Tryz.prog 84 [S name, S l] (fun M => Tabs M) (fun r M => r = .tuple #[.slice none 0 0, fault 17 (e : Int)]) :=
  Ct.mono (encode_k name l hn hs k hk hv) fun r M hr => by unfold encPostP at hr; rw [h] at hr; exact hr
theorem encode_mal (name l : List UInt8) (hn : name.length ≤ maxLen) (hs : l.length ≤ 12000) (k : Nat) (hk : setOf name = some k) (hv : vld l = false) : Ct Tryz.prog 84 [S name, S l] (fun M => Tabs M) (fun r _ => r = .tuple #[.slice none 0 0, fault 5 (-3)]) := by
  have h4 := setOf_lt hk
  rcases k with _ | _ | _ | _ | k
  · exact encode_mal0 name l hn hs hk hv
  · exact encode_mal1 name l hn hs hk hv
  · exact encode_mal2 name l hn hs hk hv
  · exact encode_mal3 name l hn hs hk hv
  · omega
end Go.Proofs.YtogkmhjnojphiaaGreatDoor
end
section
set_option linter.unusedVariables false
set_option linter.unusedSimpArgs false
namespace Go.Ph.B64
def alpha : List UInt8 := [65, 66, 67, 68, 69, 70, 71, 72, 73, 74, 75, 76, 77, 78, 79, 80, 81, 82, 83, 84, 85, 86, 87, 88, 89, 90, 97, 98, 99, 100, 101, 102, 103, 104, 105, 106, 107, 108, 109, 110, 111, 112, 113, 114, 115, 116, 117, 118, 119, 120, 121, 122, 48, 49, 50, 51, 52, 53, 54, 55, 56, 57, 43, 47]
theorem alpha_len : alpha.length = 64 := rfl
def idx (c : UInt8) : Nat := alpha.idxOf c
def val64 (c : UInt8) : Int := if idx c < 64 then (idx c : Int) else -1
def bits8 (u : Nat) : List Nat := [u / 128 % 2, u / 64 % 2, u / 32 % 2, u / 16 % 2, u / 8 % 2, u / 4 % 2, u / 2 % 2, u / 1 % 2]
def bits6 (u : Nat) : List Nat := [u / 32 % 2, u / 16 % 2, u / 8 % 2, u / 4 % 2, u / 2 % 2, u / 1 % 2]
def bitsOf (l : List UInt8) : List Nat := l.flatMap fun u => bits8 u.toNat
def sumN (l : List Nat) : Nat := l.foldl (fun n x => 2 * n + x) 0
theorem bits8_len (u : Nat) : (bits8 u).length = 8 := rfl
theorem bitsOf_len (l : List UInt8) : (bitsOf l).length = 8 * l.length := by
  induction l with
  | nil => rfl
  | cons u l ih => simp only [bitsOf, List.flatMap_cons, List.length_append, bits8_len, List.length_cons] at ih ⊢; omega
def padBits (l : List UInt8) : List Nat := bitsOf l ++ List.replicate ((6 - 8 * l.length % 6) % 6) 0
def six (bits : List Nat) (q : Nat) : Nat := sumN ((bits.take (6 * q + 6)).drop (6 * q))
def eight (bits : List Nat) (q : Nat) : Nat := sumN ((bits.take (8 * q + 8)).drop (8 * q))
def sext (bits : List Nat) : Nat → List UInt8
  | 0 => []
  | q + 1 => sext bits q ++ (alpha.take (six bits q + 1)).drop (six bits q)
theorem alpha_one (k : Nat) (h : k < 64) : (alpha.take (k + 1)).drop k = [alpha.getD k 0] := by
  have hk : k < alpha.length := by rw [alpha_len]; exact h
  rw [List.take_succ_eq_append_getElem hk, List.drop_append_of_le_length (by rw [List.length_take, alpha_len]; omega), List.drop_eq_nil_of_le (by rw [List.length_take]; omega)]
  simp [List.getD, hk]
def chars64 (l : List UInt8) : List UInt8 :=
  let s := sext (padBits l) ((padBits l).length / 6)
  s ++ List.replicate ((4 - s.length % 4) % 4) 61
def wrapTo (cs : List UInt8) : Nat → List UInt8
  | 0 => []
  | m + 1 => wrapTo cs m ++ (cs.drop (76 * m)).take 76 ++ [13, 10]
def lines64 (cs : List UInt8) : List UInt8 := wrapTo cs ((cs.length - 1) / 76) ++ (if cs.drop (76 * ((cs.length - 1) / 76)) = [] then [] else cs.drop (76 * ((cs.length - 1) / 76)) ++ [13, 10])
def vb (c : UInt8) : List Nat := if val64 c < 0 then [] else bits6 (val64 c).toNat
def vbits (l : List UInt8) : List Nat := l.flatMap vb
def upto61 (l : List UInt8) : List UInt8 := l.takeWhile (· != 61)
theorem upto61_eq (l : List UInt8) (k : Nat) (hb : ∀ j u, l[j]? = some u → j < k → u ≠ 61) (he : l.length ≤ k ∨ l[k]? = some 61) : upto61 l = l.take k := by
  induction l generalizing k with
  | nil => simp [upto61]
  | cons u l ih =>
    cases k with
    | zero =>
      have : u = 61 := by simpa using he
      subst this
      rfl
    | succ k =>
      have h1 : u ≠ 61 := hb 0 u rfl (by omega)
      have h2 := ih k (fun j v hj hk => hb (j + 1) v (by simpa using hj) (by omega)) (by simpa using he)
      unfold upto61 at h2 ⊢
      rw [List.takeWhile_cons_of_pos (by simpa using h1), h2]
      rfl
def octs (bits : List Nat) : Nat → List UInt8
  | 0 => []
  | q + 1 => octs bits q ++ [UInt8.ofNat (eight bits q)]
def loose64 (l : List UInt8) : List UInt8 := octs (vbits (upto61 l)) ((vbits (upto61 l)).length / 8)
def lstep (s : List UInt8 × Nat × Nat) (c : UInt8) : List UInt8 × Nat × Nat :=
  if val64 c < 0 then s
  else if s.2.2 + 6 < 8 then (s.1, s.2.1 * 64 + idx c, s.2.2 + 6)
  else (s.1 ++ [UInt8.ofNat ((s.2.1 * 64 + idx c) / 2 ^ (s.2.2 + 6 - 8))], (s.2.1 * 64 + idx c) % 2 ^ (s.2.2 + 6 - 8), s.2.2 + 6 - 8)
def lrun (l : List UInt8) : List UInt8 × Nat × Nat := l.foldl lstep ([], 0, 0)
def lenient (l : List UInt8) : List UInt8 := (lrun (upto61 l)).1
theorem lrun_next {l : List UInt8} {k : Nat} {u : UInt8} (hu : l[k]? = some u) : lrun (l.take (k + 1)) = lstep (lrun (l.take k)) u := by
  obtain ⟨hk, rfl⟩ := List.getElem?_eq_some_iff.1 hu
  rw [List.take_succ_eq_append_getElem hk, lrun, List.foldl_append]
  rfl
theorem val64_idx {c : UInt8} (h : 0 ≤ val64 c) : val64 c = (idx c : Int) ∧ idx c < 64 := by
  unfold val64 at h ⊢
  split <;> rename_i hi
  · exact ⟨rfl, hi⟩
  · rw [if_neg hi] at h; omega
theorem lstep_inv (s : List UInt8 × Nat × Nat) (c : UInt8) (h1 : s.2.2 ≤ 6 ∧ s.2.2 % 2 = 0) (h2 : s.2.1 < 2 ^ s.2.2) : ((lstep s c).2.2 ≤ 6 ∧ (lstep s c).2.2 % 2 = 0) ∧ (lstep s c).2.1 < 2 ^ (lstep s c).2.2 := by
  unfold lstep
  by_cases hv : val64 c < 0
  · rw [if_pos hv]; exact ⟨h1, h2⟩
  · rw [if_neg hv]
    have hi := (val64_idx (c := c) (by omega)).2
    by_cases hb : s.2.2 + 6 < 8
    · rw [if_pos hb]
      have h0 : s.2.2 = 0 := by omega
      rw [h0] at h2 ⊢
      exact ⟨by simp, by simp at h2 ⊢; omega⟩
    · rw [if_neg hb]
      exact ⟨by simp only []; omega, Nat.mod_lt _ (Nat.two_pow_pos _)⟩
theorem lrun_inv (l : List UInt8) : ((lrun l).2.2 ≤ 6 ∧ (lrun l).2.2 % 2 = 0) ∧ (lrun l).2.1 < 2 ^ (lrun l).2.2 := by
  have key : ∀ (l : List UInt8) (s : List UInt8 × Nat × Nat), ((s.2.2 ≤ 6 ∧ s.2.2 % 2 = 0) ∧ s.2.1 < 2 ^ s.2.2) → (((l.foldl lstep s).2.2 ≤ 6 ∧ (l.foldl lstep s).2.2 % 2 = 0) ∧ (l.foldl lstep s).2.1 < 2 ^ (l.foldl lstep s).2.2) := by
    intro l
    induction l with
    | nil => exact fun s h => h
    | cons c l ih => exact fun s h => ih _ (lstep_inv s c h.1 h.2)
  exact key l ([], 0, 0) (by simp)
theorem lrun_len (l : List UInt8) : (lrun l).1.length ≤ l.length := by
  have key : ∀ (l : List UInt8) (s : List UInt8 × Nat × Nat), (l.foldl lstep s).1.length ≤ s.1.length + l.length := by
    intro l
    induction l with
    | nil => intro s; simp
    | cons c l ih =>
      intro s
      have h1 := ih (lstep s c)
      have h2 : (lstep s c).1.length ≤ s.1.length + 1 := by unfold lstep; split <;> (try split) <;> simp
      simp only [List.foldl_cons, List.length_cons]
      omega
  have := key l ([], 0, 0)
  simpa [lrun] using this
theorem or_six (x v : Nat) (hv : v < 64) : x * 2 ^ 6 ||| v = x * 64 + v := by
  have := Nat.two_pow_add_eq_or_of_lt (i := 6) (b := v) (by omega) x
  rw [Nat.mul_comm x, ← this, Nat.mul_comm]
theorem and_mask (x s : Nat) : x &&& (2 ^ s - 1) = x % 2 ^ s := Nat.and_two_pow_sub_one_eq_mod x s
theorem oct_lt (x v b : Nat) (h1 : b ≤ 6 ∧ b % 2 = 0) (h2 : x < 2 ^ b) (hv : v < 64) (hb : 8 ≤ b + 6) : (x * 64 + v) / 2 ^ (b + 6 - 8) < 256 := by
  obtain h | h | h : b = 2 ∨ b = 4 ∨ b = 6 := by omega
  all_goals (subst h; simp at h2 ⊢; omega)
theorem getD_out {α : Type} (l : List α) (i : Nat) (d : α) (h : l.length ≤ i) : l.getD i d = d := by
  rw [List.getD_eq_getElem?_getD, List.getElem?_eq_none h]; rfl
theorem getD_in {α : Type} (l : List α) (i : Nat) (d : α) (h : i < l.length) : l.getD i d = l[i] := by
  rw [List.getD_eq_getElem?_getD, List.getElem?_eq_getElem h]; rfl
def accN (l : List UInt8) : Nat → Nat
  | 0 => 0
  | i + 1 => accN l i * 256 + (l.getD i 0).toNat
theorem accN_out (l : List UInt8) (i : Nat) (h : l.length ≤ i) : accN l i * 256 = accN l (i + 1) := by
  rw [accN, getD_out _ _ _ h]; simp
theorem accN_lt (l : List UInt8) (i : Nat) : accN l i < 256 ^ i := by
  induction i with
  | zero => simp [accN]
  | succ i ih =>
    have := (l.getD i 0).toNat_lt
    rw [accN, Nat.pow_succ]
    omega
def ch (l : List UInt8) (i : Nat) : UInt8 := if min 3 l.length < i then 61 else alpha.getD (accN l 3 / 2 ^ (18 - 6 * i) % 64) 0
def outp (l : List UInt8) (j : Nat) : List UInt8 := (List.range 4).map fun i => if i < j then ch l i else 0
theorem outp_set (l : List UInt8) (j : Nat) (hj : j < 4) : (outp l j).set j (ch l j) = outp l (j + 1) := by
  match j, hj with
  | 0, _ => rfl
  | 1, _ => rfl
  | 2, _ => rfl
  | 3, _ => rfl
def grpAt (l : List UInt8) (k : Nat) : List UInt8 := outp (l.drop (3 * k)) 4
def grpsTo (l : List UInt8) (k : Nat) : List (List UInt8) := (List.range k).map (grpAt l)
def grps (l : List UInt8) : List (List UInt8) := grpsTo l ((l.length + 2) / 3)
theorem grpsTo_next (l : List UInt8) (k : Nat) : grpsTo l (k + 1) = grpsTo l k ++ [grpAt l k] := by
  simp [grpsTo, List.range_succ]
theorem grpsTo_ini (l : List UInt8) (k : Nat) (h : 3 * k < l.length) : (grpsTo l k ++ [grpAt l k]) <+: grps l := by
  rw [← grpsTo_next]
  refine ⟨((List.range' (k + 1) ((l.length + 2) / 3 - (k + 1))).map (grpAt l)), ?_⟩
  unfold grps grpsTo
  rw [← List.map_append]
  have h1 : List.range (k + 1) ++ List.range' (k + 1) ((l.length + 2) / 3 - (k + 1)) = List.range ((l.length + 2) / 3) := by
    have h2 := List.range'_append_1 (s := 0) (m := k + 1) (n := (l.length + 2) / 3 - (k + 1))
    rw [Nat.zero_add] at h2
    rw [List.range_eq_range', List.range_eq_range', h2]
    congr 1
    omega
  rw [h1]
theorem drop_next (l : List UInt8) (k n : Nat) (hn : n = min 3 (l.drop (3 * k)).length) : (l.drop (3 * k)).drop n = l.drop (3 * (k + 1)) := by
  rw [List.drop_drop]
  simp only [List.length_drop] at hn
  by_cases h : 3 ≤ l.length - 3 * k
  · rw [show 3 * k + n = 3 * (k + 1) by omega]
  · rw [List.drop_eq_nil_of_le (by omega), List.drop_eq_nil_of_le (by omega)]
theorem or_eight (x : Nat) (v : UInt8) : x * 2 ^ 8 ||| v.toNat = x * 256 + v.toNat := by
  have := Nat.two_pow_add_eq_or_of_lt (i := 8) (b := v.toNat) (by have := v.toNat_lt; omega) x
  rw [Nat.mul_comm x, ← this, Nat.mul_comm]
def encStep (s : List UInt8 × Nat) (g : List UInt8) : List UInt8 × Nat := if s.2 = 76 then (s.1 ++ [13, 10] ++ g, 4) else (s.1 ++ g, s.2 + 4)
def encRun (gs : List (List UInt8)) : List UInt8 × Nat := gs.foldl encStep ([], 0)
def encode (l : List UInt8) : List UInt8 := if 0 < (encRun (grps l)).2 then (encRun (grps l)).1 ++ [13, 10] else (encRun (grps l)).1
theorem encRun_next (gs : List (List UInt8)) (g : List UInt8) : encRun (gs ++ [g]) = encStep (encRun gs) g := by simp [encRun]
theorem grps_len (l : List UInt8) : (grps l).length = (l.length + 2) / 3 := by simp [grps, grpsTo]
theorem ini_len {l x : List UInt8} {pre : List (List UInt8)} (h : (pre ++ [x]) <+: grps l) : x.length = 4 ∧ (∀ g ∈ pre, g.length = 4) ∧ pre.length + 1 ≤ (l.length + 2) / 3 := by
  refine ⟨?_, fun g hg => ?_, ?_⟩
  · obtain ⟨k, _, rfl⟩ := List.mem_map.1 (h.subset (List.mem_append_right _ (List.mem_singleton.2 rfl))); rfl
  · obtain ⟨k, _, rfl⟩ := List.mem_map.1 (h.subset (List.mem_append_left _ hg)); rfl
  · have := h.length_le
    rw [grps_len] at this
    simpa using this
theorem grps_all (l : List UInt8) : ∀ g ∈ grps l, g.length = 4 := fun g hg => by
  obtain ⟨k, _, rfl⟩ := List.mem_map.1 hg; rfl
theorem encRun_inv (gs : List (List UInt8)) (h : ∀ g ∈ gs, g.length = 4) : (encRun gs).1.length ≤ 6 * gs.length ∧ (encRun gs).2 ≤ 76 ∧ (encRun gs).2 % 4 = 0 := by
  have key : ∀ (gs : List (List UInt8)) (s : List UInt8 × Nat), (∀ g ∈ gs, g.length = 4) → s.2 ≤ 76 → s.2 % 4 = 0 → (gs.foldl encStep s).1.length ≤ s.1.length + 6 * gs.length ∧ (gs.foldl encStep s).2 ≤ 76 ∧ (gs.foldl encStep s).2 % 4 = 0 := by
    intro gs
    induction gs with
    | nil => intro s _ h1 h2; exact ⟨by simp, h1, h2⟩
    | cons g gs ih =>
      intro s hg h1 h2
      have hg4 : g.length = 4 := hg g List.mem_cons_self
      have h3 : (encStep s g).1.length ≤ s.1.length + 6 ∧ (encStep s g).2 ≤ 76 ∧ (encStep s g).2 % 4 = 0 := by
        unfold encStep
        split
        · simp [hg4]
        · simp [hg4]; omega
      have := ih (encStep s g) (fun x hx => hg x (List.mem_cons_of_mem _ hx)) h3.2.1 h3.2.2
      simp only [List.foldl_cons, List.length_cons]
      omega
  have := key gs ([], 0) h (by simp) (by simp)
  simpa [encRun] using this
end Go.Ph.B64
end
section
set_option linter.unusedVariables false
set_option linter.unusedSimpArgs false
namespace Go.Proofs.YtogkmhjnojphiaaGreatDoor
open Go Go.RowKit Go.Ph
open Go.Ph.B64
theorem b_eq {a c : UInt8} : ((a.toNat : Int) = (c.toNat : Int)) ↔ a = c := by rw [Int.ofNat_inj, UInt8.toNat_inj]
theorem ub_nat (n : Nat) (h : n < 256) : ub (n : Int) = UInt8.ofNat n := by unfold ub; congr 1; omega
end Go.Proofs.YtogkmhjnojphiaaGreatDoor
end
section
set_option linter.unusedVariables false
set_option linter.unusedSimpArgs false
namespace Go.Proofs.YtogkmhjnojphiaaGreatDoor
open Go Go.RowKit Go.Ph
theorem bytesOf_natsB (l : List UInt8) : Lib.bytesOf (l.map fun u => (u.toNat : Int)) = l := by
  unfold Lib.bytesOf
  rw [List.map_map]
  conv => rhs; rw [← List.map_id l]
  apply List.map_congr_left
  intro u _
  simp
theorem indexByte_idx (l : List UInt8) (c : UInt8) : Lib.indexByte l c = if l.idxOf c < l.length then (l.idxOf c : Int) else -1 := by
  induction l with
  | nil => simp [Lib.indexByte]
  | cons b l ih =>
    simp only [Lib.indexByte, List.idxOf_cons, List.length_cons]
    by_cases h : b = c
    · subst h; simp
    · have h' : (b == c) = false := by simpa using h
      rw [h', ih]
      simp only [Bool.false_eq_true, if_false, cond_false]
      by_cases hl : l.idxOf c < l.length
      · have h1 : l.idxOf c + 1 < l.length + 1 := by omega
        have h2 : ¬ (((l.idxOf c : Int) == -1) = true) := by simp only [beq_iff_eq]; omega
        simp only [hl, h1, if_true, h2, if_false, Bool.false_eq_true]
        omega
      · have h1 : ¬ (l.idxOf c + 1 < l.length + 1) := by omega
        simp only [hl, h1, if_false]
        rfl
theorem indexByte_alpha (c : UInt8) : Lib.indexByte B64.alpha c = B64.val64 c := by
  rw [indexByte_idx, B64.alpha_len]; rfl
theorem indexByte_spec (b : Value) (l : List UInt8) (c : UInt8) : Ct Tryz.prog 102 [b, encB c] (fun M => Bs M b l) (fun r _ => r = I (Lib.indexByte l c)) := by
  refine ⟨enters Tryz.func102 (by kernel_rfl) rfl, fun w M ha hp => ?_⟩
  obtain ⟨A, cp, rfl, hc, hn⟩ := hp.cells ha
  have hcv : ((c.toNat : Int)).toNat.toUInt8 = c := by simp
  cases A with
  | none =>
    obtain ⟨rfl, rfl⟩ := hn rfl
    exact (Tryz.bytes_IndexByte_nil (c.toNat : Int) w).mono fun e w' ⟨he, hw⟩ => ⟨_, M, he, by subst hw; exact Ext.refl ha, rfl⟩
  | some ad =>
    refine (Tryz.bytes_IndexByte_at ad l.length cp (l.map fun u => (u.toNat : Int)) (c.toNat : Int) w (by simp) (fun i hi => ?_)).mono fun e w' ⟨he, hw⟩ => ⟨_, M, he, by subst hw; exact Ext.refl ha, ?_⟩
    · have := hc ad rfl i (encB l[i]) (by simp [hi])
      rw [this]
      simp [hi]
    · rw [bytesOf_natsB, hcv]
open Go.Ph.B64
theorem next61 {l : List UInt8} {k : Nat} {u : UInt8} (hb : ∀ j u, l[j]? = some u → j < k → u ≠ 61) (hu : l[k]? = some u) (h : ¬ ((u.toNat : Int) = 61)) : ∀ j u, l[j]? = some u → j < k + 1 → u ≠ 61 := by
  intro j x hj hjk
  rcases Nat.lt_or_ge j k with h1 | h1
  · exact hb j x hj h1
  · obtain rfl : j = k := by omega
    rw [hu] at hj; cases hj
    exact fun e => h (by rw [e]; rfl)
theorem lenient_spec (bv : Value) (l : List UInt8) (hs : l.length ≤ 24000) : Ct Tryz.prog 138 [bv] (fun M => Bs M bv l) (fun r M => ∃ v, r = .tuple #[v, fault 0 0] ∧ Bs M v (lenient l)) := by
  refine Ct.of Tryz.func138 (enters Tryz.func138 (by kernel_rfl) rfl) rfl rfl rfl ?_
  intro w0 M0 H hp
  refine SQ (RG (AS rfl rfl (WR.alloc [_, _] H Tryz.zeroValue24 rfl (Wn.none rfl) rfl ?_)))
  intro b3 w H
  refine NL (TN (SQ (SQ (RG (MV rfl rfl ?_)))))
  first | refine WR.step (Ex.lenSl Tryz.underlying30 (by assumption) rfl) (Wn.none rfl) rfl rfl ?_ | refine WR.step (Ex.lenRow Tryz.underlying30 H (by repeat (first | exact List.Mem.head _ | apply List.Mem.tail)) rfl) (Wn.none rfl) rfl rfl ?_ | refine WR.step (Ex.lenSlice Tryz.underlying30 rfl) (Wn.none rfl) rfl rfl ?_
  refine WR.stepF (Ex.gtr rfl rfl) (by omega) (Wn.none rfl) rfl rfl ?_
  refine NL (TN (CF rfl (SK (TN (SQ (RG (AS rfl rfl (NL (TN (SQ (RG (AS rfl rfl (AS rfl rfl (NL (TN ?_)))))))))))))))
  refine WC.cut1 (fun (v : Value) => [(3, ptr b3 0), (4, v)]) (fun (v : Value) w => ∃ M, St w0 M0 M [RowI 5 encB v (lenient l), .blk b3 (.cells #[I 0, I 0] 24)] w) ?_ ?_
  · refine SQ (RG (MV rfl rfl ?_))
    first | refine WR.step (Ex.lenSl Tryz.underlying30 (by assumption) rfl) (Wn.none rfl) rfl rfl ?_ | refine WR.step (Ex.lenRow Tryz.underlying30 H (by repeat (first | exact List.Mem.head _ | apply List.Mem.tail)) rfl) (Wn.none rfl) rfl rfl ?_ | refine WR.step (Ex.lenSlice Tryz.underlying30 rfl) (Wn.none rfl) rfl rfl ?_
    refine MV rfl rfl (NL (TN (BL ?_)))
    replace H := H.newRow 5 encB
    refine WC.loop5 (fun (k : Nat) (v : Value) (o : List UInt8) (x : Nat) (b : Nat) => [(3, ptr b3 0), (4, v), (5, encN x), (6, encN b), (14, bv), (15, I (l.length : Int)), (16, I (k : Int))]) (fun (k : Nat) (v : Value) (o : List UInt8) (x : Nat) (b : Nat) w => k ≤ l.length ∧ (∀ j u, l[j]? = some u → j < k → u ≠ 61) ∧ lrun (l.take k) = (o, x, b) ∧ ∃ M, St w0 M0 M [RowI 5 encB v o, .blk b3 (.cells #[I 0, I 0] 24)] w) (fun (k : Nat) (v : Value) (o : List UInt8) (x : Nat) (b : Nat) => l.length - k) (0) (_) (_) (0) (0) ⟨rfl, rfl, rfl, rfl, rfl, rfl, rfl, trivial⟩ (⟨by omega, fun _ _ _ h => absurd h (by omega), rfl, M0, H⟩) ?_
    intro k v o x b w
    rintro ⟨hk, hb61, hst, M, H⟩
    have hb := hp.mono H.ext.le
    have hi := lrun_inv (l.take k)
    have hl2 := lrun_len (l.take k)
    have hl3 : (l.take k).length ≤ l.length := List.length_take_le' _ _
    rw [hst] at hi hl2
    simp only [] at hi hl2
    have hx2 : 2 ^ b ≤ 2 ^ 6 := Nat.pow_le_pow_right (by decide) hi.1.1
    refine SQ (RG ?_)
    refine WR.split (Ex.lss rfl rfl) (Wn.none rfl) rfl rfl (fun h6_0 => ?_) (fun h6_0 => ?_)
    · obtain ⟨u, hu⟩ : ∃ u, l[k]? = some u := ⟨_, List.getElem?_eq_getElem (by omega)⟩
      refine NL (TN (SQ (CT rfl (SK (TN (SQ (BL (SQ (RG (WR.idxSl Tryz.underlying30 Tryz.sizeOf5 (by assumption) rfl rfl (hu) (Wn.none rfl) rfl ?_))))))))))
      intro p18 hc18
      first | refine WR.step (Ex.loadM H rfl (by assumption) Tryz.isAgg5) (Wn.none rfl) rfl rfl ?_ | refine WR.step (Ex.load1 H rfl (by repeat (first | exact List.Mem.head _ | apply List.Mem.tail)) Tryz.isAgg5 (by rfl)) (Wn.none rfl) rfl rfl ?_
      refine AS rfl rfl (NL (TN (SQ (SQ (RG (MV rfl rfl ?_))))))
      refine WR.split (Ex.eql rfl rfl) (Wn.none rfl) rfl rfl (fun h8_1 => ?_) (fun h8_1 => ?_)
      · refine NL (TN (CT rfl (WC.exit (WQ.thenExit (WQ.exitOut rfl (WQ.thenExit (WQ.thenExit (WQ.exitHere (WQ.meet1 (v) ⟨rfl, rfl, trivial⟩ ?_)))))))))
        refine ⟨M, ?_⟩
        have hlen : lenient l = o := by rw [lenient, upto61_eq l k hb61 (.inr (by rw [hu]; congr 1; exact b_eq.1 h8_1)), hst]
        rw [hlen]
        exact H
      · refine NL (TN (CF rfl (SK (TN (SQ (RG (WR.litC ty30 Tryz.underlying5 alpha H rfl (by rfl) rfl rfl (Wn.none rfl) rfl (fun _ => Wn.none rfl) rfl ?_)))))))
        intro v23 M w H hle hl23
        replace hb := hb.mono hle
        replace hc18 := hc18.mono hle
        refine MV rfl rfl (WR.call H (indexByte_spec _ alpha _) rfl (by assumption) (Wn.none rfl) rfl ?_)
        intro v25 M w H hle hr25
        replace hb := hb.mono hle
        replace hc18 := hc18.mono hle
        replace hl23 := hl23.mono hle
        obtain rfl := hr25
        rw [indexByte_alpha]
        refine AS rfl rfl (NL (TN (SQ (SQ (RG (MV rfl rfl ?_))))))
        refine WR.split (Ex.lss rfl rfl) (Wn.none rfl) rfl rfl (fun h10_1 => ?_) (fun h10_1 => ?_)
        · refine NL (TN (CT rfl (WC.exit (WQ.thenExit (WQ.exitHere (TN (RG (ST (Ex.add64 rfl rfl (by omega)) rfl ?_))))))))
          refine MV rfl rfl (NL ?_)
          refine WQ.again5 (k + 1) (v) (o) (x) (b) ⟨rfl, rfl, rfl, rfl, rfl, rfl, rfl, trivial⟩ ?_ ?_
          · exact ⟨by omega, next61 hb61 hu h8_1, by rw [lrun_next hu, hst, lstep, if_pos h10_1], M, H⟩
          · omega
        · have hix := val64_idx (c := u) (by omega)
          refine NL (TN (CF rfl (SK (TN (SQ (RG (MV rfl rfl (ST (Ex.shlN (m := x) (s := 6) rfl rfl (by first | (show _ ≤ 64; omega) | (show _ ≤ 8; omega) | decide) (by first | omega | (simp; omega))) rfl ?_))))))))
          refine WR.stepE (v' := encN (idx u)) (Ex.move rfl) (congrArg I hix.1) (Wn.none rfl) rfl rfl (WR.stepE (v' := encN (x * 64 + idx u)) (Ex.orN (m := _) (s := _) rfl rfl (by omega) (by omega)) (congrArg encN (or_six x (idx u) hix.2)) (Wn.none rfl) rfl rfl ?_)
          refine MV rfl rfl (WR.stepE (v' := encN (b + 6)) (Ex.add64 rfl rfl (by omega)) rfl (Wn.none rfl) rfl rfl ?_)
          refine AS rfl rfl (AS rfl rfl (NL (TN (SQ (RG (MV rfl rfl ?_))))))
          refine WR.split (Ex.geq rfl rfl) (Wn.none rfl) rfl rfl (fun h12_1 => ?_) (fun h12_1 => ?_)
          · refine NL (TN (CT rfl (SQ (RG (MV rfl rfl (WR.stepE (v' := encN (b + 6 - 8)) (Ex.sub64 rfl rfl (by omega)) (congrArg I (by omega)) (Wn.none rfl) rfl rfl ?_))))))
            refine AS rfl rfl (NL (TN (SQ (RG (MV rfl rfl (MV rfl rfl (MV rfl rfl (ST (Ex.shrN (m := _) (s := _) rfl rfl (by first | (show _ ≤ 64; omega) | (show _ ≤ 8; omega) | decide)) rfl ?_))))))))
            refine WR.stepE (v' := encB (UInt8.ofNat ((x * 64 + idx u) / 2 ^ (b + 6 - 8)))) (Ex.convU8 Tryz.underlying3 Tryz.underlying5 rfl) (congrArg encB (ub_nat _ (oct_lt x (idx u) b hi.1 hi.2 hix.2 (by omega)))) (Wn.none rfl) rfl rfl ?_
            refine WR.lit (enc := encB) ty30 [_] H rfl (by rfl) (fun _ => rfl) rfl rfl (Wn.none rfl) rfl ?_
            intro v43 M w H hle hl43
            replace hb := hb.mono hle
            replace hc18 := hc18.mono hle
            replace hl23 := hl23.mono hle
            refine WR.appendSl ty30 (fun _ => rfl) H rfl (fun _ => by repeat first | exact .head | apply Upd.tail) rfl (by assumption) (by first | omega | (simp only [List.length_append, List.length_cons, List.length_nil, List.length_take, List.length_drop]; omega)) (by first | (simp only [maxLen]; omega) | (simp only [maxLen, List.length_append, List.length_cons, List.length_nil, List.length_take, List.length_drop]; omega)) (Wn.none rfl) rfl ?_
            intro v44 w H
            refine AS rfl rfl (NL (TN (RG (MV rfl rfl (MV rfl rfl ?_)))))
            obtain ⟨P2, hP2⟩ : ∃ P2, P2 = 2 ^ (b + 6 - 8) := ⟨_, rfl⟩
            have hp2 : P2 ≤ 16 := by rw [hP2]; exact Nat.pow_le_pow_right (n := 2) (j := 4) (by decide) (by omega)
            have hp3 : 0 < P2 := by rw [hP2]; exact Nat.two_pow_pos _
            refine WR.stepE (v' := encN P2) (Ex.shlN (m := 1) (s := b + 6 - 8) rfl rfl (by first | (show _ ≤ 64; omega) | (show _ ≤ 8; omega) | decide) (by first | omega | (simp; omega))) (congrArg encN (by rw [hP2, Nat.one_mul])) (Wn.none rfl) rfl rfl ?_
            refine WR.stepE (v' := encN (P2 - 1)) (Ex.sub64 rfl rfl (by omega)) (congrArg I (by omega)) (Wn.none rfl) rfl rfl ?_
            refine WR.stepE (v' := encN ((x * 64 + idx u) % 2 ^ (b + 6 - 8))) (Ex.andN (m := _) (s := _) rfl rfl (by omega) (by omega)) (congrArg encN (by rw [hP2]; exact and_mask _ _)) (Wn.none rfl) rfl rfl ?_
            refine AS rfl rfl (NL (IB (TN (RG (ST (Ex.add64 rfl rfl (by omega)) rfl ?_)))))
            refine MV rfl rfl (NL ?_)
            refine WQ.again5 (k + 1) (v44) (o ++ [UInt8.ofNat ((x * 64 + idx u) / 2 ^ (b + 6 - 8))]) (_) (_) ⟨rfl, rfl, rfl, rfl, rfl, rfl, rfl, trivial⟩ ?_ ?_
            · exact ⟨by omega, next61 hb61 hu h8_1, by rw [lrun_next hu, hst, lstep, if_neg h10_1, if_neg (by simp only []; omega)], M, H⟩
            · omega
          · refine NL (TN (CF rfl (SK (IB (TN (RG (ST (Ex.add64 rfl rfl (by omega)) rfl ?_)))))))
            refine MV rfl rfl (NL ?_)
            refine WQ.again5 (k + 1) (v) (o) (_) (_) ⟨rfl, rfl, rfl, rfl, rfl, rfl, rfl, trivial⟩ ?_ ?_
            · exact ⟨by omega, next61 hb61 hu h8_1, by rw [lrun_next hu, hst, lstep, if_neg h10_1, if_pos (by simp only []; omega)], M, H⟩
            · omega
    · refine NL (TN (SQ (CF rfl (WC.exit (WQ.thenExit (WQ.thenExit (WQ.exitHere (WQ.meet1 (v) ⟨rfl, rfl, trivial⟩ ?_))))))))
      refine ⟨M, ?_⟩
      have hlen : lenient l = o := by rw [lenient, upto61_eq l k hb61 (.inl (by omega)), hst]
      rw [hlen]
      exact H
  · intro v w
    rintro ⟨M, H⟩
    refine SQ (RG (MV rfl rfl (WR.call H (none_spec) rfl (trivial) (Wn.none rfl) rfl ?_)))
    intro v52 M w H hle hr52
    obtain rfl := hr52
    refine AS rfl rfl (WR.store [_, _] H rfl rfl rfl (by repeat first | exact .head | apply Upd.tail) Tryz.sizeOf24 rfl (by rfl) (by rfl) (Wn.none rfl) ?_)
    intro w H
    refine NL (TN (RT ?_))
    obtain ⟨M, hle, hf, H⟩ := H.freezeRow (v := v) (enc := encB) (t := 5) (by repeat first | exact .head | apply Rem.tail)
    refine WQ.ret2 rfl rfl ⟨_, rfl, H.loadAgg (by repeat (first | exact List.Mem.head _ | apply List.Mem.tail)) Tryz.isAgg24 Tryz.sizeOf24 (by rfl)⟩ H.ext ?_
    exact ⟨_, rfl, hf⟩
end Go.Proofs.YtogkmhjnojphiaaGreatDoor
end
section
set_option linter.unusedVariables false
set_option linter.unusedSimpArgs false
namespace Go.Proofs.YtogkmhjnojphiaaGreatDoor
open Go Go.RowKit Go.Ph
open Go.Ph.B64
abbrev encG (x : List UInt8) : Value := .agg (x.map encB).toArray
theorem groups_iter (bb : Nat) (v0 : Value) (l : List UInt8) (hs : l.length ≤ 1000000) : IterCt Tryz.prog 190 [ptr bb 0] [.blk bb (.cells #[v0] 30)] (fun M => Bs M v0 l) encG (grps l) := by
  refine ⟨enters Tryz.func190 (by kernel_rfl) rfl, fun lid Z Zx hZ hY L0 w0 M0 hz H hp => calls_of_WC Tryz.func190 rfl rfl rfl ?_⟩
  generalize hC : feet ([.blk bb (.cells #[v0] 30)] ++ L0) = C at H ⊢
  simp only [List.cons_append, List.nil_append] at H
  refine BL (WC.loop3 (fun (k : Nat) (v : Value) (Lc : List Ph.Item) => [(0, yv lid), (1, ptr bb 0)]) (fun (k : Nat) (v : Value) (Lc : List Ph.Item) w => k ≤ (l.length + 2) / 3 ∧ ∃ M, StX C w0 M0 M (.blk bb (.cells #[v] 30) :: Lc) w ∧ Bs M v (l.drop (3 * k)) ∧ Z (grpsTo l k) Lc M) (fun (k : Nat) (v : Value) (Lc : List Ph.Item) => l.length + 2 - 3 * k) (0) (_) (_) ⟨rfl, rfl, trivial⟩ (⟨by omega, M0, H, hp, hz⟩) ?_)
  intro k v Lc w
  rintro ⟨hk, M, H, hb, hzc⟩
  have hlen : (l.drop (3 * k)).length = l.length - 3 * k := List.length_drop
  refine SQ (SQ (RG ?_))
  first | refine WR.step (Ex.loadM H rfl (by assumption) Tryz.isAgg30) (Wn.none rfl) rfl rfl ?_ | refine WR.step (Ex.load1 H rfl (by repeat (first | exact List.Mem.head _ | apply List.Mem.tail)) Tryz.isAgg30 (by rfl)) (Wn.none rfl) rfl rfl ?_
  first | refine WR.step (Ex.lenSl Tryz.underlying30 (by assumption) rfl) (Wn.none rfl) rfl rfl ?_ | refine WR.step (Ex.lenRow Tryz.underlying30 H (by repeat (first | exact List.Mem.head _ | apply List.Mem.tail)) rfl) (Wn.none rfl) rfl rfl ?_ | refine WR.step (Ex.lenSlice Tryz.underlying30 rfl) (Wn.none rfl) rfl rfl ?_
  refine WR.split (Ex.gtr rfl rfl) (Wn.none rfl) rfl rfl (fun h0_2 => ?_) (fun h0_2 => ?_)
  · refine NL (TN (CT rfl (SK (TN (BL (SQ (RG ?_)))))))
    first | refine WR.step (Ex.loadM H rfl (by assumption) Tryz.isAgg30) (Wn.none rfl) rfl rfl ?_ | refine WR.step (Ex.load1 H rfl (by repeat (first | exact List.Mem.head _ | apply List.Mem.tail)) Tryz.isAgg30 (by rfl)) (Wn.none rfl) rfl rfl ?_
    first | refine WR.step (Ex.lenSl Tryz.underlying30 (by assumption) rfl) (Wn.none rfl) rfl rfl ?_ | refine WR.step (Ex.lenRow Tryz.underlying30 H (by repeat (first | exact List.Mem.head _ | apply List.Mem.tail)) rfl) (Wn.none rfl) rfl rfl ?_ | refine WR.step (Ex.lenSlice Tryz.underlying30 rfl) (Wn.none rfl) rfl rfl ?_
    refine WR.stepE (v' := encN (min 3 (l.drop (3 * k)).length)) (Ex.min2 rfl rfl) (congrArg I (by omega)) (Wn.none rfl) rfl rfl ?_
    refine AS rfl rfl (NL (TN (SQ (RG (AS rfl rfl (NL (TN (SQ (SQ (RG (MV rfl rfl (NL (TN (BL (WC.loop1 (fun (i : Nat) => [(0, yv lid), (1, ptr bb 0), (3, encN (min 3 (l.drop (3 * k)).length)), (4, encN (accN (l.drop (3 * k)) i)), (14, I (i : Int))]) (fun (i : Nat) w => i ≤ 3 ∧ StX C w0 M0 M (.blk bb (.cells #[v] 30) :: Lc) w) (fun (i : Nat) => 3 - i) (0) ⟨rfl, rfl, rfl, rfl, rfl, trivial⟩ (⟨by omega, H⟩) ?_)))))))))))))))
    intro i w
    rintro ⟨hi, H⟩
    have hac := accN_lt (l.drop (3 * k)) i
    have hac2 : 256 ^ i ≤ 256 ^ 3 := Nat.pow_le_pow_right (by decide) hi
    refine SQ (RG ?_)
    refine WR.split (Ex.lss rfl rfl) (Wn.none rfl) rfl rfl (fun h4_0 => ?_) (fun h4_0 => ?_)
    · refine NL (TN (SQ (CT rfl (SK (TN (SQ (BL (SQ (RG (MV rfl rfl (AS rfl rfl (NL (TN (SQ (RG (MV rfl rfl (WR.stepE (v' := encN (accN (l.drop (3 * k)) i * 256)) (Ex.shlN (m := accN (l.drop (3 * k)) i) (s := 8) rfl rfl (by first | (show _ ≤ 64; omega) | (show _ ≤ 8; omega) | decide) (by first | omega | (simp; omega))) rfl (Wn.none rfl) rfl rfl ?_)))))))))))))))))
      refine AS rfl rfl (NL (TN (SQ (RG (MV rfl rfl (MV rfl rfl ?_))))))
      refine WR.split (Ex.lss rfl rfl) (Wn.none rfl) rfl rfl (fun h7_2 => ?_) (fun h7_2 => ?_)
      · obtain ⟨u, hu⟩ : ∃ u, (l.drop (3 * k))[i]? = some u := ⟨_, List.getElem?_eq_getElem (by omega)⟩
        have hult := u.toNat_lt
        refine NL (TN (CT rfl (RG (MV rfl rfl ?_))))
        first | refine WR.step (Ex.loadM H rfl (by assumption) Tryz.isAgg30) (Wn.none rfl) rfl rfl ?_ | refine WR.step (Ex.load1 H rfl (by repeat (first | exact List.Mem.head _ | apply List.Mem.tail)) Tryz.isAgg30 (by rfl)) (Wn.none rfl) rfl rfl ?_
        refine MV rfl rfl (WR.idxSl Tryz.underlying30 Tryz.sizeOf5 (by assumption) rfl rfl (hu) (Wn.none rfl) rfl ?_)
        intro p25 hc25
        first | refine WR.step (Ex.loadM H rfl (by assumption) Tryz.isAgg5) (Wn.none rfl) rfl rfl ?_ | refine WR.step (Ex.load1 H rfl (by repeat (first | exact List.Mem.head _ | apply List.Mem.tail)) Tryz.isAgg5 (by rfl)) (Wn.none rfl) rfl rfl ?_
        first | refine WR.step (Ex.convB Tryz.underlying5 Tryz.underlying3 rfl) (Wn.none rfl) rfl rfl ?_ | refine WR.step (Ex.convI Tryz.underlying5 Tryz.underlying3 rfl (by omega)) (Wn.none rfl) rfl rfl ?_
        refine WR.stepE (v' := encN (accN (l.drop (3 * k)) (i + 1))) (Ex.orN (m := accN (l.drop (3 * k)) i * 256) (s := u.toNat) rfl rfl (by omega) (by omega)) (congrArg encN (by rw [show accN (l.drop (3 * k)) i * 256 = accN (l.drop (3 * k)) i * 2 ^ 8 from rfl, or_eight, accN]; simp [List.getD_eq_getElem?_getD, hu])) (Wn.none rfl) rfl rfl ?_
        refine AS rfl rfl (NL (IB (TN (RG (ST (Ex.add64 rfl rfl (by omega)) rfl ?_)))))
        refine MV rfl rfl (NL ?_)
        refine WQ.again1 (i + 1) ⟨rfl, rfl, rfl, rfl, rfl, trivial⟩ ?_ ?_
        · exact ⟨by omega, H⟩
        · omega
      · refine NL (TN (CF rfl (SK (IB (TN (RG (ST (Ex.add64 rfl rfl (by omega)) rfl ?_)))))))
        refine MV rfl rfl (NL ?_)
        refine WQ.again1 (i + 1) ⟨rfl, rfl, rfl, (congrArg (fun x => some (encN x)) (accN_out _ _ (by omega))), rfl, trivial⟩ ?_ ?_
        · exact ⟨by omega, H⟩
        · omega
    · refine NL (TN (SQ (CF rfl (WC.exit (WQ.thenExit (WQ.thenExit (WQ.exitHere (TN (SQ (RG (WR.alloc [_, _, _, _] H Tryz.zeroValue189 rfl (Wn.none rfl) rfl ?_)))))))))))
      intro b6 w H
      refine NL (TN (SQ (SQ (RG (MV rfl rfl (NL (TN (BL ?_))))))))
      obtain rfl : i = 3 := by omega
      refine WC.loop1 (fun (j : Nat) => [(0, yv lid), (1, ptr bb 0), (3, encN (min 3 (l.drop (3 * k)).length)), (4, encN (accN (l.drop (3 * k)) 3)), (6, ptr b6 0), (30, I (j : Int))]) (fun (j : Nat) w => j ≤ 4 ∧ StX C w0 M0 M (.blk b6 (.cells ((outp (l.drop (3 * k)) j).map encB).toArray 189) :: .blk bb (.cells #[v] 30) :: Lc) w) (fun (j : Nat) => 4 - j) (0) ⟨rfl, rfl, rfl, rfl, rfl, rfl, trivial⟩ (⟨by omega, H⟩) ?_
      intro j w
      rintro ⟨hj, H⟩
      have hac := accN_lt (l.drop (3 * k)) 3
      have hol : (outp (l.drop (3 * k)) j).length = 4 := rfl
      refine SQ (RG ?_)
      refine WR.split (Ex.lss rfl rfl) (Wn.none rfl) rfl rfl (fun h12_0 => ?_) (fun h12_0 => ?_)
      · refine NL (TN (SQ (CT rfl (SK (TN (SQ (BL (SQ (RG (MV rfl rfl (AS rfl rfl (NL (TN (SQ (RG (MV rfl rfl (MV rfl rfl (MV rfl rfl (ST (Ex.mul64 rfl rfl (by omega)) rfl ?_)))))))))))))))))))
        refine WR.stepE (v' := I ((18 - 6 * j : Nat) : Int)) (Ex.sub64 rfl rfl (by omega)) (congrArg I (by omega)) (Wn.none rfl) rfl rfl ?_
        refine ST (Ex.shrN (m := _) (s := _) rfl rfl (by first | (show _ ≤ 64; omega) | (show _ ≤ 8; omega) | decide)) rfl ?_
        have hdv : accN (l.drop (3 * k)) 3 / 2 ^ (18 - 6 * j) ≤ accN (l.drop (3 * k)) 3 := Nat.div_le_self _ _
        refine WR.stepE (v' := encN (accN (l.drop (3 * k)) 3 / 2 ^ (18 - 6 * j) % 64)) (Ex.andN (m := _) (s := 63) rfl rfl (by omega) (by omega)) (congrArg encN (Nat.and_two_pow_sub_one_eq_mod _ 6)) (Wn.none rfl) rfl rfl ?_
        refine WR.stepE (v' := encB (alpha.getD (accN (l.drop (3 * k)) 3 / 2 ^ (18 - 6 * j) % 64) 0)) (Ex.idxStr (l := alpha) Tryz.underlying9 rfl rfl (List.getElem?_eq_getElem (by rw [alpha_len]; omega))) (congrArg encB (by rw [getD_in _ _ _ (by rw [alpha_len]; omega)])) (Wn.none rfl) rfl rfl ?_
        refine ST (Ex.idxArr Tryz.underlying189 Tryz.sizeOf5 rfl rfl (by omega)) rfl ?_
        refine WR.store1 (((outp (l.drop (3 * k)) j).set j (alpha.getD (accN (l.drop (3 * k)) 3 / 2 ^ (18 - 6 * j) % 64) 0)).map encB) H rfl rfl (by repeat first | exact .head | apply Upd.tail) (by simp [List.map_set]) Tryz.sizeOf5 (by simp [hol]; omega) rfl rfl (Wn.none rfl) ?_
        intro w H
        refine NL (TN (SQ (RG (MV rfl rfl (MV rfl rfl ?_)))))
        refine WR.split (Ex.gtr rfl rfl) (Wn.none rfl) rfl rfl (fun h15_2 => ?_) (fun h15_2 => ?_)
        · refine NL (TN (CT rfl (RG (MV rfl rfl (ST (Ex.idxArr Tryz.underlying189 Tryz.sizeOf5 rfl rfl (by omega)) rfl ?_)))))
          refine WR.store1 (((outp (l.drop (3 * k)) j).set j 61).map encB) H rfl rfl (by repeat first | exact .head | apply Upd.tail) (by simp [List.map_set]; rfl) Tryz.sizeOf5 (by simp [hol]; omega) rfl rfl (Wn.none rfl) ?_
          intro w H
          refine NL (IB (TN (RG (ST (Ex.add64 rfl rfl (by omega)) rfl ?_))))
          refine MV rfl rfl (NL ?_)
          refine WQ.again1 (j + 1) ⟨rfl, rfl, rfl, rfl, rfl, rfl, trivial⟩ ?_ ?_
          · refine ⟨by omega, ?_⟩
            rw [← outp_set _ _ (by omega), ch, if_pos (by omega)]
            exact H
          · omega
        · refine NL (TN (CF rfl (SK (IB (TN (RG (ST (Ex.add64 rfl rfl (by omega)) rfl ?_)))))))
          refine MV rfl rfl (NL ?_)
          refine WQ.again1 (j + 1) ⟨rfl, rfl, rfl, rfl, rfl, rfl, trivial⟩ ?_ ?_
          · refine ⟨by omega, ?_⟩
            rw [← outp_set _ _ (by omega), ch, if_neg (by omega)]
            exact H
          · omega
      · refine NL (TN (SQ (CF rfl (WC.exit (WQ.thenExit (WQ.thenExit (WQ.exitHere (TN (SQ (SQ (RG (MV rfl rfl ?_))))))))))))
        first | refine WR.step (Ex.loadAgg H rfl (by repeat (first | exact List.Mem.head _ | apply List.Mem.tail)) Tryz.isAgg189 Tryz.sizeOf189 (by rfl)) (Wn.none rfl) rfl rfl ?_ | refine WR.step (Ex.loadAggM H rfl (by assumption) Tryz.isAgg189 Tryz.sizeOf189 (by rfl)) (Wn.none rfl) rfl rfl ?_
        obtain rfl : j = 4 := by omega
        have hpre : (grpsTo l k ++ [outp (l.drop (3 * k)) 4]) <+: grps l := grpsTo_ini l k (by omega)
        refine WR.yield (hY _ _ _ _ _ hpre hzc (H.hand (.right (.right (Spl.whole _))))) rfl rfl (Wn.none rfl) rfl ?_
        rintro en w ⟨M, Lc, Hs, hcase⟩
        replace H := (H.back (.right (.right (Spl.whole _))) Hs).perm List.perm_append_comm
        simp only [List.cons_append, List.nil_append] at H
        replace hb := hb.mono Hs.ext.le
        rcases hcase with ⟨rfl, hzc⟩ | ⟨rfl, hzc⟩
        · refine ⟨true, rfl, ?_⟩
          refine ST (Ex.notT rfl) rfl (NL (TN (CF rfl (SK (TN (RG ?_))))))
          first | refine WR.step (Ex.loadM H rfl (by assumption) Tryz.isAgg30) (Wn.none rfl) rfl rfl ?_ | refine WR.step (Ex.load1 H rfl (by repeat (first | exact List.Mem.head _ | apply List.Mem.tail)) Tryz.isAgg30 (by rfl)) (Wn.none rfl) rfl rfl ?_
          refine MV rfl rfl (WR.sliceSl (i := min 3 (l.drop (3 * k)).length) (j := (l.drop (3 * k)).length) Tryz.underlying30 Tryz.sizeOf5 (by assumption) rfl (.inl ⟨_, rfl, rfl⟩) (.inr ⟨rfl, rfl⟩) (by omega) (by omega) (Wn.none rfl) rfl ?_)
          intro v54 hs54
          refine WR.putV [_] H rfl rfl (by first | exact One.slice _ _ _ | exact Sl.one (by assumption) | exact StX.rowOne H (by repeat (first | exact List.Mem.head _ | apply List.Mem.tail))) (by repeat first | exact .head | apply Upd.tail) (by rfl) Tryz.sizeOf30 (by first | decide | (simp; done) | (simp; omega)) (Wn.none rfl) ?_
          intro w H
          refine NL (IB ?_)
          refine WQ.again3 (k + 1) (v54) (Lc) ⟨rfl, rfl, trivial⟩ ?_ ?_
          · refine ⟨by omega, M, H.drop (List.sublist_cons_self _ _), ?_, ?_⟩
            · have := drop_next l k (min 3 (l.drop (3 * k)).length) rfl
              rw [List.take_of_length_le (Nat.le_refl _), this] at hs54
              exact hs54
            · rw [grpsTo_next]; exact hzc
          · omega
        · refine ⟨false, rfl, ?_⟩
          refine ST (Ex.notF rfl) rfl (NL (TN (CT rfl (RT ?_))))
          refine WQ.ret0X rfl ?_
          subst hC
          exact ⟨_, M, Lc, rfl, H.drop (by exact (List.sublist_cons_self _ _).trans (List.sublist_cons_self _ _)), .inr ⟨_, hpre, hzc⟩⟩
  · refine NL (TN (CF rfl (WC.exit (WQ.thenExit (WQ.thenExit (WQ.exitHere (WQ.end0X rfl ?_)))))))
    subst hC
    rw [show k = (l.length + 2) / 3 by omega] at hzc
    exact ⟨_, M, Lc, rfl, H.drop (List.sublist_cons_self _ _), .inl hzc⟩
theorem groups_spec (bv : Value) (l : List UInt8) : CtO Tryz.prog 163 [bv] (fun M => Bs M bv l) (fun r _ its => ∃ bb, r = .func (.func 190) #[] #[ptr bb 0] ∧ its = [.blk bb (.cells #[bv] 30)]) := by
  refine CtO.of Tryz.func163 (enters Tryz.func163 (by kernel_rfl) rfl) rfl rfl rfl ?_
  intro w0 M0 H hp
  refine SQ (RG (WR.box [_] H rfl (One.cells (by first | exact One.slice _ _ _ | exact Sl.one (by assumption) | exact StX.rowOne H (by repeat (first | exact List.Mem.head _ | apply List.Mem.tail)))) (Wn.none rfl) rfl ?_))
  intro b1 w H
  refine AS rfl rfl (NL (TN (SQ (RG (ST (Ex.makeFunc rfl) rfl (AS rfl rfl (NL (TN (RT ?_)))))))))
  refine WQ.ret1O rfl rfl H (List.Sublist.refl _) ?_
  exact ⟨_, rfl, rfl⟩
theorem encode_spec (bv : Value) (l : List UInt8) (hs : l.length ≤ 12000) : Ct Tryz.prog 127 [bv] (fun M => Bs M bv l) (fun r M => ∃ v, r = .tuple #[v, fault 0 0] ∧ Bs M v (encode l)) := by
  refine Ct.ofM Tryz.func127 (enters Tryz.func127 (by kernel_rfl) rfl) rfl rfl rfl ?_
  intro w0 M0 H hp
  refine SQ (RG (AS rfl rfl (WR.alloc [_, _] H Tryz.zeroValue24 rfl (Wn.none rfl) rfl ?_)))
  intro b3 w H
  refine NL (TN (SQ (SQ (RG (MV rfl rfl ?_)))))
  first | refine WR.step (Ex.lenSl Tryz.underlying30 (by assumption) rfl) (Wn.none rfl) rfl rfl ?_ | refine WR.step (Ex.lenRow Tryz.underlying30 H (by repeat (first | exact List.Mem.head _ | apply List.Mem.tail)) rfl) (Wn.none rfl) rfl rfl ?_ | refine WR.step (Ex.lenSlice Tryz.underlying30 rfl) (Wn.none rfl) rfl rfl ?_
  refine WR.stepF (Ex.gtr rfl rfl) (by omega) (Wn.none rfl) rfl rfl ?_
  refine NL (TN (CF rfl (SK (TN (SQ (RG (WR.alloc [_] H Tryz.zeroValue30 rfl (Wn.none rfl) rfl ?_)))))))
  intro b4 w H
  refine NL (TN (SQ (RG (WR.alloc [_] H Tryz.zeroValue3 rfl (Wn.none rfl) rfl ?_))))
  intro b5 w H
  refine WR.store [_] H rfl rfl rfl (by repeat first | exact .head | apply Upd.tail) Tryz.sizeOf3 rfl (by rfl) (by rfl) (Wn.none rfl) ?_
  intro w H
  refine NL (TN (SQ (SQ (RG (MV rfl rfl ?_)))))
  replace H := H.newRow 5 encB
  refine WR.callO H (groups_spec _ _) rfl (by assumption) (Wn.none rfl) rfl ?_
  intro v12 M w its H hle hr12
  replace hp := hp.mono hle
  obtain ⟨bb, rfl, rfl⟩ := hr12
  simp only [List.cons_append, List.nil_append] at H
  refine NL (TN (BL ?_))
  refine WC.rangeFunc H rfl (groups_iter bb bv l (by omega)) (.left (.left (.left (.left (.right .nil))))) (hp) rfl (fun pre Lc _ => ∃ v, Lc = [RowI 5 encB v (encRun pre).1, .blk b5 (.cells #[encN (encRun pre).2] 3), .blk b4 (.cells #[v] 30)]) (fun _ _ _ _ => False) (fun _ _ _ _ h _ => h) (⟨_, rfl⟩) ?_ ?_ ?_
  · intro lid rc hrc pre x Lc w M hpre hz H
    obtain ⟨v, rfl⟩ := hz
    have hi4 := ini_len hpre
    have hiv := encRun_inv pre hi4.2.1
    have hx4 := hi4.1
    refine RG (WR.alloc [_, _, _, _] H Tryz.zeroValue189 rfl (Wn.none rfl) rfl ?_)
    intro b6 w H
    refine WR.store (x.map encB) H rfl rfl rfl (by repeat first | exact .head | apply Upd.tail) Tryz.sizeOf189 (by simp [hx4]) rfl (by simp; exact fun _ _ => rfl) (Wn.none rfl) ?_
    intro w H
    refine NL (WQ.begin hrc H (by repeat first | exact .head | apply Upd.tail) ?_)
    intro w H
    refine BL (SQ (SQ (RG ?_)))
    first | refine WR.step (Ex.loadM H rfl (by assumption) Tryz.isAgg3) (Wn.none rfl) rfl rfl ?_ | refine WR.step (Ex.load1 H rfl (by repeat (first | exact List.Mem.head _ | apply List.Mem.tail)) Tryz.isAgg3 (by rfl)) (Wn.none rfl) rfl rfl ?_
    refine WR.split (Ex.eql rfl rfl) (Wn.none rfl) rfl rfl (fun h7_1 => ?_) (fun h7_1 => ?_)
    · refine NL (TN (CT rfl (SQ (RG ?_))))
      first | refine WR.step (Ex.loadM H rfl (by assumption) Tryz.isAgg30) (Wn.none rfl) rfl rfl ?_ | refine WR.step (Ex.load1 H rfl (by repeat (first | exact List.Mem.head _ | apply List.Mem.tail)) Tryz.isAgg30 (by rfl)) (Wn.none rfl) rfl rfl ?_
      refine WR.lit (enc := encB) ty30 [13, 10] H rfl (by rfl) (fun _ => rfl) rfl rfl (Wn.none rfl) rfl ?_
      intro v17 M w H hle hl17
      refine WR.appendSl ty30 (fun _ => rfl) H rfl (fun _ => by repeat first | exact .head | apply Upd.tail) rfl (by assumption) (by first | omega | (simp only [List.length_append, List.length_cons, List.length_nil, List.length_take, List.length_drop]; omega)) (by first | (simp only [maxLen]; omega) | (simp only [maxLen, List.length_append, List.length_cons, List.length_nil, List.length_take, List.length_drop]; omega)) (Wn.none rfl) rfl ?_
      intro v18 w H
      refine WR.putV [_] H rfl rfl (by first | exact One.slice _ _ _ | exact Sl.one (by assumption) | exact StX.rowOne H (by repeat (first | exact List.Mem.head _ | apply List.Mem.tail))) (by repeat first | exact .head | apply Upd.tail) (by rfl) Tryz.sizeOf30 (by first | decide | (simp; done) | (simp; omega)) (Wn.none rfl) ?_
      intro w H
      refine NL (TN (RG (WR.store [_] H rfl rfl rfl (by repeat first | exact .head | apply Upd.tail) Tryz.sizeOf3 rfl (by rfl) (by rfl) (Wn.none rfl) ?_)))
      intro w H
      refine NL (TN (SQ (WC.draw (m := 4) rfl rfl H ?_)))
      intro w H
      refine WA.two (i := 0) (j := 1) (by kernel_rfl) rfl rfl ?_ ?_
      · first | refine WR.step (Ex.loadM H rfl (by assumption) Tryz.isAgg30) (Wn.none rfl) rfl rfl ?_ | refine WR.step (Ex.load1 H rfl (by repeat (first | exact List.Mem.head _ | apply List.Mem.tail)) Tryz.isAgg30 (by rfl)) (Wn.none rfl) rfl rfl ?_
        refine NA (ON 1 (by kernel_rfl) rfl (WR.stepE (v' := .slice (some ⟨b6, 0, none⟩) x.length x.length) (Ex.sliceArr Tryz.underlying189 Tryz.sizeOf5 rfl) (by rw [hx4]) (Wn.none rfl) rfl rfl ?_))
        refine NA (ON 2 (by kernel_rfl) rfl (WR.appendBlk ty30 (fun _ => rfl) H rfl (fun _ => by repeat first | exact .head | apply Upd.tail) rfl (by repeat (first | exact List.Mem.head _ | apply List.Mem.tail)) (by first | omega | (simp only [List.length_append, List.length_cons, List.length_nil, List.length_take, List.length_drop]; omega)) (by first | (simp only [maxLen]; omega) | (simp only [maxLen, List.length_append, List.length_cons, List.length_nil, List.length_take, List.length_drop]; omega)) (Wn.none rfl) rfl ?_))
        intro v21 w H
        refine NA (ON 3 (by kernel_rfl) rfl (WR.putV [_] H rfl rfl (by first | exact One.slice _ _ _ | exact Sl.one (by assumption) | exact StX.rowOne H (by repeat (first | exact List.Mem.head _ | apply List.Mem.tail))) (by repeat first | exact .head | apply Upd.tail) (by rfl) Tryz.sizeOf30 (by first | decide | (simp; done) | (simp; omega)) (Wn.none rfl) ?_))
        intro w H
        refine NA (WA.done (by kernel_rfl) (TN (RG ?_)))
        first | refine WR.step (Ex.loadM H rfl (by assumption) Tryz.isAgg3) (Wn.none rfl) rfl rfl ?_ | refine WR.step (Ex.load1 H rfl (by repeat (first | exact List.Mem.head _ | apply List.Mem.tail)) Tryz.isAgg3 (by rfl)) (Wn.none rfl) rfl rfl ?_
        refine ST (Ex.add64 rfl rfl (by omega)) rfl ?_
        refine WR.store [_] H rfl rfl rfl (by repeat first | exact .head | apply Upd.tail) Tryz.sizeOf3 rfl (by rfl) (by rfl) (Wn.none rfl) ?_
        intro w H
        refine NL (IB ?_)
        refine WQ.roundOn hrc (H.drop (List.sublist_cons_self _ _)) ⟨v21, ?_⟩
        rw [encRun_next, encStep, if_pos (by omega)]
        rfl
      · refine WR.stepE (v' := .slice (some ⟨b6, 0, none⟩) x.length x.length) (Ex.sliceArr Tryz.underlying189 Tryz.sizeOf5 rfl) (by rw [hx4]) (Wn.none rfl) rfl rfl ?_
        refine NA (ON 0 (by kernel_rfl) rfl ?_)
        first | refine WR.step (Ex.loadM H rfl (by assumption) Tryz.isAgg30) (Wn.none rfl) rfl rfl ?_ | refine WR.step (Ex.load1 H rfl (by repeat (first | exact List.Mem.head _ | apply List.Mem.tail)) Tryz.isAgg30 (by rfl)) (Wn.none rfl) rfl rfl ?_
        refine NA (ON 2 (by kernel_rfl) rfl (WR.appendBlk ty30 (fun _ => rfl) H rfl (fun _ => by repeat first | exact .head | apply Upd.tail) rfl (by repeat (first | exact List.Mem.head _ | apply List.Mem.tail)) (by first | omega | (simp only [List.length_append, List.length_cons, List.length_nil, List.length_take, List.length_drop]; omega)) (by first | (simp only [maxLen]; omega) | (simp only [maxLen, List.length_append, List.length_cons, List.length_nil, List.length_take, List.length_drop]; omega)) (Wn.none rfl) rfl ?_))
        intro v21 w H
        refine NA (ON 3 (by kernel_rfl) rfl (WR.putV [_] H rfl rfl (by first | exact One.slice _ _ _ | exact Sl.one (by assumption) | exact StX.rowOne H (by repeat (first | exact List.Mem.head _ | apply List.Mem.tail))) (by repeat first | exact .head | apply Upd.tail) (by rfl) Tryz.sizeOf30 (by first | decide | (simp; done) | (simp; omega)) (Wn.none rfl) ?_))
        intro w H
        refine NA (WA.done (by kernel_rfl) (TN (RG ?_)))
        first | refine WR.step (Ex.loadM H rfl (by assumption) Tryz.isAgg3) (Wn.none rfl) rfl rfl ?_ | refine WR.step (Ex.load1 H rfl (by repeat (first | exact List.Mem.head _ | apply List.Mem.tail)) Tryz.isAgg3 (by rfl)) (Wn.none rfl) rfl rfl ?_
        refine ST (Ex.add64 rfl rfl (by omega)) rfl ?_
        refine WR.store [_] H rfl rfl rfl (by repeat first | exact .head | apply Upd.tail) Tryz.sizeOf3 rfl (by rfl) (by rfl) (Wn.none rfl) ?_
        intro w H
        refine NL (IB ?_)
        refine WQ.roundOn hrc (H.drop (List.sublist_cons_self _ _)) ⟨v21, ?_⟩
        rw [encRun_next, encStep, if_pos (by omega)]
        rfl
    · refine NL (TN (CF rfl (SK (TN (SQ (WC.draw (m := 4) rfl rfl H ?_))))))
      intro w H
      refine WA.two (i := 0) (j := 1) (by kernel_rfl) rfl rfl ?_ ?_
      · first | refine WR.step (Ex.loadM H rfl (by assumption) Tryz.isAgg30) (Wn.none rfl) rfl rfl ?_ | refine WR.step (Ex.load1 H rfl (by repeat (first | exact List.Mem.head _ | apply List.Mem.tail)) Tryz.isAgg30 (by rfl)) (Wn.none rfl) rfl rfl ?_
        refine NA (ON 1 (by kernel_rfl) rfl (WR.stepE (v' := .slice (some ⟨b6, 0, none⟩) x.length x.length) (Ex.sliceArr Tryz.underlying189 Tryz.sizeOf5 rfl) (by rw [hx4]) (Wn.none rfl) rfl rfl ?_))
        refine NA (ON 2 (by kernel_rfl) rfl (WR.appendBlk ty30 (fun _ => rfl) H rfl (fun _ => by repeat first | exact .head | apply Upd.tail) rfl (by repeat (first | exact List.Mem.head _ | apply List.Mem.tail)) (by first | omega | (simp only [List.length_append, List.length_cons, List.length_nil, List.length_take, List.length_drop]; omega)) (by first | (simp only [maxLen]; omega) | (simp only [maxLen, List.length_append, List.length_cons, List.length_nil, List.length_take, List.length_drop]; omega)) (Wn.none rfl) rfl ?_))
        intro v21 w H
        refine NA (ON 3 (by kernel_rfl) rfl (WR.putV [_] H rfl rfl (by first | exact One.slice _ _ _ | exact Sl.one (by assumption) | exact StX.rowOne H (by repeat (first | exact List.Mem.head _ | apply List.Mem.tail))) (by repeat first | exact .head | apply Upd.tail) (by rfl) Tryz.sizeOf30 (by first | decide | (simp; done) | (simp; omega)) (Wn.none rfl) ?_))
        intro w H
        refine NA (WA.done (by kernel_rfl) (TN (RG ?_)))
        first | refine WR.step (Ex.loadM H rfl (by assumption) Tryz.isAgg3) (Wn.none rfl) rfl rfl ?_ | refine WR.step (Ex.load1 H rfl (by repeat (first | exact List.Mem.head _ | apply List.Mem.tail)) Tryz.isAgg3 (by rfl)) (Wn.none rfl) rfl rfl ?_
        refine ST (Ex.add64 rfl rfl (by omega)) rfl ?_
        refine WR.store [_] H rfl rfl rfl (by repeat first | exact .head | apply Upd.tail) Tryz.sizeOf3 rfl (by rfl) (by rfl) (Wn.none rfl) ?_
        intro w H
        refine NL (IB ?_)
        refine WQ.roundOn hrc (H.drop (List.sublist_cons_self _ _)) ⟨v21, ?_⟩
        rw [encRun_next, encStep, if_neg (by omega)]
        rfl
      · refine WR.stepE (v' := .slice (some ⟨b6, 0, none⟩) x.length x.length) (Ex.sliceArr Tryz.underlying189 Tryz.sizeOf5 rfl) (by rw [hx4]) (Wn.none rfl) rfl rfl ?_
        refine NA (ON 0 (by kernel_rfl) rfl ?_)
        first | refine WR.step (Ex.loadM H rfl (by assumption) Tryz.isAgg30) (Wn.none rfl) rfl rfl ?_ | refine WR.step (Ex.load1 H rfl (by repeat (first | exact List.Mem.head _ | apply List.Mem.tail)) Tryz.isAgg30 (by rfl)) (Wn.none rfl) rfl rfl ?_
        refine NA (ON 2 (by kernel_rfl) rfl (WR.appendBlk ty30 (fun _ => rfl) H rfl (fun _ => by repeat first | exact .head | apply Upd.tail) rfl (by repeat (first | exact List.Mem.head _ | apply List.Mem.tail)) (by first | omega | (simp only [List.length_append, List.length_cons, List.length_nil, List.length_take, List.length_drop]; omega)) (by first | (simp only [maxLen]; omega) | (simp only [maxLen, List.length_append, List.length_cons, List.length_nil, List.length_take, List.length_drop]; omega)) (Wn.none rfl) rfl ?_))
        intro v21 w H
        refine NA (ON 3 (by kernel_rfl) rfl (WR.putV [_] H rfl rfl (by first | exact One.slice _ _ _ | exact Sl.one (by assumption) | exact StX.rowOne H (by repeat (first | exact List.Mem.head _ | apply List.Mem.tail))) (by repeat first | exact .head | apply Upd.tail) (by rfl) Tryz.sizeOf30 (by first | decide | (simp; done) | (simp; omega)) (Wn.none rfl) ?_))
        intro w H
        refine NA (WA.done (by kernel_rfl) (TN (RG ?_)))
        first | refine WR.step (Ex.loadM H rfl (by assumption) Tryz.isAgg3) (Wn.none rfl) rfl rfl ?_ | refine WR.step (Ex.load1 H rfl (by repeat (first | exact List.Mem.head _ | apply List.Mem.tail)) Tryz.isAgg3 (by rfl)) (Wn.none rfl) rfl rfl ?_
        refine ST (Ex.add64 rfl rfl (by omega)) rfl ?_
        refine WR.store [_] H rfl rfl rfl (by repeat first | exact .head | apply Upd.tail) Tryz.sizeOf3 rfl (by rfl) (by rfl) (Wn.none rfl) ?_
        intro w H
        refine NL (IB ?_)
        refine WQ.roundOn hrc (H.drop (List.sublist_cons_self _ _)) ⟨v21, ?_⟩
        rw [encRun_next, encStep, if_neg (by omega)]
        rfl
  · intro Dm w M Lc H hle hz
    obtain ⟨v, rfl⟩ := hz
    simp only [List.cons_append, List.nil_append] at H
    have hiv := encRun_inv (grps l) (grps_all l)
    have hgl := grps_len l
    refine IB (TN (SQ (SQ (RG ?_))))
    first | refine WR.step (Ex.loadM H rfl (by assumption) Tryz.isAgg3) (Wn.none rfl) rfl rfl ?_ | refine WR.step (Ex.load1 H rfl (by repeat (first | exact List.Mem.head _ | apply List.Mem.tail)) Tryz.isAgg3 (by rfl)) (Wn.none rfl) rfl rfl ?_
    refine WR.split (Ex.gtr rfl rfl) (Wn.none rfl) rfl rfl (fun h12_1 => ?_) (fun h12_1 => ?_)
    · refine NL (TN (CT rfl (RG ?_)))
      first | refine WR.step (Ex.loadM H rfl (by assumption) Tryz.isAgg30) (Wn.none rfl) rfl rfl ?_ | refine WR.step (Ex.load1 H rfl (by repeat (first | exact List.Mem.head _ | apply List.Mem.tail)) Tryz.isAgg30 (by rfl)) (Wn.none rfl) rfl rfl ?_
      refine WR.lit (enc := encB) ty30 [13, 10] H rfl (by rfl) (fun _ => rfl) rfl rfl (Wn.none rfl) rfl ?_
      intro v27 M w H hle hl27
      refine WR.appendSl ty30 (fun _ => rfl) H rfl (fun _ => by repeat first | exact .head | apply Upd.tail) rfl (by assumption) (by first | omega | (simp only [List.length_append, List.length_cons, List.length_nil, List.length_take, List.length_drop]; omega)) (by first | (simp only [maxLen]; omega) | (simp only [maxLen, List.length_append, List.length_cons, List.length_nil, List.length_take, List.length_drop]; omega)) (Wn.none rfl) rfl ?_
      intro v28 w H
      refine WR.putV [_] H rfl rfl (by first | exact One.slice _ _ _ | exact Sl.one (by assumption) | exact StX.rowOne H (by repeat (first | exact List.Mem.head _ | apply List.Mem.tail))) (by repeat first | exact .head | apply Upd.tail) (by rfl) Tryz.sizeOf30 (by first | decide | (simp; done) | (simp; omega)) (Wn.none rfl) ?_
      intro w H
      refine NL (TN (SQ (WC.draw (m := 4) rfl rfl H ?_)))
      intro w H
      refine WA.two (i := 0) (j := 1) (by kernel_rfl) rfl rfl ?_ ?_
      · first | refine WR.step (Ex.loadM H rfl (by assumption) Tryz.isAgg30) (Wn.none rfl) rfl rfl ?_ | refine WR.step (Ex.load1 H rfl (by repeat (first | exact List.Mem.head _ | apply List.Mem.tail)) Tryz.isAgg30 (by rfl)) (Wn.none rfl) rfl rfl ?_
        refine NA (ON 1 (by kernel_rfl) rfl (WR.call H (none_spec) rfl (trivial) (Wn.none rfl) rfl ?_))
        intro v30 M w H hle hr30
        replace hl27 := hl27.mono hle
        obtain rfl := hr30
        refine NA (ON 2 (by kernel_rfl) rfl (AS rfl rfl (NA (ON 3 (by kernel_rfl) rfl (WR.store [_, _] H rfl rfl rfl (by repeat first | exact .head | apply Upd.tail) Tryz.sizeOf24 rfl (by rfl) (by rfl) (Wn.none rfl) ?_)))))
        intro w H
        refine NA (WA.done (by kernel_rfl) (TN (RT ?_)))
        obtain ⟨M, hle, hf, H⟩ := H.freezeRow (v := v28) (enc := encB) (t := 5) (by repeat first | exact .head | apply Rem.tail)
        refine WQ.retM1 H (by repeat first | exact .head | apply Rem.tail) ?_
        intro w H
        refine ⟨_, resv_run2 rfl rfl ⟨_, rfl, H.loadAgg (by repeat (first | exact List.Mem.head _ | apply List.Mem.tail)) Tryz.isAgg24 Tryz.sizeOf24 (by rfl)⟩, _, _, rfl, H.ext, ?_⟩
        refine ⟨_, rfl, ?_⟩
        rw [encode, if_pos (by omega)]
        exact hf
      · refine WR.call H (none_spec) rfl (trivial) (Wn.none rfl) rfl ?_
        intro v30 M w H hle hr30
        replace hl27 := hl27.mono hle
        obtain rfl := hr30
        refine NA (ON 0 (by kernel_rfl) rfl ?_)
        first | refine WR.step (Ex.loadM H rfl (by assumption) Tryz.isAgg30) (Wn.none rfl) rfl rfl ?_ | refine WR.step (Ex.load1 H rfl (by repeat (first | exact List.Mem.head _ | apply List.Mem.tail)) Tryz.isAgg30 (by rfl)) (Wn.none rfl) rfl rfl ?_
        refine NA (ON 2 (by kernel_rfl) rfl (AS rfl rfl (NA (ON 3 (by kernel_rfl) rfl (WR.store [_, _] H rfl rfl rfl (by repeat first | exact .head | apply Upd.tail) Tryz.sizeOf24 rfl (by rfl) (by rfl) (Wn.none rfl) ?_)))))
        intro w H
        refine NA (WA.done (by kernel_rfl) (TN (RT ?_)))
        obtain ⟨M, hle, hf, H⟩ := H.freezeRow (v := v28) (enc := encB) (t := 5) (by repeat first | exact .head | apply Rem.tail)
        refine WQ.retM1 H (by repeat first | exact .head | apply Rem.tail) ?_
        intro w H
        refine ⟨_, resv_run2 rfl rfl ⟨_, rfl, H.loadAgg (by repeat (first | exact List.Mem.head _ | apply List.Mem.tail)) Tryz.isAgg24 Tryz.sizeOf24 (by rfl)⟩, _, _, rfl, H.ext, ?_⟩
        refine ⟨_, rfl, ?_⟩
        rw [encode, if_pos (by omega)]
        exact hf
    · refine NL (TN (CF rfl (SK (TN (SQ (WC.draw (m := 4) rfl rfl H ?_))))))
      intro w H
      refine WA.two (i := 0) (j := 1) (by kernel_rfl) rfl rfl ?_ ?_
      · first | refine WR.step (Ex.loadM H rfl (by assumption) Tryz.isAgg30) (Wn.none rfl) rfl rfl ?_ | refine WR.step (Ex.load1 H rfl (by repeat (first | exact List.Mem.head _ | apply List.Mem.tail)) Tryz.isAgg30 (by rfl)) (Wn.none rfl) rfl rfl ?_
        refine NA (ON 1 (by kernel_rfl) rfl (WR.call H (none_spec) rfl (trivial) (Wn.none rfl) rfl ?_))
        intro v30 M w H hle hr30
        obtain rfl := hr30
        refine NA (ON 2 (by kernel_rfl) rfl (AS rfl rfl (NA (ON 3 (by kernel_rfl) rfl (WR.store [_, _] H rfl rfl rfl (by repeat first | exact .head | apply Upd.tail) Tryz.sizeOf24 rfl (by rfl) (by rfl) (Wn.none rfl) ?_)))))
        intro w H
        refine NA (WA.done (by kernel_rfl) (TN (RT ?_)))
        obtain ⟨M, hle, hf, H⟩ := H.freezeRow (v := v) (enc := encB) (t := 5) (by repeat first | exact .head | apply Rem.tail)
        refine WQ.retM1 H (by repeat first | exact .head | apply Rem.tail) ?_
        intro w H
        refine ⟨_, resv_run2 rfl rfl ⟨_, rfl, H.loadAgg (by repeat (first | exact List.Mem.head _ | apply List.Mem.tail)) Tryz.isAgg24 Tryz.sizeOf24 (by rfl)⟩, _, _, rfl, H.ext, ?_⟩
        refine ⟨_, rfl, ?_⟩
        rw [encode, if_neg (by omega)]
        exact hf
      · refine WR.call H (none_spec) rfl (trivial) (Wn.none rfl) rfl ?_
        intro v30 M w H hle hr30
        obtain rfl := hr30
        refine NA (ON 0 (by kernel_rfl) rfl ?_)
        first | refine WR.step (Ex.loadM H rfl (by assumption) Tryz.isAgg30) (Wn.none rfl) rfl rfl ?_ | refine WR.step (Ex.load1 H rfl (by repeat (first | exact List.Mem.head _ | apply List.Mem.tail)) Tryz.isAgg30 (by rfl)) (Wn.none rfl) rfl rfl ?_
        refine NA (ON 2 (by kernel_rfl) rfl (AS rfl rfl (NA (ON 3 (by kernel_rfl) rfl (WR.store [_, _] H rfl rfl rfl (by repeat first | exact .head | apply Upd.tail) Tryz.sizeOf24 rfl (by rfl) (by rfl) (Wn.none rfl) ?_)))))
        intro w H
        refine NA (WA.done (by kernel_rfl) (TN (RT ?_)))
        obtain ⟨M, hle, hf, H⟩ := H.freezeRow (v := v) (enc := encB) (t := 5) (by repeat first | exact .head | apply Rem.tail)
        refine WQ.retM1 H (by repeat first | exact .head | apply Rem.tail) ?_
        intro w H
        refine ⟨_, resv_run2 rfl rfl ⟨_, rfl, H.loadAgg (by repeat (first | exact List.Mem.head _ | apply List.Mem.tail)) Tryz.isAgg24 Tryz.sizeOf24 (by rfl)⟩, _, _, rfl, H.ext, ?_⟩
        refine ⟨_, rfl, ?_⟩
        rw [encode, if_neg (by omega)]
        exact hf
  · intro Dm w M Lc c pre H hle hpre hz
    exact hz.elim
end Go.Proofs.YtogkmhjnojphiaaGreatDoor
end
