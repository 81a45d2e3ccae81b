/-
  quoted.Lenient: walks over the program's own operations, written by a program of this repository (wip/tools/gen.py) out of a plan.
-/
import Derived.Test.YtolmifddbjdepaaDoorQpl
import Derived.Test.YtolmifddbjdepaaDoorShelf
import Derived.KernelRfl
set_option linter.unusedVariables false
set_option linter.unusedSimpArgs false
namespace Go.Proofs.YtolmifddbjdepaaDoor
open Go Go.RowKit Go.Ph

open Go.Ph.Qp Go.Ph.Chs
theorem indexByte_find (l : List UInt8) (c : UInt8) : Lib.indexByte l c = if l.findIdx (fun x => decide (x = c)) < l.length then (l.findIdx (fun x => decide (x = c)) : Int) else -1 := by
  induction l with
  | nil => simp [Lib.indexByte]
  | cons b l ih =>
    simp only [Lib.indexByte, List.findIdx_cons, List.length_cons]
    by_cases h : b = c
    · subst h; simp
    · have h' : (b == c) = false := by simpa using h
      rw [h', ih, decide_eq_false h]
      simp only [Bool.false_eq_true, if_false, cond_false]
      by_cases hl : l.findIdx (fun x => decide (x = c)) < l.length
      · have h1 : l.findIdx (fun x => decide (x = c)) + 1 < l.length + 1 := by omega
        have h2 : ¬ (((l.findIdx (fun x => decide (x = c)) : Int) == -1) = true) := by simp only [beq_iff_eq]; omega
        simp only [hl, h1, if_true, h2, if_false, Bool.false_eq_true]
        omega
      · have h1 : ¬ (l.findIdx (fun x => decide (x = c)) + 1 < l.length + 1) := by omega
        simp only [hl, h1, if_false]
        rfl
theorem bytesOf_nats (l : List UInt8) : Lib.bytesOf (l.map fun u => (u.toNat : Int)) = l := by
  unfold Lib.bytesOf
  rw [List.map_map]
  conv => rhs; rw [← List.map_id l]
  apply List.map_congr_left
  intro u _
  simp
/-- where the line ends: k = 0 if it has no end -/
def Nl (l : List UInt8) (k : Nat) : Prop := (k = 0 ∧ nlen l = l.length ∧ body l = l ∧ chop 10 l = l) ∨ (0 < k ∧ k ≤ l.length ∧ nlen l = k ∧ chop 10 (l.take k) = l.take (k - 1) ∧ body (l.take k) = chop 13 (l.take (k - 1)))
theorem nl_of (l : List UInt8) : ∃ k : Nat, Lib.indexByte l 10 = (k : Int) - 1 ∧ Nl l k := by
  rw [indexByte_find]
  by_cases h : l.findIdx (fun x => decide (x = 10)) < l.length
  · rw [if_pos h]
    have h1 := List.findIdx_getElem (w := h)
    have h2 : l[l.findIdx (fun x => decide (x = 10))]? = some 10 := by rw [List.getElem?_eq_getElem h, of_decide_eq_true h1]
    have h3 : ∀ (j : Nat) (c : UInt8), j < l.findIdx (fun x => decide (x = 10)) → l[j]? = some c → c ≠ 10 := by
      intro j c hj hc
      have := List.not_of_lt_findIdx hj
      obtain ⟨e1, e2⟩ := List.getElem?_eq_some_iff.1 hc
      rw [e2] at this
      simpa using this
    obtain ⟨h4, h5⟩ := nlen_at1 h3 h2
    exact ⟨_, by omega, .inr ⟨Nat.succ_pos _, h, h4, chop_yes (Nat.succ_pos _) h2, h5⟩⟩
  · rw [if_neg h]
    have h3 : ∀ (j : Nat) (c : UInt8), l[j]? = some c → c ≠ 10 := by
      intro j c hc
      have he : l.findIdx (fun x => decide (x = 10)) = l.length := by have := List.findIdx_le_length (xs := l) (p := fun x => decide (x = 10)); omega
      rw [List.findIdx_eq_length] at he
      simpa using he c (List.mem_of_getElem? hc)
    obtain ⟨h4, h5⟩ := nlen_at0 h3
    refine ⟨0, by omega, .inl ⟨rfl, h4, h5, ?_⟩⟩
    unfold chop
    rw [if_neg]
    intro hl
    obtain ⟨j, hj⟩ := List.mem_iff_getElem?.1 (List.mem_of_getLast? hl)
    exact h3 j 10 hj rfl
theorem indexByte_spec (b : Value) (l : List UInt8) : Ct Tryd.prog 38 [b, encB 10] (fun M => Bs M b l) (fun r _ => ∃ k : Nat, r = I ((k : Int) - 1) ∧ Nl l k) := by
  refine ⟨enters Tryd.func38 (by kernel_rfl) rfl, fun w M ha hp => ?_⟩
  obtain ⟨A, cp, rfl, hc, hn⟩ := hp.cells ha
  have hcv : (((10 : UInt8).toNat : Int)).toNat.toUInt8 = 10 := rfl
  obtain ⟨k, hk, hN⟩ := nl_of l
  cases A with
  | none =>
    obtain ⟨rfl, rfl⟩ := hn rfl
    refine (Tryd.bytes_IndexByte_nil ((10 : UInt8).toNat : Int) w).mono fun e w' ⟨he, hw⟩ => ⟨_, M, he, by subst hw; exact Ext.refl ha, k, congrArg I (by rw [← hk]; rfl), hN⟩
  | some ad =>
    refine (Tryd.bytes_IndexByte_at ad l.length cp (l.map fun u => (u.toNat : Int)) ((10 : UInt8).toNat : Int) w (by simp) (fun i hi => ?_)).mono fun e w' ⟨he, hw⟩ => ⟨_, M, he, by subst hw; exact Ext.refl ha, k, ?_, hN⟩
    · have := hc ad rfl i (encB l[i]) (by simp [hi])
      rw [this]
      simp [hi]
    · rw [bytesOf_nats, hcv, hk]
theorem trimR_len (l : List UInt8) : (trimR l).length ≤ l.length := by
  unfold trimR
  rw [List.length_reverse]
  have := (List.dropWhile_sublist (l := l.reverse) (fun c => decide (bl c))).length_le
  rwa [List.length_reverse] at this
theorem chop_len (x : UInt8) (l : List UInt8) : (chop x l).length ≤ l.length := by
  unfold chop; split
  · rw [List.length_dropLast]; omega
  · exact Nat.le_refl _
theorem one_soft {s B : List UInt8} (hb : body s = B) (h : (trimR B).getLast? = some 61) : one s = plain (trimR B).dropLast := by
  unfold one; rw [hb, if_pos h]
theorem one_hard {s B : List UInt8} (hb : body s = B) (h : ¬ (trimR B).getLast? = some 61) : one s = plain (trimR B) ++ s.drop B.length := by
  unfold one; rw [hb, if_neg h]

theorem qlen_big (v : Value) (l : List UInt8) (hs : 48000 < l.length) : Ct Tryd.prog 17 [v] (fun M => Bs M v l) (fun r _ => r = .tuple #[.slice none 0 0, fault 1 (-1)]) := by
  refine Ct.of Tryd.func17 (enters Tryd.func17 (by kernel_rfl) rfl) rfl rfl rfl ?_
  intro w0 M0 H hp
  refine WC.seq ?_
  refine WC.region ?_
  refine WR.step (Ex.assign rfl) (Wn.none rfl) rfl rfl ?_
  refine WR.alloc [_, _] H Tryd.zeroValue25 rfl (Wn.none rfl) rfl ?_
  intro b3 w H
  refine WR.nil ?_
  refine WQ.then ?_
  refine WC.seq ?_
  refine WC.seq ?_
  refine WC.region ?_
  refine WR.step (Ex.move rfl) (Wn.none rfl) rfl rfl ?_
  first | refine WR.step (Ex.lenSl Tryd.underlying22 (by assumption) rfl) (Wn.none rfl) rfl rfl ?_ | refine WR.step (Ex.lenRow Tryd.underlying22 H (by repeat (first | exact List.Mem.head _ | apply List.Mem.tail)) rfl) (Wn.none rfl) rfl rfl ?_ | refine WR.step (Ex.lenSlice Tryd.underlying22 rfl) (Wn.none rfl) rfl rfl ?_
  refine WR.stepT (Ex.gtr rfl rfl) (by omega) (Wn.none rfl) rfl rfl ?_
  refine WR.nil ?_
  refine WQ.then ?_
  refine WC.condT rfl ?_
  refine WC.seq ?_
  refine WC.region ?_
  refine WR.call H (fault_spec _ _) rfl (trivial) (Wn.none rfl) rfl ?_
  intro v11 M w H hle hr11
  replace hp := hp.mono hle
  obtain rfl := hr11
  refine WR.step (Ex.assign rfl) (Wn.none rfl) rfl rfl ?_
  refine WR.store [_, _] H rfl rfl rfl (by repeat (first | exact Upd.head | apply Upd.tail)) Tryd.sizeOf25 rfl (by rfl) (by rfl) (Wn.none rfl) ?_
  intro w H
  refine WR.nil ?_
  refine WQ.then ?_
  refine WC.ret ?_
  (repeat (first | refine WQ.thenRet ?_ | refine WQ.inBlockRet ?_))
  refine WQ.ret2 rfl rfl ⟨_, rfl, H.loadAgg (by repeat (first | exact List.Mem.head _ | apply List.Mem.tail)) Tryd.isAgg25 Tryd.sizeOf25 (by rfl)⟩ H.ext ?_
  exact rfl

theorem qlen_spec (v : Value) (l : List UInt8) (hs : l.length ≤ 48000) : Ct Tryd.prog 17 [v] (fun M => Bs M v l) (fun r M => ∃ x, r = .tuple #[x, fault 0 0] ∧ Bs M x (lenient l)) := by
  refine Ct.of Tryd.func17 (enters Tryd.func17 (by kernel_rfl) rfl) rfl rfl rfl ?_
  intro w0 M0 H hp
  refine WC.seq ?_
  refine WC.region ?_
  refine WR.step (Ex.assign rfl) (Wn.none rfl) rfl rfl ?_
  refine WR.alloc [_, _] H Tryd.zeroValue25 rfl (Wn.none rfl) rfl ?_
  intro b3 w H
  refine WR.nil ?_
  refine WQ.then ?_
  refine WC.seq ?_
  refine WC.seq ?_
  refine WC.region ?_
  refine WR.step (Ex.move rfl) (Wn.none rfl) rfl rfl ?_
  first | refine WR.step (Ex.lenSl Tryd.underlying22 (by assumption) rfl) (Wn.none rfl) rfl rfl ?_ | refine WR.step (Ex.lenRow Tryd.underlying22 H (by repeat (first | exact List.Mem.head _ | apply List.Mem.tail)) rfl) (Wn.none rfl) rfl rfl ?_ | refine WR.step (Ex.lenSlice Tryd.underlying22 rfl) (Wn.none rfl) rfl rfl ?_
  refine WR.stepF (Ex.gtr rfl rfl) (by omega) (Wn.none rfl) rfl rfl ?_
  refine WR.nil ?_
  refine WQ.then ?_
  refine WC.condF rfl ?_
  refine WC.skip ?_
  refine WQ.then ?_
  refine WC.seq ?_
  refine WC.region ?_
  refine WR.step (Ex.assign rfl) (Wn.none rfl) rfl rfl ?_
  refine WR.nil ?_
  refine WQ.then ?_
  refine WC.seq ?_
  refine WC.block ?_
  replace H := H.newRow 5 encB
  refine WC.loop4 (fun (t : List UInt8) (x : Value) (ov : Value) (o : List UInt8) => [(0, x), (3, ptr b3 0), (4, ov)]) (fun (t : List UInt8) (x : Value) (ov : Value) (o : List UInt8) w => o.length + t.length ≤ l.length ∧ lenient l = o ++ lenient t ∧ ∃ M, St w0 M0 M [RowI 5 encB ov o, .blk b3 (.cells #[I 0, I 0] 25)] w ∧ Bs M x t) (fun (t : List UInt8) (x : Value) (ov : Value) (o : List UInt8) => t.length) (l) (_) (_) (_) ⟨rfl, rfl, rfl, trivial⟩ (⟨by simp, rfl, M0, H, hp⟩) ?_
  intro t x ov o w
  rintro ⟨hol, hlen, M, H, hp⟩
  refine WC.seq ?_
  refine WC.seq ?_
  refine WC.region ?_
  refine WR.step (Ex.move rfl) (Wn.none rfl) rfl rfl ?_
  first | refine WR.step (Ex.lenSl Tryd.underlying22 (by assumption) rfl) (Wn.none rfl) rfl rfl ?_ | refine WR.step (Ex.lenRow Tryd.underlying22 H (by repeat (first | exact List.Mem.head _ | apply List.Mem.tail)) rfl) (Wn.none rfl) rfl rfl ?_ | refine WR.step (Ex.lenSlice Tryd.underlying22 rfl) (Wn.none rfl) rfl rfl ?_
  refine WR.split (Ex.gtr rfl rfl) (Wn.none rfl) rfl rfl (fun h4_2 => ?_) (fun h4_2 => ?_)
  ·
    have hne : t ≠ [] := fun h => by subst h; simp at h4_2
    refine WR.nil ?_
    refine WQ.then ?_
    refine WC.condT rfl ?_
    refine WC.skip ?_
    refine WQ.then ?_
    refine WC.block ?_
    refine WC.seq ?_
    refine WC.region ?_
    refine WR.step (Ex.move rfl) (Wn.none rfl) rfl rfl ?_
    refine WR.call H (indexByte_spec _ t) rfl (by assumption) (Wn.none rfl) rfl ?_
    intro v16 M w H hle hr16
    replace hp := hp.mono hle
    obtain ⟨k16, rfl, hN16⟩ := hr16
    have hkl : k16 ≤ t.length := by
      rcases hN16 with h | h <;> omega
    refine WR.stepE (v' := encN k16) (Ex.add64 rfl rfl (by omega)) (congrArg I (by omega)) (Wn.none rfl) rfl rfl ?_
    refine WR.step (Ex.assign rfl) (Wn.none rfl) rfl rfl ?_
    refine WR.nil ?_
    refine WQ.then ?_
    refine WC.seq ?_
    refine WC.seq ?_
    refine WC.region ?_
    refine WR.step (Ex.move rfl) (Wn.none rfl) rfl rfl ?_
    refine WR.split (Ex.eql rfl rfl) (Wn.none rfl) rfl rfl (fun h6_1 => ?_) (fun h6_1 => ?_)
    ·
      obtain ⟨hnl, hB, hch⟩ : nlen t = t.length ∧ body (t.take t.length) = t ∧ chop 10 (t.take t.length) = t := by
        rcases hN16 with h | h
        · rw [List.take_length]; exact ⟨h.2.1, h.2.2.1, h.2.2.2⟩
        · omega
      have hBl : t.length ≤ t.length := Nat.le_refl _
      have hTl := trimR_len t
      have hPl := plain_len _ (trimR t) (Nat.le_refl _)
      have hQl := plain_len _ (trimR t).dropLast (Nat.le_refl _)
      rw [List.length_dropLast] at hQl
      refine WR.nil ?_
      refine WQ.then ?_
      refine WC.condT rfl ?_
      refine WC.region ?_
      refine WR.step (Ex.move rfl) (Wn.none rfl) rfl rfl ?_
      first | refine WR.step (Ex.lenSl Tryd.underlying22 (by assumption) rfl) (Wn.none rfl) rfl rfl ?_ | refine WR.step (Ex.lenRow Tryd.underlying22 H (by repeat (first | exact List.Mem.head _ | apply List.Mem.tail)) rfl) (Wn.none rfl) rfl rfl ?_ | refine WR.step (Ex.lenSlice Tryd.underlying22 rfl) (Wn.none rfl) rfl rfl ?_
      refine WR.step (Ex.assign rfl) (Wn.none rfl) rfl rfl ?_
      refine WR.nil ?_
      refine WQ.then ?_
      refine WC.seq ?_
      refine WC.region ?_
      refine WR.step (Ex.move rfl) (Wn.none rfl) rfl rfl ?_
      refine WR.step (Ex.move rfl) (Wn.none rfl) rfl rfl ?_
      refine WR.sliceSl (i := 0) (j := t.length) Tryd.underlying22 Tryd.sizeOf5 (by assumption) rfl (.inr ⟨rfl, rfl⟩) (.inl ⟨_, rfl, rfl⟩) (by omega) (by omega) (Wn.none rfl) rfl ?_
      intro v24 hs24
      refine WR.litC ty22 Tryd.underlying5 [10] H rfl (by rfl) rfl rfl (Wn.none rfl) rfl (fun _ => Wn.none rfl) rfl ?_
      intro v26 M w H hle hl26
      replace hp := hp.mono hle
      replace hs24 := hs24.mono hle
      try rw [List.drop_zero] at hs24
      refine WR.call H (trimSuffix_spec _ _ (t.take t.length) 10) rfl (⟨by assumption, by assumption⟩) (Wn.none rfl) rfl ?_
      intro v27 M w H hle hr27
      replace hp := hp.mono hle
      replace hs24 := hs24.mono hle
      replace hl26 := hl26.mono hle
      have hf27 := hr27
      rw [hch] at hf27
      refine WR.step (Ex.assign rfl) (Wn.none rfl) rfl rfl ?_
      refine WR.nil ?_
      refine WQ.then ?_
      refine WC.seq ?_
      refine WC.seq ?_
      refine WC.region ?_
      refine WR.step (Ex.move rfl) (Wn.none rfl) rfl rfl ?_
      first | refine WR.step (Ex.lenSl Tryd.underlying22 (by assumption) rfl) (Wn.none rfl) rfl rfl ?_ | refine WR.step (Ex.lenRow Tryd.underlying22 H (by repeat (first | exact List.Mem.head _ | apply List.Mem.tail)) rfl) (Wn.none rfl) rfl rfl ?_ | refine WR.step (Ex.lenSlice Tryd.underlying22 rfl) (Wn.none rfl) rfl rfl ?_
      refine WR.step (Ex.move rfl) (Wn.none rfl) rfl rfl ?_
      refine WR.stepF (Ex.lss rfl rfl) (by omega) (Wn.none rfl) rfl rfl ?_
      refine WR.nil ?_
      refine WQ.then ?_
      refine WC.condF rfl ?_
      refine WC.skip ?_
      refine WQ.then ?_
      refine WC.seq ?_
      refine WC.region ?_
      refine WR.step (Ex.move rfl) (Wn.none rfl) rfl rfl ?_
      refine WR.step (Ex.move rfl) (Wn.none rfl) rfl rfl ?_
      first | refine WR.step (Ex.lenSl Tryd.underlying22 (by assumption) rfl) (Wn.none rfl) rfl rfl ?_ | refine WR.step (Ex.lenRow Tryd.underlying22 H (by repeat (first | exact List.Mem.head _ | apply List.Mem.tail)) rfl) (Wn.none rfl) rfl rfl ?_ | refine WR.step (Ex.lenSlice Tryd.underlying22 rfl) (Wn.none rfl) rfl rfl ?_
      refine WR.step (Ex.move rfl) (Wn.none rfl) rfl rfl ?_
      refine WR.sliceSl (i := t.length) (j := t.length) Tryd.underlying22 Tryd.sizeOf5 (by assumption) rfl (.inl ⟨_, rfl, rfl⟩) (.inl ⟨_, rfl, rfl⟩) (by omega) (by omega) (Wn.none rfl) rfl ?_
      intro v40 hs40
      refine WR.step (Ex.assign rfl) (Wn.none rfl) rfl rfl ?_
      refine WR.nil ?_
      refine WQ.then ?_
      refine WC.seq ?_
      refine WC.region ?_
      refine WR.step (Ex.move rfl) (Wn.none rfl) rfl rfl ?_
      refine WR.call H (trimRight_spec _ t) rfl (by assumption) (Wn.none rfl) rfl ?_
      intro v42 M w H hle hr42
      replace hp := hp.mono hle
      replace hs24 := hs24.mono hle
      replace hl26 := hl26.mono hle
      replace hf27 := hf27.mono hle
      replace hs40 := hs40.mono hle
      have hf42 := hr42
      refine WR.step (Ex.assign rfl) (Wn.none rfl) rfl rfl ?_
      refine WR.nil ?_
      refine WQ.then ?_
      refine WC.seq ?_
      refine WC.seq ?_
      refine WC.region ?_
      refine WR.step (Ex.move rfl) (Wn.none rfl) rfl rfl ?_
      refine WR.litC ty22 Tryd.underlying5 [61] H rfl (by rfl) rfl rfl (Wn.none rfl) rfl (fun _ => Wn.none rfl) rfl ?_
      intro v45 M w H hle hl45
      replace hp := hp.mono hle
      replace hs24 := hs24.mono hle
      replace hl26 := hl26.mono hle
      replace hf27 := hf27.mono hle
      replace hs40 := hs40.mono hle
      replace hf42 := hf42.mono hle
      refine WR.callB H (hasSuffix_spec _ _ (trimR t) 61) rfl (⟨by assumption, by assumption⟩) (Wn.none rfl) rfl (fun h13_3 => ?_) (fun h13_3 => ?_)
      ·
        intro M w H hle
        replace hp := hp.mono hle
        replace hs24 := hs24.mono hle
        replace hl26 := hl26.mono hle
        replace hf27 := hf27.mono hle
        replace hs40 := hs40.mono hle
        replace hf42 := hf42.mono hle
        replace hl45 := hl45.mono hle
        have hpos : 0 < (trimR t).length := by
          rcases Nat.eq_zero_or_pos (trimR t).length with h | h
          · rw [List.eq_nil_of_length_eq_zero h] at h13_3; cases h13_3
          · exact h
        refine WR.nil ?_
        refine WQ.then ?_
        refine WC.condT rfl ?_
        refine WC.region ?_
        refine WR.step (Ex.move rfl) (Wn.none rfl) rfl rfl ?_
        refine WR.step (Ex.move rfl) (Wn.none rfl) rfl rfl ?_
        first | refine WR.step (Ex.lenSl Tryd.underlying22 (by assumption) rfl) (Wn.none rfl) rfl rfl ?_ | refine WR.step (Ex.lenRow Tryd.underlying22 H (by repeat (first | exact List.Mem.head _ | apply List.Mem.tail)) rfl) (Wn.none rfl) rfl rfl ?_ | refine WR.step (Ex.lenSlice Tryd.underlying22 rfl) (Wn.none rfl) rfl rfl ?_
        refine WR.stepE (v' := encN ((trimR t).length - 1)) (Ex.sub64 rfl rfl (by omega)) (congrArg I (by omega)) (Wn.none rfl) rfl rfl ?_
        refine WR.sliceSl (i := 0) (j := (trimR t).length - 1) Tryd.underlying22 Tryd.sizeOf5 (by assumption) rfl (.inr ⟨rfl, rfl⟩) (.inl ⟨_, rfl, rfl⟩) (by omega) (by omega) (Wn.none rfl) rfl ?_
        intro v51 hs51
        refine WR.step (Ex.assign rfl) (Wn.none rfl) rfl rfl ?_
        refine WR.step (Ex.assign rfl) (Wn.none rfl) rfl rfl ?_
        refine WR.nil ?_
        refine WQ.then ?_
        refine WC.seq ?_
        refine WC.region ?_
        refine WR.step (Ex.move rfl) (Wn.none rfl) rfl rfl ?_
        refine WR.step (Ex.move rfl) (Wn.none rfl) rfl rfl ?_
        try rw [List.drop_zero, ← List.dropLast_eq_take] at hs51
        refine WR.call H (plain_spec _ (trimR t).dropLast (by rw [List.length_dropLast]; omega)) rfl (by assumption) (Wn.none rfl) rfl ?_
        intro v54 M w H hle hr54
        replace hp := hp.mono hle
        replace hs24 := hs24.mono hle
        replace hl26 := hl26.mono hle
        replace hf27 := hf27.mono hle
        replace hs40 := hs40.mono hle
        replace hf42 := hf42.mono hle
        replace hl45 := hl45.mono hle
        replace hs51 := hs51.mono hle
        have hf54 := hr54
        refine WR.appendSl ty22 (fun _ => rfl) H rfl (fun _ => by repeat (first | exact Upd.head | apply Upd.tail)) rfl (by assumption) (by first | omega | (simp only [List.length_append, List.length_cons, List.length_nil, List.length_take, List.length_drop]; omega)) (by first | (simp only [maxLen]; omega) | (simp only [maxLen, List.length_append, List.length_cons, List.length_nil, List.length_take, List.length_drop]; omega)) (Wn.none rfl) rfl ?_
        intro v55 w H
        refine WR.step (Ex.move rfl) (Wn.none rfl) rfl rfl ?_
        have hnilS := Sl.nil M encB
        refine WR.appendSl ty22 (fun _ => rfl) H rfl (fun _ => by repeat (first | exact Upd.head | apply Upd.tail)) rfl (by assumption) (by first | omega | (simp only [List.length_append, List.length_cons, List.length_nil, List.length_take, List.length_drop]; omega)) (by first | (simp only [maxLen]; omega) | (simp only [maxLen, List.length_append, List.length_cons, List.length_nil, List.length_take, List.length_drop]; omega)) (Wn.none rfl) rfl ?_
        intro v57 w H
        refine WR.step (Ex.assign rfl) (Wn.none rfl) rfl rfl ?_
        refine WR.nil ?_
        refine WQ.then ?_
        refine WC.region ?_
        refine WR.step (Ex.move rfl) (Wn.none rfl) rfl rfl ?_
        refine WR.step (Ex.move rfl) (Wn.none rfl) rfl rfl ?_
        refine WR.sliceSl (i := t.length) (j := t.length) Tryd.underlying22 Tryd.sizeOf5 (by assumption) rfl (.inl ⟨_, rfl, rfl⟩) (.inr ⟨rfl, rfl⟩) (by omega) (by omega) (Wn.none rfl) rfl ?_
        intro v60 hs60
        refine WR.step (Ex.assign rfl) (Wn.none rfl) rfl rfl ?_
        refine WR.nil ?_
        refine WQ.inBlock ?_
        refine WQ.again4 (t.drop t.length) (v60) (v57) (o ++ plain (trimR t).dropLast ++ []) ⟨rfl, rfl, rfl, trivial⟩ ?_ ?_
        · exact ⟨by simp only [List.length_append, List.length_drop, List.length_nil]; omega, by rw [hlen, lenient_cons hne, hnl, one_soft hB h13_3]; simp, M, H, by rw [List.take_length] at hs60; exact hs60⟩
        · rw [List.length_drop]; omega
      ·
        intro M w H hle
        replace hp := hp.mono hle
        replace hs24 := hs24.mono hle
        replace hl26 := hl26.mono hle
        replace hf27 := hf27.mono hle
        replace hs40 := hs40.mono hle
        replace hf42 := hf42.mono hle
        replace hl45 := hl45.mono hle
        refine WR.nil ?_
        refine WQ.then ?_
        refine WC.condF rfl ?_
        refine WC.skip ?_
        refine WQ.then ?_
        refine WC.seq ?_
        refine WC.region ?_
        refine WR.step (Ex.move rfl) (Wn.none rfl) rfl rfl ?_
        refine WR.step (Ex.move rfl) (Wn.none rfl) rfl rfl ?_
        try rw [List.drop_zero, ← List.dropLast_eq_take] at hs51
        refine WR.call H (plain_spec _ (trimR t) (by omega)) rfl (by assumption) (Wn.none rfl) rfl ?_
        intro v54 M w H hle hr54
        replace hp := hp.mono hle
        replace hs24 := hs24.mono hle
        replace hl26 := hl26.mono hle
        replace hf27 := hf27.mono hle
        replace hs40 := hs40.mono hle
        replace hf42 := hf42.mono hle
        replace hl45 := hl45.mono hle
        have hf54 := hr54
        refine WR.appendSl ty22 (fun _ => rfl) H rfl (fun _ => by repeat (first | exact Upd.head | apply Upd.tail)) rfl (by assumption) (by first | omega | (simp only [List.length_append, List.length_cons, List.length_nil, List.length_take, List.length_drop]; omega)) (by first | (simp only [maxLen]; omega) | (simp only [maxLen, List.length_append, List.length_cons, List.length_nil, List.length_take, List.length_drop]; omega)) (Wn.none rfl) rfl ?_
        intro v55 w H
        refine WR.step (Ex.move rfl) (Wn.none rfl) rfl rfl ?_
        have hnilS := Sl.nil M encB
        refine WR.appendSl ty22 (fun _ => rfl) H rfl (fun _ => by repeat (first | exact Upd.head | apply Upd.tail)) rfl (by assumption) (by first | omega | (simp only [List.length_append, List.length_cons, List.length_nil, List.length_take, List.length_drop]; omega)) (by first | (simp only [maxLen]; omega) | (simp only [maxLen, List.length_append, List.length_cons, List.length_nil, List.length_take, List.length_drop]; omega)) (Wn.none rfl) rfl ?_
        intro v57 w H
        refine WR.step (Ex.assign rfl) (Wn.none rfl) rfl rfl ?_
        refine WR.nil ?_
        refine WQ.then ?_
        refine WC.region ?_
        refine WR.step (Ex.move rfl) (Wn.none rfl) rfl rfl ?_
        refine WR.step (Ex.move rfl) (Wn.none rfl) rfl rfl ?_
        refine WR.sliceSl (i := t.length) (j := t.length) Tryd.underlying22 Tryd.sizeOf5 (by assumption) rfl (.inl ⟨_, rfl, rfl⟩) (.inr ⟨rfl, rfl⟩) (by omega) (by omega) (Wn.none rfl) rfl ?_
        intro v60 hs60
        refine WR.step (Ex.assign rfl) (Wn.none rfl) rfl rfl ?_
        refine WR.nil ?_
        refine WQ.inBlock ?_
        refine WQ.again4 (t.drop t.length) (v60) (v57) (o ++ plain (trimR t) ++ (t.take t.length).drop t.length) ⟨rfl, rfl, rfl, trivial⟩ ?_ ?_
        · exact ⟨by simp only [List.length_append, List.length_drop, List.length_take]; omega, by rw [hlen, lenient_cons hne, hnl, one_hard hB h13_3]; simp, M, H, by rw [List.take_length] at hs60; exact hs60⟩
        · rw [List.length_drop]; omega
    ·
      obtain ⟨hk0, hk1, hnl, hch, hB⟩ : 0 < k16 ∧ k16 ≤ t.length ∧ nlen t = k16 ∧ chop 10 (t.take k16) = t.take (k16 - 1) ∧ body (t.take k16) = chop 13 (t.take (k16 - 1)) := by
        rcases hN16 with h | h
        · omega
        · exact h
      have hBl := chop_len 13 (t.take (k16 - 1))
      rw [List.length_take] at hBl
      have hTl := trimR_len (chop 13 (t.take (k16 - 1)))
      have hPl := plain_len _ (trimR (chop 13 (t.take (k16 - 1)))) (Nat.le_refl _)
      have hQl := plain_len _ (trimR (chop 13 (t.take (k16 - 1)))).dropLast (Nat.le_refl _)
      rw [List.length_dropLast] at hQl
      refine WR.nil ?_
      refine WQ.then ?_
      refine WC.condF rfl ?_
      refine WC.skip ?_
      refine WQ.then ?_
      refine WC.seq ?_
      refine WC.region ?_
      refine WR.step (Ex.move rfl) (Wn.none rfl) rfl rfl ?_
      refine WR.step (Ex.move rfl) (Wn.none rfl) rfl rfl ?_
      refine WR.sliceSl (i := 0) (j := k16) Tryd.underlying22 Tryd.sizeOf5 (by assumption) rfl (.inr ⟨rfl, rfl⟩) (.inl ⟨_, rfl, rfl⟩) (by omega) (by omega) (Wn.none rfl) rfl ?_
      intro v24 hs24
      refine WR.litC ty22 Tryd.underlying5 [10] H rfl (by rfl) rfl rfl (Wn.none rfl) rfl (fun _ => Wn.none rfl) rfl ?_
      intro v26 M w H hle hl26
      replace hp := hp.mono hle
      replace hs24 := hs24.mono hle
      try rw [List.drop_zero] at hs24
      refine WR.call H (trimSuffix_spec _ _ (t.take k16) 10) rfl (⟨by assumption, by assumption⟩) (Wn.none rfl) rfl ?_
      intro v27 M w H hle hr27
      replace hp := hp.mono hle
      replace hs24 := hs24.mono hle
      replace hl26 := hl26.mono hle
      have hf27 := hr27
      rw [hch] at hf27
      refine WR.step (Ex.assign rfl) (Wn.none rfl) rfl rfl ?_
      refine WR.nil ?_
      refine WQ.then ?_
      refine WC.seq ?_
      refine WC.seq ?_
      refine WC.region ?_
      refine WR.step (Ex.move rfl) (Wn.none rfl) rfl rfl ?_
      first | refine WR.step (Ex.lenSl Tryd.underlying22 (by assumption) rfl) (Wn.none rfl) rfl rfl ?_ | refine WR.step (Ex.lenRow Tryd.underlying22 H (by repeat (first | exact List.Mem.head _ | apply List.Mem.tail)) rfl) (Wn.none rfl) rfl rfl ?_ | refine WR.step (Ex.lenSlice Tryd.underlying22 rfl) (Wn.none rfl) rfl rfl ?_
      refine WR.step (Ex.move rfl) (Wn.none rfl) rfl rfl ?_
      refine WR.stepT (Ex.lss rfl rfl) (by rw [List.length_take]; omega) (Wn.none rfl) rfl rfl ?_
      refine WR.nil ?_
      refine WQ.then ?_
      refine WC.condT rfl ?_
      refine WC.region ?_
      refine WR.step (Ex.move rfl) (Wn.none rfl) rfl rfl ?_
      refine WR.litC ty22 Tryd.underlying5 [13] H rfl (by rfl) rfl rfl (Wn.none rfl) rfl (fun _ => Wn.none rfl) rfl ?_
      intro v34 M w H hle hl34
      replace hp := hp.mono hle
      replace hs24 := hs24.mono hle
      replace hl26 := hl26.mono hle
      replace hf27 := hf27.mono hle
      refine WR.call H (trimSuffix_spec _ _ (t.take (k16 - 1)) 13) rfl (⟨by assumption, by assumption⟩) (Wn.none rfl) rfl ?_
      intro v35 M w H hle hr35
      replace hp := hp.mono hle
      replace hs24 := hs24.mono hle
      replace hl26 := hl26.mono hle
      replace hf27 := hf27.mono hle
      replace hl34 := hl34.mono hle
      have hf35 := hr35
      refine WR.step (Ex.assign rfl) (Wn.none rfl) rfl rfl ?_
      refine WR.nil ?_
      refine WQ.then ?_
      refine WC.seq ?_
      refine WC.region ?_
      refine WR.step (Ex.move rfl) (Wn.none rfl) rfl rfl ?_
      refine WR.step (Ex.move rfl) (Wn.none rfl) rfl rfl ?_
      first | refine WR.step (Ex.lenSl Tryd.underlying22 (by assumption) rfl) (Wn.none rfl) rfl rfl ?_ | refine WR.step (Ex.lenRow Tryd.underlying22 H (by repeat (first | exact List.Mem.head _ | apply List.Mem.tail)) rfl) (Wn.none rfl) rfl rfl ?_ | refine WR.step (Ex.lenSlice Tryd.underlying22 rfl) (Wn.none rfl) rfl rfl ?_
      refine WR.step (Ex.move rfl) (Wn.none rfl) rfl rfl ?_
      refine WR.sliceSl (i := (chop 13 (t.take (k16 - 1))).length) (j := k16) Tryd.underlying22 Tryd.sizeOf5 (by assumption) rfl (.inl ⟨_, rfl, rfl⟩) (.inl ⟨_, rfl, rfl⟩) (by omega) (by omega) (Wn.none rfl) rfl ?_
      intro v40 hs40
      refine WR.step (Ex.assign rfl) (Wn.none rfl) rfl rfl ?_
      refine WR.nil ?_
      refine WQ.then ?_
      refine WC.seq ?_
      refine WC.region ?_
      refine WR.step (Ex.move rfl) (Wn.none rfl) rfl rfl ?_
      refine WR.call H (trimRight_spec _ (chop 13 (t.take (k16 - 1)))) rfl (by assumption) (Wn.none rfl) rfl ?_
      intro v42 M w H hle hr42
      replace hp := hp.mono hle
      replace hs24 := hs24.mono hle
      replace hl26 := hl26.mono hle
      replace hf27 := hf27.mono hle
      replace hl34 := hl34.mono hle
      replace hf35 := hf35.mono hle
      replace hs40 := hs40.mono hle
      have hf42 := hr42
      refine WR.step (Ex.assign rfl) (Wn.none rfl) rfl rfl ?_
      refine WR.nil ?_
      refine WQ.then ?_
      refine WC.seq ?_
      refine WC.seq ?_
      refine WC.region ?_
      refine WR.step (Ex.move rfl) (Wn.none rfl) rfl rfl ?_
      refine WR.litC ty22 Tryd.underlying5 [61] H rfl (by rfl) rfl rfl (Wn.none rfl) rfl (fun _ => Wn.none rfl) rfl ?_
      intro v45 M w H hle hl45
      replace hp := hp.mono hle
      replace hs24 := hs24.mono hle
      replace hl26 := hl26.mono hle
      replace hf27 := hf27.mono hle
      replace hl34 := hl34.mono hle
      replace hf35 := hf35.mono hle
      replace hs40 := hs40.mono hle
      replace hf42 := hf42.mono hle
      refine WR.callB H (hasSuffix_spec _ _ (trimR (chop 13 (t.take (k16 - 1)))) 61) rfl (⟨by assumption, by assumption⟩) (Wn.none rfl) rfl (fun h13_3 => ?_) (fun h13_3 => ?_)
      ·
        intro M w H hle
        replace hp := hp.mono hle
        replace hs24 := hs24.mono hle
        replace hl26 := hl26.mono hle
        replace hf27 := hf27.mono hle
        replace hl34 := hl34.mono hle
        replace hf35 := hf35.mono hle
        replace hs40 := hs40.mono hle
        replace hf42 := hf42.mono hle
        replace hl45 := hl45.mono hle
        have hpos : 0 < (trimR (chop 13 (t.take (k16 - 1)))).length := by
          rcases Nat.eq_zero_or_pos (trimR (chop 13 (t.take (k16 - 1)))).length with h | h
          · rw [List.eq_nil_of_length_eq_zero h] at h13_3; cases h13_3
          · exact h
        refine WR.nil ?_
        refine WQ.then ?_
        refine WC.condT rfl ?_
        refine WC.region ?_
        refine WR.step (Ex.move rfl) (Wn.none rfl) rfl rfl ?_
        refine WR.step (Ex.move rfl) (Wn.none rfl) rfl rfl ?_
        first | refine WR.step (Ex.lenSl Tryd.underlying22 (by assumption) rfl) (Wn.none rfl) rfl rfl ?_ | refine WR.step (Ex.lenRow Tryd.underlying22 H (by repeat (first | exact List.Mem.head _ | apply List.Mem.tail)) rfl) (Wn.none rfl) rfl rfl ?_ | refine WR.step (Ex.lenSlice Tryd.underlying22 rfl) (Wn.none rfl) rfl rfl ?_
        refine WR.stepE (v' := encN ((trimR (chop 13 (t.take (k16 - 1)))).length - 1)) (Ex.sub64 rfl rfl (by omega)) (congrArg I (by omega)) (Wn.none rfl) rfl rfl ?_
        refine WR.sliceSl (i := 0) (j := (trimR (chop 13 (t.take (k16 - 1)))).length - 1) Tryd.underlying22 Tryd.sizeOf5 (by assumption) rfl (.inr ⟨rfl, rfl⟩) (.inl ⟨_, rfl, rfl⟩) (by omega) (by omega) (Wn.none rfl) rfl ?_
        intro v51 hs51
        refine WR.step (Ex.assign rfl) (Wn.none rfl) rfl rfl ?_
        refine WR.step (Ex.assign rfl) (Wn.none rfl) rfl rfl ?_
        refine WR.nil ?_
        refine WQ.then ?_
        refine WC.seq ?_
        refine WC.region ?_
        refine WR.step (Ex.move rfl) (Wn.none rfl) rfl rfl ?_
        refine WR.step (Ex.move rfl) (Wn.none rfl) rfl rfl ?_
        try rw [List.drop_zero, ← List.dropLast_eq_take] at hs51
        refine WR.call H (plain_spec _ (trimR (chop 13 (t.take (k16 - 1)))).dropLast (by rw [List.length_dropLast]; omega)) rfl (by assumption) (Wn.none rfl) rfl ?_
        intro v54 M w H hle hr54
        replace hp := hp.mono hle
        replace hs24 := hs24.mono hle
        replace hl26 := hl26.mono hle
        replace hf27 := hf27.mono hle
        replace hl34 := hl34.mono hle
        replace hf35 := hf35.mono hle
        replace hs40 := hs40.mono hle
        replace hf42 := hf42.mono hle
        replace hl45 := hl45.mono hle
        replace hs51 := hs51.mono hle
        have hf54 := hr54
        refine WR.appendSl ty22 (fun _ => rfl) H rfl (fun _ => by repeat (first | exact Upd.head | apply Upd.tail)) rfl (by assumption) (by first | omega | (simp only [List.length_append, List.length_cons, List.length_nil, List.length_take, List.length_drop]; omega)) (by first | (simp only [maxLen]; omega) | (simp only [maxLen, List.length_append, List.length_cons, List.length_nil, List.length_take, List.length_drop]; omega)) (Wn.none rfl) rfl ?_
        intro v55 w H
        refine WR.step (Ex.move rfl) (Wn.none rfl) rfl rfl ?_
        have hnilS := Sl.nil M encB
        refine WR.appendSl ty22 (fun _ => rfl) H rfl (fun _ => by repeat (first | exact Upd.head | apply Upd.tail)) rfl (by assumption) (by first | omega | (simp only [List.length_append, List.length_cons, List.length_nil, List.length_take, List.length_drop]; omega)) (by first | (simp only [maxLen]; omega) | (simp only [maxLen, List.length_append, List.length_cons, List.length_nil, List.length_take, List.length_drop]; omega)) (Wn.none rfl) rfl ?_
        intro v57 w H
        refine WR.step (Ex.assign rfl) (Wn.none rfl) rfl rfl ?_
        refine WR.nil ?_
        refine WQ.then ?_
        refine WC.region ?_
        refine WR.step (Ex.move rfl) (Wn.none rfl) rfl rfl ?_
        refine WR.step (Ex.move rfl) (Wn.none rfl) rfl rfl ?_
        refine WR.sliceSl (i := k16) (j := t.length) Tryd.underlying22 Tryd.sizeOf5 (by assumption) rfl (.inl ⟨_, rfl, rfl⟩) (.inr ⟨rfl, rfl⟩) (by omega) (by omega) (Wn.none rfl) rfl ?_
        intro v60 hs60
        refine WR.step (Ex.assign rfl) (Wn.none rfl) rfl rfl ?_
        refine WR.nil ?_
        refine WQ.inBlock ?_
        refine WQ.again4 (t.drop k16) (v60) (v57) (o ++ plain (trimR (chop 13 (t.take (k16 - 1)))).dropLast ++ []) ⟨rfl, rfl, rfl, trivial⟩ ?_ ?_
        · exact ⟨by simp only [List.length_append, List.length_drop, List.length_nil]; omega, by rw [hlen, lenient_cons hne, hnl, one_soft hB h13_3]; simp, M, H, by rw [List.take_length] at hs60; exact hs60⟩
        · rw [List.length_drop]; omega
      ·
        intro M w H hle
        replace hp := hp.mono hle
        replace hs24 := hs24.mono hle
        replace hl26 := hl26.mono hle
        replace hf27 := hf27.mono hle
        replace hl34 := hl34.mono hle
        replace hf35 := hf35.mono hle
        replace hs40 := hs40.mono hle
        replace hf42 := hf42.mono hle
        replace hl45 := hl45.mono hle
        refine WR.nil ?_
        refine WQ.then ?_
        refine WC.condF rfl ?_
        refine WC.skip ?_
        refine WQ.then ?_
        refine WC.seq ?_
        refine WC.region ?_
        refine WR.step (Ex.move rfl) (Wn.none rfl) rfl rfl ?_
        refine WR.step (Ex.move rfl) (Wn.none rfl) rfl rfl ?_
        try rw [List.drop_zero, ← List.dropLast_eq_take] at hs51
        refine WR.call H (plain_spec _ (trimR (chop 13 (t.take (k16 - 1)))) (by omega)) rfl (by assumption) (Wn.none rfl) rfl ?_
        intro v54 M w H hle hr54
        replace hp := hp.mono hle
        replace hs24 := hs24.mono hle
        replace hl26 := hl26.mono hle
        replace hf27 := hf27.mono hle
        replace hl34 := hl34.mono hle
        replace hf35 := hf35.mono hle
        replace hs40 := hs40.mono hle
        replace hf42 := hf42.mono hle
        replace hl45 := hl45.mono hle
        have hf54 := hr54
        refine WR.appendSl ty22 (fun _ => rfl) H rfl (fun _ => by repeat (first | exact Upd.head | apply Upd.tail)) rfl (by assumption) (by first | omega | (simp only [List.length_append, List.length_cons, List.length_nil, List.length_take, List.length_drop]; omega)) (by first | (simp only [maxLen]; omega) | (simp only [maxLen, List.length_append, List.length_cons, List.length_nil, List.length_take, List.length_drop]; omega)) (Wn.none rfl) rfl ?_
        intro v55 w H
        refine WR.step (Ex.move rfl) (Wn.none rfl) rfl rfl ?_
        have hnilS := Sl.nil M encB
        refine WR.appendSl ty22 (fun _ => rfl) H rfl (fun _ => by repeat (first | exact Upd.head | apply Upd.tail)) rfl (by assumption) (by first | omega | (simp only [List.length_append, List.length_cons, List.length_nil, List.length_take, List.length_drop]; omega)) (by first | (simp only [maxLen]; omega) | (simp only [maxLen, List.length_append, List.length_cons, List.length_nil, List.length_take, List.length_drop]; omega)) (Wn.none rfl) rfl ?_
        intro v57 w H
        refine WR.step (Ex.assign rfl) (Wn.none rfl) rfl rfl ?_
        refine WR.nil ?_
        refine WQ.then ?_
        refine WC.region ?_
        refine WR.step (Ex.move rfl) (Wn.none rfl) rfl rfl ?_
        refine WR.step (Ex.move rfl) (Wn.none rfl) rfl rfl ?_
        refine WR.sliceSl (i := k16) (j := t.length) Tryd.underlying22 Tryd.sizeOf5 (by assumption) rfl (.inl ⟨_, rfl, rfl⟩) (.inr ⟨rfl, rfl⟩) (by omega) (by omega) (Wn.none rfl) rfl ?_
        intro v60 hs60
        refine WR.step (Ex.assign rfl) (Wn.none rfl) rfl rfl ?_
        refine WR.nil ?_
        refine WQ.inBlock ?_
        refine WQ.again4 (t.drop k16) (v60) (v57) (o ++ plain (trimR (chop 13 (t.take (k16 - 1)))) ++ (t.take k16).drop (chop 13 (t.take (k16 - 1))).length) ⟨rfl, rfl, rfl, trivial⟩ ?_ ?_
        · exact ⟨by simp only [List.length_append, List.length_drop, List.length_take]; omega, by rw [hlen, lenient_cons hne, hnl, one_hard hB h13_3]; simp, M, H, by rw [List.take_length] at hs60; exact hs60⟩
        · rw [List.length_drop]; omega
  ·
    have hend : lenient l = o := by rw [hlen, List.eq_nil_of_length_eq_zero (show t.length = 0 by omega), lenient_nil, List.append_nil]
    refine WR.nil ?_
    refine WQ.then ?_
    refine WC.condF rfl ?_
    refine WC.exit ?_
    refine WQ.thenExit ?_
    refine WQ.thenExit ?_
    refine WQ.exitHere ?_
    refine WQ.then ?_
    refine WC.seq ?_
    refine WC.region ?_
    refine WR.step (Ex.move rfl) (Wn.none rfl) rfl rfl ?_
    refine WR.call H (none_spec) rfl (trivial) (Wn.none rfl) rfl ?_
    intro v62 M w H hle hr62
    replace hp := hp.mono hle
    obtain rfl := hr62
    refine WR.step (Ex.assign rfl) (Wn.none rfl) rfl rfl ?_
    refine WR.store [_, _] H rfl rfl rfl (by repeat (first | exact Upd.head | apply Upd.tail)) Tryd.sizeOf25 rfl (by rfl) (by rfl) (Wn.none rfl) ?_
    intro w H
    refine WR.nil ?_
    refine WQ.then ?_
    refine WC.ret ?_
    (repeat (first | refine WQ.thenRet ?_ | refine WQ.inBlockRet ?_))
    obtain ⟨M, hle, hf, H⟩ := H.freezeRow (v := ov) (enc := encB) (t := 5) (by repeat (first | exact Rem.head | apply Rem.tail))
    refine WQ.ret2 rfl rfl ⟨_, rfl, H.loadAgg (by repeat (first | exact List.Mem.head _ | apply List.Mem.tail)) Tryd.isAgg25 Tryd.sizeOf25 (by rfl)⟩ H.ext ?_
    refine ⟨_, rfl, ?_⟩
    rw [hend]
    exact hf

end Go.Proofs.YtolmifddbjdepaaDoor
