/-
  Low, Cl, Rpl, Once, B64Plain, Wpf, Wpg, Hpf, Lp, Qp, Fd, Hfo, B64Law, Wa, Wb, Wc, Wd, We, Ha, Hb, Wf, Hc, Hd, He, Hg, Hw, Hi: own texts of this repository (wip/tpl, wip/plans), merged and shaken by wip/tools/pack.py.
-/
import Derived.KernelRfl
import Derived.Lib.LazyBuf
import Derived.Test.YtogkmhjnojphiaaGreatDoorProg
import Derived.Tactics
import Derived.Tactics2
import Derived.Defers
import Derived.Laws.Pointers
import Derived.Laws.LoneSync
import Derived.RegionTactic
import Derived.RegionCalls
import Derived.ChangeAlike
import Derived.Lib.CountLaws
import Derived.Test.YtogkmhjnojphiaaGreatDoorE6a
set_option maxRecDepth 100000
section
set_option linter.unusedVariables false
set_option linter.unusedSimpArgs false
namespace Go.Proofs.YtogkmhjnojphiaaGreatDoor
open Go Go.RowKit Go.Ph
open Go.Ph.Gr Go.Ph.Utf Go.Ph.Chs
theorem low_at {l : List UInt8} {k : Nat} {u : UInt8} (h : l[k]? = some u) : (lower (l.take k) ++ l.drop k)[k]? = some u := by
  have hk := (List.getElem?_eq_some_iff.1 h).1
  rw [List.getElem?_append_right (by rw [lower_len, List.length_take]; omega), lower_len, List.length_take, show k - min k l.length = 0 by omega, List.getElem?_drop, Nat.add_zero]; exact h
theorem low_next {l : List UInt8} {k : Nat} {u : UInt8} (h : l[k]? = some u) : lower (l.take (k + 1)) ++ l.drop (k + 1) = lower (l.take k) ++ lowB u :: l.drop (k + 1) := by
  obtain ⟨hk, hu⟩ := List.getElem?_eq_some_iff.1 h
  rw [List.take_succ_eq_append_getElem hk, hu]; simp [lower]
theorem low_step {l : List UInt8} {k : Nat} {u : UInt8} (h : l[k]? = some u) : (lower (l.take k) ++ l.drop k).set k (lowB u) = lower (l.take (k + 1)) ++ l.drop (k + 1) := by
  obtain ⟨hk, hu⟩ := List.getElem?_eq_some_iff.1 h
  have hl : (lower (l.take k)).length = k := by rw [lower_len, List.length_take]; omega
  rw [low_next h, List.set_append_right _ _ (by omega), hl, Nat.sub_self, List.drop_eq_getElem_cons hk]; rfl
theorem low_keep {l : List UInt8} {k : Nat} {u : UInt8} (h : l[k]? = some u) (hn : ¬ (65 ≤ u.toNat ∧ u.toNat ≤ 90)) : lower (l.take k) ++ l.drop k = lower (l.take (k + 1)) ++ l.drop (k + 1) := by
  obtain ⟨hk, hu⟩ := List.getElem?_eq_some_iff.1 h
  rw [low_next h, List.drop_eq_getElem_cons hk, hu, lowB, if_neg hn]
theorem lowB_enc {u : UInt8} (h : 65 ≤ u.toNat ∧ u.toNat ≤ 90) : encB (lowB u) = .int .u8 ((u.toNat : Int) + 32) := by
  unfold lowB; rw [if_pos h]
  have h1 : (u + 32).toNat = u.toNat + 32 := by rw [UInt8.toNat_add]; show (u.toNat + 32) % 256 = _; omega
  show Value.int .u8 (((u + 32).toNat : Nat) : Int) = _
  rw [h1]; rfl
theorem lower_spec (l : List UInt8) (hs : l.length ≤ maxLen) : Ct Tryz.prog 116 [S l] (fun _ => True) (fun r _ => r = S (lower l)) := by
  refine Ct.of Tryz.func116 (enters Tryz.func116 (by kernel_rfl) rfl) rfl rfl rfl ?_
  intro w0 M0 H hp
  simp only [maxLen] at hs
  refine SQ (RG (AS rfl rfl (NL (TN (SQ (RG (MV rfl rfl (WR.toBytes H Tryz.underlying9 Tryz.underlying30 Tryz.underlying5 rfl (by simp only [maxLen]; omega) (Wn.none rfl) rfl ?_))))))))
  intro g7 c7 w hc7 hm7 H
  refine AS rfl rfl (NL (TN (SQ (SQ (RG (MV rfl rfl ?_))))))
  first | refine WR.step (Ex.lenSl Tryz.underlying30 (by assumption) rfl) (Wn.none rfl) rfl rfl ?_ | refine WR.step (Ex.lenRow Tryz.underlying30 H (by repeat (first | exact List.Mem.head _ | apply List.Mem.tail)) rfl) (Wn.none rfl) rfl rfl ?_ | refine WR.step (Ex.lenSlice Tryz.underlying30 rfl) (Wn.none rfl) rfl rfl ?_
  refine MV rfl rfl (NL (TN (BL (WC.loop2 (fun (k : Nat) (m : List UInt8) => [(3, .slice (some ⟨g7, 0, none⟩) l.length c7), (8, .slice (some ⟨g7, 0, none⟩) l.length c7), (9, I (l.length : Int)), (10, encN k)]) (fun (k : Nat) (m : List UInt8) w => k ≤ l.length ∧ m.length = l.length ∧ m = lower (l.take k) ++ l.drop k ∧ ∃ M, St w0 M0 M [SRow g7 c7 5 m] w) (fun (k : Nat) (m : List UInt8) => l.length - k) (0) (l) ⟨rfl, rfl, rfl, rfl, trivial⟩ (⟨by omega, rfl, by simp [lower], M0, H⟩) ?_))))
  intro k m w
  rintro ⟨hk, hml, hm, M, H⟩
  refine SQ (RG ?_)
  refine WR.split (Ex.lss rfl rfl) (Wn.none rfl) rfl rfl (fun h3_0 => ?_) (fun h3_0 => ?_)
  · obtain ⟨u, hlu⟩ : ∃ u, l[k]? = some u := ⟨_, List.getElem?_eq_getElem (by omega)⟩
    have hcu : m[k]? = some u := by rw [hm]; exact low_at hlu
    have hult := u.toNat_lt
    refine NL (TN (SQ (CT rfl (SK (TN (SQ (BL (SQ (RG (MV rfl rfl (ST (Ex.idxS Tryz.underlying30 Tryz.sizeOf5 rfl rfl (by omega)) rfl ?_)))))))))))
    refine ST (Ex.loadS H rfl (by repeat (first | exact List.Mem.head _ | apply List.Mem.tail)) hcu Tryz.isAgg5) rfl ?_
    refine AS rfl rfl (AS rfl rfl (NL (TN (SQ (RG (MV rfl rfl ?_))))))
    refine WR.split (Ex.geq rfl rfl) (Wn.none rfl) rfl rfl (fun h5_1 => ?_) (fun h5_1 => ?_)
    · refine MV rfl rfl (SG (Ex.move rfl) rfl rfl rfl ?_)
      refine WR.split (Ex.leq rfl rfl) (Wn.some rfl rfl rfl) rfl rfl (fun h5_4 => ?_) (fun h5_4 => ?_)
      · refine PT rfl rfl rfl (NL (TN (CT rfl (RG (MV rfl rfl (MV rfl rfl (MV rfl rfl (ST (Ex.addW rfl rfl (u8_in (by omega))) rfl ?_))))))))
        refine WR.stepE (v' := encB (lowB u)) (Ex.subW rfl rfl (u8_in (by omega))) (by rw [lowB_enc (by omega)]; exact congrArg (Value.int .u8) (by omega)) (Wn.none rfl) rfl rfl ?_
        refine ST (Ex.idxS Tryz.underlying30 Tryz.sizeOf5 rfl rfl (by omega)) rfl ?_
        refine WR.storeS (c := lowB u) H rfl rfl (by repeat first | exact .head | apply Upd.tail) (by omega) (by omega) Tryz.sizeOf5 (Wn.none rfl) ?_
        intro w H
        refine NL (IB (TN (RG (ST (Ex.add64 rfl rfl (by omega)) rfl ?_))))
        refine MV rfl rfl (NL ?_)
        refine WQ.again2 (k + 1) (m.set k (lowB u)) ⟨rfl, rfl, rfl, rfl, trivial⟩ ?_ ?_
        · refine ⟨by omega, by rw [List.length_set]; exact hml, ?_, M, H⟩
          rw [hm]; exact low_step hlu
        · omega
      · refine PT rfl rfl rfl (NL (TN (CF rfl (SK (IB (TN (RG (ST (Ex.add64 rfl rfl (by omega)) rfl ?_))))))))
        refine MV rfl rfl (NL ?_)
        refine WQ.again2 (k + 1) (m) ⟨rfl, rfl, rfl, rfl, trivial⟩ ?_ ?_
        · refine ⟨by omega, hml, ?_, M, H⟩
          rw [hm]; exact low_keep hlu (by omega)
        · omega
    · refine MV rfl rfl (GF rfl rfl rfl (GF rfl rfl rfl (PF rfl rfl rfl (NL (TN (CF rfl (SK (IB (TN (RG (ST (Ex.add64 rfl rfl (by omega)) rfl ?_)))))))))))
      refine MV rfl rfl (NL ?_)
      refine WQ.again2 (k + 1) (m) ⟨rfl, rfl, rfl, rfl, trivial⟩ ?_ ?_
      · refine ⟨by omega, hml, ?_, M, H⟩
        rw [hm]; exact low_keep hlu (by omega)
      · omega
  · refine NL (TN (SQ (CF rfl (WC.exit (WQ.thenExit (WQ.thenExit (WQ.exitHere (TN (SQ (RG (MV rfl rfl (ST (Ex.toStrS Tryz.underlying30 Tryz.underlying5 Tryz.underlying9 H (by repeat (first | exact List.Mem.head _ | apply List.Mem.tail)) hml.symm rfl) rfl ?_))))))))))))
    refine AS rfl rfl (NL (TN (RT ?_)))
    refine WQ.ret1 rfl rfl H.ext ?_
    exact by rw [hm, List.take_of_length_le (by omega), List.drop_eq_nil_of_le (by omega), List.append_nil]
theorem rlower_spec (l : List UInt8) (hs : l.length ≤ maxLen) : Ct Tryz.prog 72 [S l] (fun _ => True) (fun r _ => r = S (lower l)) := by
  refine Ct.of Tryz.func72 (enters Tryz.func72 (by kernel_rfl) rfl) rfl rfl rfl ?_
  intro w0 M0 H hp
  simp only [maxLen] at hs
  refine SQ (RG (AS rfl rfl (NL (TN (SQ (RG (MV rfl rfl (WR.toBytes H Tryz.underlying9 Tryz.underlying30 Tryz.underlying5 rfl (by simp only [maxLen]; omega) (Wn.none rfl) rfl ?_))))))))
  intro g6 c6 w hc6 hm6 H
  refine AS rfl rfl (NL (TN (SQ (SQ (RG (AS rfl rfl (NL (TN (BL (WC.loop2 (fun (k : Nat) (m : List UInt8) => [(3, .slice (some ⟨g6, 0, none⟩) l.length c6), (4, encN k)]) (fun (k : Nat) (m : List UInt8) w => k ≤ l.length ∧ m.length = l.length ∧ m = lower (l.take k) ++ l.drop k ∧ ∃ M, St w0 M0 M [SRow g6 c6 5 m] w) (fun (k : Nat) (m : List UInt8) => l.length - k) (0) (l) ⟨rfl, rfl, trivial⟩ (⟨by omega, rfl, by simp [lower], M0, H⟩) ?_))))))))))
  intro k m w
  rintro ⟨hk, hml, hm, M, H⟩
  refine SQ (SQ (RG (MV rfl rfl (MV rfl rfl ?_))))
  first | refine WR.step (Ex.lenSl Tryz.underlying30 (by assumption) rfl) (Wn.none rfl) rfl rfl ?_ | refine WR.step (Ex.lenRow Tryz.underlying30 H (by repeat (first | exact List.Mem.head _ | apply List.Mem.tail)) rfl) (Wn.none rfl) rfl rfl ?_ | refine WR.step (Ex.lenSlice Tryz.underlying30 rfl) (Wn.none rfl) rfl rfl ?_
  refine WR.split (Ex.lss rfl rfl) (Wn.none rfl) rfl rfl (fun h3_3 => ?_) (fun h3_3 => ?_)
  · obtain ⟨u, hlu⟩ : ∃ u, l[k]? = some u := ⟨_, List.getElem?_eq_getElem (by omega)⟩
    have hcu : m[k]? = some u := by rw [hm]; exact low_at hlu
    have hult := u.toNat_lt
    refine NL (TN (CT rfl (SK (TN (SQ (BL (SQ (RG (MV rfl rfl (MV rfl rfl (ST (Ex.idxS Tryz.underlying30 Tryz.sizeOf5 rfl rfl (by omega)) rfl ?_)))))))))))
    refine ST (Ex.loadS H rfl (by repeat (first | exact List.Mem.head _ | apply List.Mem.tail)) hcu Tryz.isAgg5) rfl ?_
    first | refine WR.step (Ex.convB Tryz.underlying5 Tryz.underlying3 rfl) (Wn.none rfl) rfl rfl ?_ | refine WR.step (Ex.convI Tryz.underlying5 Tryz.underlying3 rfl (by omega)) (Wn.none rfl) rfl rfl ?_
    by_cases h5_5 : (65 : Int) ≤ (u.toNat : Int) ∧ (u.toNat : Int) ≤ 90
    · refine WR.call H (Ct.mono (in_spec _ _ _) (R' := fun r _ => r = .bool true) (fun _ _ h => h.trans (congrArg Value.bool (decide_eq_true h5_5)))) rfl (trivial) (Wn.none rfl) rfl ?_
      intro v18 M w H hle hr18
      obtain rfl := hr18
      refine NL (TN (CT rfl (RG (MV rfl rfl (MV rfl rfl (MV rfl rfl (MV rfl rfl (ST (Ex.idxS Tryz.underlying30 Tryz.sizeOf5 rfl rfl (by omega)) rfl ?_))))))))
      refine ST (Ex.loadS H rfl (by repeat (first | exact List.Mem.head _ | apply List.Mem.tail)) hcu Tryz.isAgg5) rfl ?_
      refine WR.stepE (v' := encB (lowB u)) (Ex.addW rfl rfl (u8_in (by omega))) (by rw [lowB_enc (by omega)]) (Wn.none rfl) rfl rfl ?_
      refine ST (Ex.idxS Tryz.underlying30 Tryz.sizeOf5 rfl rfl (by omega)) rfl ?_
      refine WR.storeS (c := lowB u) H rfl rfl (by repeat first | exact .head | apply Upd.tail) (by omega) (by omega) Tryz.sizeOf5 (Wn.none rfl) ?_
      intro w H
      refine NL (IB (TN (RG (MV rfl rfl (ST (Ex.add64 rfl rfl (by omega)) rfl ?_)))))
      refine AS rfl rfl (NL ?_)
      refine WQ.again2 (k + 1) (m.set k (lowB u)) ⟨rfl, rfl, trivial⟩ ?_ ?_
      · refine ⟨by omega, by rw [List.length_set]; exact hml, ?_, M, H⟩
        rw [hm]; exact low_step hlu
      · omega
    · refine WR.call H (Ct.mono (in_spec _ _ _) (R' := fun r _ => r = .bool false) (fun _ _ h => h.trans (congrArg Value.bool (decide_eq_false h5_5)))) rfl (trivial) (Wn.none rfl) rfl ?_
      intro v18 M w H hle hr18
      obtain rfl := hr18
      refine NL (TN (CF rfl (SK (IB (TN (RG (MV rfl rfl (ST (Ex.add64 rfl rfl (by omega)) rfl ?_))))))))
      refine AS rfl rfl (NL ?_)
      refine WQ.again2 (k + 1) (m) ⟨rfl, rfl, trivial⟩ ?_ ?_
      · refine ⟨by omega, hml, ?_, M, H⟩
        rw [hm]; exact low_keep hlu (by omega)
      · omega
  · refine NL (TN (CF rfl (WC.exit (WQ.thenExit (WQ.thenExit (WQ.exitHere (TN (SQ (RG (MV rfl rfl (ST (Ex.toStrS Tryz.underlying30 Tryz.underlying5 Tryz.underlying9 H (by repeat (first | exact List.Mem.head _ | apply List.Mem.tail)) hml.symm rfl) rfl ?_)))))))))))
    refine AS rfl rfl (NL (TN (RT ?_)))
    refine WQ.ret1 rfl rfl H.ext ?_
    exact by rw [hm, List.take_of_length_le (by omega), List.drop_eq_nil_of_le (by omega), List.append_nil]
theorem lower_ne {a b : List UInt8} (h : a.length ≠ b.length) : ¬ lower a = lower b := fun e => h (by rw [← lower_len a, e, lower_len])
def same (name x : List UInt8) : Bool := decide (lower x = lower name)
theorem same_spec (a b : List UInt8) (ha : a.length ≤ maxLen) (hb : b.length ≤ maxLen) : Ct Tryz.prog 68 [S a, S b] (fun _ => True) (fun r _ => r = .bool (decide (lower a = lower b))) := by
  refine Ct.of Tryz.func68 (enters Tryz.func68 (by kernel_rfl) rfl) rfl rfl rfl ?_
  intro w0 M0 H hp
  refine SQ (RG (AS rfl rfl (NL (TN (SQ (RG (MV rfl rfl (ST (Ex.lenStr Tryz.underlying9 rfl) rfl (MV rfl rfl (ST (Ex.lenStr Tryz.underlying9 rfl) rfl ?_))))))))))
  refine WR.split (Ex.eql rfl rfl) (Wn.none rfl) rfl rfl (fun h1_4 => ?_) (fun h1_4 => ?_)
  · refine MV rfl rfl (SG (Ex.move rfl) rfl rfl rfl (WR.call H (lower_spec _ ha) rfl (trivial) (Wn.some rfl rfl rfl) rfl ?_))
    intro v12 M w H hle hr12
    obtain rfl := hr12
    refine SG (Ex.move rfl) rfl rfl rfl (WR.call H (lower_spec _ hb) rfl (trivial) (Wn.some rfl rfl rfl) rfl ?_)
    intro v14 M w H hle hr14
    obtain rfl := hr14
    refine SG (Ex.strEql rfl rfl) rfl rfl rfl (PT rfl rfl rfl (AS rfl rfl (NL (TN (RT ?_)))))
    refine WQ.ret1 rfl rfl H.ext ?_
    exact rfl
  · refine MV rfl rfl (GF rfl rfl rfl (GF rfl rfl rfl (GF rfl rfl rfl (GF rfl rfl rfl (GF rfl rfl rfl (PF rfl rfl rfl (AS rfl rfl (NL (TN (RT ?_))))))))))
    refine WQ.ret1 rfl rfl H.ext ?_
    exact (congrArg Value.bool (decide_eq_false (lower_ne (by omega))).symm)
theorem alike_spec (a b : List UInt8) (ha : a.length ≤ maxLen) (hb : b.length ≤ maxLen) : Ct Tryz.prog 31 [S a, S b] (fun _ => True) (fun r _ => r = .bool (decide (lower a = lower b))) := by
  refine Ct.of Tryz.func31 (enters Tryz.func31 (by kernel_rfl) rfl) rfl rfl rfl ?_
  intro w0 M0 H hp
  refine SQ (RG (AS rfl rfl (NL (TN (SQ (RG (MV rfl rfl (WR.call H (rlower_spec _ ha) rfl (trivial) (Wn.none rfl) rfl ?_))))))))
  intro v6 M w H hle hr6
  obtain rfl := hr6
  refine MV rfl rfl (WR.call H (rlower_spec _ hb) rfl (trivial) (Wn.none rfl) rfl ?_)
  intro v8 M w H hle hr8
  obtain rfl := hr8
  refine ST (Ex.strEql rfl rfl) rfl (AS rfl rfl (NL (TN (RT ?_))))
  refine WQ.ret1 rfl rfl H.ext ?_
  exact rfl
end Go.Proofs.YtogkmhjnojphiaaGreatDoor
end
section
set_option linter.unusedVariables false
set_option linter.unusedSimpArgs false
namespace Go.Ph
open Go Go.RowKit Pl
section
variable {C : Nat → Prop} {r : Option Nat} {P : Program} {ops : Array Oper} {Q : Exit → Act → World → Prop} {n : Nat} {D : List Deferred} {rest : List Oper} {e : Env} {w0 w : World} {M0 M : Mem} {L L' : List Item} {d : Nat} {v z : Value}
  {x y : Operand} {ty t ts tt : TypeId} {pos : String} {af : Array Edge} {g : Option (Nat × Bool)} {α : Type} {enc : α → List Value} {kk bytes : Nat} {l : List α} {M : Mem}
theorem WR.litE (T : ElemTy P ts t z kk bytes) (enc : α → List Value) (H : StX C w0 M0 M L w)
    (hw : Wn ops n D e ⟨some d, .buildSlice ts 0 #[], ty, pos, af, g⟩) (hn : Nat.blt d n = true)
    (k : ∀ v w', StX C w0 M0 M (RowS t kk enc v ([] : List α) :: L) w' → WR r P ops Q n D rest ((d, v) :: e) w') :
    WR r P ops Q n D (⟨some d, .buildSlice ts 0 #[], ty, pos, af, g⟩ :: rest) e w := by
  obtain ⟨i, hi, hz, hsz, _⟩ := T.info
  have hs : (sizeOf t).run P w = .ok kk w := by simp [sizeOf, typeInfo, hi, hsz]
  have hrun : (Instr.buildSlice ts 0 #[]).run P w = .ok (.slice (some ⟨w.heap.size, 0, none⟩) 0 0) (w.alloc (.cells #[] t)) := by
    simp only [Instr.buildSlice, Sem.run_bind, run_underlying T.under, Result.andThen_ok, hs]
    rw [if_neg (by simp)]
    rw [if_pos (by simp)]
    simp only [Sem.run_bind, Sem.run_pure, Result.andThen_ok, Nat.zero_mul]
    rw [show Array.range 0 = #[] by simp, Array.map_empty]
    rfl
  refine WR.step (w' := w.alloc (.cells #[] t)) (v := .slice (some ⟨w.heap.size, 0, none⟩) 0 0) ⟨nofun, fun ρ hf => ?_⟩ hw rfl hn (k _ _ (H.new (it := RowS t kk enc (.slice (some ⟨w.heap.size, 0, none⟩) 0 0) ([] : List α)) (grownBy_alloc' w _) ?_ (fun b hb => by cases hb; exact Nat.le_refl _)))
  · simp only [execOp, Sem.run_bind, Array.map_empty, List.map_toArray, hrun, Result.andThen_ok, Sem.run_pure]
    first | done | simp [hrun]
  · exact ⟨by simp, .inr ⟨w.heap.size, 0, #[], rfl, Nat.zero_le _, heap_alloc_new w _, by simp, by simp, by simp, by simp⟩⟩
theorem Ex.eqlNilS {a : Option Addr} {nn c : Nat} {t' : TypeId} {dst : Option Tmp} (ht : P.underlying t = some (.slice t')) (hx : ev e x = some (.slice a nn c)) : Ex P ⟨dst, .binOp .eql t x (.const (.slice none 0 0)) tt, ty, pos, af, g⟩ e w (.bool a.isNone) w :=
  ⟨nofun, fun ρ hf => by
    have h2 : ρ (.const (.slice none 0 0)) = .slice none 0 0 := hf _ _ rfl
    simp [execOp, hf _ _ hx, h2, eqGuard, Go.run_eql_slice_nil w t t' a nn c ht]⟩
theorem SlS.nilOr {M : Mem} (h : SlS M kk enc v l) : (v = .slice none 0 0 ∧ l = []) ∨ ∃ a c, v = .slice (some a) l.length c := by
  obtain ⟨_, A, c, rfl, h1, h2, _⟩ := h
  cases A with
  | none =>
    have hc := h2.2 rfl
    have hl : l = [] := List.eq_nil_of_length_eq_zero (by omega)
    subst hl; subst hc
    exact .inl ⟨rfl, rfl⟩
  | some a => exact .inr ⟨a, c, rfl⟩
theorem WR.stepN {o : Oper} {w' : World} (hx : Ex P o e w v w') (hw : Wn ops n D e o) (hd : o.dst = none) (k : WR r P ops Q n D rest e w') : WR r P ops Q n D (o :: rest) e w := by
  intro a ha
  unfold wpListIn
  rw [if_pos (hw a ha)]
  refine ⟨fun _ _ => trivial, ?_⟩
  rw [Oper.semAt_eq _ _ _ hx.1, hx.2 _ ha.fits, Oper.uponIn_value, hd]
  exact k _ ha
theorem zero_len (zc : Array Value) (m : Nat) : (Builtin.zeroCells zc m).toList.length = m * zc.size := by simp [Builtin.zeroCells]
theorem zero_one {zc : Array Value} (h : ∀ u ∈ zc.toList, u.oneCell' = true) (hp : 0 < zc.size) (m : Nat) : ∀ u ∈ (Builtin.zeroCells zc m).toList, u.oneCell' = true := fun u hu => by
  unfold Builtin.zeroCells at hu
  rw [Array.mem_toList_iff] at hu
  obtain ⟨i, _, rfl⟩ := Array.mem_map.1 hu
  have hlt : i % zc.size < zc.size := Nat.mod_lt _ hp
  rw [getElem!_pos zc _ hlt]
  exact h _ (by simp)
theorem WR.clearTail {gb cap i : Nat} {q : List α} {A : Option Addr} (T : ElemTy P ts t z kk bytes) (h1 : ∀ u ∈ z.cells.toList, u.oneCell' = true) (h0 : ∀ x, (enc x).length = kk) (H : StX C w0 M0 M L w) (hi : i ≤ q.length)
    (hu : ∀ it', Upd L (RowS t kk enc (.slice (some ⟨gb, 0, none⟩) q.length cap) q) it' (it' :: L')) (hx : ev e x = some (.slice A (q.length - i) (cap - i))) (hA : i < q.length → A = some ⟨gb, i * kk, none⟩)
    (hw : Wn ops n D e ⟨none, .call ⟨.builtin .clear, #[x], #[ts]⟩, ty, pos, af, g⟩)
    (k : ∀ w', StX C w0 M0 M (RowS t kk enc (.slice (some ⟨gb, 0, none⟩) i cap) (q.take i) :: L') w' → WR r P ops Q n D rest e w') :
    WR r P ops Q n D (⟨none, .call ⟨.builtin .clear, #[x], #[ts]⟩, ty, pos, af, g⟩ :: rest) e w := by
  have hm := (hu (RowS t kk enc (.slice (some ⟨gb, 0, none⟩) q.length cap) q)).mem
  obtain ⟨ti, hti, hz, hsz, _⟩ := T.info
  have hzv : ∀ w, (zeroValue t).run P w = .ok z w := fun w => by simp [zeroValue, typeInfo, hti, hz]
  have hlt : (q.take i).length = i := by rw [List.length_take]; omega
  have hrow := H.rowOf hm
  rcases hrow.2 with ⟨hv, _⟩ | ⟨g', cap', cur, hv, hb0, hg, c1, c3, c2, c4⟩
  · cases hv
  · cases hv
    have hik : i * kk ≤ q.length * kk := Nat.mul_le_mul_right _ hi
    have hqk : q.length * kk ≤ cap * kk := Nat.mul_le_mul_right _ c1
    have htk : (q.flatMap enc).take (i * kk) = (q.take i).flatMap enc := by
      have e1 : q.flatMap enc = (q.take i).flatMap enc ++ (q.drop i).flatMap enc := by rw [← List.flatMap_append, List.take_append_drop]
      rw [e1, List.take_append_of_le_length (by rw [flat_len h0, hlt]; exact Nat.le_refl _), List.take_of_length_le (by rw [flat_len h0, hlt]; exact Nat.le_refl _)]
    by_cases hn0 : i = q.length
    · have hrun : (Builtin.clear_ #[ts] ty #[.slice A 0 (cap - i)]).run P w = .ok (.tuple #[]) w := by
        cases A <;> simp [Builtin.clear_, run_underlying T.under]
      rw [show q.length - i = 0 by omega] at hx
      refine WR.stepN (v := .tuple #[]) (w' := w) ⟨nofun, fun ρ hf => ?_⟩ hw rfl (k _ (H.upd (hu _) (World.grownBy.refl _ _) ?_ (fun b hb => .inl hb)))
      · simp only [execOp, resolve, invoke, builtin, Sem.run_bind, Sem.run_pure, Result.andThen_ok, List.map_toArray, List.map_cons, List.map_nil, hf _ _ hx, hrun]
      · subst hn0
        rw [List.take_length]
        exact hrow
    · have hA := hA (by omega)
      subst hA
      have hzl := zero_len z.cells (q.length - i)
      have hzs : z.cells.size = kk := T.zs
      rw [hzs, Nat.sub_mul] at hzl
      have hst := run_storeCells_at P gb (i * kk) t (Builtin.zeroCells z.cells (q.length - i)).toList 0 cur w hg (by omega) (zero_one h1 (by have := T.pos; omega) _)
      simp only [Nat.add_zero] at hst
      have hrun : (Builtin.clear_ #[ts] ty #[.slice (some ⟨gb, i * kk, none⟩) (q.length - i) (cap - i)]).run P w = .ok (.tuple #[]) (w.setRow gb (cur.toList.take (i * kk) ++ (Builtin.zeroCells z.cells (q.length - i)).toList ++ cur.toList.drop (i * kk + (Builtin.zeroCells z.cells (q.length - i)).toList.length)).toArray) := by
        obtain ⟨m, hm⟩ : ∃ m, q.length - i = m + 1 := ⟨q.length - i - 1, by omega⟩
        rw [hm] at hst ⊢
        simp [Builtin.clear_, run_underlying T.under, hzv, hst]
      obtain ⟨cs, hcs⟩ : ∃ cs, (cur.toList.take (i * kk) ++ (Builtin.zeroCells z.cells (q.length - i)).toList ++ cur.toList.drop (i * kk + (Builtin.zeroCells z.cells (q.length - i)).toList.length)).toArray = cs := ⟨_, rfl⟩
      rw [hcs] at hrun
      refine WR.stepN (v := .tuple #[]) (w' := w.setRow gb cs) ⟨nofun, fun ρ hf => ?_⟩ hw rfl (k _ (H.upd (hu _) (grownBy_setRow w gb cs) ?_ (fun b hb => .inl hb)))
      · simp only [execOp, resolve, invoke, builtin, Sem.run_bind, Sem.run_pure, Result.andThen_ok, List.map_toArray, List.map_cons, List.map_nil, hf _ _ hx, hrun]
      · have hcl : cur.toList.length = cap * kk := by simpa using c2
        subst hcs
        refine ⟨by rw [flat_len h0], .inr ⟨gb, cap, _, by rw [hlt], Nat.zero_le _, setRow_heap w gb cur _ t _ hg, by rw [hlt]; omega, c3, ?_, ?_⟩⟩
        · simp only [List.size_toArray, List.length_append, List.length_take, List.length_drop, Array.length_toList, hzl]
          omega
        · rw [hlt, List.append_assoc, List.take_append_of_le_length (by rw [List.length_take]; omega), List.take_take, Nat.min_self, ← htk, ← c4, List.take_take, Nat.min_eq_left hik]
theorem Ex.sliceRow {A : Option Addr} {nn c i j : Nat} {t' : TypeId} {lo hi : Option Operand} {dst : Option Tmp} (ht : P.underlying t = some (.slice t')) (hz : ∀ w, (sizeOf t').run P w = .ok kk w) (hx : ev e x = some (.slice A nn c)) (hnc : nn ≤ c) (hij : i ≤ j) (hj : j ≤ nn)
    (hlo : (∃ o, lo = some o ∧ ev e o = some (I i)) ∨ (lo = none ∧ i = 0)) (hhi : (∃ o, hi = some o ∧ ev e o = some (I j)) ∨ (hi = none ∧ j = nn)) :
    Ex P ⟨dst, .slice t x lo hi none, ty, pos, af, g⟩ e w (.slice (if c = i then A else A.map (fun a => a.add (i * kk))) (j - i) (c - i)) w :=
  ⟨nofun, fun ρ hfi => by
    have hr := run_slice_partS (P := P) (w := w) (lo := lo.map ρ) (hi := hi.map ρ) ht hz A nn c hnc hij hj
      (by rcases hlo with ⟨o, rfl, ho⟩ | ⟨rfl, h⟩
          · exact .inl (by simp [hfi _ _ ho])
          · exact .inr ⟨rfl, h⟩)
      (by rcases hhi with ⟨o, rfl, ho⟩ | ⟨rfl, h⟩
          · exact .inl (by simp [hfi _ _ ho])
          · exact .inr ⟨rfl, h⟩)
    simp only [execOp, hfi _ _ hx, Option.map_none, Sem.run_bind, hr, Result.andThen_ok, Sem.run_pure]⟩
theorem Ex.clearNil {c : Nat} {t' : TypeId} {dst : Option Tmp} (ht : P.underlying ts = some (.slice t')) (hx : ev e x = some (.slice none 0 c)) : Ex P ⟨dst, .call ⟨.builtin .clear, #[x], #[ts]⟩, ty, pos, af, g⟩ e w (.tuple #[]) w :=
  ⟨nofun, fun ρ hf => by
    have hrun : (Builtin.clear_ #[ts] ty #[.slice none 0 c]).run P w = .ok (.tuple #[]) w := by simp [Builtin.clear_, run_underlying ht]
    simp only [execOp, resolve, invoke, builtin, Sem.run_bind, Sem.run_pure, Result.andThen_ok, List.map_toArray, List.map_cons, List.map_nil, hf _ _ hx, hrun]⟩
end
end Go.Ph
end
section
set_option linter.unusedVariables false
set_option linter.unusedSimpArgs false
namespace Go.Ph
open Go Go.RowKit Pl
section
variable {C : Nat → Prop} {r : Option Nat} {P : Program} {ops : Array Oper} {Q : Exit → Act → World → Prop} {n : Nat} {D : List Deferred} {rest : List Oper} {e : Env} {w0 w : World} {M0 M : Mem} {L L' : List Item} {d : Nat} {v z : Value}
  {x y : Operand} {ty t t' ts tt T : TypeId} {pos : String} {af : Array Edge} {g : Option (Nat × Bool)}
def MethAt (P : Program) (t : TypeId) (v : Value) (name : String) (f : FuncId) (z : Value) : Prop := ∀ w, (method (P.types.size + Made.depth) t v name).run P w = .ok (f, z) w
theorem WR.callI {f : FuncId} {ar : List Operand} {vs : List Value} {tys : Array TypeId} {Pre : Mem → Prop} {R : Value → Mem → Prop} {name : String} (H : StX C w0 M0 M L w) (hs : Ct P f (z :: vs) Pre R) (hm : MethAt P t v name f z) (hx : ev e x = some (.iface t v)) (ha : evs e ar = some vs) (hp : Pre M)
    (hw : Wn ops n D e ⟨some d, .call ⟨.invoke x name, ar.toArray, tys⟩, ty, pos, af, g⟩) (hn : Nat.blt d n = true)
    (k : ∀ v M' w', StX C w0 M0 M' L w' → M.le M' → R v M' → WR r P ops Q n D rest ((d, v) :: e) w') :
    WR r P ops Q n D (⟨some d, .call ⟨.invoke x name, ar.toArray, tys⟩, ty, pos, af, g⟩ :: rest) e w := by
  intro a hsat
  unfold wpListIn
  rw [if_pos (hw a hsat)]
  refine ⟨fun _ _ => trivial, ?_⟩
  rw [Oper.semAt_eq _ _ _ (fun c h => by cases h)]
  have hv : ar.map a.eval = vs := hsat.fits.evs ha
  have hf : a.eval x = .iface t v := hsat.fits _ _ hx
  have hrun : (execOp a.eval ⟨some d, .call ⟨.invoke x name, ar.toArray, tys⟩, ty, pos, af, g⟩).run P w = .ok (.enter f (z :: vs).toArray) w := by
    have h1 : (#[Value.iface t v] ++ ar.toArray.map a.eval)[0]? = some (Value.iface t v) := by simp
    have h2 : (#[Value.iface t v] ++ ar.toArray.map a.eval).extract 1 (#[Value.iface t v] ++ ar.toArray.map a.eval).size = vs.toArray := by
      rw [List.map_toArray, hv]; apply Array.ext'; simp
    simp only [execOp, resolve, hf, Sem.run_bind, Sem.run_pure, Result.andThen_ok, invoke]
    rw [h1, h2]
    have h3 := hm w
    simp only [callMethod, Sem.run_bind, run_program, Result.andThen_ok, h3]
    rw [hs.enters]
    simp
  rw [hrun, Oper.uponIn_enter]
  refine ⟨fun h => (by cases h), callsIn_Wd.2 ((hs.calls w M H.ag hp).mono ?_)⟩
  rintro en w' ⟨rv, M', rfl, hx, hR⟩
  exact k rv M' w' (H.call hx) hx.le hR _ (hsat.put (Nat.le_of_ble_eq_true hn) rv)
theorem StX.setC {b o : Nat} {cs : Array Value} (H : StX C w0 M0 M L w) (hu : Upd L (.blk b (.cells cs T)) (.blk b (.cells (cs.setIfInBounds o v) T)) L') : StX C w0 M0 M L' (w.setCell ⟨b, o, none⟩ v) := by
  have hbk := H.blk hu.mem
  refine H.upd hu ⟨rfl, rfl, rfl, ?_, fun k _ hk => ?_⟩ ?_ (fun b' hb' => .inl hb')
  · simp [World.setCell]
  · simp only [World.setCell, Array.getElem?_modify]
    rw [if_neg]
    intro h; exact hk (by rw [← h]; rfl)
  · show (w.setCell _ _).heap[b]? = _
    simp only [World.setCell, Array.getElem?_modify, hbk, if_true]
    rfl
theorem Ex.makeFuncF {dst : Option Tmp} {f : FuncId} {cs : List Operand} {vs : List Value} (hc : evs e cs = some vs) : Ex P ⟨dst, .makeFunc (.func f) cs.toArray #[], ty, pos, af, g⟩ e w (.func (.func f) vs.toArray #[]) w :=
  ⟨nofun, fun ρ hfi => by simp [execOp, Instr.makeFunc, hfi.evs hc]⟩
theorem Ex.makeIface {dst : Option Tmp} {te : TypeId} (ht : P.underlying t = some (.pointer te)) (hx : ev e x = some v) : Ex P ⟨dst, .makeInterface t x, ty, pos, af, g⟩ e w (.iface t v) w :=
  ⟨nofun, fun ρ hfi => by simp [execOp, hfi _ _ hx, Instr.makeInterface, run_underlying ht]⟩
theorem StX.cellOf {b o : Nat} {cs : Array Value} (H : StX C w0 M0 M L w) (hm : Item.blk b (.cells cs T) ∈ L) (h : cs[o]? = some v) : w.cell? ⟨b, o, none⟩ = some v := by
  rw [Lib.cell_of_heap (H.blk hm)]; exact h
theorem StX.thawOf {b o : Nat} {cs : Array Value} (H : StX C w0 M0 M L w) (hm : Item.blk b (.cells cs T) ∈ L) : w.frozen? ⟨b, o, none⟩ = false := Lib.frozen_of_heap (H.blk hm) o
end
end Go.Ph
end
section
set_option linter.unusedVariables false
set_option linter.unusedSimpArgs false
namespace Go.Proofs.YtogkmhjnojphiaaGreatDoor
open Go
theorem oDisable (w : World) : (callFunc 204 #[]).run Tryz.prog w = .ok (.value (.tuple #[])) w := run_call_mark0 Tryz.func204 (by kernel_rfl) (by kernel_rfl) (by kernel_rfl) .disable (by kernel_rfl) w
theorem oEnable (w : World) : (callFunc 206 #[]).run Tryz.prog w = .ok (.value (.tuple #[])) w := run_call_mark0 Tryz.func206 (by kernel_rfl) (by kernel_rfl) (by kernel_rfl) .enable (by kernel_rfl) w
theorem oAcquire (a : Addr) (w : World) : (callFunc 207 #[.pointer (some a)]).run Tryz.prog w = .ok (.value (.tuple #[])) w := run_call_marked Tryz.func207 (by kernel_rfl) (by kernel_rfl) (by kernel_rfl) .acquire (by kernel_rfl) a w
theorem oRelease (a : Addr) (w : World) : (callFunc 209 #[.pointer (some a)]).run Tryz.prog w = .ok (.value (.tuple #[])) w := run_call_marked Tryz.func209 (by kernel_rfl) (by kernel_rfl) (by kernel_rfl) .releaseMerge (by kernel_rfl) a w
set_option maxRecDepth 100000 in
set_option maxHeartbeats 1600000 in
theorem oStore (a : Addr) (x : Value) (u : FrameMode) (w : World) (hc : w.cell? a = some x) (hz : w.frozen? a = false) :
    CallsD Tryz.prog 176 #[.pointer (some a), .bool true] u w fun e u' w' => u' = u ∧ (e = .returned (.tuple #[]) ∧ w' = w.drew.setCell a (.int .u32 1)) := by
  have hc' : w.drew.cell? a = some x := by go_simp
  have hz' : w.drew.frozen? a = false := by go_simp
  have hst := run_call_store (P := Tryz.prog) Tryz.func197 (by kernel_rfl) (by kernel_rfl) (by kernel_rfl) (by kernel_rfl) (k := .u32) (y := 1) hc' hz'
  go_enter_d Tryz.func176, Tryz.ntmps176
  go_wp2
  go_region_calls
  all_goals (go_end0; exact ⟨rfl, rfl⟩)
set_option maxRecDepth 100000 in
set_option maxHeartbeats 1600000 in
theorem oUnlock (a : Addr) (u : FrameMode) (w : World) (hc : w.cell? a = some (.int .i32 1)) (hz : w.frozen? a = false) :
    CallsD Tryz.prog 175 #[.pointer (some a)] u w fun e u' w' => u' = u ∧ (e = .returned (.tuple #[]) ∧ w' = w.setCell a (.int .i32 0)) := by
  have hd := oDisable
  have he := oEnable
  have hr := oRelease
  have hadd := run_call_add (P := Tryz.prog) Tryz.func210 (by kernel_rfl) (by kernel_rfl) (by kernel_rfl) .i32 (by kernel_rfl) (y := -1) (s := 0) hc hz (by simp [go_sem]; rfl)
  have hcv := run_convert_to_unsafe (P := Tryz.prog) (src := 237) (dst := 171) Tryz.underlying237 Tryz.underlying171 (by kernel_rfl) hc
  go_enter_d Tryz.func175, Tryz.ntmps175
  go_wp2
  go_end0
  go_wp2
  go_end0
  exact ⟨rfl, rfl⟩
set_option maxRecDepth 100000 in
set_option maxHeartbeats 1600000 in
theorem oLock (a : Addr) (w : World) (hc : w.cell? a = some (.int .i32 0)) (hz : w.frozen? a = false) :
    Calls Tryz.prog 174 #[.pointer (some a)] w fun e w' => e = .returned (.tuple #[]) ∧ w' = w.setCell a (.int .i32 1) := by
  have hd := oDisable
  have he := oEnable
  have ha := oAcquire
  have hcas := run_call_cas_hit (P := Tryz.prog) Tryz.func205 (by kernel_rfl) (by kernel_rfl) (by kernel_rfl) .i32 (by kernel_rfl) (y := 1) hc hz
  have hc' : (w.setCell a (.int .i32 1)).cell? a = some (.int .i32 1) := World.cell?_setCell_same w a _ hc
  have hcv := run_convert_to_unsafe (P := Tryz.prog) (src := 237) (dst := 171) Tryz.underlying237 Tryz.underlying171 (by kernel_rfl) hc'
  go_enter Tryz.func174, Tryz.ntmps174
  go_wp2
  first | go_end0 | (simp only [Exit.inBlock, Exit.then]; refine bodyPost_ret (results_none rfl _ _ _) rfl ?_) | refine bodyPost_ret (results_none rfl _ _ _) rfl ?_
  go_wp2
  go_end0
  exact ⟨rfl, rfl⟩
set_option maxRecDepth 100000 in
set_option maxHeartbeats 1600000 in
theorem oSlow (b : Nat) (w : World) (R : World → Prop)
    (h0 : w.cell? ⟨b, 0, none⟩ = some (.int .u32 0)) (h1 : w.cell? ⟨b, 1, none⟩ = some (.int .i32 0)) (f0 : w.frozen? ⟨b, 0, none⟩ = false) (f1 : w.frozen? ⟨b, 1, none⟩ = false)
    (hf : Calls Tryz.prog 114 #[.pointer (some ⟨b, 0, none⟩)] (w.setCell ⟨b, 1, none⟩ (.int .i32 1)) fun e w2 => e = .returned (.tuple #[]) ∧ R w2)
    (hR : ∀ w2, R w2 → w2.cell? ⟨b, 0, none⟩ = some (.int .u32 0) ∧ w2.cell? ⟨b, 1, none⟩ = some (.int .i32 1) ∧ w2.frozen? ⟨b, 0, none⟩ = false ∧ w2.frozen? ⟨b, 1, none⟩ = false) :
    Calls Tryz.prog 149 #[.pointer (some ⟨b, 0, none⟩), .func (.func 114) #[.pointer (some ⟨b, 0, none⟩)] #[]] w fun e w' => e = .returned (.tuple #[]) ∧ ∃ w2, R w2 ∧ w' = ((w2.drew.setCell ⟨b, 0, none⟩ (.int .u32 1)).setCell ⟨b, 1, none⟩ (.int .i32 0)) := by
  have hl := run_call_load (P := Tryz.prog) Tryz.func173 (by kernel_rfl) (by kernel_rfl) (by kernel_rfl) .u32 (by kernel_rfl) (w := w.setCell ⟨b, 1, none⟩ (.int .i32 1)) (a := ⟨b, 0, none⟩) (x := 0) ((World.cell?_setCell_other _ ⟨b, 1, none⟩ ⟨b, 0, none⟩ _ (by simp)).trans h0)
  have hnot : ∀ (x : Bool) (w : World), (Op.unary .not (.bool x)).run Tryz.prog w = .ok (.bool (!x)) w := fun _ _ => rfl
  go_enter_defers Tryz.func149, Tryz.ntmps149
  go_wp2_with (first | (go_at_call 174; refine (oLock ⟨b, 1, none⟩ _ (by go_simp) (by go_simp)).mono ?_; rintro e w' ⟨rfl, rfl⟩) | (go_at_call 148; go_in) | (go_at_call 114; refine hf.mono ?_; rintro e w2 ⟨rfl, hw2⟩))
  obtain ⟨r0, r1, r2, r3⟩ := hR _ hw2
  -- two deferred calls, the last laid first
  refine leaves_cons (f := 176) (args := #[.pointer (some ⟨b, 0, none⟩), .bool true]) (by simp) (by simp [go_sem]) ?_
  refine (oStore ⟨b, 0, none⟩ (.int .u32 0) .returning _ r0 r2).mono ?_
  rintro e u' w'' ⟨rfl, rfl, rfl⟩
  refine leaves_cons (f := 175) (args := #[.pointer (some ⟨b, 1, none⟩)]) (by simp [settle]) (by simp [go_sem]) ?_
  refine (oUnlock ⟨b, 1, none⟩ _ _ ?_ ?_).mono ?_
  · refine (World.cell?_setCell_other _ ⟨b, 0, none⟩ ⟨b, 1, none⟩ _ (by simp)).trans ?_
    rw [World.cell?_drew]; exact r1
  · simp [r3]
  rintro e u' w'' ⟨rfl, rfl, rfl⟩
  simp only [Leaves, settle, results, Tryz.results149]
  exact ⟨_, by simp, rfl, w2, hw2, rfl⟩
set_option maxRecDepth 100000 in
set_option maxHeartbeats 1600000 in
theorem oFirst (b : Nat) (w : World) (R : World → Prop)
    (h0 : w.cell? ⟨b, 0, none⟩ = some (.int .u32 0)) (h1 : w.cell? ⟨b, 1, none⟩ = some (.int .i32 0)) (f0 : w.frozen? ⟨b, 0, none⟩ = false) (f1 : w.frozen? ⟨b, 1, none⟩ = false)
    (hf : Calls Tryz.prog 114 #[.pointer (some ⟨b, 0, none⟩)] (w.setCell ⟨b, 1, none⟩ (.int .i32 1)) fun e w2 => e = .returned (.tuple #[]) ∧ R w2)
    (hR : ∀ w2, R w2 → w2.cell? ⟨b, 0, none⟩ = some (.int .u32 0) ∧ w2.cell? ⟨b, 1, none⟩ = some (.int .i32 1) ∧ w2.frozen? ⟨b, 0, none⟩ = false ∧ w2.frozen? ⟨b, 1, none⟩ = false) :
    Calls Tryz.prog 113 #[.pointer (some ⟨b, 0, none⟩), .func (.func 114) #[.pointer (some ⟨b, 0, none⟩)] #[]] w fun e w' => e = .returned (.tuple #[]) ∧ ∃ w2, R w2 ∧ w' = ((w2.drew.setCell ⟨b, 0, none⟩ (.int .u32 1)).setCell ⟨b, 1, none⟩ (.int .i32 0)) := by
  have hl := run_call_load (P := Tryz.prog) Tryz.func173 (by kernel_rfl) (by kernel_rfl) (by kernel_rfl) .u32 (by kernel_rfl) h0
  have hnot : ∀ (x : Bool) (w : World), (Op.unary .not (.bool x)).run Tryz.prog w = .ok (.bool (!x)) w := fun _ _ => rfl
  go_enter Tryz.func113, Tryz.ntmps113
  go_wp2_with (first | (go_at_call 149; refine (oSlow b _ R h0 h1 f0 f1 hf hR).mono ?_; rintro e w' ⟨rfl, w2, hw2, rfl⟩) | (go_at_call 148; go_in))
  go_end0
  exact ⟨rfl, w2, hw2, rfl⟩
set_option maxRecDepth 100000 in
theorem oAgain (a : Addr) (d : Int) (hd : ¬ d = 0) (fv : Value) (w : World) (h0 : w.cell? a = some (.int .u32 d)) :
    Calls Tryz.prog 113 #[.pointer (some a), fv] w fun e w' => e = .returned (.tuple #[]) ∧ w' = w := by
  have hl := run_call_load (P := Tryz.prog) Tryz.func173 (by kernel_rfl) (by kernel_rfl) (by kernel_rfl) .u32 (by kernel_rfl) h0
  have hnot : ∀ (x : Bool) (w : World), (Op.unary .not (.bool x)).run Tryz.prog w = .ok (.bool (!x)) w := fun _ _ => rfl
  have hd' : (d != 0) = true := by simp [hd]
  go_enter Tryz.func113, Tryz.ntmps113
  go_wp2
  go_end0
  exact ⟨rfl, rfl⟩
end Go.Proofs.YtogkmhjnojphiaaGreatDoor
end
section
set_option linter.unusedVariables false
set_option linter.unusedSimpArgs false
namespace Go.Ph.B64
def alpha : List UInt8 := [65, 66, 67, 68, 69, 70, 71, 72, 73, 74, 75, 76, 77, 78, 79, 80, 81, 82, 83, 84, 85, 86, 87, 88, 89, 90, 97, 98, 99, 100, 101, 102, 103, 104, 105, 106, 107, 108, 109, 110, 111, 112, 113, 114, 115, 116, 117, 118, 119, 120, 121, 122, 48, 49, 50, 51, 52, 53, 54, 55, 56, 57, 43, 47]
theorem alpha_len : alpha.length = 64 := rfl
def idx (c : UInt8) : Nat := alpha.idxOf c
def val64 (c : UInt8) : Int := if idx c < 64 then (idx c : Int) else -1
def bits8 (u : Nat) : List Nat := [u / 128 % 2, u / 64 % 2, u / 32 % 2, u / 16 % 2, u / 8 % 2, u / 4 % 2, u / 2 % 2, u / 1 % 2]
def bits6 (u : Nat) : List Nat := [u / 32 % 2, u / 16 % 2, u / 8 % 2, u / 4 % 2, u / 2 % 2, u / 1 % 2]
def bitsOf (l : List UInt8) : List Nat := l.flatMap fun u => bits8 u.toNat
def sumN (l : List Nat) : Nat := l.foldl (fun n x => 2 * n + x) 0
theorem bits8_len (u : Nat) : (bits8 u).length = 8 := rfl
def padBits (l : List UInt8) : List Nat := bitsOf l ++ List.replicate ((6 - 8 * l.length % 6) % 6) 0
def six (bits : List Nat) (q : Nat) : Nat := sumN ((bits.take (6 * q + 6)).drop (6 * q))
def sext (bits : List Nat) : Nat → List UInt8
  | 0 => []
  | q + 1 => sext bits q ++ (alpha.take (six bits q + 1)).drop (six bits q)
theorem alpha_one (k : Nat) (h : k < 64) : (alpha.take (k + 1)).drop k = [alpha.getD k 0] := by
  have hk : k < alpha.length := by rw [alpha_len]; exact h
  rw [List.take_succ_eq_append_getElem hk, List.drop_append_of_le_length (by rw [List.length_take, alpha_len]; omega), List.drop_eq_nil_of_le (by rw [List.length_take]; omega)]
  simp [List.getD, hk]
def chars64 (l : List UInt8) : List UInt8 :=
  let s := sext (padBits l) ((padBits l).length / 6)
  s ++ List.replicate ((4 - s.length % 4) % 4) 61
def vb (c : UInt8) : List Nat := if val64 c < 0 then [] else bits6 (val64 c).toNat
def upto61 (l : List UInt8) : List UInt8 := l.takeWhile (· != 61)
def lstep (s : List UInt8 × Nat × Nat) (c : UInt8) : List UInt8 × Nat × Nat :=
  if val64 c < 0 then s
  else if s.2.2 + 6 < 8 then (s.1, s.2.1 * 64 + idx c, s.2.2 + 6)
  else (s.1 ++ [UInt8.ofNat ((s.2.1 * 64 + idx c) / 2 ^ (s.2.2 + 6 - 8))], (s.2.1 * 64 + idx c) % 2 ^ (s.2.2 + 6 - 8), s.2.2 + 6 - 8)
def lrun (l : List UInt8) : List UInt8 × Nat × Nat := l.foldl lstep ([], 0, 0)
def lenient (l : List UInt8) : List UInt8 := (lrun (upto61 l)).1
def accN (l : List UInt8) : Nat → Nat
  | 0 => 0
  | i + 1 => accN l i * 256 + (l.getD i 0).toNat
def ch (l : List UInt8) (i : Nat) : UInt8 := if min 3 l.length < i then 61 else alpha.getD (accN l 3 / 2 ^ (18 - 6 * i) % 64) 0
def outp (l : List UInt8) (j : Nat) : List UInt8 := (List.range 4).map fun i => if i < j then ch l i else 0
def grpAt (l : List UInt8) (k : Nat) : List UInt8 := outp (l.drop (3 * k)) 4
def grpsTo (l : List UInt8) (k : Nat) : List (List UInt8) := (List.range k).map (grpAt l)
def grps (l : List UInt8) : List (List UInt8) := grpsTo l ((l.length + 2) / 3)
def encStep (s : List UInt8 × Nat) (g : List UInt8) : List UInt8 × Nat := if s.2 = 76 then (s.1 ++ [13, 10] ++ g, 4) else (s.1 ++ g, s.2 + 4)
def encRun (gs : List (List UInt8)) : List UInt8 × Nat := gs.foldl encStep ([], 0)
def encode (l : List UInt8) : List UInt8 := if 0 < (encRun (grps l)).2 then (encRun (grps l)).1 ++ [13, 10] else (encRun (grps l)).1
theorem grps_len (l : List UInt8) : (grps l).length = (l.length + 2) / 3 := by simp [grps, grpsTo]
theorem grps_all (l : List UInt8) : ∀ g ∈ grps l, g.length = 4 := fun g hg => by
  obtain ⟨k, _, rfl⟩ := List.mem_map.1 hg; rfl
end Go.Ph.B64
end
section
set_option linter.unusedVariables false
namespace Go.Ph.Pf
open Go.Ph.Pl
def basic_Same (p0 : List UInt8) (p1 : List UInt8) : Option Bool :=
  if p0.length ≤ 9223372036854775807 ∧ p1.length ≤ 9223372036854775807 then some (decide (Chs.lower p0 = Chs.lower p1)) else none
def R_Alike (p0 : List UInt8) (p1 : List UInt8) : Option Bool :=
  if p0.length ≤ 9223372036854775807 ∧ p1.length ≤ 9223372036854775807 then some (decide (Chs.lower p0 = Chs.lower p1)) else none
def strings_IndexByte (p0 : List UInt8) (p1 : UInt8) : Option Int :=
  some (ixB p0 p1)
def bytes_IndexByte (p0 : List UInt8) (p1 : UInt8) : Option Int :=
  some (ixB p0 p1)
def stringslite_Index (p0 : List UInt8) (p1 : List UInt8) : Option Int :=
  if p0.length < 4294967281 then some (Lib.index p0 p1) else none
def basic_Fault (p0 : Int) (p1 : Int) : Option (Int × Int) :=
  some (p0, p1)
def basic_None  : Option (Int × Int) :=
  some (0, 0)
def basic_Failed (p0 : (Int × Int)) : Option Bool :=
  some (!decide (p0.1 = (0 : Int)))
def basic_Blank (p0 : UInt8) : Option Bool :=
  ((if p0 = 32 then some true else some (decide (p0 = 9)))).bind fun b3 => some b3
def strings_Builder_WriteString (p0 : List UInt8) (p1 : List UInt8) : Option (Int × Bool × List UInt8) :=
  (app 1 p0 p1).bind fun l2 => some ((p1.length : Int), true, l2)
def R_Blank (p0 : UInt8) : Option Bool :=
  ((if p0 = 32 then some true else some (decide (p0 = 9)))).bind fun b3 => some b3
end Go.Ph.Pf
end
section
set_option linter.unusedVariables false
namespace Go.Ph.Pf
open Go.Ph.Pl
def basic_All_L1 (p0 : List UInt8) (p1 : (UInt8 → Option Bool)) : Nat → Int → Option (Unit ⊕ Bool)
  | 0, _ => none
  | m4 + 1, n3 => (if n3 < (p0.length : Int) then (idx p0 n3).bind fun c6 => (p1 c6).bind fun b7 => (if b7 = true then (chk (n3 + 1)).bind fun n10 => basic_All_L1 p0 p1 m4 n10 else some (.inr false)) else some (.inl ()))
def basic_All (p0 : List UInt8) (p1 : (UInt8 → Option Bool)) : Option Bool :=
  ((basic_All_L1 p0 p1 FU 0 : Option (Unit ⊕ Bool))).bind fun o13 => (match o13 with | .inl _ => some true | .inr r12 => some r12)
def fold_name_1 (p0 : UInt8) : Option Bool :=
  ((if 33 ≤ p0.toNat then (if p0.toNat ≤ 126 then some (!decide (p0 = 58)) else some false) else some false)).bind fun b3 => some b3
def fold_name (p0 : List UInt8) : Option Bool :=
  ((if p0 = [] then some false else (if (p0.length : Int) ≤ (60 : Int) then (basic_All p0 fold_name_1).bind fun b6 => some b6 else some false))).bind fun b3 => some b3
def utf8_ValidRune (p0 : Int) : Option Bool :=
  ((if (0 : Int) ≤ p0 then some (decide (p0 < (55296 : Int))) else some false)).bind fun b3 => (if b3 = true then some true else ((if (57343 : Int) < p0 then some (decide (p0 ≤ (1114111 : Int))) else some false)).bind fun b9 => (if b9 = true then some true else some false))
def strings_IndexRune_L1 (p0 : List UInt8) : Nat → Nat → Option (Unit ⊕ Int)
  | 0, _ => none
  | m13 + 1, ps12 => (if ps12 < p0.length then (if ((Utf.dr (p0.drop ps12)).1 : Int) = (65533 : Int) then some (.inr (ps12 : Int)) else strings_IndexRune_L1 p0 m13 (ps12 + (Utf.dr (p0.drop ps12)).2)) else some (.inl ()))
def strings_IndexRune_L3 (p0 : List UInt8) (p1 : Int) (n22 : Int) (n32 : Int) : Nat → Int → Option Unit
  | 0, _ => none
  | m46 + 1, n45 => (if n45 < ((Chs.utf8 p1).length : Int) then (chk (n32 - n45)).bind fun n48 => (idx p0 n48).bind fun c49 => (chk (n22 - n45)).bind fun n50 => (idx (Chs.utf8 p1) n50).bind fun c51 => (if c49 = c51 then (chk (n45 + 1)).bind fun n53 => strings_IndexRune_L3 p0 p1 n22 n32 m46 n53 else none) else some ())
def strings_IndexRune_L2 (p0 : List UInt8) (p1 : Int) (n22 : Int) : Nat → Int → Option (Unit ⊕ Int)
  | 0, _ => none
  | m26 + 1, n25 => (if n25 < (p0.length : Int) then (idx p0 n25).bind fun c28 => (idx (Chs.utf8 p1) n22).bind fun c29 => (((if c28 = c29 then some (.inl n25) else (chk (n25 + 1)).bind fun n34 => (cut p0 n34 (p0.length : Int)).bind fun s35 => (idx (Chs.utf8 p1) n22).bind fun c36 => (strings_IndexByte s35 c36).bind fun n37 => (if n37 < (0 : Int) then some (.inr (-1)) else (chk (n37 + 1)).bind fun n40 => (chk (n25 + n40)).bind fun n41 => some (.inl n41))) : Option (Int ⊕ Int))).bind fun o57 => (match o57 with | .inl n32 => (strings_IndexRune_L3 p0 p1 n22 n32 FU 1).bind fun _ => (chk (n32 - n22)).bind fun n55 => some (.inr n55) | .inr r56 => some (.inr r56)) else some (.inl ()))
def strings_IndexRune (p0 : List UInt8) (p1 : Int) : Option Int :=
  ((if (0 : Int) ≤ p1 then some (decide (p1 < (128 : Int))) else some false)).bind fun b3 => (if b3 = true then (strings_IndexByte p0 (ub8 p1)).bind fun n7 => some n7 else (if p1 = (65533 : Int) then ((strings_IndexRune_L1 p0 FU 0 : Option (Unit ⊕ Int))).bind fun o18 => (match o18 with | .inl _ => some (-1) | .inr r17 => some r17) else (utf8_ValidRune p1).bind fun b19 => (if b19 = true then (chk (((Chs.utf8 p1).length : Int) - 1)).bind fun n22 => ((strings_IndexRune_L2 p0 p1 n22 FU n22 : Option (Unit ⊕ Int))).bind fun o60 => (match o60 with | .inl _ => some (-1) | .inr r59 => some r59) else some (-1))))
def strings_shouldUseASCIISet (p0 : Int) : Option Bool :=
  some (decide ((8 : Int) < p0))
def strings_makeASCIISet_L1 (p0 : List UInt8) : Nat → List Bool → Int → Option (List Bool ⊕ (List Bool × Bool))
  | 0, _, _ => none
  | m6 + 1, l4, n5 => (if n5 < (p0.length : Int) then (idx p0 n5).bind fun c8 => (if 128 ≤ c8.toNat then (chkA 256 l4).bind fun l10 => (chkA 256 l4).bind fun l11 => (chkA 256 l10).bind fun l12 => (chkA 256 l10).bind fun l13 => some (.inr (l13, false)) else (idxA 256 l4 (c8.toNat : Int)).bind fun a14 => (putA 256 l4 (c8.toNat : Int) true).bind fun l15 => (chk (n5 + 1)).bind fun n16 => strings_makeASCIISet_L1 p0 m6 l15 n16) else some (.inl l4))
def strings_makeASCIISet (p0 : List UInt8) : Option (List Bool × Bool) :=
  ((strings_makeASCIISet_L1 p0 FU (List.replicate 256 false : List Bool) 0 : Option (List Bool ⊕ (List Bool × Bool)))).bind fun o23 => (match o23 with | .inl l3 => (chkA 256 l3).bind fun l18 => (chkA 256 l3).bind fun l19 => (chkA 256 l18).bind fun l20 => (chkA 256 l18).bind fun l21 => some (l21, true) | .inr r22 => some r22)
def strings_asciiSet_contains (p0 : List Bool) (p1 : UInt8) : Option Bool :=
  (idxA 256 p0 (p1.toNat : Int)).bind fun a1 => some a1
def strings_IndexAny_L1 (p0 : List UInt8) (n16 : List Bool) : Nat → Int → Option (Unit ⊕ Int)
  | 0, _ => none
  | m26 + 1, n25 => (if n25 < (p0.length : Int) then (idx p0 n25).bind fun c28 => (strings_asciiSet_contains n16 c28).bind fun b29 => (if b29 = true then some (.inr n25) else (chk (n25 + 1)).bind fun n32 => strings_IndexAny_L1 p0 n16 m26 n32) else some (.inl ()))
def strings_IndexAny_L2 (p0 : List UInt8) (p1 : List UInt8) : Nat → Nat → Option (Unit ⊕ Int)
  | 0, _ => none
  | m40 + 1, ps39 => (if ps39 < p0.length then (strings_IndexRune p1 ((Utf.dr (p0.drop ps39)).1 : Int)).bind fun n42 => (if (0 : Int) ≤ n42 then some (.inr (ps39 : Int)) else strings_IndexAny_L2 p0 p1 m40 (ps39 + (Utf.dr (p0.drop ps39)).2)) else some (.inl ()))
def strings_IndexAny (p0 : List UInt8) (p1 : List UInt8) : Option Int :=
  (if p1 = [] then some (-1) else (if (p1.length : Int) = (1 : Int) then (idx p1 0).bind fun c3 => ((if (128 : Int) ≤ (IntKind.i32.wrap (c3.toNat : Int)) then some 65533 else some (IntKind.i32.wrap (c3.toNat : Int)))).bind fun n6 => (strings_IndexRune p0 n6).bind fun n9 => some n9 else (strings_shouldUseASCIISet (p0.length : Int)).bind fun b11 => (((if b11 = true then (strings_makeASCIISet p1).bind fun (n16, b17) => (chkA 256 (List.replicate 256 false : List Bool)).bind fun l19 => (chkA 256 n16).bind fun l20 => (if b17 = true then ((strings_IndexAny_L1 p0 n16 FU 0 : Option (Unit ⊕ Int))).bind fun o35 => (match o35 with | .inl _ => some (.inr (-1)) | .inr r34 => some (.inr r34)) else some (.inl ())) else some (.inl ())) : Option (Unit ⊕ Int))).bind fun o49 => (match o49 with | .inl _ => ((strings_IndexAny_L2 p0 p1 FU 0 : Option (Unit ⊕ Int))).bind fun o47 => (match o47 with | .inl _ => some (-1) | .inr r46 => some r46) | .inr r48 => some r48)))
def strings_ContainsAny (p0 : List UInt8) (p1 : List UInt8) : Option Bool :=
  (strings_IndexAny p0 p1).bind fun n1 => some (decide ((0 : Int) ≤ n1))
def fold_ends (p0 : List UInt8) : Option Bool :=
  (strings_ContainsAny p0 [13, 10, 0]).bind fun b1 => some b1
def fold_value (p0 : List UInt8) : Option Bool :=
  ((fold_ends p0).bind fun b4 => (if b4 = true then some false else (if p0 = [] then some true else (idx p0 0).bind fun c7 => (basic_Blank c7).bind fun b8 => (if b8 = true then some false else (chk ((p0.length : Int) - 1)).bind fun n10 => (idx p0 n10).bind fun c11 => (basic_Blank c11).bind fun b12 => some (!b12))))).bind fun b3 => some b3
def fold_point_L1 (p0 : List UInt8) : Nat → Int → Int → Option Int
  | 0, _, _ => none
  | m6 + 1, n4, n5 => (if n5 < (p0.length : Int) then ((idx p0 n5).bind fun c11 => (basic_Blank c11).bind fun b12 => (if b12 = true then (chk (n5 - 1)).bind fun n14 => (idx p0 n14).bind fun c15 => (basic_Blank c15).bind fun b16 => some b16 else some true)).bind fun b10 => (if b10 = true then (chk (n5 + 1)).bind fun n20 => fold_point_L1 p0 m6 n4 n20 else ((if (0 : Int) < n4 then some (decide ((78 : Int) < n5)) else some false)).bind fun b23 => (if b23 = true then some n4 else (chk (n5 + 1)).bind fun n27 => fold_point_L1 p0 m6 n5 n27)) else some n4)
def fold_point (p0 : List UInt8) (p1 : Int) : Option Int :=
  (fold_point_L1 p0 FU 0 (max p1 1)).bind fun n3 => some n3
def fold_Fold_L1  : Nat → List UInt8 → Int → List (List UInt8) → Option (List UInt8 × List (List UInt8))
  | 0, _, _, _ => none
  | m31 + 1, s26, n27, l29 => (if (78 : Int) < (s26.length : Int) then (fold_point s26 n27).bind fun n34 => (if n34 = (0 : Int) then some (s26, l29) else (cut s26 0 n34).bind fun s37 => (app 16 l29 ([s37] : List (List UInt8))).bind fun l38 => (cut s26 n34 (s26.length : Int)).bind fun s39 => fold_Fold_L1  m31 s39 0 l38) else some (s26, l29))
def fold_Fold_L2 (l41 : List (List UInt8)) : Nat → Int → Int → Int → Option ((Int × Int) ⊕ (List (List UInt8) × (Int × Int)))
  | 0, _, _, _ => none
  | m49 + 1, n46, n47, n48 => (if n48 < (l41.length : Int) then (idx l41 n48).bind fun a51 => (if (998 : Int) < (a51.length : Int) then (basic_Fault 1 n48).bind fun (n53, n54) => some (.inr ([], (n53, n54))) else (chk (n48 + 1)).bind fun n56 => fold_Fold_L2 l41 m49 n46 n47 n56) else some (.inl (n46, n47)))
def fold_Fold (p0 : List UInt8) (p1 : List UInt8) : Option (List (List UInt8) × (Int × Int)) :=
  (fold_name p0).bind fun b1 => (if b1 = true then (if (4000 : Int) < (p1.length : Int) then (basic_Fault 1 (-1)).bind fun (n8, n9) => some ([], (n8, n9)) else (fold_value p1).bind fun b11 => (if b11 = true then (cat p0 [58, 32]).bind fun s17 => (cat s17 p1).bind fun s18 => (chk ((p0.length : Int) + 2)).bind fun n19 => (fold_Fold_L1  FU s18 n19 []).bind fun (s22, l24) => (app 16 l24 ([s22] : List (List UInt8))).bind fun l41 => ((fold_Fold_L2 l41 FU 0 0 0 : Option ((Int × Int) ⊕ (List (List UInt8) × (Int × Int))))).bind fun o63 => (match o63 with | .inl (n44, n45) => (basic_None).bind fun (n58, n59) => some (l41, (n58, n59)) | .inr r62 => some r62) else (basic_Fault 11 (-1)).bind fun (n14, n15) => some ([], (n14, n15)))) else (basic_Fault 10 (-1)).bind fun (n4, n5) => some ([], (n4, n5)))
def stringslite_Cut (p0 : List UInt8) (p1 : List UInt8) : Option (List UInt8 × List UInt8 × Bool) :=
  (stringslite_Index p0 p1).bind fun n1 => (if (0 : Int) ≤ n1 then (cut p0 0 n1).bind fun s4 => (chk (n1 + (p1.length : Int))).bind fun n5 => (cut p0 n5 (p0.length : Int)).bind fun s6 => some (s4, s6, true) else some (p0, [], false))
def strings_Cut (p0 : List UInt8) (p1 : List UInt8) : Option (List UInt8 × List UInt8 × Bool) :=
  (stringslite_Cut p0 p1).bind fun (s1, s2, b3) => some (s1, s2, b3)
def strings_trimRightByte_L1 (p1 : UInt8) : Nat → List UInt8 → Option (List UInt8)
  | 0, _ => none
  | m5 + 1, s4 => ((if (0 : Int) < (s4.length : Int) then (chk ((s4.length : Int) - 1)).bind fun n10 => (idx s4 n10).bind fun c11 => some (decide (c11 = p1)) else some false)).bind fun b8 => (if b8 = true then (chk ((s4.length : Int) - 1)).bind fun n14 => (cut s4 0 n14).bind fun s15 => strings_trimRightByte_L1 p1 m5 s15 else some s4)
def strings_trimRightByte (p0 : List UInt8) (p1 : UInt8) : Option (List UInt8) :=
  (strings_trimRightByte_L1 p1 FU p0).bind fun s3 => some s3
def strings_trimLeftByte_L1 (p1 : UInt8) : Nat → List UInt8 → Option (List UInt8)
  | 0, _ => none
  | m5 + 1, s4 => ((if (0 : Int) < (s4.length : Int) then (idx s4 0).bind fun c10 => some (decide (c10 = p1)) else some false)).bind fun b8 => (if b8 = true then (cut s4 1 (s4.length : Int)).bind fun s13 => strings_trimLeftByte_L1 p1 m5 s13 else some s4)
def strings_trimLeftByte (p0 : List UInt8) (p1 : UInt8) : Option (List UInt8) :=
  (strings_trimLeftByte_L1 p1 FU p0).bind fun s3 => some s3
def strings_trimRightASCII_L1 (p1 : List Bool) : Nat → List UInt8 → Option (List UInt8)
  | 0, _ => none
  | m5 + 1, s4 => (if (0 : Int) < (s4.length : Int) then (chk ((s4.length : Int) - 1)).bind fun n7 => (idx s4 n7).bind fun c8 => (strings_asciiSet_contains p1 c8).bind fun b9 => (if b9 = true then (chk ((s4.length : Int) - 1)).bind fun n12 => (cut s4 0 n12).bind fun s13 => strings_trimRightASCII_L1 p1 m5 s13 else some s4) else some s4)
def strings_trimRightASCII (p0 : List UInt8) (p1 : List Bool) : Option (List UInt8) :=
  (strings_trimRightASCII_L1 p1 FU p0).bind fun s3 => some s3
def strings_trimLeftASCII_L1 (p1 : List Bool) : Nat → List UInt8 → Option (List UInt8)
  | 0, _ => none
  | m5 + 1, s4 => (if (0 : Int) < (s4.length : Int) then (idx s4 0).bind fun c7 => (strings_asciiSet_contains p1 c7).bind fun b8 => (if b8 = true then (cut s4 1 (s4.length : Int)).bind fun s11 => strings_trimLeftASCII_L1 p1 m5 s11 else some s4) else some s4)
def strings_trimLeftASCII (p0 : List UInt8) (p1 : List Bool) : Option (List UInt8) :=
  (strings_trimLeftASCII_L1 p1 FU p0).bind fun s3 => some s3
def strings_Trim (p0 : List UInt8) (p1 : List UInt8) : Option (List UInt8) :=
  ((if p0 = [] then some true else some (decide (p1 = [])))).bind fun b3 => (if b3 = true then some p0 else ((if (p1.length : Int) = (1 : Int) then (idx p1 0).bind fun c11 => some (decide (c11.toNat < 128)) else some false)).bind fun b9 => (if b9 = true then (idx p1 0).bind fun c14 => (strings_trimRightByte p0 c14).bind fun s15 => (idx p1 0).bind fun c17 => (strings_trimLeftByte s15 c17).bind fun s18 => some s18 else (strings_makeASCIISet p1).bind fun (n20, b21) => (chkA 256 (List.replicate 256 false : List Bool)).bind fun l23 => (chkA 256 n20).bind fun l24 => (if b21 = true then (strings_trimRightASCII p0 n20).bind fun s27 => (strings_trimLeftASCII s27 n20).bind fun s29 => some s29 else none)))
end Go.Ph.Pf
end
section
set_option linter.unusedVariables false
namespace Go.Ph.Pf
open Go.Ph.Pl
def rpb (c : UInt8) : UInt8 := if c = 0 ∨ c = 13 then 32 else c
def tabR : List UInt8 := (List.range 256).map fun n => rpb (UInt8.ofNat n)
def strings_Replacer_build_L1 (p0 : List (List UInt8)) : Nat → Bool → Int → Option (Bool ⊕ (List UInt8 × List (List UInt8)))
  | 0, _, _ => none
  | m15 + 1, b13, n14 => (if n14 < (p0.length : Int) then (idx p0 n14).bind fun a17 => (if (a17.length : Int) = (1 : Int) then (chk (n14 + 1)).bind fun n19 => (idx p0 n19).bind fun a20 => (if (a20.length : Int) = (1 : Int) then (chk (n14 + 2)).bind fun n23 => strings_Replacer_build_L1 p0 m15 b13 n23 else (chk (n14 + 2)).bind fun n22 => strings_Replacer_build_L1 p0 m15 false n22) else none) else some (.inl b13))
def strings_Replacer_build_L2  : Nat → List UInt8 → Int → Option (List UInt8)
  | 0, _, _ => none
  | m33 + 1, l31, n32 => (if n32 < (256 : Int) then (idxA 256 l31 n32).bind fun c35 => (putA 256 l31 n32 (ub8 n32)).bind fun l36 => (chk (n32 + 1)).bind fun n37 => strings_Replacer_build_L2  m33 l36 n37 else some l31)
def strings_Replacer_build_L3 (p0 : List (List UInt8)) : Nat → List UInt8 → Int → Option (List UInt8)
  | 0, _, _ => none
  | m45 + 1, l43, n44 => (if (0 : Int) ≤ n44 then (idx p0 n44).bind fun a47 => (idx a47 0).bind fun c48 => (chk (n44 + 1)).bind fun n49 => (idx p0 n49).bind fun a50 => (idx a50 0).bind fun c51 => (idxA 256 l43 (c48.toNat : Int)).bind fun c52 => (putA 256 l43 (c48.toNat : Int) c51).bind fun l53 => (chk (n44 - 2)).bind fun n54 => strings_Replacer_build_L3 p0 m45 l53 n54 else some l43)
def strings_Replacer_build (p0 : List (List UInt8)) : Option (List UInt8 × List (List UInt8)) :=
  ((if (p0.length : Int) = (2 : Int) then (idx p0 0).bind fun a5 => some (decide ((1 : Int) < (a5.length : Int))) else some false)).bind fun b3 => (if b3 = true then none else ((strings_Replacer_build_L1 p0 FU true 0 : Option (Bool ⊕ (List UInt8 × List (List UInt8))))).bind fun o61 => (match o61 with | .inl b12 => (if b12 = true then (chkA 256 (List.replicate 256 0 : List UInt8)).bind fun l26 => (chkA 256 ([0, 0, 0, 0, 0, 0, 0, 0, 0, 0, 0, 0, 0, 0, 0, 0, 0, 0, 0, 0, 0, 0, 0, 0, 0, 0, 0, 0, 0, 0, 0, 0, 0, 0, 0, 0, 0, 0, 0, 0, 0, 0, 0, 0, 0, 0, 0, 0, 0, 0, 0, 0, 0, 0, 0, 0, 0, 0, 0, 0, 0, 0, 0, 0, 0, 0, 0, 0, 0, 0, 0, 0, 0, 0, 0, 0, 0, 0, 0, 0, 0, 0, 0, 0, 0, 0, 0, 0, 0, 0, 0, 0, 0, 0, 0, 0, 0, 0, 0, 0, 0, 0, 0, 0, 0, 0, 0, 0, 0, 0, 0, 0, 0, 0, 0, 0, 0, 0, 0, 0, 0, 0, 0, 0, 0, 0, 0, 0, 0, 0, 0, 0, 0, 0, 0, 0, 0, 0, 0, 0, 0, 0, 0, 0, 0, 0, 0, 0, 0, 0, 0, 0, 0, 0, 0, 0, 0, 0, 0, 0, 0, 0, 0, 0, 0, 0, 0, 0, 0, 0, 0, 0, 0, 0, 0, 0, 0, 0, 0, 0, 0, 0, 0, 0, 0, 0, 0, 0, 0, 0, 0, 0, 0, 0, 0, 0, 0, 0, 0, 0, 0, 0, 0, 0, 0, 0, 0, 0, 0, 0, 0, 0, 0, 0, 0, 0, 0, 0, 0, 0, 0, 0, 0, 0, 0, 0, 0, 0, 0, 0, 0, 0, 0, 0, 0, 0, 0, 0, 0, 0, 0, 0, 0, 0, 0, 0, 0, 0, 0, 0, 0, 0, 0, 0, 0, 0] : List UInt8)).bind fun l27 => (strings_Replacer_build_L2  FU ([0, 0, 0, 0, 0, 0, 0, 0, 0, 0, 0, 0, 0, 0, 0, 0, 0, 0, 0, 0, 0, 0, 0, 0, 0, 0, 0, 0, 0, 0, 0, 0, 0, 0, 0, 0, 0, 0, 0, 0, 0, 0, 0, 0, 0, 0, 0, 0, 0, 0, 0, 0, 0, 0, 0, 0, 0, 0, 0, 0, 0, 0, 0, 0, 0, 0, 0, 0, 0, 0, 0, 0, 0, 0, 0, 0, 0, 0, 0, 0, 0, 0, 0, 0, 0, 0, 0, 0, 0, 0, 0, 0, 0, 0, 0, 0, 0, 0, 0, 0, 0, 0, 0, 0, 0, 0, 0, 0, 0, 0, 0, 0, 0, 0, 0, 0, 0, 0, 0, 0, 0, 0, 0, 0, 0, 0, 0, 0, 0, 0, 0, 0, 0, 0, 0, 0, 0, 0, 0, 0, 0, 0, 0, 0, 0, 0, 0, 0, 0, 0, 0, 0, 0, 0, 0, 0, 0, 0, 0, 0, 0, 0, 0, 0, 0, 0, 0, 0, 0, 0, 0, 0, 0, 0, 0, 0, 0, 0, 0, 0, 0, 0, 0, 0, 0, 0, 0, 0, 0, 0, 0, 0, 0, 0, 0, 0, 0, 0, 0, 0, 0, 0, 0, 0, 0, 0, 0, 0, 0, 0, 0, 0, 0, 0, 0, 0, 0, 0, 0, 0, 0, 0, 0, 0, 0, 0, 0, 0, 0, 0, 0, 0, 0, 0, 0, 0, 0, 0, 0, 0, 0, 0, 0, 0, 0, 0, 0, 0, 0, 0, 0, 0, 0, 0, 0, 0] : List UInt8) 0).bind fun l30 => (chk ((p0.length : Int) - 2)).bind fun n39 => (strings_Replacer_build_L3 p0 FU l30 n39).bind fun l42 => some (l42, p0) else none) | .inr r60 => some r60))
def strings_NewReplacer (p0 : List (List UInt8)) : Option Unit :=
  if p0 = [[0], [32], [13], [32]] then some () else none
def strings_Replacer_Replace (p0 : List UInt8) : Option (List UInt8) :=
  if p0.length ≤ 1000000 then some (p0.map rpb) else none
def header_Validate_L1 (p0 : List (List UInt8 × List UInt8)) : Nat → Int → Int → Int → Option ((Int × Int) ⊕ (Int × Int))
  | 0, _, _, _ => none
  | m12 + 1, n9, n10, n11 => (if n11 < (p0.length : Int) then (idx p0 n11).bind fun a14 => (fold_Fold a14.1 a14.2).bind fun (l15, (n16, n17)) => (basic_Failed (n16, n17)).bind fun b19 => (if b19 = true then (basic_Fault n16 n11).bind fun (n22, n23) => some (.inr (n22, n23)) else (chk (n11 + 1)).bind fun n25 => header_Validate_L1 p0 m12 n9 n10 n25) else some (.inl (n9, n10)))
def header_Validate (p0 : List (List UInt8 × List UInt8)) : Option (Int × Int) :=
  (if (60 : Int) < (p0.length : Int) then (basic_Fault 2 (-1)).bind fun (n2, n3) => some (n2, n3) else ((header_Validate_L1 p0 FU 0 0 0 : Option ((Int × Int) ⊕ (Int × Int)))).bind fun o31 => (match o31 with | .inl (n7, n8) => (basic_None).bind fun (n27, n28) => some (n27, n28) | .inr r30 => some r30))
def header_name (p0 : List UInt8) : Option Bool :=
  (fold_Fold p0 []).bind fun (l1, (n2, n3)) => (basic_Failed (n2, n3)).bind fun b5 => some (!b5)
def header_valid (p0 : List (List UInt8 × List UInt8)) (p1 : List UInt8) : Option (Int × Int) :=
  (header_Validate p0).bind fun (n1, n2) => (basic_Failed (n1, n2)).bind fun b4 => (if b4 = true then some (n1, n2) else (header_name p1).bind fun b7 => (if b7 = true then (basic_None).bind fun (n13, n14) => some (n13, n14) else (basic_Fault 10 (-3)).bind fun (n10, n11) => some (n10, n11)))
def header_Without_1 (p0 : (List UInt8 × List UInt8)) (p1 : List UInt8) : Option Bool :=
  (basic_Same p0.1 p1).bind fun b1 => some b1
def idxL (l : List (List UInt8 × List UInt8)) (g : (List UInt8 × List UInt8) → Option Bool) : Nat → Int → Option (Unit ⊕ Int)
  | 0, _ => none
  | m + 1, n => if n < (l.length : Int) then (idx l n).bind fun a => (g a).bind fun b => (if b = true then some (.inr n) else (chk (n + 1)).bind fun n2 => idxL l g m n2) else some (.inl ())
def idxFunc (l : List (List UInt8 × List UInt8)) (g : (List UInt8 × List UInt8) → Option Bool) : Option Int := (idxL l g FU 0).bind fun o => match o with | .inl _ => some (-1) | .inr i => some i
def delL (g : (List UInt8 × List UInt8) → Option Bool) : Nat → List (List UInt8 × List UInt8) → Int → Int → Option (List (List UInt8 × List UInt8) × Int)
  | 0, _, _, _ => none
  | m + 1, q, i, j => if j < (q.length : Int) then (idx q j).bind fun a => (g a).bind fun b => (if b = true then (chk (j + 1)).bind fun j2 => delL g m q i j2 else (put q i a).bind fun q2 => (chk (i + 1)).bind fun i2 => (chk (j + 1)).bind fun j2 => delL g m q2 i2 j2) else some (q, i)
def delFunc (l : List (List UInt8 × List UInt8)) (g : (List UInt8 × List UInt8) → Option Bool) : Option (List (List UInt8 × List UInt8)) := (idxFunc l g).bind fun i => if i = -1 then some l else (chk (i + 1)).bind fun j => (delL g FU l i j).bind fun (q, i2) => cut q 0 i2
def header_Without (p0 : List (List UInt8 × List UInt8)) (p1 : List UInt8) : Option (List (List UInt8 × List UInt8) × (Int × Int)) :=
  (header_valid p0 p1).bind fun (n1, n2) => (basic_Failed (n1, n2)).bind fun b4 => (if b4 = true then some ([], (n1, n2)) else (app 32 [] p0).bind fun l => (delFunc l (fun x => header_Without_1 x p1)).bind fun l2 => (basic_None).bind fun (n7, n8) => some (l2, (n7, n8)))
def bytes_Equal (p0 : List UInt8) (p1 : List UInt8) : Option Bool :=
  some (decide (p0 = p1))
def bytes_HasSuffix (p0 : List UInt8) (p1 : List UInt8) : Option Bool :=
  ((if (p1.length : Int) ≤ (p0.length : Int) then (chk ((p0.length : Int) - (p1.length : Int))).bind fun n5 => (cut p0 n5 (p0.length : Int)).bind fun l6 => (bytes_Equal l6 p1).bind fun b7 => some b7 else some false)).bind fun b3 => some b3
def bytes_TrimSuffix (p0 : List UInt8) (p1 : List UInt8) : Option (List UInt8) :=
  (bytes_HasSuffix p0 p1).bind fun b1 => (if b1 = true then (chk ((p0.length : Int) - (p1.length : Int))).bind fun n4 => (cut p0 0 n4).bind fun l5 => some l5 else some p0)
def header_line (p0 : List UInt8) : Option (List UInt8 × Int) :=
  (bytes_IndexByte p0 10).bind fun n1 => (if n1 < (0 : Int) then some (p0, (p0.length : Int)) else (cut p0 0 n1).bind fun l4 => (bytes_TrimSuffix l4 ([13] : List UInt8)).bind fun l5 => (chk (n1 + 1)).bind fun n7 => some (l5, n7))
def strings_TrimRight (p0 : List UInt8) (p1 : List UInt8) : Option (List UInt8) :=
  ((if p0 = [] then some true else some (decide (p1 = [])))).bind fun b3 => (if b3 = true then some p0 else ((if (p1.length : Int) = (1 : Int) then (idx p1 0).bind fun c11 => some (decide (c11.toNat < 128)) else some false)).bind fun b9 => (if b9 = true then (idx p1 0).bind fun c14 => (strings_trimRightByte p0 c14).bind fun s15 => some s15 else (strings_makeASCIISet p1).bind fun (n17, b18) => (chkA 256 (List.replicate 256 false : List Bool)).bind fun l20 => (chkA 256 n17).bind fun l21 => (if b18 = true then (strings_trimRightASCII p0 n17).bind fun s24 => some s24 else none)))
def header_begins (p0 : List UInt8) : Option ((List UInt8 × List UInt8) × Bool) :=
  (strings_Cut p0 [58]).bind fun (s1, s2, b3) => (strings_TrimRight s1 [32, 9]).bind fun s5 => ((if b3 = true then (header_name s5).bind fun b12 => some (s5, s2, b12) else some (s5, s2, false))).bind fun (s9, s10, b11) => some ((s9, s10), b11)
def header_Read_L1 (p0 : List UInt8) : Nat → List (List UInt8 × List UInt8) → Int → Option (List (List UInt8 × List UInt8) × Int)
  | 0, _, _ => none
  | m15 + 1, l12, n14 => (if n14 < (p0.length : Int) then (cut p0 n14 (p0.length : Int)).bind fun l18 => (header_line l18).bind fun (s19, n20) => (if s19 = [] then (chk (n14 + n20)).bind fun n23 => some (l12, n23) else ((idx s19 0).bind fun c27 => (basic_Blank c27).bind fun b28 => (if b28 = true then some (decide ((0 : Int) < (l12.length : Int))) else some false)).bind fun b26 => (if b26 = true then (chk ((l12.length : Int) - 1)).bind fun n32 => (idx l12 n32).bind fun a33 => (cat a33.2 s19).bind fun s34 => (idx l12 n32).bind fun a35 => (put l12 n32 (a35.1, s34)).bind fun l36 => (chk (n14 + n20)).bind fun n37 => header_Read_L1 p0 m15 l36 n37 else (header_begins s19).bind fun ((s38, s39), b40) => (if b40 = true then (app 32 l12 ([(s38, s39)] : List (List UInt8 × List UInt8))).bind fun l43 => (chk (n14 + n20)).bind fun n44 => header_Read_L1 p0 m15 l43 n44 else some (l12, n14)))) else some (l12, n14))
def header_Read_L2 (l8 : List (List UInt8 × List UInt8)) : Nat → Int → Int → List (List UInt8 × List UInt8) → Int → Option ((Int × Int × List (List UInt8 × List UInt8)) ⊕ (List (List UInt8 × List UInt8) × Int × (Int × Int)))
  | 0, _, _, _, _ => none
  | m62 + 1, n56, n57, l58, n61 => (if n61 < (l8.length : Int) then (idx l58 n61).bind fun a64 => (strings_Replacer_Replace a64.2).bind fun s65 => (strings_Trim s65 [32, 9]).bind fun s66 => (if (4000 : Int) < (s66.length : Int) then (basic_Fault 1 n61).bind fun (n69, n70) => some (.inr ([], 0, (n69, n70))) else (idx l58 n61).bind fun a72 => (put l58 n61 (a72.1, s66)).bind fun l73 => (chk (n61 + 1)).bind fun n74 => header_Read_L2 l8 m62 n56 n57 l73 n74) else some (.inl (n56, n57, l58)))
def header_Read (p0 : List UInt8) : Option (List (List UInt8 × List UInt8) × Int × (Int × Int)) :=
  (if (12000 : Int) < (p0.length : Int) then (basic_Fault 1 (-1)).bind fun (n2, n3) => some ([], 0, (n2, n3)) else (header_Read_L1 p0 FU [] 0).bind fun (l8, n10) => (if (60 : Int) < (l8.length : Int) then (basic_Fault 2 (-2)).bind fun (n47, n48) => some ([], 0, (n47, n48)) else (strings_NewReplacer ([[0], [32], [13], [32]] : List (List UInt8))).bind fun _ => ((header_Read_L2 l8 FU 0 0 l8 0 : Option ((Int × Int × List (List UInt8 × List UInt8)) ⊕ (List (List UInt8 × List UInt8) × Int × (Int × Int))))).bind fun o81 => (match o81 with | .inl (n53, n54, l55) => (basic_None).bind fun (n76, n77) => some (l55, n10, (n76, n77)) | .inr r80 => some r80)))
def header_Write_L2 (l20 : List (List UInt8)) : Nat → List UInt8 → Int → Option (List UInt8)
  | 0, _, _ => none
  | m33 + 1, l30, n32 => (if n32 < (l20.length : Int) then (idx l20 n32).bind fun a35 => (app 1 l30 a35).bind fun l36 => (app 1 l36 ([13, 10] : List UInt8)).bind fun l37 => (chk (n32 + 1)).bind fun n38 => header_Write_L2 l20 m33 l37 n38 else some l30)
def header_Write_L1 (p0 : List (List UInt8 × List UInt8)) : Nat → List UInt8 → Int → Option (List UInt8)
  | 0, _, _ => none
  | m16 + 1, l13, n15 => (if n15 < (p0.length : Int) then (idx p0 n15).bind fun a19 => (fold_Fold a19.1 a19.2).bind fun (l20, (n21, n22)) => (header_Write_L2 l20 FU l13 0).bind fun l27 => (chk (n15 + 1)).bind fun n40 => header_Write_L1 p0 m16 l27 n40 else some l13)
def header_Write (p0 : List (List UInt8 × List UInt8)) : Option (List UInt8 × (Int × Int)) :=
  (header_Validate p0).bind fun (n1, n2) => (basic_Failed (n1, n2)).bind fun b4 => (if b4 = true then some ([], (n1, n2)) else (header_Write_L1 p0 FU [] 0).bind fun l10 => (app 1 l10 ([13, 10] : List UInt8)).bind fun l42 => (if (12000 : Int) < (l42.length : Int) then (basic_Fault 1 (-2)).bind fun (n44, n45) => some ([], (n44, n45)) else (basic_None).bind fun (n47, n48) => some (l42, (n47, n48))))
def header_Get_L1 (p0 : List (List UInt8 × List UInt8)) (p1 : List UInt8) : Nat → List (List UInt8) → Int → Option (List (List UInt8))
  | 0, _, _ => none
  | m16 + 1, l13, n15 => (if n15 < (p0.length : Int) then (idx p0 n15).bind fun a19 => (basic_Same a19.1 p1).bind fun b20 => (if b20 = true then (app 16 l13 ([a19.2] : List (List UInt8))).bind fun l23 => (chk (n15 + 1)).bind fun n24 => header_Get_L1 p0 p1 m16 l23 n24 else (chk (n15 + 1)).bind fun n25 => header_Get_L1 p0 p1 m16 l13 n25) else some l13)
def header_Get (p0 : List (List UInt8 × List UInt8)) (p1 : List UInt8) : Option (List (List UInt8) × (Int × Int)) :=
  (header_valid p0 p1).bind fun (n1, n2) => (basic_Failed (n1, n2)).bind fun b4 => (if b4 = true then some ([], (n1, n2)) else (header_Get_L1 p0 p1 FU [] 0).bind fun l10 => (basic_None).bind fun (n27, n28) => some (l10, (n27, n28)))
def R_Strings_L1 (p0 : List (List UInt8)) (p1 : List (List UInt8)) : Nat → Int → Option (Unit ⊕ Bool)
  | 0, _ => none
  | m5 + 1, n4 => (if n4 < (p0.length : Int) then (idx p0 n4).bind fun a7 => (idx p1 n4).bind fun a8 => (if a7 = a8 then (chk (n4 + 1)).bind fun n10 => R_Strings_L1 p0 p1 m5 n10 else some (.inr false)) else some (.inl ()))
def R_Strings (p0 : List (List UInt8)) (p1 : List (List UInt8)) : Option Bool :=
  (if (p0.length : Int) = (p1.length : Int) then ((R_Strings_L1 p0 p1 FU 0 : Option (Unit ⊕ Bool))).bind fun o13 => (match o13 with | .inl _ => some true | .inr r12 => some r12) else some false)
def L_headerExample  : Option Bool :=
  (header_Read ([65, 58, 98, 10, 10, 99] : List UInt8)).bind fun (l1, n2, (n3, n4)) => (header_Write ([([65], [98])] : List (List UInt8 × List UInt8))).bind fun (l6, (n7, n8)) => (header_Get ([([84, 111], [120])] : List (List UInt8 × List UInt8)) [116, 111]).bind fun (l10, (n11, n12)) => (header_Without ([([84, 111], []), ([65], [])] : List (List UInt8 × List UInt8)) [116, 111]).bind fun (l14, (n15, n16)) => ((if n3 = (0 : Int) then (if n7 = (0 : Int) then (if n11 = (0 : Int) then (if n15 = (0 : Int) then (if (l1.length : Int) = (1 : Int) then (idx l1 0).bind fun a26 => (if a26.1 = [65] ∧ a26.2 = [98] then (if n2 = (5 : Int) then (if l6 = [65, 58, 32, 98, 13, 10, 13, 10] then (R_Strings l10 ([[120]] : List (List UInt8))).bind fun b30 => (if b30 = true then some (decide ((l14.length : Int) = (1 : Int))) else some false) else some false) else some false) else some false) else some false) else some false) else some false) else some false) else some false)).bind fun b20 => some b20
def L_HeaderWithoutNone (p0 : List (List UInt8 × List UInt8)) (p1 : List UInt8) (p2 : List UInt8) : Option Bool :=
  (L_headerExample).bind fun b1 => (if b1 = true then (header_Without p0 p1).bind fun (l4, (n5, n6)) => (header_Get p0 p2).bind fun (l8, (n9, n10)) => ((if n5 = (0 : Int) then some (!decide (n9 = (0 : Int))) else some true)).bind fun b14 => (if b14 = true then ((if n5 = (0 : Int) then some true else some (decide ((l4.length : Int) = (0 : Int))))).bind fun b20 => some b20 else (header_Get l4 p1).bind fun (l23, (n24, n25)) => (header_Get l4 p2).bind fun (l27, (n28, n29)) => ((if n24 = (0 : Int) then (if n28 = (0 : Int) then (if (l23.length : Int) = (0 : Int) then (R_Alike p1 p2).bind fun b37 => (if b37 = true then some true else (R_Strings l8 l27).bind fun b39 => some b39) else some false) else some false) else some false)).bind fun b33 => some b33) else some false)
end Go.Ph.Pf
end
section
set_option linter.unusedVariables false
set_option linter.unusedSimpArgs false
namespace Go.Ph.Pl
theorem u8_lit (c n : UInt8) : c = n ↔ c.toNat = n.toNat := UInt8.toNat_inj.symm
theorem drop_cons {α : Type} {l : List α} {i : Nat} (h : i < l.length) : l.drop i = l[i] :: l.drop (i + 1) := List.drop_eq_getElem_cons h
theorem scanL {α β : Type} (L : Nat → Int → Option β) (l : List α) (p : α → Bool) (stop r : β) (hend : ∀ m, L (m + 1) (l.length : Int) = some stop)
    (hstep : ∀ m i (h : i < l.length), L (m + 1) (i : Int) = if p l[i] = true then some r else L m ((i + 1 : Nat) : Int)) :
    ∀ (k i m : Nat), l.length - i ≤ k → k < m → i ≤ l.length → L m (i : Int) = some (if (l.drop i).any p = true then r else stop)
  | 0, i, m, h1, h2, h3 => by
    obtain ⟨m, rfl⟩ : ∃ k, m = k + 1 := ⟨m - 1, by omega⟩
    obtain rfl : i = l.length := by omega
    rw [hend, List.drop_length]; rfl
  | k + 1, i, m, h1, h2, h3 => by
    obtain ⟨m, rfl⟩ : ∃ k, m = k + 1 := ⟨m - 1, by omega⟩
    by_cases hi : i < l.length
    · rw [hstep m i hi, drop_cons hi, List.any_cons]
      by_cases hp : p l[i] = true
      · rw [if_pos hp, hp]; rfl
      · rw [if_neg hp, scanL L l p stop r hend hstep k (i + 1) m (by omega) (by omega) (by omega)]
        have : p l[i] = false := by simpa using hp
        rw [this]; rfl
    · obtain rfl : i = l.length := by omega
      rw [hend, List.drop_length]; rfl
theorem scan0 {α β : Type} {L : Nat → Int → Option β} {l : List α} {p : α → Bool} {stop r : β} {m : Nat} (hm : l.length < m) (hend : ∀ m, L (m + 1) (l.length : Int) = some stop)
    (hstep : ∀ m i (h : i < l.length), L (m + 1) (i : Int) = if p l[i] = true then some r else L m ((i + 1 : Nat) : Int)) : L m 0 = some (if l.any p = true then r else stop) := by
  have := scanL L l p stop r hend hstep l.length 0 m (by omega) hm (by omega)
  simpa using this
theorem scanP {α β : Type} (L : Nat → Int → Option β) (l : List α) (p : Nat → α → Option β) (stop : β) (hend : ∀ m, L (m + 1) (l.length : Int) = some stop)
    (hstep : ∀ m i (h : i < l.length), L (m + 1) (i : Int) = match p i l[i] with | some r => some r | none => L m ((i + 1 : Nat) : Int)) :
    ∀ (k i m : Nat), l.length - i ≤ k → k < m → i ≤ l.length →
      (∃ (j : Nat) (hj : j < l.length) (r : β), i ≤ j ∧ p j l[j] = some r ∧ (∀ (a : Nat) (ha : a < l.length), i ≤ a → a < j → p a l[a] = none) ∧ L m (i : Int) = some r) ∨
      ((∀ (a : Nat) (ha : a < l.length), i ≤ a → p a l[a] = none) ∧ L m (i : Int) = some stop)
  | 0, i, m, h1, h2, h3 => by
    obtain ⟨m, rfl⟩ : ∃ k, m = k + 1 := ⟨m - 1, by omega⟩
    obtain rfl : i = l.length := by omega
    exact .inr ⟨fun a ha hi => by omega, hend m⟩
  | k + 1, i, m, h1, h2, h3 => by
    obtain ⟨m, rfl⟩ : ∃ k, m = k + 1 := ⟨m - 1, by omega⟩
    by_cases hi : i < l.length
    · cases hp : p i l[i] with
      | some r => exact .inl ⟨i, hi, r, Nat.le_refl _, hp, fun a ha h1 h2 => by omega, by rw [hstep m i hi, hp]⟩
      | none =>
        rw [hstep m i hi, hp]
        rcases scanP L l p stop hend hstep k (i + 1) m (by omega) (by omega) (by omega) with ⟨j, hj, r, a1, a2, a3, a4⟩ | ⟨a1, a2⟩
        · refine .inl ⟨j, hj, r, by omega, a2, fun a ha h1 h2 => ?_, a4⟩
          rcases Nat.eq_or_lt_of_le h1 with rfl | h1
          · exact hp
          · exact a3 a ha h1 h2
        · refine .inr ⟨fun a ha h1 => ?_, a2⟩
          rcases Nat.eq_or_lt_of_le h1 with rfl | h1
          · exact hp
          · exact a1 a ha h1
    · obtain rfl : i = l.length := by omega
      exact .inr ⟨fun a ha hi => by omega, hend m⟩
theorem FU_gt {n : Nat} (h : n ≤ 9223372036854775807) : n < FU := by rw [FU_eq]; omega
end Go.Ph.Pl
end
section
set_option linter.unusedVariables false
set_option linter.unusedSimpArgs false
namespace Go.Ph.Qp
open Go
def digs : List UInt8 := [48, 49, 50, 51, 52, 53, 54, 55, 56, 57, 65, 66, 67, 68, 69, 70]
def dig (n : Nat) : UInt8 := digs.getD (n % 16) 0
def hexV (c : UInt8) : Option Nat :=
  if 48 ≤ c.toNat ∧ c.toNat ≤ 57 then some (c.toNat - 48) else if 65 ≤ c.toNat ∧ c.toNat ≤ 70 then some (c.toNat - 55) else if 97 ≤ c.toNat ∧ c.toNat ≤ 102 then some (c.toNat - 87) else none
abbrev bl (c : UInt8) : Prop := c.toNat = 32 ∨ c.toNat = 9
abbrev lineAt (l : List UInt8) : Prop := l.take 2 = [13, 10]
theorem lineAt_iff {l : List UInt8} : lineAt l ↔ ∃ r, l = 13 :: 10 :: r := by
  constructor
  · intro h
    cases l with
    | nil => cases h
    | cons a l => cases l with
      | nil =>
        have := congrArg List.length (show [a] = [13, 10] from h)
        simp at this
      | cons b r =>
        have h' : [a, b] = [13, 10] := h
        simp only [List.cons.injEq, and_true] at h'
        exact ⟨r, by rw [h'.1, h'.2]⟩
  · rintro ⟨r, rfl⟩; rfl
abbrev lit (c : UInt8) (r : List UInt8) : Prop := (33 ≤ c.toNat ∧ c.toNat ≤ 126 ∧ c.toNat ≠ 61) ∨ (bl c ∧ ¬ (r = [] ∨ lineAt r))
def hex (c : UInt8) : List UInt8 := [61, dig (c.toNat / 16), dig c.toNat]
def sg (c : UInt8) (r : List UInt8) : List UInt8 := if lit c r then [c] else hex c
theorem sg_len (c : UInt8) (r : List UInt8) : 1 ≤ (sg c r).length ∧ (sg c r).length ≤ 3 := by
  unfold sg hex; split <;> simp
def most (r : List UInt8) : Nat := if r ≠ [] ∧ ¬ lineAt r then 75 else 76
def encF : Nat → Nat → List UInt8 → List UInt8
  | 0, _, _ => []
  | _ + 1, _, [] => []
  | f + 1, col, c :: r =>
    if lineAt (c :: r) then 13 :: 10 :: encF f 0 (r.drop 1)
    else if most r < col + (sg c r).length then [61, 13, 10] ++ (sg c r ++ encF f (sg c r).length r) else sg c r ++ encF f (col + (sg c r).length) r
theorem encF_more : ∀ (f g col : Nat) (l : List UInt8), l.length ≤ f → l.length ≤ g → encF f col l = encF g col l := by
  intro f
  induction f with
  | zero =>
    intro g col l hf _
    obtain rfl := List.eq_nil_of_length_eq_zero (Nat.le_zero.1 hf)
    cases g <;> rfl
  | succ f ih =>
    intro g col l hf hg
    cases l with
    | nil => cases g <;> rfl
    | cons c r =>
      cases g with
      | zero => simp at hg
      | succ g =>
        simp only [List.length_cons] at hf hg
        simp only [encF]
        rw [ih g 0 (r.drop 1) (by rw [List.length_drop]; omega) (by rw [List.length_drop]; omega), ih g _ r (by omega) (by omega), ih g _ r (by omega) (by omega)]
def enc (col : Nat) (l : List UInt8) : List UInt8 := encF l.length col l
theorem enc_nil (col : Nat) : enc col [] = [] := rfl
theorem enc_line (col : Nat) (r : List UInt8) : enc col (13 :: 10 :: r) = 13 :: 10 :: enc 0 r := by
  unfold enc
  simp only [List.length_cons, encF]
  rw [if_pos (show lineAt (13 :: 10 :: r) from rfl), List.drop_one, List.tail_cons, encF_more _ r.length 0 r (by omega) (Nat.le_refl _)]
theorem enc_cons {col : Nat} {c : UInt8} {r : List UInt8} (h : ¬ lineAt (c :: r)) : enc col (c :: r) = if most r < col + (sg c r).length then [61, 13, 10] ++ (sg c r ++ enc (sg c r).length r) else sg c r ++ enc (col + (sg c r).length) r := by
  unfold enc
  simp only [List.length_cons, encF]
  rw [if_neg h]
theorem enc_len : ∀ (n col : Nat) (l : List UInt8), l.length ≤ n → (enc col l).length ≤ 6 * l.length := by
  intro n
  induction n with
  | zero => intro col l h; obtain rfl := List.eq_nil_of_length_eq_zero (Nat.le_zero.1 h); simp [enc_nil]
  | succ n ih =>
    intro col l h
    cases l with
    | nil => simp [enc_nil]
    | cons c r =>
      simp only [List.length_cons] at h
      by_cases hl : lineAt (c :: r)
      · obtain ⟨r', hr⟩ := lineAt_iff.1 hl
        cases hr
        simp only [List.length_cons] at h
        have := ih 0 r' (by omega)
        rw [enc_line]
        simp only [List.length_cons]; omega
      · rw [enc_cons hl]
        have h1 := sg_len c r
        have h2 := ih (sg c r).length r (by omega)
        have h3 := ih (col + (sg c r).length) r (by omega)
        split
        · simp only [List.length_append, List.length_cons, List.length_nil]; omega
        · simp only [List.length_append, List.length_cons]; omega
def esc (l : List UInt8) : Option UInt8 :=
  if l[0]? = some 61 then match (l[1]?).bind hexV, (l[2]?).bind hexV with
    | some x, some y => some (UInt8.ofNat (16 * x + y))
    | _, _ => none
  else none
def plainF : Nat → List UInt8 → List UInt8
  | 0, _ => []
  | _ + 1, [] => []
  | f + 1, c :: r => match esc (c :: r) with
    | some x => x :: plainF f (r.drop 2)
    | none => c :: plainF f r
def plain (l : List UInt8) : List UInt8 := plainF l.length l
def trimR (l : List UInt8) : List UInt8 := (l.reverse.dropWhile (fun c => decide (bl c))).reverse
def nlen (l : List UInt8) : Nat := min (l.findIdx (fun c => decide (c = 10)) + 1) l.length
def chop (x : UInt8) (l : List UInt8) : List UInt8 := if l.getLast? = some x then l.dropLast else l
def body (s : List UInt8) : List UInt8 := if s.getLast? = some 10 then chop 13 s.dropLast else s
def one (s : List UInt8) : List UInt8 := if (trimR (body s)).getLast? = some 61 then plain (trimR (body s)).dropLast else plain (trimR (body s)) ++ s.drop (body s).length
def lenF : Nat → List UInt8 → List UInt8
  | 0, _ => []
  | f + 1, l => if l = [] then [] else one (l.take (nlen l)) ++ lenF f (l.drop (nlen l))
def lenient (l : List UInt8) : List UInt8 := lenF l.length l
theorem trimR_snoc {P : List UInt8} {c : UInt8} (h : ¬ bl c) : trimR (P ++ [c]) = P ++ [c] := by
  unfold trimR
  rw [List.reverse_append, List.reverse_singleton, List.singleton_append, List.dropWhile_cons_of_neg (by simpa using h), List.reverse_cons, List.reverse_reverse]
theorem trimR_nil : trimR [] = [] := rfl
theorem trimR_blank {X Y : List UInt8} (h : ∀ c ∈ Y, bl c) : trimR (X ++ Y) = trimR X := by
  unfold trimR
  rw [List.reverse_append, List.dropWhile_append_of_pos (fun c hc => by simpa using h c (List.mem_reverse.1 hc))]
end Go.Ph.Qp
end
section
set_option linter.unusedVariables false
set_option linter.unusedSimpArgs false
namespace Go.Ph.Fd
open Go Go.Ph.Qp
def bk (s : List UInt8) (i : Nat) : Bool := match s[i - 1]?, s[i]? with
  | some a, some b => decide (0 < i ∧ bl b ∧ ¬ bl a)
  | _, _ => false
theorem bk_at {s : List UInt8} {i : Nat} {a b : UInt8} (h0 : 0 < i) (ha : s[i - 1]? = some a) (hb : s[i]? = some b) : bk s i = decide (bl b ∧ ¬ bl a) := by
  unfold bk
  rw [ha, hb]
  simp [h0]
def sc (s : List UInt8) : Nat → Nat → Nat → Nat
  | 0, _, best => best
  | f + 1, i, best => if bk s i then (if best = 0 ∨ i ≤ 78 then sc s f (i + 1) i else sc s f (i + 1) best) else sc s f (i + 1) best
theorem sc_stay (s : List UInt8) : ∀ (f i best : Nat), 0 < best → 78 < i → sc s f i best = best := by
  intro f
  induction f with
  | zero => intro i best _ _; rfl
  | succ f ih =>
    intro i best h1 h2
    rw [sc]
    split
    · rw [if_neg (by omega), ih _ _ h1 (by omega)]
    · exact ih _ _ h1 (by omega)
def pt (s : List UInt8) (k : Nat) : Nat := sc s (s.length - k) k 0
theorem sc_le (s : List UInt8) : ∀ (f i best : Nat), sc s f i best = best ∨ (i ≤ sc s f i best ∧ sc s f i best < i + f ∧ bk s (sc s f i best) = true) := by
  intro f
  induction f with
  | zero => intro i best; exact .inl rfl
  | succ f ih =>
    intro i best
    rw [sc]
    split
    · rename_i hb
      split
      · rcases ih (i + 1) i with h | ⟨h1, h2, h3⟩
        · exact .inr ⟨by omega, by omega, by rw [h]; exact hb⟩
        · exact .inr ⟨by omega, by omega, h3⟩
      · rcases ih (i + 1) best with h | ⟨h1, h2, h3⟩
        · exact .inl h
        · exact .inr ⟨by omega, by omega, h3⟩
    · rcases ih (i + 1) best with h | ⟨h1, h2, h3⟩
      · exact .inl h
      · exact .inr ⟨by omega, by omega, h3⟩
theorem pt_lt {s : List UInt8} {k : Nat} (hk : 0 < k) (h : pt s k ≠ 0) : k ≤ pt s k ∧ pt s k < s.length ∧ bk s (pt s k) = true := by
  unfold pt at h ⊢
  rcases sc_le s (s.length - k) k 0 with h1 | ⟨h1, h2, h3⟩
  · exact absurd h1 h
  · exact ⟨h1, by omega, h3⟩
def flF : Nat → List UInt8 → Nat → List (List UInt8)
  | 0, s, _ => [s]
  | f + 1, s, k => if 78 < s.length ∧ pt s k ≠ 0 then s.take (pt s k) :: flF f (s.drop (pt s k)) 1 else [s]
theorem flF_more : ∀ (f g : Nat) (s : List UInt8) (k : Nat), 0 < k → s.length ≤ f → s.length ≤ g → flF f s k = flF g s k := by
  intro f
  induction f with
  | zero =>
    intro g s k hk hf hg
    cases g with
    | zero => rfl
    | succ g => rw [flF, flF, if_neg (by omega)]
  | succ f ih =>
    intro g s k hk hf hg
    cases g with
    | zero => rw [flF, flF, if_neg (by omega)]
    | succ g =>
      rw [flF, flF]
      split
      · rename_i h
        have h1 := pt_lt hk h.2
        rw [ih g _ 1 (by omega) (by rw [List.length_drop]; omega) (by rw [List.length_drop]; omega)]
      · rfl
def fl (s : List UInt8) (k : Nat) : List (List UInt8) := flF s.length s k
theorem fl_more {s : List UInt8} {k : Nat} (hk : 0 < k) (h : 78 < s.length ∧ pt s k ≠ 0) : fl s k = s.take (pt s k) :: fl (s.drop (pt s k)) 1 := by
  have h1 := pt_lt hk h.2
  unfold fl
  rw [flF_more s.length (s.length - 1 + 1) s k hk (Nat.le_refl _) (by omega), flF, if_pos h, flF_more _ (s.drop (pt s k)).length _ 1 (by omega) (by rw [List.length_drop]; omega) (Nat.le_refl _)]
theorem fl_end {s : List UInt8} {k : Nat} (h : ¬ (78 < s.length ∧ pt s k ≠ 0)) : fl s k = [s] := by
  unfold fl
  cases hl : s.length with
  | zero => rfl
  | succ n => rw [flF, if_neg h]
def step (at_ : Nat) (best : Int) (p : Nat) : Int := if at_ < p ∧ ((p : Int) - (at_ : Int) ≤ 78 ∨ best < 0) then (p : Int) else best
end Go.Ph.Fd
end
section
set_option linter.unusedVariables false
set_option linter.unusedSimpArgs false
namespace Go.Ph.Pf
open Go.Ph.Pl Go.Ph.Qp Go.Ph.Fd
abbrev Big (l : List UInt8) : Prop := l.length ≤ 140737488355328
theorem R_Blank_eq (c : UInt8) : R_Blank c = some (decide (bl c)) := by
  unfold R_Blank bl
  have e1 : (c = 32) ↔ c.toNat = 32 := u8_lit c 32
  have e2 : (c = 9) ↔ c.toNat = 9 := u8_lit c 9
  by_cases h : c = 32
  · simp [h]
  · rw [if_neg h]
    have h' : ¬ c.toNat = 32 := fun x => h (e1.2 x)
    simp [h', e2]
theorem basic_Blank_eq (c : UInt8) : basic_Blank c = some (decide (bl c)) := R_Blank_eq c
theorem basic_All_eq (l : List UInt8) (hl : Big l) (g : UInt8 → Option Bool) (p : UInt8 → Bool) (hg : ∀ c, g c = some (p c)) : basic_All l g = some (l.all p) := by
  unfold basic_All
  rw [scan0 (L := basic_All_L1 l g) (l := l) (p := fun c => !p c) (stop := .inl ()) (r := .inr false) (FU_gt (by omega)) (fun m => by rw [basic_All_L1, if_neg (by omega)]) (fun m i h => by
    rw [basic_All_L1, if_pos (by omega), idx_nat, List.getElem?_eq_getElem h, chk_succ (by have := hl; omega)]
    simp only [bsome, hg]
    cases p l[i] <;> simp)]
  simp only [bsome]
  rw [List.all_eq_not_any_not]
  cases l.any (fun c => !p c) <;> simp
def nmB (c : UInt8) : Bool := decide (33 ≤ c.toNat ∧ c.toNat ≤ 126 ∧ c.toNat ≠ 58)
theorem fold_name_1_eq (c : UInt8) : fold_name_1 c = some (nmB c) := by
  unfold fold_name_1 nmB
  have e : (c = 58) ↔ c.toNat = 58 := u8_lit c 58
  by_cases h1 : 33 ≤ c.toNat <;> by_cases h2 : c.toNat ≤ 126 <;> by_cases h3 : c.toNat = 58 <;> simp [h1, h2, h3, e]
def nmL (l : List UInt8) : Bool := l.all nmB && decide (1 ≤ l.length ∧ l.length ≤ 60)
theorem fold_name_eq (l : List UInt8) (hl : Big l) : fold_name l = some (nmL l) := by
  unfold fold_name nmL
  by_cases h : l = []
  · subst h; rfl
  · have hpos : 1 ≤ l.length := by cases l <;> simp_all
    rw [if_neg h]
    by_cases h2 : l.length ≤ 60
    · rw [if_pos (by omega), basic_All_eq l hl _ nmB fold_name_1_eq]
      simp [hpos, h2]
    · rw [if_neg (by omega)]
      simp [h2]
def endB (c : UInt8) : Bool := decide (c.toNat = 13 ∨ c.toNat = 10 ∨ c.toNat = 0)
def trimL (l : List UInt8) : List UInt8 := l.dropWhile (fun c => decide (bl c))
theorem trimL_nil : trimL [] = [] := rfl
theorem trimL_pos {c : UInt8} {r : List UInt8} (h : bl c) : trimL (c :: r) = trimL r := by unfold trimL; rw [List.dropWhile_cons_of_pos (by simpa using h)]
theorem trimL_neg {c : UInt8} {r : List UInt8} (h : ¬ bl c) : trimL (c :: r) = c :: r := by unfold trimL; rw [List.dropWhile_cons_of_neg (by simpa using h)]
theorem trimL_len (l : List UInt8) : (trimL l).length ≤ l.length := (List.dropWhile_sublist _).length_le
theorem trimR_len (l : List UInt8) : (trimR l).length ≤ l.length := by
  unfold trimR; rw [List.length_reverse]; have := (List.dropWhile_sublist (l := l.reverse) (fun c => decide (bl c))).length_le; simpa using this
theorem snoc_cases (l : List UInt8) : l = [] ∨ ∃ a c, l = a ++ [c] := by
  rcases List.eq_nil_or_concat l with h | ⟨a, c, h⟩
  · exact .inl h
  · exact .inr ⟨a, c, by rw [h, List.concat_eq_append]⟩
theorem trimR_bl {a : List UInt8} {c : UInt8} (h : bl c) : trimR (a ++ [c]) = trimR a := trimR_blank (fun x hx => by simp at hx; rw [hx]; exact h)
theorem trimR_nb {a : List UInt8} {c : UInt8} (h : ¬ bl c) : trimR (a ++ [c]) = a ++ [c] := trimR_snoc h
def trimB (l : List UInt8) : List UInt8 := trimR (trimL l)
theorem set_end : strings_makeASCIISet [13, 10, 0] = some ((List.range 256).map (fun n => decide (n = 13 ∨ n = 10 ∨ n = 0)), true) := by decide +kernel
theorem contains_at (f : Nat → Bool) (c : UInt8) : strings_asciiSet_contains ((List.range 256).map f) c = some (f c.toNat) := by
  have hc := c.toNat_lt
  unfold strings_asciiSet_contains idxA
  rw [if_pos (by simp), idx_nat, List.getElem?_map, List.getElem?_range (by omega)]
  rfl
theorem rep_len : chkA 256 (List.replicate 256 false : List Bool) = some (List.replicate 256 false) := chkA_ok List.length_replicate
theorem rng_len (f : Nat → Bool) : chkA 256 ((List.range 256).map f) = some ((List.range 256).map f) := chkA_ok (by rw [List.length_map, List.length_range])
theorem dr_facts (l : List UInt8) : 1 ≤ (Utf.dr l).2 ∧ (Utf.dr l).2 ≤ 4 ∧ (Utf.nat l 0 < 128 → (Utf.dr l).1 = Utf.nat l 0 ∧ (Utf.dr l).2 = 1) ∧ (128 ≤ Utf.nat l 0 → 128 ≤ (Utf.dr l).1) ∧
    (2 ≤ (Utf.dr l).2 → 128 ≤ Utf.nat l 1 ∧ 1 < l.length) ∧ (3 ≤ (Utf.dr l).2 → 128 ≤ Utf.nat l 2 ∧ 2 < l.length) ∧ (4 ≤ (Utf.dr l).2 → 128 ≤ Utf.nat l 3 ∧ 3 < l.length) ∧ (Utf.dr l).1 ≤ 1114111 := by
  have h0 := Utf.nat_lt l 0
  have h1 := Utf.nat_lt l 1
  have h2 := Utf.nat_lt l 2
  have h3 := Utf.nat_lt l 3
  unfold Utf.dr Lib.decodeN
  split
  · refine ⟨by omega, by omega, fun _ => ⟨rfl, rfl⟩, fun h => by omega, fun h => by omega, fun h => by omega, fun h => by omega, by omega⟩
  · split
    · split <;> simp only [] <;> omega
    · split
      · split <;> simp only [] <;> omega
      · split
        · split <;> simp only [] <;> omega
        · simp only []; omega
theorem endB_lt {c : UInt8} (h : endB c = true) : c.toNat < 128 := by unfold endB at h; rw [decide_eq_true_eq] at h; omega
theorem any_rune {l : List UInt8} {ps : Nat} (h : ps < l.length) : (l.drop ps).any endB = (decide ((Utf.dr (l.drop ps)).1 = 13 ∨ (Utf.dr (l.drop ps)).1 = 10 ∨ (Utf.dr (l.drop ps)).1 = 0) || (l.drop (ps + (Utf.dr (l.drop ps)).2)).any endB) := by
  obtain ⟨a1, a2, a3, a4, a5, a6, a7, a8⟩ := dr_facts (l.drop ps)
  have hl : (l.drop ps).length = l.length - ps := List.length_drop
  have hn : ∀ j, ps + j < l.length → Utf.nat (l.drop ps) j = (l[ps + j]?.getD 0).toNat := fun j hj => by rw [Utf.nat_drop]; unfold Utf.nat; rw [List.getD_eq_getElem?_getD]
  have hnb : ∀ j (hj : ps + j < l.length), 128 ≤ Utf.nat (l.drop ps) j → endB l[ps + j] = false := fun j hj h8 => by
    rw [hn j hj, List.getElem?_eq_getElem hj] at h8
    cases hb : endB l[ps + j] with
    | false => rfl
    | true => have := endB_lt hb; simp at h8; omega
  have hd : ∀ j, ps + j < l.length → (l.drop (ps + j)).any endB = ((l[ps + j]?.elim false endB) || (l.drop (ps + j + 1)).any endB) := fun j hj => by
    rw [drop_cons hj, List.any_cons, List.getElem?_eq_getElem hj]; rfl
  have hfirst : (l[ps]?.elim false endB) = decide ((Utf.dr (l.drop ps)).1 = 13 ∨ (Utf.dr (l.drop ps)).1 = 10 ∨ (Utf.dr (l.drop ps)).1 = 0) := by
    rw [List.getElem?_eq_getElem h]
    have h0 := hn 0 (by omega)
    rw [Nat.add_zero, List.getElem?_eq_getElem h] at h0
    simp only [Option.getD_some] at h0
    show endB l[ps] = _
    rcases Nat.lt_or_ge (Utf.nat (l.drop ps) 0) 128 with hc | hc
    · rw [(a3 hc).1, h0]; rfl
    · have := hnb 0 (by omega) hc
      simp only [Nat.add_zero] at this
      rw [this]
      have := a4 hc
      exact (decide_eq_false (by omega)).symm
  have d0 := hd 0 (by omega)
  simp only [Nat.add_zero] at d0
  rw [d0, hfirst]
  congr 1
  have skip : ∀ j, ps + j < l.length → 128 ≤ Utf.nat (l.drop ps) j → (l.drop (ps + j)).any endB = (l.drop (ps + j + 1)).any endB := fun j hj h8 => by
    rw [hd j hj, List.getElem?_eq_getElem hj]
    show (endB l[ps + j] || _) = _
    rw [hnb j hj h8, Bool.false_or]
  rcases (show (Utf.dr (l.drop ps)).2 = 1 ∨ (Utf.dr (l.drop ps)).2 = 2 ∨ (Utf.dr (l.drop ps)).2 = 3 ∨ (Utf.dr (l.drop ps)).2 = 4 by omega) with e | e | e | e
  · rw [e]
  · rw [e, skip 1 (by omega) (a5 (by omega)).1]
  · rw [e, skip 1 (by have := (a5 (by omega)).2; omega) (a5 (by omega)).1, skip 2 (by have := (a6 (by omega)).2; omega) (a6 (by omega)).1]
  · rw [e, skip 1 (by have := (a5 (by omega)).2; omega) (a5 (by omega)).1, skip 2 (by have := (a6 (by omega)).2; omega) (a6 (by omega)).1, skip 3 (by have := (a7 (by omega)).2; omega) (a7 (by omega)).1]
theorem ub_high {a : Int} (h1 : 128 ≤ a) (h2 : a < 256) : 128 ≤ (Ph.ub a).toNat := by
  unfold Ph.ub
  rw [UInt8.toNat_ofNat']
  omega
theorem utf8_high {r : Int} (h : 128 ≤ r) : 2 ≤ (Chs.utf8 r).length ∧ (Chs.utf8 r).length ≤ 4 ∧ ∀ c ∈ Chs.utf8 r, 128 ≤ c.toNat := by
  have hf : 128 ≤ Chs.fixN r := by unfold Chs.fixN; split <;> omega
  have hk := Chs.fixN_ok r
  unfold Chs.utf8 Chs.utf8M
  rw [if_neg (by omega)]
  split
  · refine ⟨by simp, by simp, fun c hc => ?_⟩
    simp only [List.mem_cons, List.not_mem_nil, or_false] at hc
    rcases hc with rfl | rfl <;> exact ub_high (by omega) (by omega)
  · split
    · refine ⟨by simp, by simp, fun c hc => ?_⟩
      simp only [List.mem_cons, List.not_mem_nil, or_false] at hc
      rcases hc with rfl | rfl | rfl <;> exact ub_high (by omega) (by omega)
    · refine ⟨by simp, by simp, fun c hc => ?_⟩
      simp only [List.mem_cons, List.not_mem_nil, or_false] at hc
      rcases hc with rfl | rfl | rfl | rfl <;> exact ub_high (by omega) (by omega)
theorem ix_low : ∀ n : Nat, n < 128 → decide ((0 : Int) ≤ ixB [13, 10, 0] (ub8 (n : Int))) = decide (n = 13 ∨ n = 10 ∨ n = 0) := by decide +kernel
theorem ix_high : ∀ k, k < 4 → ∀ n, n < 256 → 128 ≤ n → ixB (([13, 10, 0] : List UInt8).drop k) (UInt8.ofNat n) = -1 := by decide +kernel
theorem IndexRune_end (r : Nat) : ∃ n, strings_IndexRune [13, 10, 0] (r : Int) = some n ∧ decide ((0 : Int) ≤ n) = decide (r = 13 ∨ r = 10 ∨ r = 0) := by
  unfold strings_IndexRune
  rw [if_pos (by omega)]
  simp only [bsome]
  by_cases h1 : r < 128
  · rw [decide_eq_true (by omega), if_pos rfl]
    exact ⟨_, rfl, ix_low r h1⟩
  · rw [decide_eq_false (by omega), if_neg (by simp), decide_eq_false (show ¬ (r = 13 ∨ r = 10 ∨ r = 0) by omega)]
    have neg : ∀ {x : Option Int}, x = some (-1) → ∃ n, x = some n ∧ decide ((0 : Int) ≤ n) = false := fun h => ⟨-1, h, by decide⟩
    refine neg ?_
    by_cases h2 : (r : Int) = 65533
    · rw [if_pos h2]; decide +kernel
    · rw [if_neg h2]
      have hv : ∃ b, utf8_ValidRune (r : Int) = some b := by
        unfold utf8_ValidRune
        rw [if_pos (by omega)]
        simp only [bsome]
        split
        · exact ⟨_, rfl⟩
        · split
          · simp only [bsome]; split <;> exact ⟨_, rfl⟩
          · simp only [bsome]; exact ⟨_, rfl⟩
      obtain ⟨b, hb⟩ := hv
      rw [hb]
      simp only [bsome]
      cases b with
      | false => rfl
      | true =>
        rw [if_pos rfl]
        obtain ⟨u1, u2, u3⟩ := utf8_high (r := (r : Int)) (by omega)
        rw [show ((Chs.utf8 (r : Int)).length : Int) - 1 = (((Chs.utf8 (r : Int)).length - 1 : Nat) : Int) by omega, chk_ok (by omega) (by omega)]
        simp only [bsome]
        generalize hk : (Chs.utf8 (r : Int)).length - 1 = k
        rw [show FU = 18446744073709551615 + 1 from rfl, strings_IndexRune_L2]
        have hkl : k < (Chs.utf8 (r : Int)).length := by omega
        have hc := u3 _ (List.getElem_mem hkl)
        by_cases h3 : k < 3
        · rw [if_pos (by simp; omega), idx_nat, idx_nat, List.getElem?_eq_getElem hkl, List.getElem?_eq_getElem (show k < ([13, 10, 0] : List UInt8).length from h3)]
          simp only [bsome]
          have hne : ¬ (([13, 10, 0] : List UInt8)[k]'h3 = (Chs.utf8 (r : Int))[k]) := by
            intro he
            rw [← he] at hc
            have : ∀ k (h : k < 3), (([13, 10, 0] : List UInt8)[k]'h).toNat < 128 := by decide
            have := this k h3
            omega
          rw [if_neg hne, chk_succ (by omega)]
          simp only [bsome]
          rw [cut_from rfl (by simp; omega)]
          simp only [bsome]
          unfold strings_IndexByte
          have hx := ix_high (k + 1) (by omega) ((Chs.utf8 (r : Int))[k]).toNat (UInt8.toNat_lt _) hc
          rw [UInt8.ofNat_toNat] at hx
          rw [hx]
          simp only [bsome]
          rw [if_pos (by omega)]
          simp only [bsome]
        · rw [if_neg (by simp; omega)]
          simp only [bsome]
theorem IndexAny_L2_end (l : List UInt8) : ∀ (k ps m : Nat), l.length - ps ≤ k → k < m → ∃ o, strings_IndexAny_L2 l [13, 10, 0] m ps = some o ∧ ((l.drop ps).any endB = true → ∃ n, o = .inr n ∧ 0 ≤ n) ∧ ((l.drop ps).any endB = false → o = .inl ())
  | k, ps, m, h1, h2 => by
    obtain ⟨m, rfl⟩ : ∃ k, m = k + 1 := ⟨m - 1, by omega⟩
    by_cases h : ps < l.length
    · rw [strings_IndexAny_L2, if_pos h]
      obtain ⟨n, hn1, hn2⟩ := IndexRune_end (Utf.dr (l.drop ps)).1
      rw [hn1]
      simp only [bsome]
      rw [any_rune h]
      by_cases hc : 0 ≤ n
      · rw [if_pos hc]
        rw [decide_eq_true hc] at hn2
        rw [← hn2]
        exact ⟨_, rfl, fun _ => ⟨_, rfl, by omega⟩, fun h => by simp at h⟩
      · rw [if_neg hc]
        rw [decide_eq_false hc] at hn2
        rw [← hn2, Bool.false_or]
        have hs := (dr_facts (l.drop ps)).1
        cases k with
        | zero => omega
        | succ k => exact IndexAny_L2_end l k (ps + (Utf.dr (l.drop ps)).2) m (by omega) (by omega)
    · rw [strings_IndexAny_L2, if_neg h, List.drop_of_length_le (by omega)]
      exact ⟨_, rfl, fun h => by simp at h, fun _ => rfl⟩
theorem fold_ends_eq (l : List UInt8) (hl : Big l) : fold_ends l = some (l.any endB) := by
  unfold fold_ends strings_ContainsAny strings_IndexAny strings_shouldUseASCIISet
  rw [if_neg (by decide), if_neg (by decide)]
  simp only [bsome]
  by_cases h8 : 8 < l.length
  · rw [decide_eq_true (by omega), if_pos rfl, set_end]
    simp only [bsome, rep_len, rng_len, if_true]
    rcases scanP (strings_IndexAny_L1 l ((List.range 256).map (fun n => decide (n = 13 ∨ n = 10 ∨ n = 0)))) l (fun i c => if endB c = true then some (Sum.inr (i : Int)) else none) (.inl ()) (fun m => by rw [strings_IndexAny_L1, if_neg (by omega)]) (fun m i h => by
      rw [strings_IndexAny_L1, if_pos (by omega), idx_nat, List.getElem?_eq_getElem h, chk_succ (by have := hl; omega)]
      simp only [bsome, contains_at]
      show (if endB l[i] = true then _ else _) = _
      by_cases he : endB l[i] = true
      · rw [if_pos he, if_pos he]
      · rw [if_neg he, if_neg he]) l.length 0 FU (by omega) (FU_gt (by omega)) (by omega) with ⟨j, hj, r, a1, a2, a3, a4⟩ | ⟨a1, a2⟩
    · rw [show ((0 : Nat) : Int) = 0 from rfl] at a4
      rw [a4]
      split at a2
      · rename_i he
        cases a2
        have : l.any endB = true := List.any_eq_true.2 ⟨_, List.getElem_mem hj, he⟩
        rw [this]
        simp only [bsome]
        rw [decide_eq_true (by omega)]
      · cases a2
    · rw [show ((0 : Nat) : Int) = 0 from rfl] at a2
      rw [a2]
      have : l.any endB = false := by
        rw [List.any_eq_false]
        intro c hc
        obtain ⟨i, hi, rfl⟩ := List.getElem_of_mem hc
        have := a1 i hi (by omega)
        intro he
        rw [if_pos he] at this
        cases this
      rw [this]
      simp only [bsome]
      rfl
  · rw [decide_eq_false (by omega), if_neg (by simp)]
    simp only [bsome]
    obtain ⟨o, ho, h1, h2⟩ := IndexAny_L2_end l l.length 0 FU (by omega) (FU_gt (by omega))
    rw [List.drop_zero] at h1 h2
    rw [ho]
    simp only [bsome]
    cases hb : l.any endB with
    | true =>
      obtain ⟨n, rfl, hn⟩ := h1 hb
      simp only [bsome]
      rw [decide_eq_true hn]
    | false =>
      rw [h2 hb]
      simp only [bsome]
      rfl
theorem trimB_self (l : List UInt8) : trimB l = l ↔ (l = [] ∨ ((∀ c, l.head? = some c → ¬ bl c) ∧ (∀ c, l.getLast? = some c → ¬ bl c))) := by
  unfold trimB
  cases l with
  | nil => simp [trimL_nil, trimR_nil]
  | cons c r =>
    constructor
    · intro h
      have hc : ¬ bl c := by
        intro hb
        rw [trimL_pos hb] at h
        have h1 := trimR_len (trimL r)
        have h2 := trimL_len r
        rw [h] at h1
        simp at h1
        omega
      rw [trimL_neg hc] at h
      refine .inr ⟨fun d hd => by simp at hd; rw [← hd]; exact hc, fun d hd hb => ?_⟩
      rcases snoc_cases (c :: r) with h0 | ⟨a, x, hax⟩
      · cases h0
      · rw [hax] at hd h
        simp at hd
        subst hd
        rw [trimR_bl hb] at h
        have := trimR_len a
        rw [h] at this
        simp at this
        omega
    · rintro (h | ⟨h1, h2⟩)
      · cases h
      · rw [trimL_neg (h1 c rfl)]
        rcases snoc_cases (c :: r) with h0 | ⟨a, x, hax⟩
        · cases h0
        · rw [hax] at h2 ⊢
          exact trimR_nb (h2 x (by simp))
def valB (l : List UInt8) : Bool := !l.any endB && decide (trimB l = l)
theorem fold_value_eq (l : List UInt8) (hl : Big l) : fold_value l = some (valB l) := by
  unfold fold_value valB
  rw [fold_ends_eq l hl]
  simp only [bsome]
  cases hb : l.any endB with
  | true => rfl
  | false =>
    simp only [Bool.false_eq_true, if_false]
    rw [show decide (trimB l = l) = decide (l = [] ∨ ((∀ c, l.head? = some c → ¬ bl c) ∧ (∀ c, l.getLast? = some c → ¬ bl c))) from decide_eq_decide.2 (trimB_self l)]
    by_cases h : l = []
    · rw [if_pos h, decide_eq_true (.inl h)]; rfl
    · rw [if_neg h]
      have hpos : 0 < l.length := by cases l <;> simp_all
      have hh : l.head? = some l[0] := by rw [List.head?_eq_getElem?, List.getElem?_eq_getElem hpos]
      have hg : l.getLast? = some (l[l.length - 1]'(by omega)) := by rw [List.getLast?_eq_getElem?, List.getElem?_eq_getElem]
      rw [show (0 : Int) = ((0 : Nat) : Int) from rfl, idx_nat, List.getElem?_eq_getElem hpos, chk_pred (by omega) (by omega)]
      simp only [bsome, basic_Blank_eq]
      rw [idx_nat, List.getElem?_eq_getElem (by omega)]
      simp only [bsome, basic_Blank_eq, hh, hg, Option.some.injEq]
      by_cases h1 : bl l[0]
      · rw [decide_eq_true h1, if_pos rfl]
        simp only [bsome]
        rw [decide_eq_false (fun x => x.elim h (fun y => y.1 _ hh h1))]; rfl
      · rw [decide_eq_false h1, if_neg (by simp)]
        simp only [bsome]
        by_cases h2 : bl (l[l.length - 1]'(by omega))
        · rw [decide_eq_true h2, decide_eq_false (fun x => x.elim h (fun y => y.2 _ hg h2))]; rfl
        · rw [decide_eq_false h2, decide_eq_true (.inr ⟨fun c hc => by rw [hh] at hc; cases hc; exact h1, fun c hc => by rw [hg] at hc; cases hc; exact h2⟩)]; rfl
def codeF (n v : List UInt8) : Int := if nmL n = true then (if 4000 < v.length then 1 else if valB v = true then 0 else 11) else 10
theorem bk_at' {s : List UInt8} {i : Nat} (h0 : 0 < i) (h : i < s.length) : bk s i = decide (bl s[i] ∧ ¬ bl (s[i - 1]'(by omega))) := bk_at h0 (List.getElem?_eq_getElem _) (List.getElem?_eq_getElem _)
theorem point_loop (s : List UInt8) (hs : s.length ≤ 1000000) : ∀ (k i m best : Nat), s.length - i ≤ k → k < m → 0 < i → fold_point_L1 s m (best : Int) (i : Int) = some ((sc s (s.length - i) i best : Nat) : Int)
  | k, i, m, best, h1, h2, h3 => by
    obtain ⟨m, rfl⟩ : ∃ k, m = k + 1 := ⟨m - 1, by omega⟩
    by_cases hi : i < s.length
    · cases k with
      | zero => omega
      | succ k =>
      rw [fold_point_L1, if_pos (by omega), idx_nat, List.getElem?_eq_getElem hi, chk_pred (by omega) (by omega), chk_succ (by omega)]
      simp only [bsome, basic_Blank_eq, idx_nat]
      rw [List.getElem?_eq_getElem (show i - 1 < s.length by omega)]
      simp only [bsome, basic_Blank_eq]
      have hc : (if decide (bl s[i]) = true then some (decide (bl (s[i - 1]'(by omega)))) else some true) = some (!bk s i) := by
        rw [bk_at' h3 hi]
        by_cases c1 : bl s[i] <;> by_cases c2 : bl (s[i - 1]'(by omega)) <;> simp [c1, c2]
      rw [hc]
      simp only [bsome]
      rw [show s.length - i = (s.length - (i + 1)) + 1 by omega, sc]
      cases hb : bk s i with
      | false =>
        simp only [Bool.not_false, if_true, Bool.false_eq_true, if_false]
        exact point_loop s hs k (i + 1) m best (by omega) (by omega) (by omega)
      | true =>
        simp only [Bool.not_true, if_true, Bool.false_eq_true, if_false]
        by_cases hbest : 0 < best
        · rw [if_pos (by omega)]
          simp only [bsome]
          by_cases h78 : 78 < i
          · rw [decide_eq_true (by omega), if_pos rfl, if_neg (by omega), sc_stay _ _ _ _ hbest (by omega)]
          · rw [decide_eq_false (by omega), if_neg (by simp), if_pos (by omega)]
            exact point_loop s hs k (i + 1) m i (by omega) (by omega) (by omega)
        · rw [if_neg (by omega)]
          simp only [bsome, Bool.false_eq_true, if_false]
          rw [if_pos (by omega)]
          exact point_loop s hs k (i + 1) m i (by omega) (by omega) (by omega)
    · rw [fold_point_L1, if_neg (by omega), show s.length - i = 0 by omega]; rfl
theorem fold_point_eq (s : List UInt8) (hs : s.length ≤ 1000000) (k : Nat) : fold_point s (k : Int) = some ((pt s (max k 1) : Nat) : Int) := by
  unfold fold_point pt
  rw [show max (k : Int) 1 = ((max k 1 : Nat) : Int) by omega]
  have := point_loop s hs s.length (max k 1) FU 0 (by omega) (FU_gt (by omega)) (by omega)
  rw [show ((0 : Nat) : Int) = 0 from rfl] at this
  rw [this]
  rfl
theorem fold_L1_eq : ∀ (f m k : Nat) (s : List UInt8) (o : List (List UInt8)), s.length ≤ f → f < m → s.length ≤ 1000000 → o.length + s.length ≤ 1000000 →
    ∃ a b, fold_Fold_L1 m s (k : Int) o = some (a, b) ∧ b ++ [a] = o ++ fl s (max k 1) ∧ a.length ≤ s.length ∧ b.length ≤ o.length + s.length
  | f, m, k, s, o, h1, h2, h3, h4 => by
    obtain ⟨m, rfl⟩ : ∃ k, m = k + 1 := ⟨m - 1, by omega⟩
    by_cases h78 : 78 < s.length
    · rw [fold_Fold_L1, if_pos (by omega), fold_point_eq s h3]
      simp only [bsome]
      by_cases h0 : pt s (max k 1) = 0
      · rw [if_pos (by omega), fl_end (fun h => h.2 h0)]
        exact ⟨_, _, rfl, rfl, Nat.le_refl _, by omega⟩
      · obtain ⟨p1, p2, p3⟩ := pt_lt (by omega) h0
        rw [if_neg (by omega), cut_to rfl (by omega), cut_from rfl (by omega)]
        simp only [bsome]
        rw [app_ok (by simp only [List.length_cons, List.length_nil]; omega)]
        simp only [bsome]
        cases f with
        | zero => omega
        | succ f =>
          obtain ⟨a, b, e1, e2, e3, e4⟩ := fold_L1_eq f m 0 (s.drop (pt s (max k 1))) (o ++ [s.take (pt s (max k 1))]) (by rw [List.length_drop]; omega) (by omega) (by rw [List.length_drop]; omega) (by rw [List.length_append, List.length_drop]; simp; omega)
          rw [List.length_drop] at e3 e4
          simp only [List.length_append, List.length_cons, List.length_nil] at e4
          refine ⟨a, b, e1, ?_, by omega, by omega⟩
          rw [e2, fl_more (by omega) ⟨h78, h0⟩]
          simp
    · rw [fold_Fold_L1, if_neg (by omega), fl_end (fun h => h78 h.1)]
      exact ⟨_, _, rfl, rfl, Nat.le_refl _, by omega⟩
def bigL (a : List UInt8) : Bool := decide (998 < a.length)
theorem first_big {β : Type} (L : Nat → Int → Option β) (l : List (List UInt8)) (hl : l.length ≤ 1000000) (r : Nat → β) (stop : β) (hend : ∀ m, L (m + 1) (l.length : Int) = some stop)
    (hstep : ∀ m i (h : i < l.length), L (m + 1) (i : Int) = if bigL l[i] = true then some (r i) else L m ((i + 1 : Nat) : Int)) : L FU 0 = some (match l.findIdx? bigL with | some j => r j | none => stop) := by
  rcases scanP L l (fun i a => if bigL a = true then some (r i) else none) stop hend (fun m i h => by
    rw [hstep m i h]; split <;> rfl) l.length 0 FU (by omega) (FU_gt (by omega)) (by omega) with ⟨j, hj, x, a1, a2, a3, a4⟩ | ⟨a1, a2⟩
  · rw [show ((0 : Nat) : Int) = 0 from rfl] at a4
    rw [a4]
    have hb : bigL l[j] = true := by
      by_cases hb : bigL l[j] = true
      · exact hb
      · simp only [hb, if_false, Bool.false_eq_true] at a2; cases a2
    simp only [hb, if_true] at a2
    cases a2
    have : l.findIdx? bigL = some j := by
      rw [List.findIdx?_eq_some_iff_getElem]
      refine ⟨hj, hb, fun a ha => ?_⟩
      have := a3 a (by omega) (by omega) ha
      intro hc
      simp only [hc, if_true] at this
      cases this
    rw [this]
  · rw [show ((0 : Nat) : Int) = 0 from rfl] at a2
    rw [a2]
    have : l.findIdx? bigL = none := by
      rw [List.findIdx?_eq_none_iff]
      intro x hx
      obtain ⟨i, hi, rfl⟩ := List.getElem_of_mem hx
      have := a1 i hi (by omega)
      cases hc : bigL l[i] with
      | false => rfl
      | true => simp only [hc, if_true] at this; cases this
    rw [this]
theorem fl_len : ∀ (n : Nat) (s : List UInt8) (k : Nat), 0 < k → s.length ≤ n → (fl s k).length ≤ s.length + 1
  | 0, s, k, hk, h => by
    rw [fl_end (fun h' => by omega)]; simp
  | n + 1, s, k, hk, h => by
    by_cases hc : 78 < s.length ∧ pt s k ≠ 0
    · have h1 := pt_lt hk hc.2
      have := fl_len n (s.drop (pt s k)) 1 (by omega) (by rw [List.length_drop]; omega)
      rw [fl_more hk hc, List.length_cons]
      rw [List.length_drop] at this
      omega
    · rw [fl_end hc]; simp
def fieldS (n v : List UInt8) : List UInt8 := n ++ [58, 32] ++ v
def foldR (n v : List UInt8) : List (List UInt8) × (Int × Int) :=
  if codeF n v = 0 then (match (fl (fieldS n v) (n.length + 2)).findIdx? bigL with | some j => ([], (1, (j : Int))) | none => (fl (fieldS n v) (n.length + 2), (0, 0))) else ([], (codeF n v, -1))
theorem nmL_len {n : List UInt8} (h : nmL n = true) : 1 ≤ n.length ∧ n.length ≤ 60 := by
  unfold nmL at h
  rw [Bool.and_eq_true, decide_eq_true_eq] at h
  exact h.2
theorem fold_Fold_eq (n v : List UInt8) (hn : Big n) (hv : Big v) : fold_Fold n v = some (foldR n v) := by
  unfold fold_Fold foldR codeF
  rw [fold_name_eq n hn]
  simp only [bsome]
  cases h : nmL n with
  | false => rfl
  | true =>
    have h60 := nmL_len h
    simp only [if_true]
    by_cases hv4 : 4000 < v.length
    · rw [if_pos (by omega), if_pos hv4]; rfl
    · rw [if_neg (by omega), if_neg hv4, fold_value_eq v hv]
      simp only [bsome]
      cases hb : valB v with
      | false => rfl
      | true =>
        simp only [if_true]
        have e1 : (n ++ [58, 32] ++ v) = fieldS n v := rfl
        have hsl : (fieldS n v).length = n.length + 2 + v.length := by unfold fieldS; simp; omega
        rw [cat_ok (by simp only [List.length_cons, List.length_nil]; omega)]
        simp only [bsome]
        rw [cat_ok (by rw [List.length_append]; simp only [List.length_cons, List.length_nil]; omega), show ((n.length : Int) + 2) = ((n.length + 2 : Nat) : Int) by omega, chk_ok (by omega) (by omega)]
        simp only [bsome, e1]
        obtain ⟨a, b, f1, f2, f3, f4⟩ := fold_L1_eq (fieldS n v).length FU (n.length + 2) (fieldS n v) [] (Nat.le_refl _) (FU_gt (by omega)) (by omega) (by simp; omega)
        rw [f1]
        simp only [bsome]
        rw [app_ok (by simp only [List.length_cons, List.length_nil] at f4 ⊢; omega)]
        simp only [bsome]
        rw [f2, List.nil_append, show max (n.length + 2) 1 = n.length + 2 by omega]
        have hfl := fl_len (fieldS n v).length (fieldS n v) (n.length + 2) (by omega) (Nat.le_refl _)
        rw [first_big (fun m i => fold_Fold_L2 (fl (fieldS n v) (n.length + 2)) m 0 0 i) (fl (fieldS n v) (n.length + 2)) (by omega) (fun i => .inr ([], (1, (i : Int)))) (.inl (0, 0)) (fun m => by rw [fold_Fold_L2, if_neg (by omega)]) (fun m i h => by
          rw [fold_Fold_L2, if_pos (by omega), idx_nat, List.getElem?_eq_getElem h, chk_succ (by omega)]
          simp only [bsome]
          unfold bigL basic_Fault
          by_cases hbig : 998 < ((fl (fieldS n v) (n.length + 2))[i]).length
          · rw [if_pos (by omega), if_pos (decide_eq_true hbig)]; rfl
          · rw [if_neg (by omega), if_neg (by rw [decide_eq_true_eq]; exact hbig)])]
        simp only [bsome]
        cases (fl (fieldS n v) (n.length + 2)).findIdx? bigL with
        | none => rfl
        | some j => rfl
def faultR (n v : List UInt8) : Int × Int :=
  if codeF n v = 0 then (match (fl (fieldS n v) (n.length + 2)).findIdx? bigL with | some j => (1, (j : Int)) | none => (0, 0)) else (codeF n v, -1)
theorem R_Strings_eq (a b : List (List UInt8)) (h : a.length ≤ 140737488355328) : R_Strings a b = some (decide (a = b)) := by
  unfold R_Strings
  by_cases hl : a.length = b.length
  · have key : ∀ (k i m : Nat), a.length - i ≤ k → k < m → i ≤ a.length → R_Strings_L1 a b m (i : Int) = some (if a.drop i = b.drop i then .inl () else .inr false) := by
      intro k
      induction k with
      | zero =>
        intro i m h1 h2 h3
        obtain ⟨m, rfl⟩ : ∃ k, m = k + 1 := ⟨m - 1, by omega⟩
        rw [R_Strings_L1, if_neg (by omega), List.drop_of_length_le (by omega), List.drop_of_length_le (by omega)]; rfl
      | succ k ih =>
        intro i m h1 h2 h3
        obtain ⟨m, rfl⟩ : ∃ k, m = k + 1 := ⟨m - 1, by omega⟩
        by_cases hi : i < a.length
        · rw [R_Strings_L1, if_pos (by omega), idx_nat, idx_nat, List.getElem?_eq_getElem hi, List.getElem?_eq_getElem (show i < b.length by omega), chk_succ (by omega), drop_cons hi, drop_cons (l := b) (i := i) (by omega)]
          simp only [bsome]
          by_cases he : a[i] = b[i]
          · rw [if_pos he, ih (i + 1) m (by omega) (by omega) (by omega), he]
            simp only [List.cons.injEq, true_and]
          · rw [if_neg he, if_neg (fun x => he (List.cons.inj x).1)]
        · rw [R_Strings_L1, if_neg (by omega), List.drop_of_length_le (by omega), List.drop_of_length_le (by omega)]; rfl
    have := key a.length 0 FU (by omega) (FU_gt (by omega)) (by omega)
    rw [show ((0 : Nat) : Int) = 0 from rfl, List.drop_zero, List.drop_zero] at this
    rw [if_pos (by omega), this]
    by_cases he : a = b
    · simp [he]
    · simp [he]
  · rw [if_neg (by omega), decide_eq_false (fun x => hl (by rw [x]))]
def hd (a : List UInt8) : Bool := match a with | [] => true | c :: _ => !decide (bl c)
end Go.Ph.Pf
end
section
set_option linter.unusedVariables false
set_option linter.unusedSimpArgs false
namespace Go.Ph.B64
theorem byThree {P : List UInt8 → Prop} (h0 : P []) (h1 : ∀ a, P [a]) (h2 : ∀ a b, P [a, b]) (h3 : ∀ a b c l, P l → P (a :: b :: c :: l)) : ∀ l, P l
  | [] => h0
  | [a] => h1 a
  | [a, b] => h2 a b
  | a :: b :: c :: l => h3 a b c l (byThree h0 h1 h2 h3 l)
abbrev A (k : Nat) : UInt8 := alpha.getD k 0
theorem outp_eq (l : List UInt8) : outp l 4 = [ch l 0, ch l 1, ch l 2, ch l 3] := rfl
theorem ch_of (l : List UInt8) (i : Nat) (h : i ≤ min 3 l.length) : ch l i = A (accN l 3 / 2 ^ (18 - 6 * i) % 64) := by
  unfold ch; rw [if_neg (by omega)]
theorem acc3 (l : List UInt8) : accN l 3 = (l.getD 0 0).toNat * 65536 + (l.getD 1 0).toNat * 256 + (l.getD 2 0).toNat := by
  simp only [accN]; omega
theorem grp3 (a b c : UInt8) (l : List UInt8) : outp (a :: b :: c :: l) 4 = [A (a.toNat / 4), A (a.toNat % 4 * 16 + b.toNat / 16), A (b.toNat % 16 * 4 + c.toNat / 64), A (c.toNat % 64)] := by
  have ha := a.toNat_lt
  have hb := b.toNat_lt
  have hc := c.toNat_lt
  have h := acc3 (a :: b :: c :: l)
  simp only [List.getD_cons_zero, List.getD_cons_succ] at h
  rw [outp_eq, ch_of _ _ (by simp), ch_of _ _ (by simp), ch_of _ _ (by simp), ch_of _ _ (by simp), h]
  congr 2
  · simp only [Nat.mul_zero, Nat.sub_zero]; omega
  congr 2
  · simp only [Nat.mul_one]; omega
  congr 2
  · omega
  rw [show (a.toNat * 65536 + b.toNat * 256 + c.toNat) / 2 ^ (18 - 6 * 3) % 64 = c.toNat % 64 by rw [show 2 ^ (18 - 6 * 3) = 1 from rfl, Nat.div_one]; omega]
theorem grp1 (a : UInt8) : outp [a] 4 = [A (a.toNat / 4), A (a.toNat % 4 * 16), 61, 61] := by
  have ha := a.toNat_lt
  have h := acc3 [a]
  simp only [List.getD_cons_zero, List.getD_cons_succ, List.getD_nil] at h
  rw [outp_eq, ch_of _ _ (by simp), ch_of _ _ (by simp), h]
  congr 2
  · simp; omega
  congr 2
  simp; omega
theorem grp2 (a b : UInt8) : outp [a, b] 4 = [A (a.toNat / 4), A (a.toNat % 4 * 16 + b.toNat / 16), A (b.toNat % 16 * 4), 61] := by
  have ha := a.toNat_lt
  have hb := b.toNat_lt
  have h := acc3 [a, b]
  simp only [List.getD_cons_zero, List.getD_cons_succ, List.getD_nil] at h
  rw [outp_eq, ch_of _ _ (by simp), ch_of _ _ (by simp), ch_of _ _ (by simp), h]
  congr 2
  · simp; omega
  congr 2
  · simp; omega
  congr 2
  simp; omega
theorem grps_three (a b c : UInt8) (l : List UInt8) : grps (a :: b :: c :: l) = outp (a :: b :: c :: l) 4 :: grps l := by
  unfold grps
  have h1 : ((a :: b :: c :: l).length + 2) / 3 = (l.length + 2) / 3 + 1 := by simp only [List.length_cons]; omega
  rw [h1]
  unfold grpsTo
  rw [List.range_succ_eq_map, List.map_cons, List.map_map]
  congr 1
theorem grps_one (a : UInt8) : grps [a] = [outp [a] 4] := by
  unfold grps
  rw [show ([a].length + 2) / 3 = 1 by simp]
  simp [grpsTo, grpAt, List.range_succ]
theorem grps_two (a b : UInt8) : grps [a, b] = [outp [a, b] 4] := by
  unfold grps
  rw [show ([a, b].length + 2) / 3 = 1 by simp]
  simp [grpsTo, grpAt, List.range_succ]
theorem sumN6 (x y z u v w : Nat) : sumN [x, y, z, u, v, w] = 32 * x + 16 * y + 8 * z + 4 * u + 2 * v + w := by simp [sumN]; omega
theorem six_add (x bits : List Nat) (m q : Nat) (hx : x.length = 6 * m) : six (x ++ bits) (m + q) = six bits q := by
  unfold six
  congr 1
  rw [List.drop_take, List.drop_take]
  rw [show 6 * (m + q) = x.length + 6 * q by omega, List.drop_length_add_append]
  congr 1
  omega
theorem sext_add (x bits : List Nat) (m : Nat) (hx : x.length = 6 * m) (q : Nat) : sext (x ++ bits) (m + q) = sext (x ++ bits) m ++ sext bits q := by
  induction q with
  | zero => simp [sext]
  | succ q ih => rw [← Nat.add_assoc, sext, sext, ih, six_add x bits m q hx, List.append_assoc]
theorem padBits_three (a b c : UInt8) (l : List UInt8) : padBits (a :: b :: c :: l) = (bits8 a.toNat ++ bits8 b.toNat ++ bits8 c.toNat) ++ padBits l := by
  unfold padBits bitsOf
  simp only [List.flatMap_cons, List.append_assoc, List.length_cons]
  rw [show (6 - 8 * (l.length + 1 + 1 + 1) % 6) % 6 = (6 - 8 * l.length % 6) % 6 by omega]
theorem sext_lit (x : List Nat) (bits : List Nat) (n1 n2 n3 n4 : Nat) (h1 : six (x ++ bits) 0 = n1) (h2 : six (x ++ bits) 1 = n2) (h3 : six (x ++ bits) 2 = n3) (h4 : six (x ++ bits) 3 = n4) (l1 : n1 < 64) (l2 : n2 < 64) (l3 : n3 < 64) (l4 : n4 < 64) :
    sext (x ++ bits) 4 = [A n1, A n2, A n3, A n4] := by
  simp only [sext, h1, h2, h3, h4, alpha_one _ l1, alpha_one _ l2, alpha_one _ l3, alpha_one _ l4]
  rfl
theorem chars_three (a b c : UInt8) (l : List UInt8) : chars64 (a :: b :: c :: l) = outp (a :: b :: c :: l) 4 ++ chars64 l := by
  have ha := a.toNat_lt
  have hb := b.toNat_lt
  have hc := c.toNat_lt
  have hlen : (padBits (a :: b :: c :: l)).length / 6 = 4 + (padBits l).length / 6 := by
    rw [padBits_three, List.length_append]
    simp only [List.length_append, bits8_len]
    omega
  have h4 : sext (padBits (a :: b :: c :: l)) 4 = outp (a :: b :: c :: l) 4 := by
    rw [grp3, padBits_three]
    refine sext_lit _ _ _ _ _ _ ?_ ?_ ?_ ?_ (by omega) (by omega) (by omega) (by omega)
    · simp only [six, bits8, List.cons_append, List.nil_append, List.take_succ_cons, List.take_zero, List.drop_zero, Nat.mul_zero, Nat.zero_add, sumN6]; omega
    · simp only [six, bits8, List.cons_append, List.nil_append, List.take_succ_cons, List.take_zero, List.drop_succ_cons, List.drop_zero, Nat.mul_one, sumN6]; omega
    · simp only [six, bits8, List.cons_append, List.nil_append, List.take_succ_cons, List.take_zero, List.drop_succ_cons, List.drop_zero, sumN6]; omega
    · simp only [six, bits8, List.cons_append, List.nil_append, List.take_succ_cons, List.take_zero, List.drop_succ_cons, List.drop_zero, sumN6]; omega
  have hs : sext (padBits (a :: b :: c :: l)) ((padBits (a :: b :: c :: l)).length / 6) = outp (a :: b :: c :: l) 4 ++ sext (padBits l) ((padBits l).length / 6) := by
    rw [hlen, ← h4, padBits_three]
    exact sext_add _ _ 4 (by simp [bits8_len]) _
  unfold chars64
  simp only [hs, List.append_assoc, List.length_append]
  congr 3
  rw [show (outp (a :: b :: c :: l) 4).length = 4 from rfl]
  omega
theorem padBits_one (a : UInt8) : padBits [a] = bits8 a.toNat ++ [0, 0, 0, 0] := by simp [padBits, bitsOf, List.replicate]
theorem padBits_two (a b : UInt8) : padBits [a, b] = bits8 a.toNat ++ bits8 b.toNat ++ [0, 0] := by simp [padBits, bitsOf, List.replicate]
theorem chars_of {l : List UInt8} {q : Nat} {s : List UInt8} (hq : (padBits l).length / 6 = q) (h : sext (padBits l) q = s) : chars64 l = s ++ List.replicate ((4 - s.length % 4) % 4) 61 := by
  unfold chars64; rw [hq, h]
theorem chars_one (a : UInt8) : chars64 [a] = outp [a] 4 := by
  have ha := a.toNat_lt
  rw [grp1]
  have h : sext (padBits [a]) 2 = [A (a.toNat / 4), A (a.toNat % 4 * 16)] := by
    rw [padBits_one]
    have h1 : six (bits8 a.toNat ++ [0, 0, 0, 0]) 0 = a.toNat / 4 := by
      simp only [six, bits8, List.cons_append, List.nil_append, List.take_succ_cons, List.take_zero, List.drop_zero, Nat.mul_zero, Nat.zero_add, sumN6]; omega
    have h2 : six (bits8 a.toNat ++ [0, 0, 0, 0]) 1 = a.toNat % 4 * 16 := by
      simp only [six, bits8, List.cons_append, List.nil_append, List.take_succ_cons, List.take_zero, List.drop_succ_cons, List.drop_zero, Nat.mul_one, sumN6]; omega
    simp only [sext, h1, h2, alpha_one _ (show a.toNat / 4 < 64 by omega), alpha_one _ (show a.toNat % 4 * 16 < 64 by omega)]
    rfl
  rw [chars_of (by rw [padBits_one]; simp [bits8_len]) h]; rfl
theorem chars_two (a b : UInt8) : chars64 [a, b] = outp [a, b] 4 := by
  have ha := a.toNat_lt
  have hb := b.toNat_lt
  rw [grp2]
  have h : sext (padBits [a, b]) 3 = [A (a.toNat / 4), A (a.toNat % 4 * 16 + b.toNat / 16), A (b.toNat % 16 * 4)] := by
    rw [padBits_two]
    have h1 : six (bits8 a.toNat ++ bits8 b.toNat ++ [0, 0]) 0 = a.toNat / 4 := by
      simp only [six, bits8, List.cons_append, List.nil_append, List.take_succ_cons, List.take_zero, List.drop_zero, Nat.mul_zero, Nat.zero_add, sumN6]; omega
    have h2 : six (bits8 a.toNat ++ bits8 b.toNat ++ [0, 0]) 1 = a.toNat % 4 * 16 + b.toNat / 16 := by
      simp only [six, bits8, List.cons_append, List.nil_append, List.take_succ_cons, List.take_zero, List.drop_succ_cons, List.drop_zero, Nat.mul_one, sumN6]; omega
    have h3 : six (bits8 a.toNat ++ bits8 b.toNat ++ [0, 0]) 2 = b.toNat % 16 * 4 := by
      simp only [six, bits8, List.cons_append, List.nil_append, List.take_succ_cons, List.take_zero, List.drop_succ_cons, List.drop_zero, sumN6]; omega
    simp only [sext, h1, h2, h3, alpha_one _ (show a.toNat / 4 < 64 by omega), alpha_one _ (show a.toNat % 4 * 16 + b.toNat / 16 < 64 by omega), alpha_one _ (show b.toNat % 16 * 4 < 64 by omega)]
    rfl
  rw [chars_of (by rw [padBits_two]; simp [bits8_len]) h]; rfl
theorem chars_grps (l : List UInt8) : chars64 l = (grps l).flatten := by
  induction l using byThree with
  | h0 => rfl
  | h1 a => rw [chars_one, grps_one]; simp
  | h2 a b => rw [chars_two, grps_two]; simp
  | h3 a b c l ih => rw [chars_three, grps_three, List.flatten_cons, ih]
theorem flat_len (gs : List (List UInt8)) (h : ∀ g ∈ gs, g.length = 4) : gs.flatten.length = 4 * gs.length := by
  induction gs with
  | nil => rfl
  | cons g gs ih =>
    rw [List.flatten_cons, List.length_append, h g List.mem_cons_self, ih (fun x hx => h x (List.mem_cons_of_mem _ hx)), List.length_cons]
    omega
theorem chars_len (l : List UInt8) : (chars64 l).length = 4 * ((l.length + 2) / 3) := by
  rw [chars_grps, flat_len _ (grps_all l), grps_len]
end Go.Ph.B64
end
section
set_option linter.unusedVariables false
set_option linter.unusedSimpArgs false
namespace Go.Ph.Wd
open Go.Ph.Pl Go.Ph.Pf
open Go.Ph.Gr (chars Ch byts)
open Go.Ph.Chs (setN setOf encK decoded utf8)
theorem foldI {α σ γ : Type} {L : Nat → σ → Int → Option γ} (l : List α) (F : σ → α → σ) (fin : σ → γ) (I : Nat → σ → Prop)
    (hend : ∀ m s, I l.length s → L (m + 1) s (l.length : Int) = some (fin s))
    (hstep : ∀ m s i a, l[i]? = some a → I i s → I (i + 1) (F s a) ∧ L (m + 1) s (i : Int) = L m (F s a) ((i + 1 : Nat) : Int)) :
    ∀ (d i : Nat) (s : σ) (m : Nat), l.length - i = d → i ≤ l.length → d < m → I i s → L m s (i : Int) = some (fin ((l.drop i).foldl F s)) := by
  intro d
  induction d with
  | zero =>
    intro i s m h1 h2 h3 hI
    obtain ⟨m, rfl⟩ : ∃ k, m = k + 1 := ⟨m - 1, by omega⟩
    obtain rfl : i = l.length := by omega
    rw [hend m s hI, List.drop_length]; rfl
  | succ d ih =>
    intro i s m h1 h2 h3 hI
    obtain ⟨m, rfl⟩ : ∃ k, m = k + 1 := ⟨m - 1, by omega⟩
    have hi : i < l.length := by omega
    obtain ⟨hI', hL⟩ := hstep m s i l[i] (List.getElem?_eq_getElem hi) hI
    rw [hL, ih (i + 1) _ m (by omega) (by omega) (by omega) hI', List.drop_eq_getElem_cons hi]; rfl
theorem foldI0 {α σ γ : Type} {L : Nat → σ → Int → Option γ} (l : List α) (F : σ → α → σ) (fin : σ → γ) (I : Nat → σ → Prop) (hl : l.length ≤ 9223372036854775807)
    (hend : ∀ m s, I l.length s → L (m + 1) s (l.length : Int) = some (fin s))
    (hstep : ∀ m s i a, l[i]? = some a → I i s → I (i + 1) (F s a) ∧ L (m + 1) s (i : Int) = L m (F s a) ((i + 1 : Nat) : Int)) (s : σ) (h0 : I 0 s) : L FU s 0 = some (fin (l.foldl F s)) := by
  have := foldI l F fin I hend hstep l.length 0 s FU (by omega) (by omega) (FU_gt hl) h0
  simpa using this
def hexd : List UInt8 := [48, 49, 50, 51, 52, 53, 54, 55, 56, 57, 65, 66, 67, 68, 69, 70]
def alnum (c : UInt8) : Bool := decide (97 ≤ c.toNat ∧ c.toNat ≤ 122) || (decide (65 ≤ c.toNat ∧ c.toNat ≤ 90) || decide (48 ≤ c.toNat ∧ c.toNat ≤ 57))
def hx (n : Nat) : UInt8 := hexd.getD n 0
def dq1 (c : UInt8) : List UInt8 := if c = 32 then [95] else if alnum c = true then [c] else [61, hx (c.toNat / 16), hx (c.toNat % 16)]
def dq (b : List UInt8) : List UInt8 := b.flatMap dq1
theorem dq1_len (c : UInt8) : 1 ≤ (dq1 c).length ∧ (dq1 c).length ≤ 3 := by unfold dq1; split; · simp
                                                                            split <;> simp
theorem dq_len (b : List UInt8) : (dq b).length ≤ 3 * b.length := by
  unfold dq
  induction b with
  | nil => simp
  | cons c b ih => have := dq1_len c; simp only [List.flatMap_cons, List.length_append, List.length_cons]; omega
inductive Good : List UInt8 → Prop
  | nil : Good []
  | one {c : UInt8} {t : List UInt8} (h1 : c ≠ 13) (h2 : c ≠ 10) (h : Good t) : Good (c :: t)
  | crlf {t : List UInt8} (h : Good t) : Good (13 :: 10 :: t)
theorem Good.app {a b : List UInt8} (h : Good a) (k : Good b) : Good (a ++ b) := by
  induction h with
  | nil => exact k
  | one h1 h2 _ ih => exact .one h1 h2 ih
  | crlf _ ih => exact .crlf ih
def fre (l : List UInt8) : Prop := ∀ c ∈ l, c ≠ 13 ∧ c ≠ 10
theorem Good.of {a : List UInt8} (h : fre a) : Good a := by
  induction a with
  | nil => exact .nil
  | cons c a ih => exact .one (h c (by simp)).1 (h c (by simp)).2 (ih fun x hx => h x (by simp [hx]))
def keep (c : UInt8) : Bool := decide (c ≠ 13 ∧ c ≠ 10)
theorem Good.index {s : List UInt8} (h : Good s) : (Lib.index s [13, 10] = -1 ∧ fre s) ∨ ∃ i : Nat, Lib.index s [13, 10] = (i : Int) ∧ fre (s.take i) ∧ Good (s.drop (i + 2)) ∧ i + 2 ≤ s.length ∧ s.filter keep = s.take i ++ (s.drop (i + 2)).filter keep := by
  induction h with
  | nil => exact .inl ⟨rfl, fun c hc => by cases hc⟩
  | @one c t h1 h2 h ih =>
    have hp : ([13, 10] : List UInt8).isPrefixOf (c :: t) = false := by simp [List.isPrefixOf, Ne.symm h1]
    have hk : keep c = true := decide_eq_true ⟨h1, h2⟩
    rcases ih with ⟨e1, e2⟩ | ⟨i, e1, e2, e3, e4, e5⟩
    · refine .inl ⟨by rw [Lib.index, hp, e1]; rfl, fun x hx => ?_⟩
      rcases List.mem_cons.1 hx with rfl | hx
      · exact ⟨h1, h2⟩
      · exact e2 x hx
    · refine .inr ⟨i + 1, ?_, fun x hx => ?_, ?_, by rw [List.length_cons]; omega, ?_⟩
      · rw [Lib.index, hp, e1]
        have : ((i : Int) == -1) = false := by simp
        rw [this]; simp
      · rw [List.take_succ_cons] at hx
        rcases List.mem_cons.1 hx with rfl | hx
        · exact ⟨h1, h2⟩
        · exact e2 x hx
      · rw [show i + 1 + 2 = (i + 2) + 1 by omega, List.drop_succ_cons]; exact e3
      · rw [List.filter_cons_of_pos hk, e5, List.take_succ_cons, show i + 1 + 2 = (i + 2) + 1 by omega, List.drop_succ_cons]; rfl
  | @crlf t h ih =>
    refine .inr ⟨0, by rw [Lib.index]; simp [List.isPrefixOf], fun x hx => (by cases hx), h, by simp, ?_⟩
    rw [List.take_zero, List.drop_succ_cons, List.drop_succ_cons, List.drop_zero, List.filter_cons_of_neg (by decide), List.filter_cons_of_neg (by decide)]; rfl
abbrev nam (k : Nat) : List UInt8 := setN.getD k []
theorem nam_len : ∀ k, k < 4 → (nam k).length ≤ 7 := by decide
def enc (k : Nat) (l : List UInt8) : List UInt8 := (chars l).flatMap fun c => (encK k c.1).getD []
theorem chars_len (l : List UInt8) : (chars l).length ≤ l.length := by
  have h := Gr.flat_le ((chars l).map (·.2)) (fun p hp => by
    obtain ⟨c, hc, rfl⟩ := List.mem_map.1 hp
    exact Gr.chars_ne l c hc)
  rw [Gr.chars_flat, List.length_map] at h
  exact h
theorem flatMap_len {α β : Type} (f : α → List β) (n : Nat) : ∀ (l : List α), (∀ a ∈ l, (f a).length ≤ n) → (l.flatMap f).length ≤ n * l.length
  | [], _ => by simp
  | a :: l, h => by
    have h1 := h a (by simp)
    have h2 := flatMap_len f n l (fun x hx => h x (by simp [hx]))
    simp only [List.flatMap_cons, List.length_append, List.length_cons, Nat.mul_succ]
    omega
theorem enc_len (k : Nat) (l : List UInt8) : (enc k l).length ≤ 4 * l.length := by
  have h := flatMap_len (fun c : Ch => (encK k c.1).getD []) 4 (chars l) (fun c _ => by
    cases he : encK k c.1 with
    | none => simp
    | some b => exact Chs.encK_len he)
  have h2 := chars_len l
  unfold enc
  omega
def wrap (k : Nat) (b : List UInt8) : List UInt8 := [61, 63] ++ nam k ++ (if k = 2 then [63, 66, 63] ++ B64.chars64 b else [63, 81, 63] ++ dq b) ++ [63, 61]
def W (k : Nat) (l : List UInt8) : List UInt8 := wrap k (enc k l)
end Go.Ph.Wd
end
section
set_option linter.unusedVariables false
set_option linter.unusedSimpArgs false
namespace Go.Ph.Wd
open Go.Ph.Pl Go.Ph.Pf
open Go.Ph.Gr (chars Ch byts segs)
open Go.Ph.Chs (setN setOf encK decoded utf8)
open Go.Ph.Utf (rune dr)
theorem byts_len {l : List UInt8} {A g B : List Ch} (h : chars l = A ++ g ++ B) : (byts g).length ≤ l.length := by
  have := Gr.chars_flat l
  rw [h] at this
  simp only [List.map_append, List.flatten_append] at this
  rw [← this]
  simp only [List.length_append, byts]
  omega
def usC (k : Nat) (g : List Ch) : List (List Ch) := if (W k (byts g)).length ≤ 75 then [g] else g.map fun c => [c]
def unitsC (k : Nat) (l : List UInt8) : List (List Ch) := (segs (chars l)).flatMap (usC k)
theorem singles_flat (g : List Ch) : (g.map fun c => [c]).flatten = g := by
  induction g with
  | nil => rfl
  | cons c g ih => rw [List.map_cons, List.flatten_cons, ih]; rfl
theorem usC_flat (k : Nat) (g : List Ch) : (usC k g).flatten = g := by
  unfold usC
  split
  · simp
  · exact singles_flat g
theorem unitsC_flat (k : Nat) (l : List UInt8) : (unitsC k l).flatten = chars l := by
  unfold unitsC
  conv => rhs; rw [← Gr.segs_flat (chars l)]
  induction segs (chars l) with
  | nil => rfl
  | cons g gs ih => rw [List.flatMap_cons, List.flatten_append, ih, usC_flat]; rfl
theorem unitsC_ne (k : Nat) (l : List UInt8) : ∀ u ∈ unitsC k l, u ≠ [] := fun u hu => by
  obtain ⟨g, hg, hu⟩ := List.mem_flatMap.1 hu
  unfold usC at hu
  split at hu
  · simp only [List.mem_cons, List.not_mem_nil, or_false] at hu
    subst hu; exact Gr.segs_ne _ _ hg
  · obtain ⟨c, _, rfl⟩ := List.mem_map.1 hu; simp
theorem seg_mid {cs g : List Ch} {gs : List (List Ch)} (h : gs.flatten = cs) (hg : g ∈ gs) : ∃ A B, cs = A ++ g ++ B := by
  obtain ⟨a, b, rfl⟩ := List.append_of_mem hg
  exact ⟨a.flatten, b.flatten, by rw [← h]; simp⟩
end Go.Ph.Wd
end
section
set_option linter.unusedVariables false
set_option linter.unusedSimpArgs false
namespace Go.Ph.Wd
open Go.Ph.Pl Go.Ph.Pf
open Go.Ph.Gr (chars Ch byts segs)
open Go.Ph.Chs (setN setOf encK decoded utf8)
open Go.Ph.Utf (rune dr)
def p2 (k : Nat) (now : List Ch) : List (List Ch) → List (List Ch)
  | [] => [now]
  | u :: us => if (W k (byts (now ++ u))).length ≤ 75 then p2 k (now ++ u) us else now :: p2 k u us
def parts (k : Nat) : List (List Ch) → List (List Ch)
  | [] => []
  | u :: us => p2 k u us
theorem p2_flat (k : Nat) : ∀ (us : List (List Ch)) (now : List Ch), (p2 k now us).flatten = now ++ us.flatten
  | [], now => by simp [p2]
  | u :: us, now => by
    rw [p2]
    split
    · rw [p2_flat k us]; simp
    · rw [List.flatten_cons, p2_flat k us]; simp
theorem p2_len (k : Nat) : ∀ (us : List (List Ch)) (now : List Ch), (p2 k now us).length ≤ us.length + 1
  | [], now => by simp [p2]
  | u :: us, now => by
    rw [p2]
    split
    · have := p2_len k us (now ++ u); simp; omega
    · have := p2_len k us u; simp; omega
theorem wrap_len (k : Nat) (hk : k < 4) (b : List UInt8) : (wrap k b).length ≤ 20 + 4 * (b.length + 2) := by
  have hn := nam_len k hk
  have hd := dq_len b
  have hc := B64.chars_len b
  unfold wrap
  simp only [List.length_append, List.length_cons, List.length_nil]
  split
  · simp only [List.length_append, List.length_cons, List.length_nil]; omega
  · simp only [List.length_append, List.length_cons, List.length_nil]; omega
theorem W_len (k : Nat) (hk : k < 4) (l : List UInt8) : (W k l).length ≤ 28 + 16 * l.length := by
  have := wrap_len k hk (enc k l)
  have := enc_len k l
  unfold W; omega
theorem unitsC_len (k : Nat) (l : List UInt8) : (unitsC k l).length ≤ l.length := by
  have h : ∀ us : List (List Ch), (∀ u ∈ us, u ≠ []) → us.length ≤ us.flatten.length := by
    intro us
    induction us with
    | nil => simp
    | cons u us ih =>
      intro h
      have h1 := ih (fun x hx => h x (by simp [hx]))
      have h2 := List.length_pos_iff.2 (h u (by simp))
      simp only [List.flatten_cons, List.length_append, List.length_cons]; omega
  have h1 := h (unitsC k l) (unitsC_ne k l)
  rw [unitsC_flat] at h1
  have := chars_len l
  omega
def rep (k : Nat) (l : List UInt8) : List UInt8 := jn [32] ((parts k (unitsC k l)).map fun g => W k (byts g))
theorem jn_len (sep : List UInt8) (n : Nat) : ∀ (ws : List (List UInt8)), (∀ w ∈ ws, w.length ≤ n) → (jn sep ws).length ≤ ws.length * (n + sep.length)
  | [], _ => by simp [jn]
  | [x], h => by have := h x (by simp); simp [jn]; omega
  | x :: y :: r, h => by
    have h1 := h x (by simp)
    have h2 := jn_len sep n (y :: r) (fun w hw => h w (by simp [hw]))
    simp only [jn, List.length_append, List.length_cons] at h2 ⊢
    rw [Nat.succ_mul]; omega
theorem parts_flat (k : Nat) (us : List (List Ch)) : (parts k us).flatten = us.flatten := by
  cases us with
  | nil => rfl
  | cons u us => rw [parts, p2_flat]; rfl
theorem parts_len (k : Nat) (us : List (List Ch)) : (parts k us).length ≤ us.length := by
  cases us with
  | nil => simp [parts]
  | cons u us => rw [parts]; have := p2_len k us u; simp; omega
theorem part_mid (k : Nat) (l : List UInt8) {g : List Ch} (hg : g ∈ parts k (unitsC k l)) : ∃ A B, chars l = A ++ g ++ B := seg_mid (by rw [parts_flat, unitsC_flat]) hg
theorem parts_bound {k : Nat} (hk : k < 4) {l : List UInt8} : ∀ w ∈ (parts k (unitsC k l)).map (fun g => W k (byts g)), w.length ≤ 28 + 16 * l.length := fun w hw => by
  obtain ⟨g, hg, rfl⟩ := List.mem_map.1 hw
  obtain ⟨A, B, h⟩ := part_mid k l hg
  have := byts_len h
  have := W_len k hk (byts g)
  omega
theorem rep_len {k : Nat} (hk : k < 4) {l : List UInt8} (hl : l.length ≤ 1000) : (rep k l).length ≤ 20000000 := by
  have h1 := jn_len [32] _ _ (parts_bound hk (l := l))
  have h2 := parts_len k (unitsC k l)
  have h3 := unitsC_len k l
  rw [List.length_map] at h1
  have h4 : (parts k (unitsC k l)).length * (28 + 16 * l.length + 1) ≤ 1000 * (28 + 16 * 1000 + 1) := Nat.mul_le_mul (by omega) (by omega)
  unfold rep
  simp only [List.length_cons, List.length_nil, Nat.zero_add] at h1
  omega
def ext (k : Nat) (now : List Ch) : List (List Ch) → Nat × List Ch
  | [] => (0, now)
  | u :: us => if (W k (byts (now ++ u))).length ≤ 75 then ((ext k (now ++ u) us).1 + 1, (ext k (now ++ u) us).2) else (0, now)
def more (ws : List (List UInt8)) : List UInt8 := ws.flatMap fun w => 32 :: w
end Go.Ph.Wd
end
section
set_option linter.unusedVariables false
set_option linter.unusedSimpArgs false
namespace Go.Ph.Wd
open Go.Ph.Pl Go.Ph.Pf
open Go.Ph.Gr (chars Ch byts segs)
open Go.Ph.Chs (setN setOf encK decoded utf8)
open Go.Ph.Utf (rune dr)
end Go.Ph.Wd
end
section
set_option linter.unusedVariables false
set_option linter.unusedSimpArgs false
namespace Go.Ph.Wd
open Go.Ph.Pl Go.Ph.Pf
open Go.Ph.Gr (chars Ch byts segs)
open Go.Ph.Chs (setN setOf encK decoded utf8 lower lowB)
open Go.Ph.Utf (rune dr)
def q1 : List UInt8 → Option (List UInt8 × List UInt8)
  | [] => none
  | c :: t => if c = 63 then some ([], t) else (q1 t).map fun p => (c :: p.1, p.2)
def sp3 (x : List UInt8) : Option (List UInt8 × List UInt8 × List UInt8 × List UInt8) :=
  (q1 x).bind fun a => (q1 a.2).bind fun b => (q1 b.2).bind fun c => some (a.1, b.1, c.1, c.2)
def hexv (c : UInt8) : Option Nat := if 48 ≤ c.toNat ∧ c.toNat ≤ 57 then some (c.toNat - 48) else if 65 ≤ c.toNat ∧ c.toNat ≤ 70 then some (c.toNat - 55) else if 97 ≤ c.toNat ∧ c.toNat ≤ 102 then some (c.toNat - 87) else none
def hex2 (a b : UInt8) : Option UInt8 := match hexv a, hexv b with | some x, some y => some (UInt8.ofNat (16 * x + y)) | _, _ => none
def hexd2 : List UInt8 → Option (UInt8 × List UInt8)
  | a :: b :: t => (hex2 a b).map fun z => (z, t)
  | _ => none
def uqF : Nat → List UInt8 → Option (List UInt8)
  | 0, _ => none
  | n + 1, [] => some []
  | n + 1, c :: t => if c = 95 then (uqF n t).map (32 :: ·) else if c = 61 then (hexd2 t).bind fun p => (uqF n p.2).map (p.1 :: ·) else if 33 ≤ c.toNat ∧ c.toNat ≤ 126 then (uqF n t).map (c :: ·) else none
def uq (l : List UInt8) : Option (List UInt8) := uqF (l.length + 1) l
def bytesP (K D : List UInt8) : Option (List UInt8) := if lower K = [98] then (if B64.chars64 (B64.lenient D) = D then some (B64.lenient D) else none) else if lower K = [113] then uq D else none
def body (A K D : List UInt8) : Option (List UInt8) := (setOf A).bind fun k => (bytesP K D).map (decoded k)
def pw (t : List UInt8) : Option (List UInt8 × Nat) :=
  if [61, 63] <+: t then (sp3 (t.drop 2)).bind fun p => if [61] <+: p.2.2.2 ∧ p.1.length + p.2.1.length + p.2.2.1.length + 6 ≤ 75 then (body p.1 p.2.1 p.2.2.1).map fun x => (x, p.1.length + p.2.1.length + p.2.2.1.length + 6) else none else none
end Go.Ph.Wd
end
section
set_option linter.unusedVariables false
set_option linter.unusedSimpArgs false
namespace Go.Ph.Hd
open Go.Ph.Pl Go.Ph.Pf Go.Ph.Wd
open Go.Ph.Fd (fl)
abbrev Fld : Type := List UInt8 × List UInt8
abbrev BigF (l : List Fld) : Prop := ∀ x ∈ l, Big x.1 ∧ Big x.2
theorem foldR_snd (n v : List UInt8) : (foldR n v).2 = faultR n v := by
  unfold foldR faultR
  by_cases h : codeF n v = 0
  · rw [if_pos h, if_pos h]
    cases (fl (fieldS n v) (n.length + 2)).findIdx? bigL <;> rfl
  · rw [if_neg h, if_neg h]
theorem failed_eq (a b : Int) : basic_Failed (a, b) = some (!decide (a = 0)) := rfl
theorem fault_eq (a b : Int) : basic_Fault a b = some (a, b) := by unfold basic_Fault; rfl
def ffz (i : Nat) : List Fld → Int × Int
  | [] => (0, 0)
  | x :: r => if (faultR x.1 x.2).1 = 0 then ffz (i + 1) r else ((faultR x.1 x.2).1, (i : Int))
theorem ffz_zero : ∀ {l : List Fld} {i : Nat}, (ffz i l).1 = 0 → ffz i l = (0, 0) ∧ ∀ x ∈ l, (faultR x.1 x.2).1 = 0
  | [], i, h => ⟨rfl, fun x hx => by cases hx⟩
  | x :: r, i, h => by
    rw [ffz] at h ⊢
    by_cases hx : (faultR x.1 x.2).1 = 0
    · rw [if_pos hx] at h ⊢
      obtain ⟨h1, h2⟩ := ffz_zero h
      refine ⟨h1, fun y hy => ?_⟩
      rcases List.mem_cons.1 hy with rfl | hy
      · exact hx
      · exact h2 y hy
    · rw [if_neg hx] at h
      exact absurd h hx
theorem ffz_all : ∀ {l : List Fld} {i : Nat}, (∀ x ∈ l, (faultR x.1 x.2).1 = 0) → ffz i l = (0, 0)
  | [], i, h => rfl
  | x :: r, i, h => by
    rw [ffz, if_pos (h x (by simp))]
    exact ffz_all (fun y hy => h y (by simp [hy]))
theorem valid_L1 (l : List Fld) (hl : l.length ≤ 1000) (hb : BigF l) (n9 n10 : Int) : ∀ (d i m : Nat), l.length - i ≤ d → d < m → i ≤ l.length →
    header_Validate_L1 l m n9 n10 (i : Int) = some (if (ffz i (l.drop i)).1 = 0 then .inl (n9, n10) else .inr (ffz i (l.drop i))) := by
  intro d
  induction d with
  | zero =>
    intro i m h1 h2 h3
    obtain ⟨m, rfl⟩ : ∃ k, m = k + 1 := ⟨m - 1, by omega⟩
    rw [header_Validate_L1, if_neg (by omega), List.drop_eq_nil_of_le (by omega)]; rfl
  | succ d ih =>
    intro i m h1 h2 h3
    obtain ⟨m, rfl⟩ : ∃ k, m = k + 1 := ⟨m - 1, by omega⟩
    by_cases hi : i < l.length
    · have hx := hb l[i] (List.getElem_mem hi)
      rw [header_Validate_L1, if_pos (by omega), idx_nat, List.getElem?_eq_getElem hi, bsome, fold_Fold_eq _ _ hx.1 hx.2, List.drop_eq_getElem_cons hi, ffz]
      have hs := foldR_snd l[i].1 l[i].2
      obtain ⟨⟨L, a, b⟩, hr⟩ : ∃ p, foldR l[i].1 l[i].2 = p := ⟨_, rfl⟩
      rw [hr] at hs ⊢
      rw [bsome]
      dsimp only at hs ⊢
      rw [failed_eq, bsome, ← hs]
      by_cases ha : a = 0
      · rw [decide_eq_true ha, if_neg (by decide), if_pos ha, chk_succ (by omega), bsome]
        exact ih (i + 1) m (by omega) (by omega) (by omega)
      · rw [decide_eq_false ha, if_pos (by decide), if_neg ha, fault_eq, bsome, if_neg ha]
    · rw [header_Validate_L1, if_neg (by omega), List.drop_eq_nil_of_le (by omega)]; rfl
def valR (l : List Fld) : Int × Int := if 60 < l.length then (2, -1) else ffz 0 l
theorem validate_eq (l : List Fld) (hb : BigF l) : header_Validate l = some (valR l) := by
  unfold header_Validate valR
  by_cases h : 60 < l.length
  · rw [if_pos (by omega), fault_eq, bsome, if_pos h]
  · have := valid_L1 l (by omega) hb 0 0 l.length 0 FU (by omega) (by unfold FU; omega) (by omega)
    rw [Int.natCast_zero, List.drop_zero] at this
    rw [if_neg (by omega), this, bsome, if_neg h]
    by_cases hz : (ffz 0 l).1 = 0
    · rw [if_pos hz]
      rw [(ffz_zero hz).1]
      unfold basic_None
      rfl
    · rw [if_neg hz]
def crlf (a : List UInt8) : List UInt8 := a ++ [13, 10]
theorem valR_zero {l : List Fld} (h : (valR l).1 = 0) : valR l = (0, 0) ∧ l.length ≤ 60 ∧ ∀ x ∈ l, (faultR x.1 x.2).1 = 0 := by
  unfold valR at h ⊢
  by_cases h60 : 60 < l.length
  · rw [if_pos h60] at h; exact absurd h (by decide)
  · rw [if_neg h60] at h ⊢
    obtain ⟨h1, h2⟩ := ffz_zero h
    exact ⟨h1, by omega, h2⟩
end Go.Ph.Hd
end
section
set_option linter.unusedVariables false
set_option linter.unusedSimpArgs false
namespace Go.Ph.Hd
open Go.Ph.Pl Go.Ph.Pf Go.Ph.Wd
open Go.Ph.Fd (fl)
open Go.Ph.Chs (lower)
theorem name_eq (n : List UInt8) (hn : Big n) : header_name n = some (nmL n) := by
  unfold header_name
  rw [fold_Fold_eq n [] hn (by unfold Big; simp)]
  have hs := foldR_snd n []
  obtain ⟨⟨L, a, b⟩, hr⟩ : ∃ p, foldR n [] = p := ⟨_, rfl⟩
  rw [hr] at hs ⊢
  dsimp only at hs
  rw [bsome]
  dsimp only
  rw [failed_eq, bsome]
  unfold faultR codeF at hs
  by_cases h : nmL n = true
  · have h60 := nmL_len h
    have hv : valB [] = true := by decide
    have hsl : (fieldS n []).length = n.length + 2 := by unfold fieldS; simp
    have e : (if 4000 < ([] : List UInt8).length then (1 : Int) else if valB [] = true then 0 else 11) = 0 := by rw [hv]; rfl
    rw [if_pos h, e, if_pos rfl, Fd.fl_end (by omega)] at hs
    have hb : [fieldS n []].findIdx? bigL = none := by
      rw [List.findIdx?_eq_none_iff]
      intro x hx
      rw [List.mem_singleton.1 hx]
      unfold bigL
      rw [decide_eq_false (by omega)]
    rw [hb] at hs
    cases hs
    rw [h]; rfl
  · rw [if_neg h, if_neg (by decide)] at hs
    cases hs
    rw [Bool.not_eq_true] at h
    rw [h]; rfl
def vdR (l : List Fld) (n : List UInt8) : Int × Int := if (valR l).1 = 0 then (if nmL n = true then (0, 0) else (10, -3)) else valR l
theorem valid_eq (l : List Fld) (n : List UInt8) (hb : BigF l) (hn : Big n) : header_valid l n = some (vdR l n) := by
  unfold header_valid vdR
  rw [validate_eq l hb, bsome]
  obtain ⟨⟨a, b⟩, hv⟩ : ∃ p, valR l = p := ⟨_, rfl⟩
  rw [hv]
  dsimp only
  rw [failed_eq, bsome]
  by_cases ha : a = 0
  · rw [decide_eq_true ha, if_neg (by decide), if_pos ha, name_eq n hn, bsome]
    by_cases h : nmL n = true
    · rw [if_pos h, if_pos h]; unfold basic_None; rfl
    · rw [if_neg h, if_neg h, fault_eq]; rfl
  · rw [decide_eq_false ha, if_pos (by decide), if_neg ha]
def sameN (n : List UInt8) (x : Fld) : Bool := decide (lower x.1 = lower n)
theorem foldl_filter {α β : Type} (p : α → Bool) (f : α → β) : ∀ (l : List α) (o : List β), l.foldl (fun o x => if p x = true then o ++ [f x] else o) o = o ++ (l.filter p).map f
  | [], o => by simp
  | x :: l, o => by
    rw [List.foldl_cons, foldl_filter p f l]
    by_cases h : p x = true
    · rw [if_pos h, List.filter_cons_of_pos h]; simp
    · rw [if_neg h, List.filter_cons_of_neg h]
def valsOf (l : List Fld) (n : List UInt8) : List (List UInt8) := (l.filter (sameN n)).map (·.2)
def restOf (l : List Fld) (n : List UInt8) : List Fld := l.filter fun x => !sameN n x
theorem get_L1 (l : List Fld) (n : List UInt8) (hl : l.length ≤ 1000) (hb : BigF l) (hn : Big n) : header_Get_L1 l n FU [] 0 = some (valsOf l n) := by
  rw [foldI0 (L := fun m s i => header_Get_L1 l n m s i) l (fun o x => if sameN n x = true then o ++ [x.2] else o) id (fun i s => s.length ≤ i) (by omega) ?_ ?_ [] (by simp), foldl_filter]
  · rfl
  · intro m s hs
    rw [header_Get_L1, if_neg (by omega)]; rfl
  · intro m s i x hx hs
    have hi := (List.getElem?_eq_some_iff.1 hx).1
    have hbx := hb x (List.mem_of_getElem? hx)
    unfold Big at hbx hn
    refine ⟨by split <;> (try rw [List.length_append, List.length_singleton]) <;> omega, ?_⟩
    rw [header_Get_L1, if_pos (by omega), idx_nat, hx, bsome]
    unfold basic_Same
    rw [if_pos ⟨by omega, by omega⟩, bsome]
    unfold sameN
    by_cases h : lower x.1 = lower n
    · rw [decide_eq_true h, if_pos rfl, if_pos rfl, app_ok (by simp; omega), bsome, chk_succ (by omega), bsome]
    · rw [decide_eq_false h, if_neg Bool.false_ne_true, if_neg Bool.false_ne_true, chk_succ (by omega), bsome]
def getR (l : List Fld) (n : List UInt8) : List (List UInt8) × (Int × Int) := if (vdR l n).1 = 0 then (valsOf l n, (0, 0)) else ([], vdR l n)
theorem vdR_zero {l : List Fld} {n : List UInt8} (h : (vdR l n).1 = 0) : (valR l).1 = 0 ∧ nmL n = true := by
  unfold vdR at h
  by_cases h1 : (valR l).1 = 0
  · rw [if_pos h1] at h
    by_cases h2 : nmL n = true
    · exact ⟨h1, h2⟩
    · rw [if_neg h2] at h; exact absurd h (by decide)
  · rw [if_neg h1] at h; exact absurd h h1
theorem get_eq (l : List Fld) (n : List UInt8) (hb : BigF l) (hn : Big n) : header_Get l n = some (getR l n) := by
  unfold header_Get getR
  rw [valid_eq l n hb hn, bsome]
  have hz := @vdR_zero l n
  obtain ⟨⟨a, b⟩, hv⟩ : ∃ p, vdR l n = p := ⟨_, rfl⟩
  rw [hv] at hz ⊢
  dsimp only at hz ⊢
  rw [failed_eq, bsome]
  by_cases ha : a = 0
  · have hl := (valR_zero (hz ha).1).2.1
    rw [decide_eq_true ha, if_neg (by decide), if_pos ha, get_L1 l n (by omega) hb hn, bsome]
    unfold basic_None; rfl
  · rw [decide_eq_false ha, if_pos (by decide), if_neg ha]
theorem valR_rest {l : List Fld} (h : (valR l).1 = 0) (n : List UInt8) : (valR (restOf l n)).1 = 0 := by
  obtain ⟨h1, h2, h3⟩ := valR_zero h
  have hl : (restOf l n).length ≤ l.length := List.length_filter_le _ _
  unfold valR
  rw [if_neg (by omega)]
  have : ∀ x ∈ restOf l n, (faultR x.1 x.2).1 = 0 := fun x hx => h3 x (List.mem_filter.1 hx).1
  rw [ffz_all this]
theorem without_law (ex : L_headerExample = some true) (l : List Fld) (n o : List UInt8) (hb : BigF l) (hn : Big n) (ho : Big o) (hl : l.length ≤ 140737488355328)
    (hw : header_Without l n = some (if (vdR l n).1 = 0 then (restOf l n, (0, 0)) else ([], vdR l n))) : L_HeaderWithoutNone l n o = some true := by
  unfold L_HeaderWithoutNone
  have hbr : BigF (restOf l n) := fun x hx => hb x ((List.mem_filter.1 hx).1)
  rw [ex, bsome, if_pos rfl, get_eq l o hb ho, hw]
  by_cases h1 : (vdR l n).1 = 0
  · rw [if_pos h1, bsome]
    dsimp only
    rw [bsome]
    by_cases h2 : (vdR l o).1 = 0
    · obtain ⟨v1, n1⟩ := vdR_zero h1
      obtain ⟨_, n2⟩ := vdR_zero h2
      have hvr := valR_rest v1 n
      have g1 : getR l o = (valsOf l o, (0, 0)) := by unfold getR; rw [if_pos h2]
      have k1 : (vdR (restOf l n) n).1 = 0 := by unfold vdR; rw [if_pos hvr, if_pos n1]
      have k2 : (vdR (restOf l n) o).1 = 0 := by unfold vdR; rw [if_pos hvr, if_pos n2]
      have g2 : getR (restOf l n) n = (valsOf (restOf l n) n, (0, 0)) := by unfold getR; rw [if_pos k1]
      have g3 : getR (restOf l n) o = (valsOf (restOf l n) o, (0, 0)) := by unfold getR; rw [if_pos k2]
      have e0 : valsOf (restOf l n) n = [] := by
        unfold valsOf restOf
        rw [List.filter_filter, List.filter_eq_nil_iff.2]
        · rfl
        · intro x hx; simp
      have hll := (valR_zero v1).2.1
      rw [g1, get_eq (restOf l n) n hbr hn, get_eq (restOf l n) o hbr ho, g2, g3, e0]
      unfold Big at hn ho
      have ea : R_Alike n o = some (decide (lower n = lower o)) := by unfold R_Alike; rw [if_pos ⟨by omega, by omega⟩]
      by_cases hs : lower n = lower o
      · rw [decide_eq_true hs] at ea
        simp [bsome, ea]
      · have e1 : valsOf (restOf l n) o = valsOf l o := by
          unfold valsOf restOf
          rw [List.filter_filter]
          refine congrArg (List.map _) (List.filter_congr fun x hx => ?_)
          unfold sameN
          by_cases hx2 : lower x.1 = lower o
          · rw [decide_eq_true hx2, decide_eq_false (fun e => hs (by rw [← e, hx2]))]; rfl
          · rw [decide_eq_false hx2]; rfl
        have hvl : (valsOf l o).length ≤ 140737488355328 := by
          have : (valsOf l o).length ≤ l.length := by unfold valsOf; rw [List.length_map]; exact List.length_filter_le _ _
          omega
        have es := R_Strings_eq (valsOf l o) (valsOf l o) hvl
        rw [decide_eq_true rfl] at es
        rw [decide_eq_false hs] at ea
        rw [e1]
        simp [bsome, ea, es]
    · have g1 : getR l o = ([], vdR l o) := by unfold getR; rw [if_neg h2]
      rw [g1]
      simp [bsome, h2]
  · rw [if_neg h1, bsome]
    obtain ⟨⟨x, a, b⟩, hg⟩ : ∃ p, getR l o = p := ⟨_, rfl⟩
    rw [hg]
    simp [bsome, h1]
end Go.Ph.Hd
end
section
set_option linter.unusedVariables false
set_option linter.unusedSimpArgs false
namespace Go.Ph.Wd
open Go.Ph.Pl Go.Ph.Pf
open Go.Ph.Gr (chars Ch byts segs)
open Go.Ph.Chs (setN setOf encK decoded utf8 lower lowB)
open Go.Ph.Utf (rune dr)
def blk (c : UInt8) : Bool := decide (c = 32 ∨ c = 9)
def after (u : List UInt8) : List UInt8 := if (pw (u.dropWhile blk)).isSome then u.dropWhile blk else u
def fin (s : List UInt8) (p : List UInt8 × Int) : Option (List UInt8) := if (0 : Int) ≤ p.2 then (cut s p.2 (s.length : Int)).bind fun s81 => (strings_Builder_WriteString p.1 s81).bind fun (n82, b83, l84) => some l84 else some p.1
end Go.Ph.Wd
end
section
set_option linter.unusedVariables false
set_option linter.unusedSimpArgs false
namespace Go.Ph.Hd
open Go.Ph.Pl Go.Ph.Pf Go.Ph.Wd
open Go.Ph.Qp (trimR bl chop)
open Go.Ph.Chs (lower)
def beg (s : List UInt8) : Option Fld := if ixB s 58 < 0 then none else if nmL (trimR (s.take (ixB s 58).toNat)) = true then some (trimR (s.take (ixB s 58).toNat), s.drop ((ixB s 58).toNat + 1)) else none
def appL (out : List Fld) (s : List UInt8) : List Fld := match out[out.length - 1]? with | some x => out.set (out.length - 1) (x.1, x.2 ++ s) | none => out
def okO (out : List Fld) (i : Nat) : Prop := out.length ≤ i ∧ ∀ x ∈ out, x.2.length ≤ i
theorem okO.more {out : List Fld} {i j : Nat} (h : okO out i) (hj : i ≤ j) : okO out j := ⟨Nat.le_trans h.1 hj, fun x hx => Nat.le_trans (h.2 x hx) hj⟩
theorem okO.app {out : List Fld} {i n : Nat} {x : Fld} (h : okO out i) (hn : 1 ≤ n) (hx : x.2.length ≤ n) : okO (out ++ [x]) (i + n) := by
  refine ⟨by have := h.1; simp; omega, fun y hy => ?_⟩
  rcases List.mem_append.1 hy with hy | hy
  · have := h.2 y hy; omega
  · rw [List.mem_singleton.1 hy]; omega
theorem okO.last {out : List Fld} {i n : Nat} {s : List UInt8} (h : okO out i) (hs : s.length ≤ n) : okO (appL out s) (i + n) := by
  unfold appL
  cases hx : out[out.length - 1]? with
  | none => exact h.more (by omega)
  | some x =>
    have hm := h.2 x (List.mem_of_getElem? hx)
    refine ⟨by have := h.1; simp; omega, fun y hy => ?_⟩
    rcases List.mem_or_eq_of_mem_set hy with hy | rfl
    · have := h.2 y hy; omega
    · simp; omega
end Go.Ph.Hd
end
section
set_option linter.unusedVariables false
set_option linter.unusedSimpArgs false
namespace Go.Ph.Hd
open Go.Ph.Pl Go.Ph.Pf Go.Ph.Wd
open Go.Ph.Qp (trimR bl chop)
open Go.Ph.Chs (lower)
end Go.Ph.Hd
end
section
set_option linter.unusedVariables false
set_option linter.unusedSimpArgs false
namespace Go.Ph.Hd
open Go.Ph.Pl Go.Ph.Pf Go.Ph.Wd
open Go.Ph.Qp (trimR bl chop)
open Go.Ph.Chs (lower)
def okN (out : List Fld) : Prop := ∀ x ∈ out, nmL x.1 = true ∧ 10 ∉ x.2
theorem okN.last {out : List Fld} {s : List UInt8} (h : okN out) (hs : 10 ∉ s) : okN (appL out s) := by
  unfold appL
  cases hx : out[out.length - 1]? with
  | none => exact h
  | some x =>
    have hm := h x (List.mem_of_getElem? hx)
    intro y hy
    rcases List.mem_or_eq_of_mem_set hy with hy | rfl
    · exact h y hy
    · exact ⟨hm.1, by simp [hm.2, hs]⟩
theorem okN.app {out : List Fld} {s : List UInt8} {x : Fld} (h : okN out) (hs : 10 ∉ s) (hb : beg s = some x) : okN (out ++ [x]) := by
  intro y hy
  rcases List.mem_append.1 hy with hy | hy
  · exact h y hy
  · rw [List.mem_singleton.1 hy]
    unfold beg at hb
    split at hb
    · cases hb
    · split at hb
      · rename_i hn
        cases hb
        exact ⟨hn, fun e => hs (List.mem_of_mem_drop e)⟩
      · cases hb
end Go.Ph.Hd
end
section
set_option linter.unusedVariables false
set_option linter.unusedSimpArgs false
namespace Go.Ph.Hd
open Go.Ph.Pl Go.Ph.Pf Go.Ph.Wd
open Go.Ph.Qp (trimR bl chop)
open Go.Ph.Chs (lower)
open Go.Ph.Fd (fl fl_more fl_end pt pt_lt)
end Go.Ph.Hd
end
section
set_option linter.unusedVariables false
set_option linter.unusedSimpArgs false
namespace Go.Ph.Hd
open Go.Ph.Pl Go.Ph.Pf Go.Ph.Wd
open Go.Ph.Chs (lower)
abbrev Fl : Type := List UInt8 × List UInt8
theorem idxL_eq (l : List Fl) (g : Fl → Option Bool) (p : Fl → Bool) (hl : l.length ≤ 1000000) (hg : ∀ x ∈ l, g x = some (p x)) : ∀ (d i m : Nat), l.length - i ≤ d → d < m → i ≤ l.length →
    idxL l g m (i : Int) = some (match (l.drop i).findIdx? p with | none => .inl () | some k => .inr ((i + k : Nat) : Int)) := by
  intro d
  induction d with
  | zero =>
    intro i m h1 h2 h3
    obtain ⟨m, rfl⟩ : ∃ k, m = k + 1 := ⟨m - 1, by omega⟩
    rw [idxL, if_neg (by omega), List.drop_eq_nil_of_le (by omega)]; rfl
  | succ d ih =>
    intro i m h1 h2 h3
    obtain ⟨m, rfl⟩ : ∃ k, m = k + 1 := ⟨m - 1, by omega⟩
    by_cases hi : i < l.length
    · rw [idxL, if_pos (by omega), idx_nat, List.getElem?_eq_getElem hi, bsome, hg _ (List.getElem_mem hi), bsome, List.drop_eq_getElem_cons hi, List.findIdx?_cons]
      by_cases hp : p l[i] = true
      · rw [if_pos hp, if_pos hp]; rfl
      · rw [if_neg hp, if_neg hp, chk_succ (by omega), bsome, ih (i + 1) m (by omega) (by omega) (by omega)]
        cases (l.drop (i + 1)).findIdx? p with
        | none => rfl
        | some k => simp only [Option.map_some]; congr 3; omega
    · rw [idxL, if_neg (by omega), List.drop_eq_nil_of_le (by omega)]; rfl
theorem delL_eq (l : List Fl) (g : Fl → Option Bool) (p : Fl → Bool) (hl : l.length ≤ 1000000) (hg : ∀ x ∈ l, g x = some (p x)) : ∀ (d i j m : Nat) (q : List Fl), l.length - j ≤ d → d < m → i < j → j ≤ l.length → q.length = l.length →
    q.drop j = l.drop j → q.take i = (l.take j).filter (fun x => !p x) → ∃ q2 i2, delL g m q (i : Int) (j : Int) = some (q2, ((i2 : Nat) : Int)) ∧ i2 ≤ q2.length ∧ q2.take i2 = l.filter (fun x => !p x) := by
  intro d
  induction d with
  | zero =>
    intro i j m q h1 h2 h3 h4 h5 h6 h7
    obtain ⟨m, rfl⟩ : ∃ k, m = k + 1 := ⟨m - 1, by omega⟩
    refine ⟨q, i, by rw [delL, if_neg (by omega)], by omega, ?_⟩
    rw [h7, List.take_of_length_le (by omega)]
  | succ d ih =>
    intro i j m q h1 h2 h3 h4 h5 h6 h7
    obtain ⟨m, rfl⟩ : ∃ k, m = k + 1 := ⟨m - 1, by omega⟩
    by_cases hj : j < l.length
    · have hq : q[j]? = some l[j] := by
        have e1 : (q.drop j)[0]? = q[j]? := by rw [List.getElem?_drop]; rfl
        rw [← e1, h6, List.getElem?_drop]
        exact List.getElem?_eq_getElem hj
      have hd : q.drop (j + 1) = l.drop (j + 1) := by
        have e1 := congrArg (List.drop 1) h6
        rw [List.drop_drop, List.drop_drop] at e1
        exact e1
      have htk : l.take (j + 1) = l.take j ++ [l[j]] := List.take_succ_eq_append_getElem hj
      rw [delL, if_pos (by omega), idx_nat, hq, bsome, hg _ (List.getElem_mem hj), bsome]
      by_cases hp : p l[j] = true
      · rw [if_pos hp, chk_succ (by omega), bsome]
        refine ih i (j + 1) m q (by omega) (by omega) (by omega) (by omega) h5 hd ?_
        rw [htk, List.filter_append, h7]
        simp [hp]
      · rw [if_neg hp, put_ok (by omega) (by omega), bsome, Int.toNat_natCast, chk_succ (by omega), bsome, chk_succ (by omega), bsome]
        refine ih (i + 1) (j + 1) m _ (by omega) (by omega) (by omega) (by omega) (by rw [List.length_set]; exact h5) ?_ ?_
        · rw [List.drop_set_of_lt (by omega)]; exact hd
        · rw [htk, List.filter_append, ← h7, List.take_succ_eq_append_getElem (by rw [List.length_set]; omega), List.take_set_of_le (Nat.le_refl _)]
          simp [hp]
    · refine ⟨q, i, by rw [delL, if_neg (by omega)], by omega, ?_⟩
      rw [h7, List.take_of_length_le (by omega)]
theorem delFunc_eq (l : List Fl) (g : Fl → Option Bool) (p : Fl → Bool) (hl : l.length ≤ 1000000) (hg : ∀ x ∈ l, g x = some (p x)) : delFunc l g = some (l.filter fun x => !p x) := by
  have h := idxL_eq l g p hl hg l.length 0 FU (by omega) (by unfold FU; omega) (by omega)
  rw [Int.natCast_zero, List.drop_zero] at h
  unfold delFunc idxFunc
  rw [h, bsome]
  cases hf : l.findIdx? p with
  | none =>
    dsimp only
    rw [bsome, if_pos rfl]
    have := List.findIdx?_eq_none_iff.1 hf
    rw [List.filter_eq_self.2]
    intro x hx
    rw [this x hx]; rfl
  | some k =>
    obtain ⟨hk, hpk, hbef⟩ := List.findIdx?_eq_some_iff_getElem.1 hf
    dsimp only
    rw [bsome, Nat.zero_add, if_neg (by omega), chk_succ (by omega), bsome]
    have htake : l.take k = (l.take (k + 1)).filter (fun x => !p x) := by
      rw [List.take_succ_eq_append_getElem hk, List.filter_append, List.filter_eq_self.2]
      · simp [hpk]
      · intro x hx
        obtain ⟨n, hn, rfl⟩ := List.mem_take_iff_getElem.1 hx
        have := hbef n (by omega)
        simpa using this
    obtain ⟨q2, i2, e1, e2, e3⟩ := delL_eq l g p hl hg l.length k (k + 1) FU l (by omega) (by unfold FU; omega) (by omega) (by omega) rfl rfl htake
    rw [e1, bsome]
    dsimp only
    rw [cut_to rfl e2, e3]
theorem without_eq (l : List Fld) (n : List UInt8) (hb : BigF l) (hn : Big n) : header_Without l n = some (if (vdR l n).1 = 0 then (restOf l n, (0, 0)) else ([], vdR l n)) := by
  unfold header_Without
  rw [valid_eq l n hb hn, bsome]
  have hz := @vdR_zero l n
  obtain ⟨⟨a, b⟩, hv⟩ : ∃ p, vdR l n = p := ⟨_, rfl⟩
  rw [hv] at hz ⊢
  dsimp only at hz ⊢
  rw [failed_eq, bsome]
  by_cases ha : a = 0
  · have hl := (valR_zero (hz ha).1).2.1
    rw [decide_eq_true ha, if_neg (by decide), if_pos ha, app_ok (by simp; omega), bsome, List.nil_append]
    rw [delFunc_eq l _ (sameN n) (by omega) (fun x hx => by
      have h1 := hb x hx
      unfold Big at h1 hn
      unfold header_Without_1 basic_Same
      rw [if_pos ⟨by omega, by omega⟩, bsome]; rfl), bsome]
    unfold basic_None
    rfl
  · rw [decide_eq_false ha, if_pos (by decide), if_neg ha]
end Go.Ph.Hd
end
section
set_option linter.unusedVariables false
set_option linter.unusedSimpArgs false
namespace Go.Ph.Hd
open Go.Ph.Pl Go.Ph.Pf Go.Ph.Wd
theorem ex_eq : L_headerExample = some true := by decide +kernel
end Go.Ph.Hd
namespace Go.Ph.Wd
open Go.Ph.Pl Go.Ph.Pf Go.Ph.Hd
theorem bigF {l : List (List UInt8 × List UInt8)} (h : ∀ a ∈ l, a.1.length ≤ 140737488351232 ∧ a.2.length ≤ 140737488351232) : BigF l := fun x hx => ⟨Nat.le_trans (h x hx).1 (by decide), Nat.le_trans (h x hx).2 (by decide)⟩
theorem law_HNone (l : List (List UInt8 × List UInt8)) (n o : List UInt8) (hw : l.length ≤ 140737488351232 ∧ ∀ a ∈ l, a.1.length ≤ 140737488351232 ∧ a.2.length ≤ 140737488351232) (hn : n.length ≤ 140737488351232) (ho : o.length ≤ 140737488351232) : L_HeaderWithoutNone l n o = some true :=
  without_law ex_eq l n o (bigF hw.2) (Nat.le_trans hn (by decide)) (Nat.le_trans ho (by decide)) (Nat.le_trans hw.1 (by decide)) (without_eq l n (bigF hw.2) (Nat.le_trans hn (by decide)))
end Go.Ph.Wd
end
