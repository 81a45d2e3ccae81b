/-
  Own, Rl, Opa, Seq, Qt, Cl, Rpl, Tbl, Tv, Once, Pan, Any, Dfr, Bor, GrRef, Rcl, Low, Val, Vst, Lp, B64Plain, Kpf: own texts of this repository (wip/tpl, wip/plans), merged and shaken by wip/tools/pack.py.
-/
import Derived.Laws.Externs
import Derived.Lib.Split
import Derived.Lib.SplitLaws
import Derived.Lib.Replace
import Derived.Lib.IndexMore
import Derived.Lib.LazyBuf
import Derived.Laws.CopyRow
import Derived.Laws.IdiomCopy
import Derived.Test.YtkmjdamkifbddaaGreatDoorProg
import Derived.Tactics
import Derived.Tactics2
import Derived.Defers
import Derived.Laws.Pointers
import Derived.Laws.LoneSync
import Derived.RegionTactic
import Derived.RegionCalls
import Derived.ChangeAlike
import Derived.KernelRfl
import Derived.WalkSmall
import Derived.RecoverIn
import Derived.Lib.DecodeN
import Derived.Test.YtkmjdamkifbddaaGreatDoorE2a
set_option maxRecDepth 100000
set_option linter.unusedVariables false
set_option linter.unusedSimpArgs false
section
namespace Go.Ph
open Go Go.RowKit
namespace Pl
def exStop {τ : Type} (s : τ × Nat) : Bool := !decide (s.2 = 0)
end Pl
open Pl
theorem Pick.skip {L L' : List Item} {x : Item} (h : Pick L L') : Pick (x :: L) L' := by
  induction h with
  | nil => exact .nil
  | cons h _ ih => exact .cons (.tail h) ih
theorem Pick.ofSub {L L' : List Item} (h : L'.Sublist L) : Pick L L' := by
  induction h with
  | slnil => exact .nil
  | cons _ _ ih => exact ih.skip
  | cons_cons _ _ ih => exact .cons .head ih
def AIn : List Item → List Item → Prop
  | [], _ => True
  | .blk b _ :: r, L => (∃ o', Item.blk b o' ∈ L) ∧ AIn r L
  | _ :: _, _ => False
section
variable {C : Nat → Prop} {w0 w : World} {M0 M : Mem} {L L' A : List Item} {it : Item} {t : TypeId} {v : Value}
theorem feet_ain (H : StX C w0 M0 M L w) (hr : Rem L it L') {g : Nat} (hg : it.foot = some g) : ∀ {A : List Item}, AIn A L' → ¬ feet A g
  | [], _ => by rintro ⟨x, hx, _⟩; cases hx
  | .blk b o :: r, ⟨⟨o', hm⟩, h2⟩ => by
    rintro ⟨x, hx, hxg⟩
    rcases List.mem_cons.1 hx with rfl | hx
    · exact hr.pairs (R := Apart) (fun x y h => h.symm) H.sep _ hm g hg hxg
    · exact feet_ain H hr hg h2 ⟨x, hx, hxg⟩
  | .row _ _ _ _ _ :: _, h => h.elim
theorem StX.fresh (H : StX (feet A) w0 M0 M L w) (hr : Rem L it L') (hA : AIn A L') {g : Nat} (hg : it.foot = some g) : w0.heap.size ≤ g :=
  ((H.own _ hr.mem).2 g hg).2.resolve_right (feet_ain H hr hg hA)
theorem StX.freezeRowN {α : Type} {enc : α → Value} {l : List α} (H : StX (feet A) w0 M0 M L w) (hr : Rem L (RowI t enc v l) L') (hA : AIn A L') : ∃ M', M.le M' ∧ Sl M' enc v l ∧ StX (feet A) w0 M0 M' L' w :=
  H.freezeRowX hr (fun g hg => feet_ain H hr hg hA)
theorem StX.freezeVarN {b : Nat} {cs : Array Value} (H : StX (feet A) w0 M0 M L w) (hr : Rem L (.blk b (.cells cs t)) L') (hA : AIn A L') : ∃ M', M.le M' ∧ PtM M' b (.cells cs t) ∧ StX (feet A) w0 M0 M' L' w := by
  have hb := H.blk hr.mem
  obtain ⟨h1, h2⟩ := H.freeze hr rfl hb (H.fresh hr hA rfl)
  exact ⟨_, h1, by simp [PtM, Mem.set], h2⟩
theorem StX.freezeSCN {gb cap nn : Nat} {l : List UInt8} (H : StX (feet A) w0 M0 M L w) (hr : Rem L (SRow gb cap t l) L') (h : SOK M l nn cap) (hA : AIn A L') : ∃ M', M.le M' ∧ Bs M' (.slice (some ⟨gb, 0, none⟩) nn cap) l ∧ StX (feet A) w0 M0 M' L' w := by
  obtain ⟨rfl, h1, h2⟩ := h
  exact H.freezeS hr (H.fresh hr hA rfl) h1 h2
theorem StX.freezeRowSN {α : Type} {kk : Nat} {enc : α → List Value} {l : List α} (H : StX (feet A) w0 M0 M L w) (hr : Rem L (RowS t kk enc v l) L') (h0 : ∀ x, (enc x).length = kk) (hA : AIn A L') : ∃ M', M.le M' ∧ SlS M' kk enc v l ∧ StX (feet A) w0 M0 M' L' w := by
  have hown := H.rowOf hr.mem
  rcases hown.2 with ⟨hv, hn⟩ | ⟨g, cap, cur, hv, hb, hg, hnc, hcm, hcs, htake⟩
  · have : l = [] := List.eq_nil_of_length_eq_zero hn
    subst this
    subst hv
    exact ⟨M, Mem.le.refl M, SlS.nil M enc h0, H.drop hr.sublist⟩
  · have hf : (RowS t kk enc v l).foot = some g := by rw [hv]; rfl
    obtain ⟨h1, h2⟩ := H.freeze hr hf hg (H.fresh hr hA hf)
    refine ⟨_, h1, ⟨h0, some ⟨g, 0, none⟩, cap, hv, hnc, ⟨hcm, fun h => by cases h⟩, fun _ => ⟨g, 0, cur, t, (0, 0), rfl, by simp [Mem.set], fun i x hx j u hj => ?_⟩⟩, h2⟩
    have h3 := flat_at h0 l i j x u hx hj
    rw [← htake, List.getElem?_take] at h3
    split at h3
    · rename_i h4
      rw [← h3, Nat.zero_add]
      simp
    · cases h3
end
section
variable {C : Nat → Prop} {r : Option Nat} {P : Program} {ops : Array Oper} {Q : Exit → Act → World → Prop} {n : Nat} {D : List Deferred} {rest : List Oper} {e : Env} {w0 w : World} {M0 M : Mem} {L L' A B Lc : List Item} {d : Nat} {v v1 v2 : Value}
  {x y : Operand} {ty t t' ts : TypeId} {pos : String} {af : Array Edge} {g : Option (Nat × Bool)} {α σ : Type} {enc : α → Value}
def AtP (v : Value) (kk : Nat) (i : Int) (nn b o : Nat) : Prop := ∃ B c, v = .slice (some ⟨b, B, none⟩) nn c ∧ o = B + i.toNat * kk ∧ 0 ≤ i ∧ i < (nn : Int)
theorem Sl.atC {l : List α} {i : Int} {a : α} (h : Sl M enc v l) (hi : idx l i = some a) : ∃ b o, AtP v 1 i l.length b o ∧ CellM M ⟨b, o, none⟩ (enc a) := by
  obtain ⟨h0, hc⟩ := idx_some hi
  obtain ⟨b, o, c, rfl, hm⟩ := h.addr hc
  have hlt := (List.getElem?_eq_some_iff.1 hc).1
  exact ⟨b, o + i.toNat, ⟨o, c, rfl, by omega, h0, by omega⟩, hm⟩
theorem SlS.atC {kk : Nat} {encS : α → List Value} {l : List α} {i : Int} {a : α} (h : SlS M kk encS v l) (hi : idx l i = some a) : ∃ b o, AtP v kk i l.length b o ∧ CellsM M ⟨b, o, none⟩ (encS a) := by
  obtain ⟨h0, hc⟩ := idx_some hi
  obtain ⟨_, A, c, rfl, h1, h2, h3⟩ := h
  have hlt := (List.getElem?_eq_some_iff.1 hc).1
  obtain ⟨b, o, cs, t0, fz, rfl, e2, e3⟩ := h3 (by rintro rfl; simp at hc)
  exact ⟨b, o + i.toNat * kk, ⟨o, c, rfl, rfl, h0, by omega⟩, rfl, cs, t0, fz, e2, fun j u hj => e3 i.toNat a hc j u hj⟩
theorem Ex.idxAt {dst : Option Tmp} {kk nn b o : Nat} {i : Int} {k' : IntKind} (h : AtP v kk i nn b o) (ht : P.underlying t = some (.slice t')) (hz : ∀ w, (sizeOf t').run P w = .ok kk w) (hx : ev e x = some v) (hy : ev e y = some (.int k' i)) :
    Ex P ⟨dst, .indexAddr t x y, ty, pos, af, g⟩ e w (ptr b o) w := by
  obtain ⟨B, c, rfl, rfl, h0, h1⟩ := h
  refine ⟨nofun, fun ρ hfi => ?_⟩
  simp only [execOp, hfi _ _ hx, hfi _ _ hy, Instr.indexAt, Sem.run_bind, asIntOf, run_underlying ht, Result.andThen_ok, Sem.run_pure, hz, h0, h1, and_self, if_true, Addr.add_lit, Int.toNat_natCast]
theorem WR.yieldS {l : Nat} {Y : σ → α → Option (σ × Bool)} {Z : σ → List Item → Mem → Prop} {s s' : σ} {b : Bool} {xv : α} {tys : Array TypeId} (H : StX C w0 M0 M L w) (hspl : Spl L Lc B)
    (hY : ∀ s x s' b L w M, Y s x = some (s', b) → Z s L M → StX (feet L) w M M L w → YieldAt (Wd none) 0 P l #[enc x] w fun e w' => ∃ M' L', StX (feet L) w M M' L' w' ∧ e = .returned (.bool b) ∧ Z s' L' M')
    (hz : ZH Z s Lc M) (hy : Y s xv = some (s', b)) (hx : ev e x = some (yv l)) (hv : ev e y = some (enc xv))
    (hw : Wn ops n D e ⟨some d, .call ⟨.value x, #[y], tys⟩, ty, pos, af, g⟩) (hn : Nat.blt d n = true)
    (k : ∀ w M' Lc', StX C w0 M0 M' (B ++ Lc') w → M.le M' → ZH Z s' Lc' M' → WR none P ops Q n D rest ((d, .bool b) :: e) w) :
    WR none P ops Q n D (⟨some d, .call ⟨.value x, #[y], tys⟩, ty, pos, af, g⟩ :: rest) e w :=
  WR.yield (hY _ _ _ _ _ _ _ hy hz.z (H.hand hspl)) hx hv hw hn (fun en w' ⟨M', L', h1, he, hz'⟩ => ⟨b, he, k _ _ _ ((H.back hspl h1).perm List.perm_append_comm) h1.ext.le ⟨hz', hz.m⟩⟩)
def exE (l : List Code) (k : Nat) : Option Code := if k = 0 then none else some (l.getD (k - 1) .ret)
theorem exE_none {l : List Code} {k : Nat} (h : exE l k = none) : k = 0 := by unfold exE at h; split at h <;> first | assumption | cases h
theorem exE_ne {l : List Code} {k : Nat} {c : Code} (h : exE l k = some c) : ¬ k = 0 := by intro h0; subst h0; cases h
theorem exE_stop {τ : Type} (l : List Code) (s : τ × Nat) : exStop s = (exE l s.2).isSome := by unfold exE exStop; by_cases h : s.2 = 0 <;> simp [h]
def RetZ (C : Nat → Prop) (Z : σ → List Item → Mem → Prop) (s' : σ) (w : World) (M : Mem) (e : Ending) (w' : World) : Prop := ∃ r M' L', e = .returned r ∧ StX C w M M' L' w' ∧ Z s' L' M'
theorem WQ.retZ {fn : Func} {Z : σ → List Item → Mem → Prop} {s s' : σ} (hr : fn.results = #[]) (H : StX C w0 M0 M L w) (hs : Lc.Sublist L) (hz : ZH Z s Lc M) (he : s = s') : WQ (bodyPost P fn (RetZ C Z s' w0 M0)) .ret n [] e w :=
  fun a ha => ⟨ha.defers, .tuple #[], by simp [results, hr], _, M, Lc, rfl, H.drop hs, he ▸ hz.z⟩
theorem WQ.endZ {fn : Func} {Z : σ → List Item → Mem → Prop} {s s' : σ} (hr : fn.results = #[]) (H : StX C w0 M0 M L w) (hs : Lc.Sublist L) (hz : ZH Z s Lc M) (he : s = s') : WQ (bodyPost P fn (RetZ C Z s' w0 M0)) .normal n [] e w :=
  fun a ha => ⟨ha.defers, .tuple #[], by simp [results, hr], _, M, Lc, rfl, H.drop hs, he ▸ hz.z⟩
theorem ItS.of {f : FuncId} {fn : Func} {c : Code} {cap : List Value} {Pre : Mem → Prop} {run : (σ : Type) → (σ → α → Option (σ × Bool)) → σ → Option σ}
    (hf : P.funcs[f]? = some fn) (hen : ∀ ar w, (callFunc f ar).run P w = .ok (.enter f ar) w) (hb : fn.body = some c) (hnt : fn.ntmps = n) (hn : Nat.ble (cap.length + 1) n = true)
    (h : ∀ (l : Nat) (σ : Type) (Y : σ → α → Option (σ × Bool)) (Z : σ → List Item → Mem → Prop) (C : Nat → Prop),
      (∀ s x s' b L w M, Y s x = some (s', b) → Z s L M → StX (feet L) w M M L w → YieldAt (Wd none) 0 P l #[enc x] w fun e w' => ∃ M' L', StX (feet L) w M M' L' w' ∧ e = .returned (.bool b) ∧ Z s' L' M') →
      ∀ s s' L w M, run σ Y s = some s' → ZH Z s L M → StX C w M M (A ++ L) w → Pre M → WC none P (bodyPost P fn (RetZ C Z s' w M)) n [] c (envOf 0 (yv l :: cap)) w) : ItS P f cap A Pre enc run :=
  ⟨hen, fun l σ Y Z hZ hY s s' L w M hrun hz H hp => calls_of_WC (args := yv l :: cap) hf hb hnt hn (h l σ Y Z _ hY s s' L w M hrun ⟨hz, hZ⟩ H hp)⟩
end
theorem Sl.splitN {M : Mem} {b N : Nat} {t : TypeId} {xs : List ByteArray} {l : List (List UInt8)} {fz : Nat × Nat} (hx : xs.map (·.data.toList) = l) (hn : l.length ≤ N) (hm : N ≤ 9223372036854775807) (h : M b = some (.cells (Lib.cellsOf xs N) t fz)) :
    Sl M encS (.slice (some ⟨b, 0, none⟩) l.length N) l := by
  subst hx
  refine ⟨some ⟨b, 0, none⟩, N, rfl, hn, ⟨hm, fun h => by cases h⟩, fun _ => ⟨b, 0, _, t, fz, rfl, h, fun i x hi => ?_⟩⟩
  rw [List.getElem?_map] at hi
  obtain ⟨y, hy, rfl⟩ := Option.map_eq_some_iff.1 hi
  rw [Nat.zero_add]
  unfold Lib.cellsOf
  have hlt := (List.getElem?_eq_some_iff.1 hy).1
  rw [List.getElem?_toArray, List.getElem?_append_left (by simpa using hlt), List.getElem?_map, hy]
  rfl
section chk
variable {C : Nat → Prop} {P : Program} {e : Env} {w0 w : World} {M0 M : Mem} {L : List Item} {x y : Operand} {ty t t' te T : TypeId} {pos : String} {af : Array Edge} {g : Option (Nat × Bool)} {dst : Option Tmp} {a : Addr} {j : TypeInfo} {v : Value}
theorem Ex.ptrNil {p : Option Addr} (ht : P.underlying t = some (.pointer te)) (hx : ev e x = some (.pointer p)) : Ex P ⟨dst, .binOp .eql t x (.const (.pointer none)) t', ty, pos, af, g⟩ e w (.bool p.isNone) w :=
  ⟨nofun, fun ρ hf => by
    have h1 := hf _ _ hx
    have h2 : ρ (.const (.pointer none)) = .pointer none := hf _ _ rfl
    have h3 : P.underlying t = some (.pointer (P.pointee t)) := by simp [Program.pointee, ht]
    simp [execOp, h1, h2, eqGuard, run_eql_pointer_nil w t p h3]⟩
theorem Ex.ptrNeqSame (hp : P.underlying t = some (.pointer te)) (hte : P.info? te = some j) (hx : ev e x = some (.pointer (some a))) (hy : ev e y = some (.pointer (some a))) : Ex P ⟨dst, .binOp .neq t x y t', ty, pos, af, g⟩ e w (.bool false) w :=
  ⟨nofun, fun ρ hf => by
    have h1 := hf _ _ hx
    have h2 := hf _ _ hy
    simp [execOp, h1, h2, eqGuard, Lib.run_neq_ptr_same w a hp hte]⟩
theorem Ex.toUnsafe {cells : Nat} (hs : P.underlying t = some (.pointer te)) (hd : P.underlying t' = some .unsafePointer) (ht : P.info? te = some j) (hj : j.size ≠ 0) (hsh : w.shape? a.block = some (T, cells)) (ho : a.off < cells) (hx : ev e x = some (.pointer (some a))) :
    Ex P ⟨dst, .convert t t' x, ty, pos, af, g⟩ e w (.pointer (some a)) w :=
  ⟨nofun, fun ρ hf => by
    have h1 := hf _ _ hx
    simp [execOp, h1, Lib.run_to_unsafe w a hs hd ht hj hsh ho]⟩
theorem Ex.fromUnsafe {cells : Nat} (hs : P.underlying t = some .unsafePointer) (hd : P.underlying t' = some (.pointer te)) (ht : P.info? te = some j) (hsh : w.shape? a.block = some (T, cells)) (hl : liesAt P P.depth T (cells / P.cellsOf T) a.off te 1 = true) (hx : ev e x = some (.pointer (some a))) :
    Ex P ⟨dst, .convert t t' x, ty, pos, af, g⟩ e w (.pointer (some a)) w :=
  ⟨nofun, fun ρ hf => by
    have h1 := hf _ _ hx
    simp [execOp, h1, Lib.run_from_unsafe w a hs hd ht hsh hl]⟩
theorem Ex.noEscape {f : FuncId} {fn : Func} {tys : Array TypeId} (hf : P.funcs[f]? = some fn) (hname : (fn.name == "runtime.NumGoroutine") = false) (hb : fn.body.isNone = true) (hn : Extern.findNext fn = none) (he : Extern.find fn = some Extern.AbiNoEscape.same)
    (hx : ev e x = some v) : Ex P ⟨dst, .call ⟨.value (.func f), #[x], tys⟩, ty, pos, af, g⟩ e w v w :=
  ⟨nofun, fun ρ hfi => by
    have h1 := hfi _ _ hx
    have h2 : ρ (.func f) = .func (.func f) #[] #[] := hfi _ _ rfl
    simp [execOp, resolve, h1, h2, Deferred.ofValue, invoke, run_callFunc_extern hf hname hb hn he, Lib.run_noEscape]⟩
end chk
end Go.Ph
end
section
namespace Go.Ph
open Go Go.RowKit Pl
abbrev Hd : Type := Option Addr × Nat × Nat
def hv (h : Hd) : Value := .slice h.1 h.2.1 h.2.2
theorem One.hv (h : Hd) : One (hv h) := One.slice _ _ _
structure Rl (F α : Type) where
  k : Nat
  enc : F → List Value
  rel : Mem → F → α → Prop
  len : ∀ f, (enc f).length = k
  one : ∀ f, ∀ u ∈ enc f, u.oneCell' = true
  up : ∀ {M M' : Mem}, M.le M' → ∀ {f : F} {x : α}, rel M f x → rel M' f x
variable {F α : Type}
def RelL (R : Rl F α) (M : Mem) : List F → List α → Prop
  | [], [] => True
  | f :: fl, x :: l => R.rel M f x ∧ RelL R M fl l
  | _, _ => False
section
variable {R : Rl F α} {M M' : Mem} {fl fs : List F} {l s l2 : List α}
theorem RelL.nil : RelL R M [] [] := trivial
theorem RelL.len : ∀ {fl : List F} {l : List α}, RelL R M fl l → fl.length = l.length
  | [], [], _ => rfl
  | f :: fl, x :: l, h => by rw [List.length_cons, List.length_cons, RelL.len h.2]
  | [], _ :: _, h => h.elim
  | _ :: _, [], h => h.elim
theorem RelL.mono : ∀ {fl : List F} {l : List α}, RelL R M fl l → M.le M' → RelL R M' fl l
  | [], [], _, _ => trivial
  | f :: fl, x :: l, h, hl => ⟨R.up hl h.1, RelL.mono h.2 hl⟩
  | [], _ :: _, h, _ => h.elim
  | _ :: _, [], h, _ => h.elim
theorem RelL.append : ∀ {fl : List F} {l : List α}, RelL R M fl l → RelL R M fs s → RelL R M (fl ++ fs) (l ++ s)
  | [], [], _, k => k
  | f :: fl, x :: l, h, k => ⟨h.1, RelL.append h.2 k⟩
  | [], _ :: _, h, _ => h.elim
  | _ :: _, [], h, _ => h.elim
theorem RelL.one {f : F} {x : α} (h : R.rel M f x) : RelL R M [f] [x] := ⟨h, trivial⟩
theorem RelL.at : ∀ {fl : List F} {l : List α} {i : Nat} {a : α}, RelL R M fl l → l[i]? = some a → ∃ f, fl[i]? = some f ∧ R.rel M f a
  | [], [], i, a, _, hi => by simp at hi
  | f :: fl, x :: l, 0, a, h, hi => by
    simp only [List.getElem?_cons_zero, Option.some.injEq] at hi
    subst hi
    exact ⟨f, rfl, h.1⟩
  | f :: fl, x :: l, i + 1, a, h, hi => by
    rw [List.getElem?_cons_succ] at hi
    obtain ⟨f', h1, h2⟩ := RelL.at h.2 hi
    exact ⟨f', by rw [List.getElem?_cons_succ]; exact h1, h2⟩
  | [], _ :: _, _, _, h, _ => h.elim
  | _ :: _, [], _, _, h, _ => h.elim
theorem RelL.drop : ∀ (n : Nat) {fl : List F} {l : List α}, RelL R M fl l → RelL R M (fl.drop n) (l.drop n)
  | 0, _, _, h => h
  | n + 1, [], [], h => h
  | n + 1, f :: fl, x :: l, h => RelL.drop n h.2
  | _ + 1, [], _ :: _, h => h.elim
  | _ + 1, _ :: _, [], h => h.elim
theorem RelL.take : ∀ (n : Nat) {fl : List F} {l : List α}, RelL R M fl l → RelL R M (fl.take n) (l.take n)
  | 0, _, _, h => trivial
  | n + 1, [], [], h => h
  | n + 1, f :: fl, x :: l, h => ⟨h.1, RelL.take n h.2⟩
  | _ + 1, [], _ :: _, h => h.elim
  | _ + 1, _ :: _, [], h => h.elim
theorem RelL.appO {w : Nat} (h : RelL R M fl l) (k : RelL R M fs s) (ha : app w l s = some l2) : ∃ fl2, app w fl fs = some fl2 ∧ RelL R M fl2 l2 := by
  obtain ⟨h1, rfl⟩ := app_some ha
  exact ⟨fl ++ fs, app_ok (by rw [h.len, k.len]; exact h1), h.append k⟩
end
def SlR (R : Rl F α) (M : Mem) (v : Value) (l : List α) : Prop := ∃ fl, SlS M R.k R.enc v fl ∧ RelL R M fl l
section
variable {R : Rl F α} {M M' : Mem} {v : Value} {l l2 : List α}
theorem SlR.mono (h : SlR R M v l) (hl : M.le M') : SlR R M' v l := by
  obtain ⟨fl, h1, h2⟩ := h
  exact ⟨fl, h1.mono hl, h2.mono hl⟩
theorem SlR.nil : SlR R M (.slice none 0 0) [] := ⟨[], SlS.nil M R.enc R.len, trivial⟩
theorem SlR.one (h : SlR R M v l) : One v := by
  obtain ⟨fl, h1, _⟩ := h
  exact h1.one
theorem SlR.hd (h : SlR R M v l) : ∃ q : Hd, v = hv q := by
  obtain ⟨fl, ⟨_, A, c, hv, _⟩, _⟩ := h
  exact ⟨(A, fl.length, c), hv⟩
theorem SlR.atC {i : Int} {a : α} (h : SlR R M v l) (hi : idx l i = some a) : ∃ b o f, AtP v R.k i l.length b o ∧ CellsM M ⟨b, o, none⟩ (R.enc f) ∧ R.rel M f a := by
  obtain ⟨fl, h1, h2⟩ := h
  obtain ⟨h0, hc⟩ := idx_some hi
  obtain ⟨f, hf, hr⟩ := h2.at hc
  obtain ⟨b, o, h3, h4⟩ := h1.atC (i := i) (a := f) (by unfold idx; rw [if_pos h0]; exact hf)
  rw [h2.len] at h3
  exact ⟨b, o, f, h3, h4, hr⟩
theorem SlR.of {fl : List F} (h : SlS M R.k R.enc v fl) (k : RelL R M fl l) : SlR R M v l := ⟨fl, h, k⟩
end
theorem SlS.hd {M : Mem} {kk : Nat} {enc : α → List Value} {v : Value} {l : List α} (h : SlS M kk enc v l) : ∃ q : Hd, v = hv q := by
  obtain ⟨_, A, c, hv, _⟩ := h
  exact ⟨(A, l.length, c), hv⟩
theorem Sl.hd {M : Mem} {enc : α → Value} {v : Value} {l : List α} (h : Sl M enc v l) : ∃ q : Hd, v = hv q := by
  obtain ⟨A, c, hv, _⟩ := h
  exact ⟨(A, l.length, c), hv⟩
section
variable {C : Nat → Prop} {r : Option Nat} {P : Program} {ops : Array Oper} {Q : Exit → Act → World → Prop} {n : Nat} {D : List Deferred} {rest : List Oper} {e : Env} {w0 w : World} {M0 M : Mem} {L L' : List Item} {d : Nat} {v u z : Value}
  {x y : Operand} {ty t t' te ts tt : TypeId} {pos : String} {af : Array Edge} {g : Option (Nat × Bool)} {dst : Option Tmp} {R : Rl F α} {l l2 l3 : List α}
theorem Ex.lenSlR (ht : P.underlying t = some (.slice t')) (h : SlR R M v l) (hx : ev e x = some v) : Ex P ⟨dst, .call ⟨.builtin .len, #[x], #[t]⟩, ty, pos, af, g⟩ e w (I l.length) w := by
  obtain ⟨fl, h1, h2⟩ := h
  rw [← h2.len]
  exact Ex.lenSlS ht h1 hx
theorem WR.appRC {bytes : Nat} {L' : Item → List Item} {fl : List F} (T : ElemTy P ts t z R.k bytes) (hbp : Nat.blt 0 bytes = true) (H : StX C w0 M0 M L w) (hk : RelL R M fl l) (hx : ev e x = some v) (hu : ∀ it', Upd L (RowS t R.k R.enc v fl) it' (L' it')) (hy : ev e y = some u)
    (hs : SlR R M u l2) (ha : app bytes l l2 = some l3)
    (hw : Wn ops n D e ⟨some d, .call ⟨.builtin .append, #[x, y], #[ts, ts]⟩, ty, pos, af, g⟩) (hn : Nat.blt d n = true)
    (k : ∀ v' fl' w', RelL R M fl' l3 → StX C w0 M0 M (L' (RowS t R.k R.enc v' fl')) w' → WR r P ops Q n D rest ((d, v') :: e) w') :
    WR r P ops Q n D (⟨some d, .call ⟨.builtin .append, #[x, y], #[ts, ts]⟩, ty, pos, af, g⟩ :: rest) e w := by
  obtain ⟨f2, h2, h3⟩ := hs
  obtain ⟨fl3, h4, h5⟩ := hk.appO h3 ha
  exact WR.appSC T hbp R.one H hx hu hy h2 h4 hw hn fun v' w' h => k v' fl3 w' h5 h
end
end Go.Ph
end
section
namespace Go.Ph
open Go Go.RowKit Go.ChangeShapes Go.WideShapes Go.ChangeAt
abbrev Adr3 : Type := List UInt8 × List UInt8 × List UInt8
abbrev adrE (a : Adr3) : List Value := [S a.1, S a.2.1, S a.2.2]
def OkA (a : Adr3) : Prop := a.1.length ≤ 140737488351232 ∧ a.2.1.length ≤ 140737488351232 ∧ a.2.2.length ≤ 140737488351232
section
variable {H : Type} {enc : TypeId × Value → H} {P : Program} {W : World}
theorem elem_adr {e tS : TypeId} {f0 f1 f2 : Field} (he : P.underlying e = some (.struct #[f0, f1, f2])) (t0 : f0.type = tS) (t1 : f1.type = tS) (t2 : f2.type = tS) (o0 : f0.offset = 0) (o1 : f1.offset = 1) (o2 : f2.offset = 2) (hS : P.underlying tS = some .string) (hc : P.cellsOf tS = 1) (hce : P.cellsOf e = 3) :
    ElemIs enc P W e adrE OkA := fun fuel cs x h => by
  obtain ⟨xs, n, _, hd, hlc, hlen, hf⟩ := DataW.trod_struct he h
  match xs, hlen with
  | [y0, y1, y2], _ =>
    have k0 := hf 0 f0 rfl
    have k1 := hf 1 f1 rfl
    have k2 := hf 2 f2 rfl
    rw [t0, o0, hc] at k0
    rw [t1, o1, hc] at k1
    rw [t2, o2, hc] at k2
    simp only [List.getElem?_cons_zero, List.getElem?_cons_succ, Option.some.injEq] at k0 k1 k2
    have hl : cs.length = 3 := by rw [hce] at hlc; exact hlc
    match cs, hl with
    | [c0, c1, c2], _ =>
      have k0' : DataW.trod enc P W 0 (fun _ => true) true n tS [c0] = some y0 := k0
      have k1' : DataW.trod enc P W 0 (fun _ => true) true n tS [c1] = some y1 := k1
      have k2' : DataW.trod enc P W 0 (fun _ => true) true n tS [c2] = some y2 := k2
      obtain ⟨s0, e0, r0, _⟩ := DataW.trod_string hS k0'
      obtain ⟨s1, e1, r1, _⟩ := DataW.trod_string hS k1'
      obtain ⟨s2, e2, r2, _⟩ := DataW.trod_string hS k2'
      simp only [List.cons.injEq, and_true] at e0 e1 e2
      subst e0 e1 e2
      refine ⟨(s0.data.toList, s1.data.toList, s2.data.toList), by cases s0; cases s1; cases s2; simp [S], fun hw => ?_⟩
      have hx : x.1 = .agg [y0.1, y1.1, y2.1] := by rw [hd]; rfl
      rw [hx, r0, r1, r2] at hw
      have hw' : ∀ y ∈ [s0.data.toList.length, s1.data.toList.length, s2.data.toList.length], y ≤ reachBytes := fun y hy => hw y (by
        simp only [DataW.weights, he, DataW.weightsEach, List.map_cons, List.map_nil]
        simpa using hy)
      exact ⟨hw' _ (by simp), hw' _ (by simp), hw' _ (by simp)⟩
theorem open_adr {t tS : TypeId} {f0 f1 f2 : Field} {v : Value} {d : DataW H} {p : List MemPlace} {base : Nat} (hs : P.underlying t = some (.struct #[f0, f1, f2])) (t0 : f0.type = tS) (t1 : f1.type = tS) (t2 : f2.type = tS) (o0 : f0.offset = 0) (o1 : f1.offset = 1) (o2 : f2.offset = 2)
    (hC : P.cellsOf t = 3) (hS : P.underlying tS = some .string) (hcS : P.cellsOf tS = 1) (hval : Value.okWide P W .any base t v) (h0 : DataW.Trod enc P W 0 (fun _ => true) true t v d p) :
    ∃ z : Adr3, v = .agg #[S z.1, S z.2.1, S z.2.2] ∧ ((∀ y ∈ d.weights P t, y ≤ reachBytes) → OkA z) := by
  obtain ⟨cs, rfl, hsz⟩ := okWide_struct hs hval
  obtain ⟨fuel, h⟩ := h0
  obtain ⟨z, hz, hok⟩ := elem_adr (enc := enc) (P := P) (W := W) hs t0 t1 t2 o0 o1 o2 hS hcS hC fuel _ _ h
  refine ⟨z, ?_, hok⟩
  have : cs = #[S z.1, S z.2.1, S z.2.2] := by
    apply Array.ext'
    exact hz
  rw [this]
theorem RelL.ofSub {F α : Type} {R : Rl F α} {M : Mem} : ∀ (l : List { p : F × α // R.rel M p.1 p.2 }), RelL R M (l.map fun p => p.1.1) (l.map fun p => p.1.2)
  | [] => trivial
  | p :: l => ⟨p.2, RelL.ofSub l⟩
end
end Go.Ph
end
section
namespace Go.Ph
open Go Go.RowKit
def chainB (ops : Array Oper) : List Nat → Array Bool → Bool
  | [], _ => true
  | i :: is, l => (Region.ready .any ops l == [i]) && (ops[i]?).isSome && chainB ops is (l.setIfInBounds i true)
def opsAt (ops : Array Oper) : List Nat → List Oper
  | [] => []
  | i :: is => match ops[i]? with
    | some o => o :: opsAt ops is
    | none => []
def finL : List Nat → Array Bool → Array Bool
  | [], l => l
  | i :: is, l => finL is (l.setIfInBounds i true)
def noCall (o : Oper) : Bool := match o.op with
  | .call _ => false
  | _ => true
theorem noCall_about {o : Oper} (h : noCall o = true) (P : Program) (w : World) (ρ : Operand → Value) : o.about P w ρ = none := by
  unfold noCall at h
  unfold Oper.about
  split
  · rename_i c hc; rw [hc] at h; cases h
  · rfl
def freesB (ops : Array Oper) : List Nat → Array Bool → Bool
  | [], _ => true
  | i :: is, l => (match ops[i]? with | some o => noCall o | none => false) && Region.free .any ops l i && (Region.ready .any ops l).contains i && freesB ops is (l.setIfInBounds i true)
section
variable {r : Option Nat} {P : Program} {ops : Array Oper} {Q : Exit → Act → World → Prop} {n fuel : Nat} {D : List Deferred} {e e' : Env} {w : World} {listed : Array Bool}
theorem chain_sound : ∀ (is : List Nat) (listed : Array Bool) (a : Act) (w : World), chainB ops is listed = true → wpListIn (Wd r) 0 P ops (Qa r P ops Q fuel (finL is listed)) (opsAt ops is) a w → wpAnyIn (Wd r) 0 P .any ops (noP ops Q) (fuel + is.length) listed a w
  | [], listed, a, w, hc, h => h
  | i :: is, listed, a, w, hc, h => by
    rw [chainB, Bool.and_eq_true, Bool.and_eq_true] at hc
    obtain ⟨⟨h1, h2⟩, h3⟩ := hc
    have h1 : Region.ready .any ops listed = [i] := by simpa using h1
    obtain ⟨o, ho⟩ := Option.isSome_iff_exists.1 h2
    rw [opsAt, ho] at h
    refine wpAnyIn_all h1 (by simp) fun x hx => ?_
    obtain rfl : x = i := by simpa using hx
    have h4 : wpOpIn (Wd r) 0 P ops (noP ops Q) x (wpListIn (Wd r) 0 P ops (Qa r P ops Q fuel (finL (x :: is) listed)) (opsAt ops is)) a w := by
      unfold wpOpIn
      rw [ho]
      simp only [wpListIn] at h ⊢
      exact h
    exact wpOpIn_mono (fun a w hk => chain_sound is (listed.setIfInBounds x true) a w h3 hk) h4
theorem WA.seq (is : List Nat) {f : Nat} (hf : f = fuel + is.length) (hc : chainB ops is listed = true) (k : WR r P ops (Qa r P ops Q fuel (finL is listed)) n D (opsAt ops is) e w) : WA r P ops Q n D f listed e w := fun a ha => by
  subst hf
  exact chain_sound is listed a w hc (k a ha)
theorem skips_one {o : Oper} (h : skips ops n e [o] = some e') : ∃ d, o.dst = some d ∧ d < n ∧ e' = (d, undef) :: e ∧ ∀ D a, Sat n D e a → Region.wanted o (yielded ops a.tmps) = false := by
  rw [skips] at h
  split at h
  case h_2 => cases h
  rename_i j b d hg hd
  split at h
  case h_2 => cases h
  rename_i t ht
  split at h
  · rename_i b' hb
    cases hc : ((b' != b) && Nat.blt d n) with
    | false => rw [hc] at h; cases h
    | true =>
      rw [hc] at h
      rw [Bool.and_eq_true] at hc
      have hne : b' ≠ b := by simpa using hc.1
      rw [cond_true, skips] at h
      exact ⟨d, hd, Nat.le_of_ble_eq_true hc.2, (oI h).symm, fun D a ha => by
        have := yielded_of ht ha hb
        simp [Region.wanted, hg, this, hne]⟩
  · rename_i xs hb
    cases hc : Nat.blt d n with
    | false => rw [hc] at h; cases h
    | true =>
      rw [hc] at h
      rw [cond_true, skips] at h
      exact ⟨d, hd, Nat.le_of_ble_eq_true hc, (oI h).symm, fun D a ha => by
        have hv := ha.val t _ hb
        have : yielded ops a.tmps j = none := by
          unfold yielded
          rw [ht]
          simp only [Option.bind_some]
          cases htt : a.tmps[t]? with
          | none => rfl
          | some x => simp [htt] at hv; subst hv; rfl
        simp [Region.wanted, hg, this]⟩
  · cases h
theorem skips_cons {o : Oper} {l : List Oper} (h : skips ops n e (o :: l) = some e') : ∃ e1, skips ops n e [o] = some e1 ∧ skips ops n e1 l = some e' := by
  rw [skips] at h
  split at h
  case h_2 => cases h
  rename_i j b d hg hd
  split at h
  case h_2 => cases h
  rename_i t ht
  split at h
  · rename_i b' hb
    cases hc : ((b' != b) && Nat.blt d n) with
    | false => rw [hc] at h; cases h
    | true =>
      rw [hc, cond_true] at h
      refine ⟨_, ?_, h⟩
      rw [skips, hg, hd]
      simp only [ht, hb, hc, cond_true]
      rfl
  · rename_i xs hb
    cases hc : Nat.blt d n with
    | false => rw [hc] at h; cases h
    | true =>
      rw [hc, cond_true] at h
      refine ⟨_, ?_, h⟩
      rw [skips, hg, hd]
      simp only [ht, hb, hc, cond_true]
      rfl
  · cases h
theorem takes_sound (hs : Region.noSelect ops = true) : ∀ (is : List Nat) (e : Env) (listed : Array Bool), freesB ops is listed = true → skips ops n e (opsAt ops is) = some e' → WA none P ops Q n D fuel (finL is listed) e' w → WA none P ops Q n D (fuel + is.length) listed e w
  | [], e, listed, _, h, k => by cases h; exact k
  | i :: is, e, listed, hf, h, k => by
    rw [freesB, Bool.and_eq_true, Bool.and_eq_true, Bool.and_eq_true] at hf
    obtain ⟨⟨⟨h1, h2⟩, h3⟩, h4⟩ := hf
    cases ho : ops[i]? with
    | none => rw [ho] at h1; cases h1
    | some o =>
      rw [ho] at h1
      rw [opsAt, ho] at h
      obtain ⟨e1, g1, g2⟩ := skips_cons h
      obtain ⟨d, hd, hn, rfl, hw⟩ := skips_one g1
      exact WA.takeN ho hs h2 h3 (hw D) hd (Nat.ble_eq_true_of_le hn) (fun w ρ => noCall_about h1 P w ρ) (takes_sound hs is _ _ h4 g2 k)
theorem WA.takes (is : List Nat) {f : Nat} (hf : f = fuel + is.length) (hs : Region.noSelect ops = true) (hc : freesB ops is listed = true) (h : Ph.skips ops n e (opsAt ops is) = some e') (k : WA none P ops Q n D fuel (finL is listed) e' w) : WA none P ops Q n D f listed e w := by
  subst hf
  exact takes_sound hs is e listed hc h k
end
section
variable {P : Program} {e : Env} {w : World} {x y : Operand} {dst : Option Tmp} {ty t t' : TypeId} {pos : String} {af : Array Edge} {g : Option (Nat × Bool)} {a b : Bool}
theorem beq_dec (a b : Bool) : (a == b) = decide (a = b) := by cases a <;> cases b <;> rfl
theorem Ex.neqBo (ht : P.underlying t = some .bool) (h1 : ev e x = some (.bool a)) (h2 : ev e y = some (.bool b)) : Ex P ⟨dst, .binOp .neq t x y t', ty, pos, af, g⟩ e w (.bool (!decide (a = b))) w :=
  ⟨nofun, fun ρ hf => by simp [execOp, hf _ _ h1, hf _ _ h2, run_neq_bool _ t a b ht, eqGuard, beq_dec]⟩
end
end Go.Ph
end
section
namespace Go.Ph
open Go Go.RowKit
def Keeps {α : Type} (s : Sem α) : Prop := ∀ (P : Program) (w : World) (x : α) (w' : World), s.run P w = .ok x w' → w' = w
theorem Keeps.pure {α : Type} (a : α) : Keeps (Pure.pure a : Sem α) := fun P w x w' h => by
  rw [Sem.run_pure] at h; cases h; rfl
theorem Keeps.bind {α β : Type} {s : Sem α} {f : α → Sem β} (h : Keeps s) (hf : ∀ a, Keeps (f a)) : Keeps (s >>= f) := fun P w x w' hr => by
  rw [Sem.run_bind] at hr
  cases h1 : s.run P w with
  | ok a w1 =>
    rw [h1, Result.andThen_ok] at hr
    rw [h P w a w1 h1] at hr
    exact hf a P w x w' hr
  | halt c w1 => rw [h1] at hr; cases hr
theorem Keeps.load {a : Addr} {m : Mode} : Keeps (Go.load a m) := fun P w x w' h => by
  unfold Go.load at h
  simp only [Sem.run] at h
  split at h
  · cases h; rfl
  · split at h
    · cases h; rfl
    · cases h
theorem Keeps.program : Keeps Go.program := fun P w x w' h => by
  unfold Go.program at h
  simp only [Sem.run] at h
  cases h; rfl
theorem Keeps.halt {α : Type} {c : Halt} : Keeps (Sem.halt c : Sem α) := fun P w x w' h => by
  simp only [Sem.run] at h
  cases h
theorem Keeps.typeInfo {t : TypeId} : Keeps (Go.typeInfo t) := by
  unfold Go.typeInfo
  refine Keeps.bind Keeps.program fun p => ?_
  split
  · exact Keeps.pure _
  · exact Keeps.halt
theorem Keeps.underlying {t : TypeId} : Keeps (Go.underlying t) := by
  unfold Go.underlying
  refine Keeps.bind Keeps.program fun p => ?_
  split
  · exact Keeps.pure _
  · exact Keeps.halt
theorem Keeps.sizeOf {t : TypeId} : Keeps (Go.sizeOf t) := Keeps.bind Keeps.typeInfo fun p => Keeps.pure _
theorem Keeps.isAgg {t : TypeId} : Keeps (Go.isAgg t) := by
  unfold Go.isAgg
  refine Keeps.bind Keeps.underlying fun p => ?_
  split <;> exact Keeps.pure _
theorem Keeps.loadCellsFrom {a : Addr} : ∀ (n i : Nat) (acc : Array Value), Keeps (Go.loadCellsFrom a i n acc)
  | 0, i, acc => Keeps.pure _
  | n + 1, i, acc => Keeps.bind Keeps.load fun v => Keeps.loadCellsFrom n (i + 1) _
theorem Keeps.loadVar {t : TypeId} {a : Addr} : Keeps (Go.loadVar t a) := by
  unfold Go.loadVar
  refine Keeps.bind Keeps.isAgg fun b => ?_
  split
  · exact Keeps.bind Keeps.sizeOf fun n => Keeps.bind (Keeps.loadCellsFrom n 0 _) fun c => Keeps.pure _
  · exact Keeps.load
theorem Keeps.loadAt {t : TypeId} {v : Value} : Keeps (Instr.loadAt t v) := by
  unfold Instr.loadAt
  refine Keeps.bind ?_ fun a => Keeps.loadVar
  unfold Instr.sureAddr
  split
  · exact Keeps.pure _
  · exact Keeps.halt
def quietB (o : Oper) : Bool := match o.op with
  | .move _ => true
  | .assign _ => true
  | .load _ _ => true
  | _ => false
def Quiet (o : Oper) : Prop := ∀ (ρ : Operand → Value) (P : Program) (w : World) (x : Next) (w' : World), (execOp ρ o).run P w = .ok x w' → w' = w ∧ ∃ u, x = .value u
theorem quiet_of {o : Oper} (h : quietB o = true) : Quiet o := fun ρ P w x w' hr => by
  unfold quietB at h
  unfold execOp at hr
  split at h
  · rename_i y hy
    rw [hy] at hr
    simp only [Sem.run_pure] at hr
    cases hr; exact ⟨rfl, _, rfl⟩
  · rename_i y hy
    rw [hy] at hr
    simp only [Sem.run_pure] at hr
    cases hr; exact ⟨rfl, _, rfl⟩
  · rename_i t y hy
    rw [hy] at hr
    simp only [Sem.run_bind] at hr
    cases h1 : (Instr.loadAt t (ρ y)).run P w with
    | ok a w1 =>
      rw [h1] at hr
      simp only [Result.andThen_ok, Sem.run_pure] at hr
      cases hr
      exact ⟨Keeps.loadAt P w a w' h1, _, rfl⟩
    | halt c w1 => rw [h1] at hr; cases hr
  · cases h
def holdB (ops : Array Oper) (listed : Array Bool) (B : List Nat) (i : Nat) : Bool :=
  !B.contains i && (List.range ops.size).all fun k => match ops[k]? with
    | none => true
    | some ok => listed.getD k true || k == i || (bif B.contains k then quietB ok && (match ops[i]? with | some oi => oi.apart ops ok | none => false) else ok.after.any fun e => Region.binds .any e && (e.on == i || (!B.contains e.on && !listed.getD e.on true)))
def YieldsAt (P : Program) (ops : Array Oper) (o : Oper) (v : Value) (a : Act) (w : World) : Prop :=
  Region.wanted o (yielded ops a.tmps) = true ∧ (execOp a.eval o).run P w = .ok (.value v) w ∧ ∀ w, o.about P w a.eval = none
section
variable {F : Fence} {n : Nat} {P : Program} {ops : Array Oper} {Q : Exit → Act → World → Prop}
theorem YieldsAt.wpOpIn {i : Nat} {o : Oper} {v : Value} {a : Act} {w : World} (hro : F.round = none) (hi : ops[i]? = some o) (hy : YieldsAt P ops o v a w) {K : Act → World → Prop} (h : K (a.put o.dst v) w) : wpOpIn F n P ops Q i K a w := by
  unfold Go.wpOpIn
  simp only [hi]
  have hab : ∀ f, o.about P w a.eval = some f → F.fn f := fun f hf => by rw [hy.2.2 w] at hf; cases hf
  simp only [hy.1, if_true, Oper.wpIn, hro, Oper.semAt_none, hy.2.1, Oper.uponIn]
  exact ⟨hab, h⟩
theorem wpOpIn_putQ {j : Nat} {oi oj : Oper} {v : Value} (hro : F.round = none) (hj : ops[j]? = some oj) (hq : Quiet oj) (hap : oi.apart ops oj = true)
    (hsi : ∀ cs b, oi.op ≠ .select cs b) (hsj : ∀ cs b, oj.op ≠ .select cs b)
    (hQ : ∀ c a w, Q (.panic c) (a.put oi.dst v) w → Q (.panic c) a w) {K : Act → World → Prop} {a : Act} {w : World}
    (hy : YieldsAt P ops oi v a w) (h : wpOpIn F n P ops Q j K (a.put oi.dst v) w) :
    wpOpIn F n P ops Q j (fun a' w' => YieldsAt P ops oi v a' w' ∧ K (a'.put oi.dst v) w') a w := by
  obtain ⟨h1, h2, h3⟩ := Oper.apart_spec hap
  have keep : ∀ u, YieldsAt P ops oi v (a.put oj.dst u) w := fun u =>
    ⟨by rw [wanted_put oi a oj.dst u h3]; exact hy.1, by rw [execOp_put oi hsi a oj.dst u h3]; exact hy.2.1, fun w => by rw [about_put oi w a oj.dst u h3]; exact hy.2.2 w⟩
  unfold Go.wpOpIn at *
  simp only [hj] at *
  rw [wanted_put oj a oi.dst v h1, about_put oj w a oi.dst v h1] at h
  split
  · rename_i hw
    simp only [hw, if_true] at h
    unfold Oper.wpIn at *
    rw [about_put oj w a oi.dst v h1] at h
    refine ⟨h.1, ?_⟩
    have h := h.2
    rw [hro, Oper.semAt_none, execOp_put oj hsj a oi.dst v h1] at h
    rw [hro, Oper.semAt_none]
    cases hr : (execOp a.eval oj).run P w with
    | ok x w' =>
      obtain ⟨rfl, u, rfl⟩ := hq _ _ _ _ _ hr
      rw [hr] at h
      simp only [Oper.uponIn] at h ⊢
      exact ⟨keep u, by rw [← Act.put_comm a v u h2]; exact h⟩
    | halt x w' =>
      rw [hr] at h
      cases x <;> simp only [Oper.uponIn] at h ⊢
      case panic u => exact hQ _ _ _ h
  · rename_i hw
    simp only [hw] at h
    exact ⟨h.1, keep _, by rw [← Act.put_comm a v undef h2]; exact h.2⟩
theorem wpAnyIn_firstQ {i : Nat} {oi : Oper} {v : Value} {B : List Nat} {L0 : Array Bool} (hro : F.round = none) (hi : ops[i]? = some oi) (hsel : ∀ (j : Nat) (o : Oper) cs b, ops[j]? = some o → o.op ≠ .select cs b)
    (hQ : ∀ c a w, Q (.panic c) (a.put oi.dst v) w → Q (.panic c) a w) (hiB : i ∉ B) (hi0 : L0.getD i true = false)
    (hk : ∀ k ok, ops[k]? = some ok → L0.getD k true = false → k ≠ i → (k ∈ B ∧ Quiet ok ∧ oi.apart ops ok = true) ∨ (k ∉ B ∧ ∃ e ∈ ok.after, Region.binds .any e = true ∧ (e.on = i ∨ (e.on ∉ B ∧ L0.getD e.on true = false)))) :
    ∀ (fuel : Nat) (listed : Array Bool) (a : Act) (w : World), (∀ k, k ∉ B → L0.getD k true = false → listed.getD k false = false ∧ listed.getD k true = false) → (∀ k, L0.getD k true = true → listed.getD k true = true) →
      i ∈ Region.ready .any ops listed → YieldsAt P ops oi v a w →
      wpAnyIn F n P .any ops Q fuel (listed.setIfInBounds i true) (a.put oi.dst v) w → wpAnyIn F n P .any ops Q (fuel + 1) listed a w := by
  have inB : ∀ (listed : Array Bool) (j : Nat), (∀ k, k ∉ B → L0.getD k true = false → listed.getD k false = false ∧ listed.getD k true = false) → (∀ k, L0.getD k true = true → listed.getD k true = true) → j ∈ Region.ready .any ops listed → j ≠ i →
      ∃ oj, ops[j]? = some oj ∧ j ∈ B ∧ Quiet oj ∧ oi.apart ops oj = true := fun listed j hs1 hs2 hj hji => by
    obtain ⟨hjun, oj, hoj, hall⟩ := mem_ready.1 hj
    have h0 : L0.getD j true = false := by
      cases hc : L0.getD j true with
      | false => rfl
      | true => rw [hs2 j hc] at hjun; cases hjun
    rcases hk j oj hoj h0 hji with ⟨h1, h2, h3⟩ | ⟨h1, e, he, hb, hor⟩
    · exact ⟨oj, hoj, h1, h2, h3⟩
    · have h4 := hall e he hb
      rcases hor with h5 | ⟨h5, h6⟩
      · rw [h5, (hs1 i hiB hi0).1] at h4; cases h4
      · rw [(hs1 e.on h5 h6).1] at h4; cases h4
  intro fuel
  induction fuel with
  | zero =>
    intro listed a w hs1 hs2 hr hy H
    refine ⟨fun h => (by rw [h] at hr; cases hr), fun j hj => ?_⟩
    by_cases hji : j = i
    · subst hji; exact hy.wpOpIn hro hi H
    · have := ready_mono hj hji
      rw [H.1] at this
      cases this
  | succ fuel ih =>
    intro listed a w hs1 hs2 hr hy H
    refine ⟨fun h => (by rw [h] at hr; cases hr), fun j hj => ?_⟩
    by_cases hji : j = i
    · subst hji; exact hy.wpOpIn hro hi H
    · obtain ⟨oj, hoj, hjB, hq, hap⟩ := inB listed j hs1 hs2 hj hji
      have h1 := H.2 j (ready_mono hj hji)
      have h2 := wpOpIn_putQ hro hoj hq hap (fun cs b => hsel i oi cs b hi) (fun cs b => hsel j oj cs b hoj) hQ hy h1
      refine wpOpIn_mono (fun a' w' h3 => ih (listed.setIfInBounds j true) a' w' (fun k hkB hk0 => ?_) (fun k hk0 => ?_) (ready_mono hr (Ne.symm hji)) h3.1 ?_) h2
      · have hjk : j ≠ k := fun h => hkB (h ▸ hjB)
        rw [getD_set_ne false hjk, getD_set_ne true hjk]
        exact hs1 k hkB hk0
      · by_cases hjk : j = k
        · subst hjk
          rcases Nat.lt_or_ge j listed.size with h' | h'
          · simp [h']
          · simp [Array.getElem?_eq_none h']
        · rw [getD_set_ne true hjk]; exact hs2 k hk0
      · rw [Array.setIfInBounds_comm _ _ hji]
        exact h3.2
end
section
variable {P : Program} {ops : Array Oper} {Q : Exit → Act → World → Prop} {n fuel i d : Nat} {D : List Deferred} {e : Env} {w : World} {listed : Array Bool} {o : Oper} {v : Value}
theorem getD_ff {l : Array Bool} {k : Nat} (h : l.getD k true = false) : l.getD k false = false := by
  rcases Nat.lt_or_ge k l.size with h' | h'
  · simp [h'] at h ⊢; exact h
  · simp [Array.getElem?_eq_none h'] at h
theorem WA.takeM (B : List Nat) (ho : ops[i]? = some o) (hs : Region.noSelect ops = true) (hk : holdB ops listed B i = true) (hr : (Region.ready .any ops listed).contains i = true) (hx : Ex P o e w v w) (hw : Wn ops n D e o) (hd : o.dst = some d) (hn : Nat.blt d n = true)
    (hab : ∀ w ρ, o.about P w ρ = none) (k : WA none P ops Q n D fuel (listed.setIfInBounds i true) ((d, v) :: e) w) : WA none P ops Q n D (fuel + 1) listed e w := fun a ha => by
  unfold holdB at hk
  rw [Bool.and_eq_true] at hk
  have hiB : i ∉ B := by simpa using hk.1
  have hr' : i ∈ Region.ready .any ops listed := by simpa using hr
  have hi0 := (mem_ready.1 hr').1
  refine wpAnyIn_firstQ (F := Wd none) (B := B) (L0 := listed) rfl ho (Region.noSelect_spec hs) (fun _ _ _ h => noP_put ho h) hiB hi0 (fun j oj hj h0 hji => ?_) fuel listed a w (fun k _ h0 => ⟨getD_ff h0, h0⟩) (fun k h => h) hr' ⟨hw a ha, hx.2 _ ha.fits, fun w => hab w _⟩ ?_
  · have hlt : j < ops.size := (Array.getElem?_eq_some_iff.1 hj).1
    have := List.all_eq_true.1 hk.2 j (List.mem_range.2 hlt)
    rw [hj] at this
    simp only [h0, Bool.false_or, Bool.or_eq_true, beq_iff_eq, hji, false_or] at this
    cases hB : B.contains j with
    | true =>
      rw [hB, cond_true, ho, Bool.and_eq_true] at this
      exact .inl ⟨by simpa using hB, quiet_of this.1, this.2⟩
    | false =>
      rw [hB, cond_false] at this
      obtain ⟨ed, h1, h2⟩ := Array.any_eq_true'.1 this
      simp only [Bool.and_eq_true, Bool.or_eq_true, beq_iff_eq, Bool.not_eq_true'] at h2
      refine .inr ⟨by simpa using hB, ed, h1, h2.1, ?_⟩
      rcases h2.2 with h3 | ⟨h3, h4⟩
      · exact .inl h3
      · exact .inr ⟨by simpa using h3, h4⟩
  · rw [hd]
    exact k _ (ha.put (Nat.le_of_ble_eq_true hn) v)
end
end Go.Ph
end
section
namespace Go.Ph
open Go Go.RowKit Pl
section
variable {C : Nat → Prop} {r : Option Nat} {P : Program} {ops : Array Oper} {Q : Exit → Act → World → Prop} {n : Nat} {D : List Deferred} {rest : List Oper} {e : Env} {w0 w : World} {M0 M : Mem} {L L' : List Item} {d : Nat} {v z : Value}
  {x y : Operand} {ty t ts tt : TypeId} {pos : String} {af : Array Edge} {g : Option (Nat × Bool)} {α : Type} {enc : α → List Value} {kk bytes : Nat} {l : List α} {M : Mem}
theorem WR.litE (T : ElemTy P ts t z kk bytes) (enc : α → List Value) (H : StX C w0 M0 M L w)
    (hw : Wn ops n D e ⟨some d, .buildSlice ts 0 #[], ty, pos, af, g⟩) (hn : Nat.blt d n = true)
    (k : ∀ v w', StX C w0 M0 M (RowS t kk enc v ([] : List α) :: L) w' → WR r P ops Q n D rest ((d, v) :: e) w') :
    WR r P ops Q n D (⟨some d, .buildSlice ts 0 #[], ty, pos, af, g⟩ :: rest) e w := by
  obtain ⟨i, hi, hz, hsz, _⟩ := T.info
  have hs : (sizeOf t).run P w = .ok kk w := by simp [sizeOf, typeInfo, hi, hsz]
  have hrun : (Instr.buildSlice ts 0 #[]).run P w = .ok (.slice (some ⟨w.heap.size, 0, none⟩) 0 0) (w.alloc (.cells #[] t)) := by
    simp only [Instr.buildSlice, Sem.run_bind, run_underlying T.under, Result.andThen_ok, hs]
    rw [if_neg (by simp)]
    rw [if_pos (by simp)]
    simp only [Sem.run_bind, Sem.run_pure, Result.andThen_ok, Nat.zero_mul]
    rw [show Array.range 0 = #[] by simp, Array.map_empty]
    rfl
  refine WR.step (w' := w.alloc (.cells #[] t)) (v := .slice (some ⟨w.heap.size, 0, none⟩) 0 0) ⟨nofun, fun ρ hf => ?_⟩ hw rfl hn (k _ _ (H.new (it := RowS t kk enc (.slice (some ⟨w.heap.size, 0, none⟩) 0 0) ([] : List α)) (grownBy_alloc' w _) ?_ (fun b hb => by cases hb; exact Nat.le_refl _)))
  · simp only [execOp, Sem.run_bind, Array.map_empty, List.map_toArray, hrun, Result.andThen_ok, Sem.run_pure]
    first | done | simp [hrun]
  · exact ⟨by simp, .inr ⟨w.heap.size, 0, #[], rfl, Nat.zero_le _, heap_alloc_new w _, by simp, by simp, by simp, by simp⟩⟩
theorem Ex.eqlNilS {a : Option Addr} {nn c : Nat} {t' : TypeId} {dst : Option Tmp} (ht : P.underlying t = some (.slice t')) (hx : ev e x = some (.slice a nn c)) : Ex P ⟨dst, .binOp .eql t x (.const (.slice none 0 0)) tt, ty, pos, af, g⟩ e w (.bool a.isNone) w :=
  ⟨nofun, fun ρ hf => by
    have h2 : ρ (.const (.slice none 0 0)) = .slice none 0 0 := hf _ _ rfl
    simp [execOp, hf _ _ hx, h2, eqGuard, Go.run_eql_slice_nil w t t' a nn c ht]⟩
theorem SlS.nilOr {M : Mem} (h : SlS M kk enc v l) : (v = .slice none 0 0 ∧ l = []) ∨ ∃ a c, v = .slice (some a) l.length c := by
  obtain ⟨_, A, c, rfl, h1, h2, _⟩ := h
  cases A with
  | none =>
    have hc := h2.2 rfl
    have hl : l = [] := List.eq_nil_of_length_eq_zero (by omega)
    subst hl; subst hc
    exact .inl ⟨rfl, rfl⟩
  | some a => exact .inr ⟨a, c, rfl⟩
theorem Ex.sliceRow {A : Option Addr} {nn c i j : Nat} {t' : TypeId} {lo hi : Option Operand} {dst : Option Tmp} (ht : P.underlying t = some (.slice t')) (hz : ∀ w, (sizeOf t').run P w = .ok kk w) (hx : ev e x = some (.slice A nn c)) (hnc : nn ≤ c) (hij : i ≤ j) (hj : j ≤ nn)
    (hlo : (∃ o, lo = some o ∧ ev e o = some (I i)) ∨ (lo = none ∧ i = 0)) (hhi : (∃ o, hi = some o ∧ ev e o = some (I j)) ∨ (hi = none ∧ j = nn)) :
    Ex P ⟨dst, .slice t x lo hi none, ty, pos, af, g⟩ e w (.slice (if c = i then A else A.map (fun a => a.add (i * kk))) (j - i) (c - i)) w :=
  ⟨nofun, fun ρ hfi => by
    have hr := run_slice_partS (P := P) (w := w) (lo := lo.map ρ) (hi := hi.map ρ) ht hz A nn c hnc hij hj
      (by rcases hlo with ⟨o, rfl, ho⟩ | ⟨rfl, h⟩
          · exact .inl (by simp [hfi _ _ ho])
          · exact .inr ⟨rfl, h⟩)
      (by rcases hhi with ⟨o, rfl, ho⟩ | ⟨rfl, h⟩
          · exact .inl (by simp [hfi _ _ ho])
          · exact .inr ⟨rfl, h⟩)
    simp only [execOp, hfi _ _ hx, Option.map_none, Sem.run_bind, hr, Result.andThen_ok, Sem.run_pure]⟩
end
end Go.Ph
end
section
namespace Go.Ph
open Go Go.RowKit Pl
section
variable {C : Nat → Prop} {r : Option Nat} {P : Program} {ops : Array Oper} {Q : Exit → Act → World → Prop} {n : Nat} {D : List Deferred} {rest : List Oper} {e : Env} {w0 w : World} {M0 M : Mem} {L L' : List Item} {d : Nat} {v z : Value}
  {x y : Operand} {ty t t' ts tt T : TypeId} {pos : String} {af : Array Edge} {g : Option (Nat × Bool)}
def MethAt (P : Program) (t : TypeId) (v : Value) (name : String) (f : FuncId) (z : Value) : Prop := ∀ w, (method (P.types.size + Made.depth) t v name).run P w = .ok (f, z) w
theorem WR.callI {f : FuncId} {ar : List Operand} {vs : List Value} {tys : Array TypeId} {Pre : Mem → Prop} {R : Value → Mem → Prop} {name : String} (H : StX C w0 M0 M L w) (hs : Ct P f (z :: vs) Pre R) (hm : MethAt P t v name f z) (hx : ev e x = some (.iface t v)) (ha : evs e ar = some vs) (hp : Pre M)
    (hw : Wn ops n D e ⟨some d, .call ⟨.invoke x name, ar.toArray, tys⟩, ty, pos, af, g⟩) (hn : Nat.blt d n = true)
    (k : ∀ v M' w', StX C w0 M0 M' L w' → M.le M' → R v M' → WR r P ops Q n D rest ((d, v) :: e) w') :
    WR r P ops Q n D (⟨some d, .call ⟨.invoke x name, ar.toArray, tys⟩, ty, pos, af, g⟩ :: rest) e w := by
  intro a hsat
  unfold wpListIn
  rw [if_pos (hw a hsat)]
  refine ⟨fun _ _ => trivial, ?_⟩
  rw [Oper.semAt_eq _ _ _ (fun c h => by cases h)]
  have hv : ar.map a.eval = vs := hsat.fits.evs ha
  have hf : a.eval x = .iface t v := hsat.fits _ _ hx
  have hrun : (execOp a.eval ⟨some d, .call ⟨.invoke x name, ar.toArray, tys⟩, ty, pos, af, g⟩).run P w = .ok (.enter f (z :: vs).toArray) w := by
    have h1 : (#[Value.iface t v] ++ ar.toArray.map a.eval)[0]? = some (Value.iface t v) := by simp
    have h2 : (#[Value.iface t v] ++ ar.toArray.map a.eval).extract 1 (#[Value.iface t v] ++ ar.toArray.map a.eval).size = vs.toArray := by
      rw [List.map_toArray, hv]; apply Array.ext'; simp
    simp only [execOp, resolve, hf, Sem.run_bind, Sem.run_pure, Result.andThen_ok, invoke]
    rw [h1, h2]
    have h3 := hm w
    simp only [callMethod, Sem.run_bind, run_program, Result.andThen_ok, h3]
    rw [hs.enters]
    simp
  rw [hrun, Oper.uponIn_enter]
  refine ⟨fun h => (by cases h), callsIn_Wd.2 ((hs.calls w M H.ag hp).mono ?_)⟩
  rintro en w' ⟨rv, M', rfl, hx, hR⟩
  exact k rv M' w' (H.call hx) hx.le hR _ (hsat.put (Nat.le_of_ble_eq_true hn) rv)
theorem StX.setC {b o : Nat} {cs : Array Value} (H : StX C w0 M0 M L w) (hu : Upd L (.blk b (.cells cs T)) (.blk b (.cells (cs.setIfInBounds o v) T)) L') : StX C w0 M0 M L' (w.setCell ⟨b, o, none⟩ v) := by
  have hbk := H.blk hu.mem
  refine H.upd hu ⟨rfl, rfl, rfl, ?_, fun k _ hk => ?_⟩ ?_ (fun b' hb' => .inl hb')
  · simp [World.setCell]
  · simp only [World.setCell, Array.getElem?_modify]
    rw [if_neg]
    intro h; exact hk (by rw [← h]; rfl)
  · show (w.setCell _ _).heap[b]? = _
    simp only [World.setCell, Array.getElem?_modify, hbk, if_true]
    rfl
theorem Ex.makeFuncF {dst : Option Tmp} {f : FuncId} {cs : List Operand} {vs : List Value} (hc : evs e cs = some vs) : Ex P ⟨dst, .makeFunc (.func f) cs.toArray #[], ty, pos, af, g⟩ e w (.func (.func f) vs.toArray #[]) w :=
  ⟨nofun, fun ρ hfi => by simp [execOp, Instr.makeFunc, hfi.evs hc]⟩
theorem Ex.makeIface {dst : Option Tmp} {te : TypeId} (ht : P.underlying t = some (.pointer te)) (hx : ev e x = some v) : Ex P ⟨dst, .makeInterface t x, ty, pos, af, g⟩ e w (.iface t v) w :=
  ⟨nofun, fun ρ hfi => by simp [execOp, hfi _ _ hx, Instr.makeInterface, run_underlying ht]⟩
theorem StX.cellOf {b o : Nat} {cs : Array Value} (H : StX C w0 M0 M L w) (hm : Item.blk b (.cells cs T) ∈ L) (h : cs[o]? = some v) : w.cell? ⟨b, o, none⟩ = some v := by
  rw [Lib.cell_of_heap (H.blk hm)]; exact h
theorem StX.thawOf {b o : Nat} {cs : Array Value} (H : StX C w0 M0 M L w) (hm : Item.blk b (.cells cs T) ∈ L) : w.frozen? ⟨b, o, none⟩ = false := Lib.frozen_of_heap (H.blk hm) o
end
end Go.Ph
end
section
namespace Go.Ph
open Go Go.RowKit
namespace Pl
def frm {α : Type} (l : List α) (j : Int) : Option Int := if 0 ≤ j ∧ j ≤ (l.length : Int) then some j else none
def cpyO {α : Type} (l : List α) (j : Int) (s : List α) : Option (List α × Int) :=
  some (l.take j.toNat ++ s.take (l.length - j.toNat) ++ l.drop (j.toNat + (s.take (l.length - j.toNat)).length), ((s.take (l.length - j.toNat)).length : Int))
def idxO (l : List (Option (List UInt8))) (i : Int) : Option (Option (List UInt8)) := if 0 ≤ i ∧ i < 256 then l[i.toNat]? else none
end Pl
open Pl
theorem frm_some {α : Type} {l : List α} {j n : Int} (h : frm l j = some n) : j = n ∧ 0 ≤ j ∧ j ≤ (l.length : Int) := by
  unfold frm at h
  split at h
  · rename_i hb; cases h; exact ⟨rfl, hb⟩
  · cases h
theorem frm_ok {α : Type} {l : List α} {j : Nat} (h : j ≤ l.length) : frm l (j : Int) = some (j : Int) := by unfold frm; rw [if_pos ⟨by omega, by omega⟩]
def RSub (v : Value) (n j : Nat) (u : Value) : Prop := ∃ A c, v = .slice A n c ∧ j ≤ n ∧ n ≤ c ∧ u = .slice (if c = j then A else A.map (fun a => a.add (j * 1))) (n - j) (c - j)
section
variable {C : Nat → Prop} {r : Option Nat} {P : Program} {ops : Array Oper} {Q : Exit → Act → World → Prop} {n : Nat} {D : List Deferred} {rest : List Oper} {e : Env} {w0 w : World} {M0 M : Mem} {L L' : List Item} {d : Nat} {v z u : Value}
  {x y : Operand} {ty t t' ts tt te T : TypeId} {pos : String} {af : Array Edge} {g : Option (Nat × Bool)} {α : Type} {enc : α → Value} {l l2 s : List α} {dst : Option Tmp}
theorem WR.rowFrom {j j2 : Int} (ht : P.underlying ts = some (.slice t')) (hz : ∀ w, (sizeOf t').run P w = .ok 1 w) (H : StX C w0 M0 M L w) (hm : RowI t enc v l ∈ L) (hj : frm l j = some j2) (hx : ev e x = some v) (hy : ev e y = some (I j))
    (hw : Wn ops n D e ⟨some d, .slice ts x (some y) none none, ty, pos, af, g⟩) (hn : Nat.blt d n = true)
    (k : ∀ u, RSub v l.length j2.toNat u → WR r P ops Q n D rest ((d, u) :: e) w) :
    WR r P ops Q n D (⟨some d, .slice ts x (some y) none none, ty, pos, af, g⟩ :: rest) e w := by
  obtain ⟨rfl, h0, h1⟩ := frm_some hj
  obtain ⟨m, rfl⟩ := Int.eq_ofNat_of_zero_le h0
  have hrow := H.rowOf hm
  have hnc : ∃ A c, v = .slice A l.length c ∧ l.length ≤ c := by
    rcases hrow.2 with ⟨hv, hn0⟩ | ⟨g', cap, cur, hv, _, _, hc, _⟩
    · exact ⟨none, 0, by rw [hv, hn0], by omega⟩
    · exact ⟨_, cap, hv, hc⟩
  obtain ⟨A, c, rfl, hlc⟩ := hnc
  have hml : m ≤ l.length := by omega
  have hex := Ex.sliceRow (P := P) (w := w) (kk := 1) (i := m) (j := l.length) (dst := some d) (ty := ty) (pos := pos) (af := af) (g := g) (lo := some y) (hi := none) ht hz hx hlc hml (Nat.le_refl _) (.inl ⟨y, rfl, hy⟩) (.inr ⟨rfl, rfl⟩)
  exact WR.step hex hw rfl hn (k _ ⟨A, c, rfl, hml, hlc, rfl⟩)
theorem take_cpy {a : List Value} {b : List α} {j k' n : Nat} (h : a.take n = b.map enc) (hb : b.length = n) (s : List α) (hs : j + s.length ≤ n) (ha : n ≤ a.length) : (a.take j ++ s.map enc ++ a.drop (j + s.length)).take n = (b.take j ++ s ++ b.drop (j + s.length)).map enc := by
  have e1 : a.take j = (b.take j).map enc := by rw [List.map_take, ← h, List.take_take, Nat.min_eq_left (by omega)]
  have e2 : (a.drop (j + s.length)).take (n - (j + s.length)) = (b.drop (j + s.length)).map enc := by rw [List.map_drop, ← h, List.drop_take]
  have hx : (a.take j ++ s.map enc).length = j + s.length := by rw [List.length_append, List.length_take, List.length_map]; omega
  rw [List.take_append, List.take_of_length_le (l := a.take j ++ s.map enc) (by omega), hx, e2, e1, List.map_append, List.map_append]
theorem WR.copyC {j : Int} {m : Int} (hu : P.underlying ts = some (.slice te)) (hs : (P.info? te).map (·.size) = some 1) (h1 : ∀ a, (enc a).oneCell' = true) (H : StX C w0 M0 M L w) {L' : Item → List Item} (hU : ∀ it', Upd L (RowI t enc v l) it' (L' it')) (hr : RSub v l.length j.toNat u) (hsl : Sl M enc z s) (hc : cpyO l j s = some (l2, m)) (hx : ev e x = some u) (hy : ev e y = some z)
    (hw : Wn ops n D e ⟨some d, .call ⟨.builtin .copy, #[x, y], #[ts, tt]⟩, ty, pos, af, g⟩) (hn : Nat.blt d n = true)
    (k : ∀ w', StX C w0 M0 M (L' (RowI t enc v l2)) w' → WR r P ops Q n D rest ((d, I m) :: e) w') :
    WR r P ops Q n D (⟨some d, .call ⟨.builtin .copy, #[x, y], #[ts, tt]⟩, ty, pos, af, g⟩ :: rest) e w := by
  obtain ⟨i, hi⟩ : ∃ i, j.toNat = i := ⟨_, rfl⟩
  rw [hi] at hr
  unfold cpyO at hc
  rw [hi] at hc
  simp only [Option.some.injEq, Prod.mk.injEq] at hc
  obtain ⟨rfl, rfl⟩ := hc
  obtain ⟨A, c, rfl, hjn, hnc, rfl⟩ := hr
  have hsl0 := hsl
  obtain ⟨A2, c2, rfl, hs1, hs2, hs3⟩ := hsl
  have hm := (hU (RowI t enc (.slice A l.length c) l)).mem
  have hlen : (s.take (l.length - i)).length = Nat.min s.length (l.length - i) := by rw [List.length_take, Nat.min_comm]
  have step : ∀ w', (Builtin.copy_ #[ts, tt] ty #[.slice (if c = i then A else A.map (fun a => a.add (i * 1))) (l.length - i) (c - i), .slice A2 s.length c2]).run P w = .ok (goInt (s.take (l.length - i)).length) w' → StX C w0 M0 M (L' (RowI t enc (.slice A l.length c) (l.take i ++ s.take (l.length - i) ++ l.drop (i + (s.take (l.length - i)).length)))) w' → WR r P ops Q n D (⟨some d, .call ⟨.builtin .copy, #[x, y], #[ts, tt]⟩, ty, pos, af, g⟩ :: rest) e w := by
    intro w' hrun H'
    refine WR.step (v := I _) (w' := w') ⟨nofun, fun ρ hf => ?_⟩ hw rfl hn (k w' H')
    simp only [execOp, resolve, invoke, builtin, Sem.run_bind, Sem.run_pure, Result.andThen_ok, List.map_toArray, List.map_cons, List.map_nil, hf _ _ hx, hf _ _ hy, hrun]
    try rfl
  by_cases h0 : Nat.min s.length (l.length - i) = 0
  · have hk0 : s.take (l.length - i) = [] := List.eq_nil_of_length_eq_zero (by rw [hlen, h0])
    refine step w ?_ ?_
    · rw [hk0]; exact run_copy_none w ts tt ty te _ _ _ _ _ _ hu hs h0
    · rw [hk0, List.append_nil]
      simp only [List.length_nil, Nat.add_zero, List.take_append_drop]
      exact H.upd (hU _) (World.grownBy.refl _ _) (H.own _ hm).1 (fun b hb => .inl hb)
  · have hrow := H.rowOf hm
    rcases hrow.2 with ⟨hv, hn0⟩ | ⟨g', cap, cur, hv, _, hg, hcc, hcm, hcs, htk⟩
    · exact absurd (by rw [hn0]; show min s.length (0 - i) = 0; omega) h0
    · cases hv
      have hpos : 0 < s.length ∧ 0 < l.length - i := by
        have hmin : Nat.min s.length (l.length - i) = min s.length (l.length - i) := rfl
        rw [hmin] at h0; omega
      have hne : s ≠ [] := by rintro rfl; simp at hpos
      obtain ⟨b2, o2, cs2, t2, fz2, rfl, e2, e3⟩ := hs3 hne
      rw [Nat.mul_one] at hcs htk
      have hkl : (s.take (l.length - i)).length ≤ l.length - i := by rw [List.length_take]; omega
      have hrun := run_copy_row (P := P) w ts tt ty te g' i (l.length - i) (c - i) ⟨b2, o2, none⟩ s.length c2 cur t ((s.take (l.length - i)).map enc) hu hs hg (by rw [List.length_map, hlen]) (fun q x hq => by
        rw [List.getElem?_map] at hq
        obtain ⟨a, ha, rfl⟩ := Option.map_eq_some_iff.1 hq
        have ha' : s[q]? = some a := by
          rw [List.getElem?_take] at ha
          split at ha
          · exact ha
          · cases ha
        have hcell := e3 q a ha'
        rw [Addr.add_lit]
        unfold World.cell?
        rw [H.ag _ _ e2]
        simpa using hcell) (by rw [List.length_map]; omega) (fun x hx => by
        obtain ⟨a, _, rfl⟩ := List.mem_map.1 hx; exact h1 a)
      rw [List.length_map] at hrun
      have hcne : ¬ c = i := by omega
      refine step _ (by
        rw [if_neg hcne]
        simp only [Option.map_some, Addr.add_lit, Nat.zero_add, Nat.mul_one]
        exact hrun) (H.upd (hU _) (grownBy_setRow w g' _) ?_ (fun b hb => .inl hb))
      have hl2 : (l.take i ++ s.take (l.length - i) ++ l.drop (i + (s.take (l.length - i)).length)).length = l.length := by
        simp only [List.length_append, List.length_drop, List.length_take] at hkl ⊢
        omega
      refine ⟨by simp, .inr ⟨g', c, _, by rw [hl2], Nat.zero_le _, setRow_heap w g' cur _ t _ hg, by rw [hl2]; exact hcc, hcm, ?_, ?_⟩⟩
      · simp only [List.size_toArray, List.length_append, List.length_take, List.length_drop, List.length_map, Array.length_toList, Nat.mul_one] at hkl ⊢
        omega
      · rw [hl2, Nat.mul_one]
        have := take_cpy (k' := 0) (enc := enc) htk rfl (j := i) (s.take (l.length - i)) (by omega) (by simp; omega)
        simpa using this
def SlO (M : Mem) (v : Value) (o : Option (List UInt8)) : Prop := (o = none ∧ v = .slice none 0 0) ∨ ∃ l a c, o = some l ∧ v = .slice (some a) l.length c ∧ Sl M encB v l
theorem SlO.mono {M M' : Mem} {v : Value} {o : Option (List UInt8)} (h : SlO M v o) (hl : M.le M') : SlO M' v o := by
  rcases h with h | ⟨l, a, c, h1, h2, h3⟩
  · exact .inl h
  · exact .inr ⟨l, a, c, h1, h2, h3.mono hl⟩
theorem SlO.sl {v : Value} {o : Option (List UInt8)} (h : SlO M v o) : Sl M encB v (o.getD []) := by
  rcases h with ⟨rfl, rfl⟩ | ⟨l, a, c, rfl, _, h3⟩
  · exact Sl.nil _ _
  · exact h3
def TabO (M : Mem) (b T : Nat) (tb : List (Option (List UInt8))) (tr : List (List UInt8)) : Prop :=
  ∃ (vs : List Value) (vt : Value), PtM M b (.cells (vs ++ [vt]).toArray T) ∧ vs.length = 256 ∧ (∀ (i : Nat) (o : Option (List UInt8)), tb[i]? = some o → ∃ v, vs[i]? = some v ∧ SlO M v o) ∧ Sl M encS vt tr
theorem TabO.mono {M M' : Mem} {b T : Nat} {tb : List (Option (List UInt8))} {tr : List (List UInt8)} (h : TabO M b T tb tr) (hl : M.le M') : TabO M' b T tb tr := by
  obtain ⟨vs, vt, h1, h2, h3, h4⟩ := h
  exact ⟨vs, vt, h1.mono hl, h2, fun i o ho => by obtain ⟨v, hv, hs⟩ := h3 i o ho; exact ⟨v, hv, hs.mono hl⟩, h4.mono hl⟩
theorem TabO.at {b T : Nat} {tb : List (Option (List UInt8))} {tr : List (List UInt8)} {i : Int} {o : Option (List UInt8)} (h : TabO M b T tb tr) (hi : idxO tb i = some o) : ∃ v, CellM M ⟨b, 0 + i.toNat * 1, none⟩ v ∧ SlO M v o := by
  obtain ⟨vs, vt, h1, h2, h3, _⟩ := h
  unfold idxO at hi
  split at hi
  · obtain ⟨v, hv, hs⟩ := h3 _ _ hi
    refine ⟨v, ⟨rfl, _, _, _, h1, ?_⟩, hs⟩
    have hlt := (List.getElem?_eq_some_iff.1 hv).1
    show (vs ++ [vt]).toArray[0 + i.toNat * 1]? = some v
    rw [Nat.zero_add, Nat.mul_one, List.getElem?_toArray, List.getElem?_append_left hlt, hv]
  · cases hi
theorem TabO.tl {b T : Nat} {tb : List (Option (List UInt8))} {tr : List (List UInt8)} (h : TabO M b T tb tr) : ∃ v, CellM M ⟨b, 256, none⟩ v ∧ Sl M encS v tr := by
  obtain ⟨vs, vt, h1, h2, _, h4⟩ := h
  refine ⟨vt, ⟨rfl, _, _, _, h1, ?_⟩, h4⟩
  show (vs ++ [vt]).toArray[256]? = some vt
  rw [List.getElem?_toArray, List.getElem?_append_right (by omega), h2]; rfl
theorem Ex.idxArrO {b o : Nat} {i : Int} {t0 : TypeId} {k : IntKind} {tb : List (Option (List UInt8))} {q : Option (List UInt8)} (hs : P.underlying t = some (.array 256 t0)) (hz : ∀ w, (sizeOf t0).run P w = .ok 1 w) (hx : ev e x = some (ptr b o)) (hy : ev e y = some (.int k i)) (h : idxO tb i = some q) :
    Ex P ⟨dst, .indexAddr t x y, ty, pos, af, g⟩ e w (ptr b (o + i.toNat * 1)) w := by
  unfold idxO at h
  split at h
  · rename_i hb
    obtain ⟨m, rfl⟩ := Int.eq_ofNat_of_zero_le hb.1
    exact Ex.idxArr hs hz hx hy (by omega)
  · cases h
theorem Ex.neqNilO {o : Option (List UInt8)} (ht : P.underlying t = some (.slice t')) (h : SlO M v o) (hx : ev e x = some v) : Ex P ⟨dst, .binOp .neq t x (.const (.slice none 0 0)) tt, ty, pos, af, g⟩ e w (.bool o.isSome) w := by
  refine ⟨nofun, fun ρ hf => ?_⟩
  have h2 : ρ (.const (.slice none 0 0)) = .slice none 0 0 := hf _ _ rfl
  rcases h with ⟨rfl, rfl⟩ | ⟨l, a, c, rfl, rfl, _⟩
  · simp [execOp, hf _ _ hx, h2, eqGuard, Go.run_neq_slice_nil w t t' none 0 0 ht]
  · simp [execOp, hf _ _ hx, h2, eqGuard, Go.run_neq_slice_nil w t t' (some a) _ _ ht]
end
end Go.Ph
end
section
namespace Go.Ph
open Go Go.RowKit Pl
section
variable {C : Nat → Prop} {r : Option Nat} {P : Program} {ops : Array Oper} {Q : Exit → Act → World → Prop} {n : Nat} {D : List Deferred} {rest : List Oper} {e : Env} {w0 w w' : World} {M0 M : Mem} {L L' : List Item} {d : Nat} {v z : Value}
  {x y : Operand} {ty t t' ts tt T : TypeId} {pos : String} {af : Array Edge} {g : Option (Nat × Bool)}
end
end Go.Ph
end
section
namespace Go.Proofs.YtkmjdamkifbddaaGreatDoor
open Go
theorem oDisable (w : World) : (callFunc 231 #[]).run Tryz.prog w = .ok (.value (.tuple #[])) w := run_call_mark0 Tryz.func231 (by kernel_rfl) (by kernel_rfl) (by kernel_rfl) .disable (by kernel_rfl) w
theorem oEnable (w : World) : (callFunc 233 #[]).run Tryz.prog w = .ok (.value (.tuple #[])) w := run_call_mark0 Tryz.func233 (by kernel_rfl) (by kernel_rfl) (by kernel_rfl) .enable (by kernel_rfl) w
theorem oAcquire (a : Addr) (w : World) : (callFunc 234 #[.pointer (some a)]).run Tryz.prog w = .ok (.value (.tuple #[])) w := run_call_marked Tryz.func234 (by kernel_rfl) (by kernel_rfl) (by kernel_rfl) .acquire (by kernel_rfl) a w
theorem oRelease (a : Addr) (w : World) : (callFunc 236 #[.pointer (some a)]).run Tryz.prog w = .ok (.value (.tuple #[])) w := run_call_marked Tryz.func236 (by kernel_rfl) (by kernel_rfl) (by kernel_rfl) .releaseMerge (by kernel_rfl) a w
set_option maxRecDepth 100000 in
set_option maxHeartbeats 1600000 in
theorem oStore (a : Addr) (x : Value) (u : FrameMode) (w : World) (hc : w.cell? a = some x) (hz : w.frozen? a = false) :
    CallsD Tryz.prog 205 #[.pointer (some a), .bool true] u w fun e u' w' => u' = u ∧ (e = .returned (.tuple #[]) ∧ w' = w.drew.setCell a (.int .u32 1)) := by
  have hc' : w.drew.cell? a = some x := by go_simp
  have hz' : w.drew.frozen? a = false := by go_simp
  have hst := run_call_store (P := Tryz.prog) Tryz.func221 (by kernel_rfl) (by kernel_rfl) (by kernel_rfl) (by kernel_rfl) (k := .u32) (y := 1) hc' hz'
  go_enter_d Tryz.func205, Tryz.ntmps205
  go_wp2
  go_region_calls
  all_goals (go_end0; exact ⟨rfl, rfl⟩)
set_option maxRecDepth 100000 in
set_option maxHeartbeats 1600000 in
theorem oUnlock (a : Addr) (u : FrameMode) (w : World) (hc : w.cell? a = some (.int .i32 1)) (hz : w.frozen? a = false) :
    CallsD Tryz.prog 204 #[.pointer (some a)] u w fun e u' w' => u' = u ∧ (e = .returned (.tuple #[]) ∧ w' = w.setCell a (.int .i32 0)) := by
  have hd := oDisable
  have he := oEnable
  have hr := oRelease
  have hadd := run_call_add (P := Tryz.prog) Tryz.func237 (by kernel_rfl) (by kernel_rfl) (by kernel_rfl) .i32 (by kernel_rfl) (y := -1) (s := 0) hc hz (by simp [go_sem]; rfl)
  have hcv := run_convert_to_unsafe (P := Tryz.prog) (src := 263) (dst := 144) Tryz.underlying263 Tryz.underlying144 (by kernel_rfl) hc
  go_enter_d Tryz.func204, Tryz.ntmps204
  go_wp2
  go_end0
  go_wp2
  go_end0
  exact ⟨rfl, rfl⟩
set_option maxRecDepth 100000 in
set_option maxHeartbeats 1600000 in
theorem oLock (a : Addr) (w : World) (hc : w.cell? a = some (.int .i32 0)) (hz : w.frozen? a = false) :
    Calls Tryz.prog 203 #[.pointer (some a)] w fun e w' => e = .returned (.tuple #[]) ∧ w' = w.setCell a (.int .i32 1) := by
  have hd := oDisable
  have he := oEnable
  have ha := oAcquire
  have hcas := run_call_cas_hit (P := Tryz.prog) Tryz.func232 (by kernel_rfl) (by kernel_rfl) (by kernel_rfl) .i32 (by kernel_rfl) (y := 1) hc hz
  have hc' : (w.setCell a (.int .i32 1)).cell? a = some (.int .i32 1) := World.cell?_setCell_same w a _ hc
  have hcv := run_convert_to_unsafe (P := Tryz.prog) (src := 263) (dst := 144) Tryz.underlying263 Tryz.underlying144 (by kernel_rfl) hc'
  go_enter Tryz.func203, Tryz.ntmps203
  go_wp2
  first | go_end0 | (simp only [Exit.inBlock, Exit.then]; refine bodyPost_ret (results_none rfl _ _ _) rfl ?_) | refine bodyPost_ret (results_none rfl _ _ _) rfl ?_
  go_wp2
  go_end0
  exact ⟨rfl, rfl⟩
set_option maxRecDepth 100000 in
set_option maxHeartbeats 1600000 in
theorem oSlow (b : Nat) (w : World) (R : World → Prop)
    (h0 : w.cell? ⟨b, 0, none⟩ = some (.int .u32 0)) (h1 : w.cell? ⟨b, 1, none⟩ = some (.int .i32 0)) (f0 : w.frozen? ⟨b, 0, none⟩ = false) (f1 : w.frozen? ⟨b, 1, none⟩ = false)
    (hf : Calls Tryz.prog 147 #[.pointer (some ⟨b, 0, none⟩)] (w.setCell ⟨b, 1, none⟩ (.int .i32 1)) fun e w2 => e = .returned (.tuple #[]) ∧ R w2)
    (hR : ∀ w2, R w2 → w2.cell? ⟨b, 0, none⟩ = some (.int .u32 0) ∧ w2.cell? ⟨b, 1, none⟩ = some (.int .i32 1) ∧ w2.frozen? ⟨b, 0, none⟩ = false ∧ w2.frozen? ⟨b, 1, none⟩ = false) :
    Calls Tryz.prog 177 #[.pointer (some ⟨b, 0, none⟩), .func (.func 147) #[.pointer (some ⟨b, 0, none⟩)] #[]] w fun e w' => e = .returned (.tuple #[]) ∧ ∃ w2, R w2 ∧ w' = ((w2.drew.setCell ⟨b, 0, none⟩ (.int .u32 1)).setCell ⟨b, 1, none⟩ (.int .i32 0)) := by
  have hl := run_call_load (P := Tryz.prog) Tryz.func202 (by kernel_rfl) (by kernel_rfl) (by kernel_rfl) .u32 (by kernel_rfl) (w := w.setCell ⟨b, 1, none⟩ (.int .i32 1)) (a := ⟨b, 0, none⟩) (x := 0) ((World.cell?_setCell_other _ ⟨b, 1, none⟩ ⟨b, 0, none⟩ _ (by simp)).trans h0)
  have hnot : ∀ (x : Bool) (w : World), (Op.unary .not (.bool x)).run Tryz.prog w = .ok (.bool (!x)) w := fun _ _ => rfl
  go_enter_defers Tryz.func177, Tryz.ntmps177
  go_wp2_with (first | (go_at_call 203; refine (oLock ⟨b, 1, none⟩ _ (by go_simp) (by go_simp)).mono ?_; rintro e w' ⟨rfl, rfl⟩) | (go_at_call 176; go_in) | (go_at_call 147; refine hf.mono ?_; rintro e w2 ⟨rfl, hw2⟩))
  obtain ⟨r0, r1, r2, r3⟩ := hR _ hw2
  -- two deferred calls, the last laid first
  refine leaves_cons (f := 205) (args := #[.pointer (some ⟨b, 0, none⟩), .bool true]) (by simp) (by simp [go_sem]) ?_
  refine (oStore ⟨b, 0, none⟩ (.int .u32 0) .returning _ r0 r2).mono ?_
  rintro e u' w'' ⟨rfl, rfl, rfl⟩
  refine leaves_cons (f := 204) (args := #[.pointer (some ⟨b, 1, none⟩)]) (by simp [settle]) (by simp [go_sem]) ?_
  refine (oUnlock ⟨b, 1, none⟩ _ _ ?_ ?_).mono ?_
  · refine (World.cell?_setCell_other _ ⟨b, 0, none⟩ ⟨b, 1, none⟩ _ (by simp)).trans ?_
    rw [World.cell?_drew]; exact r1
  · simp [r3]
  rintro e u' w'' ⟨rfl, rfl, rfl⟩
  simp only [Leaves, settle, results, Tryz.results177]
  exact ⟨_, by simp, rfl, w2, hw2, rfl⟩
set_option maxRecDepth 100000 in
set_option maxHeartbeats 1600000 in
theorem oFirst (b : Nat) (w : World) (R : World → Prop)
    (h0 : w.cell? ⟨b, 0, none⟩ = some (.int .u32 0)) (h1 : w.cell? ⟨b, 1, none⟩ = some (.int .i32 0)) (f0 : w.frozen? ⟨b, 0, none⟩ = false) (f1 : w.frozen? ⟨b, 1, none⟩ = false)
    (hf : Calls Tryz.prog 147 #[.pointer (some ⟨b, 0, none⟩)] (w.setCell ⟨b, 1, none⟩ (.int .i32 1)) fun e w2 => e = .returned (.tuple #[]) ∧ R w2)
    (hR : ∀ w2, R w2 → w2.cell? ⟨b, 0, none⟩ = some (.int .u32 0) ∧ w2.cell? ⟨b, 1, none⟩ = some (.int .i32 1) ∧ w2.frozen? ⟨b, 0, none⟩ = false ∧ w2.frozen? ⟨b, 1, none⟩ = false) :
    Calls Tryz.prog 146 #[.pointer (some ⟨b, 0, none⟩), .func (.func 147) #[.pointer (some ⟨b, 0, none⟩)] #[]] w fun e w' => e = .returned (.tuple #[]) ∧ ∃ w2, R w2 ∧ w' = ((w2.drew.setCell ⟨b, 0, none⟩ (.int .u32 1)).setCell ⟨b, 1, none⟩ (.int .i32 0)) := by
  have hl := run_call_load (P := Tryz.prog) Tryz.func202 (by kernel_rfl) (by kernel_rfl) (by kernel_rfl) .u32 (by kernel_rfl) h0
  have hnot : ∀ (x : Bool) (w : World), (Op.unary .not (.bool x)).run Tryz.prog w = .ok (.bool (!x)) w := fun _ _ => rfl
  go_enter Tryz.func146, Tryz.ntmps146
  go_wp2_with (first | (go_at_call 177; refine (oSlow b _ R h0 h1 f0 f1 hf hR).mono ?_; rintro e w' ⟨rfl, w2, hw2, rfl⟩) | (go_at_call 176; go_in))
  go_end0
  exact ⟨rfl, w2, hw2, rfl⟩
set_option maxRecDepth 100000 in
theorem oAgain (a : Addr) (d : Int) (hd : ¬ d = 0) (fv : Value) (w : World) (h0 : w.cell? a = some (.int .u32 d)) :
    Calls Tryz.prog 146 #[.pointer (some a), fv] w fun e w' => e = .returned (.tuple #[]) ∧ w' = w := by
  have hl := run_call_load (P := Tryz.prog) Tryz.func202 (by kernel_rfl) (by kernel_rfl) (by kernel_rfl) .u32 (by kernel_rfl) h0
  have hnot : ∀ (x : Bool) (w : World), (Op.unary .not (.bool x)).run Tryz.prog w = .ok (.bool (!x)) w := fun _ _ => rfl
  have hd' : (d != 0) = true := by simp [hd]
  go_enter Tryz.func146, Tryz.ntmps146
  go_wp2
  go_end0
  exact ⟨rfl, rfl⟩
end Go.Proofs.YtkmjdamkifbddaaGreatDoor
end
section
namespace Go.Ph
open Go Go.RowKit Pl
def onePanic (v : Value) : List PanicEntry := [{ v, recovered := false }]
section
variable {Q : Exit → Act → World → Prop} {ch : List PanicEntry} {D : List Deferred} {w : World} {n : Nat} {e e' : Env}
theorem WQ.pThen {K : Act → World → Prop} (k : WQ Q (.panic ch) n D e w) : WQ (Exit.then K Q) (.panic ch) n D e w := k
theorem WQ.pIn {id : Nat} (k : WQ Q (.panic ch) n D e w) : WQ (Exit.inBlock id Q) (.panic ch) n D e w := k
theorem WQ.pCut {JN : Env → World → Prop} {JL : List (Nat × (Env → World → Prop))} {m : Nat} {D' : List Deferred} (k : WQ Q (.panic ch) n D e w) : WQ (CutX JN JL m D' Q) (.panic ch) n D e w := k
theorem WQ.pSc (k : WQ Q (.panic ch) n D e w) : WQ (Straight Q) (.panic ch) n D e w := k
def Unwr (ops : Array Oper) (e : Env) : Bool := e.all fun p => ops.toList.all fun o => match o.dst with | some t => !Nat.beq t p.1 | none => true
theorem Unwr.of {ops : Array Oper} : ∀ {e : Env}, Unwr ops e = true → ∀ i v, get e i = some v → ∀ (j : Nat) o, ops[j]? = some o → o.dst ≠ some i
  | [], _, i, v, hg, _, _, _ => by simp [get] at hg
  | (k, u) :: e, h, i, v, hg, j, o, ho => by
    unfold Unwr at h
    rw [List.all_cons, Bool.and_eq_true] at h
    simp only [get] at hg
    cases hb : Nat.beq i k with
    | true =>
      have hik : i = k := Nat.eq_of_beq_eq_true hb
      subst hik
      have hm : o ∈ ops.toList := by rw [← Array.getElem?_toList] at ho; exact List.mem_of_getElem? ho
      have h1 := List.all_eq_true.1 h.1 o hm
      intro hd
      rw [hd] at h1
      simp at h1
    | false =>
      rw [hb] at hg
      exact Unwr.of (e := e) h.2 i v hg j o ho
theorem WQ.pAny {r : Option Nat} {P : Program} {ops : Array Oper} {fuel : Nat} {listed : Array Bool} (hs : Sub e' e) (hu : Unwr ops e' = true) (k : WQ Q (.panic ch) n D e' w) : WQ (Qa r P ops Q fuel listed) (.panic ch) n D e w := fun a ha a' h' =>
  k a' ⟨h'.2.1.trans ha.size, h'.1.trans ha.defers, fun i v hi => (h'.2.2 i (Unwr.of hu i v hi)).trans ((ha.sub hs).val i v hi)⟩
end
def RetPan (A : List Item) (w : World) (M : Mem) (v : Value) (e : Ending) (w' : World) : Prop := ∃ M', e = .panicked (onePanic v) ∧ StX (feet A) w M M' [] w'
structure CtPan (P : Program) (f : FuncId) (args : List Value) (A : List Item) (Pre : Mem → Prop) (v : Value) : Prop where
  enters : ∀ ar w, (callFunc f ar).run P w = .ok (.enter f ar) w
  calls : ∀ w M, StX (feet A) w M M A w → Pre M → Calls P f args.toArray w (RetPan A w M v)
def RetS {X Y : Type} (A : List Item) (w : World) (M : Mem) (R : X → Value → Mem → List Item → Prop) (pv : Y → Value) : X ⊕ Y → Ending → World → Prop
  | .inl x => RetX A w M (R x)
  | .inr n => RetPan A w M (pv n)
def CtS {X Y : Type} (P : Program) (f : FuncId) (args : List Value) (A : List Item) (Pre : Mem → Prop) (R : X → Value → Mem → List Item → Prop) (pv : Y → Value) : X ⊕ Y → Prop
  | .inl x => CtX P f args A Pre (R x)
  | .inr n => CtPan P f args A Pre (pv n)
theorem CtS.of {X Y : Type} {P : Program} {f : FuncId} {fn : Func} {c : Code} {args : List Value} {A : List Item} {Pre : Mem → Prop} {R : X → Value → Mem → List Item → Prop} {pv : Y → Value} {r : X ⊕ Y} {n : Nat}
    (hf : P.funcs[f]? = some fn) (hen : ∀ ar w, (callFunc f ar).run P w = .ok (.enter f ar) w) (hb : fn.body = some c) (hnt : fn.ntmps = n) (hn : Nat.ble args.length n = true)
    (h : ∀ w M, StX (feet A) w M M A w → Pre M → WC none P (bodyPost P fn (RetS A w M R pv r)) n [] c (envOf 0 args) w) : CtS P f args A Pre R pv r := by
  cases r with
  | inl x => exact ⟨hen, fun w M ha hp => calls_of_WC hf hb hnt hn (h w M ha hp)⟩
  | inr m => exact ⟨hen, fun w M ha hp => calls_of_WC hf hb hnt hn (h w M ha hp)⟩
section
variable {C : Nat → Prop} {r : Option Nat} {P : Program} {ops : Array Oper} {Q : Exit → Act → World → Prop} {n : Nat} {D : List Deferred} {rest : List Oper} {e : Env} {w0 w : World} {M0 M : Mem} {L L' A B : List Item} {v u : Value}
  {x y : Operand} {ty t t' : TypeId} {pos : String} {af : Array Edge} {g : Option (Nat × Bool)} {dst : Option Tmp}
theorem WR.callPan {f : FuncId} {ar : List Operand} {vs : List Value} {tys : Array TypeId} {Pre : Mem → Prop} (H : StX C w0 M0 M L w) (hs : CtPan P f vs A Pre v) (hspl : Spl L A B) (ha : evs e ar = some vs) (hp : Pre M)
    (hw : Wn ops n D e ⟨dst, .call ⟨.value (.func f), ar.toArray, tys⟩, ty, pos, af, g⟩)
    (k : ∀ M' w', StX C w0 M0 M' B w' → M.le M' → WQ Q (.panic (onePanic v)) n D e w') : WR r P ops Q n D (⟨dst, .call ⟨.value (.func f), ar.toArray, tys⟩, ty, pos, af, g⟩ :: rest) e w := by
  intro a hsat
  unfold wpListIn
  rw [if_pos (hw a hsat)]
  refine ⟨fun _ _ => trivial, ?_⟩
  rw [Oper.semAt_eq _ _ _ (fun c h => by cases h)]
  have hv : ar.map a.eval = vs := hsat.fits.evs ha
  have hf : a.eval (.func f) = .func (.func f) #[] #[] := rfl
  have hrun : (execOp a.eval ⟨dst, .call ⟨.value (.func f), ar.toArray, tys⟩, ty, pos, af, g⟩).run P w = .ok (.enter f vs.toArray) w := by
    simp only [execOp, resolve, hf, Deferred.ofValue, Sem.run_bind, Sem.run_pure, Result.andThen_ok, invoke, List.map_toArray, hv, Array.append_empty, Array.empty_append, hs.enters]
  rw [hrun, Oper.uponIn_enter]
  refine ⟨fun h => (by cases h), callsIn_Wd.2 ((hs.calls w M (H.hand hspl) hp).mono ?_)⟩
  rintro en w' ⟨M', rfl, hx⟩
  exact k M' w' (H.back hspl hx) hx.ext.le a hsat
theorem WR.panicI (hx : ev e x = some (.iface t v)) (hw : Wn ops n D e ⟨dst, .panic x, ty, pos, af, g⟩) (k : WQ Q (.panic (onePanic (.iface t v))) n D e w) : WR r P ops Q n D (⟨dst, .panic x, ty, pos, af, g⟩ :: rest) e w := by
  intro a hsat
  unfold wpListIn
  rw [if_pos (hw a hsat)]
  refine ⟨fun _ _ => trivial, ?_⟩
  rw [Oper.semAt_eq _ _ _ (fun c h => by cases h)]
  have hrun : (execOp a.eval ⟨dst, .panic x, ty, pos, af, g⟩).run P w = .halt (.panic (.iface t v)) w := by
    simp only [execOp, hsat.fits _ _ hx, Sem.run_bind, run_panic_iface]
    rfl
  rw [hrun, Oper.uponIn_panic]
  exact k a hsat
theorem WQ.pBody {fn : Func} {X Y : Type} {R : X → Value → Mem → List Item → Prop} {pv : Y → Value} {m : Y} (H : StX (feet A) w0 M0 M L w) : WQ (bodyPost P fn (RetS A w0 M0 R pv (.inr m))) (.panic (onePanic (pv m))) n [] e w :=
  fun a ha => ⟨ha.defers, M, rfl, H.drop (List.nil_sublist _)⟩
theorem Ex.ifaceV (hn : P.concrete t = true) (hx : ev e x = some v) : Ex P ⟨dst, .makeInterface t x, ty, pos, af, g⟩ e w (.iface t v) w :=
  ⟨nofun, fun ρ hf => by simp [execOp, hf _ _ hx, run_makeInterface _ _ _ hn]⟩
theorem WR.callVX {f : FuncId} {ar : List Operand} {vs cap : List Value} {tys : Array TypeId} {Pre : Mem → Prop} {R : Value → Mem → List Item → Prop} (H : StX C w0 M0 M L w) (hs : CtX P f (vs ++ cap) A Pre R) (hspl : Spl L A B) (hx : ev e x = some (.func (.func f) #[] cap.toArray)) (ha : evs e ar = some vs) (hp : Pre M)
    {d : Nat} (hw : Wn ops n D e ⟨some d, .call ⟨.value x, ar.toArray, tys⟩, ty, pos, af, g⟩) (hn : Nat.blt d n = true)
    (k : ∀ v M' w' its, StX C w0 M0 M' (its ++ B) w' → M.le M' → R v M' its → WR r P ops Q n D rest ((d, v) :: e) w') :
    WR r P ops Q n D (⟨some d, .call ⟨.value x, ar.toArray, tys⟩, ty, pos, af, g⟩ :: rest) e w := by
  intro a hsat
  unfold wpListIn
  rw [if_pos (hw a hsat)]
  refine ⟨fun _ _ => trivial, ?_⟩
  rw [Oper.semAt_eq _ _ _ (fun c h => by cases h)]
  have hv : ar.map a.eval = vs := hsat.fits.evs ha
  have hf : a.eval x = .func (.func f) #[] cap.toArray := hsat.fits _ _ hx
  have hrun : (execOp a.eval ⟨some d, .call ⟨.value x, ar.toArray, tys⟩, ty, pos, af, g⟩).run P w = .ok (.enter f (vs ++ cap).toArray) w := by
    simp only [execOp, resolve, hf, Deferred.ofValue, Sem.run_bind, Sem.run_pure, Result.andThen_ok, invoke, List.map_toArray, hv, List.append_toArray, List.nil_append, hs.enters]
  rw [hrun, Oper.uponIn_enter]
  refine ⟨fun h => (by cases h), callsIn_Wd.2 ((hs.calls w M (H.hand hspl) hp).mono ?_)⟩
  rintro en w' ⟨rv, M', its, rfl, hx, hR⟩
  exact k rv M' w' its (H.back hspl hx) hx.ext.le hR _ (hsat.put (Nat.le_of_ble_eq_true hn) rv)
end
end Go.Ph
end
section
namespace Go.Ph.Pl
abbrev Elt : Type := Option (UInt8 ⊕ (List UInt8 × Bool))
def eltS (c : UInt8) : Elt := some (.inl c)
def eltW (p : List UInt8 × Bool) : Elt := some (.inr p)
def isW : Elt → Bool
  | some (.inr _) => true
  | _ => false
def getW : Elt → List UInt8 × Bool
  | some (.inr p) => p
  | _ => ([], false)
def okW (a : Elt) : Option ((List UInt8 × Bool) × Bool) := some (getW a, isW a)
theorem okW_eq (a : Elt) : okW a = some (getW a, isW a) := by unfold okW; rfl
end Go.Ph.Pl
namespace Go.Ph
open Go Go.RowKit Pl
def encA (ts tw : TypeId) : Elt → Value
  | none => .nilIface
  | some (.inl c) => .iface ts (encB c)
  | some (.inr p) => .iface tw (.agg #[S p.1, .bool p.2])
section
variable {P : Program} {e : Env} {w : World} {v : Value} {x y : Operand} {ty t t' ts tw xt : TypeId} {pos : String} {af : Array Edge} {g : Option (Nat × Bool)} {dst : Option Tmp} {a : Elt} {c : UInt8} {ms : Array (String × TypeId)}
theorem Ex.anyS (hn : P.concrete ts = true) (hx : ev e x = some (encB c)) : Ex P ⟨dst, .makeInterface ts x, ty, pos, af, g⟩ e w (encA ts tw (eltS c)) w := Ex.ifaceV hn hx
theorem Ex.anyW {s : List UInt8} {b : Bool} (hn : P.concrete tw = true) (hx : ev e x = some (.agg #[S s, .bool b])) : Ex P ⟨dst, .makeInterface tw x, ty, pos, af, g⟩ e w (encA ts tw (eltW (s, b))) w := Ex.ifaceV hn hx
theorem Ex.neqAnyNil (hi : P.underlying t = some (.interface (P.methodsAt t))) (hx : ev e x = some (encA ts tw a)) : Ex P ⟨dst, .binOp .neq t x (.const .nilIface) t', ty, pos, af, g⟩ e w (.bool (!decide (a = none))) w :=
  ⟨nofun, fun ρ hf => by
    have h2 : ρ (.const .nilIface) = .nilIface := hf _ _ rfl
    rcases a with _ | c | p <;>
    simp [execOp, hf _ _ hx, h2, encA, eqGuard, run_neq_held_nil _ _ _ _ hi, run_neq_nil_nil _ _ hi]⟩
theorem run_eqAny {i : TypeInfo} (hi : P.underlying t = some (.interface ms)) (hne : tw ≠ ts) (hinf : P.info? ts = some i) (hc : i.comparable = true) (hu : P.underlying ts = some (.int .u8)) (w : World) :
    (Op.equalIn 10000 t (encA ts tw a) (encA ts tw (eltS c))).run P w = .ok (decide (a = eltS c)) w := by
  rw [show (10000 : Nat) = 9999 + 1 from rfl]
  rcases a with _ | d | p
  · show (Op.equalIn (9999 + 1) t .nilIface (.iface ts (encB c))).run P w = _
    rw [Op.equalIn]
    simp [run_underlying hi, eltS]
  · show (Op.equalIn (9999 + 1) t (.iface ts (encB d)) (.iface ts (encB c))).run P w = _
    rw [Op.equalIn]
    have h2 : (Op.equalIn 9999 ts (encB d) (encB c)).run P w = .ok (decide (d = c)) w := by
      rw [show (9999 : Nat) = 9998 + 1 from rfl, Op.equalIn]
      have : ((d.toNat : Int) == (c.toNat : Int)) = decide (d = c) := by rw [← decide_eq_decide.2 (u8_eq (c := d) (d := c))]; rfl
      simp [run_underlying hu, this]
    simp [run_underlying hi, eltS, typeInfo, hinf, hc, h2]
  · show (Op.equalIn (9999 + 1) t (.iface tw _) (.iface ts (encB c))).run P w = _
    rw [Op.equalIn]
    simp [run_underlying hi, eltS, hne]
theorem Ex.neqAnyS (hi : P.underlying t = some (.interface ms)) (hne : tw ≠ ts) (hc : (P.info? ts).map (·.comparable) = some true) (hu : P.underlying ts = some (.int .u8)) (hx : ev e x = some (encA ts tw a)) (hy : ev e y = some (encA ts tw (eltS c))) :
    Ex P ⟨dst, .binOp .neq t x y t', ty, pos, af, g⟩ e w (.bool (!decide (a = eltS c))) w :=
  ⟨nofun, fun ρ hf => by
    obtain ⟨i, hinf, hc'⟩ := Option.map_eq_some_iff.1 hc
    have h2 : eqGuard .neq t x y (encA ts tw a) (encA ts tw (eltS c)) = pure () := by rcases a with _ | d | p <;> simp [eqGuard, encA, eltS]
    have h3 : binOp .neq t (encA ts tw a) (encA ts tw (eltS c)) = (fun b => Value.bool !b) <$> Op.equalIn 10000 t (encA ts tw a) (encA ts tw (eltS c)) := by rcases a with _ | d | p <;> rfl
    have h4 := run_eqAny (a := a) (c := c) hi hne hinf hc' hu w
    simp [execOp, hf _ _ hx, hf _ _ hy, h2, h3, h4]⟩
theorem Ex.anyOk {fs : Array Field} (hu : P.underlying tw = some (.struct fs)) (hz : ∀ w, (zeroValue tw).run P w = .ok (.agg #[S [], .bool false]) w) (hne : Nat.beq tw ts = false) {p : List UInt8 × Bool} {b : Bool} (ho : okW a = some (p, b)) (hx : ev e x = some (encA ts tw a)) :
    Ex P ⟨dst, .typeAssert x xt tw true, ty, pos, af, g⟩ e w (.tuple #[.agg #[S p.1, .bool p.2], .bool b]) w :=
  ⟨nofun, fun ρ hf => by
    rw [okW_eq] at ho
    cases ho
    have hne' : ¬ ts = tw := fun h => by rw [h, Nat.beq_refl] at hne; cases hne
    rcases a with _ | c | p
    · simp [execOp, hf _ _ hx, encA, Instr.typeAssert, run_underlying hu, hz, isW, getW]
    · simp [execOp, hf _ _ hx, encA, Instr.typeAssert, run_underlying hu, hz, isW, getW, hne']
    · simp [execOp, hf _ _ hx, encA, Instr.typeAssert, run_underlying hu, hz, isW, getW]⟩
end
end Go.Ph
end
section
namespace Go.Ph
open Go Go.RowKit Pl
def dfrOf (f : FuncId) (cap : List Value) : Deferred := { target := .fn (.func f) cap.toArray, args := #[] }
section
variable {C : Nat → Prop} {P : Program} {ops : Array Oper} {Q : Exit → Act → World → Prop} {n : Nat} {D : List Deferred} {rest : List Oper} {e : Env} {w0 w : World} {M0 M : Mem} {L L' : List Item} {v v1 v2 u z : Value}
  {x y : Operand} {ty t t' : TypeId} {pos : String} {af : Array Edge} {g : Option (Nat × Bool)} {fn : Func} {f : FuncId} {cap : List Value} {x1 x2 : ResultVar} {R : Value → Mem → Prop}
theorem WR.deferS (hx : ev e x = some (.func (.func f) #[] cap.toArray)) (hw : Wn ops n D e ⟨none, .defer ⟨.value x, #[], #[]⟩, ty, pos, af, g⟩)
    (k : WR none P ops Q n (dfrOf f cap :: D) rest e w) : WR none P ops Q n D (⟨none, .defer ⟨.value x, #[], #[]⟩, ty, pos, af, g⟩ :: rest) e w := by
  intro a hsat
  unfold wpListIn
  rw [if_pos (hw a hsat)]
  refine ⟨fun _ _ => trivial, ?_⟩
  have hf : a.eval x = .func (.func f) #[] cap.toArray := hsat.fits _ _ hx
  have hrun : (Oper.semAt none a.eval ⟨none, .defer ⟨.value x, #[], #[]⟩, ty, pos, af, g⟩).run P w = .ok (.defer (dfrOf f cap)) w := by
    rw [Oper.semAt_none]
    simp [execOp, resolve, hf, Deferred.ofValue, dfrOf]
  show Oper.uponIn (Wd none) 0 P _ a _ _ ((Oper.semAt none a.eval _).run P w)
  rw [hrun, Oper.uponIn_defer]
  exact k _ ⟨hsat.size, by simp [hsat.defers, Act.put], hsat.val⟩
theorem calls_of_WCD {c : Code} {args : List Value} {R : Ending → World → Prop} (hf : P.funcs[f]? = some fn) (hb : fn.body = some c) (hnt : fn.ntmps = n) (hn : Nat.ble args.length n = true)
    (h : WC none P (bodyPostDIn (Wd none) 0 P fn R) n [] c (envOf 0 args) w) : Calls P f args.toArray w R := by
  refine callsIn_Wd.1 (callsIn_of_wp_defers (F := Wd none) (n := 0) hf hb trivial ?_)
  subst hnt
  exact h _ (Sat.init (Nat.le_of_ble_eq_true hn))
theorem Ct.ofD {c : Code} {args : List Value} {Pre : Mem → Prop} (hf : P.funcs[f]? = some fn) (hen : ∀ ar w, (callFunc f ar).run P w = .ok (.enter f ar) w) (hb : fn.body = some c) (hnt : fn.ntmps = n) (hn : Nat.ble args.length n = true)
    (h : ∀ w M, St w M M [] w → Pre M → WC none P (bodyPostDIn (Wd none) 0 P fn (Ret w M R)) n [] c (envOf 0 args) w) : Ct P f args Pre R :=
  ⟨hen, fun w M ha hp => calls_of_WCD hf hb hnt hn (h w M (StX.start ha) hp)⟩
theorem WQ.dret2 (hr : fn.results = #[x1, x2]) (h1 : resv P w e x1 v1) (h2 : resv P w e x2 v2) (H : Ext w0 M0 w M) (hR : R (.tuple #[v1, v2]) M) : WQ (bodyPostDIn (Wd none) 0 P fn (Ret w0 M0 R)) .ret n [] e w := fun a ha => by
  show LeavesIn _ _ _ _ _ _ _ _ _
  rw [ha.defers]
  exact ⟨_, resv_run2 hr h1 h2 a ha, _, M, rfl, H, hR⟩
theorem leaves_one {m : FrameMode} {tmps : Array Value} {K : Ending → World → Prop} (hen : ∀ ar w, (callFunc f ar).run P w = .ok (.enter f ar) w) (hm : m ≠ .run)
    (hc : CallsDIn (Wd none) 0 P f cap.toArray m w fun e u' w' => (∃ v, e = .returned v) ∧ settle u' = .returning ∧ ∃ v, (results fn tmps).run P w' = .ok v w' ∧ K (.returned v) w') :
    LeavesIn (Wd none) 0 P fn tmps K [dfrOf f cap] m w := by
  refine ⟨hm, fun h => (by cases h), _, _, f, cap.toArray, rfl, by simp [invoke, dfrOf, hen], fun _ _ => trivial, hc.mono ?_⟩
  rintro e u' w' ⟨⟨v, rfl⟩, hs, hk⟩
  show LeavesIn _ _ _ _ _ _ [] (settle u') w'
  rw [hs]
  exact hk
theorem WQ.dretD2 (hr : fn.results = #[x1, x2]) (h1 : resv P w e x1 v1) (h2 : resv P w e x2 v2) (H : Ext w0 M0 w M)
    (hc : ∀ K : World → Prop, K w → (∀ ar w, (callFunc f ar).run P w = .ok (.enter f ar) w) ∧ CallsDIn (Wd none) 0 P f cap.toArray .returning w fun e u' w' => (∃ v, e = .returned v) ∧ settle u' = .returning ∧ K w')
    (hR : R (.tuple #[v1, v2]) M) : WQ (bodyPostDIn (Wd none) 0 P fn (Ret w0 M0 R)) .ret n [dfrOf f cap] e w := fun a ha => by
  show LeavesIn _ _ _ _ _ _ _ _ _
  rw [ha.defers]
  obtain ⟨hen, hcl⟩ := hc (fun w' => ∃ v, (results fn a.tmps).run P w' = .ok v w' ∧ Ret w0 M0 R (.returned v) w') ⟨_, resv_run2 hr h1 h2 a ha, _, M, rfl, H, hR⟩
  exact leaves_one hen (by simp) hcl
def postD (P : Program) (fn : Func) (K : World → Prop) : Exit → Act → World → Prop
  | .normal, a, w | .ret, a, w => a.defers = [] ∧ ∃ v, (results fn a.tmps).run P w = .ok v w ∧ K w
  | _, _, _ => False
theorem WQ.postD0 {K : World → Prop} (hr : fn.results = #[]) (k : K w) : WQ (postD P fn K) .normal n [] e w := fun a ha => ⟨ha.defers, .tuple #[], by simp [results, hr], k⟩
abbrev rcv (d : Nat) (ty : TypeId) (pos : String) (af : Array Edge) : Oper := ⟨some d, .call ⟨.builtin .recover, #[], #[]⟩, ty, pos, af, none⟩
def rcvd : FrameMode → Option (Value × FrameMode)
  | .returning => some (.nilIface, .returning)
  | .panicking [⟨v, false, false⟩] => some (v, .panicking [⟨v, true, false⟩])
  | _ => none
theorem callsD_of {id d : Nat} {c : Code} {m m' : FrameMode} {K : World → Prop} (hf : P.funcs[f]? = some fn) (hb : fn.body = some (.seq (.region id #[rcv d ty pos af] false) c)) (hnt : fn.ntmps = n) (hn : Nat.ble cap.length n = true) (hd : Nat.blt d n = true)
    (hm : rcvd m = some (v, m')) (hs : settle m' = .returning) (k : WC none P (postD P fn K) n [] c ((d, v) :: envOf 0 cap) w) :
    CallsDIn (Wd none) 0 P f cap.toArray m w fun e u' w' => (∃ v, e = .returned v) ∧ settle u' = .returning ∧ K w' := by
  refine callsDIn_of_wpSIn hf hb trivial fun c₀ cs hu => wpSIn_seq (wpSIn_region ?_)
  have hsat : Sat n [] (envOf 0 cap) { tmps := cap.toArray ++ Array.replicate (fn.ntmps - cap.toArray.size) undef, defers := [] } := by
    subst hnt
    exact Sat.init (Nat.le_of_ble_eq_true hn)
  have hfin : ∀ cs1, cs1 = { c₀ with mode := m' } :: cs → Exit.thenS (c.wpSIn (Wd none) 0 P (bodyPostS P fn c₀ cs fun e u' w' => (∃ v, e = .returned v) ∧ settle u' = .returning ∧ K w')) (bodyPostS P fn c₀ cs fun e u' w' => (∃ v, e = .returned v) ∧ settle u' = .returning ∧ K w') .normal
      ({ tmps := cap.toArray ++ Array.replicate (fn.ntmps - cap.toArray.size) undef, defers := [] : Act }.put (some d) v) cs1 w := by
    rintro cs1 rfl
    refine wpSIn_of_wpIn rfl (wpIn_mono (k _ (hsat.put (Nat.le_of_ble_eq_true hd) v)) ?_)
    intro e a w' hq
    cases e with
    | normal => obtain ⟨h1, v', h2, h3⟩ := hq; exact ⟨h1, m', rfl, v', h2, ⟨_, rfl⟩, hs, h3⟩
    | ret => obtain ⟨h1, v', h2, h3⟩ := hq; exact ⟨h1, m', rfl, v', h2, ⟨_, rfl⟩, hs, h3⟩
    | exit id => exact hq.elim
    | goto l => exact hq.elim
    | panic ch => exact hq.elim
    | outgrown => exact hq.elim
  have hrec : ∀ a : Act, (execOp a.eval (rcv d ty pos af)).run P w = .ok .recover w := fun a => by simp [execOp, resolve, invoke, builtin]
  show wpOpsSIn (Wd none) 0 P #[rcv d ty pos af] _ [0] _ _ _
  simp only [wpOpsSIn, List.getElem?_toArray, List.getElem?_cons_zero, hrec]
  refine ⟨fun _ _ => trivial, ?_⟩
  rw [if_pos (by rfl)]
  subst hu
  unfold rcvd at hm
  split at hm
  · rename_i hmode
    cases hm
    have : recoverD (c₀ :: cs) = none := by simp [recoverD, hmode]
    simp only [this]
    exact hfin _ (by rw [← hmode])
  · rename_i v0 hmode
    cases hm
    have : recoverD (c₀ :: cs) = some (v, { c₀ with mode := .panicking [⟨v, true, false⟩] } :: cs) := by simp [recoverD, hmode]
    simp only [this]
    exact hfin _ rfl
  · cases hm
theorem Ex.assertSame {fs : Array Field} {dst : Option Tmp} {xt : TypeId} (hu : P.underlying t = some (.struct fs)) (hx : ev e x = some (.iface t v)) : Ex P ⟨dst, .typeAssert x xt t true, ty, pos, af, g⟩ e w (.tuple #[v, .bool true]) w :=
  ⟨nofun, fun ρ hf => by simp [execOp, hf _ _ hx, Instr.typeAssert, run_underlying hu]⟩
end
end Go.Ph
end
section
namespace Go.Ph
open Go Go.RowKit Pl
section
variable {C : Nat → Prop} {r : Option Nat} {P : Program} {ops : Array Oper} {Q : Exit → Act → World → Prop} {n : Nat} {D : List Deferred} {rest : List Oper} {e : Env} {w0 w : World} {M0 M : Mem} {L L' A B : List Item} {d : Nat} {v u : Value}
  {x y : Operand} {ty t t' : TypeId} {pos : String} {af : Array Edge} {g : Option (Nat × Bool)} {dst : Option Tmp} {α : Type} {enc : α → Value} {l : List α}
theorem StX.lend (H : StX C w0 M0 M L w) (hm : RowI t enc u l ∈ L) : ∃ M1, M.le M1 ∧ Ag M1 w ∧ Sl M1 enc u l ∧ ∀ {w' : World} {M' : Mem}, Ext w M1 w' M' → ∃ M2, M.le M2 ∧ M2.le M' ∧ StX C w0 M0 M2 L w' := by
  have hown := H.rowOf hm
  rcases hown.2 with ⟨hv, hn⟩ | ⟨g, cap, cur, hv, hgb, hg, hnc, hcm, hcs, htake⟩
  · have : l = [] := List.eq_nil_of_length_eq_zero hn
    subst this
    subst hv
    exact ⟨M, Mem.le.refl M, H.ag, Sl.nil M enc, fun {w' M'} hx => ⟨M', hx.le, Mem.le.refl _, H.call hx⟩⟩
  · have hf : (RowI t enc u l).foot = some g := by rw [hv]; rfl
    have hMg := ((H.own _ hm).2 g hf).1
    have hCg := ((H.own _ hm).2 g hf).2
    have hle : M.le (M.set g (.cells cur t)) := fun b o hb => by
      by_cases h : b = g
      · subst h; rw [hMg] at hb; cases hb
      · simp [Mem.set, h, hb]
    have hag : Ag (M.set g (.cells cur t)) w := fun b o hb => by
      by_cases h : b = g
      · subst h; simp only [Mem.set, if_true] at hb; rw [← hb]; exact hg
      · simp only [Mem.set, h, if_false] at hb; exact H.ag b o hb
    refine ⟨_, hle, hag, ⟨some ⟨g, 0, none⟩, cap, hv, hnc, ⟨hcm, fun h => by cases h⟩, fun _ => ⟨g, 0, cur, t, (0, 0), rfl, by simp [Mem.set], fun i x hx => ?_⟩⟩, fun {w' M'} hx => ?_⟩
    · have hi := (List.getElem?_eq_some_iff.1 hx).1
      have h3 : (cur.toList.take (l.length * 1))[i]? = some (enc x) := by rw [htake, List.getElem?_map, hx]; rfl
      rw [List.getElem?_take, if_pos (by omega)] at h3
      simpa using h3
    · have hgw : g < w.heap.size := (Array.getElem?_eq_some_iff.1 hg).1
      refine ⟨fun b => if b = g then none else M' b, fun b o hb => ?_, fun b o hb => ?_, ⟨⟨hx.below.os.trans H.ext.below.os, hx.below.tape.trans H.ext.below.tape, hx.below.output.trans H.ext.below.output, Nat.le_trans H.ext.below.size hx.below.size, fun k hk hn => ?_⟩, fun b o hb => ?_, fun b o hb => ?_, fun b hb => ?_⟩, fun it hit => ?_, H.sep⟩
      · have hne : b ≠ g := fun h => by rw [h, hMg] at hb; cases hb
        simp only [hne, if_false]
        exact hx.le b o (hle b o hb)
      · by_cases h : b = g
        · simp [h] at hb
        · simpa [h] using hb
      · exact (hx.below.block k (Nat.lt_of_lt_of_le hk H.base) (fun h => h)).trans (H.ext.below.block k hk hn)
      · have hb' := H.ext.le b o hb
        have hne : b ≠ g := fun h => by rw [h, hMg] at hb'; cases hb'
        simp only [hne, if_false]
        exact hx.le b o (hle b o hb')
      · by_cases h : b = g
        · simp [h] at hb
        · simp only [h, if_false] at hb
          exact hx.ag b o hb
      · by_cases h : b = g
        · subst h
          simp only [if_true]
          rw [← H.ext.old b hb, hMg]
        · simp only [h, if_false]
          rw [hx.old b (Nat.lt_of_lt_of_le hb H.base)]
          simp only [Mem.set, h, if_false]
          exact H.ext.old b hb
      · obtain ⟨h1, h2⟩ := H.own it hit
        refine ⟨h1.kept (fun b hb => hx.below.block b (h1.lt b hb) (fun h => h)), fun b hb => ⟨?_, (h2 b hb).2⟩⟩
        by_cases h : b = g
        · simp [h]
        · simp only [h, if_false]
          rw [hx.old b (h1.lt b hb)]
          simp only [Mem.set, h, if_false]
          exact (h2 b hb).1
theorem WR.callLend {f : FuncId} {ar : List Operand} {vs : List Value} {tys : Array TypeId} {Pre : Mem → Prop} {R : Value → Mem → Prop} (H : StX C w0 M0 M L w) (hm : RowI t enc u l ∈ L) (hs : Ct P f vs Pre R) (hR : ∀ v M1 M2, R v M1 → R v M2) (ha : evs e ar = some vs) (hp : ∀ M1, M.le M1 → Sl M1 enc u l → Pre M1)
    (hw : Wn ops n D e ⟨some d, .call ⟨.value (.func f), ar.toArray, tys⟩, ty, pos, af, g⟩) (hn : Nat.blt d n = true)
    (k : ∀ v M' w', StX C w0 M0 M' L w' → M.le M' → R v M' → WR r P ops Q n D rest ((d, v) :: e) w') :
    WR r P ops Q n D (⟨some d, .call ⟨.value (.func f), ar.toArray, tys⟩, ty, pos, af, g⟩ :: rest) e w := by
  intro a hsat
  unfold wpListIn
  rw [if_pos (hw a hsat)]
  refine ⟨fun _ _ => trivial, ?_⟩
  rw [Oper.semAt_eq _ _ _ (fun c h => by cases h)]
  have hv : ar.map a.eval = vs := hsat.fits.evs ha
  have hf : a.eval (.func f) = .func (.func f) #[] #[] := rfl
  have hrun : (execOp a.eval ⟨some d, .call ⟨.value (.func f), ar.toArray, tys⟩, ty, pos, af, g⟩).run P w = .ok (.enter f vs.toArray) w := by
    simp only [execOp, resolve, hf, Deferred.ofValue, Sem.run_bind, Sem.run_pure, Result.andThen_ok, invoke, List.map_toArray, hv, Array.append_empty, Array.empty_append, hs.enters]
  rw [hrun, Oper.uponIn_enter]
  obtain ⟨M1, h1, h2, h3, h4⟩ := H.lend hm
  refine ⟨fun h => (by cases h), callsIn_Wd.2 ((hs.calls w M1 h2 (hp M1 h1 h3)).mono ?_)⟩
  rintro en w' ⟨rv, M', rfl, hx, hres⟩
  obtain ⟨M2, k1, k2, k3⟩ := h4 hx
  exact k rv M2 w' k3 k1 (hR _ _ _ hres) _ (hsat.put (Nat.le_of_ble_eq_true hn) rv)
instance {F : Fence} {m : Nat} {fn : Func} {R : Ending → World → Prop} : RTo (bodyPostDIn F m P fn R) (bodyPostDIn F m P fn R) := ⟨id⟩
end
end Go.Ph
end
section
namespace Go.Ph.Gr
open Go Go.Ph.Utf
structure RP (l : List UInt8) (i q : Nat) (o : List (List UInt8)) (fl : Nat) : Prop where
  place : q ≤ l.length
  rest : (chars l).drop i = chars (l.drop q)
  small : i ≤ q ∧ o.length ≤ i ∧ fl ≤ i
  len : o.flatten.length = q
  state : (i = 0 ∧ o = []) ∨ (0 < i ∧ ∃ done cur prev, ((chars l)[i - 1]?).map (·.1) = some prev ∧ o = done.map byts ++ [byts cur] ∧ segs (chars l) = done ++ seg cur prev fl (chars (l.drop q)))
theorem RP.start (l : List UInt8) : RP l 0 0 [] 0 := ⟨Nat.zero_le _, rfl, by simp, rfl, .inl ⟨rfl, rfl⟩⟩
section
variable {l : List UInt8} {i q fl : Nat} {o : List (List UInt8)}
theorem RP.more (h : RP l i q o fl) (hi : i < (chars l).length) : q < l.length ∧ (chars l)[i]? = some ((rune (l.drop q)).1, (l.drop q).take (rune (l.drop q)).2) ∧ (chars l).drop (i + 1) = chars (l.drop (q + (rune (l.drop q)).2)) := by
  have hq : q < l.length := by
    rcases Nat.lt_or_ge q l.length with h1 | h1
    · exact h1
    · have h2 := h.rest
      rw [List.drop_eq_nil_of_le h1, chars_nil] at h2
      have := List.drop_eq_nil_iff.1 h2
      omega
  have hc := chars_cons (drop_ne hq)
  have h3 := h.rest
  rw [hc, List.drop_eq_getElem_cons hi] at h3
  have h4 := List.cons.inj h3
  refine ⟨hq, by rw [List.getElem?_eq_getElem hi, h4.1], ?_⟩
  rw [h4.2, List.drop_drop]
theorem RP.news (h : RP l i q o fl) (hi : i < (chars l).length) (hc : i = 0 ∨ ∃ a, 0 < i ∧ ((chars l)[i - 1]?).map (·.1) = some a ∧ con a (rune (l.drop q)).1 fl = false) :
    RP l (i + 1) (q + (rune (l.drop q)).2) (o ++ [(l.drop q).take (rune (l.drop q)).2]) (flN (rune (l.drop q)).1 0) := by
  obtain ⟨hq, hget, hdrop⟩ := h.more hi
  have hrs := rune_size (l.drop q)
  have hrs3 := hrs.2.2 (drop_ne hq)
  rw [List.length_drop] at hrs3
  have hsm := h.small
  have hone : byts [((rune (l.drop q)).1, (l.drop q).take (rune (l.drop q)).2)] = (l.drop q).take (rune (l.drop q)).2 := by simp [byts]
  refine ⟨by omega, hdrop, ⟨by omega, by simp; omega, by unfold flN; split <;> omega⟩, by have hlen := h.len; simp [List.length_take, List.length_drop] at hlen ⊢; omega, .inr ⟨by omega, ?_⟩⟩
  rcases h.state with ⟨h0, ho⟩ | ⟨hp0, done, cur, prev, hp, ho, hs⟩
  · subst h0
    refine ⟨[], [((rune (l.drop q)).1, (l.drop q).take (rune (l.drop q)).2)], (rune (l.drop q)).1, by rw [Nat.add_sub_cancel, hget]; rfl, by rw [ho, hone]; rfl, ?_⟩
    have h1 := h.rest
    rw [List.drop_zero] at h1
    rw [h1, chars_cons (drop_ne hq), segs, List.drop_drop]; rfl
  · rcases hc with h0 | ⟨a, _, ha, hcf⟩
    · omega
    · rw [ha] at hp
      obtain rfl : a = prev := oI hp
      refine ⟨done ++ [cur], [((rune (l.drop q)).1, (l.drop q).take (rune (l.drop q)).2)], (rune (l.drop q)).1, by rw [Nat.add_sub_cancel, hget]; rfl, by rw [ho, hone]; simp, ?_⟩
      rw [hs, chars_cons (drop_ne hq), seg]
      simp only [hcf, Bool.false_eq_true, if_false, List.drop_drop, List.append_assoc, List.cons_append, List.nil_append]
end
end Go.Ph.Gr
end
section
namespace Go.Proofs.YtkmjdamkifbddaaGreatDoor
open Go Go.RowKit Go.Ph
open Go.Ph.Gr Go.Ph.Utf
abbrev encN (n : Nat) : Value := I (n : Int)
theorem rune_spec (l : List UInt8) (i : Nat) (hi : i < l.length) (hs : l.length ≤ 4611686018427387904) : Ct Tryz.prog 105 [S l, encN i] (fun _ => True) (fun r _ => r = .tuple #[I (rune (l.drop i)).1, encN (rune (l.drop i)).2]) := by
  refine Ct.of Tryz.func105 (enters Tryz.func105 (by kernel_rfl) rfl) rfl rfl rfl ?_
  intro w0 M0 H hp
  obtain ⟨u, hu⟩ : ∃ u, l[i]? = some u := ⟨_, List.getElem?_eq_getElem hi⟩
  have hcu : nat (l.drop i) 0 = u.toNat := by rw [nat_drop]; exact nat_of hu
  have hult := u.toNat_lt
  refine SQ (RG (AS rfl rfl (AS rfl rfl (NL (TN (SQ (RG (MV rfl rfl (MV rfl rfl (ST (Ex.idxStr Tryz.underlying9 rfl rfl (hu)) rfl ?_))))))))))
  first | refine WR.step (Ex.convB Tryz.underlying5 Tryz.underlying3 rfl) (Wn.none rfl) rfl rfl ?_ | refine WR.step (Ex.convI Tryz.underlying5 Tryz.underlying3 rfl (by omega)) (Wn.none rfl) rfl rfl ?_
  refine AS rfl rfl (NL (TN (SQ (SQ (RG (MV rfl rfl ?_))))))
  refine WR.split (Ex.lss rfl rfl) (Wn.none rfl) rfl rfl (fun h2_1 => ?_) (fun h2_1 => ?_)
  · refine NL (TN (CT rfl (SQ (RG (MV rfl rfl (AS rfl rfl (AS rfl rfl (NL (TN (RT ?_))))))))))
    refine WQ.ret2 rfl rfl rfl H.ext ?_
    exact by rw [rune_ascii (by rw [hcu]; omega), hcu]; rfl
  · refine NL (TN (CF rfl (SK (TN (SQ (RG (AS rfl rfl (NL (TN (SQ (RG (AS rfl rfl (NL (TN (SQ (RG (AS rfl rfl (NL (TN ?_)))))))))))))))))))
    refine WC.cut3 (fun (s : Nat) (a : Nat) (m : Nat) => [(0, S l), (1, encN i), (7, encN s), (8, encN a), (9, encN m)]) (fun (s : Nat) (a : Nat) (m : Nat) w => kindOf u.toNat = (s, a, m) ∧ ∃ M, St w0 M0 M [] w) ?_ ?_
    · refine BL (SQ (RG (MV rfl rfl ?_)))
      refine WR.callB H (in_spec _ _ _) rfl (trivial) (Wn.none rfl) rfl (fun h7_1 => ?_) (fun h7_1 => ?_)
      · intro M w H hle
        refine AS rfl rfl (NL (TN (CT rfl (RG (MV rfl rfl (WR.stepE (v' := encN (u.toNat - 192)) (Ex.sub64 rfl rfl (by omega)) (congrArg I (by omega)) (Wn.none rfl) rfl rfl ?_))))))
        refine AS rfl rfl (AS rfl rfl (AS rfl rfl (NL (IB (WQ.meet3 (2) (u.toNat - 192) (128) ⟨rfl, rfl, rfl, rfl, rfl, trivial⟩ ?_)))))
        · exact ⟨by unfold kindOf; rw [if_pos (by omega)], M, H⟩
      · intro M w H hle
        refine AS rfl rfl (NL (TN (CF rfl (SQ (RG (MV rfl rfl ?_))))))
        refine WR.callB H (in_spec _ _ _) rfl (trivial) (Wn.none rfl) rfl (fun h9_1 => ?_) (fun h9_1 => ?_)
        · intro M w H hle
          refine AS rfl rfl (NL (TN (CT rfl (RG (MV rfl rfl (WR.stepE (v' := encN (u.toNat - 224)) (Ex.sub64 rfl rfl (by omega)) (congrArg I (by omega)) (Wn.none rfl) rfl rfl ?_))))))
          refine AS rfl rfl (AS rfl rfl (AS rfl rfl (NL (IB (WQ.meet3 (3) (u.toNat - 224) (2048) ⟨rfl, rfl, rfl, rfl, rfl, trivial⟩ ?_)))))
          · exact ⟨by unfold kindOf; rw [if_neg (by omega), if_pos (by omega)], M, H⟩
        · intro M w H hle
          refine AS rfl rfl (NL (TN (CF rfl (SQ (RG (MV rfl rfl ?_))))))
          refine WR.callB H (in_spec _ _ _) rfl (trivial) (Wn.none rfl) rfl (fun h11_1 => ?_) (fun h11_1 => ?_)
          · intro M w H hle
            refine AS rfl rfl (NL (TN (CT rfl (RG (MV rfl rfl (WR.stepE (v' := encN (u.toNat - 240)) (Ex.sub64 rfl rfl (by omega)) (congrArg I (by omega)) (Wn.none rfl) rfl rfl ?_))))))
            refine AS rfl rfl (AS rfl rfl (AS rfl rfl (NL (IB (WQ.meet3 (4) (u.toNat - 240) (65536) ⟨rfl, rfl, rfl, rfl, rfl, trivial⟩ ?_)))))
            · exact ⟨by unfold kindOf; rw [if_neg (by omega), if_neg (by omega), if_pos (by omega)], M, H⟩
          · intro M w H hle
            refine AS rfl rfl (NL (TN (CF rfl (SK (IB (WQ.meet3 (0) (0) (0) ⟨rfl, rfl, rfl, rfl, rfl, trivial⟩ ?_))))))
            · exact ⟨by unfold kindOf; rw [if_neg (by omega), if_neg (by omega), if_neg (by omega)], M, H⟩
    · intro s a m w
      rintro ⟨hk, M, H⟩
      have hkl := kindOf_lt hk (by omega)
      have hk2 : kindOf (nat (l.drop i) 0) = (s, a, m) := by rw [hcu]; exact hk
      have hnc : ¬ nat (l.drop i) 0 < 128 := by rw [hcu]; omega
      refine SQ (SQ (RG (MV rfl rfl ?_)))
      refine WR.split (Ex.eql rfl rfl) (Wn.none rfl) rfl rfl (fun h13_1 => ?_) (fun h13_1 => ?_)
      · refine MV rfl rfl (GT rfl rfl rfl (GT rfl rfl rfl (GT rfl rfl rfl (GT rfl rfl rfl (GT rfl rfl rfl (GT rfl rfl rfl (PT rfl rfl rfl (NL (TN (CT rfl (SQ (RG (AS rfl rfl (AS rfl rfl (NL (TN (RT ?_)))))))))))))))))
        refine WQ.ret2 rfl rfl rfl H.ext ?_
        exact by rw [rune_short hnc hk2 (by rw [List.length_drop]; omega)]; rfl
      · refine MV rfl rfl (SG (Ex.move rfl) rfl rfl rfl (SG (Ex.move rfl) rfl rfl rfl (SG (Ex.add64 rfl rfl (by omega)) rfl rfl rfl ?_)))
        refine SG (Ex.move rfl) rfl rfl rfl (SG (Ex.lenStr Tryz.underlying9 rfl) rfl rfl rfl ?_)
        refine WR.split (Ex.gtr rfl rfl) (Wn.some rfl rfl rfl) rfl rfl (fun h13_8 => ?_) (fun h13_8 => ?_)
        · refine PF rfl rfl rfl (NL (TN (CT rfl (SQ (RG (AS rfl rfl (AS rfl rfl (NL (TN (RT ?_))))))))))
          refine WQ.ret2 rfl rfl rfl H.ext ?_
          exact by rw [rune_short hnc hk2 (by rw [List.length_drop]; omega)]; rfl
        · refine PF rfl rfl rfl (NL (TN (CF rfl (SK (TN (SQ (SQ (RG (AS rfl rfl (NL (TN (BL (WC.loop2 (fun (k : Nat) (n : Nat) => [(0, S l), (1, encN i), (7, encN s), (8, encN n), (9, encN m), (10, encN k)]) (fun (k : Nat) (n : Nat) w => (1 ≤ k ∧ k ≤ s) ∧ cont (l.drop i) a (k - 1) = some n ∧ ∃ M, St w0 M0 M [] w) (fun (k : Nat) (n : Nat) => s - k) (1) (a) ⟨rfl, rfl, rfl, rfl, rfl, rfl, trivial⟩ (⟨by omega, rfl, M, H⟩) ?_)))))))))))))
          intro k n w
          rintro ⟨hk1, hcn, M, H⟩
          have hnl := cont_lt hkl.2.1 _ _ hcn
          have hpw : 64 ^ (k - 1) ≤ 64 ^ 3 := Nat.pow_le_pow_right (by decide) (by omega)
          refine SQ (SQ (RG (MV rfl rfl (MV rfl rfl ?_))))
          refine WR.split (Ex.lss rfl rfl) (Wn.none rfl) rfl rfl (fun h16_2 => ?_) (fun h16_2 => ?_)
          · obtain ⟨x, hx⟩ : ∃ x, l[i + k]? = some x := ⟨_, List.getElem?_eq_getElem (by omega)⟩
            have hxn : nat (l.drop i) (k - 1 + 1) = x.toNat := by rw [nat_drop, show i + (k - 1 + 1) = i + k by omega]; exact nat_of hx
            have hxlt := x.toNat_lt
            refine NL (TN (CT rfl (SK (TN (SQ (BL (SQ (RG (MV rfl rfl (MV rfl rfl (MV rfl rfl (WR.stepE (v' := encN (i + k)) (Ex.add64 rfl rfl (by omega)) rfl (Wn.none rfl) rfl rfl ?_))))))))))))
            refine ST (Ex.idxStr Tryz.underlying9 rfl rfl (hx)) rfl ?_
            first | refine WR.step (Ex.convB Tryz.underlying5 Tryz.underlying3 rfl) (Wn.none rfl) rfl rfl ?_ | refine WR.step (Ex.convI Tryz.underlying5 Tryz.underlying3 rfl (by omega)) (Wn.none rfl) rfl rfl ?_
            refine AS rfl rfl (NL (TN (SQ (SQ (RG (MV rfl rfl ?_))))))
            refine WR.callB H (in_spec _ _ _) rfl (trivial) (Wn.none rfl) rfl (fun h19_1 => ?_) (fun h19_1 => ?_)
            · intro M w H hle
              have hcy : cont (l.drop i) a k = some (64 * n + x.toNat - 128) := by
                have := cont_yes hcn (by rw [hxn]; unfold okC; omega)
                rw [hxn, show k - 1 + 1 = k by omega] at this
                exact this
              refine ST (Ex.notT rfl) rfl (NL (TN (CF rfl (SK (TN (RG (MV rfl rfl (ST (Ex.mul64 rfl rfl (by omega)) rfl ?_))))))))
              refine MV rfl rfl (ST (Ex.add64 rfl rfl (by omega)) rfl ?_)
              refine WR.stepE (v' := encN (64 * n + x.toNat - 128)) (Ex.sub64 rfl rfl (by omega)) (congrArg I (by omega)) (Wn.none rfl) rfl rfl ?_
              refine AS rfl rfl (NL (IB (TN (RG (MV rfl rfl (WR.stepE (v' := encN (k + 1)) (Ex.add64 rfl rfl (by omega)) rfl (Wn.none rfl) rfl rfl ?_))))))
              refine AS rfl rfl (NL ?_)
              refine WQ.again2 (k + 1) (64 * n + x.toNat - 128) ⟨rfl, rfl, rfl, rfl, rfl, rfl, trivial⟩ ?_ ?_
              · exact ⟨by omega, by rw [Nat.add_sub_cancel]; exact hcy, M, H⟩
              · omega
            · intro M w H hle
              have hcut : cont (l.drop i) a (s - 1) = none := cont_none (cont_no hcn (by rw [hxn]; unfold okC; omega)) _ (by omega)
              refine ST (Ex.notF rfl) rfl (NL (TN (CT rfl (SQ (RG (AS rfl rfl (AS rfl rfl (NL (TN (RT ?_))))))))))
              refine WQ.ret2 rfl rfl rfl H.ext ?_
              exact by rw [rune_cut hnc hk2 hcut]; rfl
          · obtain rfl : k = s := by omega
            refine NL (TN (CF rfl (WC.exit (WQ.thenExit (WQ.thenExit (WQ.exitHere (TN (SQ (SQ (RG (MV rfl rfl (MV rfl rfl ?_))))))))))))
            refine WR.split (Ex.lss rfl rfl) (Wn.none rfl) rfl rfl (fun h22_2 => ?_) (fun h22_2 => ?_)
            · refine MV rfl rfl (GT rfl rfl rfl (GT rfl rfl rfl (PT rfl rfl rfl (MV rfl rfl (GT rfl rfl rfl (GT rfl rfl rfl (PT rfl rfl rfl (NL (TN (CT rfl (SQ (RG (AS rfl rfl (AS rfl rfl (NL (TN (RT ?_)))))))))))))))))
              refine WQ.ret2 rfl rfl rfl H.ext ?_
              exact by rw [rune_bad hnc hk2 hcn (by unfold badN; omega)]; rfl
            · refine MV rfl rfl (SG (Ex.move rfl) rfl rfl rfl ?_)
              refine WR.split (Ex.gtr rfl rfl) (Wn.some rfl rfl rfl) rfl rfl (fun h22_5 => ?_) (fun h22_5 => ?_)
              · refine PF rfl rfl rfl (MV rfl rfl (GT rfl rfl rfl (GT rfl rfl rfl (PT rfl rfl rfl (NL (TN (CT rfl (SQ (RG (AS rfl rfl (AS rfl rfl (NL (TN (RT ?_))))))))))))))
                refine WQ.ret2 rfl rfl rfl H.ext ?_
                exact by rw [rune_bad hnc hk2 hcn (by unfold badN; omega)]; rfl
              · refine PF rfl rfl rfl (MV rfl rfl (SG (Ex.move rfl) rfl rfl rfl ?_))
                refine WR.callB H (in_spec _ _ _) rfl (trivial) (Wn.some rfl rfl rfl) rfl (fun h22_9 => ?_) (fun h22_9 => ?_)
                · intro M w H hle
                  refine PF rfl rfl rfl (NL (TN (CT rfl (SQ (RG (AS rfl rfl (AS rfl rfl (NL (TN (RT ?_))))))))))
                  refine WQ.ret2 rfl rfl rfl H.ext ?_
                  exact by rw [rune_bad hnc hk2 hcn (by unfold badN; omega)]; rfl
                · intro M w H hle
                  refine PF rfl rfl rfl (NL (TN (CF rfl (SK (TN (SQ (RG (MV rfl rfl (MV rfl rfl (AS rfl rfl (AS rfl rfl (NL (TN (RT ?_))))))))))))))
                  refine WQ.ret2 rfl rfl rfl H.ext ?_
                  exact by rw [rune_good hnc hk2 (by rw [List.length_drop]; omega) hcn (by unfold badN; omega)]
end Go.Proofs.YtkmjdamkifbddaaGreatDoor
end
section
namespace Go.Proofs.YtkmjdamkifbddaaGreatDoor
open Go Go.RowKit Go.Ph
open Go.Ph.Gr Go.Ph.Utf Go.Ph.Chs
theorem low_at {l : List UInt8} {k : Nat} {u : UInt8} (h : l[k]? = some u) : (lower (l.take k) ++ l.drop k)[k]? = some u := by
  have hk := (List.getElem?_eq_some_iff.1 h).1
  rw [List.getElem?_append_right (by rw [lower_len, List.length_take]; omega), lower_len, List.length_take, show k - min k l.length = 0 by omega, List.getElem?_drop, Nat.add_zero]; exact h
theorem low_next {l : List UInt8} {k : Nat} {u : UInt8} (h : l[k]? = some u) : lower (l.take (k + 1)) ++ l.drop (k + 1) = lower (l.take k) ++ lowB u :: l.drop (k + 1) := by
  obtain ⟨hk, hu⟩ := List.getElem?_eq_some_iff.1 h
  rw [List.take_succ_eq_append_getElem hk, hu]; simp [lower]
theorem low_step {l : List UInt8} {k : Nat} {u : UInt8} (h : l[k]? = some u) : (lower (l.take k) ++ l.drop k).set k (lowB u) = lower (l.take (k + 1)) ++ l.drop (k + 1) := by
  obtain ⟨hk, hu⟩ := List.getElem?_eq_some_iff.1 h
  have hl : (lower (l.take k)).length = k := by rw [lower_len, List.length_take]; omega
  rw [low_next h, List.set_append_right _ _ (by omega), hl, Nat.sub_self, List.drop_eq_getElem_cons hk]; rfl
theorem low_keep {l : List UInt8} {k : Nat} {u : UInt8} (h : l[k]? = some u) (hn : ¬ (65 ≤ u.toNat ∧ u.toNat ≤ 90)) : lower (l.take k) ++ l.drop k = lower (l.take (k + 1)) ++ l.drop (k + 1) := by
  obtain ⟨hk, hu⟩ := List.getElem?_eq_some_iff.1 h
  rw [low_next h, List.drop_eq_getElem_cons hk, hu, lowB, if_neg hn]
theorem lowB_enc {u : UInt8} (h : 65 ≤ u.toNat ∧ u.toNat ≤ 90) : encB (lowB u) = .int .u8 ((u.toNat : Int) + 32) := by
  unfold lowB; rw [if_pos h]
  have h1 : (u + 32).toNat = u.toNat + 32 := by rw [UInt8.toNat_add]; show (u.toNat + 32) % 256 = _; omega
  show Value.int .u8 (((u + 32).toNat : Nat) : Int) = _
  rw [h1]; rfl
theorem lower_spec (l : List UInt8) (hs : l.length ≤ maxLen) : Ct Tryz.prog 55 [S l] (fun _ => True) (fun r _ => r = S (lower l)) := by
  refine Ct.of Tryz.func55 (enters Tryz.func55 (by kernel_rfl) rfl) rfl rfl rfl ?_
  intro w0 M0 H hp
  simp only [maxLen] at hs
  refine SQ (RG (AS rfl rfl (NL (TN (SQ (RG (MV rfl rfl (WR.toBytes H Tryz.underlying9 Tryz.underlying88 Tryz.underlying5 rfl (by simp only [maxLen]; omega) (Wn.none rfl) rfl ?_))))))))
  intro g7 c7 w hc7 hm7 H
  refine AS rfl rfl (NL (TN (SQ (SQ (RG (MV rfl rfl ?_))))))
  first | refine WR.step (Ex.lenSl Tryz.underlying88 (by assumption) rfl) (Wn.none rfl) rfl rfl ?_ | refine WR.step (Ex.lenRow Tryz.underlying88 H (by repeat first | exact kMh | apply kMt) rfl) (Wn.none rfl) rfl rfl ?_ | refine WR.step (Ex.lenSlice Tryz.underlying88 rfl) (Wn.none rfl) rfl rfl ?_
  refine MV rfl rfl (NL (TN (BL (WC.loop2 (fun (k : Nat) (m : List UInt8) => [(3, .slice (some ⟨g7, 0, none⟩) l.length c7), (8, .slice (some ⟨g7, 0, none⟩) l.length c7), (9, I (l.length : Int)), (10, encN k)]) (fun (k : Nat) (m : List UInt8) w => k ≤ l.length ∧ m.length = l.length ∧ m = lower (l.take k) ++ l.drop k ∧ ∃ M, St w0 M0 M [SRow g7 c7 5 m] w) (fun (k : Nat) (m : List UInt8) => l.length - k) (0) (l) ⟨rfl, rfl, rfl, rfl, trivial⟩ (⟨by omega, rfl, by simp [lower], M0, H⟩) ?_))))
  intro k m w
  rintro ⟨hk, hml, hm, M, H⟩
  refine SQ (RG ?_)
  refine WR.split (Ex.lss rfl rfl) (Wn.none rfl) rfl rfl (fun h3_0 => ?_) (fun h3_0 => ?_)
  · obtain ⟨u, hlu⟩ : ∃ u, l[k]? = some u := ⟨_, List.getElem?_eq_getElem (by omega)⟩
    have hcu : m[k]? = some u := by rw [hm]; exact low_at hlu
    have hult := u.toNat_lt
    refine NL (TN (SQ (CT rfl (SK (TN (SQ (BL (SQ (RG (MV rfl rfl (ST (Ex.idxS Tryz.underlying88 Tryz.sizeOf5 rfl rfl (by omega)) rfl ?_)))))))))))
    refine ST (Ex.loadS H rfl (by repeat first | exact kMh | apply kMt) hcu Tryz.isAgg5) rfl ?_
    refine AS rfl rfl (AS rfl rfl (NL (TN (SQ (RG (MV rfl rfl ?_))))))
    refine WR.split (Ex.geq rfl rfl) (Wn.none rfl) rfl rfl (fun h5_1 => ?_) (fun h5_1 => ?_)
    · refine MV rfl rfl (SG (Ex.move rfl) rfl rfl rfl ?_)
      refine WR.split (Ex.leq rfl rfl) (Wn.some rfl rfl rfl) rfl rfl (fun h5_4 => ?_) (fun h5_4 => ?_)
      · refine PT rfl rfl rfl (NL (TN (CT rfl (RG (MV rfl rfl (MV rfl rfl (MV rfl rfl (ST (Ex.addW rfl rfl (u8_in (by omega))) rfl ?_))))))))
        refine WR.stepE (v' := encB (lowB u)) (Ex.subW rfl rfl (u8_in (by omega))) (by rw [lowB_enc (by omega)]; exact congrArg (Value.int .u8) (by omega)) (Wn.none rfl) rfl rfl ?_
        refine ST (Ex.idxS Tryz.underlying88 Tryz.sizeOf5 rfl rfl (by omega)) rfl ?_
        refine WR.storeS (c := lowB u) H rfl rfl (by repeat first | exact .head | apply Upd.tail) (by omega) (by omega) Tryz.sizeOf5 (Wn.none rfl) ?_
        intro w H
        refine NL (IB (TN (RG (ST (Ex.add64 rfl rfl (by omega)) rfl ?_))))
        refine MV rfl rfl (NL ?_)
        refine WQ.again2 (k + 1) (m.set k (lowB u)) ⟨rfl, rfl, rfl, rfl, trivial⟩ ?_ ?_
        · refine ⟨by omega, by rw [List.length_set]; exact hml, ?_, M, H⟩
          rw [hm]; exact low_step hlu
        · omega
      · refine PT rfl rfl rfl (NL (TN (CF rfl (SK (IB (TN (RG (ST (Ex.add64 rfl rfl (by omega)) rfl ?_))))))))
        refine MV rfl rfl (NL ?_)
        refine WQ.again2 (k + 1) (m) ⟨rfl, rfl, rfl, rfl, trivial⟩ ?_ ?_
        · refine ⟨by omega, hml, ?_, M, H⟩
          rw [hm]; exact low_keep hlu (by omega)
        · omega
    · refine MV rfl rfl (GF rfl rfl rfl (GF rfl rfl rfl (PF rfl rfl rfl (NL (TN (CF rfl (SK (IB (TN (RG (ST (Ex.add64 rfl rfl (by omega)) rfl ?_)))))))))))
      refine MV rfl rfl (NL ?_)
      refine WQ.again2 (k + 1) (m) ⟨rfl, rfl, rfl, rfl, trivial⟩ ?_ ?_
      · refine ⟨by omega, hml, ?_, M, H⟩
        rw [hm]; exact low_keep hlu (by omega)
      · omega
  · refine NL (TN (SQ (CF rfl (WC.exit (WQ.thenExit (WQ.thenExit (WQ.exitHere (TN (SQ (RG (MV rfl rfl (ST (Ex.toStrS Tryz.underlying88 Tryz.underlying5 Tryz.underlying9 H (by repeat first | exact kMh | apply kMt) hml.symm rfl) rfl ?_))))))))))))
    refine AS rfl rfl (NL (TN (RT ?_)))
    refine WQ.ret1 rfl rfl H.ext ?_
    exact by rw [hm, List.take_of_length_le (by omega), List.drop_eq_nil_of_le (by omega), List.append_nil]
theorem rlower_spec (l : List UInt8) (hs : l.length ≤ maxLen) : Ct Tryz.prog 24 [S l] (fun _ => True) (fun r _ => r = S (lower l)) := by
  refine Ct.of Tryz.func24 (enters Tryz.func24 (by kernel_rfl) rfl) rfl rfl rfl ?_
  intro w0 M0 H hp
  simp only [maxLen] at hs
  refine SQ (RG (AS rfl rfl (NL (TN (SQ (RG (MV rfl rfl (WR.toBytes H Tryz.underlying9 Tryz.underlying88 Tryz.underlying5 rfl (by simp only [maxLen]; omega) (Wn.none rfl) rfl ?_))))))))
  intro g6 c6 w hc6 hm6 H
  refine AS rfl rfl (NL (TN (SQ (SQ (RG (AS rfl rfl (NL (TN (BL (WC.loop2 (fun (k : Nat) (m : List UInt8) => [(3, .slice (some ⟨g6, 0, none⟩) l.length c6), (4, encN k)]) (fun (k : Nat) (m : List UInt8) w => k ≤ l.length ∧ m.length = l.length ∧ m = lower (l.take k) ++ l.drop k ∧ ∃ M, St w0 M0 M [SRow g6 c6 5 m] w) (fun (k : Nat) (m : List UInt8) => l.length - k) (0) (l) ⟨rfl, rfl, trivial⟩ (⟨by omega, rfl, by simp [lower], M0, H⟩) ?_))))))))))
  intro k m w
  rintro ⟨hk, hml, hm, M, H⟩
  refine SQ (SQ (RG (MV rfl rfl (MV rfl rfl ?_))))
  first | refine WR.step (Ex.lenSl Tryz.underlying88 (by assumption) rfl) (Wn.none rfl) rfl rfl ?_ | refine WR.step (Ex.lenRow Tryz.underlying88 H (by repeat first | exact kMh | apply kMt) rfl) (Wn.none rfl) rfl rfl ?_ | refine WR.step (Ex.lenSlice Tryz.underlying88 rfl) (Wn.none rfl) rfl rfl ?_
  refine WR.split (Ex.lss rfl rfl) (Wn.none rfl) rfl rfl (fun h3_3 => ?_) (fun h3_3 => ?_)
  · obtain ⟨u, hlu⟩ : ∃ u, l[k]? = some u := ⟨_, List.getElem?_eq_getElem (by omega)⟩
    have hcu : m[k]? = some u := by rw [hm]; exact low_at hlu
    have hult := u.toNat_lt
    refine NL (TN (CT rfl (SK (TN (SQ (BL (SQ (RG (MV rfl rfl (MV rfl rfl (ST (Ex.idxS Tryz.underlying88 Tryz.sizeOf5 rfl rfl (by omega)) rfl ?_)))))))))))
    refine ST (Ex.loadS H rfl (by repeat first | exact kMh | apply kMt) hcu Tryz.isAgg5) rfl ?_
    first | refine WR.step (Ex.convB Tryz.underlying5 Tryz.underlying3 rfl) (Wn.none rfl) rfl rfl ?_ | refine WR.step (Ex.convI Tryz.underlying5 Tryz.underlying3 rfl (by omega)) (Wn.none rfl) rfl rfl ?_
    by_cases h5_5 : (65 : Int) ≤ (u.toNat : Int) ∧ (u.toNat : Int) ≤ 90
    · refine WR.call H (Ct.mono (in_spec _ _ _) (R' := fun r _ => r = .bool true) (fun _ _ h => h.trans (congrArg Value.bool (decide_eq_true h5_5)))) rfl (trivial) (Wn.none rfl) rfl ?_
      intro v18 M w H hle hr18
      obtain rfl := hr18
      refine NL (TN (CT rfl (RG (MV rfl rfl (MV rfl rfl (MV rfl rfl (MV rfl rfl (ST (Ex.idxS Tryz.underlying88 Tryz.sizeOf5 rfl rfl (by omega)) rfl ?_))))))))
      refine ST (Ex.loadS H rfl (by repeat first | exact kMh | apply kMt) hcu Tryz.isAgg5) rfl ?_
      refine WR.stepE (v' := encB (lowB u)) (Ex.addW rfl rfl (u8_in (by omega))) (by rw [lowB_enc (by omega)]) (Wn.none rfl) rfl rfl ?_
      refine ST (Ex.idxS Tryz.underlying88 Tryz.sizeOf5 rfl rfl (by omega)) rfl ?_
      refine WR.storeS (c := lowB u) H rfl rfl (by repeat first | exact .head | apply Upd.tail) (by omega) (by omega) Tryz.sizeOf5 (Wn.none rfl) ?_
      intro w H
      refine NL (IB (TN (RG (MV rfl rfl (ST (Ex.add64 rfl rfl (by omega)) rfl ?_)))))
      refine AS rfl rfl (NL ?_)
      refine WQ.again2 (k + 1) (m.set k (lowB u)) ⟨rfl, rfl, trivial⟩ ?_ ?_
      · refine ⟨by omega, by rw [List.length_set]; exact hml, ?_, M, H⟩
        rw [hm]; exact low_step hlu
      · omega
    · refine WR.call H (Ct.mono (in_spec _ _ _) (R' := fun r _ => r = .bool false) (fun _ _ h => h.trans (congrArg Value.bool (decide_eq_false h5_5)))) rfl (trivial) (Wn.none rfl) rfl ?_
      intro v18 M w H hle hr18
      obtain rfl := hr18
      refine NL (TN (CF rfl (SK (IB (TN (RG (MV rfl rfl (ST (Ex.add64 rfl rfl (by omega)) rfl ?_))))))))
      refine AS rfl rfl (NL ?_)
      refine WQ.again2 (k + 1) (m) ⟨rfl, rfl, trivial⟩ ?_ ?_
      · refine ⟨by omega, hml, ?_, M, H⟩
        rw [hm]; exact low_keep hlu (by omega)
      · omega
  · refine NL (TN (CF rfl (WC.exit (WQ.thenExit (WQ.thenExit (WQ.exitHere (TN (SQ (RG (MV rfl rfl (ST (Ex.toStrS Tryz.underlying88 Tryz.underlying5 Tryz.underlying9 H (by repeat first | exact kMh | apply kMt) hml.symm rfl) rfl ?_)))))))))))
    refine AS rfl rfl (NL (TN (RT ?_)))
    refine WQ.ret1 rfl rfl H.ext ?_
    exact by rw [hm, List.take_of_length_le (by omega), List.drop_eq_nil_of_le (by omega), List.append_nil]
def same (name x : List UInt8) : Bool := decide (lower x = lower name)
theorem valid_spec (l : List UInt8) (hs : l.length ≤ 4611686018427387904) : Ct Tryz.prog 71 [S l] (fun _ => True) (fun r _ => r = .bool (vld l)) := by
  refine Ct.of Tryz.func71 (enters Tryz.func71 (by kernel_rfl) rfl) rfl rfl rfl ?_
  intro w0 M0 H hp
  refine SQ (RG (AS rfl rfl (NL (TN (SQ (SQ (RG (AS rfl rfl (NL (TN (BL (WC.loop1 (fun (q : Nat) => [(0, S l), (3, encN q)]) (fun (q : Nat) w => q ≤ l.length ∧ vld l = vld (l.drop q) ∧ ∃ M, St w0 M0 M [] w) (fun (q : Nat) => l.length - q) (0) ⟨rfl, rfl, trivial⟩ (⟨by omega, rfl, M0, H⟩) ?_))))))))))))
  intro q w
  rintro ⟨hq, hv, M, H⟩
  refine SQ (SQ (RG (MV rfl rfl (MV rfl rfl (ST (Ex.lenStr Tryz.underlying9 rfl) rfl ?_)))))
  refine WR.split (Ex.lss rfl rfl) (Wn.none rfl) rfl rfl (fun h2_3 => ?_) (fun h2_3 => ?_)
  · have hne := drop_ne (t := l) (n := q) (by omega)
    have hrs := rune_size (l.drop q)
    have hrs3 := hrs.2.2 hne
    rw [List.length_drop] at hrs3
    refine NL (TN (CT rfl (SK (TN (BL (SQ (RG (MV rfl rfl (MV rfl rfl (WR.call H (rune_spec _ _ (by omega) (by omega)) rfl (trivial) (Wn.none rfl) rfl ?_))))))))))
    intro v13 M w H hle hr13
    obtain rfl := hr13
    refine MV rfl rfl (ST (Ex.extract rfl rfl) rfl (ST (Ex.extract rfl rfl) rfl (AS rfl rfl (AS rfl rfl (NL (TN (SQ (SQ (RG (MV rfl rfl ?_))))))))))
    refine WR.split (Ex.lss rfl rfl) (Wn.none rfl) rfl rfl (fun h4_1 => ?_) (fun h4_1 => ?_)
    · have hr : vld l = false := by rw [hv, vld_cons hne, decide_eq_false (by omega), Bool.false_and]
      refine NL (TN (CT rfl (SQ (RG (AS rfl rfl (NL (TN (RT ?_))))))))
      refine WQ.ret1 rfl rfl H.ext ?_
      exact by rw [hr]
    · refine NL (TN (CF rfl (SK (TN (RG (MV rfl rfl (MV rfl rfl (ST (Ex.add64 rfl rfl (by omega)) rfl ?_))))))))
      refine AS rfl rfl (NL (IB ?_))
      refine WQ.again1 (q + (rune (l.drop q)).2) ⟨rfl, rfl, trivial⟩ ?_ ?_
      · refine ⟨by omega, ?_, M, H⟩
        rw [hv, vld_cons hne, decide_eq_true (by omega), Bool.true_and, List.drop_drop]
      · omega
  · have hr : vld l = true := by rw [hv, List.drop_eq_nil_of_le (by omega)]; rfl
    refine NL (TN (CF rfl (WC.exit (WQ.thenExit (WQ.thenExit (WQ.exitHere (TN (SQ (RG (AS rfl rfl (NL (TN (RT ?_)))))))))))))
    refine WQ.ret1 rfl rfl H.ext ?_
    exact by rw [hr]
end Go.Proofs.YtkmjdamkifbddaaGreatDoor
end
section
namespace Go.Ph
open Go Go.RowKit
section
variable {P : Program} {e : Env} {w : World} {x : Operand} {v : Value} {dst : Option Tmp} {ty t : TypeId} {pos : String} {af : Array Edge} {g : Option (Nat × Bool)}
theorem Ex.loadCell {p : Addr} (hx : ev e x = some (.pointer (some p))) (hc : w.cell? p = some v) (ha : ∀ w, (isAgg t).run P w = .ok false w) : Ex P ⟨dst, .load t x, ty, pos, af, g⟩ e w v w := Ex.loadK hx (by
  simp only [loadVar, Sem.run_bind, ha, Result.andThen_ok, Bool.false_eq_true, if_false]
  simp [load, Sem.run, hc])
theorem Ex.loadAggW {b o s : Nat} {cs : List Value} (hx : ev e x = some (ptr b o)) (hc : ∀ j u, cs[j]? = some u → w.cell? ⟨b, o + j, none⟩ = some u) (ha : ∀ w, (isAgg t).run P w = .ok true w) (hs : ∀ w, (sizeOf t).run P w = .ok s w) (hl : cs.length = s) : Ex P ⟨dst, .load t x, ty, pos, af, g⟩ e w (.agg cs.toArray) w := Ex.loadK hx (by
  subst hl
  have hlc : (loadCells ⟨b, o, none⟩ cs.length).run P w = .ok cs.toArray w :=
    run_loadCells_list (P := P) w ⟨b, o, none⟩ cs (fun j v hv => by rw [Addr.add_lit]; exact hc j v hv)
  simp only [loadVar, Sem.run_bind, ha, Result.andThen_ok, if_true, hs, hlc, Sem.run_pure])
end
end Go.Ph
namespace Go.Ph.Chs
open Go Go.Ph.Utf Go.Ph.Gr
theorem and64 {m s : Nat} (hm : m < 2 ^ 64) : IntKind.u64.wrap ((m &&& s : Nat) : Int) = ((m &&& s : Nat) : Int) := by
  have h : m &&& s ≤ m := Nat.and_le_left
  exact u64_in (by omega)
theorem or64 {m s : Nat} (hm : m < 2 ^ 64) (hs : s < 2 ^ 64) : IntKind.u64.wrap ((m ||| s : Nat) : Int) = ((m ||| s : Nat) : Int) := by
  have h := Nat.or_lt_two_pow hm hs
  exact u64_in (by omega)
theorem shl64 {b k : Nat} (hb : b < 256) (hk : k ≤ 56) : b <<< k < 2 ^ 64 ∧ IntKind.u64.wrap ((b * 2 ^ k : Nat) : Int) = ((b <<< k : Nat) : Int) := by
  have h2 : 2 ^ k ≤ 2 ^ 56 := Nat.pow_le_pow_right (by decide) hk
  have h3 : b * 2 ^ k < 2 ^ 64 := Nat.lt_of_le_of_lt (Nat.mul_le_mul (show b ≤ 255 by omega) h2) (by decide)
  rw [Nat.shiftLeft_eq]
  exact ⟨h3, u64_in (by omega)⟩
def FF (c : Nat) : Prop := ∃ sz ai lo hi, Lib.firstT c < 256 ∧ Lib.firstT c &&& 7 = sz ∧ Lib.firstT c / 2 ^ 4 = ai ∧ ai < 16 ∧ Lib.accLo ai = lo ∧ Lib.accHi ai = hi ∧ lo < 256 ∧ hi < 256 ∧ (sz = 1 ∨ sz = 2 ∨ sz = 3 ∨ sz = 4) ∧
    (sz = 1 → ¬ (194 ≤ c ∧ c ≤ 244)) ∧ (sz = 2 → 194 ≤ c ∧ c ≤ 223 ∧ lo = 128 ∧ hi = 191) ∧ (sz = 3 → 224 ≤ c ∧ c ≤ 239 ∧ lo = (if c = 224 then 160 else 128) ∧ hi = (if c = 237 then 159 else 191)) ∧ (sz = 4 → 240 ≤ c ∧ c ≤ 244 ∧ lo = (if c = 240 then 144 else 128) ∧ hi = (if c = 244 then 143 else 191))
theorem first_facts (c : Nat) (h : 128 ≤ c) (h2 : c < 256) : FF c := by
  have key : ∀ F sz ai lo hi : Nat, Lib.firstT c = F → F < 256 → F &&& 7 = sz → F / 2 ^ 4 = ai → ai < 16 → Lib.accLo ai = lo → Lib.accHi ai = hi → lo < 256 → hi < 256 → (sz = 1 ∨ sz = 2 ∨ sz = 3 ∨ sz = 4) →
      (sz = 1 → ¬ (194 ≤ c ∧ c ≤ 244)) → (sz = 2 → 194 ≤ c ∧ c ≤ 223 ∧ lo = 128 ∧ hi = 191) → (sz = 3 → 224 ≤ c ∧ c ≤ 239 ∧ lo = (if c = 224 then 160 else 128) ∧ hi = (if c = 237 then 159 else 191)) → (sz = 4 → 240 ≤ c ∧ c ≤ 244 ∧ lo = (if c = 240 then 144 else 128) ∧ hi = (if c = 244 then 143 else 191)) → FF c :=
    fun F sz ai lo hi e1 e2 e3 e4 e5 e6 e7 e8 e9 ea eb ec ed ee => ⟨sz, ai, lo, hi, by rw [e1]; exact e2, by rw [e1]; exact e3, by rw [e1]; exact e4, e5, e6, e7, e8, e9, ea, eb, ec, ed, ee⟩
  have hF : Lib.firstT c = if c < 194 then 241 else if c < 224 then 2 else if c = 224 then 19 else if c < 237 then 3 else if c = 237 then 35 else if c < 240 then 3 else if c = 240 then 52 else if c < 244 then 4 else if c = 244 then 68 else 241 := by
    unfold Lib.firstT; rw [if_neg (by omega)]
  by_cases c1 : c < 194
  · exact key 241 1 15 0 0 (by rw [hF, if_pos c1]) (by decide) (by decide) (by decide) (by decide) (by decide) (by decide) (by decide) (by decide) (by decide) (fun _ => by omega) (fun h => by omega) (fun h => by omega) (fun h => by omega)
  · by_cases c2 : c < 224
    · exact key 2 2 0 128 191 (by rw [hF, if_neg c1, if_pos c2]) (by decide) (by decide) (by decide) (by decide) (by decide) (by decide) (by decide) (by decide) (by decide) (fun h => by omega) (fun h => ⟨by omega, by omega, rfl, rfl⟩) (fun h => by omega) (fun h => by omega)
    · by_cases c3 : c = 224
      · exact key 19 3 1 160 191 (by rw [hF, if_neg c1, if_neg c2, if_pos c3]) (by decide) (by decide) (by decide) (by decide) (by decide) (by decide) (by decide) (by decide) (by decide) (fun h => by omega) (fun h => by omega) (fun h => ⟨by omega, by omega, by rw [if_pos c3], by rw [if_neg (by omega)]⟩) (fun h => by omega)
      · by_cases c4 : c < 237
        · exact key 3 3 0 128 191 (by rw [hF, if_neg c1, if_neg c2, if_neg c3, if_pos c4]) (by decide) (by decide) (by decide) (by decide) (by decide) (by decide) (by decide) (by decide) (by decide) (fun h => by omega) (fun h => by omega) (fun h => ⟨by omega, by omega, by rw [if_neg c3], by rw [if_neg (by omega)]⟩) (fun h => by omega)
        · by_cases c5 : c = 237
          · exact key 35 3 2 128 159 (by rw [hF, if_neg c1, if_neg c2, if_neg c3, if_neg c4, if_pos c5]) (by decide) (by decide) (by decide) (by decide) (by decide) (by decide) (by decide) (by decide) (by decide) (fun h => by omega) (fun h => by omega) (fun h => ⟨by omega, by omega, by rw [if_neg c3], by rw [if_pos c5]⟩) (fun h => by omega)
          · by_cases c6 : c < 240
            · exact key 3 3 0 128 191 (by rw [hF, if_neg c1, if_neg c2, if_neg c3, if_neg c4, if_neg c5, if_pos c6]) (by decide) (by decide) (by decide) (by decide) (by decide) (by decide) (by decide) (by decide) (by decide) (fun h => by omega) (fun h => by omega) (fun h => ⟨by omega, by omega, by rw [if_neg c3], by rw [if_neg c5]⟩) (fun h => by omega)
            · by_cases c7 : c = 240
              · exact key 52 4 3 144 191 (by rw [hF, if_neg c1, if_neg c2, if_neg c3, if_neg c4, if_neg c5, if_neg c6, if_pos c7]) (by decide) (by decide) (by decide) (by decide) (by decide) (by decide) (by decide) (by decide) (by decide) (fun h => by omega) (fun h => by omega) (fun h => by omega) (fun h => ⟨by omega, by omega, by rw [if_pos c7], by rw [if_neg (by omega)]⟩)
              · by_cases c8 : c < 244
                · exact key 4 4 0 128 191 (by rw [hF, if_neg c1, if_neg c2, if_neg c3, if_neg c4, if_neg c5, if_neg c6, if_neg c7, if_pos c8]) (by decide) (by decide) (by decide) (by decide) (by decide) (by decide) (by decide) (by decide) (by decide) (fun h => by omega) (fun h => by omega) (fun h => by omega) (fun h => ⟨by omega, by omega, by rw [if_neg c7], by rw [if_neg (by omega)]⟩)
                · by_cases c9 : c = 244
                  · exact key 68 4 4 128 143 (by rw [hF, if_neg c1, if_neg c2, if_neg c3, if_neg c4, if_neg c5, if_neg c6, if_neg c7, if_neg c8, if_pos c9]) (by decide) (by decide) (by decide) (by decide) (by decide) (by decide) (by decide) (by decide) (by decide) (fun h => by omega) (fun h => by omega) (fun h => by omega) (fun h => ⟨by omega, by omega, by rw [if_neg c7], by rw [if_pos c9]⟩)
                  · exact key 241 1 15 0 0 (by rw [hF, if_neg c1, if_neg c2, if_neg c3, if_neg c4, if_neg c5, if_neg c6, if_neg c7, if_neg c8, if_neg c9]) (by decide) (by decide) (by decide) (by decide) (by decide) (by decide) (by decide) (by decide) (by decide) (fun _ => by omega) (fun h => by omega) (fun h => by omega) (fun h => by omega)
theorem runeN_else {m b0 b1 b2 b3 : Nat} (h : 128 ≤ b0) (h1 : ¬ (192 ≤ b0 ∧ b0 ≤ 247)) : runeN m b0 b1 b2 b3 = (-1, 1) := by
  unfold runeN
  rw [if_neg (by omega), if_neg (by omega), if_neg (by omega), if_neg (by omega)]
theorem multi1 {t : List UInt8} (h : 128 ≤ nat t 0) (h1 : ¬ (194 ≤ nat t 0 ∧ nat t 0 ≤ 244)) : (rune t).1 < 0 := by
  rw [rune_eq]
  have n1 := nat_lt t 1
  by_cases k0 : 192 ≤ nat t 0 ∧ nat t 0 ≤ 247
  · unfold runeN
    rw [if_neg (by omega)]
    by_cases k1 : nat t 0 ≤ 223
    · rw [if_pos (by omega)]
      split
      · rename_i hc
        have ho := hc.2
        unfold okC at ho
        rw [chk, if_pos (by unfold badN; omega)]; decide
      · decide
    · rw [if_neg (by omega), if_neg (by omega), if_pos (by omega)]
      split
      · rename_i hc
        obtain ⟨_, o1, o2, o3⟩ := hc
        unfold okC at o1 o2 o3
        rw [chk, if_pos (by unfold badN; omega)]; decide
      · decide
  · rw [runeN_else h k0]; decide
theorem multi2 {t : List UInt8} (h : 194 ≤ nat t 0 ∧ nat t 0 ≤ 223) : (2 ≤ t.length ∧ 128 ≤ nat t 1 ∧ nat t 1 ≤ 191 → 0 ≤ (rune t).1 ∧ (rune t).2 = 2) ∧ (¬ (2 ≤ t.length ∧ 128 ≤ nat t 1 ∧ nat t 1 ≤ 191) → (rune t).1 < 0) := by
  rw [rune_eq]
  unfold runeN
  rw [if_neg (by omega), if_pos (by omega)]
  constructor
  · intro hc
    rw [if_pos ⟨hc.1, by unfold okC; omega⟩, chk, if_neg (by unfold badN; omega)]
    exact ⟨by simp only []; omega, rfl⟩
  · intro hc
    rw [if_neg (by unfold okC; omega)]; decide
theorem multi3 {t : List UInt8} {lo hi : Nat} (h : 224 ≤ nat t 0 ∧ nat t 0 ≤ 239) (hlo : lo = if nat t 0 = 224 then 160 else 128) (hhi : hi = if nat t 0 = 237 then 159 else 191) :
    (3 ≤ t.length ∧ lo ≤ nat t 1 ∧ nat t 1 ≤ hi ∧ 128 ≤ nat t 2 ∧ nat t 2 ≤ 191 → 0 ≤ (rune t).1 ∧ (rune t).2 = 3) ∧ (¬ (3 ≤ t.length ∧ lo ≤ nat t 1 ∧ nat t 1 ≤ hi ∧ 128 ≤ nat t 2 ∧ nat t 2 ≤ 191) → (rune t).1 < 0) := by
  rw [rune_eq]
  unfold runeN
  rw [if_neg (by omega), if_neg (by omega), if_pos (by omega)]
  have hl : lo = 160 ∧ nat t 0 = 224 ∨ lo = 128 ∧ nat t 0 ≠ 224 := by split at hlo <;> omega
  have hh : hi = 159 ∧ nat t 0 = 237 ∨ hi = 191 ∧ nat t 0 ≠ 237 := by split at hhi <;> omega
  constructor
  · intro hc
    rw [if_pos ⟨hc.1, by unfold okC; omega, by unfold okC; omega⟩, chk, if_neg (by unfold badN; omega)]
    exact ⟨by simp only []; omega, rfl⟩
  · intro hc
    split
    · rename_i hd
      obtain ⟨d0, d1, d2⟩ := hd
      unfold okC at d1 d2
      rw [chk, if_pos (by unfold badN; omega)]; decide
    · decide
theorem multi4 {t : List UInt8} {lo hi : Nat} (h : 240 ≤ nat t 0 ∧ nat t 0 ≤ 244) (hlo : lo = if nat t 0 = 240 then 144 else 128) (hhi : hi = if nat t 0 = 244 then 143 else 191) :
    (4 ≤ t.length ∧ lo ≤ nat t 1 ∧ nat t 1 ≤ hi ∧ (128 ≤ nat t 2 ∧ nat t 2 ≤ 191) ∧ (128 ≤ nat t 3 ∧ nat t 3 ≤ 191) → 0 ≤ (rune t).1 ∧ (rune t).2 = 4) ∧ (¬ (4 ≤ t.length ∧ lo ≤ nat t 1 ∧ nat t 1 ≤ hi ∧ (128 ≤ nat t 2 ∧ nat t 2 ≤ 191) ∧ (128 ≤ nat t 3 ∧ nat t 3 ≤ 191)) → (rune t).1 < 0) := by
  rw [rune_eq]
  unfold runeN
  rw [if_neg (by omega), if_neg (by omega), if_neg (by omega), if_pos (by omega)]
  have hl : lo = 144 ∧ nat t 0 = 240 ∨ lo = 128 ∧ nat t 0 ≠ 240 := by split at hlo <;> omega
  have hh : hi = 143 ∧ nat t 0 = 244 ∨ hi = 191 ∧ nat t 0 ≠ 244 := by split at hhi <;> omega
  constructor
  · intro hc
    rw [if_pos ⟨hc.1, by unfold okC; omega, by unfold okC; omega, by unfold okC; omega⟩, chk, if_neg (by unfold badN; omega)]
    exact ⟨by simp only []; omega, rfl⟩
  · intro hc
    split
    · rename_i hd
      obtain ⟨d0, d1, d2, d3⟩ := hd
      unfold okC at d1 d2 d3
      rw [chk, if_pos (by unfold badN; omega)]; decide
    · decide
theorem vld_32 {x : List UInt8} (hx : 32 ≤ x.length) (h1 : ∀ i, i < 8 → nat x i < 128) (h2 : ∀ i, i < 8 → nat (x.drop 8) i < 128) (h3 : ∀ i, i < 8 → nat (x.drop 16) i < 128) (h4 : ∀ i, i < 8 → nat (x.drop 24) i < 128) : vld x = vld (x.drop 32) := by
  have e1 := vld_asciis 8 x (by omega) h1
  have e2 := vld_asciis 8 (x.drop 8) (by rw [List.length_drop]; omega) h2
  have e3 := vld_asciis 8 (x.drop 16) (by rw [List.length_drop]; omega) h3
  have e4 := vld_asciis 8 (x.drop 24) (by rw [List.length_drop]; omega) h4
  rw [List.drop_drop] at e2 e3 e4
  exact (e1.trans e2).trans (e3.trans e4)
theorem vld_bad {t : List UInt8} (hne : t ≠ []) (h : (rune t).1 < 0) : vld t = false := by rw [vld_cons hne, decide_eq_false (by omega), Bool.false_and]
theorem vld_good {t : List UInt8} {k : Nat} (hne : t ≠ []) (h : 0 ≤ (rune t).1 ∧ (rune t).2 = k) : vld t = vld (t.drop k) := by rw [vld_cons hne, decide_eq_true h.1, Bool.true_and, h.2]
end Go.Ph.Chs
end
section
namespace Go.Proofs.YtkmjdamkifbddaaGreatDoor
open Go Go.RowKit Go.Ph
open Go.Ph.Gr Go.Ph.Utf Go.Ph.Chs
theorem word_spec (l : List UInt8) (hl : 8 ≤ l.length) : Ct Tryz.prog 104 [S l] (fun _ => True) (fun r _ => r = .int .u64 ((w8 l : Nat) : Int)) := by
  refine Ct.of Tryz.func104 (enters Tryz.func104 (by kernel_rfl) rfl) rfl rfl rfl ?_
  intro w0 M0 H hp
  obtain ⟨b0, hb0⟩ : ∃ u, l[0]? = some u := ⟨_, List.getElem?_eq_getElem (by omega)⟩
  have hlt0 := b0.toNat_lt
  have hn0 := nat_of hb0
  obtain ⟨b1, hb1⟩ : ∃ u, l[1]? = some u := ⟨_, List.getElem?_eq_getElem (by omega)⟩
  have hlt1 := b1.toNat_lt
  have hn1 := nat_of hb1
  obtain ⟨b2, hb2⟩ : ∃ u, l[2]? = some u := ⟨_, List.getElem?_eq_getElem (by omega)⟩
  have hlt2 := b2.toNat_lt
  have hn2 := nat_of hb2
  obtain ⟨b3, hb3⟩ : ∃ u, l[3]? = some u := ⟨_, List.getElem?_eq_getElem (by omega)⟩
  have hlt3 := b3.toNat_lt
  have hn3 := nat_of hb3
  obtain ⟨b4, hb4⟩ : ∃ u, l[4]? = some u := ⟨_, List.getElem?_eq_getElem (by omega)⟩
  have hlt4 := b4.toNat_lt
  have hn4 := nat_of hb4
  obtain ⟨b5, hb5⟩ : ∃ u, l[5]? = some u := ⟨_, List.getElem?_eq_getElem (by omega)⟩
  have hlt5 := b5.toNat_lt
  have hn5 := nat_of hb5
  obtain ⟨b6, hb6⟩ : ∃ u, l[6]? = some u := ⟨_, List.getElem?_eq_getElem (by omega)⟩
  have hlt6 := b6.toNat_lt
  have hn6 := nat_of hb6
  obtain ⟨b7, hb7⟩ : ∃ u, l[7]? = some u := ⟨_, List.getElem?_eq_getElem (by omega)⟩
  have hlt7 := b7.toNat_lt
  have hn7 := nat_of hb7
  have hw0 : b0.toNat < 2 ^ 64 := by omega
  have hs1 := shl64 (b := b1.toNat) (k := 8) hlt1 (by decide)
  have hw1 : b0.toNat ||| b1.toNat <<< 8 < 2 ^ 64 := Nat.or_lt_two_pow hw0 hs1.1
  have hs2 := shl64 (b := b2.toNat) (k := 16) hlt2 (by decide)
  have hw2 : b0.toNat ||| b1.toNat <<< 8 ||| b2.toNat <<< 16 < 2 ^ 64 := Nat.or_lt_two_pow hw1 hs2.1
  have hs3 := shl64 (b := b3.toNat) (k := 24) hlt3 (by decide)
  have hw3 : b0.toNat ||| b1.toNat <<< 8 ||| b2.toNat <<< 16 ||| b3.toNat <<< 24 < 2 ^ 64 := Nat.or_lt_two_pow hw2 hs3.1
  have hs4 := shl64 (b := b4.toNat) (k := 32) hlt4 (by decide)
  have hw4 : b0.toNat ||| b1.toNat <<< 8 ||| b2.toNat <<< 16 ||| b3.toNat <<< 24 ||| b4.toNat <<< 32 < 2 ^ 64 := Nat.or_lt_two_pow hw3 hs4.1
  have hs5 := shl64 (b := b5.toNat) (k := 40) hlt5 (by decide)
  have hw5 : b0.toNat ||| b1.toNat <<< 8 ||| b2.toNat <<< 16 ||| b3.toNat <<< 24 ||| b4.toNat <<< 32 ||| b5.toNat <<< 40 < 2 ^ 64 := Nat.or_lt_two_pow hw4 hs5.1
  have hs6 := shl64 (b := b6.toNat) (k := 48) hlt6 (by decide)
  have hw6 : b0.toNat ||| b1.toNat <<< 8 ||| b2.toNat <<< 16 ||| b3.toNat <<< 24 ||| b4.toNat <<< 32 ||| b5.toNat <<< 40 ||| b6.toNat <<< 48 < 2 ^ 64 := Nat.or_lt_two_pow hw5 hs6.1
  have hs7 := shl64 (b := b7.toNat) (k := 56) hlt7 (by decide)
  have hw7 : b0.toNat ||| b1.toNat <<< 8 ||| b2.toNat <<< 16 ||| b3.toNat <<< 24 ||| b4.toNat <<< 32 ||| b5.toNat <<< 40 ||| b6.toNat <<< 48 ||| b7.toNat <<< 56 < 2 ^ 64 := Nat.or_lt_two_pow hw6 hs7.1
  refine SQ (RG (AS rfl rfl (NL (TN (SQ (CF rfl (SK (TN (SQ (WC.draw (m := 39) rfl rfl H ?_))))))))))
  intro w H
  refine WA.take (i := 0) rfl (by kernel_rfl) (by kernel_rfl) (by kernel_rfl) (fun _ => Ex.move rfl) (Wn.none rfl) rfl rfl (fun _ _ => rfl) (WA.take (i := 1) rfl (by kernel_rfl) (by kernel_rfl) (by kernel_rfl) (fun _ => Ex.idxStr Tryz.underlying9 rfl rfl (hb0)) (Wn.none rfl) rfl rfl (fun _ _ => rfl) (WA.take (i := 2) rfl (by kernel_rfl) (by kernel_rfl) (by kernel_rfl) (fun _ => Ex.convU64 Tryz.underlying5 Tryz.underlying143 rfl (by omega)) (Wn.none rfl) rfl rfl (fun _ _ => rfl) ?_))
  refine WA.take (i := 3) rfl (by kernel_rfl) (by kernel_rfl) (by kernel_rfl) (fun _ => Ex.move rfl) (Wn.none rfl) rfl rfl (fun _ _ => rfl) (WA.take (i := 4) rfl (by kernel_rfl) (by kernel_rfl) (by kernel_rfl) (fun _ => Ex.idxStr Tryz.underlying9 rfl rfl (hb1)) (Wn.none rfl) rfl rfl (fun _ _ => rfl) (WA.take (i := 5) rfl (by kernel_rfl) (by kernel_rfl) (by kernel_rfl) (fun _ => Ex.convU64 Tryz.underlying5 Tryz.underlying143 rfl (by omega)) (Wn.none rfl) rfl rfl (fun _ _ => rfl) ?_))
  refine WA.takeE (v' := .int .u64 ((b1.toNat <<< 8 : Nat) : Int)) (i := 6) rfl (by kernel_rfl) (by kernel_rfl) (by kernel_rfl) (fun _ => Ex.shlK (m := b1.toNat) (s := 8) rfl rfl (by decide)) (congrArg (Value.int .u64) hs1.2) (Wn.none rfl) rfl rfl (fun _ _ => rfl) (WA.takeE (v' := .int .u64 ((b0.toNat ||| b1.toNat <<< 8 : Nat) : Int)) (i := 7) rfl (by kernel_rfl) (by kernel_rfl) (by kernel_rfl) (fun _ => Ex.orK (m := (b0.toNat)) (s := (b1.toNat <<< 8)) rfl rfl hw0 hs1.1) (congrArg (Value.int .u64) (or64 hw0 hs1.1)) (Wn.none rfl) rfl rfl (fun _ _ => rfl) (WA.take (i := 8) rfl (by kernel_rfl) (by kernel_rfl) (by kernel_rfl) (fun _ => Ex.move rfl) (Wn.none rfl) rfl rfl (fun _ _ => rfl) (WA.take (i := 9) rfl (by kernel_rfl) (by kernel_rfl) (by kernel_rfl) (fun _ => Ex.idxStr Tryz.underlying9 rfl rfl (hb2)) (Wn.none rfl) rfl rfl (fun _ _ => rfl) (WA.take (i := 10) rfl (by kernel_rfl) (by kernel_rfl) (by kernel_rfl) (fun _ => Ex.convU64 Tryz.underlying5 Tryz.underlying143 rfl (by omega)) (Wn.none rfl) rfl rfl (fun _ _ => rfl) ?_))))
  refine WA.takeE (v' := .int .u64 ((b2.toNat <<< 16 : Nat) : Int)) (i := 11) rfl (by kernel_rfl) (by kernel_rfl) (by kernel_rfl) (fun _ => Ex.shlK (m := b2.toNat) (s := 16) rfl rfl (by decide)) (congrArg (Value.int .u64) hs2.2) (Wn.none rfl) rfl rfl (fun _ _ => rfl) (WA.takeE (v' := .int .u64 ((b0.toNat ||| b1.toNat <<< 8 ||| b2.toNat <<< 16 : Nat) : Int)) (i := 12) rfl (by kernel_rfl) (by kernel_rfl) (by kernel_rfl) (fun _ => Ex.orK (m := (b0.toNat ||| b1.toNat <<< 8)) (s := (b2.toNat <<< 16)) rfl rfl hw1 hs2.1) (congrArg (Value.int .u64) (or64 hw1 hs2.1)) (Wn.none rfl) rfl rfl (fun _ _ => rfl) (WA.take (i := 13) rfl (by kernel_rfl) (by kernel_rfl) (by kernel_rfl) (fun _ => Ex.move rfl) (Wn.none rfl) rfl rfl (fun _ _ => rfl) (WA.take (i := 14) rfl (by kernel_rfl) (by kernel_rfl) (by kernel_rfl) (fun _ => Ex.idxStr Tryz.underlying9 rfl rfl (hb3)) (Wn.none rfl) rfl rfl (fun _ _ => rfl) (WA.take (i := 15) rfl (by kernel_rfl) (by kernel_rfl) (by kernel_rfl) (fun _ => Ex.convU64 Tryz.underlying5 Tryz.underlying143 rfl (by omega)) (Wn.none rfl) rfl rfl (fun _ _ => rfl) ?_))))
  refine WA.takeE (v' := .int .u64 ((b3.toNat <<< 24 : Nat) : Int)) (i := 16) rfl (by kernel_rfl) (by kernel_rfl) (by kernel_rfl) (fun _ => Ex.shlK (m := b3.toNat) (s := 24) rfl rfl (by decide)) (congrArg (Value.int .u64) hs3.2) (Wn.none rfl) rfl rfl (fun _ _ => rfl) (WA.takeE (v' := .int .u64 ((b0.toNat ||| b1.toNat <<< 8 ||| b2.toNat <<< 16 ||| b3.toNat <<< 24 : Nat) : Int)) (i := 17) rfl (by kernel_rfl) (by kernel_rfl) (by kernel_rfl) (fun _ => Ex.orK (m := (b0.toNat ||| b1.toNat <<< 8 ||| b2.toNat <<< 16)) (s := (b3.toNat <<< 24)) rfl rfl hw2 hs3.1) (congrArg (Value.int .u64) (or64 hw2 hs3.1)) (Wn.none rfl) rfl rfl (fun _ _ => rfl) (WA.take (i := 18) rfl (by kernel_rfl) (by kernel_rfl) (by kernel_rfl) (fun _ => Ex.move rfl) (Wn.none rfl) rfl rfl (fun _ _ => rfl) (WA.take (i := 19) rfl (by kernel_rfl) (by kernel_rfl) (by kernel_rfl) (fun _ => Ex.idxStr Tryz.underlying9 rfl rfl (hb4)) (Wn.none rfl) rfl rfl (fun _ _ => rfl) ?_)))
  refine WA.take (i := 20) rfl (by kernel_rfl) (by kernel_rfl) (by kernel_rfl) (fun _ => Ex.convU64 Tryz.underlying5 Tryz.underlying143 rfl (by omega)) (Wn.none rfl) rfl rfl (fun _ _ => rfl) ?_
  refine WA.takeE (v' := .int .u64 ((b4.toNat <<< 32 : Nat) : Int)) (i := 21) rfl (by kernel_rfl) (by kernel_rfl) (by kernel_rfl) (fun _ => Ex.shlK (m := b4.toNat) (s := 32) rfl rfl (by decide)) (congrArg (Value.int .u64) hs4.2) (Wn.none rfl) rfl rfl (fun _ _ => rfl) (WA.takeE (v' := .int .u64 ((b0.toNat ||| b1.toNat <<< 8 ||| b2.toNat <<< 16 ||| b3.toNat <<< 24 ||| b4.toNat <<< 32 : Nat) : Int)) (i := 22) rfl (by kernel_rfl) (by kernel_rfl) (by kernel_rfl) (fun _ => Ex.orK (m := (b0.toNat ||| b1.toNat <<< 8 ||| b2.toNat <<< 16 ||| b3.toNat <<< 24)) (s := (b4.toNat <<< 32)) rfl rfl hw3 hs4.1) (congrArg (Value.int .u64) (or64 hw3 hs4.1)) (Wn.none rfl) rfl rfl (fun _ _ => rfl) (WA.take (i := 23) rfl (by kernel_rfl) (by kernel_rfl) (by kernel_rfl) (fun _ => Ex.move rfl) (Wn.none rfl) rfl rfl (fun _ _ => rfl) (WA.take (i := 24) rfl (by kernel_rfl) (by kernel_rfl) (by kernel_rfl) (fun _ => Ex.idxStr Tryz.underlying9 rfl rfl (hb5)) (Wn.none rfl) rfl rfl (fun _ _ => rfl) ?_)))
  refine WA.take (i := 25) rfl (by kernel_rfl) (by kernel_rfl) (by kernel_rfl) (fun _ => Ex.convU64 Tryz.underlying5 Tryz.underlying143 rfl (by omega)) (Wn.none rfl) rfl rfl (fun _ _ => rfl) ?_
  refine WA.takeE (v' := .int .u64 ((b5.toNat <<< 40 : Nat) : Int)) (i := 26) rfl (by kernel_rfl) (by kernel_rfl) (by kernel_rfl) (fun _ => Ex.shlK (m := b5.toNat) (s := 40) rfl rfl (by decide)) (congrArg (Value.int .u64) hs5.2) (Wn.none rfl) rfl rfl (fun _ _ => rfl) (WA.takeE (v' := .int .u64 ((b0.toNat ||| b1.toNat <<< 8 ||| b2.toNat <<< 16 ||| b3.toNat <<< 24 ||| b4.toNat <<< 32 ||| b5.toNat <<< 40 : Nat) : Int)) (i := 27) rfl (by kernel_rfl) (by kernel_rfl) (by kernel_rfl) (fun _ => Ex.orK (m := (b0.toNat ||| b1.toNat <<< 8 ||| b2.toNat <<< 16 ||| b3.toNat <<< 24 ||| b4.toNat <<< 32)) (s := (b5.toNat <<< 40)) rfl rfl hw4 hs5.1) (congrArg (Value.int .u64) (or64 hw4 hs5.1)) (Wn.none rfl) rfl rfl (fun _ _ => rfl) (WA.take (i := 28) rfl (by kernel_rfl) (by kernel_rfl) (by kernel_rfl) (fun _ => Ex.move rfl) (Wn.none rfl) rfl rfl (fun _ _ => rfl) (WA.take (i := 29) rfl (by kernel_rfl) (by kernel_rfl) (by kernel_rfl) (fun _ => Ex.idxStr Tryz.underlying9 rfl rfl (hb6)) (Wn.none rfl) rfl rfl (fun _ _ => rfl) ?_)))
  refine WA.take (i := 30) rfl (by kernel_rfl) (by kernel_rfl) (by kernel_rfl) (fun _ => Ex.convU64 Tryz.underlying5 Tryz.underlying143 rfl (by omega)) (Wn.none rfl) rfl rfl (fun _ _ => rfl) ?_
  refine WA.takeE (v' := .int .u64 ((b6.toNat <<< 48 : Nat) : Int)) (i := 31) rfl (by kernel_rfl) (by kernel_rfl) (by kernel_rfl) (fun _ => Ex.shlK (m := b6.toNat) (s := 48) rfl rfl (by decide)) (congrArg (Value.int .u64) hs6.2) (Wn.none rfl) rfl rfl (fun _ _ => rfl) (WA.takeE (v' := .int .u64 ((b0.toNat ||| b1.toNat <<< 8 ||| b2.toNat <<< 16 ||| b3.toNat <<< 24 ||| b4.toNat <<< 32 ||| b5.toNat <<< 40 ||| b6.toNat <<< 48 : Nat) : Int)) (i := 32) rfl (by kernel_rfl) (by kernel_rfl) (by kernel_rfl) (fun _ => Ex.orK (m := (b0.toNat ||| b1.toNat <<< 8 ||| b2.toNat <<< 16 ||| b3.toNat <<< 24 ||| b4.toNat <<< 32 ||| b5.toNat <<< 40)) (s := (b6.toNat <<< 48)) rfl rfl hw5 hs6.1) (congrArg (Value.int .u64) (or64 hw5 hs6.1)) (Wn.none rfl) rfl rfl (fun _ _ => rfl) (ON 33 (by kernel_rfl) rfl (MV rfl rfl (NA (ON 34 (by kernel_rfl) rfl (ST (Ex.idxStr Tryz.underlying9 rfl rfl (hb7)) rfl (NA (ON 35 (by kernel_rfl) rfl ?_))))))))
  refine ST (Ex.convU64 Tryz.underlying5 Tryz.underlying143 rfl (by omega)) rfl ?_
  refine NA (ON 36 (by kernel_rfl) rfl (WR.stepE (v' := .int .u64 ((b7.toNat <<< 56 : Nat) : Int)) (Ex.shlK (m := b7.toNat) (s := 56) rfl rfl (by decide)) (congrArg (Value.int .u64) hs7.2) (Wn.none rfl) rfl rfl (NA (ON 37 (by kernel_rfl) rfl (WR.stepE (v' := .int .u64 ((b0.toNat ||| b1.toNat <<< 8 ||| b2.toNat <<< 16 ||| b3.toNat <<< 24 ||| b4.toNat <<< 32 ||| b5.toNat <<< 40 ||| b6.toNat <<< 48 ||| b7.toNat <<< 56 : Nat) : Int)) (Ex.orK (m := (b0.toNat ||| b1.toNat <<< 8 ||| b2.toNat <<< 16 ||| b3.toNat <<< 24 ||| b4.toNat <<< 32 ||| b5.toNat <<< 40 ||| b6.toNat <<< 48)) (s := (b7.toNat <<< 56)) rfl rfl hw6 hs7.1) (congrArg (Value.int .u64) (or64 hw6 hs7.1)) (Wn.none rfl) rfl rfl (NA (ON 38 (by kernel_rfl) rfl (AS rfl rfl (NA (WA.done (by kernel_rfl) (TN (RT ?_))))))))))))
  refine WQ.ret1 rfl rfl H.ext ?_
  exact by unfold w8; rw [hn0, hn1, hn2, hn3, hn4, hn5, hn6, hn7]
theorem tab_acc {w : World} (h : Lib.Utf8Tabs 0 1 w) {ai lo hi : Nat} (ha : ai < 16) (hlo : Lib.accLo ai = lo) (hhi : Lib.accHi ai = hi) : ∀ j u, ([.int .u8 ((lo : Nat) : Int), .int .u8 ((hi : Nat) : Int)] : List Value)[j]? = some u → w.cell? ⟨1, 2 * ai + j, none⟩ = some u := by
  obtain ⟨h1, h2⟩ := h.2 ai ha
  rw [hlo] at h1
  rw [hhi] at h2
  intro j u hj
  rcases j with _ | _ | j
  · cases hj; exact h1
  · cases hj; exact h2
  · simp at hj
theorem validString_spec (l : List UInt8) (hs : l.length ≤ 4611686018427387904) : Ct Tryz.prog 65 [S l] (fun M => Tabs M) (fun r _ => r = .bool (vld l)) := by
  refine Ct.of Tryz.func65 (enters Tryz.func65 (by kernel_rfl) rfl) rfl rfl rfl ?_
  intro w0 M0 H hp
  refine SQ (RG (AS rfl rfl (NL (TN (SQ (BL (WC.loop1 (fun (t : List UInt8) => [(0, S t)]) (fun (t : List UInt8) w => t.length ≤ l.length ∧ vld l = vld t ∧ ∃ M, St w0 M0 M [] w ∧ Tabs M) (fun (t : List UInt8) => t.length) (l) ⟨rfl, trivial⟩ (⟨Nat.le_refl _, rfl, M0, H, hp⟩) ?_)))))))
  intro t w
  rintro ⟨htl, hv, M, H, hp⟩
  refine SQ (SQ (RG (MV rfl rfl (ST (Ex.lenStr Tryz.underlying9 rfl) rfl ?_))))
  refine WR.split (Ex.gtr rfl rfl) (Wn.none rfl) rfl rfl (fun h1_2 => ?_) (fun h1_2 => ?_)
  · have hne : t ≠ [] := by rintro rfl; simp at h1_2
    obtain ⟨c, hc⟩ : ∃ c, t[0]? = some c := ⟨_, List.getElem?_eq_getElem (by omega)⟩
    have hcn := nat_of hc
    have hclt := c.toNat_lt
    refine NL (TN (CT rfl (SK (TN (BL (SQ (RG (MV rfl rfl (ST (Ex.idxStr Tryz.underlying9 rfl rfl (hc)) rfl (AS rfl rfl (NL (TN (SQ (SQ (RG (MV rfl rfl ?_))))))))))))))))
    refine WR.split (Ex.lss rfl rfl) (Wn.none rfl) rfl rfl (fun h3_1 => ?_) (fun h3_1 => ?_)
    · have hc128 : nat t 0 < 128 := by omega
      refine NL (TN (CT rfl (SQ (RG (MV rfl rfl (WR.stepE (v' := S (t.drop 1)) (Ex.sliceStr (i := 1) (j := t.length) Tryz.underlying9 rfl (.inl ⟨_, rfl, rfl⟩) (.inr ⟨rfl, rfl⟩) (by omega) (by omega)) (by rw [List.take_length]) (Wn.none rfl) rfl rfl ?_))))))
      refine AS rfl rfl (NL (TN (SQ (SQ (RG ?_)))))
      obtain ⟨u, hu⟩ : ∃ u, u = t.drop 1 := ⟨_, rfl⟩
      rw [← hu]
      have hv1 := vld_ascii hne hc128
      rw [← hu] at hv1
      have hul : u.length = t.length - 1 := by rw [hu, List.length_drop]
      refine MV rfl rfl (ST (Ex.lenStr Tryz.underlying9 rfl) rfl ?_)
      refine WR.split (Ex.gtr rfl rfl) (Wn.none rfl) rfl rfl (fun h5_2 => ?_) (fun h5_2 => ?_)
      · refine MV rfl rfl (SG (Ex.move rfl) rfl rfl rfl (WR.call H (word_spec u (by omega)) rfl (trivial) (Wn.some rfl rfl rfl) rfl ?_))
        intro v21 M w H hle hr21
        replace hp := hp.mono hle
        obtain rfl := hr21
        refine WR.stepE (v' := .int .u64 ((w8 u) &&& 9259542123273814144 : Nat)) (Ex.andK (m := (w8 u)) (s := 9259542123273814144) rfl rfl (w8_lt u) (by decide)) (congrArg (Value.int .u64) (and64 (w8_lt u))) (Wn.some rfl rfl rfl) rfl rfl ?_
        refine WR.split (Ex.eql rfl rfl) (Wn.some rfl rfl rfl) rfl rfl (fun h5_7 => ?_) (fun h5_7 => ?_)
        · have h8 : ∀ i, i < 8 → nat u i < 128 := w8_small (x := 0) (by rw [Nat.or_zero]; omega)
          have hv8 := vld_asciis 8 u (by omega) h8
          refine PT rfl rfl rfl (NL (TN (CT rfl (SQ (RG (MV rfl rfl (WR.stepE (v' := S (u.drop 8)) (Ex.sliceStr (i := 8) (j := u.length) Tryz.underlying9 rfl (.inl ⟨_, rfl, rfl⟩) (.inr ⟨rfl, rfl⟩) (by omega) (by omega)) (by rw [List.take_length]) (Wn.none rfl) rfl rfl ?_)))))))
          obtain ⟨u2, hu2⟩ : ∃ u2, u2 = u.drop 8 := ⟨_, rfl⟩
          rw [← hu2]
          have hul2 : u2.length = u.length - 8 := by rw [hu2, List.length_drop]
          refine AS rfl rfl (NL (TN (SQ (WC.draw (m := 13) rfl rfl H ?_))))
          intro w H
          refine ON 0 (by kernel_rfl) rfl (MV rfl rfl (NA (ON 1 (by kernel_rfl) rfl (ST (Ex.lenStr Tryz.underlying9 rfl) rfl (NA (ON 2 (by kernel_rfl) rfl ?_))))))
          refine WR.split (Ex.gtr rfl rfl) (Wn.none rfl) rfl rfl (fun h7_2 => ?_) (fun h7_2 => ?_)
          · refine NA (ON 3 (by kernel_rfl) rfl (MV rfl rfl (NA (WA.take (i := 4) rfl (by kernel_rfl) (by kernel_rfl) (by kernel_rfl) (fun _ => Ex.move rfl) (Wn.some rfl rfl rfl) rfl rfl (fun _ _ => rfl) (WA.take (i := 6) rfl (by kernel_rfl) (by kernel_rfl) (by kernel_rfl) (fun _ => Ex.move rfl) (Wn.some rfl rfl rfl) rfl rfl (fun _ _ => rfl) (WA.takeE (v' := S (u2.drop 8)) (i := 7) rfl (by kernel_rfl) (by kernel_rfl) (by kernel_rfl) (fun _ => Ex.sliceStr (i := 8) (j := u2.length) Tryz.underlying9 rfl (.inl ⟨_, rfl, rfl⟩) (.inr ⟨rfl, rfl⟩) (by omega) (by omega)) (by rw [List.take_length]) (Wn.some rfl rfl rfl) rfl rfl (fun _ _ => rfl) ?_))))))
            refine ON 5 (by kernel_rfl) rfl (WR.call H (word_spec u2 (by omega)) rfl (trivial) (Wn.some rfl rfl rfl) rfl ?_)
            intro v32 M w H hle hr32
            replace hp := hp.mono hle
            obtain rfl := hr32
            refine NA (ON 8 (by kernel_rfl) rfl (WR.call H (word_spec (u2.drop 8) (by rw [List.length_drop]; omega)) rfl (trivial) (Wn.some rfl rfl rfl) rfl ?_))
            intro v35 M w H hle hr35
            replace hp := hp.mono hle
            obtain rfl := hr35
            refine NA (ON 9 (by kernel_rfl) rfl (WR.stepE (v' := .int .u64 ((w8 u2) ||| (w8 (u2.drop 8)) : Nat)) (Ex.orK (m := (w8 u2)) (s := (w8 (u2.drop 8))) rfl rfl (w8_lt u2) (w8_lt (u2.drop 8))) (congrArg (Value.int .u64) (or64 (w8_lt u2) (w8_lt (u2.drop 8)))) (Wn.some rfl rfl rfl) rfl rfl (NA (ON 10 (by kernel_rfl) rfl (WR.stepE (v' := .int .u64 ((w8 u2 ||| w8 (u2.drop 8)) &&& 9259542123273814144 : Nat)) (Ex.andK (m := (w8 u2 ||| w8 (u2.drop 8))) (s := 9259542123273814144) rfl rfl (Nat.or_lt_two_pow (w8_lt u2) (w8_lt (u2.drop 8))) (by decide)) (congrArg (Value.int .u64) (and64 (Nat.or_lt_two_pow (w8_lt u2) (w8_lt (u2.drop 8))))) (Wn.some rfl rfl rfl) rfl rfl (NA (ON 11 (by kernel_rfl) rfl ?_)))))))
            refine WR.split (Ex.eql rfl rfl) (Wn.some rfl rfl rfl) rfl rfl (fun h7_11 => ?_) (fun h7_11 => ?_)
            · have ha := w8_small (l := u2) (x := w8 (u2.drop 8)) (by omega)
              have hb := w8_small (l := u2.drop 8) (x := w8 u2) (by rw [Nat.or_comm]; omega)
              have hv16 := (vld_asciis 8 u2 (by omega) ha).trans (vld_asciis 8 (u2.drop 8) (by rw [List.length_drop]; omega) hb)
              rw [List.drop_drop] at hv16
              refine NA (ON 12 (by kernel_rfl) rfl (PT rfl rfl rfl (NA (WA.done (by kernel_rfl) (TN (CT rfl (SQ (RG (MV rfl rfl (WR.stepE (v' := S (u2.drop 16)) (Ex.sliceStr (i := 16) (j := u2.length) Tryz.underlying9 rfl (.inl ⟨_, rfl, rfl⟩) (.inr ⟨rfl, rfl⟩) (by omega) (by omega)) (by rw [List.take_length]) (Wn.none rfl) rfl rfl ?_))))))))))
              refine AS rfl rfl (NL (TN (BL (WC.loop1 (fun (x : List UInt8) => [(0, S x)]) (fun (x : List UInt8) w => x.length < t.length ∧ vld l = vld x ∧ ∃ M, St w0 M0 M [] w ∧ Tabs M) (fun (x : List UInt8) => x.length) (u2.drop 16) ⟨rfl, trivial⟩ (⟨by rw [List.length_drop, hu2, hu, List.length_drop, List.length_drop]; omega, by rw [hv, hv1, hv8, ← hu2, hv16], M, H, hp⟩) ?_))))
              intro x w
              rintro ⟨hxt, hvx, M, H, hp⟩
              refine SQ (SQ (WC.draw (m := 21) rfl rfl H ?_))
              intro w H
              refine ON 0 (by kernel_rfl) rfl (MV rfl rfl (NA (ON 1 (by kernel_rfl) rfl (ST (Ex.lenStr Tryz.underlying9 rfl) rfl (NA (ON 2 (by kernel_rfl) rfl ?_))))))
              refine WR.split (Ex.gtr rfl rfl) (Wn.none rfl) rfl rfl (fun h9_2 => ?_) (fun h9_2 => ?_)
              · refine NA (ON 3 (by kernel_rfl) rfl (MV rfl rfl (NA (WA.take (i := 4) rfl (by kernel_rfl) (by kernel_rfl) (by kernel_rfl) (fun _ => Ex.move rfl) (Wn.some rfl rfl rfl) rfl rfl (fun _ _ => rfl) (WA.take (i := 6) rfl (by kernel_rfl) (by kernel_rfl) (by kernel_rfl) (fun _ => Ex.move rfl) (Wn.some rfl rfl rfl) rfl rfl (fun _ _ => rfl) (WA.takeE (v' := S (x.drop 8)) (i := 7) rfl (by kernel_rfl) (by kernel_rfl) (by kernel_rfl) (fun _ => Ex.sliceStr (i := 8) (j := x.length) Tryz.underlying9 rfl (.inl ⟨_, rfl, rfl⟩) (.inr ⟨rfl, rfl⟩) (by omega) (by omega)) (by rw [List.take_length]) (Wn.some rfl rfl rfl) rfl rfl (fun _ _ => rfl) ?_))))))
                refine WA.take (i := 10) rfl (by kernel_rfl) (by kernel_rfl) (by kernel_rfl) (fun _ => Ex.move rfl) (Wn.some rfl rfl rfl) rfl rfl (fun _ _ => rfl) (WA.takeE (v' := S (x.drop 16)) (i := 11) rfl (by kernel_rfl) (by kernel_rfl) (by kernel_rfl) (fun _ => Ex.sliceStr (i := 16) (j := x.length) Tryz.underlying9 rfl (.inl ⟨_, rfl, rfl⟩) (.inr ⟨rfl, rfl⟩) (by omega) (by omega)) (by rw [List.take_length]) (Wn.some rfl rfl rfl) rfl rfl (fun _ _ => rfl) ?_)
                refine WA.take (i := 13) rfl (by kernel_rfl) (by kernel_rfl) (by kernel_rfl) (fun _ => Ex.move rfl) (Wn.some rfl rfl rfl) rfl rfl (fun _ _ => rfl) (WA.takeE (v' := S (x.drop 24)) (i := 14) rfl (by kernel_rfl) (by kernel_rfl) (by kernel_rfl) (fun _ => Ex.sliceStr (i := 24) (j := x.length) Tryz.underlying9 rfl (.inl ⟨_, rfl, rfl⟩) (.inr ⟨rfl, rfl⟩) (by omega) (by omega)) (by rw [List.take_length]) (Wn.some rfl rfl rfl) rfl rfl (fun _ _ => rfl) ?_)
                refine ON 5 (by kernel_rfl) rfl (WR.call H (word_spec x (by omega)) rfl (trivial) (Wn.some rfl rfl rfl) rfl ?_)
                intro v47 M w H hle hr47
                replace hp := hp.mono hle
                obtain rfl := hr47
                refine NA (ON 8 (by kernel_rfl) rfl (WR.call H (word_spec (x.drop 8) (by rw [List.length_drop]; omega)) rfl (trivial) (Wn.some rfl rfl rfl) rfl ?_))
                intro v50 M w H hle hr50
                replace hp := hp.mono hle
                obtain rfl := hr50
                refine NA (WA.takeE (v' := .int .u64 ((w8 x) ||| (w8 (x.drop 8)) : Nat)) (i := 9) rfl (by kernel_rfl) (by kernel_rfl) (by kernel_rfl) (fun _ => Ex.orK (m := (w8 x)) (s := (w8 (x.drop 8))) rfl rfl (w8_lt x) (w8_lt (x.drop 8))) (congrArg (Value.int .u64) (or64 (w8_lt x) (w8_lt (x.drop 8)))) (Wn.some rfl rfl rfl) rfl rfl (fun _ _ => rfl) (ON 12 (by kernel_rfl) rfl (WR.call H (word_spec (x.drop 16) (by rw [List.length_drop]; omega)) rfl (trivial) (Wn.some rfl rfl rfl) rfl ?_)))
                intro v54 M w H hle hr54
                replace hp := hp.mono hle
                obtain rfl := hr54
                refine NA (ON 15 (by kernel_rfl) rfl (WR.call H (word_spec (x.drop 24) (by rw [List.length_drop]; omega)) rfl (trivial) (Wn.some rfl rfl rfl) rfl ?_))
                intro v57 M w H hle hr57
                replace hp := hp.mono hle
                obtain rfl := hr57
                refine NA (ON 16 (by kernel_rfl) rfl (WR.stepE (v' := .int .u64 ((w8 (x.drop 16)) ||| (w8 (x.drop 24)) : Nat)) (Ex.orK (m := (w8 (x.drop 16))) (s := (w8 (x.drop 24))) rfl rfl (w8_lt (x.drop 16)) (w8_lt (x.drop 24))) (congrArg (Value.int .u64) (or64 (w8_lt (x.drop 16)) (w8_lt (x.drop 24)))) (Wn.some rfl rfl rfl) rfl rfl (NA (ON 17 (by kernel_rfl) rfl (WR.stepE (v' := .int .u64 ((w8 x ||| w8 (x.drop 8)) ||| (w8 (x.drop 16) ||| w8 (x.drop 24)) : Nat)) (Ex.orK (m := (w8 x ||| w8 (x.drop 8))) (s := (w8 (x.drop 16) ||| w8 (x.drop 24))) rfl rfl (Nat.or_lt_two_pow (w8_lt x) (w8_lt (x.drop 8))) (Nat.or_lt_two_pow (w8_lt (x.drop 16)) (w8_lt (x.drop 24)))) (congrArg (Value.int .u64) (or64 (Nat.or_lt_two_pow (w8_lt x) (w8_lt (x.drop 8))) (Nat.or_lt_two_pow (w8_lt (x.drop 16)) (w8_lt (x.drop 24))))) (Wn.some rfl rfl rfl) rfl rfl (NA (ON 18 (by kernel_rfl) rfl (WR.stepE (v' := .int .u64 (((w8 x ||| w8 (x.drop 8)) ||| (w8 (x.drop 16) ||| w8 (x.drop 24))) &&& 9259542123273814144 : Nat)) (Ex.andK (m := ((w8 x ||| w8 (x.drop 8)) ||| (w8 (x.drop 16) ||| w8 (x.drop 24)))) (s := 9259542123273814144) rfl rfl (Nat.or_lt_two_pow (Nat.or_lt_two_pow (w8_lt x) (w8_lt (x.drop 8))) (Nat.or_lt_two_pow (w8_lt (x.drop 16)) (w8_lt (x.drop 24)))) (by decide)) (congrArg (Value.int .u64) (and64 (Nat.or_lt_two_pow (Nat.or_lt_two_pow (w8_lt x) (w8_lt (x.drop 8))) (Nat.or_lt_two_pow (w8_lt (x.drop 16)) (w8_lt (x.drop 24)))))) (Wn.some rfl rfl rfl) rfl rfl ?_))))))))
                refine NA (ON 19 (by kernel_rfl) rfl ?_)
                refine WR.split (Ex.eql rfl rfl) (Wn.some rfl rfl rfl) rfl rfl (fun h9_19 => ?_) (fun h9_19 => ?_)
                · have h1 := w8_small (l := x) (x := w8 (x.drop 8) ||| (w8 (x.drop 16) ||| w8 (x.drop 24))) (by rw [← Nat.or_assoc]; omega)
                  have h2 := w8_small (l := x.drop 8) (x := w8 x ||| (w8 (x.drop 16) ||| w8 (x.drop 24))) (by rw [← Nat.or_assoc, Nat.or_comm (w8 (x.drop 8))]; omega)
                  have h3 := w8_small (l := x.drop 16) (x := w8 (x.drop 24) ||| (w8 x ||| w8 (x.drop 8))) (by rw [← Nat.or_assoc, Nat.or_comm (w8 (x.drop 16) ||| w8 (x.drop 24))]; omega)
                  have h4 := w8_small (l := x.drop 24) (x := w8 (x.drop 16) ||| (w8 x ||| w8 (x.drop 8))) (by rw [← Nat.or_assoc, Nat.or_comm (w8 (x.drop 24)), Nat.or_comm (w8 (x.drop 16) ||| w8 (x.drop 24))]; omega)
                  have hv32 := vld_32 (by omega) h1 h2 h3 h4
                  refine NA (ON 20 (by kernel_rfl) rfl (PT rfl rfl rfl (NA (WA.done (by kernel_rfl) (TN (CT rfl (SK (TN (BL (RG (MV rfl rfl (WR.stepE (v' := S (x.drop 32)) (Ex.sliceStr (i := 32) (j := x.length) Tryz.underlying9 rfl (.inl ⟨_, rfl, rfl⟩) (.inr ⟨rfl, rfl⟩) (by omega) (by omega)) (by rw [List.take_length]) (Wn.none rfl) rfl rfl ?_))))))))))))
                  refine AS rfl rfl (NL (IB ?_))
                  refine WQ.again1 (x.drop 32) ⟨rfl, trivial⟩ ?_ ?_
                  · exact ⟨by rw [List.length_drop]; omega, hvx.trans hv32, M, H, hp⟩
                  · rw [List.length_drop]; omega
                · refine NA (ON 20 (by kernel_rfl) rfl (PT rfl rfl rfl (NA (WA.done (by kernel_rfl) (TN (CF rfl (WC.exit (WQ.thenExit (WQ.thenExit (WQ.exitHere (TN (WC.exit (WQ.thenExit (WQ.exitHere ?_))))))))))))))
                  refine WQ.again1 (x) ⟨rfl, trivial⟩ ?_ ?_
                  · exact ⟨by omega, hvx, M, H.drop (List.nil_sublist _), hp⟩
                  · omega
              · refine NA (ON 3 (by kernel_rfl) rfl (MV rfl rfl (NA (WA.takeN (i := 4) rfl (by kernel_rfl) (by kernel_rfl) (by kernel_rfl) (wanted_g (b := false) rfl rfl rfl) rfl rfl (fun _ _ => rfl) (WA.takeN (i := 6) rfl (by kernel_rfl) (by kernel_rfl) (by kernel_rfl) (wanted_g (b := false) rfl rfl rfl) rfl rfl (fun _ _ => rfl) (WA.takeN (i := 7) rfl (by kernel_rfl) (by kernel_rfl) (by kernel_rfl) (wanted_g (b := false) rfl rfl rfl) rfl rfl (fun _ _ => rfl) (WA.takeN (i := 10) rfl (by kernel_rfl) (by kernel_rfl) (by kernel_rfl) (wanted_g (b := false) rfl rfl rfl) rfl rfl (fun _ _ => rfl) (WA.takeN (i := 11) rfl (by kernel_rfl) (by kernel_rfl) (by kernel_rfl) (wanted_g (b := false) rfl rfl rfl) rfl rfl (fun _ _ => rfl) (WA.takeN (i := 13) rfl (by kernel_rfl) (by kernel_rfl) (by kernel_rfl) (wanted_g (b := false) rfl rfl rfl) rfl rfl (fun _ _ => rfl) (WA.takeN (i := 14) rfl (by kernel_rfl) (by kernel_rfl) (by kernel_rfl) (wanted_g (b := false) rfl rfl rfl) rfl rfl (fun _ _ => rfl) ?_))))))))))
                refine ON 5 (by kernel_rfl) rfl (GF rfl rfl rfl (NA (ON 8 (by kernel_rfl) rfl (GF rfl rfl rfl (NA (WA.takeN (i := 9) rfl (by kernel_rfl) (by kernel_rfl) (by kernel_rfl) (wanted_g (b := false) rfl rfl rfl) rfl rfl (fun _ _ => rfl) (ON 12 (by kernel_rfl) rfl (GF rfl rfl rfl (NA (ON 15 (by kernel_rfl) rfl (GF rfl rfl rfl (NA (ON 16 (by kernel_rfl) rfl (GF rfl rfl rfl (NA (ON 17 (by kernel_rfl) rfl (GF rfl rfl rfl (NA (ON 18 (by kernel_rfl) rfl (GF rfl rfl rfl (NA (ON 19 (by kernel_rfl) rfl (GF rfl rfl rfl (NA (ON 20 (by kernel_rfl) rfl (PF rfl rfl rfl (NA (WA.done (by kernel_rfl) (TN (CF rfl (WC.exit (WQ.thenExit (WQ.thenExit (WQ.exitHere (TN (WC.exit (WQ.thenExit (WQ.exitHere ?_))))))))))))))))))))))))))))))))))))))
                refine WQ.again1 (x) ⟨rfl, trivial⟩ ?_ ?_
                · exact ⟨by omega, hvx, M, H.drop (List.nil_sublist _), hp⟩
                · omega
            · refine NA (ON 12 (by kernel_rfl) rfl (PT rfl rfl rfl (NA (WA.done (by kernel_rfl) (TN (CF rfl (SK (TN (WC.exit (WQ.thenExit (WQ.exitHere ?_)))))))))))
              refine WQ.again1 (u2) ⟨rfl, trivial⟩ ?_ ?_
              · exact ⟨by rw [hu2, hu, List.length_drop, List.length_drop]; omega, (by rw [hv, hv1, hv8, ← hu2]), M, H.drop (List.nil_sublist _), hp⟩
              · rw [hu2, hu, List.length_drop, List.length_drop]; omega
          · refine NA (ON 3 (by kernel_rfl) rfl (MV rfl rfl (NA (WA.takeN (i := 4) rfl (by kernel_rfl) (by kernel_rfl) (by kernel_rfl) (wanted_g (b := false) rfl rfl rfl) rfl rfl (fun _ _ => rfl) (WA.takeN (i := 6) rfl (by kernel_rfl) (by kernel_rfl) (by kernel_rfl) (wanted_g (b := false) rfl rfl rfl) rfl rfl (fun _ _ => rfl) (WA.takeN (i := 7) rfl (by kernel_rfl) (by kernel_rfl) (by kernel_rfl) (wanted_g (b := false) rfl rfl rfl) rfl rfl (fun _ _ => rfl) (ON 5 (by kernel_rfl) rfl (GF rfl rfl rfl (NA (ON 8 (by kernel_rfl) rfl (GF rfl rfl rfl (NA (ON 9 (by kernel_rfl) rfl (GF rfl rfl rfl (NA (ON 10 (by kernel_rfl) rfl (GF rfl rfl rfl (NA (ON 11 (by kernel_rfl) rfl (GF rfl rfl rfl (NA (ON 12 (by kernel_rfl) rfl (PF rfl rfl rfl (NA (WA.done (by kernel_rfl) (TN (CF rfl (SK (TN (WC.exit (WQ.thenExit (WQ.exitHere ?_))))))))))))))))))))))))))))))))
            refine WQ.again1 (u2) ⟨rfl, trivial⟩ ?_ ?_
            · exact ⟨by rw [hu2, hu, List.length_drop, List.length_drop]; omega, (by rw [hv, hv1, hv8, ← hu2]), M, H.drop (List.nil_sublist _), hp⟩
            · rw [hu2, hu, List.length_drop, List.length_drop]; omega
        · refine PT rfl rfl rfl (NL (TN (CF rfl (SK (TN (WC.exit (WQ.thenExit (WQ.exitHere ?_))))))))
          refine WQ.again1 (u) ⟨rfl, trivial⟩ ?_ ?_
          · exact ⟨by rw [hu, List.length_drop]; omega, (by rw [hv, hv1]), M, H.drop (List.nil_sublist _), hp⟩
          · rw [hu, List.length_drop]; omega
      · refine MV rfl rfl (GF rfl rfl rfl (GF rfl rfl rfl (GF rfl rfl rfl (GF rfl rfl rfl (PF rfl rfl rfl (NL (TN (CF rfl (SK (TN (WC.exit (WQ.thenExit (WQ.exitHere ?_)))))))))))))
        refine WQ.again1 (u) ⟨rfl, trivial⟩ ?_ ?_
        · exact ⟨by rw [hu, List.length_drop]; omega, (by rw [hv, hv1]), M, H.drop (List.nil_sublist _), hp⟩
        · rw [hu, List.length_drop]; omega
    · obtain ⟨sz, ai, lo, hi, hF, hsz, hai, hai16, hlo, hhi, hlo2, hhi2, hszs, hc1, hc2, hc3, hc4⟩ := first_facts c.toNat (by omega) (by omega)
      refine NL (TN (CF rfl (SK (TN (SQ (RG (MV rfl rfl (WR.stepE (v' := ptr 0 c.toNat) (Ex.idxArr Tryz.underlying121 Tryz.sizeOf5 rfl rfl (by omega)) (by rw [Nat.zero_add, Nat.mul_one]) (Wn.none rfl) rfl rfl ?_))))))))
      refine ST (Ex.loadCell rfl ((hp _ H.ag).1 c.toNat (by omega)) Tryz.isAgg5) rfl ?_
      refine AS rfl rfl (NL (TN (SQ (RG (MV rfl rfl (WR.stepE (v' := .int .u8 ((sz : Nat) : Int)) (Ex.andK (m := (Lib.firstT c.toNat)) (s := 7) rfl rfl (by show _ < 256; omega) (by decide)) (congrArg (Value.int .u8) (by rw [hsz]; exact u8_in (by omega))) (Wn.none rfl) rfl rfl ?_))))))
      first | refine WR.step (Ex.convB Tryz.underlying5 Tryz.underlying3 rfl) (Wn.none rfl) rfl rfl ?_ | refine WR.step (Ex.convI Tryz.underlying5 Tryz.underlying3 rfl (by omega)) (Wn.none rfl) rfl rfl ?_
      refine AS rfl rfl (NL (TN (SQ (RG (MV rfl rfl (WR.stepE (v' := .int .u8 ((ai : Nat) : Int)) (Ex.shrN (m := (Lib.firstT c.toNat)) (s := 4) rfl rfl (by first | (show _ ≤ 64; omega) | (show _ ≤ 8; omega) | decide)) (congrArg (Value.int .u8) (by rw [hai])) (Wn.none rfl) rfl rfl ?_))))))
      refine WR.stepE (v' := ptr 1 (2 * ai)) (Ex.idxArr Tryz.underlying124 Tryz.sizeOf123 rfl rfl (by omega)) (by rw [Nat.zero_add, Nat.mul_comm]) (Wn.none rfl) rfl rfl ?_
      refine ST (Ex.loadAggW (cs := [.int .u8 ((lo : Nat) : Int), .int .u8 ((hi : Nat) : Int)]) rfl (tab_acc (hp _ H.ag) hai16 hlo hhi) Tryz.isAgg123 Tryz.sizeOf123 rfl) rfl (WR.alloc [_, _] H Tryz.zeroValue123 rfl (Wn.none rfl) rfl ?_)
      intro b6 w H
      refine WR.store [_, _] H rfl rfl rfl (by repeat first | exact .head | apply Upd.tail) Tryz.sizeOf123 rfl (by rfl) (by rfl) (Wn.none rfl) ?_
      intro w H
      refine NL (TN (SQ (RG (MV rfl rfl (NL (TN (BL (SQ (RG ?_)))))))))
      refine WR.split (Ex.eql rfl rfl) (Wn.none rfl) rfl rfl (fun h16_0 => ?_) (fun h16_0 => ?_)
      · obtain ⟨hq1, hq2, hq3, hq4⟩ := hc2 (by omega)
        have hm := multi2 (t := t) (by rw [hcn]; exact ⟨hq1, hq2⟩)
        subst hq3 hq4
        refine AS rfl rfl (NL (TN (CT rfl (SQ (SQ (WC.draw (m := 17) rfl rfl H ?_))))))
        intro w H
        refine ON 0 (by kernel_rfl) rfl (MV rfl rfl (NA (ON 1 (by kernel_rfl) rfl (ST (Ex.lenStr Tryz.underlying9 rfl) rfl (NA (ON 2 (by kernel_rfl) rfl ?_))))))
        refine WR.split (Ex.lss rfl rfl) (Wn.none rfl) rfl rfl (fun h17_2 => ?_) (fun h17_2 => ?_)
        · have hbad := vld_bad hne (hm.2 (by omega))
          refine NA (ON 3 (by kernel_rfl) rfl (MV rfl rfl (NA (WA.takeN (i := 4) rfl (by kernel_rfl) (by kernel_rfl) (by kernel_rfl) (wanted_g (b := true) rfl rfl rfl) rfl rfl (fun _ _ => rfl) (WA.takeN (i := 5) rfl (by kernel_rfl) (by kernel_rfl) (by kernel_rfl) (wanted_g (b := true) rfl rfl rfl) rfl rfl (fun _ _ => rfl) (ON 6 (by kernel_rfl) rfl (GT rfl rfl rfl (NA (ON 7 (by kernel_rfl) rfl (GT rfl rfl rfl (NA (ON 8 (by kernel_rfl) rfl (GT rfl rfl rfl (NA (ON 9 (by kernel_rfl) rfl (PT rfl rfl rfl (NA (ON 10 (by kernel_rfl) rfl (MV rfl rfl (NA (WA.takeN (i := 11) rfl (by kernel_rfl) (by kernel_rfl) (by kernel_rfl) (wanted_g (b := true) rfl rfl rfl) rfl rfl (fun _ _ => rfl) (WA.takeN (i := 12) rfl (by kernel_rfl) (by kernel_rfl) (by kernel_rfl) (wanted_g (b := true) rfl rfl rfl) rfl rfl (fun _ _ => rfl) (ON 13 (by kernel_rfl) rfl (GT rfl rfl rfl (NA (ON 14 (by kernel_rfl) rfl (GT rfl rfl rfl ?_)))))))))))))))))))))))))))
          refine NA (ON 15 (by kernel_rfl) rfl (GT rfl rfl rfl (NA (ON 16 (by kernel_rfl) rfl (PT rfl rfl rfl (NA (WA.done (by kernel_rfl) (TN (CT rfl (SQ (RG (AS rfl rfl (NL (TN (RT ?_)))))))))))))))
          refine WQ.ret1 rfl rfl H.ext ?_
          exact by rw [hv, hbad]
        · obtain ⟨x1, hx1⟩ : ∃ x, t[1]? = some x := ⟨_, List.getElem?_eq_getElem (by omega)⟩
          have hnx1 := nat_of hx1
          have hxl1 := x1.toNat_lt
          refine NA (ON 3 (by kernel_rfl) rfl (MV rfl rfl (NA (WA.take (i := 4) rfl (by kernel_rfl) (by kernel_rfl) (by kernel_rfl) (fun _ => Ex.move rfl) (Wn.some rfl rfl rfl) rfl rfl (fun _ _ => rfl) (WA.take (i := 5) rfl (by kernel_rfl) (by kernel_rfl) (by kernel_rfl) (fun _ => Ex.idxStr Tryz.underlying9 rfl rfl (hx1)) (Wn.some rfl rfl rfl) rfl rfl (fun _ _ => rfl) (ON 6 (by kernel_rfl) rfl (SG (Ex.fieldAddr Tryz.underlying123 rfl Tryz.sizeOf5 (by decide) rfl) rfl rfl rfl (NA (ON 7 (by kernel_rfl) rfl ?_)))))))))
          first | refine WR.step (Ex.loadM H rfl (by assumption) Tryz.isAgg5) (Wn.some rfl rfl rfl) rfl rfl ?_ | refine WR.step (Ex.load1 H rfl (by repeat first | exact kMh | apply kMt) Tryz.isAgg5 (by rfl)) (Wn.some rfl rfl rfl) rfl rfl ?_
          refine NA (ON 8 (by kernel_rfl) rfl ?_)
          refine WR.split (Ex.lss rfl rfl) (Wn.some rfl rfl rfl) rfl rfl (fun h17_8 => ?_) (fun h17_8 => ?_)
          · have hbad := vld_bad hne (hm.2 (by omega))
            refine NA (ON 9 (by kernel_rfl) rfl (PF rfl rfl rfl (NA (ON 10 (by kernel_rfl) rfl (MV rfl rfl (NA (WA.takeN (i := 11) rfl (by kernel_rfl) (by kernel_rfl) (by kernel_rfl) (wanted_g (b := true) rfl rfl rfl) rfl rfl (fun _ _ => rfl) (WA.takeN (i := 12) rfl (by kernel_rfl) (by kernel_rfl) (by kernel_rfl) (wanted_g (b := true) rfl rfl rfl) rfl rfl (fun _ _ => rfl) (ON 13 (by kernel_rfl) rfl (GT rfl rfl rfl (NA (ON 14 (by kernel_rfl) rfl (GT rfl rfl rfl (NA (ON 15 (by kernel_rfl) rfl (GT rfl rfl rfl (NA (ON 16 (by kernel_rfl) rfl (PT rfl rfl rfl (NA (WA.done (by kernel_rfl) (TN (CT rfl (SQ (RG (AS rfl rfl (NL (TN (RT ?_)))))))))))))))))))))))))))))
            refine WQ.ret1 rfl rfl H.ext ?_
            exact by rw [hv, hbad]
          · refine NA (ON 9 (by kernel_rfl) rfl (PF rfl rfl rfl (NA (ON 10 (by kernel_rfl) rfl (MV rfl rfl (NA (WA.take (i := 11) rfl (by kernel_rfl) (by kernel_rfl) (by kernel_rfl) (fun _ => Ex.fieldAddr Tryz.underlying123 rfl Tryz.sizeOf5 (by decide) rfl) (Wn.some rfl rfl rfl) rfl rfl (fun _ _ => rfl) (WA.take (i := 13) rfl (by kernel_rfl) (by kernel_rfl) (by kernel_rfl) (fun _ => Ex.move rfl) (Wn.some rfl rfl rfl) rfl rfl (fun _ _ => rfl) (WA.take (i := 14) rfl (by kernel_rfl) (by kernel_rfl) (by kernel_rfl) (fun _ => Ex.idxStr Tryz.underlying9 rfl rfl (hx1)) (Wn.some rfl rfl rfl) rfl rfl (fun _ _ => rfl) (ON 12 (by kernel_rfl) rfl ?_))))))))))
            first | refine WR.step (Ex.loadM H rfl (by assumption) Tryz.isAgg5) (Wn.some rfl rfl rfl) rfl rfl ?_ | refine WR.step (Ex.load1 H rfl (by repeat first | exact kMh | apply kMt) Tryz.isAgg5 (by rfl)) (Wn.some rfl rfl rfl) rfl rfl ?_
            refine NA (ON 15 (by kernel_rfl) rfl ?_)
            refine WR.split (Ex.lss rfl rfl) (Wn.some rfl rfl rfl) rfl rfl (fun h17_15 => ?_) (fun h17_15 => ?_)
            · have hbad := vld_bad hne (hm.2 (by omega))
              refine NA (ON 16 (by kernel_rfl) rfl (PF rfl rfl rfl (NA (WA.done (by kernel_rfl) (TN (CT rfl (SQ (RG (AS rfl rfl (NL (TN (RT ?_))))))))))))
              refine WQ.ret1 rfl rfl H.ext ?_
              exact by rw [hv, hbad]
            · refine NA (ON 16 (by kernel_rfl) rfl (PF rfl rfl rfl (NA (WA.done (by kernel_rfl) (TN (CF rfl (SK (TN (RG (MV rfl rfl (WR.stepE (v' := S (t.drop 2)) (Ex.sliceStr (i := 2) (j := t.length) Tryz.underlying9 rfl (.inl ⟨_, rfl, rfl⟩) (.inr ⟨rfl, rfl⟩) (by omega) (by omega)) (by rw [List.take_length]) (Wn.none rfl) rfl rfl ?_)))))))))))
              refine AS rfl rfl (NL (IB (IB ?_)))
              refine WQ.again1 (t.drop 2) ⟨rfl, trivial⟩ ?_ ?_
              · exact ⟨by rw [List.length_drop]; omega, by rw [hv]; exact vld_good hne (hm.1 (by omega)), M, H.drop (List.nil_sublist _), hp⟩
              · rw [List.length_drop]; omega
      · refine AS rfl rfl (NL (TN (CF rfl (SQ (RG ?_)))))
        refine WR.split (Ex.eql rfl rfl) (Wn.none rfl) rfl rfl (fun h20_0 => ?_) (fun h20_0 => ?_)
        · obtain ⟨hq1, hq2, hq3, hq4⟩ := hc3 (by omega)
          have hm := multi3 (t := t) (lo := lo) (hi := hi) (by rw [hcn]; exact ⟨hq1, hq2⟩) (by rw [hcn]; exact hq3) (by rw [hcn]; exact hq4)
          refine AS rfl rfl (NL (TN (CT rfl (SQ (SQ (WC.draw (m := 27) rfl rfl H ?_))))))
          intro w H
          refine ON 0 (by kernel_rfl) rfl (MV rfl rfl (NA (ON 1 (by kernel_rfl) rfl (ST (Ex.lenStr Tryz.underlying9 rfl) rfl (NA (ON 2 (by kernel_rfl) rfl ?_))))))
          refine WR.split (Ex.lss rfl rfl) (Wn.none rfl) rfl rfl (fun h21_2 => ?_) (fun h21_2 => ?_)
          · have hbad := vld_bad hne (hm.2 (by omega))
            refine NA (ON 3 (by kernel_rfl) rfl (MV rfl rfl (NA (WA.takeN (i := 4) rfl (by kernel_rfl) (by kernel_rfl) (by kernel_rfl) (wanted_g (b := true) rfl rfl rfl) rfl rfl (fun _ _ => rfl) (WA.takeN (i := 5) rfl (by kernel_rfl) (by kernel_rfl) (by kernel_rfl) (wanted_g (b := true) rfl rfl rfl) rfl rfl (fun _ _ => rfl) (ON 6 (by kernel_rfl) rfl (GT rfl rfl rfl (NA (ON 7 (by kernel_rfl) rfl (GT rfl rfl rfl (NA (ON 8 (by kernel_rfl) rfl (GT rfl rfl rfl (NA (ON 9 (by kernel_rfl) rfl (PT rfl rfl rfl (NA (ON 10 (by kernel_rfl) rfl (MV rfl rfl (NA (WA.takeN (i := 11) rfl (by kernel_rfl) (by kernel_rfl) (by kernel_rfl) (wanted_g (b := true) rfl rfl rfl) rfl rfl (fun _ _ => rfl) (WA.takeN (i := 12) rfl (by kernel_rfl) (by kernel_rfl) (by kernel_rfl) (wanted_g (b := true) rfl rfl rfl) rfl rfl (fun _ _ => rfl) (ON 13 (by kernel_rfl) rfl (GT rfl rfl rfl (NA (ON 14 (by kernel_rfl) rfl (GT rfl rfl rfl ?_)))))))))))))))))))))))))))
            refine NA (ON 15 (by kernel_rfl) rfl (GT rfl rfl rfl (NA (ON 16 (by kernel_rfl) rfl (PT rfl rfl rfl (NA (ON 17 (by kernel_rfl) rfl (MV rfl rfl (NA (ON 18 (by kernel_rfl) rfl (GT rfl rfl rfl (NA (ON 19 (by kernel_rfl) rfl (GT rfl rfl rfl (NA (ON 20 (by kernel_rfl) rfl (GT rfl rfl rfl (NA (ON 21 (by kernel_rfl) rfl (PT rfl rfl rfl (NA (ON 22 (by kernel_rfl) rfl (MV rfl rfl (NA (ON 23 (by kernel_rfl) rfl (GT rfl rfl rfl (NA (ON 24 (by kernel_rfl) rfl (GT rfl rfl rfl (NA (ON 25 (by kernel_rfl) rfl (GT rfl rfl rfl (NA (ON 26 (by kernel_rfl) rfl (PT rfl rfl rfl (NA (WA.done (by kernel_rfl) (TN (CT rfl (SQ (RG (AS rfl rfl (NL (TN (RT ?_)))))))))))))))))))))))))))))))))))))))))))))
            refine WQ.ret1 rfl rfl H.ext ?_
            exact by rw [hv, hbad]
          · obtain ⟨x1, hx1⟩ : ∃ x, t[1]? = some x := ⟨_, List.getElem?_eq_getElem (by omega)⟩
            have hnx1 := nat_of hx1
            have hxl1 := x1.toNat_lt
            obtain ⟨x2, hx2⟩ : ∃ x, t[2]? = some x := ⟨_, List.getElem?_eq_getElem (by omega)⟩
            have hnx2 := nat_of hx2
            have hxl2 := x2.toNat_lt
            refine NA (ON 3 (by kernel_rfl) rfl (MV rfl rfl (NA (WA.take (i := 4) rfl (by kernel_rfl) (by kernel_rfl) (by kernel_rfl) (fun _ => Ex.move rfl) (Wn.some rfl rfl rfl) rfl rfl (fun _ _ => rfl) (WA.take (i := 5) rfl (by kernel_rfl) (by kernel_rfl) (by kernel_rfl) (fun _ => Ex.idxStr Tryz.underlying9 rfl rfl (hx1)) (Wn.some rfl rfl rfl) rfl rfl (fun _ _ => rfl) (ON 6 (by kernel_rfl) rfl (SG (Ex.fieldAddr Tryz.underlying123 rfl Tryz.sizeOf5 (by decide) rfl) rfl rfl rfl (NA (ON 7 (by kernel_rfl) rfl ?_)))))))))
            first | refine WR.step (Ex.loadM H rfl (by assumption) Tryz.isAgg5) (Wn.some rfl rfl rfl) rfl rfl ?_ | refine WR.step (Ex.load1 H rfl (by repeat first | exact kMh | apply kMt) Tryz.isAgg5 (by rfl)) (Wn.some rfl rfl rfl) rfl rfl ?_
            refine NA (ON 8 (by kernel_rfl) rfl ?_)
            refine WR.split (Ex.lss rfl rfl) (Wn.some rfl rfl rfl) rfl rfl (fun h21_8 => ?_) (fun h21_8 => ?_)
            · have hbad := vld_bad hne (hm.2 (by omega))
              refine NA (ON 9 (by kernel_rfl) rfl (PF rfl rfl rfl (NA (ON 10 (by kernel_rfl) rfl (MV rfl rfl (NA (WA.takeN (i := 11) rfl (by kernel_rfl) (by kernel_rfl) (by kernel_rfl) (wanted_g (b := true) rfl rfl rfl) rfl rfl (fun _ _ => rfl) (WA.takeN (i := 12) rfl (by kernel_rfl) (by kernel_rfl) (by kernel_rfl) (wanted_g (b := true) rfl rfl rfl) rfl rfl (fun _ _ => rfl) (ON 13 (by kernel_rfl) rfl (GT rfl rfl rfl (NA (ON 14 (by kernel_rfl) rfl (GT rfl rfl rfl (NA (ON 15 (by kernel_rfl) rfl (GT rfl rfl rfl (NA (ON 16 (by kernel_rfl) rfl (PT rfl rfl rfl (NA (ON 17 (by kernel_rfl) rfl (MV rfl rfl (NA (ON 18 (by kernel_rfl) rfl (GT rfl rfl rfl (NA (ON 19 (by kernel_rfl) rfl (GT rfl rfl rfl (NA (ON 20 (by kernel_rfl) rfl (GT rfl rfl rfl (NA (ON 21 (by kernel_rfl) rfl (PT rfl rfl rfl (NA (ON 22 (by kernel_rfl) rfl (MV rfl rfl (NA (ON 23 (by kernel_rfl) rfl (GT rfl rfl rfl ?_))))))))))))))))))))))))))))))))))))))))
              refine NA (ON 24 (by kernel_rfl) rfl (GT rfl rfl rfl (NA (ON 25 (by kernel_rfl) rfl (GT rfl rfl rfl (NA (ON 26 (by kernel_rfl) rfl (PT rfl rfl rfl (NA (WA.done (by kernel_rfl) (TN (CT rfl (SQ (RG (AS rfl rfl (NL (TN (RT ?_))))))))))))))))))
              refine WQ.ret1 rfl rfl H.ext ?_
              exact by rw [hv, hbad]
            · refine NA (ON 9 (by kernel_rfl) rfl (PF rfl rfl rfl (NA (ON 10 (by kernel_rfl) rfl (MV rfl rfl (NA (WA.take (i := 11) rfl (by kernel_rfl) (by kernel_rfl) (by kernel_rfl) (fun _ => Ex.fieldAddr Tryz.underlying123 rfl Tryz.sizeOf5 (by decide) rfl) (Wn.some rfl rfl rfl) rfl rfl (fun _ _ => rfl) (WA.take (i := 13) rfl (by kernel_rfl) (by kernel_rfl) (by kernel_rfl) (fun _ => Ex.move rfl) (Wn.some rfl rfl rfl) rfl rfl (fun _ _ => rfl) (WA.take (i := 14) rfl (by kernel_rfl) (by kernel_rfl) (by kernel_rfl) (fun _ => Ex.idxStr Tryz.underlying9 rfl rfl (hx1)) (Wn.some rfl rfl rfl) rfl rfl (fun _ _ => rfl) (ON 12 (by kernel_rfl) rfl ?_))))))))))
              first | refine WR.step (Ex.loadM H rfl (by assumption) Tryz.isAgg5) (Wn.some rfl rfl rfl) rfl rfl ?_ | refine WR.step (Ex.load1 H rfl (by repeat first | exact kMh | apply kMt) Tryz.isAgg5 (by rfl)) (Wn.some rfl rfl rfl) rfl rfl ?_
              refine NA (ON 15 (by kernel_rfl) rfl ?_)
              refine WR.split (Ex.lss rfl rfl) (Wn.some rfl rfl rfl) rfl rfl (fun h21_15 => ?_) (fun h21_15 => ?_)
              · have hbad := vld_bad hne (hm.2 (by omega))
                refine NA (ON 16 (by kernel_rfl) rfl (PF rfl rfl rfl (NA (ON 17 (by kernel_rfl) rfl (MV rfl rfl (NA (ON 18 (by kernel_rfl) rfl (GT rfl rfl rfl (NA (ON 19 (by kernel_rfl) rfl (GT rfl rfl rfl (NA (ON 20 (by kernel_rfl) rfl (GT rfl rfl rfl (NA (ON 21 (by kernel_rfl) rfl (PT rfl rfl rfl (NA (ON 22 (by kernel_rfl) rfl (MV rfl rfl (NA (ON 23 (by kernel_rfl) rfl (GT rfl rfl rfl (NA (ON 24 (by kernel_rfl) rfl (GT rfl rfl rfl (NA (ON 25 (by kernel_rfl) rfl (GT rfl rfl rfl (NA (ON 26 (by kernel_rfl) rfl (PT rfl rfl rfl (NA (WA.done (by kernel_rfl) (TN (CT rfl (SQ (RG (AS rfl rfl (NL (TN (RT ?_))))))))))))))))))))))))))))))))))))))))))
                refine WQ.ret1 rfl rfl H.ext ?_
                exact by rw [hv, hbad]
              · refine NA (ON 16 (by kernel_rfl) rfl (PF rfl rfl rfl (NA (ON 17 (by kernel_rfl) rfl (MV rfl rfl (NA (ON 18 (by kernel_rfl) rfl (SG (Ex.move rfl) rfl rfl rfl (NA (ON 19 (by kernel_rfl) rfl (SG (Ex.idxStr Tryz.underlying9 rfl rfl (hx2)) rfl rfl rfl (NA (ON 20 (by kernel_rfl) rfl ?_)))))))))))))
                refine WR.split (Ex.lss rfl rfl) (Wn.some rfl rfl rfl) rfl rfl (fun h21_20 => ?_) (fun h21_20 => ?_)
                · have hbad := vld_bad hne (hm.2 (by omega))
                  refine NA (ON 21 (by kernel_rfl) rfl (PF rfl rfl rfl (NA (ON 22 (by kernel_rfl) rfl (MV rfl rfl (NA (ON 23 (by kernel_rfl) rfl (GT rfl rfl rfl (NA (ON 24 (by kernel_rfl) rfl (GT rfl rfl rfl (NA (ON 25 (by kernel_rfl) rfl (GT rfl rfl rfl (NA (ON 26 (by kernel_rfl) rfl (PT rfl rfl rfl (NA (WA.done (by kernel_rfl) (TN (CT rfl (SQ (RG (AS rfl rfl (NL (TN (RT ?_)))))))))))))))))))))))))))
                  refine WQ.ret1 rfl rfl H.ext ?_
                  exact by rw [hv, hbad]
                · refine NA (ON 21 (by kernel_rfl) rfl (PF rfl rfl rfl (NA (ON 22 (by kernel_rfl) rfl (MV rfl rfl (NA (ON 23 (by kernel_rfl) rfl (SG (Ex.move rfl) rfl rfl rfl (NA (ON 24 (by kernel_rfl) rfl (SG (Ex.idxStr Tryz.underlying9 rfl rfl (hx2)) rfl rfl rfl (NA (ON 25 (by kernel_rfl) rfl ?_)))))))))))))
                  refine WR.split (Ex.lss rfl rfl) (Wn.some rfl rfl rfl) rfl rfl (fun h21_25 => ?_) (fun h21_25 => ?_)
                  · have hbad := vld_bad hne (hm.2 (by omega))
                    refine NA (ON 26 (by kernel_rfl) rfl (PF rfl rfl rfl (NA (WA.done (by kernel_rfl) (TN (CT rfl (SQ (RG (AS rfl rfl (NL (TN (RT ?_))))))))))))
                    refine WQ.ret1 rfl rfl H.ext ?_
                    exact by rw [hv, hbad]
                  · refine NA (ON 26 (by kernel_rfl) rfl (PF rfl rfl rfl (NA (WA.done (by kernel_rfl) (TN (CF rfl (SK (TN (RG (MV rfl rfl (WR.stepE (v' := S (t.drop 3)) (Ex.sliceStr (i := 3) (j := t.length) Tryz.underlying9 rfl (.inl ⟨_, rfl, rfl⟩) (.inr ⟨rfl, rfl⟩) (by omega) (by omega)) (by rw [List.take_length]) (Wn.none rfl) rfl rfl ?_)))))))))))
                    refine AS rfl rfl (NL (IB (IB ?_)))
                    refine WQ.again1 (t.drop 3) ⟨rfl, trivial⟩ ?_ ?_
                    · exact ⟨by rw [List.length_drop]; omega, by rw [hv]; exact vld_good hne (hm.1 (by omega)), M, H.drop (List.nil_sublist _), hp⟩
                    · rw [List.length_drop]; omega
        · refine AS rfl rfl (NL (TN (CF rfl (SQ (RG ?_)))))
          refine WR.split (Ex.eql rfl rfl) (Wn.none rfl) rfl rfl (fun h24_0 => ?_) (fun h24_0 => ?_)
          · obtain ⟨hq1, hq2, hq3, hq4⟩ := hc4 (by omega)
            have hm := multi4 (t := t) (lo := lo) (hi := hi) (by rw [hcn]; exact ⟨hq1, hq2⟩) (by rw [hcn]; exact hq3) (by rw [hcn]; exact hq4)
            refine AS rfl rfl (NL (TN (CT rfl (SQ (SQ (WC.draw (m := 37) rfl rfl H ?_))))))
            intro w H
            refine ON 0 (by kernel_rfl) rfl (MV rfl rfl (NA (ON 1 (by kernel_rfl) rfl (ST (Ex.lenStr Tryz.underlying9 rfl) rfl (NA (ON 2 (by kernel_rfl) rfl ?_))))))
            refine WR.split (Ex.lss rfl rfl) (Wn.none rfl) rfl rfl (fun h25_2 => ?_) (fun h25_2 => ?_)
            · have hbad := vld_bad hne (hm.2 (by omega))
              refine NA (ON 3 (by kernel_rfl) rfl (MV rfl rfl (NA (WA.takeN (i := 4) rfl (by kernel_rfl) (by kernel_rfl) (by kernel_rfl) (wanted_g (b := true) rfl rfl rfl) rfl rfl (fun _ _ => rfl) (WA.takeN (i := 5) rfl (by kernel_rfl) (by kernel_rfl) (by kernel_rfl) (wanted_g (b := true) rfl rfl rfl) rfl rfl (fun _ _ => rfl) (ON 6 (by kernel_rfl) rfl (GT rfl rfl rfl (NA (ON 7 (by kernel_rfl) rfl (GT rfl rfl rfl (NA (ON 8 (by kernel_rfl) rfl (GT rfl rfl rfl (NA (ON 9 (by kernel_rfl) rfl (PT rfl rfl rfl (NA (ON 10 (by kernel_rfl) rfl (MV rfl rfl (NA (WA.takeN (i := 11) rfl (by kernel_rfl) (by kernel_rfl) (by kernel_rfl) (wanted_g (b := true) rfl rfl rfl) rfl rfl (fun _ _ => rfl) (WA.takeN (i := 12) rfl (by kernel_rfl) (by kernel_rfl) (by kernel_rfl) (wanted_g (b := true) rfl rfl rfl) rfl rfl (fun _ _ => rfl) (ON 13 (by kernel_rfl) rfl (GT rfl rfl rfl (NA (ON 14 (by kernel_rfl) rfl (GT rfl rfl rfl ?_)))))))))))))))))))))))))))
              refine NA (ON 15 (by kernel_rfl) rfl (GT rfl rfl rfl (NA (ON 16 (by kernel_rfl) rfl (PT rfl rfl rfl (NA (ON 17 (by kernel_rfl) rfl (MV rfl rfl (NA (ON 18 (by kernel_rfl) rfl (GT rfl rfl rfl (NA (ON 19 (by kernel_rfl) rfl (GT rfl rfl rfl (NA (ON 20 (by kernel_rfl) rfl (GT rfl rfl rfl (NA (ON 21 (by kernel_rfl) rfl (PT rfl rfl rfl (NA (ON 22 (by kernel_rfl) rfl (MV rfl rfl (NA (ON 23 (by kernel_rfl) rfl (GT rfl rfl rfl (NA (ON 24 (by kernel_rfl) rfl (GT rfl rfl rfl (NA (ON 25 (by kernel_rfl) rfl (GT rfl rfl rfl (NA (ON 26 (by kernel_rfl) rfl (PT rfl rfl rfl (NA (ON 27 (by kernel_rfl) rfl (MV rfl rfl (NA (ON 28 (by kernel_rfl) rfl (GT rfl rfl rfl (NA (ON 29 (by kernel_rfl) rfl (GT rfl rfl rfl (NA (ON 30 (by kernel_rfl) rfl (GT rfl rfl rfl (NA (ON 31 (by kernel_rfl) rfl (PT rfl rfl rfl (NA (ON 32 (by kernel_rfl) rfl (MV rfl rfl (NA (ON 33 (by kernel_rfl) rfl ?_)))))))))))))))))))))))))))))))))))))))))))))))))))))))
              refine GT rfl rfl rfl (NA (ON 34 (by kernel_rfl) rfl (GT rfl rfl rfl (NA (ON 35 (by kernel_rfl) rfl (GT rfl rfl rfl (NA (ON 36 (by kernel_rfl) rfl (PT rfl rfl rfl (NA (WA.done (by kernel_rfl) (TN (CT rfl (SQ (RG (AS rfl rfl (NL (TN (RT ?_)))))))))))))))))))
              refine WQ.ret1 rfl rfl H.ext ?_
              exact by rw [hv, hbad]
            · obtain ⟨x1, hx1⟩ : ∃ x, t[1]? = some x := ⟨_, List.getElem?_eq_getElem (by omega)⟩
              have hnx1 := nat_of hx1
              have hxl1 := x1.toNat_lt
              obtain ⟨x2, hx2⟩ : ∃ x, t[2]? = some x := ⟨_, List.getElem?_eq_getElem (by omega)⟩
              have hnx2 := nat_of hx2
              have hxl2 := x2.toNat_lt
              obtain ⟨x3, hx3⟩ : ∃ x, t[3]? = some x := ⟨_, List.getElem?_eq_getElem (by omega)⟩
              have hnx3 := nat_of hx3
              have hxl3 := x3.toNat_lt
              refine NA (ON 3 (by kernel_rfl) rfl (MV rfl rfl (NA (WA.take (i := 4) rfl (by kernel_rfl) (by kernel_rfl) (by kernel_rfl) (fun _ => Ex.move rfl) (Wn.some rfl rfl rfl) rfl rfl (fun _ _ => rfl) (WA.take (i := 5) rfl (by kernel_rfl) (by kernel_rfl) (by kernel_rfl) (fun _ => Ex.idxStr Tryz.underlying9 rfl rfl (hx1)) (Wn.some rfl rfl rfl) rfl rfl (fun _ _ => rfl) (ON 6 (by kernel_rfl) rfl (SG (Ex.fieldAddr Tryz.underlying123 rfl Tryz.sizeOf5 (by decide) rfl) rfl rfl rfl (NA (ON 7 (by kernel_rfl) rfl ?_)))))))))
              first | refine WR.step (Ex.loadM H rfl (by assumption) Tryz.isAgg5) (Wn.some rfl rfl rfl) rfl rfl ?_ | refine WR.step (Ex.load1 H rfl (by repeat first | exact kMh | apply kMt) Tryz.isAgg5 (by rfl)) (Wn.some rfl rfl rfl) rfl rfl ?_
              refine NA (ON 8 (by kernel_rfl) rfl ?_)
              refine WR.split (Ex.lss rfl rfl) (Wn.some rfl rfl rfl) rfl rfl (fun h25_8 => ?_) (fun h25_8 => ?_)
              · have hbad := vld_bad hne (hm.2 (by omega))
                refine NA (ON 9 (by kernel_rfl) rfl (PF rfl rfl rfl (NA (ON 10 (by kernel_rfl) rfl (MV rfl rfl (NA (WA.takeN (i := 11) rfl (by kernel_rfl) (by kernel_rfl) (by kernel_rfl) (wanted_g (b := true) rfl rfl rfl) rfl rfl (fun _ _ => rfl) (WA.takeN (i := 12) rfl (by kernel_rfl) (by kernel_rfl) (by kernel_rfl) (wanted_g (b := true) rfl rfl rfl) rfl rfl (fun _ _ => rfl) (ON 13 (by kernel_rfl) rfl (GT rfl rfl rfl (NA (ON 14 (by kernel_rfl) rfl (GT rfl rfl rfl (NA (ON 15 (by kernel_rfl) rfl (GT rfl rfl rfl (NA (ON 16 (by kernel_rfl) rfl (PT rfl rfl rfl (NA (ON 17 (by kernel_rfl) rfl (MV rfl rfl (NA (ON 18 (by kernel_rfl) rfl (GT rfl rfl rfl (NA (ON 19 (by kernel_rfl) rfl (GT rfl rfl rfl (NA (ON 20 (by kernel_rfl) rfl (GT rfl rfl rfl (NA (ON 21 (by kernel_rfl) rfl (PT rfl rfl rfl (NA (ON 22 (by kernel_rfl) rfl (MV rfl rfl (NA (ON 23 (by kernel_rfl) rfl (GT rfl rfl rfl ?_))))))))))))))))))))))))))))))))))))))))
                refine NA (ON 24 (by kernel_rfl) rfl (GT rfl rfl rfl (NA (ON 25 (by kernel_rfl) rfl (GT rfl rfl rfl (NA (ON 26 (by kernel_rfl) rfl (PT rfl rfl rfl (NA (ON 27 (by kernel_rfl) rfl (MV rfl rfl (NA (ON 28 (by kernel_rfl) rfl (GT rfl rfl rfl (NA (ON 29 (by kernel_rfl) rfl (GT rfl rfl rfl (NA (ON 30 (by kernel_rfl) rfl (GT rfl rfl rfl (NA (ON 31 (by kernel_rfl) rfl (PT rfl rfl rfl (NA (ON 32 (by kernel_rfl) rfl (MV rfl rfl (NA (ON 33 (by kernel_rfl) rfl (GT rfl rfl rfl (NA (ON 34 (by kernel_rfl) rfl (GT rfl rfl rfl (NA (ON 35 (by kernel_rfl) rfl (GT rfl rfl rfl (NA (ON 36 (by kernel_rfl) rfl (PT rfl rfl rfl (NA (WA.done (by kernel_rfl) (TN (CT rfl (SQ (RG (AS rfl rfl (NL (TN (RT ?_))))))))))))))))))))))))))))))))))))))))))))))))
                refine WQ.ret1 rfl rfl H.ext ?_
                exact by rw [hv, hbad]
              · refine NA (ON 9 (by kernel_rfl) rfl (PF rfl rfl rfl (NA (ON 10 (by kernel_rfl) rfl (MV rfl rfl (NA (WA.take (i := 11) rfl (by kernel_rfl) (by kernel_rfl) (by kernel_rfl) (fun _ => Ex.fieldAddr Tryz.underlying123 rfl Tryz.sizeOf5 (by decide) rfl) (Wn.some rfl rfl rfl) rfl rfl (fun _ _ => rfl) (WA.take (i := 13) rfl (by kernel_rfl) (by kernel_rfl) (by kernel_rfl) (fun _ => Ex.move rfl) (Wn.some rfl rfl rfl) rfl rfl (fun _ _ => rfl) (WA.take (i := 14) rfl (by kernel_rfl) (by kernel_rfl) (by kernel_rfl) (fun _ => Ex.idxStr Tryz.underlying9 rfl rfl (hx1)) (Wn.some rfl rfl rfl) rfl rfl (fun _ _ => rfl) (ON 12 (by kernel_rfl) rfl ?_))))))))))
                first | refine WR.step (Ex.loadM H rfl (by assumption) Tryz.isAgg5) (Wn.some rfl rfl rfl) rfl rfl ?_ | refine WR.step (Ex.load1 H rfl (by repeat first | exact kMh | apply kMt) Tryz.isAgg5 (by rfl)) (Wn.some rfl rfl rfl) rfl rfl ?_
                refine NA (ON 15 (by kernel_rfl) rfl ?_)
                refine WR.split (Ex.lss rfl rfl) (Wn.some rfl rfl rfl) rfl rfl (fun h25_15 => ?_) (fun h25_15 => ?_)
                · have hbad := vld_bad hne (hm.2 (by omega))
                  refine NA (ON 16 (by kernel_rfl) rfl (PF rfl rfl rfl (NA (ON 17 (by kernel_rfl) rfl (MV rfl rfl (NA (ON 18 (by kernel_rfl) rfl (GT rfl rfl rfl (NA (ON 19 (by kernel_rfl) rfl (GT rfl rfl rfl (NA (ON 20 (by kernel_rfl) rfl (GT rfl rfl rfl (NA (ON 21 (by kernel_rfl) rfl (PT rfl rfl rfl (NA (ON 22 (by kernel_rfl) rfl (MV rfl rfl (NA (ON 23 (by kernel_rfl) rfl (GT rfl rfl rfl (NA (ON 24 (by kernel_rfl) rfl (GT rfl rfl rfl (NA (ON 25 (by kernel_rfl) rfl (GT rfl rfl rfl (NA (ON 26 (by kernel_rfl) rfl (PT rfl rfl rfl (NA (ON 27 (by kernel_rfl) rfl (MV rfl rfl (NA (ON 28 (by kernel_rfl) rfl (GT rfl rfl rfl (NA (ON 29 (by kernel_rfl) rfl (GT rfl rfl rfl (NA (ON 30 (by kernel_rfl) rfl (GT rfl rfl rfl (NA (ON 31 (by kernel_rfl) rfl (PT rfl rfl rfl (NA (ON 32 (by kernel_rfl) rfl (MV rfl rfl (NA (ON 33 (by kernel_rfl) rfl (GT rfl rfl rfl (NA (ON 34 (by kernel_rfl) rfl ?_)))))))))))))))))))))))))))))))))))))))))))))))))))))))
                  refine GT rfl rfl rfl (NA (ON 35 (by kernel_rfl) rfl (GT rfl rfl rfl (NA (ON 36 (by kernel_rfl) rfl (PT rfl rfl rfl (NA (WA.done (by kernel_rfl) (TN (CT rfl (SQ (RG (AS rfl rfl (NL (TN (RT ?_))))))))))))))))
                  refine WQ.ret1 rfl rfl H.ext ?_
                  exact by rw [hv, hbad]
                · refine NA (ON 16 (by kernel_rfl) rfl (PF rfl rfl rfl (NA (ON 17 (by kernel_rfl) rfl (MV rfl rfl (NA (ON 18 (by kernel_rfl) rfl (SG (Ex.move rfl) rfl rfl rfl (NA (ON 19 (by kernel_rfl) rfl (SG (Ex.idxStr Tryz.underlying9 rfl rfl (hx2)) rfl rfl rfl (NA (ON 20 (by kernel_rfl) rfl ?_)))))))))))))
                  refine WR.split (Ex.lss rfl rfl) (Wn.some rfl rfl rfl) rfl rfl (fun h25_20 => ?_) (fun h25_20 => ?_)
                  · have hbad := vld_bad hne (hm.2 (by omega))
                    refine NA (ON 21 (by kernel_rfl) rfl (PF rfl rfl rfl (NA (ON 22 (by kernel_rfl) rfl (MV rfl rfl (NA (ON 23 (by kernel_rfl) rfl (GT rfl rfl rfl (NA (ON 24 (by kernel_rfl) rfl (GT rfl rfl rfl (NA (ON 25 (by kernel_rfl) rfl (GT rfl rfl rfl (NA (ON 26 (by kernel_rfl) rfl (PT rfl rfl rfl (NA (ON 27 (by kernel_rfl) rfl (MV rfl rfl (NA (ON 28 (by kernel_rfl) rfl (GT rfl rfl rfl (NA (ON 29 (by kernel_rfl) rfl (GT rfl rfl rfl (NA (ON 30 (by kernel_rfl) rfl (GT rfl rfl rfl (NA (ON 31 (by kernel_rfl) rfl (PT rfl rfl rfl (NA (ON 32 (by kernel_rfl) rfl (MV rfl rfl (NA (ON 33 (by kernel_rfl) rfl (GT rfl rfl rfl (NA (ON 34 (by kernel_rfl) rfl (GT rfl rfl rfl (NA (ON 35 (by kernel_rfl) rfl (GT rfl rfl rfl (NA (ON 36 (by kernel_rfl) rfl (PT rfl rfl rfl (NA (WA.done (by kernel_rfl) (TN (CT rfl (SQ (RG (AS rfl rfl (NL (TN (RT ?_)))))))))))))))))))))))))))))))))))))))))))))))))))))))))
                    refine WQ.ret1 rfl rfl H.ext ?_
                    exact by rw [hv, hbad]
                  · refine NA (ON 21 (by kernel_rfl) rfl (PF rfl rfl rfl (NA (ON 22 (by kernel_rfl) rfl (MV rfl rfl (NA (ON 23 (by kernel_rfl) rfl (SG (Ex.move rfl) rfl rfl rfl (NA (ON 24 (by kernel_rfl) rfl (SG (Ex.idxStr Tryz.underlying9 rfl rfl (hx2)) rfl rfl rfl (NA (ON 25 (by kernel_rfl) rfl ?_)))))))))))))
                    refine WR.split (Ex.lss rfl rfl) (Wn.some rfl rfl rfl) rfl rfl (fun h25_25 => ?_) (fun h25_25 => ?_)
                    · have hbad := vld_bad hne (hm.2 (by omega))
                      refine NA (ON 26 (by kernel_rfl) rfl (PF rfl rfl rfl (NA (ON 27 (by kernel_rfl) rfl (MV rfl rfl (NA (ON 28 (by kernel_rfl) rfl (GT rfl rfl rfl (NA (ON 29 (by kernel_rfl) rfl (GT rfl rfl rfl (NA (ON 30 (by kernel_rfl) rfl (GT rfl rfl rfl (NA (ON 31 (by kernel_rfl) rfl (PT rfl rfl rfl (NA (ON 32 (by kernel_rfl) rfl (MV rfl rfl (NA (ON 33 (by kernel_rfl) rfl (GT rfl rfl rfl (NA (ON 34 (by kernel_rfl) rfl (GT rfl rfl rfl (NA (ON 35 (by kernel_rfl) rfl (GT rfl rfl rfl (NA (ON 36 (by kernel_rfl) rfl (PT rfl rfl rfl (NA (WA.done (by kernel_rfl) (TN (CT rfl (SQ (RG (AS rfl rfl (NL (TN (RT ?_))))))))))))))))))))))))))))))))))))))))))
                      refine WQ.ret1 rfl rfl H.ext ?_
                      exact by rw [hv, hbad]
                    · refine NA (ON 26 (by kernel_rfl) rfl (PF rfl rfl rfl (NA (ON 27 (by kernel_rfl) rfl (MV rfl rfl (NA (ON 28 (by kernel_rfl) rfl (SG (Ex.move rfl) rfl rfl rfl (NA (ON 29 (by kernel_rfl) rfl (SG (Ex.idxStr Tryz.underlying9 rfl rfl (hx3)) rfl rfl rfl (NA (ON 30 (by kernel_rfl) rfl ?_)))))))))))))
                      refine WR.split (Ex.lss rfl rfl) (Wn.some rfl rfl rfl) rfl rfl (fun h25_30 => ?_) (fun h25_30 => ?_)
                      · have hbad := vld_bad hne (hm.2 (by omega))
                        refine NA (ON 31 (by kernel_rfl) rfl (PF rfl rfl rfl (NA (ON 32 (by kernel_rfl) rfl (MV rfl rfl (NA (ON 33 (by kernel_rfl) rfl (GT rfl rfl rfl (NA (ON 34 (by kernel_rfl) rfl (GT rfl rfl rfl (NA (ON 35 (by kernel_rfl) rfl (GT rfl rfl rfl (NA (ON 36 (by kernel_rfl) rfl (PT rfl rfl rfl (NA (WA.done (by kernel_rfl) (TN (CT rfl (SQ (RG (AS rfl rfl (NL (TN (RT ?_)))))))))))))))))))))))))))
                        refine WQ.ret1 rfl rfl H.ext ?_
                        exact by rw [hv, hbad]
                      · refine NA (ON 31 (by kernel_rfl) rfl (PF rfl rfl rfl (NA (ON 32 (by kernel_rfl) rfl (MV rfl rfl (NA (ON 33 (by kernel_rfl) rfl (SG (Ex.move rfl) rfl rfl rfl (NA (ON 34 (by kernel_rfl) rfl (SG (Ex.idxStr Tryz.underlying9 rfl rfl (hx3)) rfl rfl rfl (NA (ON 35 (by kernel_rfl) rfl ?_)))))))))))))
                        refine WR.split (Ex.lss rfl rfl) (Wn.some rfl rfl rfl) rfl rfl (fun h25_35 => ?_) (fun h25_35 => ?_)
                        · have hbad := vld_bad hne (hm.2 (by omega))
                          refine NA (ON 36 (by kernel_rfl) rfl (PF rfl rfl rfl (NA (WA.done (by kernel_rfl) (TN (CT rfl (SQ (RG (AS rfl rfl (NL (TN (RT ?_))))))))))))
                          refine WQ.ret1 rfl rfl H.ext ?_
                          exact by rw [hv, hbad]
                        · refine NA (ON 36 (by kernel_rfl) rfl (PF rfl rfl rfl (NA (WA.done (by kernel_rfl) (TN (CF rfl (SK (TN (RG (MV rfl rfl (WR.stepE (v' := S (t.drop 4)) (Ex.sliceStr (i := 4) (j := t.length) Tryz.underlying9 rfl (.inl ⟨_, rfl, rfl⟩) (.inr ⟨rfl, rfl⟩) (by omega) (by omega)) (by rw [List.take_length]) (Wn.none rfl) rfl rfl ?_)))))))))))
                          refine AS rfl rfl (NL (IB (IB ?_)))
                          refine WQ.again1 (t.drop 4) ⟨rfl, trivial⟩ ?_ ?_
                          · exact ⟨by rw [List.length_drop]; omega, by rw [hv]; exact vld_good hne (hm.1 (by omega)), M, H.drop (List.nil_sublist _), hp⟩
                          · rw [List.length_drop]; omega
          · have hbad := vld_bad hne (multi1 (t := t) (by omega) (by rw [hcn]; exact hc1 (by omega)))
            refine AS rfl rfl (NL (TN (CF rfl (SQ (RG (AS rfl rfl (NL (TN (RT ?_)))))))))
            refine WQ.ret1 rfl rfl H.ext ?_
            exact by rw [hv, hbad]
  · have hr : vld l = true := by rw [hv, List.eq_nil_of_length_eq_zero (show t.length = 0 by omega)]; rfl
    refine NL (TN (CF rfl (WC.exit (WQ.thenExit (WQ.thenExit (WQ.exitHere (TN (SQ (RG (AS rfl rfl (NL (TN (RT ?_)))))))))))))
    refine WQ.ret1 rfl rfl H.ext ?_
    exact by rw [hr]
end Go.Proofs.YtkmjdamkifbddaaGreatDoor
end
section
namespace Go.Ph.Pl
theorem drop_cons {α : Type} {l : List α} {i : Nat} (h : i < l.length) : l.drop i = l[i] :: l.drop (i + 1) := List.drop_eq_getElem_cons h
theorem scanL {α β : Type} (L : Nat → Int → Option β) (l : List α) (p : α → Bool) (stop r : β) (hend : ∀ m, L (m + 1) (l.length : Int) = some stop)
    (hstep : ∀ m i (h : i < l.length), L (m + 1) (i : Int) = if p l[i] = true then some r else L m ((i + 1 : Nat) : Int)) :
    ∀ (k i m : Nat), l.length - i ≤ k → k < m → i ≤ l.length → L m (i : Int) = some (if (l.drop i).any p = true then r else stop)
  | 0, i, m, h1, h2, h3 => by
    obtain ⟨m, rfl⟩ : ∃ k, m = k + 1 := ⟨m - 1, by omega⟩
    obtain rfl : i = l.length := by omega
    rw [hend, List.drop_length]; rfl
  | k + 1, i, m, h1, h2, h3 => by
    obtain ⟨m, rfl⟩ : ∃ k, m = k + 1 := ⟨m - 1, by omega⟩
    by_cases hi : i < l.length
    · rw [hstep m i hi, drop_cons hi, List.any_cons]
      by_cases hp : p l[i] = true
      · rw [if_pos hp, hp]; rfl
      · rw [if_neg hp, scanL L l p stop r hend hstep k (i + 1) m (by omega) (by omega) (by omega)]
        have : p l[i] = false := by simpa using hp
        rw [this]; rfl
    · obtain rfl : i = l.length := by omega
      rw [hend, List.drop_length]; rfl
theorem scan0 {α β : Type} {L : Nat → Int → Option β} {l : List α} {p : α → Bool} {stop r : β} {m : Nat} (hm : l.length < m) (hend : ∀ m, L (m + 1) (l.length : Int) = some stop)
    (hstep : ∀ m i (h : i < l.length), L (m + 1) (i : Int) = if p l[i] = true then some r else L m ((i + 1 : Nat) : Int)) : L m 0 = some (if l.any p = true then r else stop) := by
  have := scanL L l p stop r hend hstep l.length 0 m (by omega) hm (by omega)
  simpa using this
theorem FU_gt {n : Nat} (h : n ≤ 9223372036854775807) : n < FU := by rw [FU_eq]; omega
end Go.Ph.Pl
end
section
namespace Go.Ph.B64
def alpha : List UInt8 := [65, 66, 67, 68, 69, 70, 71, 72, 73, 74, 75, 76, 77, 78, 79, 80, 81, 82, 83, 84, 85, 86, 87, 88, 89, 90, 97, 98, 99, 100, 101, 102, 103, 104, 105, 106, 107, 108, 109, 110, 111, 112, 113, 114, 115, 116, 117, 118, 119, 120, 121, 122, 48, 49, 50, 51, 52, 53, 54, 55, 56, 57, 43, 47]
def idx (c : UInt8) : Nat := alpha.idxOf c
def accN (l : List UInt8) : Nat → Nat
  | 0 => 0
  | i + 1 => accN l i * 256 + (l.getD i 0).toNat
def ch (l : List UInt8) (i : Nat) : UInt8 := if min 3 l.length < i then 61 else alpha.getD (accN l 3 / 2 ^ (18 - 6 * i) % 64) 0
end Go.Ph.B64
end
section
namespace Go.Ph.Pf
open Go.Ph.Pl
def utf8_ValidString (p0 : List UInt8) : Option Bool :=
  if p0.length ≤ 4611686018427387904 then some (Chs.vld p0) else none
def R_Valid (p0 : List UInt8) : Option Bool :=
  if p0.length ≤ 4611686018427387904 then some (Chs.vld p0) else none
def basic_Lower (p0 : List UInt8) : Option (List UInt8) :=
  if p0.length ≤ 9223372036854775807 then some (Chs.lower p0) else none
def R_Lower (p0 : List UInt8) : Option (List UInt8) :=
  if p0.length ≤ 9223372036854775807 then some (Chs.lower p0) else none
def utf8_DecodeRuneInString (p0 : List UInt8) : Option (Int × Int) :=
  if p0 ≠ [] then some (((Utf.dr p0).1 : Int), ((Utf.dr p0).2 : Int)) else none
def strings_Count (p0 : List UInt8) (p1 : List UInt8) : Option Int :=
  if p1.length = 1 ∧ p0.length ≤ 1000000 then some ((p0.countP fun c => decide (p1 = [c]) : Nat) : Int) else none
def strings_IndexByte (p0 : List UInt8) (p1 : UInt8) : Option Int :=
  some (ixB p0 p1)
def strings_Join (p0 : List (List UInt8)) (p1 : List UInt8) : Option (List UInt8) :=
  if p0.length ≤ 140737488355328 ∧ (jn p1 p0).length ≤ 140737488355328 then some (jn p1 p0) else none
def strings_SplitN (p0 : List UInt8) (p1 : List UInt8) (p2 : Int) : Option (List (List UInt8)) :=
  if p0.length < 4294967281 ∧ 1 ≤ p1.length ∧ 1 ≤ p2 ∧ p2 ≤ 9223372036854775807 then some (Lib.splitN p0 p1 p2.toNat) else none
def strings_Contains (p0 : List UInt8) (p1 : List UInt8) : Option Bool :=
  if p0.length < 4294967281 then some (Lib.contains p0 p1) else none
def strings_Index (p0 : List UInt8) (p1 : List UInt8) : Option Int :=
  if p0.length < 4294967281 then some (Lib.index p0 p1) else none
def tabk (k : Nat) : List (Option (List UInt8)) := (List.range 256).map fun n => if n = 34 ∧ 1 ≤ k then some [92, 34] else if n = 92 ∧ 2 ≤ k then some [92, 92] else none
def trk (k : Nat) : List (List UInt8) := [[34], [92]].take k
def strings_Replacer_build_L1 (p0 : List (List UInt8)) : Nat → Bool → Int → Option (Bool ⊕ ((List (Option (List UInt8)) × List (List UInt8)) × List (List UInt8)))
  | 0, _, _ => none
  | m15 + 1, b13, n14 => (if n14 < (p0.length : Int) then (idx p0 n14).bind fun a17 => (if (a17.length : Int) = (1 : Int) then (chk (n14 + 1)).bind fun n19 => (idx p0 n19).bind fun a20 => (if (a20.length : Int) = (1 : Int) then (chk (n14 + 2)).bind fun n23 => strings_Replacer_build_L1 p0 m15 b13 n23 else (chk (n14 + 2)).bind fun n22 => strings_Replacer_build_L1 p0 m15 false n22) else none) else some (.inl b13))
def strings_Replacer_build (p0 : List (List UInt8)) : Option ((List (Option (List UInt8)) × List (List UInt8)) × List (List UInt8)) :=
  ((if (p0.length : Int) = (2 : Int) then (idx p0 0).bind fun a5 => some (decide ((1 : Int) < (a5.length : Int))) else some false)).bind fun b3 => (if b3 = true then none else ((strings_Replacer_build_L1 p0 FU true 0 : Option (Bool ⊕ ((List (Option (List UInt8)) × List (List UInt8)) × List (List UInt8))))).bind fun o30 => (match o30 with | .inl b12 => (if b12 = true then none else (if p0 = [[92], [92, 92], [34], [92, 34]] then some ((tabk 2, trk 2), p0) else none)) | .inr r29 => some r29))
def strings_byteStringReplacer_Replace_L1 (p0 : (List (Option (List UInt8)) × List (List UInt8))) (p1 : List UInt8) : Nat → Int → Bool → Int → Option (Int × Bool)
  | 0, _, _, _ => none
  | m14 + 1, n11, b12, n13 => (if n13 < (p0.2.length : Int) then (idx p0.2 n13).bind fun a16 => (strings_Count p1 a16).bind fun n17 => (if n17 = (0 : Int) then (chk (n13 + 1)).bind fun n26 => strings_byteStringReplacer_Replace_L1 p0 p1 m14 n11 b12 n26 else (idx a16 0).bind fun c20 => (idxO p0.1 (c20.toNat : Int)).bind fun q21 => (chk (((q21.getD []).length : Int) - 1)).bind fun n22 => (chk (n17 * n22)).bind fun n23 => (chk (n11 + n23)).bind fun n24 => (chk (n13 + 1)).bind fun n25 => strings_byteStringReplacer_Replace_L1 p0 p1 m14 n24 true n25) else some (n11, b12))
def strings_byteStringReplacer_Replace_L2 (p0 : (List (Option (List UInt8)) × List (List UInt8))) (p1 : List UInt8) : Nat → Int → Bool → Int → Option (Int × Bool)
  | 0, _, _, _ => none
  | m35 + 1, n32, b33, n34 => (if n34 < (p1.length : Int) then (idx p1 n34).bind fun c37 => (idxO p0.1 (c37.toNat : Int)).bind fun q38 => (if q38.isSome = true then (idxO p0.1 (c37.toNat : Int)).bind fun q40 => (chk (((q40.getD []).length : Int) - 1)).bind fun n41 => (chk (n32 + n41)).bind fun n42 => (chk (n34 + 1)).bind fun n43 => strings_byteStringReplacer_Replace_L2 p0 p1 m35 n42 true n43 else (chk (n34 + 1)).bind fun n44 => strings_byteStringReplacer_Replace_L2 p0 p1 m35 n32 b33 n44) else some (n32, b33))
def strings_byteStringReplacer_Replace_L3 (p0 : (List (Option (List UInt8)) × List (List UInt8))) (p1 : List UInt8) : Nat → List UInt8 → Int → Int → Option (List UInt8)
  | 0, _, _, _ => none
  | m56 + 1, l53, n54, n55 => (if n55 < (p1.length : Int) then (idx p1 n55).bind fun c58 => (idxO p0.1 (c58.toNat : Int)).bind fun q59 => (if q59.isSome = true then (frm l53 n54).bind fun n61 => (idxO p0.1 (c58.toNat : Int)).bind fun q62 => (cpyO l53 n61 (q62.getD [])).bind fun (l63, n64) => (chk (n54 + n64)).bind fun n66 => (chk (n55 + 1)).bind fun n67 => strings_byteStringReplacer_Replace_L3 p0 p1 m56 l63 n66 n67 else (idx l53 n54).bind fun c68 => (put l53 n54 c58).bind fun l69 => (chk (n54 + 1)).bind fun n70 => (chk (n55 + 1)).bind fun n71 => strings_byteStringReplacer_Replace_L3 p0 p1 m56 l69 n70 n71) else some l53)
def strings_byteStringReplacer_Replace (p0 : (List (Option (List UInt8)) × List (List UInt8))) (p1 : List UInt8) : Option (List UInt8) :=
  (chk ((p0.2.length : Int) * 8)).bind fun n1 => ((if n1 ≤ (p1.length : Int) then (strings_byteStringReplacer_Replace_L1 p0 p1 FU (p1.length : Int) false 0).bind fun (n9, b10) => some (n9, b10) else (strings_byteStringReplacer_Replace_L2 p0 p1 FU (p1.length : Int) false 0).bind fun (n30, b31) => some (n30, b31))).bind fun (n4, b5) => (if b5 = true then (mkS 1 n4 n4 (0 : UInt8)).bind fun l48 => (strings_byteStringReplacer_Replace_L3 p0 p1 FU l48 0 0).bind fun l52 => some l52 else some p1)
def strings_NewReplacer (p0 : List (List UInt8)) : Option Unit :=
  if p0 = [[92], [92, 92], [34], [92, 34]] then some () else none
def strings_Replacer_Replace (p0 : List UInt8) : Option (List UInt8) :=
  strings_byteStringReplacer_Replace (tabk 2, trk 2) p0
def slices_Clone_Address (p0 : List (List UInt8 × List UInt8 × List UInt8)) : Option (List (List UInt8 × List UInt8 × List UInt8)) := app 48 [] p0
def basic_Fault (p0 : Int) (p1 : Int) : Option (Int × Int) :=
  some (p0, p1)
def address_display (p0 : List UInt8) : Option Int :=
  (if (500 : Int) < (p0.length : Int) then some 1 else (utf8_ValidString p0).bind fun b2 => (if b2 = true then some 0 else some 5))
def basic_All_L1 (p0 : List UInt8) (p1 : (UInt8 → Option Bool)) : Nat → Int → Option (Unit ⊕ Bool)
  | 0, _ => none
  | m4 + 1, n3 => (if n3 < (p0.length : Int) then (idx p0 n3).bind fun c6 => (p1 c6).bind fun b7 => (if b7 = true then (chk (n3 + 1)).bind fun n10 => basic_All_L1 p0 p1 m4 n10 else some (.inr false)) else some (.inl ()))
def basic_All (p0 : List UInt8) (p1 : (UInt8 → Option Bool)) : Option Bool :=
  ((basic_All_L1 p0 p1 FU 0 : Option (Unit ⊕ Bool))).bind fun o13 => (match o13 with | .inl _ => some true | .inr r12 => some r12)
def address_local_1 (p0 : UInt8) : Option Bool :=
  ((if 32 ≤ p0.toNat then some (decide (p0.toNat ≤ 126)) else some false)).bind fun b3 => some b3
def address_local (p0 : List UInt8) : Option Bool :=
  ((if p0 = [] then some false else (if (p0.length : Int) ≤ (60 : Int) then (basic_All p0 address_local_1).bind fun b6 => some b6 else some false))).bind fun b3 => some b3
def strings_splitSeq_1_L1 {σ : Type} (Y : σ → (List UInt8) → Option (σ × Bool)) : Nat → List UInt8 → σ → Option ((List UInt8 × σ) ⊕ σ)
  | 0, _, _ => none
  | m8 + 1, s6, s7 => (if (0 : Int) < (s6.length : Int) then (utf8_DecodeRuneInString s6).bind fun (n10, n11) => (cut s6 0 n11).bind fun s13 => (Y s7 s13).bind fun (s14, b15) => (if b15 = true then (cut s6 n11 (s6.length : Int)).bind fun s18 => strings_splitSeq_1_L1 Y m8 s18 s14 else some (.inr s14)) else some (.inl (s6, s7)))
def strings_splitSeq_1_L2 {σ : Type} (Y : σ → (List UInt8) → Option (σ × Bool)) (p1 : List UInt8) (p3 : Int) : Nat → List UInt8 → σ → Option ((List UInt8 × σ) ⊕ σ)
  | 0, _, _ => none
  | m28 + 1, s26, s27 => (strings_Index s26 p1).bind fun n29 => (if n29 < (0 : Int) then some (.inl (s26, s27)) else (chk (n29 + p3)).bind fun n32 => (cut s26 0 n32).bind fun s33 => (Y s27 s33).bind fun (s34, b35) => (if b35 = true then (chk (n29 + (p1.length : Int))).bind fun n38 => (cut s26 n38 (s26.length : Int)).bind fun s39 => strings_splitSeq_1_L2 Y p1 p3 m28 s39 s34 else some (.inr s34)))
def strings_splitSeq_1 (p1 : List UInt8) (p2 : List UInt8) (p3 : Int) (σ : Type) (Y : σ → (List UInt8) → Option (σ × Bool)) (s0 : σ) : Option σ :=
  (if (p1.length : Int) = (0 : Int) then ((strings_splitSeq_1_L1 Y FU p2 s0 : Option ((List UInt8 × σ) ⊕ σ))).bind fun o21 => (match o21 with | .inl (s4, s5) => some s5 | .inr r20 => some r20) else ((strings_splitSeq_1_L2 Y p1 p3 FU p2 s0 : Option ((List UInt8 × σ) ⊕ σ))).bind fun o45 => (match o45 with | .inl (s24, s25) => (Y s25 s24).bind fun (s41, b42) => some s41 | .inr r44 => some r44))
def address_parts_Y2 (p1 : (UInt8 → Option Bool)) (s : (Bool × Nat)) (x6 : List UInt8) : Option (Bool × Nat) :=
  match s with
  | (b1, _) => ((if x6 = [] then some true else (basic_All x6 p1).bind fun b12 => some (!b12))).bind fun b10 => (if b10 = true then some (false, 1) else some (b1, 0))
def address_parts (p0 : List UInt8) (p1 : (UInt8 → Option Bool)) : Option Bool :=
  (strings_splitSeq_1 [46] p0 0 (Bool × Nat) (stepY exStop (address_parts_Y2 p1)) (false, 0)).bind fun (b1, tg3) => (if tg3 = 0 then some true else (if tg3 = 1 then some b1 else none))
def basic_Letter (p0 : UInt8) : Option Bool :=
  ((if 97 ≤ p0.toNat then (if p0.toNat ≤ 122 then some true else (if 65 ≤ p0.toNat then (if p0.toNat ≤ 90 then some true else (if 48 ≤ p0.toNat then some (decide (p0.toNat ≤ 57)) else some false)) else (if 48 ≤ p0.toNat then some (decide (p0.toNat ≤ 57)) else some false))) else (if 65 ≤ p0.toNat then (if p0.toNat ≤ 90 then some true else (if 48 ≤ p0.toNat then some (decide (p0.toNat ≤ 57)) else some false)) else (if 48 ≤ p0.toNat then some (decide (p0.toNat ≤ 57)) else some false)))).bind fun b3 => some b3
def address_domain_1 (p0 : UInt8) : Option Bool :=
  ((basic_Letter p0).bind fun b4 => (if b4 = true then some true else some (decide (p0 = 45)))).bind fun b3 => some b3
def address_domain (p0 : List UInt8) : Option Bool :=
  ((if (p0.length : Int) ≤ (60 : Int) then (address_parts p0 address_domain_1).bind fun b5 => some b5 else some false)).bind fun b3 => some b3
def basic_None  : Option (Int × Int) :=
  some (0, 0)
def address_Validate (p0 : (List UInt8 × List UInt8 × List UInt8)) : Option (Int × Int) :=
  (address_display p0.1).bind fun n1 => (if n1 = (0 : Int) then (address_local p0.2.1).bind fun b7 => (if b7 = true then (address_domain p0.2.2).bind fun b13 => (if b13 = true then (basic_None).bind fun (n19, n20) => some (n19, n20) else (basic_Fault 10 (-5)).bind fun (n16, n17) => some (n16, n17)) else (basic_Fault 10 (-4)).bind fun (n10, n11) => some (n10, n11)) else (basic_Fault n1 (-3)).bind fun (n4, n5) => some (n4, n5))
def basic_Failed (p0 : (Int × Int)) : Option Bool :=
  some (!decide (p0.1 = (0 : Int)))
def address_item_L1 (p0 : (List UInt8 × Bool × List (List UInt8 × List UInt8 × List UInt8))) : Nat → Int → Option (Unit ⊕ Int)
  | 0, _ => none
  | m14 + 1, n13 => (if n13 < (p0.2.2.length : Int) then (idx p0.2.2 n13).bind fun a16 => (address_Validate (a16.1, a16.2.1, a16.2.2)).bind fun (n17, n18) => (basic_Failed (n17, n18)).bind fun b20 => (if b20 = true then some (.inr n17) else (chk (n13 + 1)).bind fun n23 => address_item_L1 p0 m14 n23) else some (.inl ()))
def address_item (p0 : (List UInt8 × Bool × List (List UInt8 × List UInt8 × List UInt8))) : Option Int :=
  (address_display p0.1).bind fun n1 => (if n1 = (0 : Int) then ((if p0.2.1 = (!decide (p0.1 = [])) then (if p0.2.1 = true then some false else some (!decide ((p0.2.2.length : Int) = (1 : Int)))) else some true)).bind fun b6 => (if b6 = true then some 5 else ((address_item_L1 p0 FU 0 : Option (Unit ⊕ Int))).bind fun o26 => (match o26 with | .inl _ => some 0 | .inr r25 => some r25)) else some n1)
def address_Check_L1 (p0 : List (List UInt8 × Bool × List (List UInt8 × List UInt8 × List UInt8))) : Nat → Int → Int → Option Int
  | 0, _, _ => none
  | m6 + 1, n4, n5 => (if n5 < (p0.length : Int) then (idx p0 n5).bind fun a8 => (chk (n5 + 1)).bind fun n9 => address_Check_L1 p0 m6 (IntKind.i64.wrap (n4 + (a8.2.2.length : Int))) n9 else some n4)
def address_Check_L2 (p0 : List (List UInt8 × Bool × List (List UInt8 × List UInt8 × List UInt8))) : Nat → Int → Int → Int → Option ((Int × Int) ⊕ (Int × Int))
  | 0, _, _, _ => none
  | m27 + 1, n24, n25, n26 => (if n26 < (p0.length : Int) then (idx p0 n26).bind fun a29 => (address_item (a29.1, a29.2.1, a29.2.2)).bind fun n30 => (if n30 = (0 : Int) then (chk (n26 + 1)).bind fun n36 => address_Check_L2 p0 m27 n24 n25 n36 else (basic_Fault n30 n26).bind fun (n33, n34) => some (.inr (n33, n34))) else some (.inl (n24, n25)))
def address_Check (p0 : List (List UInt8 × Bool × List (List UInt8 × List UInt8 × List UInt8))) : Option (Int × Int) :=
  (address_Check_L1 p0 FU 0 0).bind fun n3 => ((if (60 : Int) < (p0.length : Int) then some true else some (decide ((60 : Int) < n3)))).bind fun b13 => (if b13 = true then (basic_Fault 2 (-1)).bind fun (n17, n18) => some (n17, n18) else ((address_Check_L2 p0 FU 0 0 0 : Option ((Int × Int) ⊕ (Int × Int)))).bind fun o42 => (match o42 with | .inl (n22, n23) => (basic_None).bind fun (n38, n39) => some (n38, n39) | .inr r41 => some r41))
def address_atom (p0 : UInt8) : Option Bool :=
  ((basic_Letter p0).bind fun b4 => (if b4 = true then some true else (strings_IndexByte [33, 35, 36, 37, 38, 39, 42, 43, 45, 47, 61, 63, 94, 95, 96, 123, 124, 125, 126] p0).bind fun n6 => some (decide ((0 : Int) ≤ n6)))).bind fun b3 => some b3
def address_dotted (p0 : List UInt8) : Option Bool :=
  (address_parts p0 address_atom).bind fun b1 => some b1
def address_quoted (p0 : List UInt8) : Option (List UInt8) :=
  (strings_NewReplacer ([[92], [92, 92], [34], [92, 34]] : List (List UInt8))).bind fun _ => (strings_Replacer_Replace p0).bind fun s2 => (cat [34] s2).bind fun s3 => (cat s3 [34]).bind fun s4 => some s4
def address_specification (p0 : (List UInt8 × List UInt8 × List UInt8)) : Option (List UInt8) :=
  (address_dotted p0.2.1).bind fun b1 => (if b1 = true then (cat p0.2.1 [64]).bind fun s4 => (cat s4 p0.2.2).bind fun s5 => some s5 else (address_quoted p0.2.1).bind fun s6 => (cat s6 [64]).bind fun s8 => (cat s8 p0.2.2).bind fun s9 => some s9)
def stringslite_HasPrefix (p0 : List UInt8) (p1 : List UInt8) : Option Bool :=
  ((if (p1.length : Int) ≤ (p0.length : Int) then (cut p0 0 (p1.length : Int)).bind fun s5 => some (decide (s5 = p1)) else some false)).bind fun b3 => some b3
def strings_HasPrefix (p0 : List UInt8) (p1 : List UInt8) : Option Bool :=
  (stringslite_HasPrefix p0 p1).bind fun b1 => some b1
def stringslite_HasSuffix (p0 : List UInt8) (p1 : List UInt8) : Option Bool :=
  ((if (p1.length : Int) ≤ (p0.length : Int) then (chk ((p0.length : Int) - (p1.length : Int))).bind fun n5 => (cut p0 n5 (p0.length : Int)).bind fun s6 => some (decide (s6 = p1)) else some false)).bind fun b3 => some b3
def strings_HasSuffix (p0 : List UInt8) (p1 : List UInt8) : Option Bool :=
  (stringslite_HasSuffix p0 p1).bind fun b1 => some b1
def words_plain_L1 (p0 : List UInt8) : Nat → Int → Option (Unit ⊕ Bool)
  | 0, _ => none
  | m4 + 1, n3 => (if n3 < (p0.length : Int) then ((idx p0 n3).bind fun c9 => (if c9.toNat < 32 then some true else (idx p0 n3).bind fun c11 => some (decide (126 < c11.toNat)))).bind fun b8 => (if b8 = true then some (.inr false) else (chk (n3 + 1)).bind fun n14 => words_plain_L1 p0 m4 n14) else some (.inl ()))
def words_plain (p0 : List UInt8) : Option Bool :=
  ((words_plain_L1 p0 FU 0 : Option (Unit ⊕ Bool))).bind fun o27 => (match o27 with | .inl _ => ((strings_HasPrefix p0 [32]).bind fun b19 => (if b19 = true then some false else (strings_HasSuffix p0 [32]).bind fun b21 => (if b21 = true then some false else (strings_Contains p0 [61, 63]).bind fun b23 => some (!b23)))).bind fun b18 => some b18 | .inr r26 => some r26)
def words_Encode (p0 : List UInt8) : Option (List UInt8 × (Int × Int)) :=
  (if (1000 : Int) < (p0.length : Int) then (basic_Fault 1 (-1)).bind fun (n2, n3) => some ([], (n2, n3)) else (utf8_ValidString p0).bind fun b5 => (if b5 = true then (words_plain p0).bind fun b11 => (if b11 = true then (basic_None).bind fun (n14, n15) => some (p0, (n14, n15)) else none) else (basic_Fault 5 (-2)).bind fun (n8, n9) => some ([], (n8, n9))))
def address_phrase_Y7 (p0 : List UInt8) (s : (List UInt8 × Nat)) (x11 : List UInt8) : Option (List UInt8 × Nat) :=
  match s with
  | (s6, _) => ((if x11 = [] then some true else (basic_All x11 address_atom).bind fun b17 => some (!b17))).bind fun b15 => (if b15 = true then (address_quoted p0).bind fun s21 => some (s21, 1) else some (s6, 0))
def address_phrase (p0 : List UInt8) : Option (List UInt8) :=
  (words_Encode p0).bind fun (s1, (n2, n3)) => (if s1 = p0 then (strings_splitSeq_1 [32] p0 0 (List UInt8 × Nat) (stepY exStop (address_phrase_Y7 p0)) ([], 0)).bind fun (s6, tg8) => (if tg8 = 0 then some p0 else (if tg8 = 1 then some s6 else none)) else some s1)
def address_mailbox (p0 : (List UInt8 × List UInt8 × List UInt8)) : Option (List UInt8) :=
  (if p0.1 = [] then (address_specification (p0.1, p0.2.1, p0.2.2)).bind fun s2 => some s2 else (address_phrase p0.1).bind fun s4 => (cat s4 [32, 60]).bind fun s6 => (address_specification (p0.1, p0.2.1, p0.2.2)).bind fun s7 => (cat s6 s7).bind fun s9 => (cat s9 [62]).bind fun s10 => some s10)
def stringslite_TrimSuffix (p0 : List UInt8) (p1 : List UInt8) : Option (List UInt8) :=
  (stringslite_HasSuffix p0 p1).bind fun b1 => (if b1 = true then (chk ((p0.length : Int) - (p1.length : Int))).bind fun n4 => (cut p0 0 n4).bind fun s5 => some s5 else some p0)
def strings_TrimSuffix (p0 : List UInt8) (p1 : List UInt8) : Option (List UInt8) :=
  (stringslite_TrimSuffix p0 p1).bind fun s1 => some s1
def address_Print_L2 (a19 : (List UInt8 × Bool × List (List UInt8 × List UInt8 × List UInt8))) : Nat → List (List UInt8) → Int → Option (List (List UInt8))
  | 0, _, _ => none
  | m29 + 1, l26, n28 => (if n28 < (a19.2.2.length : Int) then (idx a19.2.2 n28).bind fun a32 => (address_mailbox (a32.1, a32.2.1, a32.2.2)).bind fun s33 => (app 16 l26 ([s33] : List (List UInt8))).bind fun l35 => (chk (n28 + 1)).bind fun n36 => address_Print_L2 a19 m29 l35 n36 else some l26)
def address_Print_L1 (p0 : List (List UInt8 × Bool × List (List UInt8 × List UInt8 × List UInt8))) : Nat → List (List UInt8) → Int → Option (List (List UInt8))
  | 0, _, _ => none
  | m16 + 1, l13, n15 => (if n15 < (p0.length : Int) then (idx p0 n15).bind fun a19 => (address_Print_L2 a19 FU [] 0).bind fun l23 => (strings_Join l23 [44, 32]).bind fun s39 => ((if a19.2.1 = true then (address_phrase a19.1).bind fun s45 => (cat s45 [58, 32]).bind fun s47 => (cat s47 s39).bind fun s48 => (strings_TrimSuffix s48 [32]).bind fun s49 => (cat s49 [59]).bind fun s51 => some s51 else some s39)).bind fun s43 => (app 16 l13 ([s43] : List (List UInt8))).bind fun l53 => (chk (n15 + 1)).bind fun n54 => address_Print_L1 p0 m16 l53 n54 else some l13)
def address_Print (p0 : List (List UInt8 × Bool × List (List UInt8 × List UInt8 × List UInt8))) : Option (List UInt8 × (Int × Int)) :=
  (address_Check p0).bind fun (n1, n2) => (basic_Failed (n1, n2)).bind fun b4 => (if b4 = true then some ([], (n1, n2)) else (address_Print_L1 p0 FU [] 0).bind fun l10 => (strings_Join l10 [44, 32]).bind fun s57 => (if (4000 : Int) < (s57.length : Int) then (basic_Fault 1 (-2)).bind fun (n60, n61) => some ([], (n60, n61)) else (basic_None).bind fun (n63, n64) => some (s57, (n63, n64))))
def basic_Blank (p0 : UInt8) : Option Bool :=
  ((if p0 = 32 then some true else some (decide (p0 = 9)))).bind fun b3 => some b3
def address_reader_fail (p0 : (List UInt8 × Int)) : Option ((List UInt8 × Int) ⊕ Int) :=
  some (.inr p0.2)
def address_reader_comment_L1  : Nat → List UInt8 → Int → Int → Option ((List UInt8 × Int) ⊕ Int)
  | 0, _, _, _ => none
  | m6 + 1, s3, n4, n5 => (((if (s3.length : Int) ≤ n4 then (address_reader_fail (s3, n4)).bind fun o14 => (match o14 with | .inl o12 => some (.inl (o12.1, o12.2)) | .inr n15 => some (.inr (.inr n15))) else some (.inl (s3, n4))) : Option ((List UInt8 × Int) ⊕ ((List UInt8 × Int) ⊕ Int)))).bind fun o36 => (match o36 with | .inl (s9, n10) => (idx s9 n10).bind fun c17 => (((if c17 = 40 then (chk (n5 + 1)).bind fun n24 => some (.inl (s9, n10, n24)) else (if c17 = 41 then (chk (n5 - 1)).bind fun n26 => (if n26 = (0 : Int) then (chk (n10 + 1)).bind fun n28 => some (.inr (.inl (s9, n28))) else some (.inl (s9, n10, n26))) else (if c17 = 92 then (chk (n10 + 1)).bind fun n30 => some (.inl (s9, n30, n5)) else some (.inl (s9, n10, n5))))) : Option ((List UInt8 × Int × Int) ⊕ ((List UInt8 × Int) ⊕ Int)))).bind fun o34 => (match o34 with | .inl (s20, n21, n22) => (chk (n21 + 1)).bind fun n32 => address_reader_comment_L1  m6 s20 n32 n22 | .inr r33 => some r33) | .inr r35 => some r35)
def address_reader_comment (p0 : (List UInt8 × Int)) : Option ((List UInt8 × Int) ⊕ Int) :=
  (address_reader_comment_L1  FU p0.1 p0.2 0).bind fun r37 => some r37
def address_reader_skip_L1  : Nat → List UInt8 → Int → Option ((List UInt8 × Int) ⊕ ((List UInt8 × Int) ⊕ Int))
  | 0, _, _ => none
  | m7 + 1, s5, n6 => (if n6 < (s5.length : Int) then (idx s5 n6).bind fun c9 => (basic_Blank c9).bind fun b10 => (if b10 = true then (chk (n6 + 1)).bind fun n13 => address_reader_skip_L1  m7 s5 n13 else (if c9 = 40 then (address_reader_comment (s5, n6)).bind fun o17 => (match o17 with | .inl o15 => address_reader_skip_L1  m7 o15.1 o15.2 | .inr n18 => some (.inr (.inr n18))) else some (.inr (.inl (s5, n6))))) else some (.inl (s5, n6)))
def address_reader_skip (p0 : (List UInt8 × Int)) : Option ((List UInt8 × Int) ⊕ Int) :=
  ((address_reader_skip_L1  FU p0.1 p0.2 : Option ((List UInt8 × Int) ⊕ ((List UInt8 × Int) ⊕ Int)))).bind fun o21 => (match o21 with | .inl (s3, n4) => some (.inl (s3, n4)) | .inr r20 => some r20)
def address_reader_quote_L1  : Nat → List UInt8 → Int → List UInt8 → Option ((List UInt8 × (List UInt8 × Int)) ⊕ Int)
  | 0, _, _, _ => none
  | m9 + 1, s4, n5, l7 => (((if (s4.length : Int) ≤ n5 then (address_reader_fail (s4, n5)).bind fun o18 => (match o18 with | .inl o16 => some (.inl (o16.1, o16.2)) | .inr n19 => some (.inr (.inr n19))) else some (.inl (s4, n5))) : Option ((List UInt8 × Int) ⊕ ((List UInt8 × (List UInt8 × Int)) ⊕ Int)))).bind fun o54 => (match o54 with | .inl (s13, n14) => (idx s13 n14).bind fun c21 => (if c21 = 34 then (chk (n14 + 1)).bind fun n23 => some (.inl (l7, (s13, n23))) else (((if c21 = 92 then (chk (n14 + 1)).bind fun n33 => (((if (s13.length : Int) ≤ n33 then (address_reader_fail (s13, n33)).bind fun o41 => (match o41 with | .inl o39 => some (.inl (o39.1, o39.2)) | .inr n42 => some (.inr (.inr n42))) else some (.inl (s13, n33))) : Option ((List UInt8 × Int) ⊕ ((List UInt8 × (List UInt8 × Int)) ⊕ Int)))).bind fun o47 => (match o47 with | .inl (s36, n37) => (idx s36 n37).bind fun c44 => (app 1 l7 ([c44] : List UInt8)).bind fun l45 => some (.inl (s36, n37, l45)) | .inr r46 => some (.inr r46)) else (app 1 l7 ([c21] : List UInt8)).bind fun l48 => some (.inl (s13, n14, l48))) : Option ((List UInt8 × Int × List UInt8) ⊕ ((List UInt8 × (List UInt8 × Int)) ⊕ Int)))).bind fun o52 => (match o52 with | .inl (s27, n28, l30) => (chk (n28 + 1)).bind fun n50 => address_reader_quote_L1  m9 s27 n50 l30 | .inr r51 => some r51)) | .inr r53 => some r53)
def address_reader_quote (p0 : (List UInt8 × Int)) : Option ((List UInt8 × (List UInt8 × Int)) ⊕ Int) :=
  (chk (p0.2 + 1)).bind fun n1 => (address_reader_quote_L1  FU p0.1 n1 []).bind fun r55 => some r55
def address_reader_next_L1  : Nat → List UInt8 → Int → Option (List UInt8 × Int)
  | 0, _, _ => none
  | m23 + 1, s21, n22 => ((if n22 < (s21.length : Int) then (idx s21 n22).bind fun c28 => (address_atom c28).bind fun b29 => (if b29 = true then some true else (idx s21 n22).bind fun c31 => some (decide (c31 = 46))) else some false)).bind fun b26 => (if b26 = true then (chk (n22 + 1)).bind fun n34 => address_reader_next_L1  m23 s21 n34 else some (s21, n22))
def address_reader_next (p0 : (List UInt8 × Int)) : Option ((Elt × (List UInt8 × Int)) ⊕ Int) :=
  (address_reader_skip (p0.1, p0.2)).bind fun o3 => (match o3 with | .inl o1 => (if (o1.1.length : Int) ≤ o1.2 then some (.inl ((none : Elt), (o1.1, o1.2))) else (idx o1.1 o1.2).bind fun c6 => (if c6 = 34 then (address_reader_quote (o1.1, o1.2)).bind fun o11 => (match o11 with | .inl (s8, o9) => some (.inl ((eltW (s8, true)), (o9.1, o9.2))) | .inr n12 => some (.inr n12)) else (strings_IndexByte [58, 59, 44, 64, 60, 62] c6).bind fun n13 => (if (0 : Int) ≤ n13 then (chk (o1.2 + 1)).bind fun n16 => some (.inl ((eltS c6), (o1.1, n16))) else (address_reader_next_L1  FU o1.1 o1.2).bind fun (s19, n20) => (((if n20 = o1.2 then (address_reader_fail (s19, n20)).bind fun o43 => (match o43 with | .inl o41 => some (.inl (o41.1, o41.2)) | .inr n44 => some (.inr (.inr n44))) else some (.inl (s19, n20))) : Option ((List UInt8 × Int) ⊕ ((Elt × (List UInt8 × Int)) ⊕ Int)))).bind fun o48 => (match o48 with | .inl (s38, n39) => (cut s38 o1.2 n39).bind fun s46 => some (.inl ((eltW (s46, false)), (s38, n39))) | .inr r47 => some r47)))) | .inr n4 => some (.inr n4))
def address_reader_peek (p0 : (List UInt8 × Int)) : Option ((Elt × (List UInt8 × Int)) ⊕ Int) :=
  (address_reader_next (p0.1, p0.2)).bind fun o4 => (match o4 with | .inl (n1, o2) => some (.inl (n1, (o2.1, p0.2))) | .inr n5 => some (.inr n5))
def address_reader_words_L1  : Nat → List UInt8 → Int → List (List UInt8 × Bool) → Option ((List (List UInt8 × Bool) × (List UInt8 × Int)) ⊕ Int)
  | 0, _, _, _ => none
  | m8 + 1, s3, n4, l6 => (address_reader_peek (s3, n4)).bind fun o13 => (match o13 with | .inl (n10, o11) => (okW n10).bind fun (w15, b16) => (if b16 = true then (address_reader_next (o11.1, o11.2)).bind fun o22 => (match o22 with | .inl (n19, o20) => (app 24 l6 ([(w15.1, w15.2)] : List (List UInt8 × Bool))).bind fun l24 => address_reader_words_L1  m8 o20.1 o20.2 l24 | .inr n23 => some (.inr n23)) else some (.inl (l6, (o11.1, o11.2)))) | .inr n14 => some (.inr n14))
def address_reader_words (p0 : (List UInt8 × Int)) : Option ((List (List UInt8 × Bool) × (List UInt8 × Int)) ⊕ Int) :=
  (address_reader_words_L1  FU p0.1 p0.2 []).bind fun r26 => some r26
def address_reader_is (p0 : (List UInt8 × Int)) (p1 : UInt8) : Option ((Bool × (List UInt8 × Int)) ⊕ Int) :=
  (address_reader_peek (p0.1, p0.2)).bind fun o4 => (match o4 with | .inl (n1, o2) => (if n1 = (eltS p1) then (address_reader_next (o2.1, o2.2)).bind fun o10 => (match o10 with | .inl (n7, o8) => some (.inl (true, (o8.1, o8.2))) | .inr n11 => some (.inr n11)) else some (.inl (false, (o2.1, o2.2)))) | .inr n5 => some (.inr n5))
def address_reader_need (p0 : (List UInt8 × Int)) (p1 : UInt8) : Option ((List UInt8 × Int) ⊕ Int) :=
  (address_reader_is (p0.1, p0.2) p1).bind fun o4 => (match o4 with | .inl (b1, o2) => (if b1 = true then some (.inl (o2.1, o2.2)) else (address_reader_fail (o2.1, o2.2)).bind fun o9 => (match o9 with | .inl o7 => some (.inl (o7.1, o7.2)) | .inr n10 => some (.inr n10))) | .inr n5 => some (.inr n5))
def address_reader_specific (p0 : (List UInt8 × Int)) (p1 : List (List UInt8 × Bool)) : Option (((List UInt8 × List UInt8 × List UInt8) × (List UInt8 × Int)) ⊕ Int) :=
  ((if (p1.length : Int) = (1 : Int) then (idx p1 0).bind fun a5 => (address_local a5.1).bind fun b6 => (if b6 = true then (idx p1 0).bind fun a8 => (if a8.2 = true then some false else (idx p1 0).bind fun a10 => (address_dotted a10.1).bind fun b11 => some (!b11)) else some true) else some true)).bind fun b3 => (((if b3 = true then (address_reader_fail (p0.1, p0.2)).bind fun o21 => (match o21 with | .inl o19 => some (.inl (o19.1, o19.2)) | .inr n22 => some (.inr (.inr n22))) else some (.inl (p0.1, p0.2))) : Option ((List UInt8 × Int) ⊕ (((List UInt8 × List UInt8 × List UInt8) × (List UInt8 × Int)) ⊕ Int)))).bind fun o57 => (match o57 with | .inl (s16, n17) => (address_reader_need (s16, n17) 64).bind fun o26 => (match o26 with | .inl o24 => (address_reader_next (o24.1, o24.2)).bind fun o31 => (match o31 with | .inl (n28, o29) => (okW n28).bind fun (w33, b34) => ((if b34 = true then (if w33.2 = true then some true else (address_domain w33.1).bind fun b40 => some (!b40)) else some true)).bind fun b38 => (((if b38 = true then (address_reader_fail (o29.1, o29.2)).bind fun o50 => (match o50 with | .inl o48 => some (.inl (o48.1, o48.2)) | .inr n51 => some (.inr (.inr n51))) else some (.inl (o29.1, o29.2))) : Option ((List UInt8 × Int) ⊕ (((List UInt8 × List UInt8 × List UInt8) × (List UInt8 × Int)) ⊕ Int)))).bind fun o55 => (match o55 with | .inl (s45, n46) => (idx p1 0).bind fun a53 => some (.inl (([], a53.1, w33.1), (s45, n46))) | .inr r54 => some r54) | .inr n32 => some (.inr n32)) | .inr n27 => some (.inr n27)) | .inr r56 => some r56)
def words_read (p0 : List UInt8) : Option (List UInt8 × Int × Bool) :=
  (strings_HasPrefix p0 [61, 63]).bind fun b1 => (if b1 = true then (cut p0 2 (min (p0.length : Int) 75)).bind fun s4 => (strings_SplitN s4 [63] 4).bind fun l5 => ((if (l5.length : Int) < (4 : Int) then some true else (idx l5 3).bind fun a11 => (strings_HasPrefix a11 [61]).bind fun b12 => some (!b12))).bind fun b9 => (if b9 = true then some ([], 0, false) else none) else some ([], 0, false))
def strings_Builder_WriteByte (p0 : List UInt8) (p1 : UInt8) : Option (Bool × List UInt8) :=
  (app 1 p0 ([p1] : List UInt8)).bind fun l2 => some (true, l2)
def strings_Builder_WriteString (p0 : List UInt8) (p1 : List UInt8) : Option (Int × Bool × List UInt8) :=
  (app 1 p0 p1).bind fun l2 => some ((p1.length : Int), true, l2)
def strings_Builder_String (p0 : List UInt8) : Option (List UInt8) :=
  some p0
def words_Decode_L1 (p0 : List UInt8) : Nat → List UInt8 → Int → Int → Option (List UInt8 × Int)
  | 0, _, _, _ => none
  | m20 + 1, l16, n18, n19 => (if n19 < (p0.length : Int) then (cut p0 n19 (p0.length : Int)).bind fun s23 => (words_read s23).bind fun (s24, n25, b26) => (if b26 = true then (strings_Builder_WriteString l16 s24).bind fun (n67, b68, l69) => (chk (n19 + n25)).bind fun n71 => words_Decode_L1 p0 m20 l69 n71 n71 else ((if n18 < (0 : Int) then (idx p0 n19).bind fun c37 => (strings_Builder_WriteByte l16 c37).bind fun (b38, l39) => some l39 else some l16)).bind fun l34 => ((if (0 : Int) ≤ n18 then (idx p0 n19).bind fun c46 => (basic_Blank c46).bind fun b47 => some (!b47) else some false)).bind fun b44 => ((if b44 = true then (chk (n19 + 1)).bind fun n59 => (cut p0 n18 n59).bind fun s60 => (strings_Builder_WriteString l34 s60).bind fun (n61, b62, l63) => some (l63, (-1)) else some (l34, n18))).bind fun (l55, n57) => (chk (n19 + 1)).bind fun n66 => words_Decode_L1 p0 m20 l55 n57 n66) else some (l16, n18))
def words_Decode (p0 : List UInt8) : Option (List UInt8 × (Int × Int)) :=
  (if (4000 : Int) < (p0.length : Int) then (basic_Fault 1 (-1)).bind fun (n2, n3) => some ([], (n2, n3)) else (words_Decode_L1 p0 FU [] (-1) 0).bind fun (l10, n12) => ((if (0 : Int) ≤ n12 then (cut p0 n12 (p0.length : Int)).bind fun s81 => (strings_Builder_WriteString l10 s81).bind fun (n82, b83, l84) => some l84 else some l10)).bind fun l78 => (strings_Builder_String l78).bind fun s87 => (basic_None).bind fun (n89, n90) => some (s87, (n89, n90)))
def address_named_1 (p0 : List (List UInt8)) (p1 : List (List UInt8)) : Option (List (List UInt8) × List (List UInt8)) :=
  (if (0 : Int) < (p0.length : Int) then (strings_Join p0 [32]).bind fun s4 => (words_Decode s4).bind fun (s6, (n7, n8)) => (app 16 p1 ([s6] : List (List UInt8))).bind fun l10 => some ([], l10) else some (p0, p1))
def address_named_L1 (p0 : List (List UInt8 × Bool)) : Nat → List (List UInt8) → List (List UInt8) → Int → Option (List (List UInt8) × List (List UInt8))
  | 0, _, _, _ => none
  | m16 + 1, l10, l13, n15 => (if n15 < (p0.length : Int) then (idx p0 n15).bind fun a20 => (if a20.2 = true then (address_named_1 l13 l10).bind fun (o22, o23) => (app 16 o23 ([a20.1] : List (List UInt8))).bind fun l25 => (chk (n15 + 1)).bind fun n26 => address_named_L1 p0 m16 l25 o22 n26 else (app 16 l13 ([a20.1] : List (List UInt8))).bind fun l27 => (chk (n15 + 1)).bind fun n28 => address_named_L1 p0 m16 l10 l27 n28) else some (l10, l13))
def address_named (p0 : List (List UInt8 × Bool)) : Option (List UInt8) :=
  (address_named_L1 p0 FU [] [] 0).bind fun (l4, l7) => (address_named_1 l7 l4).bind fun (o30, o31) => (strings_Join o31 [32]).bind fun s34 => some s34
def address_reader_address (p0 : (List UInt8 × Int)) (p1 : List (List UInt8 × Bool)) : Option (((List UInt8 × List UInt8 × List UInt8) × (List UInt8 × Int)) ⊕ Int) :=
  (address_reader_is (p0.1, p0.2) 60).bind fun o4 => (match o4 with | .inl (b1, o2) => (if b1 = true then (address_reader_words (o2.1, o2.2)).bind fun o17 => (match o17 with | .inl (l14, o15) => (address_reader_specific (o15.1, o15.2) l14).bind fun o24 => (match o24 with | .inl ((s19, s20, s21), o22) => (address_named p1).bind fun s26 => (address_reader_need (o22.1, o22.2) 62).bind fun o30 => (match o30 with | .inl o28 => some (.inl ((s26, s20, s21), (o28.1, o28.2))) | .inr n31 => some (.inr n31)) | .inr n25 => some (.inr n25)) | .inr n18 => some (.inr n18)) else (address_reader_specific (o2.1, o2.2) p1).bind fun o12 => (match o12 with | .inl ((s7, s8, s9), o10) => some (.inl ((s7, s8, s9), (o10.1, o10.2))) | .inr n13 => some (.inr n13))) | .inr n5 => some (.inr n5))
def address_reader_item_L1  : Nat → List UInt8 → Int → List UInt8 → Bool → List (List UInt8 × List UInt8 × List UInt8) → List UInt8 → Bool → List (List UInt8 × List UInt8 × List UInt8) → Option (((List UInt8 × Bool × List (List UInt8 × List UInt8 × List UInt8)) × (List UInt8 × Int)) ⊕ Int)
  | 0, _, _, _, _, _, _, _, _ => none
  | m51 + 1, s39, n40, s41, b42, l43, s46, b47, l49 => (address_reader_words (s39, n40)).bind fun o56 => (match o56 with | .inl (l53, o54) => (address_reader_address (o54.1, o54.2) l53).bind fun o63 => (match o63 with | .inl ((s58, s59, s60), o61) => (app 48 l49 ([(s58, s59, s60)] : List (List UInt8 × List UInt8 × List UInt8))).bind fun l65 => (address_reader_is (o61.1, o61.2) 59).bind fun o70 => (match o70 with | .inl (b67, o68) => (if b67 = true then some (.inl ((s46, b47, l65), (o68.1, o68.2))) else (address_reader_need (o68.1, o68.2) 44).bind fun o76 => (match o76 with | .inl o74 => address_reader_item_L1  m51 o74.1 o74.2 s41 b42 l43 s46 b47 l65 | .inr n77 => some (.inr n77))) | .inr n71 => some (.inr n71)) | .inr n64 => some (.inr n64)) | .inr n57 => some (.inr n57))
def address_reader_item (p0 : (List UInt8 × Int)) : Option (((List UInt8 × Bool × List (List UInt8 × List UInt8 × List UInt8)) × (List UInt8 × Int)) ⊕ Int) :=
  (address_reader_words (p0.1, p0.2)).bind fun o4 => (match o4 with | .inl (l1, o2) => (address_reader_is (o2.1, o2.2) 58).bind fun o9 => (match o9 with | .inl (b6, o7) => (if b6 = true then (address_named l1).bind fun s19 => (((if s19 = [] then (address_reader_fail (o7.1, o7.2)).bind fun o28 => (match o28 with | .inl o26 => some (.inl (o26.1, o26.2)) | .inr n29 => some (.inr (.inr n29))) else some (.inl (o7.1, o7.2))) : Option ((List UInt8 × Int) ⊕ (((List UInt8 × Bool × List (List UInt8 × List UInt8 × List UInt8)) × (List UInt8 × Int)) ⊕ Int)))).bind fun o80 => (match o80 with | .inl (s23, n24) => (address_reader_is (s23, n24) 59).bind fun o34 => (match o34 with | .inl (b31, o32) => (if b31 = true then some (.inl ((s19, true, []), (o32.1, o32.2))) else (address_reader_item_L1  FU o32.1 o32.2 [] false [] s19 true []).bind fun r78 => some r78) | .inr n35 => some (.inr n35)) | .inr r79 => some r79) else (address_reader_address (o7.1, o7.2) l1).bind fun o17 => (match o17 with | .inl ((s12, s13, s14), o15) => some (.inl (([], false, ([(s12, s13, s14)] : List (List UInt8 × List UInt8 × List UInt8))), (o15.1, o15.2))) | .inr n18 => some (.inr n18))) | .inr n10 => some (.inr n10)) | .inr n5 => some (.inr n5))
def address_Parse_L1 (p0 : List UInt8) : Nat → List (List UInt8 × Bool × List (List UInt8 × List UInt8 × List UInt8)) → List UInt8 → Int → Option ((List (List UInt8 × Bool × List (List UInt8 × List UInt8 × List UInt8)) × List UInt8 × Int) ⊕ (List (List UInt8 × Bool × List (List UInt8 × List UInt8 × List UInt8)) × (Int × Int)))
  | 0, _, _, _ => none
  | m49 + 1, l43, s47, n48 => (address_reader_is (s47, n48) 44).bind fun o53 => (match o53 with | .inl (b50, o51) => (if b50 = true then (address_reader_item (o51.1, o51.2)).bind fun o61 => (match o61 with | .inl ((s56, b57, l58), o59) => (app 48 l43 ([(s56, b57, l58)] : List (List UInt8 × Bool × List (List UInt8 × List UInt8 × List UInt8)))).bind fun l64 => address_Parse_L1 p0 m49 l64 o59.1 o59.2 | .inr n62 => some (.inr ([], ((11 : Int), (min n62 (p0.length : Int)))))) else some (.inl (l43, o51.1, o51.2))) | .inr n54 => some (.inr ([], ((11 : Int), (min n54 (p0.length : Int))))))
def address_Parse (p0 : List UInt8) : Option (List (List UInt8 × Bool × List (List UInt8 × List UInt8 × List UInt8)) × (Int × Int)) :=
  (if (4000 : Int) < (p0.length : Int) then (basic_Fault 1 (-1)).bind fun (n2, n3) => some ([], (n2, n3)) else (address_reader_peek (p0, 0)).bind fun o9 => (match o9 with | .inl (n6, o7) => (((if n6 = none then some (.inl []) else (address_reader_item (o7.1, o7.2)).bind fun o24 => (match o24 with | .inl ((s19, b20, l21), o22) => (app 48 ([] : List (List UInt8 × Bool × List (List UInt8 × List UInt8 × List UInt8))) ([(s19, b20, l21)] : List (List UInt8 × Bool × List (List UInt8 × List UInt8 × List UInt8)))).bind fun l29 => ((address_Parse_L1 p0 FU l29 o22.1 o22.2 : Option ((List (List UInt8 × Bool × List (List UInt8 × List UInt8 × List UInt8)) × List UInt8 × Int) ⊕ (List (List UInt8 × Bool × List (List UInt8 × List UInt8 × List UInt8)) × (Int × Int))))).bind fun o80 => (match o80 with | .inl (l36, s40, n41) => (address_reader_peek (s40, n41)).bind fun o72 => (match o72 with | .inl (n69, o70) => (if n69 = none then some (.inl l36) else (address_reader_fail (o70.1, o70.2)).bind fun o77 => (match o77 with | .inl o75 => some (.inl l36) | .inr n78 => some (.inr ([], ((11 : Int), (min n78 (p0.length : Int))))))) | .inr n73 => some (.inr ([], ((11 : Int), (min n73 (p0.length : Int)))))) | .inr r79 => some (.inr r79)) | .inr n25 => some (.inr ([], ((11 : Int), (min n25 (p0.length : Int))))))) : Option (List (List UInt8 × Bool × List (List UInt8 × List UInt8 × List UInt8)) ⊕ (List (List UInt8 × Bool × List (List UInt8 × List UInt8 × List UInt8)) × (Int × Int))))).bind fun o98 => (match o98 with | .inl l14 => (address_Check l14).bind fun (n85, n86) => (basic_Failed (n85, n86)).bind fun b88 => (if b88 = true then (basic_Fault n85 (-2)).bind fun (n91, n92) => some ([], (n91, n92)) else (basic_None).bind fun (n94, n95) => some (l14, (n94, n95))) | .inr r97 => some r97) | .inr n10 => some ([], ((11 : Int), (min n10 (p0.length : Int))))))
def address_Normal (p0 : (List UInt8 × List UInt8 × List UInt8)) : Option (List UInt8 × (Int × Int)) :=
  (address_Validate (p0.1, p0.2.1, p0.2.2)).bind fun (n1, n2) => (basic_Failed (n1, n2)).bind fun b4 => (if b4 = true then some ([], (n1, n2)) else (basic_Lower p0.2.2).bind fun s7 => (address_specification (p0.1, p0.2.1, s7)).bind fun s9 => (basic_None).bind fun (n11, n12) => some (s9, (n11, n12)))
def address_All_L1 (p0 : List (List UInt8 × Bool × List (List UInt8 × List UInt8 × List UInt8))) : Nat → List (List UInt8 × List UInt8 × List UInt8) → Int → Option (List (List UInt8 × List UInt8 × List UInt8))
  | 0, _, _ => none
  | m16 + 1, l13, n15 => (if n15 < (p0.length : Int) then (idx p0 n15).bind fun a19 => (slices_Clone_Address a19.2.2).bind fun l20 => (app 48 l13 l20).bind fun l22 => (chk (n15 + 1)).bind fun n23 => address_All_L1 p0 m16 l22 n23 else some l13)
def address_All (p0 : List (List UInt8 × Bool × List (List UInt8 × List UInt8 × List UInt8))) : Option (List (List UInt8 × List UInt8 × List UInt8) × (Int × Int)) :=
  (address_Check p0).bind fun (n1, n2) => (basic_Failed (n1, n2)).bind fun b4 => (if b4 = true then some ([], (n1, n2)) else (address_All_L1 p0 FU [] 0).bind fun l10 => (basic_None).bind fun (n25, n26) => some (l10, (n25, n26)))
def L_addressExample  : Option Bool :=
  (address_Print ([([], false, ([([65, 46, 32, 66], [97], [120])] : List (List UInt8 × List UInt8 × List UInt8)))] : List (List UInt8 × Bool × List (List UInt8 × List UInt8 × List UInt8)))).bind fun (s2, (n3, n4)) => (address_Parse [103, 58, 32, 97, 64, 120, 44, 32, 98, 64, 120, 59]).bind fun (l6, (n7, n8)) => (address_Normal ([], [65], [88, 46, 69, 120, 97, 109, 112, 108, 101])).bind fun (s10, (n11, n12)) => (address_All l6).bind fun (l14, (n15, n16)) => ((if n3 = (0 : Int) then (if n7 = (0 : Int) then (if n11 = (0 : Int) then (if n15 = (0 : Int) then (if s2 = [34, 65, 46, 32, 66, 34, 32, 60, 97, 64, 120, 62] then (if (l6.length : Int) = (1 : Int) then (idx l6 0).bind fun a27 => (if a27.2.1 = true then (idx l6 0).bind fun a29 => (if a29.1 = [103] then (if s10 = [65, 64, 120, 46, 101, 120, 97, 109, 112, 108, 101] then (if (l14.length : Int) = (2 : Int) then (idx l14 1).bind fun a33 => some (decide (a33.2.1 = [98])) else some false) else some false) else some false) else some false) else some false) else some false) else some false) else some false) else some false) else some false)).bind fun b20 => some b20
def R_displayCode (p0 : List UInt8) : Option Int :=
  (if (500 : Int) < (p0.length : Int) then some 1 else (R_Valid p0).bind fun b2 => (if b2 = true then some 0 else some 5))
def R_At (p0 : Int) (p1 : Int) : Option (Int × Int) :=
  some (p0, p1)
def R_In (p0 : Int) (p1 : Int) (p2 : Int) : Option Bool :=
  ((if p1 ≤ p0 then some (decide (p0 ≤ p2)) else some false)).bind fun b3 => some b3
def R_LocalPart_L1 (p0 : List UInt8) : Nat → Int → Option (Unit ⊕ Bool)
  | 0, _ => none
  | m4 + 1, n3 => (if n3 < (p0.length : Int) then (idx p0 n3).bind fun c6 => (R_In (c6.toNat : Int) 32 126).bind fun b7 => (if b7 = true then (chk (n3 + 1)).bind fun n10 => R_LocalPart_L1 p0 m4 n10 else some (.inr false)) else some (.inl ()))
def R_LocalPart (p0 : List UInt8) : Option Bool :=
  ((R_LocalPart_L1 p0 FU 0 : Option (Unit ⊕ Bool))).bind fun o15 => (match o15 with | .inl _ => (R_In (p0.length : Int) 1 60).bind fun b12 => some b12 | .inr r14 => some r14)
def R_letter (p0 : UInt8) : Option Bool :=
  ((R_In (p0.toNat : Int) 97 122).bind fun b4 => (if b4 = true then some true else (R_In (p0.toNat : Int) 65 90).bind fun b6 => (if b6 = true then some true else (R_In (p0.toNat : Int) 48 57).bind fun b8 => some b8))).bind fun b3 => some b3
def R_OneOf_L1 (p0 : UInt8) (p1 : List UInt8) : Nat → Int → Option (Unit ⊕ Bool)
  | 0, _ => none
  | m4 + 1, n3 => (if n3 < (p1.length : Int) then (idx p1 n3).bind fun c6 => (if c6 = p0 then some (.inr true) else (chk (n3 + 1)).bind fun n8 => R_OneOf_L1 p0 p1 m4 n8) else some (.inl ()))
def R_OneOf (p0 : UInt8) (p1 : List UInt8) : Option Bool :=
  ((R_OneOf_L1 p0 p1 FU 0 : Option (Unit ⊕ Bool))).bind fun o11 => (match o11 with | .inl _ => some false | .inr r10 => some r10)
def R_AtomByte (p0 : UInt8) : Option Bool :=
  ((R_letter p0).bind fun b4 => (if b4 = true then some true else (R_OneOf p0 [33, 35, 36, 37, 38, 39, 42, 43, 45, 47, 61, 63, 94, 95, 96, 123, 124, 125, 126]).bind fun b6 => some b6)).bind fun b3 => some b3
def R_Dotted_L1 (p0 : List UInt8) (p1 : Bool) : Nat → Bool → Int → Option (Bool ⊕ Bool)
  | 0, _, _ => none
  | m6 + 1, b4, n5 => (if n5 < (p0.length : Int) then (idx p0 n5).bind fun c8 => (if c8 = 46 then (if b4 = true then some (.inr false) else (chk (n5 + 1)).bind fun n11 => R_Dotted_L1 p0 p1 m6 true n11) else ((idx p0 n5).bind fun c15 => (R_AtomByte c15).bind fun b16 => (if b16 = true then (if p1 = true then (idx p0 n5).bind fun c18 => (R_letter c18).bind fun b19 => (if b19 = true then some false else (idx p0 n5).bind fun c21 => some (!decide (c21 = 45))) else some false) else some true)).bind fun b14 => (if b14 = true then some (.inr false) else (chk (n5 + 1)).bind fun n24 => R_Dotted_L1 p0 p1 m6 false n24)) else some (.inl b4))
def R_Dotted (p0 : List UInt8) (p1 : Bool) : Option Bool :=
  ((R_Dotted_L1 p0 p1 FU true 0 : Option (Bool ⊕ Bool))).bind fun o27 => (match o27 with | .inl b3 => some (!b3) | .inr r26 => some r26)
def R_AddressFault (p0 : (List UInt8 × List UInt8 × List UInt8)) : Option (Int × Int) :=
  (R_displayCode p0.1).bind fun n1 => (if n1 = (0 : Int) then (R_LocalPart p0.2.1).bind fun b9 => (if b9 = true then ((if (60 : Int) < (p0.2.2.length : Int) then some true else (R_Dotted p0.2.2 true).bind fun b19 => some (!b19))).bind fun b17 => (if b17 = true then (R_At 10 (-5)).bind fun (n23, n24) => some (n23, n24) else some (0, 0)) else (R_At 10 (-4)).bind fun (n12, n13) => some (n12, n13)) else (R_displayCode p0.1).bind fun n4 => (R_At n4 (-3)).bind fun (n6, n7) => some (n6, n7))
def R_SameAddresses_L1 (p0 : List (List UInt8 × List UInt8 × List UInt8)) (p1 : List (List UInt8 × List UInt8 × List UInt8)) : Nat → Int → Option (Unit ⊕ Bool)
  | 0, _ => none
  | m5 + 1, n4 => (if n4 < (p0.length : Int) then (idx p0 n4).bind fun a7 => (idx p1 n4).bind fun a8 => (if a7.1 = a8.1 ∧ a7.2.1 = a8.2.1 ∧ a7.2.2 = a8.2.2 then (chk (n4 + 1)).bind fun n10 => R_SameAddresses_L1 p0 p1 m5 n10 else some (.inr false)) else some (.inl ()))
def R_SameAddresses (p0 : List (List UInt8 × List UInt8 × List UInt8)) (p1 : List (List UInt8 × List UInt8 × List UInt8)) : Option Bool :=
  (if (p0.length : Int) = (p1.length : Int) then ((R_SameAddresses_L1 p0 p1 FU 0 : Option (Unit ⊕ Bool))).bind fun o13 => (match o13 with | .inl _ => some true | .inr r12 => some r12) else some false)
def R_Quote_L1 (p0 : List UInt8) : Nat → List UInt8 → Int → Option (List UInt8)
  | 0, _, _ => none
  | m6 + 1, s4, n5 => (if n5 < (p0.length : Int) then ((idx p0 n5).bind fun c11 => (if c11 = 34 then some true else (idx p0 n5).bind fun c13 => some (decide (c13 = 92)))).bind fun b10 => ((if b10 = true then (cat s4 [92]).bind fun s19 => some s19 else some s4)).bind fun s17 => (chk (n5 + 1)).bind fun n21 => (cut p0 n5 n21).bind fun s22 => (cat s17 s22).bind fun s23 => (chk (n5 + 1)).bind fun n24 => R_Quote_L1 p0 m6 s23 n24 else some s4)
def R_Quote (p0 : List UInt8) : Option (List UInt8) :=
  (R_Quote_L1 p0 FU [34] 0).bind fun s3 => (cat s3 [34]).bind fun s26 => some s26
def R_SpecOf (p0 : (List UInt8 × List UInt8 × List UInt8)) : Option (List UInt8) :=
  (R_Dotted p0.2.1 false).bind fun b1 => (if b1 = true then (cat p0.2.1 [64]).bind fun s4 => (cat s4 p0.2.2).bind fun s5 => some s5 else (R_Quote p0.2.1).bind fun s6 => (cat s6 [64]).bind fun s8 => (cat s8 p0.2.2).bind fun s9 => some s9)
def R_SameItems_L1 (p0 : List (List UInt8 × Bool × List (List UInt8 × List UInt8 × List UInt8))) (p1 : List (List UInt8 × Bool × List (List UInt8 × List UInt8 × List UInt8))) : Nat → Int → Option (Unit ⊕ Bool)
  | 0, _ => none
  | m5 + 1, n4 => (if n4 < (p0.length : Int) then ((idx p0 n4).bind fun a10 => (idx p1 n4).bind fun a11 => (if a10.1 = a11.1 then (idx p0 n4).bind fun a13 => (idx p1 n4).bind fun a14 => (if a13.2.1 = a14.2.1 then (idx p0 n4).bind fun a16 => (idx p1 n4).bind fun a17 => (R_SameAddresses a16.2.2 a17.2.2).bind fun b18 => some (!b18) else some true) else some true)).bind fun b9 => (if b9 = true then some (.inr false) else (chk (n4 + 1)).bind fun n22 => R_SameItems_L1 p0 p1 m5 n22) else some (.inl ()))
def R_SameItems (p0 : List (List UInt8 × Bool × List (List UInt8 × List UInt8 × List UInt8))) (p1 : List (List UInt8 × Bool × List (List UInt8 × List UInt8 × List UInt8))) : Option Bool :=
  (if (p0.length : Int) = (p1.length : Int) then ((R_SameItems_L1 p0 p1 FU 0 : Option (Unit ⊕ Bool))).bind fun o25 => (match o25 with | .inl _ => some true | .inr r24 => some r24) else some false)
def L_AddressNormalMatchesSpec (p0 : (List UInt8 × List UInt8 × List UInt8)) : Option Bool :=
  (L_addressExample).bind fun b1 => (if b1 = true then (address_Normal (p0.1, p0.2.1, p0.2.2)).bind fun (s4, (n5, n6)) => (R_AddressFault (p0.1, p0.2.1, p0.2.2)).bind fun (n8, n9) => (if n8 = (0 : Int) then (R_Lower p0.2.2).bind fun s17 => (address_Parse s4).bind fun (l19, (n20, n21)) => ((if n5 = (0 : Int) then (R_SpecOf ([], p0.2.1, s17)).bind fun s27 => (if s4 = s27 then (if n20 = (0 : Int) then (R_SameItems l19 ([([], false, ([([], p0.2.1, s17)] : List (List UInt8 × List UInt8 × List UInt8)))] : List (List UInt8 × Bool × List (List UInt8 × List UInt8 × List UInt8)))).bind fun b32 => some b32 else some false) else some false) else some false)).bind fun b25 => some b25 else ((if n5 = n8 ∧ n6 = n9 then some (decide (s4 = [])) else some false)).bind fun b14 => some b14) else some false)
end Go.Ph.Pf
end
