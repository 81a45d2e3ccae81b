/-
  Arrays as lists; variables that are only read, through a pointer; ranges over texts; a character as a text. No program in sight.
-/
import Derived.Test.YtlopnlagpdchiaaGreatDoorRec
import Derived.Test.YtlopnlagpdchiaaGreatDoorConf
import Derived.Laws.Runes
import Derived.WideLaws
set_option linter.unusedVariables false
set_option linter.unusedSimpArgs false
namespace Go.Ph
open Go Go.RowKit Pl
def PtM (M : Mem) (b : Nat) (o : Obj) : Prop := M b = some o
theorem PtM.mono {M M' : Mem} {b : Nat} {o : Obj} (h : PtM M b o) (hl : M.le M') : PtM M' b o := hl _ _ h
theorem PtM.cell {M : Mem} {b j : Nat} {cs : List Value} {t : TypeId} {u : Value} (h : PtM M b (.cells cs.toArray t)) (hj : cs[j]? = some u) : CellM M ⟨b, j, none⟩ u := ⟨rfl, _, _, _, h, by rw [List.getElem?_toArray]; exact hj⟩
theorem PtM.all {M : Mem} {b : Nat} {cs : List Value} {t : TypeId} (h : PtM M b (.cells cs.toArray t)) : CellsM M ⟨b, 0, none⟩ cs := ⟨rfl, _, _, _, h, fun j u hj => by rw [Nat.zero_add, List.getElem?_toArray]; exact hj⟩
section
variable {C : Nat → Prop} {r : Option Nat} {P : Program} {ops : Array Oper} {Q : Exit → Act → World → Prop} {n : Nat} {D : List Deferred} {rest : List Oper} {e : Env} {w0 w : World} {M0 M : Mem} {L L' : List Item} {d : Nat} {v u z : Value}
  {x y : Operand} {ty t t' te ts tt t0 : TypeId} {pos : String} {af : Array Edge} {g : Option (Nat × Bool)} {dst : Option Tmp} {α : Type} {enc : α → Value} {l l2 l3 l4 : List α} {b len : Nat}
theorem Ex.idxArrC {i : Int} {a : α} {k : IntKind} (hs : P.underlying t = some (.array len t0)) (hz : ∀ w, (sizeOf t0).run P w = .ok 1 w) (hx : ev e x = some (ptr b 0)) (hy : ev e y = some (.int k i)) (hi : idxA len l i = some a) :
    Ex P ⟨dst, .indexAddr t x y, ty, pos, af, g⟩ e w (ptr b i.toNat) w := by
  obtain ⟨h1, h2⟩ := idxA_some hi
  have h3 := idx_lt h2
  have := Ex.idxArr (P := P) (w := w) (dst := dst) (ty := ty) (pos := pos) (af := af) (g := g) (i := i.toNat) hs hz hx (by rw [hy, Int.toNat_of_nonneg h3.1]) (by omega)
  rwa [Nat.zero_add, Nat.mul_one] at this
theorem map_idx {i : Int} {a : α} (hi : idxA len l i = some a) : (l.map enc)[i.toNat]? = some (enc a) := by
  rw [List.getElem?_map, (idx_some (idxA_some hi).2).2]; rfl
theorem Ex.loadArr {i : Int} {a : α} (H : StX C w0 M0 M L w) (hx : ev e x = some (ptr b i.toNat)) (hm : Item.blk b (.cells (l.map enc).toArray t') ∈ L) (hi : idxA len l i = some a) (ha : ∀ w, (isAgg tt).run P w = .ok false w) :
    Ex P ⟨dst, .load tt x, ty, pos, af, g⟩ e w (enc a) w := Ex.load1 H hx hm ha (map_idx hi)
theorem Ex.loadArrM {i : Int} {a : α} (H : StX C w0 M0 M L w) (hx : ev e x = some (ptr b i.toNat)) (hp : PtM M b (.cells (l.map enc).toArray t')) (hi : idxA len l i = some a) (ha : ∀ w, (isAgg tt).run P w = .ok false w) :
    Ex P ⟨dst, .load tt x, ty, pos, af, g⟩ e w (enc a) w := Ex.loadM H hx (hp.cell (map_idx hi)) ha
theorem WR.storeArr {i : Int} {a : α} {L' : Item → List Item} (H : StX C w0 M0 M L w) (hx : ev e x = some (ptr b i.toNat)) (hy : ev e y = some (enc a)) (ho : One (enc a)) (hu : ∀ it', Upd L (.blk b (.cells (l.map enc).toArray t')) it' (L' it')) (hi : putA len l i a = some l2)
    (hs : ∀ w, (sizeOf tt).run P w = .ok 1 w) (hw : Wn ops n D e ⟨none, .store tt x y, ty, pos, af, g⟩) (k : ∀ w', StX C w0 M0 M (L' (.blk b (.cells (l2.map enc).toArray t'))) w' → WR r P ops Q n D rest e w') :
    WR r P ops Q n D (⟨none, .store tt x y, ty, pos, af, g⟩ :: rest) e w := by
  obtain ⟨h1, h2⟩ := putA_some hi
  obtain ⟨h3, rfl⟩ := put_some h2
  exact WR.store1 _ H hx hy (hu _) (by rw [List.map_set]) hs (by rw [List.length_map]; omega) ho.2 ho.1 hw k
theorem Ex.loadAggA (H : StX C w0 M0 M L w) (hx : ev e x = some (ptr b 0)) (hm : Item.blk b (.cells (l.map enc).toArray t') ∈ L) (ha : ∀ w, (isAgg tt).run P w = .ok true w) (hs : ∀ w, (sizeOf tt).run P w = .ok len w) (hl : chkA len l = some l2) :
    Ex P ⟨dst, .load tt x, ty, pos, af, g⟩ e w (.agg (l2.map enc).toArray) w := by
  obtain ⟨h1, rfl⟩ := chkA_some hl
  exact Ex.loadAgg H hx hm ha hs (by rw [List.length_map]; exact h1)
theorem StX.loadAggA (H : StX C w0 M0 M L w) (hm : Item.blk b (.cells (l.map enc).toArray t') ∈ L) (ha : ∀ w, (isAgg tt).run P w = .ok true w) (hs : ∀ w, (sizeOf tt).run P w = .ok len w) (hl : chkA len l = some l2) : (loadVar tt ⟨b, 0, none⟩).run P w = .ok (.agg (l2.map enc).toArray) w := by
  obtain ⟨h1, rfl⟩ := chkA_some hl
  exact H.loadAgg hm ha hs (by rw [List.length_map]; exact h1)
theorem WR.storeA {L' : Item → List Item} (H : StX C w0 M0 M L w) (hx : ev e x = some (ptr b 0)) (hy : ev e y = some (.agg (l2.map enc).toArray)) (ho : ∀ a, (enc a).oneCell' = true) (hu : ∀ it', Upd L (.blk b (.cells (l.map enc).toArray t')) it' (L' it')) (h1 : chkA len l = some l3) (h2 : chkA len l2 = some l4)
    (hs : ∀ w, (sizeOf tt).run P w = .ok len w) (hw : Wn ops n D e ⟨none, .store tt x y, ty, pos, af, g⟩) (k : ∀ w', StX C w0 M0 M (L' (.blk b (.cells (l2.map enc).toArray t'))) w' → WR r P ops Q n D rest e w') :
    WR r P ops Q n D (⟨none, .store tt x y, ty, pos, af, g⟩ :: rest) e w := by
  have e1 := (chkA_some h1).1
  have e2 := (chkA_some h2).1
  exact WR.store _ H hx hy rfl (hu _) hs (by rw [List.length_map]; exact e2) (by rw [List.length_map]; exact e1) (by rw [List.all_map]; exact List.all_eq_true.2 (fun a _ => ho a)) hw k
theorem Ex.nilCheckP {p : Addr} (h : ev e x = some (.pointer (some p))) : Ex P ⟨dst, .nilCheck x, ty, pos, af, g⟩ e w (.pointer (some p)) w := ⟨nofun, fun ρ hf => by simp [execOp, hf _ _ h]⟩
theorem Ex.runeStr {d0 : TypeDesc} {k : IntKind} {a : Int} (hs : P.underlying t = some d0) (hd : P.underlying t' = some .string) (hx : ev e x = some (.int k a)) : Ex P ⟨dst, .convert t t' x, ty, pos, af, g⟩ e w (S (Chs.utf8 a)) w :=
  ⟨nofun, fun ρ hf => by
    have hr := run_convert_int_string (P := P) w t t' k a (by rw [hs]; rfl) hd
    rw [Chs.encode_utf8] at hr
    simp only [execOp, hf _ _ hx, Sem.run_bind, hr, Result.andThen_ok, Sem.run_pure]⟩
/-- a variable that is only read from now on -/
theorem StX.freezeVar {cs : Array Value} (H : St w0 M0 M L w) (hr : Rem L (.blk b (.cells cs t)) L') : ∃ M', M.le M' ∧ PtM M' b (.cells cs t) ∧ St w0 M0 M' L' w := H.freezeBlk hr
end
/-- an error: whether it is nil -/
def NilB (M : Mem) (v : Value) (b : Bool) : Prop := (b = true ∧ v = .nilIface) ∨ (b = false ∧ ∃ t u, v = .iface t u)
theorem NilB.mono {M M' : Mem} {v : Value} {b : Bool} (h : NilB M v b) (hl : M.le M') : NilB M' v b := h
section
variable {C : Nat → Prop} {r : Option Nat} {P : Program} {ops : Array Oper} {Q : Exit → Act → World → Prop} {n : Nat} {D : List Deferred} {rest : List Oper} {e : Env} {w0 w : World} {M0 M : Mem} {L L' : List Item} {d : Nat} {v u z : Value}
  {x : Operand} {ty t t' te ts tt t0 : TypeId} {pos : String} {af : Array Edge} {g : Option (Nat × Bool)} {dst : Option Tmp} {b : Bool}
theorem Ex.eqlNil (ht : P.underlying t = some (.interface (P.methodsAt t))) (h : NilB M v b) (hx : ev e x = some v) : Ex P ⟨dst, .binOp .eql t x (.const .nilIface) t', ty, pos, af, g⟩ e w (.bool b) w :=
  ⟨nofun, fun ρ hf => by
    have h2 : ρ (.const .nilIface) = .nilIface := hf _ _ rfl
    rcases h with ⟨rfl, rfl⟩ | ⟨rfl, t1, u1, rfl⟩ <;>
    simp [execOp, hf _ _ hx, h2, eqGuard, run_eql_held_nil _ _ _ _ ht, run_eql_nil_nil _ _ ht]⟩
theorem Ex.neqNil (ht : P.underlying t = some (.interface (P.methodsAt t))) (h : NilB M v b) (hx : ev e x = some v) : Ex P ⟨dst, .binOp .neq t x (.const .nilIface) t', ty, pos, af, g⟩ e w (.bool (!b)) w :=
  ⟨nofun, fun ρ hf => by
    have h2 : ρ (.const .nilIface) = .nilIface := hf _ _ rfl
    rcases h with ⟨rfl, rfl⟩ | ⟨rfl, t1, u1, rfl⟩ <;>
    simp [execOp, hf _ _ hx, h2, eqGuard, run_neq_held_nil _ _ _ _ ht, run_neq_nil_nil _ _ ht]⟩
/-- the whole of an array as a slice -/
theorem PtM.sl {α : Type} {M : Mem} {b n : Nat} {enc : α → Value} {l l2 : List α} {t : TypeId} (h : PtM M b (.cells (l.map enc).toArray t)) (hl : chkA n l = some l2) (hm : Nat.ble n 9223372036854775807 = true) : Sl M enc (.slice (some ⟨b, 0, none⟩) n n) l2 := by
  obtain ⟨h1, rfl⟩ := chkA_some hl
  have hm := Nat.le_of_ble_eq_true hm
  refine ⟨some ⟨b, 0, none⟩, n, by rw [h1], by omega, ⟨by simp only [maxLen]; omega, fun h => by cases h⟩, fun _ => ⟨b, 0, _, t, (0, 0), rfl, h, fun i x hi => ?_⟩⟩
  rw [Nat.zero_add, List.getElem?_toArray, List.getElem?_map, hi]; rfl
theorem Ex.idxAggA {α : Type} {enc : α → Value} {l : List α} {len : Nat} {i : Int} {a : α} {k : IntKind} {y : Operand} (ht : P.underlying t = some (.array len t0)) (hz : ∀ w, (sizeOf t0).run P w = .ok 1 w) (hg : ∀ w, (isAgg t0).run P w = .ok false w) (hx : ev e x = some (.agg (l.map enc).toArray)) (hy : ev e y = some (.int k i)) (hi : idxA len l i = some a) :
    Ex P ⟨dst, .index t x y, ty, pos, af, g⟩ e w (enc a) w :=
  ⟨nofun, fun ρ hf => by
    obtain ⟨h1, h2⟩ := idxA_some hi
    have h3 := idx_lt h2
    have h4 := (idx_some h2).2
    have h0 : (0 : Int) ≤ i ∧ i < (len : Int) := by omega
    have h5 : (l.map enc)[i.toNat]? = some (enc a) := by rw [List.getElem?_map, h4]; rfl
    simp only [execOp, hf _ _ hx, hf _ _ hy, Instr.index, asIntOf, Sem.run_bind, run_underlying ht, Result.andThen_ok, Sem.run_pure, hz, h0, and_self, if_true, Nat.mul_one, part, hg, Bool.false_eq_true, if_false, List.getElem?_toArray, h5]⟩
end
/-- operations that are not carried out, one behind the other: what is known of the slots behind them -/
def skips (ops : Array Oper) (n : Nat) : Env → List Oper → Option Env
  | e, [] => some e
  | e, o :: r => match o.guard, o.dst with
    | some (j, b), some d => match (ops[j]?).bind (·.dst) with
      | some t => match get e t with
        | some (.bool b') => bif (b' != b) && Nat.blt d n then skips ops n ((d, undef) :: e) r else none
        | some (.tuple _) => bif Nat.blt d n then skips ops n ((d, undef) :: e) r else none
        | _ => none
      | none => none
    | _, _ => none
section
variable {r : Option Nat} {P : Program} {ops : Array Oper} {Q : Exit → Act → World → Prop} {n : Nat} {D : List Deferred} {e e' : Env} {w : World}
theorem WR.skips : ∀ {sk : List Oper} {rest : List Oper} {e : Env}, Ph.skips ops n e sk = some e' → WR r P ops Q n D rest e' w → WR r P ops Q n D (sk ++ rest) e w
  | [], rest, e, h, k => by
    cases h; exact k
  | o :: sk, rest, e, h, k => by
    rw [Ph.skips] at h
    split at h
    case h_2 => cases h
    rename_i j b d hg hd
    split at h
    case h_2 => cases h
    rename_i t ht
    split at h
    · rename_i b' hb
      cases hc : ((b' != b) && Nat.blt d n) with
      | false => rw [hc] at h; cases h
      | true =>
        rw [hc] at h
        rw [Bool.and_eq_true] at hc
        have hne : b' ≠ b := by simpa using hc.1
        exact WR.skipK (fun a ha => by
          have := yielded_of ht ha hb
          simp [Region.wanted, hg, this, hne]) hd (Nat.le_of_ble_eq_true hc.2) (WR.skips h k)
    · rename_i xs hb
      cases hc : Nat.blt d n with
      | false => rw [hc] at h; cases h
      | true =>
        rw [hc] at h
        exact WR.skipK (fun a ha => by
          have hv := ha.val t _ hb
          have : yielded ops a.tmps j = none := by
            unfold yielded
            rw [ht]
            simp only [Option.bind_some]
            cases htt : a.tmps[t]? with
            | none => rfl
            | some x => simp [htt] at hv; subst hv; rfl
          simp [Region.wanted, hg, this]) hd (Nat.le_of_ble_eq_true hc) (WR.skips h k)
    · cases h
theorem WR.skipN (m : Nat) {l rest : List Oper} (hr : l.drop m = rest) (h : Ph.skips ops n e (l.take m) = some e') (k : WR r P ops Q n D rest e' w) : WR r P ops Q n D l e w := by
  subst hr
  have := WR.skips h k
  rwa [List.take_append_drop] at this
end
end Go.Ph
