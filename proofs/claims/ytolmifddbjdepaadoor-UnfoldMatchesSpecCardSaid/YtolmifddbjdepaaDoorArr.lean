/-
  Arrays as lists; variables that are only read, through a pointer; ranges over texts; a character as a text. No program in sight.
-/
import Derived.Test.YtolmifddbjdepaaDoorRec
import Derived.Laws.Runes
set_option linter.unusedVariables false
set_option linter.unusedSimpArgs false
namespace Go.Ph
open Go Go.RowKit Pl
def PtM (M : Mem) (b : Nat) (o : Obj) : Prop := M b = some o
theorem PtM.mono {M M' : Mem} {b : Nat} {o : Obj} (h : PtM M b o) (hl : M.le M') : PtM M' b o := hl _ _ h
theorem PtM.cell {M : Mem} {b j : Nat} {cs : List Value} {t : TypeId} {u : Value} (h : PtM M b (.cells cs.toArray t)) (hj : cs[j]? = some u) : CellM M ⟨b, j, none⟩ u := ⟨rfl, _, _, _, h, by rw [List.getElem?_toArray]; exact hj⟩
theorem PtM.all {M : Mem} {b : Nat} {cs : List Value} {t : TypeId} (h : PtM M b (.cells cs.toArray t)) : CellsM M ⟨b, 0, none⟩ cs := ⟨rfl, _, _, _, h, fun j u hj => by rw [Nat.zero_add, List.getElem?_toArray]; exact hj⟩
section
variable {C : Nat → Prop} {r : Option Nat} {P : Program} {ops : Array Oper} {Q : Exit → Act → World → Prop} {n : Nat} {D : List Deferred} {rest : List Oper} {e : Env} {w0 w : World} {M0 M : Mem} {L L' : List Item} {d : Nat} {v u z : Value}
  {x y : Operand} {ty t t' te ts tt t0 : TypeId} {pos : String} {af : Array Edge} {g : Option (Nat × Bool)} {dst : Option Tmp} {α : Type} {enc : α → Value} {l l2 l3 l4 : List α} {b len : Nat}
theorem Ex.idxArrC {i : Int} {a : α} {k : IntKind} (hs : P.underlying t = some (.array len t0)) (hz : ∀ w, (sizeOf t0).run P w = .ok 1 w) (hx : ev e x = some (ptr b 0)) (hy : ev e y = some (.int k i)) (hi : idxA len l i = some a) :
    Ex P ⟨dst, .indexAddr t x y, ty, pos, af, g⟩ e w (ptr b i.toNat) w := by
  obtain ⟨h1, h2⟩ := idxA_some hi
  have h3 := idx_lt h2
  have := Ex.idxArr (P := P) (w := w) (dst := dst) (ty := ty) (pos := pos) (af := af) (g := g) (i := i.toNat) hs hz hx (by rw [hy, Int.toNat_of_nonneg h3.1]) (by omega)
  rwa [Nat.zero_add, Nat.mul_one] at this
theorem map_idx {i : Int} {a : α} (hi : idxA len l i = some a) : (l.map enc)[i.toNat]? = some (enc a) := by
  rw [List.getElem?_map, (idx_some (idxA_some hi).2).2]; rfl
theorem Ex.loadArr {i : Int} {a : α} (H : StX C w0 M0 M L w) (hx : ev e x = some (ptr b i.toNat)) (hm : Item.blk b (.cells (l.map enc).toArray t') ∈ L) (hi : idxA len l i = some a) (ha : ∀ w, (isAgg tt).run P w = .ok false w) :
    Ex P ⟨dst, .load tt x, ty, pos, af, g⟩ e w (enc a) w := Ex.load1 H hx hm ha (map_idx hi)
theorem Ex.loadArrM {i : Int} {a : α} (H : StX C w0 M0 M L w) (hx : ev e x = some (ptr b i.toNat)) (hp : PtM M b (.cells (l.map enc).toArray t')) (hi : idxA len l i = some a) (ha : ∀ w, (isAgg tt).run P w = .ok false w) :
    Ex P ⟨dst, .load tt x, ty, pos, af, g⟩ e w (enc a) w := Ex.loadM H hx (hp.cell (map_idx hi)) ha
theorem WR.storeArr {i : Int} {a : α} {L' : Item → List Item} (H : StX C w0 M0 M L w) (hx : ev e x = some (ptr b i.toNat)) (hy : ev e y = some (enc a)) (ho : One (enc a)) (hu : ∀ it', Upd L (.blk b (.cells (l.map enc).toArray t')) it' (L' it')) (hi : putA len l i a = some l2)
    (hs : ∀ w, (sizeOf tt).run P w = .ok 1 w) (hw : Wn ops n D e ⟨none, .store tt x y, ty, pos, af, g⟩) (k : ∀ w', StX C w0 M0 M (L' (.blk b (.cells (l2.map enc).toArray t'))) w' → WR r P ops Q n D rest e w') :
    WR r P ops Q n D (⟨none, .store tt x y, ty, pos, af, g⟩ :: rest) e w := by
  obtain ⟨h1, h2⟩ := putA_some hi
  obtain ⟨h3, rfl⟩ := put_some h2
  exact WR.store1 _ H hx hy (hu _) (by rw [List.map_set]) hs (by rw [List.length_map]; omega) ho.2 ho.1 hw k
theorem Ex.loadAggA (H : StX C w0 M0 M L w) (hx : ev e x = some (ptr b 0)) (hm : Item.blk b (.cells (l.map enc).toArray t') ∈ L) (ha : ∀ w, (isAgg tt).run P w = .ok true w) (hs : ∀ w, (sizeOf tt).run P w = .ok len w) (hl : chkA len l = some l2) :
    Ex P ⟨dst, .load tt x, ty, pos, af, g⟩ e w (.agg (l2.map enc).toArray) w := by
  obtain ⟨h1, rfl⟩ := chkA_some hl
  exact Ex.loadAgg H hx hm ha hs (by rw [List.length_map]; exact h1)
theorem StX.loadAggA (H : StX C w0 M0 M L w) (hm : Item.blk b (.cells (l.map enc).toArray t') ∈ L) (ha : ∀ w, (isAgg tt).run P w = .ok true w) (hs : ∀ w, (sizeOf tt).run P w = .ok len w) (hl : chkA len l = some l2) : (loadVar tt ⟨b, 0, none⟩).run P w = .ok (.agg (l2.map enc).toArray) w := by
  obtain ⟨h1, rfl⟩ := chkA_some hl
  exact H.loadAgg hm ha hs (by rw [List.length_map]; exact h1)
theorem WR.storeA {L' : Item → List Item} (H : StX C w0 M0 M L w) (hx : ev e x = some (ptr b 0)) (hy : ev e y = some (.agg (l2.map enc).toArray)) (ho : ∀ a, (enc a).oneCell' = true) (hu : ∀ it', Upd L (.blk b (.cells (l.map enc).toArray t')) it' (L' it')) (h1 : chkA len l = some l3) (h2 : chkA len l2 = some l4)
    (hs : ∀ w, (sizeOf tt).run P w = .ok len w) (hw : Wn ops n D e ⟨none, .store tt x y, ty, pos, af, g⟩) (k : ∀ w', StX C w0 M0 M (L' (.blk b (.cells (l2.map enc).toArray t'))) w' → WR r P ops Q n D rest e w') :
    WR r P ops Q n D (⟨none, .store tt x y, ty, pos, af, g⟩ :: rest) e w := by
  have e1 := (chkA_some h1).1
  have e2 := (chkA_some h2).1
  exact WR.store _ H hx hy rfl (hu _) hs (by rw [List.length_map]; exact e2) (by rw [List.length_map]; exact e1) (by rw [List.all_map]; exact List.all_eq_true.2 (fun a _ => ho a)) hw k
theorem Ex.nilCheckP {p : Addr} (h : ev e x = some (.pointer (some p))) : Ex P ⟨dst, .nilCheck x, ty, pos, af, g⟩ e w (.pointer (some p)) w := ⟨nofun, fun ρ hf => by simp [execOp, hf _ _ h]⟩
theorem Ex.runeStr {d0 : TypeDesc} {k : IntKind} {a : Int} (hs : P.underlying t = some d0) (hd : P.underlying t' = some .string) (hx : ev e x = some (.int k a)) : Ex P ⟨dst, .convert t t' x, ty, pos, af, g⟩ e w (S (Chs.utf8 a)) w :=
  ⟨nofun, fun ρ hf => by
    have hr := run_convert_int_string (P := P) w t t' k a (by rw [hs]; rfl) hd
    rw [Chs.encode_utf8] at hr
    simp only [execOp, hf _ _ hx, Sem.run_bind, hr, Result.andThen_ok, Sem.run_pure]⟩
/-- a variable that is only read from now on -/
theorem StX.freezeVar {cs : Array Value} (H : St w0 M0 M L w) (hr : Rem L (.blk b (.cells cs t)) L') : ∃ M', M.le M' ∧ PtM M' b (.cells cs t) ∧ St w0 M0 M' L' w := H.freezeBlk hr
end
end Go.Ph
