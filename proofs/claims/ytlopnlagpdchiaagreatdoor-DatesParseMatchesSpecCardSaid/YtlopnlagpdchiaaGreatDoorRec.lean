/-
  Rows of records: a slice of the call's own whose elements are of several cells. No program in sight.
-/
import Derived.Test.YtlopnlagpdchiaaGreatDoorExb
set_option linter.unusedVariables false
set_option linter.unusedSimpArgs false
namespace Go.Ph
open Go Go.RowKit Pl
abbrev RowS {α : Type} (t : TypeId) (kk : Nat) (enc : α → List Value) (v : Value) (l : List α) : Item := .row t kk v l.length (l.flatMap enc)
theorem splice {α : Type} (cur U : List α) (n p off s kk : Nat) (hU : U.length = s) (hoff : off + s ≤ kk) (h : p + kk ≤ n) (hn : n ≤ cur.length) :
 (cur.take (p+off) ++ U ++ cur.drop (p+off+s)).take n = (cur.take n).take p ++ ((((cur.take n).drop p).take kk).take off ++ U ++ (((cur.take n).drop p).take kk).drop (off+s)) ++ (cur.take n).drop (p+kk) := by
  obtain ⟨a, b, rfl, hb⟩ : ∃ a b, cur = a ++ b ∧ a.length = n := ⟨cur.take n, cur.drop n, by simp, by simp; omega⟩
  obtain ⟨c, d, rfl, hc⟩ : ∃ c d, a = c ++ d ∧ c.length = p := ⟨a.take p, a.drop p, by simp, by simp; omega⟩
  obtain ⟨x, y, rfl, hx⟩ : ∃ c x, d = c ++ x ∧ c.length = kk := ⟨d.take kk, d.drop kk, by simp, by simp at *; omega⟩
  obtain ⟨x1, x2, rfl, hx1⟩ : ∃ c d, x = c ++ d ∧ c.length = off := ⟨x.take off, x.drop off, by simp, by simp at *; omega⟩
  obtain ⟨x3, x4, rfl, hx3⟩ : ∃ c d, x2 = c ++ d ∧ c.length = s := ⟨x2.take s, x2.drop s, by simp, by simp at *; omega⟩
  subst hc hx1
  simp only [List.length_append] at hb hx
  have e1 : ((c ++ (x1 ++ (x3 ++ x4) ++ y)) ++ b).take (c.length + x1.length) = c ++ x1 := by
    rw [show (c ++ (x1 ++ (x3 ++ x4) ++ y)) ++ b = (c ++ x1) ++ (x3 ++ x4 ++ y ++ b) by simp]; exact List.take_left' (by simp)
  have e2 : ((c ++ (x1 ++ (x3 ++ x4) ++ y)) ++ b).drop (c.length + x1.length + s) = x4 ++ y ++ b := by
    rw [show (c ++ (x1 ++ (x3 ++ x4) ++ y)) ++ b = (c ++ x1 ++ x3) ++ (x4 ++ y ++ b) by simp]; exact List.drop_left' (by simp; omega)
  have e3 : ((c ++ (x1 ++ (x3 ++ x4) ++ y)) ++ b).take n = c ++ (x1 ++ (x3 ++ x4) ++ y) := List.take_left' (by simp; omega)
  rw [e1, e2, e3]
  have e4 : (c ++ (x1 ++ (x3 ++ x4) ++ y)).take c.length = c := List.take_left
  have e5 : (c ++ (x1 ++ (x3 ++ x4) ++ y)).drop c.length = (x1 ++ (x3 ++ x4)) ++ y := by rw [List.drop_left]
  have e6 : ((x1 ++ (x3 ++ x4)) ++ y).take kk = x1 ++ (x3 ++ x4) := List.take_left' (by simp; omega)
  have e7 : (x1 ++ (x3 ++ x4)).take x1.length = x1 := List.take_left
  have e8 : (x1 ++ (x3 ++ x4)).drop (x1.length + s) = x4 := by rw [show x1 ++ (x3 ++ x4) = (x1 ++ x3) ++ x4 by simp]; exact List.drop_left' (by simp; omega)
  have e9 : (c ++ (x1 ++ (x3 ++ x4) ++ y)).drop (c.length + kk) = y := by rw [show c ++ (x1 ++ (x3 ++ x4) ++ y) = (c ++ x1 ++ x3 ++ x4) ++ y by simp]; exact List.drop_left' (by simp; omega)
  rw [e4, e5, e6, e7, e8, e9]
  rw [show c ++ x1 ++ U ++ (x4 ++ y ++ b) = (c ++ (x1 ++ U ++ x4) ++ y) ++ b by simp]
  exact List.take_left' (by simp; omega)
section
variable {α : Type} {enc : α → List Value} {kk : Nat}
theorem flat_len (h0 : ∀ x, (enc x).length = kk) : ∀ l : List α, (l.flatMap enc).length = l.length * kk
  | [] => by simp
  | x :: l => by rw [List.flatMap_cons, List.length_append, h0, flat_len h0 l, List.length_cons, Nat.add_mul]; omega
theorem flat_set (h0 : ∀ x, (enc x).length = kk) : ∀ (l : List α) (i : Nat) (a : α), i < l.length → (l.set i a).flatMap enc = (l.flatMap enc).take (i * kk) ++ enc a ++ (l.flatMap enc).drop (i * kk + kk)
  | [], i, a, h => by simp at h
  | x :: l, 0, a, _ => by
    rw [List.set_cons_zero, List.flatMap_cons, List.flatMap_cons, Nat.zero_mul, List.take_zero, List.nil_append, Nat.zero_add, List.drop_append_of_le_length (by rw [h0]; exact Nat.le_refl _), List.drop_of_length_le (by rw [h0]; exact Nat.le_refl _), List.nil_append]
  | x :: l, i + 1, a, h => by
    have ih := flat_set h0 l i a (by simpa using h)
    rw [List.set_cons_succ, List.flatMap_cons, List.flatMap_cons, ih, Nat.add_mul, Nat.one_mul]
    have t1 : (enc x ++ l.flatMap enc).take (i * kk + kk) = enc x ++ (l.flatMap enc).take (i * kk) := by
      rw [List.take_append, List.take_of_length_le (l := enc x) (by rw [h0]; omega), h0, show i * kk + kk - kk = i * kk by omega]
    have t2 : (enc x ++ l.flatMap enc).drop (i * kk + kk + kk) = (l.flatMap enc).drop (i * kk + kk) := by
      rw [List.drop_append, List.drop_of_length_le (l := enc x) (by rw [h0]; omega), h0, show i * kk + kk + kk - kk = i * kk + kk by omega, List.nil_append]
    rw [t1, t2]
    simp [List.append_assoc]
end
section
variable {C : Nat → Prop} {r : Option Nat} {P : Program} {ops : Array Oper} {Q : Exit → Act → World → Prop} {n : Nat} {D : List Deferred} {rest : List Oper} {e : Env} {w0 w : World} {M0 M : Mem} {L L' : List Item} {d : Nat} {v u z : Value}
  {x y : Operand} {ty t t' te ts tt : TypeId} {pos : String} {af : Array Edge} {g : Option (Nat × Bool)} {dst : Option Tmp} {α : Type} {enc : α → List Value} {kk : Nat} {l l2 l3 : List α}
theorem StX.newRowS (H : StX C w0 M0 M L w) (t : TypeId) (kk : Nat) (enc : α → List Value) : StX C w0 M0 M (RowS t kk enc (.slice none 0 0) [] :: L) w :=
  H.newNone (World.ownsRow_nil _ _ _ _) rfl
theorem StX.freezeRowS (H : St w0 M0 M L w) (hr : Rem L (RowS t kk enc v l) L') (h0 : ∀ x, (enc x).length = kk) : ∃ M', M.le M' ∧ SlS M' kk enc v l ∧ St w0 M0 M' L' w := by
  have hown := H.rowOf hr.mem
  rcases hown.2 with ⟨hv, hn⟩ | ⟨g, cap, cur, hv, hb, hg, hnc, hcm, hcs, htake⟩
  · have : l = [] := List.eq_nil_of_length_eq_zero hn
    subst this
    subst hv
    exact ⟨M, Mem.le.refl M, SlS.nil M enc h0, H.drop hr.sublist⟩
  · have hf : (RowS t kk enc v l).foot = some g := by rw [hv]; rfl
    obtain ⟨h1, h2⟩ := H.freeze hr hf hg (((H.own _ hr.mem).2 g hf).2.resolve_right (fun h => h))
    refine ⟨_, h1, ⟨h0, some ⟨g, 0, none⟩, cap, hv, hnc, ⟨hcm, fun h => by cases h⟩, fun _ => ⟨g, 0, cur, t, (0, 0), rfl, by simp [Mem.set], fun i x hx j u hj => ?_⟩⟩, h2⟩
    have h3 := flat_at h0 l i j x u hx hj
    rw [← htake, List.getElem?_take] at h3
    split at h3
    · rw [Nat.zero_add]; simpa using h3
    · cases h3
theorem StX.lenRowS (H : StX C w0 M0 M L w) (hm : RowS t kk enc v l ∈ L) : ∃ A c, v = .slice A l.length c := by
  rcases (H.rowOf hm).2 with ⟨hv, hn⟩ | ⟨g, cap, cur, hv, _⟩
  · exact ⟨none, 0, by rw [hv, hn]⟩
  · exact ⟨_, cap, hv⟩
theorem Ex.lenRowS (ht : P.underlying ts = some (.slice t')) (H : StX C w0 M0 M L w) (hm : RowS t kk enc v l ∈ L) (hx : ev e x = some v) : Ex P ⟨dst, .call ⟨.builtin .len, #[x], #[ts]⟩, ty, pos, af, g⟩ e w (I l.length) w := by
  obtain ⟨A, c, rfl⟩ := H.lenRowS hm
  exact Ex.lenSlice ht hx
theorem StX.rowOneS (H : StX C w0 M0 M L w) (hm : RowS t kk enc v l ∈ L) : One v := by
  obtain ⟨A, c, rfl⟩ := H.lenRowS hm; exact One.slice _ _ _
theorem SlS.src (ht : P.underlying t = some (.slice t')) (h : SlS M kk enc v l) (ha : Ag M w) (h1 : ∀ a, ∀ u ∈ enc a, u.oneCell' = true) : Src P kk t v l.length (l.flatMap enc) w := by
  obtain ⟨h0, A, c, rfl, hc1, hc2, h3⟩ := h
  have h1' : ∀ u ∈ l.flatMap enc, u.oneCell' = true := fun u hu => by obtain ⟨a, _, hu⟩ := List.mem_flatMap.1 hu; exact h1 a u hu
  have hpos : ∀ j u, (l.flatMap enc)[j]? = some u → ∃ i x k, l[i]? = some x ∧ (enc x)[k]? = some u ∧ j = i * kk + k := by
    clear h3 h1' hc1 hc2
    induction l with
    | nil => intro j u h; simp at h
    | cons y l ih =>
      intro j u h
      rw [List.flatMap_cons] at h
      rcases Nat.lt_or_ge j kk with hj | hj
      · rw [List.getElem?_append_left (by rw [h0]; exact hj)] at h
        exact ⟨0, y, j, rfl, h, by omega⟩
      · rw [List.getElem?_append_right (by rw [h0]; exact hj), h0] at h
        obtain ⟨i, x, k, e1, e2, e3⟩ := ih _ _ h
        exact ⟨i + 1, x, k, by simpa using e1, e2, by rw [Nat.add_mul]; omega⟩
  cases A with
  | none =>
    have hnil : l = [] := by
      have := hc2.2 rfl
      exact List.eq_nil_of_length_eq_zero (by omega)
    subst hnil
    exact Src.ofNil w ht _
  | some ad =>
    rcases Nat.eq_zero_or_pos l.length with hl | hl
    · have hnil : l = [] := List.eq_nil_of_length_eq_zero hl
      subst hnil
      exact Src.ofSlice w ht ad _ _ _ (by simp) (fun j u h => by simp at h) h1'
    · obtain ⟨b, o, cs, t0, fz, e1, e2, e3⟩ := h3 (fun h => by rw [h] at hl; simp at hl)
      cases e1
      refine Src.ofSlice w ht ⟨b, o, none⟩ _ _ _ (flat_len h0 l) (fun j u h => ?_) h1'
      obtain ⟨i, x, k, f1, f2, rfl⟩ := hpos j u h
      rw [Addr.add_lit]
      have := (show CellM M ⟨b, o + (i * kk + k), none⟩ u from ⟨rfl, cs, t0, fz, e2, by rw [← Nat.add_assoc]; exact e3 i x f1 k u f2⟩).cell ha
      exact this
theorem WR.appSC {bytes : Nat} {L' : Item → List Item} (T : ElemTy P ts t z kk bytes) (hbp : Nat.blt 0 bytes = true) (h1 : ∀ a, ∀ u ∈ enc a, u.oneCell' = true) (H : StX C w0 M0 M L w) (hx : ev e x = some v) (hu : ∀ it', Upd L (RowS t kk enc v l) it' (L' it')) (hy : ev e y = some u)
    (hs : SlS M kk enc u l2) (ha : app bytes l l2 = some l3)
    (hw : Wn ops n D e ⟨some d, .call ⟨.builtin .append, #[x, y], #[ts, ts]⟩, ty, pos, af, g⟩) (hn : Nat.blt d n = true)
    (k : ∀ v' w', StX C w0 M0 M (L' (RowS t kk enc v' l3)) w' → WR r P ops Q n D rest ((d, v') :: e) w') :
    WR r P ops Q n D (⟨some d, .call ⟨.builtin .append, #[x, y], #[ts, ts]⟩, ty, pos, af, g⟩ :: rest) e w := by
  obtain ⟨hb, rfl⟩ := app_some ha
  have hb' := short_of (Nat.le_of_ble_eq_true hbp) hb
  have hm := (hu (RowS t kk enc v l)).mem
  obtain ⟨v', w', hrun, h1, h2, h3⟩ := run_append_own_src (P := P) (ty := ty) w 0 T v l.length (l.flatMap enc) (H.rowOf hm) u l2.length (l2.flatMap enc) (hs.src T.under H.ag h1) hb' hb (Nat.zero_le _)
  have h1' : w'.ownsRow 0 t kk v' (l ++ l2).length ((l ++ l2).flatMap enc) := by rw [List.length_append, List.flatMap_append]; exact h1
  refine WR.step (w' := w') ⟨nofun, fun ρ hfi => ?_⟩ hw rfl hn (k v' w' (H.upd (hu _) h2 h1' (fun b hb' => ?_)))
  · simp only [execOp, resolve, invoke, builtin, Sem.run_bind, Sem.run_pure, Result.andThen_ok, List.map_toArray, List.map_cons, List.map_nil, hfi _ _ hx, hfi _ _ hy, hrun]
  · have hb'' : v'.ownBlock = some b := hb'
    rcases h3 with h3 | h3
    · exact .inl (h3.symm.trans hb'')
    · rw [h3] at hb''
      have : w.heap.size = b := Option.some.inj hb''
      exact .inr (by omega)
theorem StX.rowAtS (H : StX C w0 M0 M L w) (hm : RowS t kk enc v l ∈ L) {i : Nat} {a : α} (hi : l[i]? = some a) :
    ∃ gb cap cur, v = .slice (some ⟨gb, 0, none⟩) l.length cap ∧ w.heap[gb]? = some (.cells cur t) ∧ l.length ≤ cap ∧ cur.size = cap * kk ∧ cap ≤ maxLen ∧ cur.toList.take (l.length * kk) = l.flatMap enc := by
  rcases (H.rowOf hm).2 with ⟨hv, hn⟩ | ⟨gb, cap, cur, hv, _, hg, hnc, hcm, hcs, htake⟩
  · rw [List.eq_nil_of_length_eq_zero hn] at hi; simp at hi
  · exact ⟨gb, cap, cur, hv, hg, hnc, hcs, hcm, htake⟩
theorem WR.idxRowSC {i : Int} {a : α} {k' : IntKind} (H : StX C w0 M0 M L w) (ht : P.underlying ts = some (.slice t')) (hz : ∀ w, (sizeOf t').run P w = .ok kk w) (hm : RowS t kk enc v l ∈ L) (hx : ev e x = some v) (hy : ev e y = some (.int k' i)) (hi : idx l i = some a)
    (hw : Wn ops n D e ⟨some d, .indexAddr ts x y, ty, pos, af, g⟩) (hn : Nat.blt d n = true) (k : ∀ gb, v.ownBlock = some gb → WR r P ops Q n D rest ((d, ptr gb (i.toNat * kk)) :: e) w) :
    WR r P ops Q n D (⟨some d, .indexAddr ts x y, ty, pos, af, g⟩ :: rest) e w := by
  obtain ⟨i0, hi⟩ := idx_some hi
  obtain ⟨j, rfl⟩ := Int.eq_ofNat_of_zero_le i0
  rw [Int.toNat_natCast] at hi k
  obtain ⟨gb, cap, cur, rfl, hg, h1, h2, h3, h4⟩ := H.rowAtS hm hi
  have hlt := (List.getElem?_eq_some_iff.1 hi).1
  refine WR.step (v := ptr gb (j * kk)) (w' := w) ⟨nofun, fun ρ hfi => ?_⟩ hw rfl hn (k gb rfl)
  have h0 : (0 : Int) ≤ (j : Int) ∧ (j : Int) < (l.length : Int) := by omega
  simp only [execOp, hfi _ _ hx, hfi _ _ hy, Instr.indexAt, Sem.run_bind, asIntOf, run_underlying ht, Result.andThen_ok, Sem.run_pure, hz, h0, and_self, if_true, Addr.add_lit, Int.toNat_natCast, Nat.zero_add]
theorem StX.rowCell {gb i j : Nat} {a : α} {u : Value} (H : StX C w0 M0 M L w) (hg : v.ownBlock = some gb) (hm : RowS t kk enc v l ∈ L) (h0 : ∀ x, (enc x).length = kk) (hi : l[i]? = some a) (hu : (enc a)[j]? = some u) : w.cell? ⟨gb, i * kk + j, none⟩ = some u := by
  obtain ⟨gb', cap, cur, rfl, hgb, h1, h2, h3, h4⟩ := H.rowAtS hm hi
  obtain rfl : gb' = gb := Option.some.inj hg
  rw [cell_of_row w gb' _ _ t _ hgb]
  have h5 := flat_at h0 l i j a u hi hu
  rw [← h4, List.getElem?_take] at h5
  split at h5
  · simpa using h5
  · cases h5
theorem Ex.loadRowF {gb j : Nat} {i : Int} {a : α} (H : StX C w0 M0 M L w) (hx : ev e x = some (ptr gb (i.toNat * kk + j))) (hg : v.ownBlock = some gb) (hm : RowS t kk enc v l ∈ L) (h0 : ∀ x, (enc x).length = kk) (hi : idx l i = some a) (hu : (enc a)[j]? = some u) (ha : ∀ w, (isAgg tt).run P w = .ok false w) :
    Ex P ⟨dst, .load tt x, ty, pos, af, g⟩ e w u w := Ex.loadK hx (by
  have hc := H.rowCell hg hm h0 (idx_some hi).2 hu
  simp only [loadVar, Sem.run_bind, ha, Result.andThen_ok, Bool.false_eq_true, if_false]
  simp [load, Sem.run, hc])
theorem Ex.loadRowA {gb : Nat} {i : Int} {a : α} (H : StX C w0 M0 M L w) (hx : ev e x = some (ptr gb (i.toNat * kk))) (hg : v.ownBlock = some gb) (hm : RowS t kk enc v l ∈ L) (h0 : ∀ x, (enc x).length = kk) (hi : idx l i = some a) (ha : ∀ w, (isAgg tt).run P w = .ok true w) (hs : ∀ w, (sizeOf tt).run P w = .ok kk w) :
    Ex P ⟨dst, .load tt x, ty, pos, af, g⟩ e w (.agg (enc a).toArray) w := Ex.loadK hx (by
  have hl := h0 a
  have hlc : (loadCells ⟨gb, i.toNat * kk, none⟩ (enc a).length).run P w = .ok (enc a).toArray w :=
    run_loadCells_list (P := P) w ⟨gb, i.toNat * kk, none⟩ (enc a) (fun j v hv => by rw [Addr.add_lit]; exact H.rowCell hg hm h0 (idx_some hi).2 hv)
  rw [hl] at hlc
  simp only [loadVar, Sem.run_bind, ha, Result.andThen_ok, if_true, hs, hlc, Sem.run_pure])
theorem WR.storeRowK {gb i off s : Nat} {a' : α} {L' : Item → List Item} (H : StX C w0 M0 M L w) (hx : ev e x = some (ptr gb (i * kk + off))) (hy : ev e y = some u) (hg : v.ownBlock = some gb) (hu : ∀ it', Upd L (RowS t kk enc v l) it' (L' it')) (h0 : ∀ x, (enc x).length = kk) (hi : i < l.length) (hoff : off + s ≤ kk)
    (hs : ∀ w, (sizeOf tt).run P w = .ok s w) (hvs : u.cells.size = s) (h1 : ∀ z ∈ u.cells.toList, z.oneCell' = true) (he : ∀ a, l[i]? = some a → enc a' = (enc a).take off ++ u.cells.toList ++ (enc a).drop (off + s))
    (hw : Wn ops n D e ⟨none, .store tt x y, ty, pos, af, g⟩) (k : ∀ w', StX C w0 M0 M (L' (RowS t kk enc v (l.set i a'))) w' → WR r P ops Q n D rest e w') :
    WR r P ops Q n D (⟨none, .store tt x y, ty, pos, af, g⟩ :: rest) e w := by
  have hm := (hu (RowS t kk enc v l)).mem
  have hia : l[i]? = some l[i] := List.getElem?_eq_getElem hi
  obtain ⟨gb', cap, cur, rfl, hgb, c1, c2, c3, c4⟩ := H.rowAtS hm hia
  obtain rfl : gb' = gb := Option.some.inj hg
  have hk1 : (i + 1) * kk ≤ l.length * kk := Nat.mul_le_mul_right _ hi
  have hk2 : l.length * kk ≤ cap * kk := Nat.mul_le_mul_right _ c1
  rw [Nat.add_mul, Nat.one_mul] at hk1
  have hrun := run_storeVar (P := P) (t := tt) (v := u) (o := i * kk + off) (s := s) hgb hs hvs (by omega) h1
  refine WR.stepS (w' := w.setRow gb' (cur.toList.take (i * kk + off) ++ u.cells.toList ++ cur.toList.drop (i * kk + off + s)).toArray) ⟨nofun, fun ρ hf => ?_⟩ hw rfl (k _ (H.upd (hu _) (grownBy_setRow w gb' _) ?_ (fun b' hb' => .inl hb')))
  · simp only [execOp, hf _ _ hx, hf _ _ hy, Instr.storeAt, Instr.sureAddr, Sem.run_bind, Sem.run_pure, Result.andThen_ok, hrun]
  · refine ⟨by rw [List.length_set, flat_len h0, List.length_set], .inr ⟨gb', cap, _, by simp, Nat.zero_le _, setRow_heap w gb' cur _ t _ hgb, by simpa using c1, c3, ?_, ?_⟩⟩
    · simp only [List.size_toArray, List.length_append, List.length_take, List.length_drop, Array.length_toList, hvs]
      omega
    · simp only [List.length_set]
      rw [flat_set h0 l i a' hi, he _ hia]
      have hul : u.cells.toList.length = s := by simpa using hvs
      have hcl : cur.toList.length = cap * kk := by simpa using c2
      have hfa : (enc l[i]) = ((l.flatMap enc).drop (i * kk)).take kk := by
        apply List.ext_getElem?
        intro j
        rw [List.getElem?_take, List.getElem?_drop]
        split
        · rename_i hj
          have hj' : j < (enc l[i]).length := by rw [h0]; exact hj
          rw [flat_at h0 l i j _ _ hia (List.getElem?_eq_getElem hj')]
          exact List.getElem?_eq_getElem hj'
        · rw [List.getElem?_eq_none (by rw [h0]; omega)]
      rw [hfa, ← c4]
      exact splice cur.toList u.cells.toList (l.length * kk) (i * kk) off s kk hul hoff (by omega) (by omega)
theorem WR.storeRowFC {gb j : Nat} {i : Int} {a a' : α} {L' : Item → List Item} (H : StX C w0 M0 M L w) (hx : ev e x = some (ptr gb (i.toNat * kk + j))) (hy : ev e y = some u) (ho : One u) (hg : v.ownBlock = some gb) (hu : ∀ it', Upd L (RowS t kk enc v l) it' (L' it')) (h0 : ∀ x, (enc x).length = kk) (hi : idx l i = some a) (hp : put l i a' = some l2) (hj : Nat.blt j kk = true)
    (he : enc a' = (enc a).set j u) (hs : ∀ w, (sizeOf tt).run P w = .ok 1 w) (hw : Wn ops n D e ⟨none, .store tt x y, ty, pos, af, g⟩) (k : ∀ w', StX C w0 M0 M (L' (RowS t kk enc v l2)) w' → WR r P ops Q n D rest e w') :
    WR r P ops Q n D (⟨none, .store tt x y, ty, pos, af, g⟩ :: rest) e w := by
  obtain ⟨h3, rfl⟩ := put_some hp
  have hj := Nat.le_of_ble_eq_true hj
  refine WR.storeRowK (s := 1) H hx hy hg hu h0 (by omega) hj hs (by rw [ho.1]; rfl) (by rw [ho.1]; simp [ho.2]) (fun b hb => ?_) hw k
  rw [(idx_some hi).2] at hb
  cases hb
  rw [he, ho.1, List.set_eq_take_append_cons_drop, if_pos (by rw [h0]; exact hj)]
  simp
theorem WR.storeRowAC {gb : Nat} {i : Int} {a' : α} {L' : Item → List Item} (H : StX C w0 M0 M L w) (hx : ev e x = some (ptr gb (i.toNat * kk))) (hy : ev e y = some (.agg (enc a').toArray)) (h1 : ∀ z ∈ enc a', z.oneCell' = true) (hg : v.ownBlock = some gb) (hu : ∀ it', Upd L (RowS t kk enc v l) it' (L' it')) (h0 : ∀ x, (enc x).length = kk) (hp : put l i a' = some l2)
    (hs : ∀ w, (sizeOf tt).run P w = .ok kk w) (hw : Wn ops n D e ⟨none, .store tt x y, ty, pos, af, g⟩) (k : ∀ w', StX C w0 M0 M (L' (RowS t kk enc v l2)) w' → WR r P ops Q n D rest e w') :
    WR r P ops Q n D (⟨none, .store tt x y, ty, pos, af, g⟩ :: rest) e w := by
  obtain ⟨h3, rfl⟩ := put_some hp
  refine WR.storeRowK (off := 0) (s := kk) H hx hy hg hu h0 (by omega) (by omega) hs (by simp [Value.cells, h0]) (by simpa [Value.cells] using h1) (fun b hb => ?_) hw k
  rw [List.drop_of_length_le (by rw [h0]; omega)]
  simp [Value.cells]
/-- a part of a slice of records -/
theorem SlS.part (h : SlS M kk enc v l) {i j : Nat} (hij : i ≤ j) (hj : j ≤ l.length) :
    ∃ A c, v = .slice A l.length c ∧ l.length ≤ c ∧ SlS M kk enc (.slice (A.map (fun a => a.add (i * kk))) (j - i) (c - i)) ((l.take j).drop i) := by
  obtain ⟨h0, A, c, rfl, hc1, hc2, h3⟩ := h
  have hlen : ((l.take j).drop i).length = j - i := by simp; omega
  refine ⟨A, c, rfl, hc1, h0, A.map (fun a => a.add (i * kk)), c - i, by rw [hlen], by rw [hlen]; omega, ⟨by have := hc2.1; omega, fun h => ?_⟩, fun hne => ?_⟩
  · have : A = none := by cases A <;> simp_all
    have := hc2.2 this; omega
  · obtain ⟨b, o, cs, t0, fz, e1, e2, e3⟩ := h3 (fun h => by rw [h] at hne; simp at hne)
    refine ⟨b, o + i * kk, cs, t0, fz, by rw [e1]; simp [Addr.add_lit], e2, fun a x hx m u hm => ?_⟩
    rw [List.getElem?_drop, List.getElem?_take] at hx
    split at hx
    · have := e3 (i + a) x hx m u hm
      rw [Nat.add_mul] at this
      rw [show o + i * kk + a * kk + m = o + (i * kk + a * kk) + m by omega]; exact this
    · cases hx
theorem SlS.part2 (h : SlS M kk enc v l) {i j : Nat} (hij : i ≤ j) (hj : j ≤ l.length) :
    ∃ A c, v = .slice A l.length c ∧ l.length ≤ c ∧ SlS M kk enc (.slice (if c = i then A else A.map (fun a => a.add (i * kk))) (j - i) (c - i)) ((l.take j).drop i) := by
  obtain ⟨A, c, rfl, hc, hs⟩ := h.part hij hj
  refine ⟨A, c, rfl, hc, ?_⟩
  split
  · rename_i hci
    have hlen : ((l.take j).drop i).length = j - i := by simp; omega
    have hnil : (l.take j).drop i = [] := List.eq_nil_of_length_eq_zero (by omega)
    rw [hnil]
    exact ⟨h.1, A, c - i, by rw [List.length_nil]; congr 1; omega, Nat.zero_le _, ⟨by simp only [maxLen]; omega, fun _ => by omega⟩, fun h => absurd rfl h⟩
  · exact hs
theorem run_slice_partS {i j : Nat} {lo hi : Option Value} (ht : P.underlying t = some (.slice t')) (hz : ∀ w, (sizeOf t').run P w = .ok kk w) (A : Option Addr) (nn c : Nat) (hnc : nn ≤ c) (hij : i ≤ j) (hj : j ≤ nn)
    (hlo : lo = some (I i) ∨ (lo = none ∧ i = 0)) (hhi : hi = some (I j) ∨ (hi = none ∧ j = nn)) :
    (Instr.sliceAt t (.slice A nn c) lo hi none).run P w = .ok (.slice (if c = i then A else A.map (fun a => a.add (i * kk))) (j - i) (c - i)) w := by
  have a1 : (0 : Int) ≤ (i : Int) ∧ (i : Int) ≤ (j : Int) := by omega
  have a2 : (0 : Int) ≤ (j : Int) ∧ (j : Int) ≤ (c : Int) := by omega
  rcases hlo with rfl | ⟨rfl, rfl⟩ <;> rcases hhi with rfl | ⟨rfl, rfl⟩ <;>
    simp only [Instr.sliceAt, Instr.slice, Instr.sliceBounds, Instr.sliceBound, asIntOf, Sem.run_bind, run_underlying ht, Result.andThen_ok, Sem.run_pure, a1, a2, and_self, if_true, Int.toNat_natCast, hz, Option.isSome_none]
theorem WR.sliceSS {i j : Nat} {lo hi : Option Operand} (ht : P.underlying t = some (.slice t')) (hz : ∀ w, (sizeOf t').run P w = .ok kk w) (h : SlS M kk enc v l) (hx : ev e x = some v)
    (hlo : (∃ o, lo = some o ∧ ev e o = some (I i)) ∨ (lo = none ∧ i = 0)) (hhi : (∃ o, hi = some o ∧ ev e o = some (I j)) ∨ (hi = none ∧ j = l.length)) (hij : i ≤ j) (hj : j ≤ l.length)
    (hw : Wn ops n D e ⟨some d, .slice t x lo hi none, ty, pos, af, g⟩) (hn : Nat.blt d n = true) (k : ∀ v', SlS M kk enc v' ((l.take j).drop i) → WR r P ops Q n D rest ((d, v') :: e) w) :
    WR r P ops Q n D (⟨some d, .slice t x lo hi none, ty, pos, af, g⟩ :: rest) e w := by
  obtain ⟨A, c, rfl, hnc, hs⟩ := h.part2 hij hj
  refine WR.step (w' := w) ⟨nofun, fun ρ hfi => ?_⟩ hw rfl hn (k _ hs)
  have hr := run_slice_partS (P := P) (w := w) (lo := lo.map ρ) (hi := hi.map ρ) ht hz A l.length c hnc hij hj
    (by rcases hlo with ⟨o, rfl, ho⟩ | ⟨rfl, h⟩
        · exact .inl (by simp [hfi _ _ ho])
        · exact .inr ⟨rfl, h⟩)
    (by rcases hhi with ⟨o, rfl, ho⟩ | ⟨rfl, h⟩
        · exact .inl (by simp [hfi _ _ ho])
        · exact .inr ⟨rfl, h⟩)
  simp only [execOp, hfi _ _ hx, Option.map_none, Sem.run_bind, hr, Result.andThen_ok, Sem.run_pure]
theorem WR.sliceSSC {i j : Int} {o1 o2 : Operand} (ht : P.underlying t = some (.slice t')) (hz : ∀ w, (sizeOf t').run P w = .ok kk w) (h : SlS M kk enc v l) (hx : ev e x = some v) (h1 : ev e o1 = some (I i)) (h2 : ev e o2 = some (I j)) (hs : cut l i j = some l2)
    (hw : Wn ops n D e ⟨some d, .slice t x (some o1) (some o2) none, ty, pos, af, g⟩) (hn : Nat.blt d n = true) (k : ∀ v', SlS M kk enc v' l2 → WR r P ops Q n D rest ((d, v') :: e) w) :
    WR r P ops Q n D (⟨some d, .slice t x (some o1) (some o2) none, ty, pos, af, g⟩ :: rest) e w := by
  obtain ⟨⟨a1, a2, a3⟩, rfl⟩ := cut_some hs
  exact WR.sliceSS ht hz h hx (.inl ⟨_, rfl, by rw [h1, Int.toNat_of_nonneg a1]⟩) (.inl ⟨_, rfl, by rw [h2, Int.toNat_of_nonneg (by omega)]⟩) (by omega) (by omega) hw hn k
theorem WR.sliceSSL {i : Int} {o1 : Operand} (ht : P.underlying t = some (.slice t')) (hz : ∀ w, (sizeOf t').run P w = .ok kk w) (h : SlS M kk enc v l) (hx : ev e x = some v) (h1 : ev e o1 = some (I i)) (hs : cut l i (l.length : Int) = some l2)
    (hw : Wn ops n D e ⟨some d, .slice t x (some o1) none none, ty, pos, af, g⟩) (hn : Nat.blt d n = true) (k : ∀ v', SlS M kk enc v' l2 → WR r P ops Q n D rest ((d, v') :: e) w) :
    WR r P ops Q n D (⟨some d, .slice t x (some o1) none none, ty, pos, af, g⟩ :: rest) e w := by
  obtain ⟨⟨a1, a2, a3⟩, rfl⟩ := cut_some hs
  exact WR.sliceSS ht hz h hx (.inl ⟨_, rfl, by rw [h1, Int.toNat_of_nonneg a1]⟩) (.inr ⟨rfl, rfl⟩) (by omega) (by omega) hw hn k
theorem WR.sliceSSH {j : Int} {o2 : Operand} (ht : P.underlying t = some (.slice t')) (hz : ∀ w, (sizeOf t').run P w = .ok kk w) (h : SlS M kk enc v l) (hx : ev e x = some v) (h2 : ev e o2 = some (I j)) (hs : cut l 0 j = some l2)
    (hw : Wn ops n D e ⟨some d, .slice t x none (some o2) none, ty, pos, af, g⟩) (hn : Nat.blt d n = true) (k : ∀ v', SlS M kk enc v' l2 → WR r P ops Q n D rest ((d, v') :: e) w) :
    WR r P ops Q n D (⟨some d, .slice t x none (some o2) none, ty, pos, af, g⟩ :: rest) e w := by
  obtain ⟨⟨a1, a2, a3⟩, rfl⟩ := cut_some hs
  exact WR.sliceSS ht hz h hx (.inr ⟨rfl, rfl⟩) (.inl ⟨_, rfl, by rw [h2, Int.toNat_of_nonneg (by omega)]⟩) (by omega) (by omega) hw hn k
end
end Go.Ph
