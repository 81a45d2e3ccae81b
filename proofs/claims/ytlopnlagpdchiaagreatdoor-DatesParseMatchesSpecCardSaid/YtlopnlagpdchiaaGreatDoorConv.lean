/-
  Conversions between strings, bytes and characters; literals of structs. No program in sight.
-/
import Derived.Test.YtlopnlagpdchiaaGreatDoorStr
import Derived.Test.YtlopnlagpdchiaaGreatDoorChs
import Derived.Lib.ConvBytes
import Derived.Laws.IdiomStrings
import Derived.Laws.Cover4
set_option linter.unusedVariables false
set_option linter.unusedSimpArgs false
namespace Go.Ph
open Go Go.RowKit

abbrev encR (n : Int) : Value := .int .i32 n
/-- a row that a conversion of a string has made -/
abbrev SRow (g cap : Nat) (t : TypeId) (l : List UInt8) : Item := .blk g (.cells (l.map encB ++ List.replicate (cap - l.length) (encB 0)).toArray t (cap, cap + 1))
abbrev sv (g cap : Nat) (l : List UInt8) : Value := .slice (some ⟨g, 0, none⟩) l.length cap
theorem srow_at {l : List UInt8} {cap i : Nat} {c : UInt8} (hi : l[i]? = some c) : (l.map encB ++ List.replicate (cap - l.length) (encB 0)).toArray[i]? = some (encB c) := by
  have hlt := (List.getElem?_eq_some_iff.1 hi).1
  rw [List.getElem?_toArray, List.getElem?_append_left (by simpa using hlt), List.getElem?_map, hi]; rfl
section
variable {C : Nat → Prop} {r : Option Nat} {P : Program} {ops : Array Oper} {Q : Exit → Act → World → Prop} {n : Nat} {D : List Deferred} {rest : List Oper} {e : Env} {w0 w : World} {M0 M : Mem} {L L' : List Item} {d : Nat} {v u z : Value}
  {x y : Operand} {ty t t' te ts tt : TypeId} {pos : String} {af : Array Edge} {g : Option (Nat × Bool)} {dst : Option Tmp} {l : List UInt8}

theorem grownBy_bytes (w : World) (te : TypeId) (s : ByteArray) : w.grownBy (Lib.bytesWorld w te s) none :=
  ⟨by simp [Lib.bytesWorld, World.freeze]; rfl, by simp [Lib.bytesWorld, World.freeze], by simp [Lib.bytesWorld, World.freeze]; rfl, by rw [Lib.bytesWorld_size]; omega, fun k hk _ => Lib.bytesWorld_at_old w te s k hk⟩
theorem bytesCells_list (w : World) (te : TypeId) (l : List UInt8) (hc : l.length ≤ grownCap w l.length 0 te) : Lib.bytesCells w te ⟨l.toArray⟩ = (l.map encB ++ List.replicate (grownCap w l.length 0 te - l.length) (encB 0)).toArray ∧ (Lib.bytesCells w te ⟨l.toArray⟩).size = grownCap w l.length 0 te := by
  have h1 : Lib.bytesCells w te ⟨l.toArray⟩ = (l.map encB ++ List.replicate (grownCap w l.length 0 te - l.length) (encB 0)).toArray := by
    unfold Lib.bytesCells
    rw [size_mk]
    apply Array.ext'
    simp
  refine ⟨h1, ?_⟩
  rw [h1]
  simp
  omega
/-- []byte(s) -/
theorem WR.toBytes {d0 : TypeDesc} (H : StX C w0 M0 M L w) (hs : P.underlying t = some d0) (hd : P.underlying t' = some (.slice te)) (he : P.underlying te = some (.int .u8)) (hx : ev e x = some (S l)) (hl : l.length ≤ maxLen)
    (hw : Wn ops n D e ⟨some d, .convert t t' x, ty, pos, af, g⟩) (hn : Nat.blt d n = true)
    (k : ∀ gb cap w', l.length ≤ cap → cap ≤ maxLen → StX C w0 M0 M (SRow gb cap te l :: L) w' → WR r P ops Q n D rest ((d, sv gb cap l) :: e) w') : WR r P ops Q n D (⟨some d, .convert t t' x, ty, pos, af, g⟩ :: rest) e w := by
  have hc := grownCap_ge w l.length 0 te
  have hm := grownCap_le_maxLen w l.length 0 te hl
  obtain ⟨h1, h2⟩ := bytesCells_list w te l hc
  have hnew := Lib.bytesWorld_at_new w te ⟨l.toArray⟩
  rw [h2, h1] at hnew
  refine WR.step (w' := Lib.bytesWorld w te ⟨l.toArray⟩) (v := sv w.heap.size (grownCap w l.length 0 te) l) ⟨nofun, fun ρ hf => ?_⟩ hw rfl hn (k _ _ _ hc hm (H.new (grownBy_bytes w te _) hnew (fun b hb => by cases hb; exact Nat.le_refl _)))
  have hr := Lib.run_convert_string_bytes (P := P) w t t' te ⟨l.toArray⟩ hs hd he
  rw [size_mk] at hr
  simp only [execOp, hf _ _ hx, Sem.run_bind, hr, Result.andThen_ok, Sem.run_pure]
/-- it is let go: it is read only from now on -/
theorem StX.freezeS {gb cap : Nat} (H : StX C w0 M0 M L w) (hr : Rem L (SRow gb cap t l) L') (hb : w0.heap.size ≤ gb) (h1 : l.length ≤ cap) (h2 : cap ≤ maxLen) : ∃ M', M.le M' ∧ Bs M' (sv gb cap l) l ∧ StX C w0 M0 M' L' w := by
  obtain ⟨h3, h4⟩ := H.freeze hr rfl (H.blk hr.mem) hb
  exact ⟨_, h3, ⟨_, cap, rfl, h1, ⟨h2, fun h => by cases h⟩, fun _ => ⟨gb, 0, _, t, _, rfl, by simp only [Mem.set, if_true]; rfl, fun i x hi => by rw [Nat.zero_add]; exact srow_at hi⟩⟩, h4⟩
theorem StX.sbase {gb cap : Nat} (H : St w0 M0 M L w) (hm : SRow gb cap t l ∈ L) : w0.heap.size ≤ gb := ((H.own _ hm).2 gb rfl).2.resolve_right (fun h => h)
/-- []byte(s) that is only read -/
theorem WR.bytesOf {d0 : TypeDesc} (H : StX C w0 M0 M L w) (hs : P.underlying t = some d0) (hd : P.underlying t' = some (.slice te)) (he : P.underlying te = some (.int .u8)) (hx : ev e x = some (S l)) (hl : l.length ≤ maxLen)
    (hw : Wn ops n D e ⟨some d, .convert t t' x, ty, pos, af, g⟩) (hn : Nat.blt d n = true)
    (k : ∀ v M' w', StX C w0 M0 M' L w' → M.le M' → Bs M' v l → WR r P ops Q n D rest ((d, v) :: e) w') : WR r P ops Q n D (⟨some d, .convert t t' x, ty, pos, af, g⟩ :: rest) e w := by
  have hc := grownCap_ge w l.length 0 te
  have hm := grownCap_le_maxLen w l.length 0 te hl
  obtain ⟨h1, h2⟩ := bytesCells_list w te l hc
  have hnew := Lib.bytesWorld_at_new w te ⟨l.toArray⟩
  rw [h2, h1] at hnew
  have H1 : StX C w0 M0 M (SRow w.heap.size (grownCap w l.length 0 te) te l :: L) (Lib.bytesWorld w te ⟨l.toArray⟩) := H.new (grownBy_bytes w te _) hnew (fun b hb => by cases hb; exact Nat.le_refl _)
  obtain ⟨M', hle, hB, H2⟩ := H1.freezeS .head H.base hc hm
  refine WR.step (w' := Lib.bytesWorld w te ⟨l.toArray⟩) (v := sv w.heap.size (grownCap w l.length 0 te) l) ⟨nofun, fun ρ hf => ?_⟩ hw rfl hn (k _ _ _ H2 hle hB)
  have hr := Lib.run_convert_string_bytes (P := P) w t t' te ⟨l.toArray⟩ hs hd he
  rw [size_mk] at hr
  simp only [execOp, hf _ _ hx, Sem.run_bind, hr, Result.andThen_ok, Sem.run_pure]
theorem Ex.idxS {gb cap i nn : Nat} {k' : IntKind} (ht : P.underlying t = some (.slice te)) (hz : ∀ w, (sizeOf te).run P w = .ok 1 w) (hx : ev e x = some (.slice (some ⟨gb, 0, none⟩) nn cap)) (hy : ev e y = some (.int k' (i : Int))) (hi : i < nn) : Ex P ⟨dst, .indexAddr t x y, ty, pos, af, g⟩ e w (ptr gb i) w :=
  ⟨nofun, fun ρ hfi => by
    have h0 : (0 : Int) ≤ (i : Int) ∧ (i : Int) < (nn : Int) := by omega
    simp only [execOp, hfi _ _ hx, hfi _ _ hy, Instr.indexAt, Sem.run_bind, asIntOf, run_underlying ht, Result.andThen_ok, Sem.run_pure, hz, h0, and_self, if_true, Addr.add_lit, Int.toNat_natCast, Nat.mul_one, Nat.zero_add]⟩
theorem Ex.loadS {gb cap i : Nat} {c : UInt8} (H : StX C w0 M0 M L w) (hx : ev e x = some (ptr gb i)) (hm : SRow gb cap t l ∈ L) (hi : l[i]? = some c) (ha : ∀ w, (isAgg tt).run P w = .ok false w) : Ex P ⟨dst, .load tt x, ty, pos, af, g⟩ e w (encB c) w := Ex.loadK hx (by
  have hc : w.cell? ⟨gb, i, none⟩ = some (encB c) := by rw [cell_of_row w gb i _ t _ (H.blk hm)]; exact srow_at hi
  simp only [loadVar, Sem.run_bind, ha, Result.andThen_ok, Bool.false_eq_true, if_false]
  simp [load, Sem.run, hc])
theorem run_storeOne {gb o : Nat} {cur : Array Value} {fz : Nat × Nat} (hg : w.heap[gb]? = some (.cells cur t fz)) (ho : o < cur.size) (hfz : o < fz.1) (hs : ∀ w, (sizeOf tt).run P w = .ok 1 w) (hv : v.oneCell' = true) (hv' : v.cells = #[v]) : (storeVar tt ⟨gb, o, none⟩ v).run P w = .ok () (w.setRow gb (cur.setIfInBounds o v)) := by
  have hcell : w.cell? ⟨gb, o, none⟩ = some cur[o] := by simp [World.cell?, hg, ho]
  have hfro : w.frozen? ⟨gb, o, none⟩ = false := by
    obtain ⟨lo, hi⟩ := fz
    simp only [World.frozen?, hg, Bool.and_eq_false_iff, decide_eq_false_iff_not]
    left
    simp only at hfz
    omega
  have hst : (store ⟨gb, o, none⟩ v).run P w = .ok () (w.setRow gb (cur.setIfInBounds o v)) := by
    rw [run_store P w _ v _ hv, hcell]
    simp [hfro, setCell_eq_setRow w gb o cur t fz v hg]
  simp only [storeVar, Sem.run_bind, hs, Result.andThen_ok, hv']
  simp [storeCells, Addr.add_lit, hst]
theorem WR.storeS {gb cap i : Nat} {c : UInt8} (H : StX C w0 M0 M L w) (hx : ev e x = some (ptr gb i)) (hy : ev e y = some (encB c)) (hu : Upd L (SRow gb cap t l) (SRow gb cap t (l.set i c)) L') (hi : i < l.length) (hc : l.length ≤ cap) (hs : ∀ w, (sizeOf tt).run P w = .ok 1 w)
    (hw : Wn ops n D e ⟨none, .store tt x y, ty, pos, af, g⟩) (k : ∀ w', StX C w0 M0 M L' w' → WR r P ops Q n D rest e w') : WR r P ops Q n D (⟨none, .store tt x y, ty, pos, af, g⟩ :: rest) e w := by
  have hb := H.blk hu.mem
  have hrun := run_storeOne (P := P) (tt := tt) (v := encB c) (o := i) hb (by simp; omega) (by simp only []; omega) hs rfl rfl
  have hset : ((l.map encB ++ List.replicate (cap - l.length) (encB 0)).toArray.setIfInBounds i (encB c)) = ((l.set i c).map encB ++ List.replicate (cap - (l.set i c).length) (encB 0)).toArray := by
    rw [List.length_set, List.map_set]
    apply Array.ext'
    simp [hi]
  rw [hset] at hrun
  refine WR.stepS (w' := w.setRow gb ((l.set i c).map encB ++ List.replicate (cap - (l.set i c).length) (encB 0)).toArray) ⟨nofun, fun ρ hf => ?_⟩ hw rfl (k _ (H.upd hu (grownBy_setRow w gb _) (setRow_heap w gb _ _ t _ hb) (fun b' hb' => .inl hb')))
  simp only [execOp, hf _ _ hx, hf _ _ hy, Instr.storeAt, Instr.sureAddr, Sem.run_bind, Sem.run_pure, Result.andThen_ok, hrun]
/-- string(b) of it -/
theorem Ex.toStrS {gb cap nn : Nat} (ht : P.underlying t = some (.slice te)) (he : P.underlying te = some (.int .u8)) (hd : P.underlying ts = some .string) (H : StX C w0 M0 M L w) (hm : SRow gb cap t' l ∈ L) (hnn : nn = l.length) (hx : ev e x = some (.slice (some ⟨gb, 0, none⟩) nn cap)) :
    Ex P ⟨dst, .convert t ts x, ty, pos, af, g⟩ e w (S l) w :=
  ⟨nofun, fun ρ hfi => by
    subst hnn
    have hr := run_convert_bytes_back (P := P) w t ts te ⟨gb, 0, none⟩ cap l ht he hd (fun j hj => by
      rw [Addr.add_lit, Nat.zero_add, cell_of_row w gb j _ t' _ (H.blk hm), srow_at (List.getElem?_eq_getElem hj)])
    simp only [execOp, hfi _ _ hx, Sem.run_bind, hr, Result.andThen_ok, Sem.run_pure]⟩

/-! characters -/
theorem runesFrom_list (l : List UInt8) : ∀ (bound i : Nat) (acc : Array Value), l.length ≤ i + bound → Conv.runesFrom ⟨l.toArray⟩ bound i acc = acc ++ ((Chs.decU (l.drop i)).map encR).toArray := by
  intro bound
  induction bound with
  | zero =>
    intro i acc hb
    rw [List.drop_eq_nil_of_le (by omega)]
    simp [Conv.runesFrom, Chs.decU, Gr.chars_nil]
  | succ bound ih =>
    intro i acc hb
    unfold Conv.runesFrom
    by_cases hi : i < l.length
    · rw [if_pos (by rw [size_mk]; exact hi), decode_list]
      have hne := Gr.drop_ne hi
      have hsz := Gr.dr_size (l.drop i)
      have hrs := Utf.rune_size (l.drop i)
      have hfx : (Int.ofNat (Utf.dr (l.drop i)).1) = Chs.fix0 (Utf.rune (l.drop i)).1 := by
        rw [Utf.rune_dr]; unfold Chs.fix0
        split
        · rfl
        · rename_i h
          show (((Utf.rune (l.drop i)).1.toNat : Nat) : Int) = _
          omega
      simp only []
      rw [ih _ _ (by rw [hsz]; omega), hfx, hsz]
      unfold Chs.decU
      rw [Gr.chars_cons hne, List.drop_drop]
      apply Array.ext'
      simp
    · rw [if_neg (by rw [size_mk]; exact hi), List.drop_eq_nil_of_le (by omega)]
      simp [Chs.decU, Gr.chars_nil]
theorem decU_len (l : List UInt8) : (Chs.decU l).length ≤ l.length := by
  have h1 : (Gr.chars l).length ≤ ((Gr.chars l).map (·.2)).flatten.length := by
    have := Gr.flat_le ((Gr.chars l).map (·.2)) (fun p hp => by obtain ⟨c, hc, rfl⟩ := List.mem_map.1 hp; exact Gr.chars_ne l c hc)
    simpa using this
  rw [Gr.chars_flat] at h1
  unfold Chs.decU
  rw [List.length_map]; exact h1
/-- []rune(s) that is only read -/
theorem WR.runesOf (H : StX C w0 M0 M L w) (hs : P.underlying t = some .string) (hd : P.underlying t' = some (.slice te)) (he : P.underlying te = some (.int .i32)) (hx : ev e x = some (S l)) (hl : l.length ≤ 70368744177664)
    (hw : Wn ops n D e ⟨some d, .convert t t' x, ty, pos, af, g⟩) (hn : Nat.blt d n = true)
    (k : ∀ v M' w', StX C w0 M0 M' L w' → M.le M' → Sl M' encR v (Chs.decU l) → WR r P ops Q n D rest ((d, v) :: e) w') : WR r P ops Q n D (⟨some d, .convert t t' x, ty, pos, af, g⟩ :: rest) e w := by
  have hrf : Conv.runesFrom ⟨l.toArray⟩ (ByteArray.size ⟨l.toArray⟩) 0 #[] = ((Chs.decU l).map encR).toArray := by
    rw [size_mk, runesFrom_list l _ _ _ (by omega), List.drop_zero]; simp
  have hlen := decU_len l
  have hr := run_runes_of_string (P := P) w t t' te ⟨l.toArray⟩ hs hd he (by rw [hrf]; simp; omega)
  rw [hrf] at hr
  simp only [List.size_toArray, List.length_map] at hr
  obtain ⟨cap, hcap⟩ : ∃ cap, grownCap w (Chs.decU l).length 0 te = cap := ⟨_, rfl⟩
  have hc := grownCap_ge w (Chs.decU l).length 0 te
  have hm := grownCap_le_maxLen w (Chs.decU l).length 0 te (by simp only [maxLen]; omega)
  rw [hcap] at hr hc hm
  have H1 := H.drew.new (it := .blk w.heap.size (.cells (((Chs.decU l).map encR).toArray ++ Array.replicate (cap - (Chs.decU l).length) (.int .i32 0)) te)) (grownBy_alloc' w.drew _) (heap_alloc_new w.drew _) (fun b hb => by cases hb; exact Nat.le_refl _)
  obtain ⟨h2, h3⟩ := H1.freeze .head rfl (H1.blk (List.Mem.head _)) H.base
  refine WR.step (v := .slice (some ⟨w.heap.size, 0, none⟩) (Chs.decU l).length cap) ⟨nofun, fun ρ hf => ?_⟩ hw rfl hn (k _ _ _ h3 h2 ⟨_, cap, rfl, hc, ⟨hm, fun h => by cases h⟩, fun _ => ⟨w.heap.size, 0, _, te, _, rfl, by simp only [Mem.set, if_true]; rfl, fun i x hi => ?_⟩⟩)
  · simp only [execOp, hf _ _ hx, Sem.run_bind, hr, Result.andThen_ok, Sem.run_pure]
  · have hlt := (List.getElem?_eq_some_iff.1 hi).1
    rw [Nat.zero_add, Array.getElem?_append_left (by simpa using hlt)]
    simp [hi]
theorem runesBytes_list (ns : List Int) : runesBytes ns = ⟨(ns.flatMap Chs.utf8).toArray⟩ := by
  have key : ∀ (ns : List Int) (acc : List UInt8), ns.foldl (fun r n => r ++ Utf8.encode n) (⟨acc.toArray⟩ : ByteArray) = ⟨(acc ++ ns.flatMap Chs.utf8).toArray⟩ := by
    intro ns
    induction ns with
    | nil => intro acc; simp
    | cons n ns ih =>
      intro acc
      have e1 : (⟨acc.toArray⟩ : ByteArray) ++ Utf8.encode n = ⟨(acc ++ Chs.utf8 n).toArray⟩ := by
        rw [Chs.encode_utf8]
        apply ByteArray.ext
        simp
      rw [List.foldl_cons, e1, ih]
      simp
  unfold runesBytes
  exact (key ns []).trans (by simp)
/-- string(runes) -/
theorem Ex.runesStr {ns : List Int} (ht : P.underlying t = some (.slice te)) (he : P.underlying te = some (.int .i32)) (hd : P.underlying ts = some .string) (H : StX C w0 M0 M L w) (h : Sl M encR v ns) (hx : ev e x = some v) :
    Ex P ⟨dst, .convert t ts x, ty, pos, af, g⟩ e w (S (ns.flatMap Chs.utf8)) w :=
  ⟨nofun, fun ρ hfi => by
    obtain ⟨A, c, rfl, hc, hn⟩ := h.cells H.ag
    cases A with
    | none =>
      obtain ⟨rfl, rfl⟩ := hn rfl
      have hr := run_convert_runes_nil (P := P) w t ts te 0 0 ht he hd
      simp only [execOp, hfi _ _ hx, List.length_nil, Sem.run_bind, hr, Result.andThen_ok, Sem.run_pure]
      rfl
    | some ad =>
      have hr := run_convert_runes (P := P) w t ts te ad ns.length c ns (Nat.le_refl _) ht he hd (fun j hj => by
        rw [hc ad rfl j (encR ns[j]) (by rw [List.getElem?_map, List.getElem?_eq_getElem hj]; rfl)]
        simp [List.getD, List.getElem?_eq_getElem hj])
      rw [List.take_length, runesBytes_list] at hr
      simp only [execOp, hfi _ _ hx, Sem.run_bind, hr, Result.andThen_ok, Sem.run_pure]⟩
/-! literals of structs -/
theorem WR.litS {α : Type} {enc : α → List Value} {ps : List (Nat × Operand)} {vs : List (Nat × Value)} {bytes len kk : Nat} (T : ElemTy P ts t z kk bytes) (l : List α) (H : StX C w0 M0 M L w) (h0 : ∀ a, (enc a).length = kk) (hp : evq e ps = some vs)
    (hfl : Instr.fill (fun i => some (i * kk, kk)) ((Array.range (len * kk)).map (z.cells[· % z.cells.size]!)) vs = some (l.flatMap enc).toArray) (hlen : l.length = len) (hbig : Nat.ble (len * kk) 16777216 = true) (hnz : Nat.blt 0 (len * kk) = true)
    (hw : Wn ops n D e ⟨some d, .buildSlice ts len ps.toArray, ty, pos, af, g⟩) (hn : Nat.blt d n = true)
    (k : ∀ v M' w', StX C w0 M0 M' L w' → M.le M' → SlS M' kk enc v l → WR r P ops Q n D rest ((d, v) :: e) w') :
    WR r P ops Q n D (⟨some d, .buildSlice ts len ps.toArray, ty, pos, af, g⟩ :: rest) e w := by
  have hbig := Nat.le_of_ble_eq_true hbig
  have hnz := Nat.le_of_ble_eq_true hnz
  obtain ⟨i, hi, hz, hsz, _⟩ := T.info
  have hs : (sizeOf t).run P w = .ok kk w := by simp [sizeOf, typeInfo, hi, hsz]
  have hzv : (zeroValue t).run P w = .ok z w := by simp [zeroValue, typeInfo, hi, hz]
  have H1 := H.new (it := .blk w.heap.size (.cells (l.flatMap enc).toArray t)) (grownBy_alloc' w (.cells (l.flatMap enc).toArray t)) (heap_alloc_new w _) (fun b hb => by cases hb; exact Nat.le_refl _)
  obtain ⟨h2, h3⟩ := H1.freeze .head rfl (heap_alloc_new w _) H.base
  have hll : l.length ≤ maxLen := by
    have : len ≤ len * kk := Nat.le_mul_of_pos_right _ T.pos
    simp only [maxLen]; omega
  refine WR.step (w' := w.alloc (.cells (l.flatMap enc).toArray t)) (v := .slice (some ⟨w.heap.size, 0, none⟩) len len) ⟨nofun, fun ρ hf => ?_⟩ hw rfl hn (k _ _ _ h3 h2 (by rw [← hlen]; exact SlS.ofBlk (t := t) (fz := (0, 0)) h0 hll (by simp [Mem.set])))
  have h1 : (ps.toArray.map fun x => (x.1, ρ x.2)).toList = vs := by simpa using hf.evq hp
  have hnb : ¬ (len * kk > 2 ^ 24) := by omega
  have h00 : ¬ (len * kk = 0) := by omega
  simp only [execOp, Instr.buildSlice, Sem.run_bind, run_underlying T.under, Result.andThen_ok, hs, hnb, if_false, h00, hzv, Sem.run_pure, h1, hfl]
  rfl
end
end Go.Ph
