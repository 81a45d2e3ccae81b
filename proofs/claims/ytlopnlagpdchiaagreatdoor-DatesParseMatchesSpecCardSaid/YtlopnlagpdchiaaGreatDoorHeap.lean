/-
  The operations that look at the heap or turn it. No program in sight.
-/
import Derived.Test.YtlopnlagpdchiaaGreatDoorOps
import Derived.Deep.AppendSrc
import Derived.Lib.SlBytesConst
set_option linter.unusedVariables false
set_option linter.unusedSimpArgs false
namespace Go.Ph
open Go Go.RowKit

/-! ### what is read and never written again -/
def CellM (M : Mem) (p : Addr) (v : Value) : Prop := p.spot = none ∧ ∃ cs t fz, M p.block = some (.cells cs t fz) ∧ cs[p.off]? = some v
theorem CellM.mono {M M' : Mem} {p : Addr} {v : Value} (h : CellM M p v) (hl : M.le M') : CellM M' p v :=
  ⟨h.1, let ⟨cs, t, fz, h1, h2⟩ := h.2; ⟨cs, t, fz, hl _ _ h1, h2⟩⟩
theorem CellM.cell {M : Mem} {w : World} {p : Addr} {v : Value} (h : CellM M p v) (ha : Ag M w) : w.cell? p = some v := by
  obtain ⟨hs, cs, t, fz, h1, h2⟩ := h
  simp [World.cell?, ha _ _ h1, hs, h2]

/-- a slice that reads as a list; each element is one cell -/
def Sl {α : Type} (M : Mem) (enc : α → Value) (v : Value) (l : List α) : Prop :=
  ∃ A c, v = .slice A l.length c ∧ l.length ≤ c ∧ (c ≤ maxLen ∧ (A = none → c = 0)) ∧
    (l ≠ [] → ∃ b o cs t fz, A = some ⟨b, o, none⟩ ∧ M b = some (.cells cs t fz) ∧ ∀ i x, l[i]? = some x → cs[o + i]? = some (enc x))
abbrev encB (u : UInt8) : Value := .int .u8 (u.toNat : Int)
abbrev encI (n : Int) : Value := .int .i64 n
abbrev encS (l : List UInt8) : Value := S l
abbrev Bs (M : Mem) (v : Value) (l : List UInt8) : Prop := Sl M encB v l

section
variable {α : Type} {M M' : Mem} {enc : α → Value} {v : Value} {l : List α}
theorem Sl.mono (h : Sl M enc v l) (hl : M.le M') : Sl M' enc v l := by
  obtain ⟨A, c, hv, h1, h2, h3⟩ := h
  refine ⟨A, c, hv, h1, h2, fun hne => ?_⟩
  obtain ⟨b, o, cs, t, fz, e1, e2, e3⟩ := h3 hne
  exact ⟨b, o, cs, t, fz, e1, hl _ _ e2, e3⟩
theorem Sl.nil (M : Mem) (enc : α → Value) : Sl M enc (.slice none 0 0) [] := ⟨none, 0, rfl, by simp, ⟨by simp [maxLen], fun _ => rfl⟩, fun h => absurd rfl h⟩
theorem Sl.short (h : Sl M enc v l) : l.length ≤ maxLen := by
  obtain ⟨A, c, hv, h1, h2, h3⟩ := h; omega
theorem Sl.cells (h : Sl M enc v l) {w : World} (ha : Ag M w) : ∃ A c, v = .slice A l.length c ∧ (∀ ad, A = some ad → ∀ j u, (l.map enc)[j]? = some u → w.cell? (ad.add j) = some u) ∧ (A = none → l = [] ∧ c = 0) := by
  obtain ⟨A, c, hv, h1, h2, h3⟩ := h
  refine ⟨A, c, hv, fun ad had j u hu => ?_, fun hA => ?_⟩
  · have hne : l ≠ [] := by rintro rfl; simp at hu
    obtain ⟨b, o, cs, t, fz, e1, e2, e3⟩ := h3 hne
    have : ad = ⟨b, o, none⟩ := by rw [had] at e1; exact Option.some.inj e1
    subst this
    rw [List.getElem?_map] at hu
    obtain ⟨x, hx, rfl⟩ := Option.map_eq_some_iff.1 hu
    rw [Addr.add_lit]
    exact (CellM.cell ⟨rfl, cs, t, fz, e2, e3 j x hx⟩ ha)
  · refine ⟨?_, h2.2 hA⟩
    cases l with
    | nil => rfl
    | cons x l =>
      obtain ⟨b, o, cs, t, fz, e1, e2, e3⟩ := h3 (by simp)
      rw [hA] at e1; cases e1
/-- a part of it -/
theorem Sl.part (h : Sl M enc v l) {i j : Nat} (hij : i ≤ j) (hj : j ≤ l.length) :
    ∃ A n c, v = .slice A n c ∧ n = l.length ∧ n ≤ c ∧ Sl M enc (.slice (if c = i then A else A.map (·.add i)) (j - i) (c - i)) ((l.take j).drop i) := by
  obtain ⟨A, c, hv, h1, h2, h3⟩ := h
  refine ⟨A, _, c, hv, rfl, h1, (if c = i then A else A.map (·.add i)), c - i, ?_, ?_, ⟨by omega, fun hA => ?_⟩, fun hne => ?_⟩
  · simp only [List.length_drop, List.length_take]
    rw [show min j l.length = j by omega]
  · simp only [List.length_drop, List.length_take]; omega
  · by_cases hci : c = i
    · omega
    · rw [if_neg hci] at hA
      have := h2.2 (by simpa using hA)
      omega
  · have hlt : i < j := by
      rcases Nat.lt_or_ge i j with h | h
      · exact h
      · exact absurd (List.eq_nil_of_length_eq_zero (by simp; omega)) hne
    have hne' : l ≠ [] := by rintro rfl; simp at hj; omega
    obtain ⟨b, o, cs, t, fz, e1, e2, e3⟩ := h3 hne'
    refine ⟨b, o + i, cs, t, fz, ?_, e2, fun k x hx => ?_⟩
    · rw [if_neg (by omega), e1]; simp [Addr.add_lit]
    · rw [Nat.add_assoc]
      apply e3
      rw [List.getElem?_drop, List.getElem?_take] at hx
      split at hx
      · exact hx
      · cases hx
end

/-! ### rows of the call's own -/
/-- an owned slice -/
abbrev RowI {α : Type} (t : TypeId) (enc : α → Value) (v : Value) (l : List α) : Item := .row t 1 v l.length (l.map enc)

section
variable {C : Nat → Prop} {α : Type} {w0 w : World} {M0 M : Mem} {L L' : List Item} {t : TypeId} {enc : α → Value} {v : Value} {l : List α}
theorem StX.newRow (H : StX C w0 M0 M L w) (t : TypeId) (enc : α → Value) : StX C w0 M0 M (RowI t enc (.slice none 0 0) [] :: L) w :=
  H.newNone (World.ownsRow_nil _ _ _ _) rfl
/-- it is let go: it is read only from now on -/
theorem StX.freezeRowX (H : StX C w0 M0 M L w) (hr : Rem L (RowI t enc v l) L') (hC : ∀ b, v.ownBlock = some b → ¬ C b) : ∃ M', M.le M' ∧ Sl M' enc v l ∧ StX C w0 M0 M' L' w := by
  have hown := H.rowOf hr.mem
  rcases hown.2 with ⟨hv, hn⟩ | ⟨g, cap, cur, hv, hb, hg, hnc, hcm, hcs, htake⟩
  · have : l = [] := List.eq_nil_of_length_eq_zero hn
    subst this
    subst hv
    exact ⟨M, Mem.le.refl M, Sl.nil M enc, H.drop hr.sublist⟩
  · have hf : (RowI t enc v l).foot = some g := by rw [hv]; rfl
    obtain ⟨h1, h2⟩ := H.freeze hr hf hg (((H.own _ hr.mem).2 g hf).2.resolve_right (hC g hf))
    refine ⟨_, h1, ⟨some ⟨g, 0, none⟩, cap, hv, hnc, ⟨hcm, fun h => by cases h⟩, fun _ => ⟨g, 0, cur, t, (0, 0), rfl, by simp [Mem.set], fun i x hx => ?_⟩⟩, h2⟩
    have hi := (List.getElem?_eq_some_iff.1 hx).1
    have h3 : (cur.toList.take (l.length * 1))[i]? = some (enc x) := by rw [htake, List.getElem?_map, hx]; rfl
    rw [List.getElem?_take, if_pos (by omega)] at h3
    simpa using h3
theorem StX.freezeRow (H : St w0 M0 M L w) (hr : Rem L (RowI t enc v l) L') : ∃ M', M.le M' ∧ Sl M' enc v l ∧ St w0 M0 M' L' w := H.freezeRowX hr (fun _ _ h => h)
theorem StX.lenRow (H : StX C w0 M0 M L w) (hm : RowI t enc v l ∈ L) : ∃ A c, v = .slice A l.length c := by
  rcases (H.rowOf hm).2 with ⟨hv, hn⟩ | ⟨g, cap, cur, hv, _⟩
  · exact ⟨none, 0, by rw [hv, hn]⟩
  · exact ⟨_, cap, hv⟩
end

/-! ### values of one cell -/
def One (v : Value) : Prop := v.cells = #[v] ∧ v.oneCell' = true
theorem One.slice (A : Option Addr) (n c : Nat) : One (.slice A n c) := ⟨rfl, rfl⟩
theorem One.cells {v : Value} (h : One v) : v.cells = [v].toArray := h.1
theorem Sl.one {α : Type} {M : Mem} {enc : α → Value} {v : Value} {l : List α} (h : Sl M enc v l) : One v := by
  obtain ⟨A, c, rfl, _⟩ := h; exact One.slice _ _ _
theorem StX.rowOne {C : Nat → Prop} {α : Type} {w0 w : World} {M0 M : Mem} {L : List Item} {t : TypeId} {enc : α → Value} {v : Value} {l : List α} (H : StX C w0 M0 M L w) (hm : RowI t enc v l ∈ L) : One v := by
  obtain ⟨A, c, rfl⟩ := H.lenRow hm; exact One.slice _ _ _

/-- what is asked of the program on a slice type ts of elements t -/
structure ElemTy (P : Program) (ts t : TypeId) (z : Value) (size bytes : Nat) : Prop where
  under : P.underlying ts = some (.slice t)
  info : ∃ i, P.info? t = some i ∧ i.zero = some z ∧ i.size = size ∧ i.bytes = bytes
  zs : z.cells.size = size
  pos : 0 < size
theorem ElemTy.mk' {P : Program} {ts t : TypeId} {z : Value} {size bytes : Nat} (hu : P.underlying ts = some (.slice t)) (h : (P.info? t).map (fun i => (i.zero, i.size, i.bytes)) = some (some z, size, bytes)) (hz : z.cells.size = size) (hp : 0 < size) : ElemTy P ts t z size bytes :=
  ⟨hu, by
    obtain ⟨i, hi, h2⟩ := Option.map_eq_some_iff.1 h
    simp only [Prod.mk.injEq] at h2
    exact ⟨i, hi, h2.1, h2.2.1, h2.2.2⟩, hz, hp⟩

theorem run_append_own_src {P : Program} (w : World) (base : Nat) {ts tx ty t : TypeId} {z : Value} {size bytes : Nat} (T : ElemTy P ts t z size bytes)
    (v : Value) (n : Nat) (xs : List Value) (hown : w.ownsRow base t size v n xs) (x : Value) (m : Nat) (news : List Value) (hs : Src P size tx x m news w)
    (h63 : n + m ≤ maxLen) (hbytes : (n + m) * bytes ≤ 140737488355328) (hbase : base ≤ w.heap.size) :
    ∃ v' w', (Builtin.append_ #[ts, tx] ty #[v, x]).run P w = .ok v' w' ∧ w'.ownsRow base t size v' (n + m) (xs ++ news) ∧ w.grownBy w' v.ownBlock ∧
      (v'.ownBlock = v.ownBlock ∨ v'.ownBlock = some w.heap.size) := by
  obtain ⟨i, hi, hz, rfl, rfl⟩ := T.info
  have ht := T.under
  have hzs := T.zs
  have hl := hs.newsLen
  have hsmall : n + m ≤ 9223372036854775807 := by simp only [maxLen] at h63; omega
  have hlen : (xs ++ news).length = (n + m) * i.size := by rw [List.length_append, hown.1, hl, Nat.add_mul]
  have grown : ∀ (old : Nat), old < n + m → ∀ (row : Option Nat),
      (w.drew.alloc (.cells ((xs ++ news).toArray ++ Builtin.zeroCells z.cells (grownCap w (n + m) old t - (n + m))) t)).ownsRow base t i.size
        (.slice (some ⟨w.heap.size, 0, none⟩) (n + m) (grownCap w (n + m) old t)) (n + m) (xs ++ news) ∧
      w.grownBy (w.drew.alloc (.cells ((xs ++ news).toArray ++ Builtin.zeroCells z.cells (grownCap w (n + m) old t - (n + m))) t)) row := by
    intro old ho row
    have hge := grownCap_ge w (n + m) old t
    have hcm : grownCap w (n + m) old t ≤ maxLen := grownCap_le_maxLen w (n + m) old t h63
    refine ⟨⟨hlen, .inr ⟨w.heap.size, _, _, rfl, hbase, heap_alloc_new w.drew _, hge, hcm, ?_, ?_⟩⟩, ⟨rfl, rfl, rfl, by simp, fun k hk _ => Below.heap_alloc w.drew _ k hk⟩⟩
    · simp only [Array.size_append, List.size_toArray, size_zeroCells, hzs, hlen, ← Nat.add_mul]
      congr 1
      omega
    · simp only [Array.toList_append]
      rw [← hlen]
      exact List.take_left
  rcases hown.2 with ⟨rfl, rfl⟩ | ⟨g, cap, cur, rfl, hbg, hg, hnc, hcm, hcs, htake⟩
  · have hx : xs = [] := List.eq_nil_of_length_eq_zero (by simpa using hown.1)
    subst hx
    by_cases hm : m = 0
    · subst hm
      have hn : news = [] := List.eq_nil_of_length_eq_zero (by simpa using hl)
      subst hn
      refine ⟨.slice none 0 0, w, ?_, World.ownsRow_nil w base t i.size, ⟨rfl, rfl, rfl, Nat.le_refl _, fun _ _ _ => rfl⟩, Or.inl rfl⟩
      have h3 := hs.cells
      rcases hs.kind with ⟨e', hk⟩ | hk <;> simp [Builtin.append_, run_underlying ht, run_underlying hk, sizeOf, typeInfo, hi, hs.len, h3]
    · have hr := run_append_grow_src (P := P) w ts tx ty t i z ht hi hz none 0 0 [] (run_firstCells_none w.drew i.size 0 0 0) x m news hs (by omega) (by omega) (growslice_fits (by omega) (by simpa using hbytes))
      have hgr := grown 0 (by omega) (Value.ownBlock (.slice none 0 0))
      simp only [Nat.zero_add, List.nil_append] at hgr hr ⊢
      exact ⟨_, _, hr, hgr.1, hgr.2, Or.inr rfl⟩
  · by_cases hroom : n + m ≤ cap
    · have hfit : n * i.size + news.length ≤ cur.size := by rw [hl, hcs, ← Nat.add_mul]; exact Nat.mul_le_mul_right _ hroom
      have hst := run_storeCells_at P g (n * i.size) t news 0 cur w hg (by simpa using hfit) hs.one
      simp only [Nat.add_zero] at hst
      have hr : (Builtin.append_ #[ts, tx] ty #[.slice (some ⟨g, 0, none⟩) n cap, x]).run P w = .ok (.slice (some ⟨g, 0, none⟩) (n + m) cap) (w.setRow g (cur.toList.take (n * i.size) ++ news ++ cur.toList.drop (n * i.size + news.length)).toArray) := by
        rcases hs.kind with ⟨e', hk⟩ | hk <;> simp [Builtin.append_, run_underlying ht, run_underlying hk, sizeOf, typeInfo, hi, hs.len, hroom, hs.cells, Addr.add_lit, hst]
      refine ⟨_, _, hr, ⟨hlen, .inr ⟨g, cap, _, rfl, hbg, setRow_heap w g cur _ t _ hg, hroom, hcm, ?_, ?_⟩⟩, ⟨rfl, rfl, rfl, by simp, fun k _ hk => setRow_other w g k _ (fun e => hk (by simp [Value.ownBlock, e]))⟩, Or.inl rfl⟩
      · simp only [List.size_toArray, List.length_append, List.length_take, List.length_drop, Array.length_toList]
        omega
      · rw [htake, ← hlen]
        exact List.take_left
    · have holds : ∀ j u, xs[j]? = some u → w.cell? ((⟨g, 0, none⟩ : Addr).add j) = some u := hown.cells (g := g) rfl
      have hr := run_append_grow_src (P := P) w ts tx ty t i z ht hi hz (some ⟨g, 0, none⟩) n cap xs (run_firstCells_some w.drew i.size n ⟨g, 0, none⟩ n cap xs hown.1 (by simpa using holds)) x m news hs (by omega) (by omega) (growslice_fits (by omega) hbytes)
      have hgr := grown cap (by omega) (Value.ownBlock (.slice (some ⟨g, 0, none⟩) n cap))
      exact ⟨_, _, hr, hgr.1, hgr.2, Or.inr rfl⟩

section
variable {C : Nat → Prop} {r : Option Nat} {P : Program} {ops : Array Oper} {Q : Exit → Act → World → Prop} {n : Nat} {D : List Deferred} {rest : List Oper} {e : Env} {w0 w : World} {M0 M : Mem} {L L' : List Item} {d : Nat} {v u z : Value}
  {x y : Operand} {ty t ts t' : TypeId} {pos : String} {af : Array Edge} {g : Option (Nat × Bool)}

/-- the general step: the run is known, the state behind it -/
theorem WR.run {o : Oper} {w' : World} (hx : Ex P o e w v w') (hw : Wn ops n D e o) (hd : o.dst = some d) (hn : Nat.blt d n = true) (k : WR r P ops Q n D rest ((d, v) :: e) w') : WR r P ops Q n D (o :: rest) e w := WR.step hx hw hd hn k

theorem grownBy_alloc' (w : World) (o : Obj) : w.grownBy (w.alloc o) none := World.grownBy_alloc w o none

theorem WR.alloc (cs : List Value) (H : StX C w0 M0 M L w) (hz : ∀ w, (zeroValue t).run P w = .ok z w) (hc : z.cells = cs.toArray) (hw : Wn ops n D e ⟨some d, .alloc t, ty, pos, af, g⟩) (hn : Nat.blt d n = true)
    (k : ∀ b w', StX C w0 M0 M (.blk b (.cells cs.toArray t) :: L) w' → WR r P ops Q n D rest ((d, ptr b 0) :: e) w') : WR r P ops Q n D (⟨some d, .alloc t, ty, pos, af, g⟩ :: rest) e w := by
  rw [← hc] at k
  refine WR.step (v := ptr w.heap.size 0) (w' := w.alloc (.cells z.cells t)) ⟨nofun, fun ρ _ => ?_⟩ hw rfl hn (k _ _ (H.new (grownBy_alloc' _ _) (heap_alloc_new w _) (fun b hb => by cases hb; exact Nat.le_refl _)))
  simp only [execOp, Instr.alloc, hz, newVar, newRow, Sem.run_bind, Sem.run_pure, Result.andThen_ok]
  rfl
theorem WR.box (cs : List Value) (H : StX C w0 M0 M L w) (hv : ev e x = some v) (hc : v.cells = cs.toArray) (hw : Wn ops n D e ⟨some d, .box t x, ty, pos, af, g⟩) (hn : Nat.blt d n = true)
    (k : ∀ b w', StX C w0 M0 M (.blk b (.cells cs.toArray t) :: L) w' → WR r P ops Q n D rest ((d, ptr b 0) :: e) w') : WR r P ops Q n D (⟨some d, .box t x, ty, pos, af, g⟩ :: rest) e w := by
  rw [← hc] at k
  refine WR.step (v := ptr w.heap.size 0) (w' := w.alloc (.cells v.cells t)) ⟨nofun, fun ρ hf => ?_⟩ hw rfl hn (k _ _ (H.new (grownBy_alloc' _ _) (heap_alloc_new w _) (fun b hb => by cases hb; exact Nat.le_refl _)))
  simp only [execOp, Instr.box, hf _ _ hv, newVar, newRow, Sem.run_bind, Sem.run_pure]
  rfl

/-! variables of the call's own -/
theorem run_storeVar {b o : Nat} {cs : Array Value} {s : Nat} (hb : w.heap[b]? = some (.cells cs t')) (hs : ∀ w, (sizeOf t).run P w = .ok s w) (hvs : v.cells.size = s) (hfit : o + s ≤ cs.size) (h1 : ∀ u ∈ v.cells.toList, u.oneCell' = true) :
    (storeVar t ⟨b, o, none⟩ v).run P w = .ok () (w.setRow b (cs.toList.take o ++ v.cells.toList ++ cs.toList.drop (o + s)).toArray) := by
  have hst := run_storeCells_at P b o t' v.cells.toList 0 cs w hb (by simp [hvs]; omega) h1
  simp only [Nat.add_zero] at hst
  have hl : v.cells.toList.length = s := by simp [hvs]
  rw [hl] at hst
  simp only [storeVar, Sem.run_bind, hs, Result.andThen_ok, hvs, ne_eq, not_true_eq_false, if_false, hst]

theorem grownBy_setRow (w : World) (b : Nat) (cs : Array Value) : w.grownBy (w.setRow b cs) (some b) := ⟨rfl, rfl, rfl, by simp, fun k _ hk => setRow_other w b k _ (fun e => hk (by rw [e]))⟩

theorem WR.storeK {b o : Nat} {cs cs' : Array Value} {s : Nat} (H : StX C w0 M0 M L w) (hx : ev e x = some (ptr b o)) (hy : ev e y = some v) (hu : Upd L (.blk b (.cells cs t')) (.blk b (.cells cs' t')) L')
    (hs : ∀ w, (sizeOf t).run P w = .ok s w) (hvs : v.cells.size = s) (hfit : o + s ≤ cs.size) (h1 : ∀ u ∈ v.cells.toList, u.oneCell' = true) (hcs : (cs.toList.take o ++ v.cells.toList ++ cs.toList.drop (o + s)).toArray = cs')
    (hw : Wn ops n D e ⟨none, .store t x y, ty, pos, af, g⟩) (k : ∀ w', StX C w0 M0 M L' w' → WR r P ops Q n D rest e w') : WR r P ops Q n D (⟨none, .store t x y, ty, pos, af, g⟩ :: rest) e w := by
  have hb := H.blk hu.mem
  have hrun := run_storeVar (P := P) hb hs hvs hfit h1
  rw [hcs] at hrun
  refine WR.stepS (w' := w.setRow b cs') ⟨nofun, fun ρ hf => ?_⟩ hw rfl (k _ (H.upd hu (grownBy_setRow w b cs') (setRow_heap w b cs cs' t' _ hb) (fun b' hb' => .inl hb')))
  simp only [execOp, hf _ _ hx, hf _ _ hy, Instr.storeAt, Instr.sureAddr, Sem.run_bind, Sem.run_pure, Result.andThen_ok, hrun]
/-- the whole variable -/
theorem WR.store {b : Nat} {cs0 : List Value} (cs : List Value) {s : Nat} (H : StX C w0 M0 M L w) (hx : ev e x = some (ptr b 0)) (hy : ev e y = some v) (hc : v.cells = cs.toArray) (hu : Upd L (.blk b (.cells cs0.toArray t')) (.blk b (.cells cs.toArray t')) L')
    (hs : ∀ w, (sizeOf t).run P w = .ok s w) (hvs : cs.length = s) (hcs : cs0.length = s) (h1 : cs.all (·.oneCell') = true)
    (hw : Wn ops n D e ⟨none, .store t x y, ty, pos, af, g⟩) (k : ∀ w', StX C w0 M0 M L' w' → WR r P ops Q n D rest e w') : WR r P ops Q n D (⟨none, .store t x y, ty, pos, af, g⟩ :: rest) e w :=
  WR.storeK H hx hy hu hs (by rw [hc]; simpa using hvs) (by simp; omega) (fun u hu => by rw [hc] at hu; exact List.all_eq_true.1 h1 u (by simpa using hu)) (by
    rw [hc]
    apply Array.ext'
    simp [hcs]) hw k
/-- one cell of it -/
theorem WR.store1 {b o : Nat} {cs0 : List Value} (cs : List Value) (H : StX C w0 M0 M L w) (hx : ev e x = some (ptr b o)) (hy : ev e y = some v) (hu : Upd L (.blk b (.cells cs0.toArray t')) (.blk b (.cells cs.toArray t')) L') (hc : cs0.set o v = cs)
    (hs : ∀ w, (sizeOf t).run P w = .ok 1 w) (ho : o < cs0.length) (hv : v.oneCell' = true) (hv' : v.cells = #[v])
    (hw : Wn ops n D e ⟨none, .store t x y, ty, pos, af, g⟩) (k : ∀ w', StX C w0 M0 M L' w' → WR r P ops Q n D rest e w') : WR r P ops Q n D (⟨none, .store t x y, ty, pos, af, g⟩ :: rest) e w :=
  WR.storeK H hx hy hu hs (by rw [hv']; rfl) (by simp; omega) (by rw [hv']; simp [hv]) (by
    rw [hv', ← hc]
    apply Array.ext'
    simp only [List.set_eq_take_append_cons_drop]
    simp [ho]) hw k

/-- a value of one cell, whatever it is -/
theorem WR.putV {b o : Nat} {cs0 : List Value} (cs : List Value) (H : StX C w0 M0 M L w) (hx : ev e x = some (ptr b o)) (hy : ev e y = some v) (hv : One v) (hu : Upd L (.blk b (.cells cs0.toArray t')) (.blk b (.cells cs.toArray t')) L') (hc : cs0.set o v = cs)
    (hs : ∀ w, (sizeOf t).run P w = .ok 1 w) (ho : o < cs0.length)
    (hw : Wn ops n D e ⟨none, .store t x y, ty, pos, af, g⟩) (k : ∀ w', StX C w0 M0 M L' w' → WR r P ops Q n D rest e w') : WR r P ops Q n D (⟨none, .store t x y, ty, pos, af, g⟩ :: rest) e w :=
  WR.store1 cs H hx hy hu hc hs ho hv.2 hv.1 hw k

theorem StX.loadAgg {b s : Nat} {cs : List Value} (H : StX C w0 M0 M L w) (hm : Item.blk b (.cells cs.toArray t') ∈ L) (ha : ∀ w, (isAgg t).run P w = .ok true w) (hs : ∀ w, (sizeOf t).run P w = .ok s w) (hl : cs.length = s) : (loadVar t ⟨b, 0, none⟩).run P w = .ok (.agg cs.toArray) w := by
  have hb := H.blk hm
  subst hl
  have hl : (loadCells ⟨b, 0, none⟩ cs.length).run P w = .ok cs.toArray w :=
    run_loadCells_list (P := P) w ⟨b, 0, none⟩ cs (fun j v hv => by
      rw [Addr.add_lit, Nat.zero_add, cell_of_row w b j _ t' _ hb]
      simpa using hv)
  simp only [loadVar, Sem.run_bind, ha, Result.andThen_ok, if_true, hs, hl, Sem.run_pure]
theorem StX.load1 {b o : Nat} {cs : List Value} (H : StX C w0 M0 M L w) (hm : Item.blk b (.cells cs.toArray t') ∈ L) (ha : ∀ w, (isAgg t).run P w = .ok false w) (hv : cs[o]? = some v) : (loadVar t ⟨b, o, none⟩).run P w = .ok v w := by
  have hc : w.cell? ⟨b, o, none⟩ = some v := by rw [cell_of_row w b o _ t' _ (H.blk hm)]; simpa using hv
  simp only [loadVar, Sem.run_bind, ha, Result.andThen_ok, Bool.false_eq_true, if_false]
  simp [load, Sem.run, hc]
theorem Ag.load1 {p : Addr} (ha : Ag M w) (hc : CellM M p v) (hg : ∀ w, (isAgg t).run P w = .ok false w) : (loadVar t p).run P w = .ok v w := by
  have hc := hc.cell ha
  simp only [loadVar, Sem.run_bind, hg, Result.andThen_ok, Bool.false_eq_true, if_false]
  simp [load, Sem.run, hc]
variable {dst : Option Tmp}
theorem Ex.loadK {p : Addr} (hx : ev e x = some (.pointer (some p))) (h : (loadVar t p).run P w = .ok v w) : Ex P ⟨dst, .load t x, ty, pos, af, g⟩ e w v w :=
  ⟨nofun, fun ρ hf => by simp only [execOp, hf _ _ hx, Instr.loadAt, Instr.sureAddr, Sem.run_bind, Sem.run_pure, Result.andThen_ok, h]⟩
/-- a whole variable of the call's own, a struct or an array -/
theorem Ex.loadAgg {b s : Nat} {cs : List Value} (H : StX C w0 M0 M L w) (hx : ev e x = some (ptr b 0)) (hm : Item.blk b (.cells cs.toArray t') ∈ L) (ha : ∀ w, (isAgg t).run P w = .ok true w) (hs : ∀ w, (sizeOf t).run P w = .ok s w) (hl : cs.length = s) :
    Ex P ⟨dst, .load t x, ty, pos, af, g⟩ e w (.agg cs.toArray) w := Ex.loadK hx (H.loadAgg hm ha hs hl)
/-- one cell of a variable of the call's own -/
theorem Ex.load1 {b o : Nat} {cs : List Value} (H : StX C w0 M0 M L w) (hx : ev e x = some (ptr b o)) (hm : Item.blk b (.cells cs.toArray t') ∈ L) (ha : ∀ w, (isAgg t).run P w = .ok false w) (hv : cs[o]? = some v) :
    Ex P ⟨dst, .load t x, ty, pos, af, g⟩ e w v w := Ex.loadK hx (H.load1 hm ha hv)
/-- one cell of what is read only -/
theorem Ex.loadM {p : Addr} (H : StX C w0 M0 M L w) (hx : ev e x = some (.pointer (some p))) (hc : CellM M p v) (ha : ∀ w, (isAgg t).run P w = .ok false w) :
    Ex P ⟨dst, .load t x, ty, pos, af, g⟩ e w v w := Ex.loadK hx (H.ag.load1 hc ha)
theorem Ex.fieldAddr {b o i sz : Nat} {fs : Array Field} {f : Field} (hs : P.underlying t = some (.struct fs)) (hf : fs[i]? = some f) (hz : ∀ w, (sizeOf f.type).run P w = .ok sz w) (hnz : sz ≠ 0) (hx : ev e x = some (ptr b o)) :
    Ex P ⟨dst, .fieldAddr t x i, ty, pos, af, g⟩ e w (ptr b (o + f.offset)) w :=
  ⟨nofun, fun ρ hfi => by
    simp only [execOp, hfi _ _ hx, Instr.fieldAt, Sem.run_bind, run_underlying hs, Result.andThen_ok, hf, Instr.sureAddr, Sem.run_pure, fieldPlace, hz, hnz, if_false, Addr.add_lit]⟩
theorem Ex.idxArr {b o i len sz : Nat} {t0 : TypeId} {k : IntKind} (hs : P.underlying t = some (.array len t0)) (hz : ∀ w, (sizeOf t0).run P w = .ok sz w) (hx : ev e x = some (ptr b o)) (hy : ev e y = some (.int k (i : Int))) (hi : i < len) :
    Ex P ⟨dst, .indexAddr t x y, ty, pos, af, g⟩ e w (ptr b (o + i * sz)) w :=
  ⟨nofun, fun ρ hfi => by
    have h0 : (0 : Int) ≤ (i : Int) ∧ (i : Int) < (len : Int) := by omega
    simp only [execOp, hfi _ _ hx, hfi _ _ hy, Instr.indexAt, Sem.run_bind, asIntOf, run_underlying hs, Result.andThen_ok, Instr.sureAddr, Sem.run_pure, hz, h0, and_self, if_true, Addr.add_lit, Int.toNat_natCast]⟩

/-! slices that are read -/
variable {α : Type} {enc : α → Value} {l l2 : List α}
theorem Ex.lenSl (ht : P.underlying t = some (.slice t')) (h : Sl M enc v l) (hx : ev e x = some v) : Ex P ⟨dst, .call ⟨.builtin .len, #[x], #[t]⟩, ty, pos, af, g⟩ e w (I l.length) w := by
  obtain ⟨A, c, rfl, _⟩ := h
  exact Ex.lenSlice ht hx
theorem Ex.lenRow (ht : P.underlying t = some (.slice t')) (H : StX C w0 M0 M L w) (hm : RowI ts enc v l ∈ L) (hx : ev e x = some v) : Ex P ⟨dst, .call ⟨.builtin .len, #[x], #[t]⟩, ty, pos, af, g⟩ e w (I l.length) w := by
  obtain ⟨A, c, rfl⟩ := H.lenRow hm
  exact Ex.lenSlice ht hx
theorem Sl.addr (h : Sl M enc v l) {i : Nat} {a : α} (hi : l[i]? = some a) : ∃ b o c, v = .slice (some ⟨b, o, none⟩) l.length c ∧ CellM M ⟨b, o + i, none⟩ (enc a) := by
  obtain ⟨A, c, rfl, h1, h2, h3⟩ := h
  obtain ⟨b, o, cs, t, fz, rfl, e2, e3⟩ := h3 (by rintro rfl; simp at hi)
  exact ⟨b, o, c, rfl, rfl, cs, t, fz, e2, e3 i a hi⟩
theorem WR.idxSl {i : Nat} {a : α} {k' : IntKind} (ht : P.underlying t = some (.slice t')) (hz : ∀ w, (sizeOf t').run P w = .ok 1 w) (h : Sl M enc v l) (hx : ev e x = some v) (hy : ev e y = some (.int k' (i : Int))) (hi : l[i]? = some a)
    (hw : Wn ops n D e ⟨some d, .indexAddr t x y, ty, pos, af, g⟩) (hn : Nat.blt d n = true) (k : ∀ p, CellM M p (enc a) → WR r P ops Q n D rest ((d, .pointer (some p)) :: e) w) :
    WR r P ops Q n D (⟨some d, .indexAddr t x y, ty, pos, af, g⟩ :: rest) e w := by
  obtain ⟨b, o, c, rfl, hc⟩ := h.addr hi
  have hlt := (List.getElem?_eq_some_iff.1 hi).1
  refine WR.step (v := ptr b (o + i)) (w' := w) ⟨nofun, fun ρ hfi => ?_⟩ hw rfl hn (k _ hc)
  have h0 : (0 : Int) ≤ (i : Int) ∧ (i : Int) < (l.length : Int) := by omega
  simp only [execOp, hfi _ _ hx, hfi _ _ hy, Instr.indexAt, Sem.run_bind, asIntOf, run_underlying ht, Result.andThen_ok, Sem.run_pure, hz, h0, and_self, if_true, Addr.add_lit, Int.toNat_natCast, Nat.mul_one]

/-- s[i:j] of what is read -/
theorem run_slice_part {i j : Nat} {lo hi : Option Value} (ht : P.underlying t = some (.slice t')) (hz : ∀ w, (sizeOf t').run P w = .ok 1 w) (A : Option Addr) (nn c : Nat) (hnc : nn ≤ c) (hij : i ≤ j) (hj : j ≤ nn)
    (hlo : lo = some (I i) ∨ (lo = none ∧ i = 0)) (hhi : hi = some (I j) ∨ (hi = none ∧ j = nn)) :
    (Instr.sliceAt t (.slice A nn c) lo hi none).run P w = .ok (.slice (if c = i then A else A.map (·.add i)) (j - i) (c - i)) w := by
  have a1 : (0 : Int) ≤ (i : Int) ∧ (i : Int) ≤ (j : Int) := by omega
  have a2 : (0 : Int) ≤ (j : Int) ∧ (j : Int) ≤ (c : Int) := by omega
  rcases hlo with rfl | ⟨rfl, rfl⟩ <;> rcases hhi with rfl | ⟨rfl, rfl⟩ <;>
    simp only [Instr.sliceAt, Instr.slice, Instr.sliceBounds, Instr.sliceBound, asIntOf, Sem.run_bind, run_underlying ht, Result.andThen_ok, Sem.run_pure, a1, a2, and_self, if_true, Int.toNat_natCast, hz, Nat.mul_one, Option.isSome_none]
theorem WR.sliceSl {i j : Nat} {lo hi : Option Operand} (ht : P.underlying t = some (.slice t')) (hz : ∀ w, (sizeOf t').run P w = .ok 1 w) (h : Sl M enc v l) (hx : ev e x = some v)
    (hlo : (∃ o, lo = some o ∧ ev e o = some (I i)) ∨ (lo = none ∧ i = 0)) (hhi : (∃ o, hi = some o ∧ ev e o = some (I j)) ∨ (hi = none ∧ j = l.length)) (hij : i ≤ j) (hj : j ≤ l.length)
    (hw : Wn ops n D e ⟨some d, .slice t x lo hi none, ty, pos, af, g⟩) (hn : Nat.blt d n = true) (k : ∀ v', Sl M enc v' ((l.take j).drop i) → WR r P ops Q n D rest ((d, v') :: e) w) :
    WR r P ops Q n D (⟨some d, .slice t x lo hi none, ty, pos, af, g⟩ :: rest) e w := by
  obtain ⟨A, nn, c, rfl, rfl, hnc, hs⟩ := h.part hij hj
  refine WR.step (w' := w) ⟨nofun, fun ρ hfi => ?_⟩ hw rfl hn (k _ hs)
  have hr := run_slice_part (P := P) (w := w) (lo := lo.map ρ) (hi := hi.map ρ) ht hz A l.length c hnc hij hj
    (by rcases hlo with ⟨o, rfl, ho⟩ | ⟨rfl, h⟩
        · exact .inl (by simp [hfi _ _ ho])
        · exact .inr ⟨rfl, h⟩)
    (by rcases hhi with ⟨o, rfl, ho⟩ | ⟨rfl, h⟩
        · exact .inl (by simp [hfi _ _ ho])
        · exact .inr ⟨rfl, h⟩)
  simp only [execOp, hfi _ _ hx, Option.map_none, Sem.run_bind, hr, Result.andThen_ok, Sem.run_pure]

/-- a[:] of a variable of the call's own -/
theorem Ex.sliceArr {b len sz : Nat} {t0 : TypeId} (ht : P.underlying t = some (.array len t0)) (hz : ∀ w, (sizeOf t0).run P w = .ok sz w) (hx : ev e x = some (ptr b 0)) : Ex P ⟨dst, .slice t x none none none, ty, pos, af, g⟩ e w (.slice (some ⟨b, 0, none⟩) len len) w :=
  ⟨nofun, fun ρ hfi => by
    simp only [execOp, hfi _ _ hx, Option.map_none, Instr.sliceAt, Sem.run_bind, run_underlying ht, Result.andThen_ok, Instr.sureAddr, Sem.run_pure, Instr.sliceBounds, hz, Addr.add_lit]
    simp [Instr.sliceBound]⟩
/-- a function value -/
theorem Ex.makeFunc {f : FuncId} {cs : List Operand} {vs : List Value} (hc : evs e cs = some vs) : Ex P ⟨dst, .makeFunc (.func f) #[] cs.toArray, ty, pos, af, g⟩ e w (.func (.func f) #[] vs.toArray) w :=
  ⟨nofun, fun ρ hfi => by simp [execOp, Instr.makeFunc, hfi.evs hc]⟩

/-- string(b) -/
theorem Sl.toStr {l : List UInt8} {ts : TypeId} (ht : P.underlying t = some (.slice t')) (he : P.underlying t' = some (.int .u8)) (hd : P.underlying ts = some .string) (h : Bs M v l) (ha : Ag M w) : (convert t ts v).run P w = .ok (S l) w := by
  obtain ⟨A, c, rfl, hc, hn⟩ := h.cells ha
  cases A with
  | none =>
    obtain ⟨rfl, rfl⟩ := hn rfl
    exact run_convert_bytes_nil w t t' ht he _ _ ts hd
  | some ad =>
    rw [run_convert_bytes_string w t ts t' (some ad) _ _ ht he hd]
    have hl : (loadCells ad (l.map encB).length).run P w = .ok (l.map encB).toArray w := run_loadCells_list (P := P) w ad (l.map encB) (hc ad rfl)
    rw [List.length_map] at hl
    simp only [Conv.bytesToString, Sem.run_bind, hl, Result.andThen_ok]
    have key : ∀ (m : List UInt8) (acc : ByteArray), (forIn (m.map encB).toArray acc (fun c (s : ByteArray) => (do
        let .int .u8 n := c | stuck "bytesToString: byte expected"
        pure (ForInStep.yield (s.push (UInt8.ofNat n.toNat))) : Sem (ForInStep ByteArray)))).run P w = .ok ⟨acc.data ++ m.toArray⟩ w := by
      intro m
      induction m with
      | nil => intro acc; simp
      | cons x m ih =>
        intro acc
        have e1 : (acc.push x).data ++ m.toArray = acc.data ++ (x :: m).toArray := by
          apply Array.ext'
          simp
        have := ih (acc.push x)
        rw [e1] at this
        simp at this ⊢
        exact this
    have k0 := key l ByteArray.empty
    simp at k0 ⊢
    rw [k0]
theorem Ex.toStr {l : List UInt8} {ts : TypeId} (ht : P.underlying t = some (.slice t')) (he : P.underlying t' = some (.int .u8)) (hd : P.underlying ts = some .string) (H : StX C w0 M0 M L w) (h : Bs M v l) (hx : ev e x = some v) :
    Ex P ⟨dst, .convert t ts x, ty, pos, af, g⟩ e w (S l) w :=
  ⟨nofun, fun ρ hfi => by simp only [execOp, hfi _ _ hx, Sem.run_bind, h.toStr ht he hd H.ag, Result.andThen_ok, Sem.run_pure]⟩

/-! append -/
theorem Sl.src (ht : P.underlying t = some (.slice t')) (h : Sl M enc v l) (ha : Ag M w) (h1 : ∀ a, (enc a).oneCell' = true) : Src P 1 t v l.length (l.map enc) w := by
  obtain ⟨A, c, rfl, hc, hn⟩ := h.cells ha
  have h1' : ∀ u ∈ l.map enc, u.oneCell' = true := fun u hu => by obtain ⟨a, _, rfl⟩ := List.mem_map.1 hu; exact h1 a
  cases A with
  | none =>
    obtain ⟨rfl, rfl⟩ := hn rfl
    exact Src.ofNil w ht _
  | some ad => exact Src.ofSlice w ht ad _ _ _ (by simp) (hc ad rfl) h1'
theorem srcStr {l : List UInt8} (ht : P.underlying t = some .string) : Src P 1 t (S l) l.length (l.map encB) w := by
  have := Src.ofString w ht ⟨l.toArray⟩
  rw [size_mk] at this
  have e1 : byteCells ⟨l.toArray⟩ = l.map encB := by simp [byteCells]
  rwa [e1] at this
theorem WR.appendK {z : Value} {bytes : Nat} {tx : TypeId} {L' : Item → List Item} (T : ElemTy P ts t z 1 bytes) (H : StX C w0 M0 M L w) (hx : ev e x = some v) (hu : ∀ it', Upd L (RowI t enc v l) it' (L' it')) (hy : ev e y = some u)
    (hs : Src P 1 tx u l2.length (l2.map enc) w) (hb : (l.length + l2.length) * bytes ≤ 140737488355328) (hb' : l.length + l2.length ≤ maxLen)
    (hw : Wn ops n D e ⟨some d, .call ⟨.builtin .append, #[x, y], #[ts, tx]⟩, ty, pos, af, g⟩) (hn : Nat.blt d n = true)
    (k : ∀ v' w', StX C w0 M0 M (L' (RowI t enc v' (l ++ l2))) w' → WR r P ops Q n D rest ((d, v') :: e) w') :
    WR r P ops Q n D (⟨some d, .call ⟨.builtin .append, #[x, y], #[ts, tx]⟩, ty, pos, af, g⟩ :: rest) e w := by
  have hm := (hu (RowI t enc v l)).mem
  obtain ⟨v', w', hrun, h1, h2, h3⟩ := run_append_own_src (P := P) (ty := ty) w 0 T v l.length (l.map enc) (H.rowOf hm) u l2.length (l2.map enc) hs hb' hb (Nat.zero_le _)
  have h1' : w'.ownsRow 0 t 1 v' (l ++ l2).length ((l ++ l2).map enc) := by rw [List.length_append, List.map_append]; exact h1
  refine WR.step (w' := w') ⟨nofun, fun ρ hfi => ?_⟩ hw rfl hn (k v' w' (H.upd (hu _) h2 h1' (fun b hb' => ?_)))
  · simp only [execOp, resolve, invoke, builtin, Sem.run_bind, Sem.run_pure, Result.andThen_ok, List.map_toArray, List.map_cons, List.map_nil, hfi _ _ hx, hfi _ _ hy, hrun]
  · have hb'' : v'.ownBlock = some b := hb'
    rcases h3 with h3 | h3
    · exact .inl (h3.symm.trans hb'')
    · rw [h3] at hb''
      have : w.heap.size = b := Option.some.inj hb''
      exact .inr (by omega)
/-- append(own, data...) -/
theorem WR.appendSl {z : Value} {bytes : Nat} {L' : Item → List Item} (T : ElemTy P ts t z 1 bytes) (h1 : ∀ a, (enc a).oneCell' = true) (H : StX C w0 M0 M L w) (hx : ev e x = some v) (hu : ∀ it', Upd L (RowI t enc v l) it' (L' it')) (hy : ev e y = some u)
    (hs : Sl M enc u l2) (hb : (l.length + l2.length) * bytes ≤ 140737488355328) (hb' : l.length + l2.length ≤ maxLen)
    (hw : Wn ops n D e ⟨some d, .call ⟨.builtin .append, #[x, y], #[ts, ts]⟩, ty, pos, af, g⟩) (hn : Nat.blt d n = true)
    (k : ∀ v' w', StX C w0 M0 M (L' (RowI t enc v' (l ++ l2))) w' → WR r P ops Q n D rest ((d, v') :: e) w') :
    WR r P ops Q n D (⟨some d, .call ⟨.builtin .append, #[x, y], #[ts, ts]⟩, ty, pos, af, g⟩ :: rest) e w :=
  WR.appendK T H hx hu hy (hs.src T.under H.ag h1) hb hb' hw hn k
/-- append(own, array[:]...) of a variable of the call's own -/
theorem WR.appendBlk {z : Value} {bytes b cp : Nat} {L' : Item → List Item} (T : ElemTy P ts t z 1 bytes) (h1 : ∀ a, (enc a).oneCell' = true) (H : StX C w0 M0 M L w) (hx : ev e x = some v) (hu : ∀ it', Upd L (RowI t enc v l) it' (L' it')) (hy : ev e y = some (.slice (some ⟨b, 0, none⟩) l2.length cp))
    (hm : Item.blk b (.cells (l2.map enc).toArray t') ∈ L) (hb : (l.length + l2.length) * bytes ≤ 140737488355328) (hb' : l.length + l2.length ≤ maxLen)
    (hw : Wn ops n D e ⟨some d, .call ⟨.builtin .append, #[x, y], #[ts, ts]⟩, ty, pos, af, g⟩) (hn : Nat.blt d n = true)
    (k : ∀ v' w', StX C w0 M0 M (L' (RowI t enc v' (l ++ l2))) w' → WR r P ops Q n D rest ((d, v') :: e) w') :
    WR r P ops Q n D (⟨some d, .call ⟨.builtin .append, #[x, y], #[ts, ts]⟩, ty, pos, af, g⟩ :: rest) e w :=
  WR.appendK T H hx hu hy (Src.ofSlice w T.under ⟨b, 0, none⟩ _ _ _ (by simp) (fun j u hj => by
    rw [Addr.add_lit, Nat.zero_add, cell_of_row w b j _ t' _ (H.blk hm)]
    simpa using hj) (fun u hu => by obtain ⟨a, _, rfl⟩ := List.mem_map.1 hu; exact h1 a)) hb hb' hw hn k
/-- append(own, string...) -/
theorem WR.appendStr {z : Value} {l l2 : List UInt8} {tx : TypeId} {L' : Item → List Item} (T : ElemTy P ts t z 1 1) (ht : P.underlying tx = some .string) (H : StX C w0 M0 M L w) (hx : ev e x = some v) (hu : ∀ it', Upd L (RowI t encB v l) it' (L' it')) (hy : ev e y = some (S l2))
    (hb : l.length + l2.length ≤ 140737488355328)
    (hw : Wn ops n D e ⟨some d, .call ⟨.builtin .append, #[x, y], #[ts, tx]⟩, ty, pos, af, g⟩) (hn : Nat.blt d n = true)
    (k : ∀ v' w', StX C w0 M0 M (L' (RowI t encB v' (l ++ l2))) w' → WR r P ops Q n D rest ((d, v') :: e) w') :
    WR r P ops Q n D (⟨some d, .call ⟨.builtin .append, #[x, y], #[ts, tx]⟩, ty, pos, af, g⟩ :: rest) e w :=
  WR.appendK T H hx hu hy (srcStr ht) (by omega) (by simp only [maxLen]; omega) hw hn k

/-! structs that are written out -/
def evq (e : Env) : List (Nat × Operand) → Option (List (Nat × Value))
  | [] => some []
  | (i, x) :: r => match ev e x, evq e r with | some v, some vs => some ((i, v) :: vs) | _, _ => none
theorem Fits.evq {ρ : Operand → Value} (hf : Fits e ρ) : ∀ {ps : List (Nat × Operand)} {vs : List (Nat × Value)}, evq e ps = some vs → ps.map (fun p => (p.1, ρ p.2)) = vs
  | [], vs, h => by simp [Ph.evq] at h; simp [h]
  | (i, x) :: r, vs, h => by
    simp only [Ph.evq] at h
    split at h
    · rename_i v vs' h1 h2
      cases h
      simp [hf _ _ h1, hf.evq h2]
    · cases h
theorem Ex.build {ps : List (Nat × Operand)} {vs : List (Nat × Value)} {fs : Array Field} {places : Array (Nat × Nat)} (cs : List Value) (hu : P.underlying t = some (.struct fs)) (hz : ∀ w, (zeroValue t).run P w = .ok z w)
    (hpl : ∀ w, (fs.mapM fun f => do pure (f.offset, ← sizeOf f.type) : Sem (Array (Nat × Nat))).run P w = .ok places w) (hp : evq e ps = some vs) (hfl : Instr.fill (places[·]?) z.cells vs = some cs.toArray) :
    Ex P ⟨dst, .build t ps.toArray, ty, pos, af, g⟩ e w (.agg cs.toArray) w :=
  ⟨nofun, fun ρ hf => by
    have h1 : (ps.toArray.map fun x => (x.1, ρ x.2)).toList = vs := by simpa using hf.evq hp
    simp only [execOp, Instr.build, Sem.run_bind, hz, Result.andThen_ok, run_underlying hu, hpl, h1, hfl, Sem.run_pure]⟩

/-! slices that are written out -/
def evp (e : Env) : Nat → List (Nat × Operand) → Option (List Value)
  | _, [] => some []
  | k, (i, x) :: r => bif Nat.beq i k then (match ev e x, evp e (k + 1) r with | some v, some vs => some (v :: vs) | _, _ => none) else none
theorem fill_all {e : Env} {ρ : Operand → Value} (hf : Fits e ρ) : ∀ (ps : List (Nat × Operand)) (k : Nat) (vs : List Value) (cs : List Value), evp e k ps = some vs → (∀ v ∈ vs, v.cells = #[v]) → k + vs.length ≤ cs.length →
    Instr.fill (fun i => some (i * 1, 1)) cs.toArray (ps.map fun p => (p.1, ρ p.2)) = some (cs.take k ++ vs ++ cs.drop (k + vs.length)).toArray
  | [], k, vs, cs, h, _, _ => by
    simp only [evp, Option.some.injEq] at h
    subst h
    simp [Instr.fill]
  | (i, x) :: r, k, vs, cs, h, h1, hk => by
    simp only [evp] at h
    cases hb : Nat.beq i k with
    | false => rw [hb] at h; cases h
    | true =>
      have : i = k := Nat.eq_of_beq_eq_true hb
      subst this
      rw [hb] at h
      simp only [cond_true] at h
      split at h
      · rename_i v vs' e1 e2
        cases h
        simp only [List.length_cons] at hk
        have hv : v.cells = #[v] := h1 v (by simp)
        have hkl : i < cs.length := by omega
        have ih := fill_all hf r (i + 1) vs' (cs.set i v) e2 (fun u hu => h1 u (by simp [hu])) (by simp; omega)
        simp only [List.map_cons, hf _ _ e1, Instr.fill, hv]
        have c1 : ¬ ((decide ((#[v] : Array Value).size ≠ 1) || decide (i * 1 + (#[v] : Array Value).size > cs.toArray.size)) = true) := by simp; omega
        rw [if_neg c1]
        have c2 : ((#[v] : Array Value).zipIdx.foldl (fun cs (c, j) => cs.setIfInBounds (i * 1 + j) c) cs.toArray) = (cs.set i v).toArray := by simp
        rw [c2, ih]
        congr 2
        have hd : (cs.set i v).drop (i + 1 + vs'.length) = cs.drop (i + 1 + vs'.length) := List.drop_set_of_lt (by omega)
        have htk : (cs.set i v).take (i + 1) = cs.take i ++ [v] := by
          rw [List.take_succ_eq_append_getElem (by simp; omega), List.take_set_of_le (by omega)]
          simp
        rw [hd, htk]
        simp [Nat.add_assoc, Nat.add_comm 1]
      · cases h
theorem run_buildSlice {ps : List (Nat × Operand)} {vs : List Value} {ρ : Operand → Value} {bytes : Nat} (hf : Fits e ρ) (T : ElemTy P ts t z 1 bytes) (hp : evp e 0 ps = some vs) (h1 : ∀ v ∈ vs, v.cells = #[v]) {len : Nat} (hlen : vs.length = len) (hbig : len ≤ 16777216) :
    (Instr.buildSlice ts len (ps.toArray.map fun (i, x) => (i, ρ x))).run P w = .ok (.slice (some ⟨w.heap.size, 0, none⟩) len len) (w.alloc (.cells vs.toArray t)) := by
  obtain ⟨i, hi, hz, hsz, _⟩ := T.info
  subst hlen
  have hs : (sizeOf t).run P w = .ok 1 w := by simp [sizeOf, typeInfo, hi, hsz]
  have hzv : (zeroValue t).run P w = .ok z w := by simp [zeroValue, typeInfo, hi, hz]
  have hnb : ¬ (vs.length * 1 > 2 ^ 24) := by omega
  have fl : ∀ cs : List Value, cs.length = vs.length → Instr.fill (fun i => some (i * 1, 1)) cs.toArray (ps.map fun p => (p.1, ρ p.2)) = some vs.toArray := fun cs hcs => by
    have := fill_all hf ps 0 vs cs hp h1 (by omega)
    rw [this]
    simp [hcs]
  have fl' : ∀ cs : Array Value, cs.size = vs.length → Instr.fill (fun i => some (i * 1, 1)) cs (ps.toArray.map fun x => (x.1, ρ x.2)).toList = some vs.toArray := fun cs hcs => by
    have := fl cs.toList (by simpa using hcs)
    simpa using this
  by_cases h0 : vs.length * 1 = 0
  · simp only [Instr.buildSlice, Sem.run_bind, run_underlying T.under, Result.andThen_ok, hs, hnb, if_false]
    rw [if_pos h0]
    simp only [Sem.run_bind, Sem.run_pure, Result.andThen_ok]
    rw [fl' _ (by simp)]
    rfl
  · simp only [Instr.buildSlice, Sem.run_bind, run_underlying T.under, Result.andThen_ok, hs, hnb, if_false]
    rw [if_neg h0]
    simp only [Sem.run_bind, hzv, Sem.run_pure, Result.andThen_ok]
    rw [fl' _ (by simp)]
    rfl
/-- a literal slice that is only read from now on -/
theorem WR.lit {ps : List (Nat × Operand)} {vs : List Value} {bytes len : Nat} (T : ElemTy P ts t z 1 bytes) (l : List α) (H : StX C w0 M0 M L w) (hp : evp e 0 ps = some vs) (hl : vs = l.map enc) (h1 : ∀ a, (enc a).cells = #[enc a]) (hlen : l.length = len) (hbig : Nat.ble len 16777216 = true)
    (hw : Wn ops n D e ⟨some d, .buildSlice ts len ps.toArray, ty, pos, af, g⟩) (hn : Nat.blt d n = true)
    (k : ∀ v M' w', StX C w0 M0 M' L w' → M.le M' → Sl M' enc v l → WR r P ops Q n D rest ((d, v) :: e) w') :
    WR r P ops Q n D (⟨some d, .buildSlice ts len ps.toArray, ty, pos, af, g⟩ :: rest) e w := by
  have hbig := Nat.le_of_ble_eq_true hbig
  have H1 := H.new (it := .blk w.heap.size (.cells vs.toArray t)) (grownBy_alloc' w (.cells vs.toArray t)) (heap_alloc_new w _) (fun b hb => by cases hb; exact Nat.le_refl _)
  obtain ⟨h2, h3⟩ := H1.freeze .head rfl (heap_alloc_new w _) H.base
  refine WR.step (w' := w.alloc (.cells vs.toArray t)) (v := .slice (some ⟨w.heap.size, 0, none⟩) len len) ⟨nofun, fun ρ hf => ?_⟩ hw rfl hn (k _ _ _ h3 h2 ⟨some ⟨w.heap.size, 0, none⟩, len, by rw [hlen], by omega, ⟨by simp only [maxLen]; omega, fun h => by cases h⟩, fun _ => ⟨w.heap.size, 0, vs.toArray, t, (0, 0), rfl, by simp [Mem.set], fun i x hx => ?_⟩⟩)
  · have := run_buildSlice (P := P) (w := w) hf T hp (fun v hv => by rw [hl] at hv; obtain ⟨a, _, rfl⟩ := List.mem_map.1 hv; exact h1 a) (len := len) (by rw [hl]; simpa using hlen) hbig
    simp only [execOp, Sem.run_bind, this, Result.andThen_ok, Sem.run_pure]
  · rw [hl]
    simp [hx]
/-- []byte("constant"): the literal, and its conversion to its own type -/
theorem WR.litC {ps : List (Nat × Operand)} {vs : List Value} {bytes len d2 : Nat} {ty' : TypeId} {pos' : String} {af' : Array Edge} {g' : Option (Nat × Bool)} (T : ElemTy P ts t z 1 bytes) (hu8 : P.underlying t = some (.int .u8)) (l : List UInt8) (H : StX C w0 M0 M L w) (hp : evp e 0 ps = some vs) (hl : vs = l.map encB) (hlen : l.length = len) (hbig : Nat.ble len 16777216 = true)
    (hw : Wn ops n D e ⟨some d, .buildSlice ts len ps.toArray, ty, pos, af, g⟩) (hn : Nat.blt d n = true)
    (hw' : ∀ v, Wn ops n D ((d, v) :: e) ⟨some d2, .convert ts ts (.tmp d), ty', pos', af', g'⟩) (hn' : Nat.blt d2 n = true)
    (k : ∀ v M' w', StX C w0 M0 M' L w' → M.le M' → Bs M' v l → WR r P ops Q n D rest ((d2, v) :: (d, v) :: e) w') :
    WR r P ops Q n D (⟨some d, .buildSlice ts len ps.toArray, ty, pos, af, g⟩ :: ⟨some d2, .convert ts ts (.tmp d), ty', pos', af', g'⟩ :: rest) e w := by
  have hbig := Nat.le_of_ble_eq_true hbig
  have hvs : vs.length = len := by rw [hl]; simpa using hlen
  refine WR.step (w' := w.alloc (.cells vs.toArray t)) (v := .slice (some ⟨w.heap.size, 0, none⟩) len len) ⟨nofun, fun ρ hf => ?_⟩ hw rfl hn ?_
  · have := run_buildSlice (P := P) (w := w) hf T hp (fun v hv => by rw [hl] at hv; obtain ⟨a, _, rfl⟩ := List.mem_map.1 hv; rfl) (len := len) hvs hbig
    simp only [execOp, Sem.run_bind, this, Result.andThen_ok, Sem.run_pure]
  · have hc := Lib.run_convert_bytes_const (P := P) w ts t vs.toArray len len T.under hu8
    have H1 := H.new (w' := w.alloc (.cells vs.toArray t (len, len + 1))) (it := .blk w.heap.size (.cells vs.toArray t (len, len + 1))) (grownBy_alloc' w _) (heap_alloc_new w _) (fun b hb => by cases hb; exact Nat.le_refl _)
    obtain ⟨h2, h3⟩ := H1.freeze .head rfl (heap_alloc_new w _) H.base
    refine WR.step (w' := w.alloc (.cells vs.toArray t (len, len + 1))) (v := .slice (some ⟨w.heap.size, 0, none⟩) len len) ⟨nofun, fun ρ hf => ?_⟩ (hw' _) rfl hn' (k _ _ _ h3 h2 ⟨some ⟨w.heap.size, 0, none⟩, len, by rw [hlen], by omega, ⟨by simp only [maxLen]; omega, fun h => by cases h⟩, fun _ => ⟨w.heap.size, 0, vs.toArray, t, (len, len + 1), rfl, by simp [Mem.set], fun i x hx => ?_⟩⟩)
    · have hg : ρ (.tmp d) = .slice (some ⟨w.heap.size, 0, none⟩) len len := hf _ _ (by simp [ev, get])
      have hsz : vs.toArray.size = len := by simpa using hvs
      rw [hsz] at hc
      simp only [execOp, hg, Sem.run_bind, hc, Result.andThen_ok, Sem.run_pure]
    · rw [hl]
      simp [hx]
/-! calls -/
theorem WR.call {f : FuncId} {as : List Operand} {vs : List Value} {tys : Array TypeId} {Pre : Mem → Prop} {R : Value → Mem → Prop} (H : StX C w0 M0 M L w) (hs : Ct P f vs Pre R) (ha : evs e as = some vs) (hp : Pre M)
    (hw : Wn ops n D e ⟨some d, .call ⟨.value (.func f), as.toArray, tys⟩, ty, pos, af, g⟩) (hn : Nat.blt d n = true)
    (k : ∀ v M' w', StX C w0 M0 M' L w' → M.le M' → R v M' → WR r P ops Q n D rest ((d, v) :: e) w') :
    WR r P ops Q n D (⟨some d, .call ⟨.value (.func f), as.toArray, tys⟩, ty, pos, af, g⟩ :: rest) e w := by
  intro a hsat
  unfold wpListIn
  rw [if_pos (hw a hsat)]
  refine ⟨fun _ _ => trivial, ?_⟩
  rw [Oper.semAt_eq _ _ _ (fun c h => by cases h)]
  have hv : as.map a.eval = vs := hsat.fits.evs ha
  have hf : a.eval (.func f) = .func (.func f) #[] #[] := rfl
  have hrun : (execOp a.eval ⟨some d, .call ⟨.value (.func f), as.toArray, tys⟩, ty, pos, af, g⟩).run P w = .ok (.enter f vs.toArray) w := by
    simp only [execOp, resolve, hf, Deferred.ofValue, Sem.run_bind, Sem.run_pure, Result.andThen_ok, invoke, List.map_toArray, hv, Array.append_empty, Array.empty_append, hs.enters]
  rw [hrun, Oper.uponIn_enter]
  refine ⟨fun h => (by cases h), callsIn_Wd.2 ((hs.calls w M H.ag hp).mono ?_)⟩
  rintro en w' ⟨rv, M', rfl, hx, hR⟩
  exact k rv M' w' (H.call hx) hx.le hR _ (hsat.put (Nat.le_of_ble_eq_true hn) rv)
theorem WR.callO {f : FuncId} {as : List Operand} {vs : List Value} {tys : Array TypeId} {Pre : Mem → Prop} {R : Value → Mem → List Item → Prop} (H : StX C w0 M0 M L w) (hs : CtO P f vs Pre R) (ha : evs e as = some vs) (hp : Pre M)
    (hw : Wn ops n D e ⟨some d, .call ⟨.value (.func f), as.toArray, tys⟩, ty, pos, af, g⟩) (hn : Nat.blt d n = true)
    (k : ∀ v M' w' its, StX C w0 M0 M' (its ++ L) w' → M.le M' → R v M' its → WR r P ops Q n D rest ((d, v) :: e) w') :
    WR r P ops Q n D (⟨some d, .call ⟨.value (.func f), as.toArray, tys⟩, ty, pos, af, g⟩ :: rest) e w := by
  intro a hsat
  unfold wpListIn
  rw [if_pos (hw a hsat)]
  refine ⟨fun _ _ => trivial, ?_⟩
  rw [Oper.semAt_eq _ _ _ (fun c h => by cases h)]
  have hv : as.map a.eval = vs := hsat.fits.evs ha
  have hf : a.eval (.func f) = .func (.func f) #[] #[] := rfl
  have hrun : (execOp a.eval ⟨some d, .call ⟨.value (.func f), as.toArray, tys⟩, ty, pos, af, g⟩).run P w = .ok (.enter f vs.toArray) w := by
    simp only [execOp, resolve, hf, Deferred.ofValue, Sem.run_bind, Sem.run_pure, Result.andThen_ok, invoke, List.map_toArray, hv, Array.append_empty, Array.empty_append, hs.enters]
  rw [hrun, Oper.uponIn_enter]
  refine ⟨fun h => (by cases h), callsIn_Wd.2 ((hs.calls w M H.ag hp).mono ?_)⟩
  rintro en w' ⟨rv, M', its, rfl, hx, hR⟩
  exact k rv M' w' its (H.callO hx) hx.ext.le hR _ (hsat.put (Nat.le_of_ble_eq_true hn) rv)
end
end Go.Ph
