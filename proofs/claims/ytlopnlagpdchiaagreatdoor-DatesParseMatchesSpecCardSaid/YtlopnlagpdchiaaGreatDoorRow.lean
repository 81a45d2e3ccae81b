/-
  From a contract of a law to its row: the arguments opened, the result and the arguments shut. No program in sight.
-/
import Derived.Test.YtlopnlagpdchiaaGreatDoorHeap
import Derived.WalkKit
import Derived.ProofKit
import Derived.OpenShut
import Derived.JoinedCond
import Derived.Carry
set_option linter.unusedVariables false
set_option linter.unusedSimpArgs false
namespace Go.Ph
open Go Go.RowKit Go.ChangeShapes Go.WideShapes Go.ChangeAt

/-- the memory as a call finds it -/
abbrev memOf (W : World) : Mem := fun b => W.heap[b]?
theorem ag_memOf (W : World) : Ag (memOf W) W := fun _ _ h => h

section
variable {H : Type} {enc : TypeId × Value → H} {P : Program} {W W' : World}

theorem trodAll_stays (hl : laidOutB P = true) (hB : Below W.heap.size W W') {sp : Nat → Bool} : ∀ {ts : List TypeId} {vs : List Value} {ds : List (DataW H)} {ps : List MemPlace}, (∀ t ∈ ts, P.readableRec t = true ∧ t < P.types.size) →
    (∀ x ∈ ps, x.block < W.heap.size) → (∀ x ∈ ps, sp x.block = true) → DataW.TrodAll enc P W 0 (fun _ => true) true ts vs ds ps → DataW.TrodAll enc P W' 0 sp true ts vs ds ps
  | [], _, _, _, _, _, _, h => by
    obtain ⟨rfl, rfl, rfl⟩ := trodAll_nil h
    exact trodAll_mk0
  | t :: ts, _, _, _, ht, hlt, hs, h => by
    obtain ⟨v, vs', d, ds', p, q, rfl, rfl, rfl, h1, h2⟩ := trodAll_cons h
    have ht1 := ht t List.mem_cons_self
    exact ⟨p, q, WideElems.Trod_stays hl ht1.1 ht1.2 h1 (fun x hx => hB.same (hlt x (List.mem_append_left _ hx))) (fun x hx => hs x (List.mem_append_left _ hx)),
      trodAll_stays hl hB (fun t' ht' => ht t' (List.mem_cons_of_mem _ ht')) (fun x hx => hlt x (List.mem_append_right _ hx)) (fun x hx => hs x (List.mem_append_right _ hx)) h2, rfl⟩

/-- the row's last step: the law has answered true, and of what was there nothing has turned -/
theorem law_done {f : Func} {s : ChangeSpec} {tb : TypeId} {apart fresh handsOn : Bool} {args : Array Value} {ds : List (DataW H)} {before : List MemPlace} (hl : laidOutB P = true) (hr0 : (f.params.toList.all fun t => P.readableRec t && decide (t < P.types.size)) = true) (hrt : f.resultTypes = #[tb]) (hb : P.underlying tb = some .bool)
    (hW : DataW.Whole enc P f.params.toList s.vars apart W args.toList ds [] before) (hA : DataW.TrodAll enc P W 0 (fun _ => true) true f.params.toList args.toList ds before) (hv : s.vars = []) (h1 : (s.fn H (ds ++ [])).results = [.lit (.bool true)]) (h2 : (s.fn H (ds ++ [])).args = ds) (h3 : (s.fn H (ds ++ [])).vars = [])
    (hB : Below W.heap.size W W') : s.post enc P f apart fresh handsOn false W args (.bool true) W' := by
  have hlt : ∀ p ∈ before, p.block < W.heap.size := fun p hp => hW.lt p hp
  have hr : ∀ t ∈ f.params.toList, P.readableRec t = true ∧ t < P.types.size := fun t ht => by simpa using List.all_eq_true.1 hr0 t ht
  refine ⟨ds, [], before, [], before, [], hW, ?_, ?_, ?_, hB.frame _, fun h => by cases h⟩
  · rw [hrt, h1]; exact trodAll_mk1 (shut_bool hb _)
  · rw [h2]; exact trodAll_stays hl hB hr hlt (fun x hx => by simpa using hlt x hx) hA
  · rw [hv, h3]; rfl

/-- cells that are read through an address lie in one block -/
theorem cells_at {A : Addr} {n : Nat} {f : Nat → Value} (hn : 0 < n) (h : ∀ i, i < n → W.cell? (A.add i) = some (f i)) : ∃ b o cs t fz, A = ⟨b, o, none⟩ ∧ memOf W b = some (.cells cs t fz) ∧ ∀ i, i < n → cs[o + i]? = some (f i) := by
  obtain ⟨b, o, s⟩ := A
  obtain rfl : s = none := by simpa [Addr.add] using World.cell?_spot (h 0 hn)
  have h0 := h 0 hn
  rw [Addr.add_lit] at h0
  simp only [World.cell?] at h0
  cases hb : W.heap[b]? with
  | none => rw [hb] at h0; cases h0
  | some ob =>
    cases ob with
    | cells cs t fz =>
      refine ⟨b, o, cs, t, fz, rfl, hb, fun i hi => ?_⟩
      have := h i hi
      rw [Addr.add_lit] at this
      simpa [World.cell?, hb] using this
    | _ => rw [hb] at h0; cases h0

/-- an argument of a slice of numbers -/
theorem open_nums {t e : TypeId} {k : IntKind} {v : Value} {d : DataW H} {p : List MemPlace} {base : Nat} (ht : P.underlying t = some (.slice e)) (he : P.underlying e = some (.int k)) (hc : P.cellsOf e = 1)
    (hval : Value.okWide P W .any base t v) (h0 : DataW.Trod enc P W 0 (fun _ => true) true t v d p) : ∃ zs : List Int, Sl (memOf W) (Value.int k) v zs ∧ ∀ z ∈ zs, (Lit.int k z).wf = true := by
  obtain ⟨a0, len, cap, rfl⟩ := okWide_slice ht hval
  obtain ⟨fuel, hf⟩ := h0
  rcases open_ints ht he hc hf with ⟨hcs, hx⟩ | ⟨a, len', cap', zs, hcs, _, hl, hm, hz, hx, hcell, hwz⟩
  · simp [Value.cells] at hcs
    obtain ⟨rfl, rfl, rfl⟩ := hcs
    exact ⟨[], Sl.nil _ _, fun _ h => by cases h⟩
  · simp [Value.cells] at hcs
    obtain ⟨rfl, rfl, rfl⟩ := hcs
    simp only [if_true] at hz
    have hlen : (zs.take len).length = len := by simp; omega
    refine ⟨zs.take len, ⟨some a, cap, by rw [hlen], by omega, ⟨hm, fun h => by cases h⟩, fun hne => ?_⟩, fun z hz' => hwz z (List.mem_of_mem_take hz')⟩
    have hpos : 0 < zs.length := by
      rcases Nat.eq_zero_or_pos zs.length with h | h
      · exact absurd (by rw [List.eq_nil_of_length_eq_zero h]; simp) hne
      · exact h
    obtain ⟨b, o, cs, t', fz, rfl, hb, hcs⟩ := cells_at hpos hcell
    refine ⟨b, o, cs, t', fz, rfl, hb, fun i x hi => ?_⟩
    have hil := (List.getElem?_eq_some_iff.1 hi).1
    rw [hlen] at hil
    rw [hcs i (by omega)]
    rw [List.getElem?_take, if_pos hil] at hi
    simp [List.getD, hi]
/-- what a slice's datum says of its length -/
def DLen {H : Type} (d : DataW H) (n : Nat) : Prop := (d = .nil ∧ n = 0) ∨ ∃ els sp, d = .slice els sp ∧ els.length = n
theorem open_numsD {t e : TypeId} {k : IntKind} {v : Value} {d : DataW H} {p : List MemPlace} {base : Nat} (ht : P.underlying t = some (.slice e)) (he : P.underlying e = some (.int k)) (hc : P.cellsOf e = 1)
    (hval : Value.okWide P W .any base t v) (h0 : DataW.Trod enc P W 0 (fun _ => true) true t v d p) : ∃ zs : List Int, (Sl (memOf W) (Value.int k) v zs ∧ ∀ z ∈ zs, (Lit.int k z).wf = true) ∧ DLen d zs.length := by
  obtain ⟨zs, h1, h2⟩ := open_nums ht he hc hval h0
  refine ⟨zs, ⟨h1, h2⟩, ?_⟩
  obtain ⟨A, c, rfl, _⟩ := h1
  obtain ⟨fuel, hf⟩ := h0
  rcases open_ints ht he hc hf with ⟨hcs, hx⟩ | ⟨a, len', cap', zs', hcs, _, hl, hm, hz, hx, hcell, hwz⟩
  · simp [Value.cells] at hcs
    have e1 := congrArg Prod.fst hx
    exact .inl ⟨e1, by rw [hcs.2.1]; rfl⟩
  · simp [Value.cells] at hcs
    have e1 := congrArg Prod.fst hx
    simp only [if_true] at hz
    refine .inr ⟨_, _, e1, ?_⟩
    have hll : (lits (H := H) k (zs'.take len')).length = (zs'.take len').length := by unfold lits; exact List.length_map _
    rw [hll, List.length_take]
    omega
/-- sizes of arguments -/
theorem weights_at {ts : List TypeId} {ds : List (DataW H)} (h : ∀ x ∈ DataW.weightsEach P ts ds, x ≤ reachBytes) : ∀ (j : Nat) (t : TypeId) (d : DataW H), ts[j]? = some t → ds[j]? = some d → ∀ x ∈ d.weights P t, x ≤ reachBytes := by
  intro j
  induction j generalizing ts ds with
  | zero =>
    intro t d ht hd x hx
    cases ts with
    | nil => cases ht
    | cons a ts => cases ds with
      | nil => cases hd
      | cons b ds =>
        cases ht
        cases hd
        exact h x (by rw [DataW.weightsEach]; exact List.mem_append_left _ hx)
  | succ j ih =>
    intro t d ht hd x hx
    cases ts with
    | nil => cases ht
    | cons a ts => cases ds with
      | nil => cases hd
      | cons b ds => exact ih (fun y hy => h y (by rw [DataW.weightsEach]; exact List.mem_append_right _ hy)) t d ht hd x hx
theorem weights_of {ts vs : List TypeId} {ds gs : List (DataW H)} (h : (DataW.weightsEach P (ts ++ vs) (ds ++ gs)).all (· ≤ reachBytes) = true) (j : Nat) (t : TypeId) (d : DataW H) (ht : ts[j]? = some t) (hd : ds[j]? = some d) : ∀ x ∈ d.weights P t, x ≤ reachBytes :=
  weights_at (fun x hx => of_decide_eq_true (List.all_eq_true.1 h x hx)) j t d (by rw [List.getElem?_append_left (List.getElem?_eq_some_iff.1 ht).1]; exact ht) (by rw [List.getElem?_append_left (List.getElem?_eq_some_iff.1 hd).1]; exact hd)
theorem str_weight {t : TypeId} {b : List UInt8} (h : ∀ x ∈ (DataW.lit (H := H) (.string b)).weights P t, x ≤ reachBytes) : b.length ≤ 140737488351232 := h b.length (by simp [DataW.weights])
theorem slice_weight {t e : TypeId} {d : DataW H} {n k : Nat} (ht : P.underlying t = some (.slice e)) (hb : P.bytesOf e = k) (hk : 0 < k) (hd : DLen d n) (h : ∀ x ∈ d.weights P t, x ≤ reachBytes) : n ≤ 140737488351232 := by
  rcases hd with ⟨_, rfl⟩ | ⟨els, sp, rfl, rfl⟩
  · omega
  · have h1 := h ((els.length + sp.length) * k) (by simp only [DataW.weights, ht, hb]; exact List.mem_cons_self)
    have h2 : els.length ≤ (els.length + sp.length) * k := Nat.le_trans (Nat.le_add_right _ _) (Nat.le_mul_of_pos_right _ hk)
    simp only [reachBytes] at h1
    omega
theorem wf_u8 {z : Int} (h : (Lit.int .u8 z).wf = true) : 0 ≤ z ∧ z ≤ 255 := by simpa [Lit.wf, IntKind.min, IntKind.max, IntKind.signed, IntKind.bits] using h
theorem wf_i64 {z : Int} (h : (Lit.int .i64 z).wf = true) : -9223372036854775808 ≤ z ∧ z ≤ 9223372036854775807 := by simpa [Lit.wf, IntKind.min, IntKind.max, IntKind.signed, IntKind.bits] using h
/-- an argument of bytes -/
theorem open_bytes {t e : TypeId} {v : Value} {d : DataW H} {p : List MemPlace} {base : Nat} (ht : P.underlying t = some (.slice e)) (he : P.underlying e = some (.int .u8)) (hc : P.cellsOf e = 1)
    (hval : Value.okWide P W .any base t v) (h0 : DataW.Trod enc P W 0 (fun _ => true) true t v d p) : ∃ l : List UInt8, Bs (memOf W) v l := by
  obtain ⟨zs, ⟨A, c, rfl, h1, h2, h3⟩, hw⟩ := open_nums ht he hc hval h0
  refine ⟨zs.map ub, ⟨A, c, by simp, by simpa using h1, h2, fun hne => ?_⟩⟩
  obtain ⟨b, o, cs, t', fz, e1, e2, e3⟩ := h3 (by rintro rfl; exact hne rfl)
  refine ⟨b, o, cs, t', fz, e1, e2, fun i x hx => ?_⟩
  rw [List.getElem?_map] at hx
  obtain ⟨z, hz, rfl⟩ := Option.map_eq_some_iff.1 hx
  rw [e3 i z hz]
  have := wf_u8 (hw z (List.mem_of_getElem? hz))
  show some (Value.int .u8 z) = some (Value.int .u8 ((ub z).toNat : Int))
  rw [ub_toNat, Int.emod_eq_of_lt (by omega) (by omega)]
theorem open_bytesB {t e : TypeId} {v : Value} {d : DataW H} {p : List MemPlace} {base : Nat} (ht : P.underlying t = some (.slice e)) (he : P.underlying e = some (.int .u8)) (hc : P.cellsOf e = 1)
    (hval : Value.okWide P W .any base t v) (h0 : DataW.Trod enc P W 0 (fun _ => true) true t v d p) : ∃ l : List UInt8, Bs (memOf W) v l ∧ DLen d l.length := by
  obtain ⟨zs, ⟨⟨A, c, rfl, h1, h2, h3⟩, hw⟩, hD⟩ := open_numsD ht he hc hval h0
  refine ⟨zs.map ub, ⟨A, c, by simp, by simpa using h1, h2, fun hne => ?_⟩, by simpa using hD⟩
  obtain ⟨b, o, cs, t', fz, e1, e2, e3⟩ := h3 (by rintro rfl; exact hne rfl)
  refine ⟨b, o, cs, t', fz, e1, e2, fun i x hx => ?_⟩
  rw [List.getElem?_map] at hx
  obtain ⟨z, hz, rfl⟩ := Option.map_eq_some_iff.1 hx
  rw [e3 i z hz]
  have := wf_u8 (hw z (List.mem_of_getElem? hz))
  show some (Value.int .u8 z) = some (Value.int .u8 ((ub z).toNat : Int))
  rw [ub_toNat, Int.emod_eq_of_lt (by omega) (by omega)]
end
end Go.Ph
