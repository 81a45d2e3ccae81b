/-
  Proved: for every input the law posthousetop.TopSignaturesPassRelays returns true, and each argument reads behind the call as it read before. Conditions: those of the given card, none more.
-/
import Derived.Test.YtglpkikfplcckaaGreatDoorCards
import Derived.Test.YtglpkikfplcckaaGreatDoorTie
import Derived.WalkKit
import Derived.ProofKit
import Derived.OpenShut
import Derived.ChangeMaps5
import Derived.SevenTiedAt
import Derived.KernelRfl
import Derived.Test.YtglpkikfplcckaaGreatDoorE1e
set_option linter.unusedVariables false
set_option linter.unusedSimpArgs false
namespace Go.Proofs.YtglpkikfplcckaaGreatDoor
open Go Go.RowKit Go.Ph Go.ChangeShapes Go.WideShapes Go.ChangeAt
set_option maxRecDepth 100000 in
theorem topSignaturesPassRelays_contract (H : Type) (enc : TypeId × Value → H) (W : World) (base : Nat) (args : Array Value) (ds gs : List (DataW H)) (before : List MemPlace)
    (hval : ∀ (j : Nat) t v, Tryz.f3.params[j]? = some t → args[j]? = some v → Value.okWide Tryz.prog W .any base t v)
    (hW : DataW.Whole enc Tryz.prog Tryz.f3.params.toList Rows.topSignaturesPassRelaysSpec.vars false W args.toList ds gs before) (hL : laidMetH Tryz.prog Rows.topSignaturesPassRelaysRow.laid W) (hwt : ∀ (j : Nat) (t : TypeId) (d : DataW H), Tryz.f3.params.toList[j]? = some t → ds[j]? = some d → ∀ x ∈ d.weights Tryz.prog t, x ≤ reachBytes) (hSO : W.ShapedOpen Tryz.prog) :
    Calls Tryz.prog 3 args W fun e W' => ∃ v, e = .returned v ∧ Rows.topSignaturesPassRelaysSpec.post enc Tryz.prog Tryz.f3 false true false false W args v W' := by
  have hW' := hW
  obtain ⟨p, q, hA0, hV, rfl, hfz, hnd⟩ := hW
  have hA : DataW.TrodAll enc Tryz.prog W 0 (fun _ => true) true Tryz.f3.params.toList args.toList ds p := hA0
  have hA1 := hA
  rw [Tryz.params3] at hA hval hwt
  obtain ⟨v0, vs0, d0, ds0, p0, q0, hargs0, rfl, rfl, h0, hA⟩ := trodAll_cons hA
  obtain ⟨v1, vs1, d1, ds1, p1, q1, hargs1, rfl, rfl, h1, hA⟩ := trodAll_cons hA
  obtain ⟨v2, vs2, d2, ds2, p2, q2, hargs2, rfl, rfl, h2, hA⟩ := trodAll_cons hA
  obtain ⟨v3, vs3, d3, ds3, p3, q3, hargs3, rfl, rfl, h3, hA⟩ := trodAll_cons hA
  obtain ⟨v4, vs4, d4, ds4, p4, q4, hargs4, rfl, rfl, h4, hA⟩ := trodAll_cons hA
  obtain ⟨v5, vs5, d5, ds5, p5, q5, hargs5, rfl, rfl, h5, hA⟩ := trodAll_cons hA
  obtain ⟨rfl, rfl, rfl⟩ := trodAll_nil hA
  subst hargs1
  subst hargs2
  subst hargs3
  subst hargs4
  subst hargs5
  obtain rfl : args = #[v0, v1, v2, v3, v4, v5] := by cases args; simp_all
  obtain ⟨rfl, rfl⟩ := trodVars_none hV
  obtain ⟨l0, x0_0, x0_1, rfl, hl0_0, hl0_1, hx0⟩ := open_msg Tryz.underlying25 rfl rfl rfl rfl (by kernel_rfl) Tryz.underlying22 (by kernel_rfl) Tryz.underlying23 (by kernel_rfl) Tryz.underlying5 (by kernel_rfl) (by kernel_rfl) Tryz.underlying37 rfl rfl rfl rfl Tryz.underlying9 (by kernel_rfl) (by kernel_rfl) (hval 0 25 v0 rfl rfl) h0
  have hw0 := hx0 (hwt 0 25 d0 rfl rfl)
  obtain ⟨s1, rfl, rfl, rfl, hs1⟩ := Go.ChangeMaps.open_string Tryz.underlying9 (hval 1 9 v1 rfl rfl) h1
  obtain ⟨l1, rfl⟩ := str_list s1
  have hw1 : l1.length ≤ 140737488351232 := str_weight (hwt 1 9 _ rfl rfl)
  obtain ⟨z2, rfl, rfl, rfl, hz2⟩ := open_int Tryz.underlying26 (hval 2 26 v2 rfl rfl) h2
  obtain ⟨l3, hl3, hd3, hx3⟩ := open_strs Tryz.underlying27 Tryz.underlying9 (by kernel_rfl) (hval 3 27 v3 rfl rfl) h3
  have hn3 : l3.length ≤ 140737488351232 := slice_weight Tryz.underlying27 (k := 16) (by kernel_rfl) (by decide) hd3 (hwt 3 27 d3 rfl rfl)
  have hw3 : ∀ a ∈ l3, a.length ≤ 140737488351232 := hx3 (hwt 3 27 d3 rfl rfl)
  obtain ⟨l4, hl4, hd4, hx4⟩ := open_strs Tryz.underlying27 Tryz.underlying9 (by kernel_rfl) (hval 4 27 v4 rfl rfl) h4
  have hn4 : l4.length ≤ 140737488351232 := slice_weight Tryz.underlying27 (k := 16) (by kernel_rfl) (by decide) hd4 (hwt 4 27 d4 rfl rfl)
  have hw4 : ∀ a ∈ l4, a.length ≤ 140737488351232 := hx4 (hwt 4 27 d4 rfl rfl)
  obtain ⟨s5, rfl, rfl, rfl, hs5⟩ := Go.ChangeMaps.open_string Tryz.underlying9 (hval 5 9 v5 rfl rfl) h5
  obtain ⟨l5, rfl⟩ := str_list s5
  have hw5 : l5.length ≤ 140737488351232 := str_weight (hwt 5 9 _ rfl rfl)
  have hgl := And.intro (hL) (hSO)
  simp only [List.append_nil] at hW' hA1
  refine ((Top_TopSignaturesPassRelays_ct (p0 := l0) (p1 := l1) (p2 := z2) (p3 := l3) (p4 := l4) (p5 := l5) (Ph.Sg.signs_law l0.1 l0.2 l1 z2 l3 l4 l5 (fun x hx => ⟨Nat.le_trans (hw0.1 x hx).1 (by decide), Nat.le_trans (hw0.1 x hx).2 (by decide)⟩) (Nat.le_trans hw0.2 (by decide)) (Nat.le_trans hw1 (by decide)) (fun a ha => Nat.le_trans (hw3 a ha) (by decide)) (fun a ha => Nat.le_trans (hw4 a ha) (by decide)) (Nat.le_trans hw5 (by decide)))).calls W (memOf W) (ag_memOf W) (⟨gl_maxl hSO, gl_pow10 hL, hl0_0, hl0_1, hl3, hl4⟩)).mono ?_
  rintro e W' ⟨r, M', rfl, hx, rfl⟩
  exact ⟨_, rfl, law_done laidOut (by kernel_rfl) rfl Tryz.underlying4 hW' hA1 rfl rfl rfl rfl hx.below.plain⟩
theorem reads (os : Os) {H : Type} (enc : TypeId × Value → H) : ∃ places, DataW.whole enc Tryz.prog ((laidWorld os).forCall (fun _ _ => 0) ⟨#[], #[.agg #[.slice none 0 0, .slice none 0 0], .string ⟨#[]⟩, .int .u64 0, .slice none 0 0, .slice none 0 0, .string ⟨#[]⟩], []⟩).memory Tryz.f3.params.toList Rows.topSignaturesPassRelaysSpec.vars false (#[.agg #[.slice none 0 0, .slice none 0 0], .string ⟨#[]⟩, .int .u64 0, .slice none 0 0, .slice none 0 0, .string ⟨#[]⟩] : Array Value).toList 8 = some ([.agg [.nil, .nil], .lit (.string []), .lit (.int .u64 0), .nil, .nil, .lit (.string [])], [], places) :=
  ⟨[], by kernel_rfl⟩
set_option maxRecDepth 100000 in
theorem lifted (os : Os) (started : os.Started) (H : Type) (enc : TypeId × Value → H) (F : Stop.Interp) :
    ReturnsInHanded {} Tryz.checked os 3 .any ((OpenSpec.ofChange Rows.topSignaturesPassRelaysSpec).preRow enc Tryz.prog Tryz.f3 Rows.topSignaturesPassRelaysRow.domain false Rows.topSignaturesPassRelaysRow.laid) (((OpenSpec.ofChange Rows.topSignaturesPassRelaysSpec).at F).post enc Tryz.prog Tryz.f3 false true false false) := by
  obtain ⟨places, hx⟩ := reads os enc
  refine returnsInHanded_of_row (C := Tryz.checked) (s := OpenSpec.ofChange Rows.topSignaturesPassRelaysSpec) own started (by kernel_rfl) Tryz.func3
    (witness_row_at (enc := enc) (C := Tryz.checked) false (laidWorld os) #[.agg #[.slice none 0 0, .slice none 0 0], .string ⟨#[]⟩, .int .u64 0, .slice none 0 0, .slice none 0 0, .string ⟨#[]⟩] rfl (by kernel_rfl) (by kernel_rfl) (by kernel_rfl)
      (OpenSpec.preRow_of_cond 8 hx (by kernel_rfl) (fun k hk => by cases hk) (by kernel_rfl) (laid_met os _))) ?_
  intro W base args ds gs before hval hW _ hcond hwt hL hSO _
  exact topSignaturesPassRelays_contract H enc W base args ds gs before hval hW hL (weights_of hwt) hSO
theorem said : Rows.TopSignaturesPassRelaysSaid :=
  OpenClaim.holds_of_cond 3 Tryz.f3 rfl rfl rfl rfl rfl rfl rfl ⟨rfl, rfl, rfl, rfl, rfl⟩ rfl rfl rfl rfl rfl (by kernel_rfl) Tryz.func3 (by kernel_rfl)
    (of_decide_eq_true (by kernel_rfl)) (by unfold Func.isWrapper; first | (rw [if_pos (by decide +kernel)]; kernel_rfl) | (rw [if_neg (by decide +kernel)]; exact ⟨rfl, rfl⟩))
    (fun os started H enc _ F => by rw [OpenClaim.pre_eq_preRow]; exact lifted os started H enc F)
theorem plain (f : FuncId) (fn : Func) (hf : Tryz.pinned.checked.prog.funcNamed Tryz.f3.name = some f) (hfn : Tryz.pinned.checked.prog.funcs[f]? = some fn) :
    true = Tryz.pinned.checked.prog.looks [] ∧ ∀ (j : Nat) t, fn.params[j]? = some t → Tryz.pinned.checked.prog.wantsStandIn t = false := by
  obtain rfl : f = 3 := oI ((show Tryz.prog.funcNamed Tryz.f3.name = some 3 by kernel_rfl).symm.trans hf) |>.symm
  obtain rfl : fn = Tryz.f3 := (oI (Tryz.func3.symm.trans hfn)).symm
  refine ⟨by kernel_rfl, fun j t ht => ?_⟩
  rw [Tryz.params3] at ht
  have hm : t = 25 ∨ t = 9 ∨ t = 26 ∨ t = 27 ∨ t = 27 ∨ t = 9 := by simpa using Array.mem_of_getElem? ht
  rcases hm with rfl | rfl | rfl | rfl | rfl | rfl
  · exact (show Tryz.prog.wantsStandIn 25 = false by kernel_rfl)
  · exact (show Tryz.prog.wantsStandIn 9 = false by kernel_rfl)
  · exact (show Tryz.prog.wantsStandIn 26 = false by kernel_rfl)
  · exact (show Tryz.prog.wantsStandIn 27 = false by kernel_rfl)
  · exact (show Tryz.prog.wantsStandIn 27 = false by kernel_rfl)
  · exact (show Tryz.prog.wantsStandIn 9 = false by kernel_rfl)
theorem topSignaturesPassRelays_holds : Rows.TopSignaturesPassRelaysCardSaid :=
  Claim7.holds_tied_plain_at .later [] _ _ _ _ said (fun _ h => by cases h) (by kernel_rfl) (fun _ h => by cases h) topSignaturesPassRelays_row_tie rfl ⟨rfl, rfl⟩ (by kernel_rfl) rfl plain (by kernel_rfl)
end Go.Proofs.YtglpkikfplcckaaGreatDoor
