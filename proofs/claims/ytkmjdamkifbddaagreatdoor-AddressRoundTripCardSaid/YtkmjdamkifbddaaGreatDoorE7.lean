/-
  Proved: for every input the law posthouselaw1.AddressRoundTrip returns true, and each argument reads behind the call as it read before. Conditions: those of the given card, none more.
-/
import Derived.Test.YtkmjdamkifbddaaGreatDoorCards
import Derived.Test.YtkmjdamkifbddaaGreatDoorTie
import Derived.WalkKit
import Derived.ProofKit
import Derived.OpenShut
import Derived.ChangeMaps5
import Derived.SevenTiedAt
import Derived.KernelRfl
import Derived.Test.YtkmjdamkifbddaaGreatDoorE7f
set_option linter.unusedVariables false
set_option linter.unusedSimpArgs false
namespace Go.Proofs.YtkmjdamkifbddaaGreatDoor
open Go Go.RowKit Go.Ph Go.ChangeShapes Go.WideShapes Go.ChangeAt
set_option maxRecDepth 100000 in
theorem addressRoundTrip_contract (H : Type) (enc : TypeId × Value → H) (W : World) (base : Nat) (args : Array Value) (ds gs : List (DataW H)) (before : List MemPlace)
    (hval : ∀ (j : Nat) t v, Tryz.f8.params[j]? = some t → args[j]? = some v → Value.okWide Tryz.prog W .any base t v)
    (hW : DataW.Whole enc Tryz.prog Tryz.f8.params.toList Rows.addressRoundTripSpec.vars false W args.toList ds gs before) (hL : laidMetH Tryz.prog Rows.addressRoundTripRow.laid W) (hwt : ∀ (j : Nat) (t : TypeId) (d : DataW H), Tryz.f8.params.toList[j]? = some t → ds[j]? = some d → ∀ x ∈ d.weights Tryz.prog t, x ≤ reachBytes) (hSO : W.ShapedOpen Tryz.prog) :
    Calls Tryz.prog 8 args W fun e W' => ∃ v, e = .returned v ∧ Rows.addressRoundTripSpec.post enc Tryz.prog Tryz.f8 false true false false W args v W' := by
  have htabs : Tabs (memOf W) := tabs_of_laid hL
  have hW' := hW
  obtain ⟨p, q, hA0, hV, rfl, hfz, hnd⟩ := hW
  have hA : DataW.TrodAll enc Tryz.prog W 0 (fun _ => true) true Tryz.f8.params.toList args.toList ds p := hA0
  have hA1 := hA
  rw [Tryz.params8] at hA hval hwt
  obtain ⟨v0, vs0, d0, ds0, p0, q0, hargs0, rfl, rfl, h0, hA⟩ := trodAll_cons hA
  obtain ⟨rfl, rfl, rfl⟩ := trodAll_nil hA
  obtain rfl : args = #[v0] := by cases args; simp_all
  obtain ⟨rfl, rfl⟩ := trodVars_none hV
  obtain ⟨l0, hl0, hx0⟩ := open_itms xrl34 rfl (fun _ => rfl) (fun f x h1 h2 h3 => ⟨h1, h2, h3⟩) Tryz.underlying22 Tryz.underlying34 rfl rfl rfl rfl rfl rfl (by kernel_rfl) Tryz.underlying9 (by kernel_rfl) Tryz.underlying4 (by kernel_rfl) Tryz.underlying30 (by kernel_rfl) (by kernel_rfl) Tryz.underlying24 rfl rfl rfl rfl rfl rfl (by kernel_rfl) (by kernel_rfl) (hval 0 22 v0 rfl rfl) h0
  have hw0 := hx0 (hwt 0 22 d0 rfl rfl)
  have hgl := htabs
  simp only [List.append_nil] at hW' hA1
  refine ((Y4h (p0 := l0) (Ph.Ad.round_law Ph.Ad.ex_law l0 (Ph.Ad.bigL_of hw0))).calls W (memOf W) (ag_memOf W) (⟨gl_maxl hSO, htabs, hl0⟩)).mono ?_
  rintro e W' ⟨r, M', rfl, hx, rfl⟩
  exact ⟨_, rfl, law_done laidOut (by kernel_rfl) rfl Tryz.underlying4 hW' hA1 rfl rfl rfl rfl hx.below.plain⟩
theorem reads (os : Os) {H : Type} (enc : TypeId × Value → H) : ∃ places, DataW.whole enc Tryz.prog ((laidWorld os).forCall (fun _ _ => 0) ⟨#[], #[.slice none 0 0], []⟩).memory Tryz.f8.params.toList Rows.addressRoundTripSpec.vars false (#[.slice none 0 0] : Array Value).toList 8 = some ([.nil], [], places) :=
  ⟨[], by kernel_rfl⟩
set_option maxRecDepth 100000 in
theorem lifted (os : Os) (started : os.Started) (H : Type) (enc : TypeId × Value → H) (F : Stop.Interp) :
    ReturnsInHanded {} Tryz.checked os 8 .any ((OpenSpec.ofChange Rows.addressRoundTripSpec).preRow enc Tryz.prog Tryz.f8 Rows.addressRoundTripRow.domain false Rows.addressRoundTripRow.laid) (((OpenSpec.ofChange Rows.addressRoundTripSpec).at F).post enc Tryz.prog Tryz.f8 false true false false) := by
  obtain ⟨places, hx⟩ := reads os enc
  refine returnsInHanded_of_row (C := Tryz.checked) (s := OpenSpec.ofChange Rows.addressRoundTripSpec) own started (by kernel_rfl) Tryz.func8
    (witness_row_at (enc := enc) (C := Tryz.checked) false (laidWorld os) #[.slice none 0 0] rfl (by kernel_rfl) (by kernel_rfl) (by kernel_rfl)
      (OpenSpec.preRow_of_cond 8 hx (by kernel_rfl) (fun k hk => by cases hk) (by kernel_rfl) (laid_met os _))) ?_
  intro W base args ds gs before hval hW _ hcond hwt hL hSO _
  exact addressRoundTrip_contract H enc W base args ds gs before hval hW hL (weights_of hwt) hSO
theorem said : Rows.AddressRoundTripSaid :=
  OpenClaim.holds_of_cond 8 Tryz.f8 rfl rfl rfl rfl rfl rfl rfl ⟨rfl, rfl, rfl, rfl, rfl⟩ rfl rfl rfl rfl rfl (by kernel_rfl) Tryz.func8 (by kernel_rfl)
    (of_decide_eq_true (by kernel_rfl)) (by unfold Func.isWrapper; first | (rw [if_pos (by decide +kernel)]; kernel_rfl) | (rw [if_neg (by decide +kernel)]; exact ⟨rfl, rfl⟩))
    (fun os started H enc _ F => by rw [OpenClaim.pre_eq_preRow]; exact lifted os started H enc F)
theorem plain (f : FuncId) (fn : Func) (hf : Tryz.pinned.checked.prog.funcNamed Tryz.f8.name = some f) (hfn : Tryz.pinned.checked.prog.funcs[f]? = some fn) :
    true = Tryz.pinned.checked.prog.looks [] ∧ ∀ (j : Nat) t, fn.params[j]? = some t → Tryz.pinned.checked.prog.wantsStandIn t = false := by
  obtain rfl : f = 8 := oI ((show Tryz.prog.funcNamed Tryz.f8.name = some 8 by kernel_rfl).symm.trans hf) |>.symm
  obtain rfl : fn = Tryz.f8 := (oI (Tryz.func8.symm.trans hfn)).symm
  refine ⟨by kernel_rfl, fun j t ht => ?_⟩
  rw [Tryz.params8] at ht
  obtain rfl : t = 22 := by simpa using Array.mem_of_getElem? ht
  exact (show Tryz.prog.wantsStandIn 22 = false by kernel_rfl)
theorem addressRoundTrip_holds : Rows.AddressRoundTripCardSaid :=
  Claim7.holds_tied_plain_at .later [] _ _ _ _ said (fun _ h => by cases h) (by kernel_rfl) (fun _ h => by cases h) addressRoundTrip_row_tie rfl ⟨rfl, rfl⟩ (by kernel_rfl) rfl plain (by kernel_rfl)
end Go.Proofs.YtkmjdamkifbddaaGreatDoor
