/-
  Proved: for every input the law posthousetop.TopKeptMessagesAreFiled returns true, and each argument reads behind the call as it read before. Conditions: those of the given card, none more.
-/
import Derived.Test.YtgicephoflppiaaGreatDoorCards
import Derived.Test.YtgicephoflppiaaGreatDoorTie
import Derived.WalkKit
import Derived.ProofKit
import Derived.OpenShut
import Derived.ChangeMaps5
import Derived.SevenTiedAt
import Derived.KernelRfl
import Derived.Test.YtgicephoflppiaaGreatDoorE3f
set_option linter.unusedVariables false
set_option linter.unusedSimpArgs false
namespace Go.Proofs.YtgicephoflppiaaGreatDoor
open Go Go.RowKit Go.Ph Go.ChangeShapes Go.WideShapes Go.ChangeAt
set_option maxRecDepth 100000 in
theorem topKeptMessagesAreFiled_contract (H : Type) (enc : TypeId × Value → H) (W : World) (base : Nat) (args : Array Value) (ds gs : List (DataW H)) (before : List MemPlace)
    (hval : ∀ (j : Nat) t v, Tryz.f3.params[j]? = some t → args[j]? = some v → Value.okWide Tryz.prog W .any base t v)
    (hW : DataW.Whole enc Tryz.prog Tryz.f3.params.toList Rows.topKeptMessagesAreFiledSpec.vars false W args.toList ds gs before) (hL : laidMetH Tryz.prog Rows.topKeptMessagesAreFiledRow.laid W) (hwt : ∀ (j : Nat) (t : TypeId) (d : DataW H), Tryz.f3.params.toList[j]? = some t → ds[j]? = some d → ∀ x ∈ d.weights Tryz.prog t, x ≤ reachBytes) (hSO : W.ShapedOpen Tryz.prog) :
    Calls Tryz.prog 3 args W fun e W' => ∃ v, e = .returned v ∧ Rows.topKeptMessagesAreFiledSpec.post enc Tryz.prog Tryz.f3 false true false false W args v W' := by
  have hW' := hW
  obtain ⟨p, q, hA0, hV, rfl, hfz, hnd⟩ := hW
  have hA : DataW.TrodAll enc Tryz.prog W 0 (fun _ => true) true Tryz.f3.params.toList args.toList ds p := hA0
  have hA1 := hA
  rw [Tryz.params3] at hA hval hwt
  obtain ⟨v0, vs0, d0, ds0, p0, q0, hargs0, rfl, rfl, h0, hA⟩ := trodAll_cons hA
  obtain ⟨v1, vs1, d1, ds1, p1, q1, hargs1, rfl, rfl, h1, hA⟩ := trodAll_cons hA
  obtain ⟨rfl, rfl, rfl⟩ := trodAll_nil hA
  subst hargs1
  obtain rfl : args = #[v0, v1] := by cases args; simp_all
  obtain ⟨rfl, rfl⟩ := trodVars_none hV
  obtain ⟨s0, rfl, rfl, rfl, hs0⟩ := Go.ChangeMaps.open_string Tryz.underlying9 (hval 0 9 v0 rfl rfl) h0
  obtain ⟨l0, rfl⟩ := str_list s0
  have hw0 : l0.length ≤ 140737488351232 := str_weight (hwt 0 9 _ rfl rfl)
  obtain ⟨l1, x1_1, x1_3, x1_4, rfl, hl1_1, hl1_3, hl1_4, hx1⟩ := open_mail Tryz.underlying30 rfl rfl rfl rfl (by kernel_rfl) Tryz.underlying24 rfl rfl rfl rfl rfl rfl (by kernel_rfl) Tryz.underlying22 (by kernel_rfl) Tryz.underlying68 rfl rfl rfl rfl (by kernel_rfl) Tryz.underlying3 (by kernel_rfl) Tryz.underlying28 rfl rfl rfl rfl (by kernel_rfl) Tryz.underlying25 (by kernel_rfl) Tryz.underlying26 (by kernel_rfl) Tryz.underlying5 (by kernel_rfl) (by kernel_rfl) Tryz.underlying63 rfl rfl rfl rfl Tryz.underlying9 (by kernel_rfl) (by kernel_rfl) (hval 1 30 v1 rfl rfl) h1
  have hw1 := hx1 (hwt 1 30 d1 rfl rfl)
  have hgl := And.intro (hL) (hSO)
  simp only [List.append_nil] at hW' hA1
  refine ((Y48 (Ph.Pf.kept_law l0 l1 (Nat.le_trans hw1.1 (by decide)) (fun x hx => Nat.le_trans (hw1.2.1 x hx) (by decide)) (Nat.le_trans hw1.2.2.1 (by decide)) (fun x hx => ⟨Nat.le_trans (hw1.2.2.2.1 x hx).1 (by decide), Nat.le_trans (hw1.2.2.2.1 x hx).2 (by decide)⟩) (Nat.le_trans hw1.2.2.2.2 (by decide)))).calls W (memOf W) (ag_memOf W) (⟨gl_errR hL, gl_errS hL, gl_maxl hSO, gl_pow10 hL, hl1_1, hl1_3, hl1_4⟩)).mono ?_
  rintro e W' ⟨r, M', rfl, hx, rfl⟩
  exact ⟨_, rfl, law_done laidOut (by kernel_rfl) rfl Tryz.underlying4 hW' hA1 rfl rfl rfl rfl hx.below.plain⟩
theorem reads (os : Os) {H : Type} (enc : TypeId × Value → H) : ∃ places, DataW.whole enc Tryz.prog ((laidWorld os).forCall (fun _ _ => 0) ⟨#[], #[.string ⟨#[]⟩, .agg #[.string ⟨#[]⟩, .slice none 0 0, .string ⟨#[]⟩, .slice none 0 0, .slice none 0 0]], []⟩).memory Tryz.f3.params.toList Rows.topKeptMessagesAreFiledSpec.vars false (#[.string ⟨#[]⟩, .agg #[.string ⟨#[]⟩, .slice none 0 0, .string ⟨#[]⟩, .slice none 0 0, .slice none 0 0]] : Array Value).toList 8 = some ([.lit (.string []), .agg [.agg [.lit (.string []), .nil, .lit (.string [])], .agg [.nil, .nil]]], [], places) :=
  ⟨[], by kernel_rfl⟩
set_option maxRecDepth 100000 in
theorem lifted (os : Os) (started : os.Started) (H : Type) (enc : TypeId × Value → H) (F : Stop.Interp) :
    ReturnsInHanded {} Tryz.checked os 3 .any ((OpenSpec.ofChange Rows.topKeptMessagesAreFiledSpec).preRow enc Tryz.prog Tryz.f3 Rows.topKeptMessagesAreFiledRow.domain false Rows.topKeptMessagesAreFiledRow.laid) (((OpenSpec.ofChange Rows.topKeptMessagesAreFiledSpec).at F).post enc Tryz.prog Tryz.f3 false true false false) := by
  obtain ⟨places, hx⟩ := reads os enc
  refine returnsInHanded_of_row (C := Tryz.checked) (s := OpenSpec.ofChange Rows.topKeptMessagesAreFiledSpec) own started (by kernel_rfl) Tryz.func3
    (witness_row_at (enc := enc) (C := Tryz.checked) false (laidWorld os) #[.string ⟨#[]⟩, .agg #[.string ⟨#[]⟩, .slice none 0 0, .string ⟨#[]⟩, .slice none 0 0, .slice none 0 0]] rfl (by kernel_rfl) (by kernel_rfl) (by kernel_rfl)
      (OpenSpec.preRow_of_cond 8 hx (by kernel_rfl) (fun k hk => by cases hk) (by kernel_rfl) (laid_met os _))) ?_
  intro W base args ds gs before hval hW _ hcond hwt hL hSO _
  exact topKeptMessagesAreFiled_contract H enc W base args ds gs before hval hW hL (weights_of hwt) hSO
theorem said : Rows.TopKeptMessagesAreFiledSaid :=
  OpenClaim.holds_of_cond 3 Tryz.f3 rfl rfl rfl rfl rfl rfl rfl ⟨rfl, rfl, rfl, rfl, rfl⟩ rfl rfl rfl rfl rfl (by kernel_rfl) Tryz.func3 (by kernel_rfl)
    (of_decide_eq_true (by kernel_rfl)) (by unfold Func.isWrapper; first | (rw [if_pos (by decide +kernel)]; kernel_rfl) | (rw [if_neg (by decide +kernel)]; exact ⟨rfl, rfl⟩))
    (fun os started H enc _ F => by rw [OpenClaim.pre_eq_preRow]; exact lifted os started H enc F)
theorem plain (f : FuncId) (fn : Func) (hf : Tryz.pinned.checked.prog.funcNamed Tryz.f3.name = some f) (hfn : Tryz.pinned.checked.prog.funcs[f]? = some fn) :
    true = Tryz.pinned.checked.prog.looks [] ∧ ∀ (j : Nat) t, fn.params[j]? = some t → Tryz.pinned.checked.prog.wantsStandIn t = false := by
  obtain rfl : f = 3 := oI ((show Tryz.prog.funcNamed Tryz.f3.name = some 3 by kernel_rfl).symm.trans hf) |>.symm
  obtain rfl : fn = Tryz.f3 := (oI (Tryz.func3.symm.trans hfn)).symm
  refine ⟨by kernel_rfl, fun j t ht => ?_⟩
  rw [Tryz.params3] at ht
  have hm : t = 9 ∨ t = 30 := by simpa using Array.mem_of_getElem? ht
  rcases hm with rfl | rfl
  · exact (show Tryz.prog.wantsStandIn 9 = false by kernel_rfl)
  · exact (show Tryz.prog.wantsStandIn 30 = false by kernel_rfl)
theorem topKeptMessagesAreFiled_holds : Rows.TopKeptMessagesAreFiledCardSaid :=
  Claim7.holds_tied_plain_at .later [] _ _ _ _ said (fun _ h => by cases h) (by kernel_rfl) (fun _ h => by cases h) topKeptMessagesAreFiled_row_tie rfl ⟨rfl, rfl⟩ (by kernel_rfl) rfl plain (by kernel_rfl)
end Go.Proofs.YtgicephoflppiaaGreatDoor
