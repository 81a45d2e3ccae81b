/-
  The library's functions, as contracts of this layer: out of the shelf's contracts at this program's numbers.
-/
import Derived.Test.YtgkpcfgbbgpihaaHeap
import Derived.Test.YtgkpcfgbbgpihaaShelf
import Derived.Test.YtgkpcfgbbgpihaaB64Plain
namespace Go.Proofs.Ytgkpcfgbbgpihaa
open Go Go.RowKit Go.Ph

theorem bytesOf_nats (l : List UInt8) : Lib.bytesOf (l.map fun u => (u.toNat : Int)) = l := by
  unfold Lib.bytesOf
  rw [List.map_map]
  conv => rhs; rw [← List.map_id l]
  apply List.map_congr_left
  intro u _
  simp
theorem indexByte_idx (l : List UInt8) (c : UInt8) : Lib.indexByte l c = if l.idxOf c < l.length then (l.idxOf c : Int) else -1 := by
  induction l with
  | nil => simp [Lib.indexByte]
  | cons b l ih =>
    simp only [Lib.indexByte, List.idxOf_cons, List.length_cons]
    by_cases h : b = c
    · subst h; simp
    · have h' : (b == c) = false := by simpa using h
      rw [h', ih]
      simp only [Bool.false_eq_true, if_false, cond_false]
      by_cases hl : l.idxOf c < l.length
      · have h1 : l.idxOf c + 1 < l.length + 1 := by omega
        have h2 : ¬ (((l.idxOf c : Int) == -1) = true) := by simp only [beq_iff_eq]; omega
        simp only [hl, h1, if_true, h2, if_false, Bool.false_eq_true]
        omega
      · have h1 : ¬ (l.idxOf c + 1 < l.length + 1) := by omega
        simp only [hl, h1, if_false]
        rfl
theorem indexByte_alpha (c : UInt8) : Lib.indexByte B64.alpha c = B64.val64 c := by
  rw [indexByte_idx, B64.alpha_len]; rfl
theorem indexByte_spec (b : Value) (l : List UInt8) (c : UInt8) : Ct Try.prog 21 [b, encB c] (fun M => Bs M b l) (fun r _ => r = I (Lib.indexByte l c)) := by
  refine ⟨enters Try.func21 (by kernel_rfl) rfl, fun w M ha hp => ?_⟩
  obtain ⟨A, cp, rfl, hc, hn⟩ := hp.cells ha
  have hcv : ((c.toNat : Int)).toNat.toUInt8 = c := by simp
  cases A with
  | none =>
    obtain ⟨rfl, rfl⟩ := hn rfl
    exact (Try.bytes_IndexByte_nil (c.toNat : Int) w).mono fun e w' ⟨he, hw⟩ => ⟨_, M, he, by subst hw; exact Ext.refl ha, rfl⟩
  | some ad =>
    refine (Try.bytes_IndexByte_at ad l.length cp (l.map fun u => (u.toNat : Int)) (c.toNat : Int) w (by simp) (fun i hi => ?_)).mono fun e w' ⟨he, hw⟩ => ⟨_, M, he, by subst hw; exact Ext.refl ha, ?_⟩
    · have := hc ad rfl i (encB l[i]) (by simp [hi])
      rw [this]
      simp [hi]
    · rw [bytesOf_nats, hcv]
end Go.Proofs.Ytgkpcfgbbgpihaa
