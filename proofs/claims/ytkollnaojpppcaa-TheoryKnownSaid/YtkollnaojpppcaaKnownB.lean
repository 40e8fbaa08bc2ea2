/- The law TheoryKnown returns true for every input; no condition. -/
import Derived.Test.YtkollnaojpppcaaRows
import Derived.Test.YtkollnaojpppcaaLift
import Derived.Test.YtkollnaojpppcaaKnownA
namespace Go.Proofs.Ytkollnaojpppcaa
open Go.ChangeShapes Go.WideShapes Go.ChangeAt Go.RowKit
namespace theoryKnown
set_option maxRecDepth 100000 in
theorem lifted (os : Os) (started : os.Started) (H : Type) (enc : TypeId × Value → H) :
    ReturnsInHanded {} Try.checked os 14 .any (Rows.theoryKnownSpec.pre6 enc Try.prog Go.Proofs.Try.f14 Rows.theoryKnownRow.domain false) (Rows.theoryKnownSpec.post enc Try.prog Go.Proofs.Try.f14 false true false false) := by
  refine returnsInHanded_of_change (C := Try.checked) (by kernel_rfl) started (by kernel_rfl) Try.func14
    (ChangeSpec.witness6 (enc := enc) (C := Try.checked) false ⟨#[], #[], []⟩ 8 (by kernel_rfl) (by kernel_rfl) (by kernel_rfl) (by kernel_rfl)) ?_
  intro W base args ds gs before hval0 hW hcnd _
  have hval : ∀ (j : Nat) t v, (Go.Proofs.Try.f14).params[j]? = some t → args[j]? = some v → Value.okWide Try.prog W .any base t v := hval0
  have hW2 := hW
  obtain ⟨p, q, hA0, hV, _, _, _⟩ := hW
  have hA : DataW.TrodAll enc Try.prog W 0 (fun _ => true) true (Go.Proofs.Try.f14).params.toList args.toList ds p := hA0
  rw [Try.params14] at hA hval
  clear hA0 hval0 hcnd
  obtain ⟨rfl, _⟩ := trodVars_none hV
  obtain ⟨rfl, rfl, rfl⟩ := trodAll_none hA
  refine law_of_pure (avs := []) (by kernel_rfl) hW2 rfl (rec_ok (by kernel_rfl)) (tb := 4) rfl Try.underlying4 rfl rfl rfl rfl (fun i hi => ?_) (theoryKnown_p)
  simp at hi
theorem proved : Rows.TheoryKnownSaid :=
  OpenClaim.holds_of_wide 14 Go.Proofs.Try.f14 rfl rfl rfl rfl rfl rfl rfl ⟨rfl, rfl, rfl, rfl, rfl⟩ rfl rfl rfl rfl rfl (by kernel_rfl) Try.func14 (by kernel_rfl)
    (of_decide_eq_true (by kernel_rfl)) (by unfold Func.isWrapper; first | (rw [if_pos (by decide +kernel)]; kernel_rfl) | (rw [if_neg (by decide +kernel)]; exact ⟨rfl, rfl⟩))
    (fun os started H enc _ => lifted os started H enc)
end theoryKnown
end Go.Proofs.Ytkollnaojpppcaa
