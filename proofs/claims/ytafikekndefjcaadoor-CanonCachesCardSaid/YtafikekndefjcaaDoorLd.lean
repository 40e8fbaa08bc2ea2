/- What a row that lays the table of math/bits gives: its cells, and a world for the witness; no condition. -/
import Derived.Test.YtafikekndefjcaaDoorCards
import Derived.Test.YtafikekndefjcaaDoorTie
import Derived.Test.YtafikekndefjcaaDoorAmB
import Derived.WalkKit
import Derived.Deep.DeepHandedRow
import Derived.Lib.LaidTab
namespace Go.Proofs.YtafikekndefjcaaDoor
set_option linter.unusedVariables false
set_option linter.unusedSimpArgs false
set_option linter.unusedSectionVars false
open Go.ChangeShapes Go.WideShapes Go.ChangeAt Go.RowKit
set_option maxRecDepth 100000
theorem gTab : Tryd.prog.globalNamed "math/bits.deBruijn64tab" = some 0 := by kernel_rfl
theorem gTabType : (Tryd.prog.globals[0]?).map (·.type) = some 136 := by kernel_rfl
theorem tabCells : Tryd.prog.cellsOf 136 = 64 := by kernel_rfl
theorem tabCell : Tryd.prog.cellsOf 5 = 1 := by kernel_rfl
theorem glob_of_laid {W : World} (h : laidMetH Tryd.prog [("math/bits.deBruijn64tab", Rows.laid_math_bits_deBruijn64tab)] W) : GlobIn (allS W) := by
  have ht : Lib.TabIs Tryd.prog W "math/bits.deBruijn64tab" .u8 tabZ := Lib.tabIs_of_head (rest := []) gTab gTabType Tryd.underlying136 Tryd.underlying5 tabCell tabCells h
  intro g l hl
  unfold gvars at hl
  split at hl
  · rename_i hg
    subst hg
    cases hl
    refine ⟨fun j hj => ?_, fun u hu => ?_⟩
    · rw [List.length_map] at hj
      have := ht.cell gTab j hj
      show W.cell? ⟨0, j, none⟩ = _
      rw [this]
      simp [List.getD, hj]
    · obtain ⟨x, _, rfl⟩ := List.mem_map.1 hu
      rfl
  · cases hl
noncomputable def laidWorld (os : Os) : World :=
  { World.holding Tryd.prog os ⟨#[], #[], []⟩ with heap := (World.holding Tryd.prog os ⟨#[], #[], []⟩).heap.modify 0 fun
      | .cells _ t frozen => .cells (tabZ.map fun x => Value.int .u8 x).toArray t frozen
      | o => o }
end Go.Proofs.YtafikekndefjcaaDoor
