/- What a row that lays the table of math/bits gives: its cells, and a world for the witness; no condition. -/
import Derived.Test.YtllkogdgmmcfgaaGreatDoorCards
import Derived.Test.YtllkogdgmmcfgaaGreatDoorTie
import Derived.Test.YtllkogdgmmcfgaaGreatDoorAmB
import Derived.WalkKit
import Derived.Deep.DeepHandedRow
import Derived.Lib.LaidTab
namespace Go.Proofs.YtllkogdgmmcfgaaGreatDoor
set_option linter.unusedVariables false
set_option linter.unusedSimpArgs false
set_option linter.unusedSectionVars false
open Go.ChangeShapes Go.WideShapes Go.ChangeAt Go.RowKit
set_option maxRecDepth 100000
theorem gTab : Tryz.prog.globalNamed "math/bits.deBruijn64tab" = some 0 := by kernel_rfl
theorem gTabType : (Tryz.prog.globals[0]?).map (·.type) = some 140 := by kernel_rfl
theorem tabCells : Tryz.prog.cellsOf 140 = 64 := by kernel_rfl
theorem tabCell : Tryz.prog.cellsOf 5 = 1 := by kernel_rfl
theorem glob_of_laid {W : World} (h : laidMetH Tryz.prog [("math/bits.deBruijn64tab", Rows.laid_math_bits_deBruijn64tab)] W) : GlobIn (allS W) := by
 have ht : Lib.TabIs Tryz.prog W "math/bits.deBruijn64tab" .u8 tabZ := Lib.tabIs_of_head (rest := []) gTab gTabType Tryz.underlying140 Tryz.underlying5 tabCell tabCells h
 intro g l hl
 unfold gvars at hl
 split at hl
 ·rename_i hg
  subst hg
  cases hl
  refine ⟨fun j hj => ?_, fun u hu => ?_⟩
  ·rw [List.length_map] at hj
   have := ht.cell gTab j hj
   show W.cell? ⟨0, j, none⟩ = _
   rw [this]
   simp [List.getD, hj]
  ·obtain ⟨x, _, rfl⟩ := List.mem_map.1 hu
   rfl
 ·cases hl
noncomputable def laidWorld (os : Os) : World :=
 { World.holding Tryz.prog os ⟨#[], #[], []⟩ with heap := (World.holding Tryz.prog os ⟨#[], #[], []⟩).heap.modify 0 fun
   | .cells _ t frozen => .cells (tabZ.map fun x => Value.int .u8 x).toArray t frozen
   | o => o }
end Go.Proofs.YtllkogdgmmcfgaaGreatDoor
