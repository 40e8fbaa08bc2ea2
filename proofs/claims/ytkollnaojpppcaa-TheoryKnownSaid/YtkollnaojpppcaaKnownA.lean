/- The law TheoryKnown returns true: its text is run on the abstract machine; no condition. -/
import Derived.Test.YtkollnaojpppcaaAm19
import Derived.Test.YtkollnaojpppcaaTi
namespace Go.Proofs.Ytkollnaojpppcaa
open Go.RowKit
theorem prog_mixedK : Try.prog.follows .mixedOrders = true := by kernel_rfl
theorem theoryKnown_run : resI Try.prog TT noPT noT 3000 14 [] = some (.v (.bool true)) := by kernel_rfl
theorem theoryKnown_p : FnPure Try.prog 14 [] (.v (.bool true)) := fn_run prog_mixedK TT_ok (noPT_ok _) theoryKnown_run
end Go.Proofs.Ytkollnaojpppcaa
