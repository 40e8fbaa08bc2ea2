/- Two sets held against each other; no condition. -/
import Derived.Test.YtekeidhndlnghaaTail
import Derived.Test.YtekeidhndlnghaaRows
import Derived.ChangeKeysEq
namespace Go.Proofs.Ytekeidhndlnghaa
set_option linter.unusedVariables false
set_option linter.unusedSimpArgs false
set_option linter.unusedSectionVars false
open Go.RowKit

theorem infoU64 : (Try.prog.info? 29).map (fun i => (i.zero, i.size, i.bytes)) = some (some (.int .u64 0), 1, 8) := by kernel_rfl
theorem cellsU64 : Try.prog.cellsOf 29 = 1 := by kernel_rfl
theorem isAggU64 (w : World) : (isAgg 29).run Try.prog w = .ok false w := Try.isAgg29 w

theorem eqSets_in (a b c e : Int) (w : World) : (Op.equalIn 10000 31 (.agg #[.int .u64 a, .int .u64 b]) (.agg #[.int .u64 c, .int .u64 e])).run Try.prog w = .ok ((a == c) && (b == e)) w := by
  obtain ⟨i, hi, _, _, _⟩ := info_parts infoU64
  have h1 := fun x y => run_equalIn_int (P := Try.prog) w 9998 29 .u64 .u64 x y Try.underlying29
  rw [run_equalIn_array (d := 9999) (t := 31) (e := 29) (n := 2) (w := w) _ _ Try.underlying31 hi, cellsU64]
  cases hac : (a == c) <;> cases hbe : (b == e) <;> simp [Op.eqItems, List.range, List.range.loop, part, isAggU64, h1, hac, hbe]

theorem eqSets (a b c e : Int) (w : World) : (binOp .eql 31 (.agg #[.int .u64 a, .int .u64 b]) (.agg #[.int .u64 c, .int .u64 e])).run Try.prog w = .ok (.bool ((a == c) && (b == e))) w := by
  rw [run_eql_struct, eqSets_in]; rfl
theorem neSets (a b c e : Int) (w : World) : (binOp .neq 31 (.agg #[.int .u64 a, .int .u64 b]) (.agg #[.int .u64 c, .int .u64 e])).run Try.prog w = .ok (.bool (!((a == c) && (b == e)))) w := by
  rw [run_neq_struct, eqSets_in]; rfl

theorem words_beq (s t : BitVec 128) : (((lo s).toNat : Int) == ((lo t).toNat : Int) && ((hi s).toNat : Int) == ((hi t).toNat : Int)) = decide (s = t) := by
  rw [Bool.eq_iff_iff]
  simp only [Bool.and_eq_true, beq_iff_eq, decide_eq_true_eq]
  constructor
  · rintro ⟨h1, h2⟩; exact words_ext (BitVec.eq_of_toNat_eq (by omega)) (BitVec.eq_of_toNat_eq (by omega))
  · rintro rfl; exact ⟨rfl, rfl⟩
end Go.Proofs.Ytekeidhndlnghaa
