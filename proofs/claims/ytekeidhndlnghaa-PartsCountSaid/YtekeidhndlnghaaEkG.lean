/- Calls of parts.Split with exact arguments on the chapter's theory; no condition. -/
import Derived.Test.YtekeidhndlnghaaPs16
import Derived.Test.YtekeidhndlnghaaBt
/- Ek16a: Calls of parts.Split with exact arguments on the chapter's theory; no condition. -/
namespace Go.Proofs.Ytekeidhndlnghaa
set_option linter.unusedVariables false
set_option linter.unusedSimpArgs false
set_option linter.unusedSectionVars false
open Go.RowKit
set_option maxRecDepth 100000
theorem prog_mixedC : Try.prog.follows .mixedOrders = true := by kernel_rfl
theorem fn_nil2 {P : Program} {f : FuncId} {a r : AV} (h : FnPure P f [a, .sl 1 []] r) : FnPure P f [a, .v (.slice none 0 0)] r := fun S w vs hS hl hv => h S w vs hS hl fun i hx => by
  match i, hx with
  | 0, _ => exact hv 0 (by simp)
  | 1, _ =>
    have h1 := hv 1 (by simp)
    have h2 : Rv (G0 S) (.v (.slice none 0 0)) (vs.getD 1 undef) := h1
    rw [h2.v_eq]
    exact .sl 1 [] none 0 0 (fun _ _ => undef) rfl (Nat.le_refl _) (Nat.zero_le _) (fun _ => rfl) (fun i h => by cases h) (fun h => by cases h) (fun i j h => by cases h) (fun i j h => by cases h)
def tC : AV := .agg [.v (.int .i64 6), .sl 1 [[.sl 1 [[.v (.int .i64 1)], [.v (.int .i64 2)]]], [.sl 1 [[.v (.int .i64 (-2))], [.v (.int .i64 3)]]], [.sl 1 [[.v (.int .i64 4)], [.v (.int .i64 (-5))]]], [.sl 1 [[.v (.int .i64 (-1))]]]]]
def lC : List (List Int) := [[1, 2], [(-2), 3], [4, (-5)], [(-1)]]
theorem chk14 : chkL 6 lC [1, (-4)] = some [1, (-4)] := by
  have e : sortLits [1, (-4)] = [1, (-4)] := by unfold sortLits; exact List.mergeSort_of_pairwise (by decide)
  unfold chkL
  have hc : checkT 6 lC = 0 := by kernel_rfl
  rw [if_pos hc]
  unfold termL orderL
  rw [e]
  decide
def r0 : Row := ⟨26, [], tC⟩
theorem r0_ok : RowOk Try.prog r0 := row_run prog_mixedC TT_ok (noPT_ok _) (T := noT) (n := 3000) (by kernel_rfl) (by kernel_rfl)
def r1 : Row := ⟨12, [tC, .v (.slice none 0 0)], .tup [.sl 3 [[.v (.int .u64 7), .v (.int .u64 0), .sl 1 [[.v (.int .i64 0)], [.v (.int .i64 1)], [.v (.int .i64 3)]]], [.v (.int .u64 24), .v (.int .u64 0), .sl 1 [[.v (.int .i64 2)]]]], .agg [.v (.int .u64 32), .v (.int .u64 0)], .v (.int .i64 0)]⟩
theorem r1_e : (AV.tup [aParts (splitP 6 lC []), aSet (splitF 6 lC []), .v (.int .i64 0)]) = r1.res := by kernel_rfl
theorem r1_ok : RowOk Try.prog r1 := ⟨by kernel_rfl, by
  have h := split_walk 6 lC [] [] (by decide) (by decide) (by decide) (by decide) (by decide) (by kernel_rfl) (by kernel_rfl)
  rw [r1_e] at h
  exact fn_nil2 h⟩
def r2 : Row := ⟨12, [tC, .sl 1 [[.v (.int .i64 2)]]], .tup [.sl 3 [[.v (.int .u64 1), .v (.int .u64 0), .sl 1 [[.v (.int .i64 3)]]], [.v (.int .u64 4), .v (.int .u64 0), .sl 1 [[.v (.int .i64 1)]]], [.v (.int .u64 24), .v (.int .u64 0), .sl 1 [[.v (.int .i64 2)]]]], .agg [.v (.int .u64 32), .v (.int .u64 0)], .v (.int .i64 0)]⟩
theorem r2_e : (AV.tup [aParts (splitP 6 lC [2]), aSet (splitF 6 lC [2]), .v (.int .i64 0)]) = r2.res := by kernel_rfl
theorem r2_ok : RowOk Try.prog r2 := ⟨by kernel_rfl, by
  have h := split_walk 6 lC [2] [2] (by decide) (by decide) (by decide) (by decide) (by decide) (by kernel_rfl) (by kernel_rfl)
  rw [r2_e] at h
  exact h⟩
def r3 : Row := ⟨12, [tC, .sl 1 [[.v (.int .i64 1)], [.v (.int .i64 (-4))]]], .tup [.sl 3 [[.v (.int .u64 0), .v (.int .u64 0), .sl 1 [[.v (.int .i64 3)]]], [.v (.int .u64 6), .v (.int .u64 0), .sl 1 [[.v (.int .i64 1)]]], [.v (.int .u64 16), .v (.int .u64 0), .sl 1 [[.v (.int .i64 2)]]]], .agg [.v (.int .u64 32), .v (.int .u64 0)], .v (.int .i64 0)]⟩
theorem r3_e : (AV.tup [aParts (splitP 6 lC [1, (-4)]), aSet (splitF 6 lC [1, (-4)]), .v (.int .i64 0)]) = r3.res := by kernel_rfl
theorem r3_ok : RowOk Try.prog r3 := ⟨by kernel_rfl, by
  have h := split_walk 6 lC [1, (-4)] [1, (-4)] (by decide) (by decide) (by decide) (by decide) (by decide) chk14 (by kernel_rfl)
  rw [r3_e] at h
  exact h⟩
def r4 : Row := ⟨12, [tC, .sl 1 [[.v (.int .i64 1)], [.v (.int .i64 (-1))]]], .tup [.v (.slice none 0 0), .agg [.v (.int .u64 0), .v (.int .u64 0)], .v (.int .i64 1)]⟩
theorem r4_ok : RowOk Try.prog r4 := row_run prog_mixedC TT_ok (noPT_ok _) (T := noT) (n := 3000) (by kernel_rfl) (by kernel_rfl)
def r5 : Row := ⟨12, [tC, .sl 1 [[.v (.int .i64 7)]]], .tup [.v (.slice none 0 0), .agg [.v (.int .u64 0), .v (.int .u64 0)], .v (.int .i64 1)]⟩
theorem r5_ok : RowOk Try.prog r5 := row_run prog_mixedC TT_ok (noPT_ok _) (T := noT) (n := 3000) (by kernel_rfl) (by kernel_rfl)
def lS : List Row := [r0, r1, r2, r3, r4, r5]
theorem lS_ok : ∀ r ∈ lS, RowOk Try.prog r := List.forall_mem_cons.2 ⟨r0_ok, List.forall_mem_cons.2 ⟨r1_ok, List.forall_mem_cons.2 ⟨r2_ok, List.forall_mem_cons.2 ⟨r3_ok, List.forall_mem_cons.2 ⟨r4_ok, List.forall_mem_cons.2 ⟨r5_ok, (by intro p hp; cases hp)⟩⟩⟩⟩⟩⟩
end Go.Proofs.Ytekeidhndlnghaa
/- Ek16b: The examples of the chapter hold, and the law PartsKnown returns true; no condition. -/
namespace Go.Proofs.Ytekeidhndlnghaa
set_option linter.unusedVariables false
set_option linter.unusedSimpArgs false
set_option linter.unusedSectionVars false
open Go.RowKit
set_option maxRecDepth 100000
def rW : Row := ⟨11, [], .v (.bool true)⟩
theorem rW_ok : RowOk Try.prog rW := row_run prog_mixedC TT_ok (tabR_ok lS_ok) (T := funR lS) (n := 3000) (by kernel_rfl) (by kernel_rfl)
theorem works_p : FnPure Try.prog 11 [] (.v (.bool true)) := rW_ok.2
theorem lSW_ok : ∀ r ∈ rW :: lS, RowOk Try.prog r := List.forall_mem_cons.2 ⟨rW_ok, lS_ok⟩
theorem known_run : resI Try.prog TT (tabR (rW :: lS)) (funR (rW :: lS)) 3000 9 [] = some (.v (.bool true)) := by kernel_rfl
theorem partsKnown_p : FnPure Try.prog 9 [] (.v (.bool true)) := fn_run prog_mixedC TT_ok (tabR_ok lSW_ok) known_run
end Go.Proofs.Ytekeidhndlnghaa
