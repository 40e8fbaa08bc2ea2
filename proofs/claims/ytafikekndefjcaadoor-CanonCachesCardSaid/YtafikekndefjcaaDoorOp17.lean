/- Calls of a cache as an argument of a law; no condition. -/
import Derived.Test.YtafikekndefjcaaDoorBb17
namespace Go.Proofs.YtafikekndefjcaaDoor
set_option linter.unusedVariables false
set_option linter.unusedSimpArgs false
set_option linter.unusedSectionVars false
open Go.RowKit Go.WideShapes Go.ChangeShapes Go.ChangeAt
set_option maxRecDepth 100000
abbrev OpC := Int × List Int × Int
def rowO (x : OpC) : List AV := [.v (.int .u8 x.1), aB x.2.1, .v (.int .i64 x.2.2)]
def aOps (l : List OpC) : AV := .sl 3 (l.map rowO)
def okO (x : OpC) : Bool := decide (0 ≤ x.1) && decide (x.1 < 256) && okB x.2.1 && okI x.2.2
def okOps (l : List OpC) : Bool := l.all okO
theorem ops_ex : ∀ (ys : List (List AV)), (∀ q ∈ ys, ∃ x : OpC, q = rowO x ∧ okO x = true) → ∃ l : List OpC, ys = l.map rowO ∧ okOps l = true
  | [], _ => ⟨[], rfl, rfl⟩
  | y :: ys, h => by
    obtain ⟨x, rfl, hx⟩ := h y (by simp)
    obtain ⟨l, rfl, hl⟩ := ops_ex ys fun q hq => h q (List.mem_cons_of_mem _ hq)
    refine ⟨x :: l, rfl, ?_⟩
    unfold okOps at hl ⊢
    rw [List.all_cons, hx, hl]; rfl
section
variable {H : Type} {enc : TypeId × Value → H} {W : World}
theorem opens_op : Opens enc Tryd.prog W 57 (fun r => ∃ x : OpC, r = rowO x ∧ okO x = true) :=
  (opens_st3 (t0 := 5) (t1 := 34) (t2 := 3) (c0 := 1) (c1 := 1) (c2 := 1) Tryd.underlying57 rfl rfl rfl rfl rfl rfl (by kernel_rfl) (by kernel_rfl) (by kernel_rfl) (by kernel_rfl) (opens_int Tryd.underlying5) opens_bytes opens_i64).mono fun r h => by
    obtain ⟨_, _, _, rfl, ⟨k, rfl, h1⟩, ⟨xs, rfl, h2, _⟩, v, rfl, h3⟩ := h
    refine ⟨(k, xs, v), rfl, ?_⟩
    have := bounds_u8 h1
    unfold okO
    simp only [h2, h3, Bool.and_true, Bool.and_eq_true, decide_eq_true_eq]
    omega
theorem opens_ops : Opens enc Tryd.prog W 47 (fun r => ∃ l : List OpC, r = [aOps l] ∧ okOps l = true) :=
  (opens_slice (sz := 3) Tryd.underlying47 (by kernel_rfl) (by omega) opens_op).mono fun r h => by
    obtain ⟨ys, rfl, hl, hy⟩ := h
    obtain ⟨l, rfl, hx⟩ := ops_ex ys hy
    exact ⟨l, rfl, hx⟩
theorem arg_ops {base : Nat} {sp : Nat → Bool} {held : Bool} {v : Value} {d : DataW H} {p : List MemPlace} (hval : Value.okWide Tryd.prog W .any base 47 v) (h : DataW.Trod enc Tryd.prog W 0 sp held 47 v d p) :
    ∃ l, Rv (G0 (allS W)) (aOps l) v ∧ okOps l = true := by
  obtain ⟨a, h1, x, h2, h3⟩ := arg_one (cells_slice Tryd.underlying47 hval) h opens_ops
  cases h2
  exact ⟨x, h1, h3⟩
end
end Go.Proofs.YtafikekndefjcaaDoor
