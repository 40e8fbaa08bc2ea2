/- Bytes as an argument; no condition. -/
import Derived.Test.YtafikekndefjcaaDoorBe17
import Derived.Test.YtafikekndefjcaaDoorCvG
namespace Go.Proofs.YtafikekndefjcaaDoor
set_option linter.unusedVariables false
set_option linter.unusedSimpArgs false
set_option linter.unusedSectionVars false
open Go.RowKit Go.WideShapes Go.ChangeShapes Go.ChangeAt
set_option maxRecDepth 100000
theorem bytes_ex : ∀ (ys : List (List AV)), (∀ q ∈ ys, ∃ x, q = [AV.v (.int .u8 x)] ∧ (Lit.int .u8 x).wf = true) → ∃ xs : List Int, ys = xs.map (fun x => [AV.v (.int .u8 x)]) ∧ okB xs = true
  | [], _ => ⟨[], rfl, rfl⟩
  | y :: ys, h => by
    obtain ⟨x, rfl, hx⟩ := h y (by simp)
    obtain ⟨xs, rfl, hxs⟩ := bytes_ex ys fun q hq => h q (List.mem_cons_of_mem _ hq)
    refine ⟨x :: xs, rfl, ?_⟩
    have := bounds_u8 hx
    unfold okB at hxs ⊢
    simp only [List.all_cons, hxs, Bool.and_true, Bool.and_eq_true, decide_eq_true_eq]
    omega
section
variable {H : Type} {enc : TypeId × Value → H} {W : World}
theorem opens_bytes : Opens enc Tryd.prog W 34 (fun r => ∃ xs, r = [aB xs] ∧ okB xs = true ∧ xs.length ≤ 9223372036854775807) :=
  (opens_slice (sz := 1) Tryd.underlying34 (by kernel_rfl) (by omega) (opens_int Tryd.underlying5)).mono fun r h => by
    obtain ⟨ys, rfl, hl, hy⟩ := h
    obtain ⟨xs, rfl, hx⟩ := bytes_ex ys hy
    refine ⟨xs, rfl, hx, ?_⟩
    simpa [AMax] using hl
theorem arg_bytes {base : Nat} {sp : Nat → Bool} {held : Bool} {v : Value} {d : DataW H} {p : List MemPlace} (hval : Value.okWide Tryd.prog W .any base 34 v) (h : DataW.Trod enc Tryd.prog W 0 sp held 34 v d p) :
    ∃ xs, Rv (G0 (allS W)) (aB xs) v ∧ okB xs = true ∧ xs.length ≤ 9223372036854775807 := by
  obtain ⟨a, h1, x, h2, h3⟩ := arg_one (cells_slice Tryd.underlying34 hval) h opens_bytes
  cases h2
  exact ⟨x, h1, h3⟩
end
end Go.Proofs.YtafikekndefjcaaDoor
