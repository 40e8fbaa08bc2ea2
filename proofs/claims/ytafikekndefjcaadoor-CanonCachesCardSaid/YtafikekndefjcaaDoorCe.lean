/- slices.Clone of a list without elements, by the abstract machine; the table of closed runs; no condition. -/
import Derived.Test.YtafikekndefjcaaDoorAmB
import Derived.Test.YtafikekndefjcaaDoorTi
namespace Go.Proofs.YtafikekndefjcaaDoor
set_option linter.unusedVariables false
set_option linter.unusedSimpArgs false
set_option linter.unusedSectionVars false
open Go.RowKit
set_option maxRecDepth 100000
theorem prog_mixedC : Tryd.prog.follows .mixedOrders = true := by kernel_rfl
theorem nil_rv {G G' : Gh} {v : Value} (h : Rv G (.sl 1 []) v) : Rv G' (.sl 1 []) v := by
  cases h with
  | sl _ _ a n c us hn hc hm h0 hz ha h1 hh =>
    exact .sl 1 [] a n c us hn hc hm h0 hz (fun h => by simp at h) (fun i j hi => by simp at hi) (fun i j hi => by simp at hi)
theorem cloneE_nil : resI Tryd.prog TT noPT noT 100 81 [.v (.slice none 0 0)] = some (.v (.slice none 0 0)) := by kernel_rfl
theorem cloneE_some (a : Addr) (c : Nat) : resI Tryd.prog TT noPT noT 100 81 [.v (.slice (some a) 0 c)] = some (.sl 1 []) := by kernel_rfl
theorem cloneE_p : FnFresh Tryd.prog 81 [.sl 1 []] (.sl 1 []) := fun S w vs hS hn hv => by
  obtain ⟨v, rfl⟩ : ∃ v, vs = #[v] := by
    cases vs with
    | mk l => cases l with
      | nil => simp at hn
      | cons x l => cases l with
        | nil => exact ⟨x, rfl⟩
        | cons y l => simp at hn
  have h := hv 0 (by simp)
  have h' : Rv (G0 S) (.sl 1 []) v := by simpa using h
  cases h' with
  | sl _ _ a n c us hn2 hc hm h0 hz ha h1 hh =>
    obtain rfl : n = 0 := by simpa using hn2
    cases a with
    | none =>
      obtain rfl := h0 rfl
      refine (fn_run prog_mixedC TT_ok (noPT_ok _) cloneE_nil S w _ hS rfl fun i hi => ?_).mono fun e w' hl => ?_
      · obtain rfl : i = 0 := by simpa using hi
        exact .v _
      · obtain ⟨v, S', rfl, g1, g2, g3, g4, g5⟩ := hl
        rw [g5.v_eq]
        exact ⟨_, rfl, g1, rv_nil0 1⟩
    | some a =>
      refine (fn_run prog_mixedC TT_ok (noPT_ok _) (cloneE_some a c) S w _ hS rfl fun i hi => ?_).mono fun e w' hl => ?_
      · obtain rfl : i = 0 := by simpa using hi
        exact .v _
      · obtain ⟨v, S', rfl, g1, g2, g3, g4, g5⟩ := hl
        exact ⟨_, rfl, g1, nil_rv g5⟩
def PTc : PTab := fun f args => if f = 81 then (match args with
  | [.sl 1 []] => some (.sl 1 [], true)
  | _ => none) else none
theorem PTc_ok : PTok Tryd.prog PTc := fun f args r fr h => by
  unfold PTc at h
  split at h
  · rename_i hf
    subst hf
    split at h
    · cases h
      exact ⟨by kernel_rfl, cloneE_p.pure, fun _ => cloneE_p⟩
    · cases h
  · cases h
def Tc : FuncId → Bool := fun f => f == 81
end Go.Proofs.YtafikekndefjcaaDoor
