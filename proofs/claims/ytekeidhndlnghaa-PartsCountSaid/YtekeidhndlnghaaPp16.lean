/- What parts.Split computes, in plain words; no condition. -/
import Derived.Test.YtekeidhndlnghaaTo16
import Derived.Test.YtekeidhndlnghaaPt16
namespace Go.Proofs.Ytekeidhndlnghaa
set_option linter.unusedVariables false
set_option linter.unusedSimpArgs false
set_option linter.unusedSectionVars false
open Go.RowKit
set_option maxRecDepth 100000
abbrev PrtL := BitVec 128 × List Int
def joinAll (x0 : Int) (r : Nat → Nat) (xs : List Int) : Nat → Nat :=
  xs.foldl (fun r x => if r (litVar x0).toNat = r (litVar x).toNat then r else joinR r (r (litVar x0).toNat) (r (litVar x).toNat)) r
structure PState where
  out : List PrtL
  first : List Int
  free : BitVec 128
  r : Nat → Nat
def pStep (L : List (List Int)) (ts : List Int) (st : PState) (i : Nat) : PState :=
  if leftL (L.getD i []) ts then
    match restL (L.getD i []) ts with
    | [] => { st with out := st.out ++ [(0#128, [(i : Int)])] }
    | x0 :: xs => { st with first := st.first ++ [(i : Int)], free := (x0 :: xs).foldl (fun s x => sWithout s (litVar x)) st.free, r := joinAll x0 st.r (x0 :: xs) }
  else st
def pStart (N : Int) (ts : List Int) : PState := ⟨[], [], ts.foldl (fun s x => sWithout s (litVar x)) (sAll N), id⟩
def pState (N : Int) (L : List (List Int)) (ts : List Int) (k : Nat) : PState := (List.range k).foldl (pStep L ts) (pStart N ts)
theorem pState_succ (N : Int) (L : List (List Int)) (ts : List Int) (k : Nat) : pState N L ts (k + 1) = pStep L ts (pState N L ts k) k := by unfold pState; rw [List.range_succ, List.foldl_append]; rfl
theorem joinAll_succ (x0 : Int) (r : Nat → Nat) {xs : List Int} {j : Nat} (hj : j < xs.length) : joinAll x0 r (xs.take (j + 1)) = if joinAll x0 r (xs.take j) (litVar x0).toNat = joinAll x0 r (xs.take j) (litVar (xs.getD j 0)).toNat then joinAll x0 r (xs.take j) else joinR (joinAll x0 r (xs.take j)) (joinAll x0 r (xs.take j) (litVar x0).toNat) (joinAll x0 r (xs.take j) (litVar (xs.getD j 0)).toNat) := by
  have e : xs.getD j 0 = xs[j] := by simp [List.getD, hj]
  unfold joinAll
  rw [List.take_succ_eq_append_getElem hj, List.foldl_append, e]
  rfl
def lessV (s : BitVec 128) (xs : List Int) : BitVec 128 := xs.foldl (fun s x => sWithout s (litVar x)) s
theorem lessV_succ (s : BitVec 128) {xs : List Int} {j : Nat} (hj : j < xs.length) : lessV s (xs.take (j + 1)) = sWithout (lessV s (xs.take j)) (litVar (xs.getD j 0)) := by
  have e : xs.getD j 0 = xs[j] := by simp [List.getD, hj]
  unfold lessV
  rw [List.take_succ_eq_append_getElem hj, List.foldl_append, e]
  rfl
def partRow (p : PrtL) : List AV := [.v (.int .u64 ((lo p.1).toNat : Int)), .v (.int .u64 ((hi p.1).toNat : Int)), aInts p.2]
def aParts (l : List PrtL) : AV := .sl 3 (l.map partRow)
theorem pStep_no {L : List (List Int)} {ts : List Int} {st : PState} {i : Nat} (h : leftL (L.getD i []) ts = false) : pStep L ts st i = st := by unfold pStep; rw [h]; rfl
theorem pStep_nil {L : List (List Int)} {ts : List Int} {st : PState} {i : Nat} (h : leftL (L.getD i []) ts = true) (h2 : restL (L.getD i []) ts = []) : pStep L ts st i = { st with out := st.out ++ [(0#128, [(i : Int)])] } := by unfold pStep; rw [if_pos h, h2]
theorem pStep_cons {L : List (List Int)} {ts : List Int} {st : PState} {i : Nat} (h : leftL (L.getD i []) ts = true) (h2 : restL (L.getD i []) ts ≠ []) : pStep L ts st i = ⟨st.out, st.first ++ [(i : Int)], lessV st.free (restL (L.getD i []) ts), joinAll ((restL (L.getD i []) ts).getD 0 0) st.r (restL (L.getD i []) ts)⟩ := by
  unfold pStep
  rw [if_pos h]
  cases hr : restL (L.getD i []) ts with
  | nil => exact absurd hr h2
  | cons x xs => rfl
theorem pState_len (N : Int) (L : List (List Int)) (ts : List Int) : ∀ k, (pState N L ts k).out.length + (pState N L ts k).first.length ≤ k
  | 0 => by simp [pState, pStart]
  | k + 1 => by
    have ih := pState_len N L ts k
    rw [pState_succ]
    unfold pStep
    split
    · split
      · simp only [List.length_append, List.length_singleton]; omega
      · simp only [List.length_append, List.length_singleton]; omega
    · omega
end Go.Proofs.Ytekeidhndlnghaa
