/- Plain laws for TraceWhole and TraceLeaves; no program. -/
import Derived.Test.YtllkogdgmmcfgaaGreatDoorTfG
namespace Go.Proofs.YtllkogdgmmcfgaaGreatDoor
set_option linter.unusedVariables false
set_option linter.unusedSimpArgs false
set_option linter.unusedSectionVars false
open Go.RowKit
set_option maxRecDepth 100000
def iota (k : Nat) : List Int := (List.range k).map fun i : Nat => (i : Int)
theorem iota_zero : iota 0 = [] := rfl
theorem iota_succ (k : Nat) : iota (k + 1) = iota k ++ [(k : Int)] := by unfold iota; rw [List.range_succ, List.map_append]; rfl
theorem iota_len (k : Nat) : (iota k).length = k := by simp [iota]
theorem iota_get {k i : Nat} (h : i < k) : (iota k).getD i 0 = i := by simp [iota, List.getD, h]
theorem iota_ok {k : Nat} (h : k ≤ 4096) : okInts (iota k) = true := by
 simp only [okInts, Bool.and_eq_true, List.all_eq_true, decide_eq_true_eq, iota_len]
 refine ⟨fun x hx => ?_, by omega⟩
 unfold iota at hx
 obtain ⟨i, hi, rfl⟩ := List.mem_map.1 hx
 rw [List.mem_range] at hi
 exact okI_iff.2 ⟨by omega, by omega⟩
theorem good_iota (N : Int) (n : Nat) : goodB N n [] (iota n) = true := by
 unfold goodB
 rw [Bool.and_eq_true]
 refine ⟨rfl, all_range fun j hj => ?_⟩
 rw [iota_len] at hj
 unfold ixAsc lastK
 rw [iota_get hj, Bool.and_eq_true, decide_eq_true_eq, decide_eq_true_eq]
 refine ⟨?_, by omega⟩
 split
 ·omega
 ·rw [iota_get (by omega)]; omega
theorem left_nil (L : List (List Int)) (cs : List Int) : keptL L [] cs = cs := by
 unfold keptL
 refine List.filter_eq_self.2 fun i _ => ?_
 unfold keptF
 simp
theorem rows_iota (L : List (List Int)) : rowsOf L (iota L.length) = L := by
 refine List.ext_getElem (by rw [rowsOf_len, iota_len]) fun i h1 h2 => ?_
 simp [rowsOf, iota, List.getD, h2]
theorem given_nil (L : List (List Int)) : givenT [] L = L := by
 unfold givenT
 have h1 : L.filter (openC []) = L := List.filter_eq_self.2 fun c _ => by simp [openC]
 rw [h1]
 refine List.ext_getElem (by simp) fun i h1 h2 => ?_
 simp [restC]
theorem whole_res (L : List (List Int)) : rsdL L [] (iota L.length) = normL L := by
 unfold rsdL
 rw [left_nil, rows_iota, given_nil]
theorem whole_resA (N : Int) (L : List (List Int)) : resA N L [] (iota L.length) = if checkT N L = 0 then .tup [.agg [.v (.int .i64 N), aRows (normL L)], .v (.int .i64 0)] else .tup [.agg [.v (.int .i64 0), .v (.slice none 0 0)], .v (.int .i64 1)] := by
 unfold resA
 by_cases hz : checkT N L = 0
 ·rw [if_pos ⟨hz, good_iota N _⟩, if_pos hz, whole_res]; rfl
 ·rw [if_neg (fun h => hz h.1), if_neg hz]
/-! ### Clauses that are left -/
theorem left_left (L : List (List Int)) (ts cs : List Int) : keptL L ts (keptL L ts cs) = keptL L ts cs := by
 unfold keptL
 rw [List.filter_filter]
 congr 1
 funext i
 rw [Bool.and_self]
theorem asc_iff {cs : List Int} {m : Int} : (List.range cs.length).all (ixAsc cs m) = true ↔ cs.Pairwise (· < ·) ∧ ∀ c ∈ cs, -1 < c ∧ c < m := by
 constructor
 ·intro h
  have h1 : ∀ j, j < cs.length → lastK cs j < cs.getD j 0 ∧ cs.getD j 0 < m := fun j hj => by
   have := List.all_eq_true.1 h j (List.mem_range.2 hj)
   rw [ixAsc, Bool.and_eq_true, decide_eq_true_eq, decide_eq_true_eq] at this
   exact this
  have h2 : ∀ j, j < cs.length → ∀ i, i < j → cs.getD i 0 < cs.getD j 0 := by
   intro j
   induction j with
   | zero => intro _ i hi; omega
   | succ j ih =>
    intro hj i hi
    have h3 := (h1 (j + 1) hj).1
    rw [lastK_succ] at h3
    by_cases e : i < j
    ·have := ih (by omega) i e; omega
    ·obtain rfl : i = j := by omega
     exact h3
  have h3 : ∀ j, j < cs.length → -1 < cs.getD j 0 := fun j hj => by
   cases j with
   | zero => exact (h1 0 hj).1
   | succ j =>
    have h4 := (h1 0 (by omega)).1
    have h5 := h2 (j + 1) hj 0 (by omega)
    simp only [lastK, if_true] at h4
    omega
  have ge : ∀ i (hi : i < cs.length), cs.getD i 0 = cs[i] := fun i hi => by simp [List.getD, hi]
  refine ⟨List.pairwise_iff_getElem.2 fun i j hi hj hij => ?_, fun c hc => ?_⟩
  ·rw [← ge i hi, ← ge j hj]; exact h2 j hj i hij
  ·obtain ⟨i, hi, rfl⟩ := List.getElem_of_mem hc
   rw [← ge i hi]; exact ⟨h3 i hi, (h1 i hi).2⟩
 ·rintro ⟨h1, h2⟩
  have ge : ∀ i (hi : i < cs.length), cs.getD i 0 = cs[i] := fun i hi => by simp [List.getD, hi]
  refine all_range fun j hj => ?_
  rw [ixAsc, Bool.and_eq_true, decide_eq_true_eq, decide_eq_true_eq]
  have h3 := h2 _ (List.getElem_mem hj)
  rw [ge j hj]
  refine ⟨?_, h3.2⟩
  unfold lastK
  split
  ·omega
  ·rw [ge (j - 1) (by omega)]
   exact List.pairwise_iff_getElem.1 h1 (j - 1) j (by omega) hj (by omega)
theorem good_iff {N m : Int} {ts cs : List Int} : goodB N m ts cs = true ↔ (List.range ts.length).all (tmOk N ts) = true ∧ cs.Pairwise (· < ·) ∧ ∀ c ∈ cs, -1 < c ∧ c < m := by
 rw [goodB, Bool.and_eq_true, asc_iff]
theorem good_sub {N m : Int} {ts cs ds : List Int} (h : goodB N m ts cs = true) (hs : ds.Sublist cs) : goodB N m ts ds = true := by
 rw [good_iff] at h ⊢
 exact ⟨h.1, h.2.1.sublist hs, fun c hc => h.2.2 c (hs.subset hc)⟩
theorem leaves_resA {N : Int} {L : List (List Int)} {ts cs : List Int} (hz : checkT N L = 0) (hg : goodB N L.length ts cs = true) : resA N L ts (keptL L ts cs) = .tup [.agg [.v (.int .i64 N), aRows (rsdL L ts cs)], .v (.int .i64 0)] := by
 unfold resA
 rw [if_pos ⟨hz, good_sub hg List.filter_sublist⟩]
 unfold rsdL
 rw [left_left]; rfl
theorem res_nil (L : List (List Int)) (ts cs : List Int) (h : keptL L ts cs = []) : rsdL L ts cs = [] := by
 unfold rsdL
 rw [h]
 exact List.eq_nil_of_length_eq_zero (Nat.le_zero.1 (normL_len []))
theorem left_not {L : List (List Int)} {ts cs : List Int} {i : Int} (h : i ∈ keptL L ts cs) : ∀ m ∈ L.getD i.toNat [], ∀ k ∈ ts, m ≠ k := by
 have := (List.mem_filter.1 h).2
 unfold keptF at this
 rw [Bool.not_eq_true', List.any_eq_false] at this
 intro m hm k hk e
 exact this m hm (by rw [decide_eq_true_eq, e]; exact hk)
end Go.Proofs.YtllkogdgmmcfgaaGreatDoor
