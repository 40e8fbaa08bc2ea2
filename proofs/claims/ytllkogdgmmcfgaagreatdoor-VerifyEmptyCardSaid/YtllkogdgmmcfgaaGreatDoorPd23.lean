/- What Verify computes of the net of a constant; plain; no condition. -/
import Derived.Test.YtllkogdgmmcfgaaGreatDoorPb23
import Derived.Test.YtllkogdgmmcfgaaGreatDoorTp2
namespace Go.Proofs.YtllkogdgmmcfgaaGreatDoor
set_option linter.unusedVariables false
set_option linter.unusedSimpArgs false
set_option linter.unusedSectionVars false
open Go.RowKit
set_option maxRecDepth 100000
def emN (k : Int) : List Nd := [(k, 0, [])]
def emC (L : List (List Int)) : List Cl := [([], iota L.length)]
theorem em_valid {N : Int} (h0 : 0 ≤ N) (h1 : N ≤ 128) (k : Int) : validN N (emN k) = decide (k = 0 ∨ k = 1 ∨ k = 3 ∨ k = 4) := by
 have hf : formB (k, 0, []) N ((0 : Nat) : Int) = decide (k = 0 ∨ k = 1 ∨ k = 3 ∨ k = 4) := by
  unfold formB
  simp only [List.all_nil, Bool.true_and]
  by_cases e : k = 0 ∨ k = 1
  ·rw [if_pos e, decide_eq_true (by omega : k = 0 ∨ k = 1 ∨ k = 3 ∨ k = 4)]; rfl
  ·rw [if_neg e]
   by_cases e2 : k = 2
   ·subst e2
    rw [if_pos rfl]
    have : litOk 0 N = false := by unfold litOk; simp [litVar]
    rw [this]; rfl
   ·rw [if_neg e2]
    by_cases e3 : k = 3 ∨ k = 4
    ·rw [if_pos e3, decide_eq_true (by omega : k = 0 ∨ k = 1 ∨ k = 3 ∨ k = 4)]; rfl
    ·rw [if_neg e3, decide_eq_false (by omega)]
 unfold validN emN
 rw [decide_eq_true h0, decide_eq_true h1]
 simp only [List.length_cons, List.length_nil]
 show (true && true && decide (1 ≤ 1) && decide (1 ≤ 65536) && [0].all fun i => formB ([(k, 0, [])].getD i nd0) N (i : Int)) = _
 simp only [List.all_cons, List.all_nil, List.getD_cons_zero, hf]
 simp
theorem norm_0 {N : Int} (h0 : 0 ≤ N) (h1 : N ≤ 128) : normL [] = [] := List.eq_nil_of_length_eq_zero (Nat.le_zero.1 (normL_len []))
def emB (L : List (List Int)) (k : Int) : Bool := if k = 1 then decide (normL L = []) else if k = 0 then decide ([] ∈ normL L) else if k = 3 then decide (normL L = []) else false
theorem em_ver {N : Int} {L : List (List Int)} (k : Int) : (verV N L N (emN k) (emC L)).2 = if checkT N L = 0 ∧ (k = 0 ∨ k = 1 ∨ k = 3 ∨ k = 4) then (if emB L k = true then 0 else 230) else 1 := by
 unfold verV
 by_cases hz : checkT N L = 0
 ·obtain ⟨h0, h1, _, _⟩ := checkT_ok hz
  by_cases hk : k = 0 ∨ k = 1 ∨ k = 3 ∨ k = 4
  ·rw [if_pos ⟨hz, by rw [em_valid h0 h1]; exact decide_eq_true hk, rfl, rfl⟩, if_pos ⟨hz, hk⟩]
   have hr : List.range (emN k).length = [0] := rfl
   have hn : nedB (emN k) 0 = true := by unfold nedB; simp [emN]
   have hrs : rsV L N (clN (emC L) ((0 : Nat) : Int)) = some (normL L) := by
    unfold rsV
    show (if goodB N L.length [] (iota L.length) = true then some (rsdL L [] (iota L.length)) else none) = _
    rw [if_pos (good_iota N _), whole_res]
   have ha : acptV N L (emN k) (emC L) ((0 : Nat) : Int) (normL L) = emB L k := by
    have hkk : kindN (emN k) ((0 : Nat) : Int) = k := rfl
    have hin : inN (emN k) ((0 : Nat) : Int) = [] := rfl
    unfold acptV emB
    rw [hkk, hin]
    by_cases e1 : k = 1
    ·rw [if_pos e1, if_pos e1]
    ·rw [if_neg e1, if_neg e1]
     by_cases e0 : k = 0
     ·rw [if_pos e0, if_pos e0]
     ·rw [if_neg e0, if_neg e0, if_neg (by omega)]
      by_cases e3 : k = 3
      ·rw [if_pos e3, if_pos e3]
       have hz0 : checkT N [] = 0 := checkT_of h0 h1 (by simp) (fun c hc => by cases hc)
       show (decide (checkT N [] = 0) && decide (normL L = normL [])) = _
       rw [decide_eq_true hz0, norm_0 h0 h1, Bool.true_and]
      ·rw [if_neg e3, if_neg e3, if_pos (by simp)]
   have hb : badV N L (emN k) (emC L) 0 = !emB L k := by
    unfold badV
    rw [if_pos hn, hrs]
    simp only [ha]
    simp
   rw [hr, List.find?_cons, hb]
   cases emB L k <;> rfl
  ·rw [if_neg (fun h => hk (by have := h.2.1; rw [em_valid h0 h1, decide_eq_true_eq] at this; exact this)), if_neg (fun h => hk h.2)]
 ·rw [if_neg (fun h => hz h.1), if_neg (fun h => hz h.1)]
theorem nil_head {N : Int} {L : List (List Int)} (hz : checkT N L = 0) : decide ([] ∈ normL L) = (decide (0 < (normL L).length) && decide (((normL L).getD 0 []).length = 0)) := by
 by_cases h : [] ∈ normL L
 ·have h2 := (norm_nil hz h).1
  rw [decide_eq_true h, h2]; rfl
 ·rw [decide_eq_false h, eq_comm]
  generalize normL L = X at h
  match X, h with
  | [], _ => rfl
  | a :: r, h =>
   rw [Bool.and_eq_false_iff]
   right
   refine decide_eq_false fun h2 => h ?_
   have : a = [] := List.eq_nil_of_length_eq_zero h2
   rw [this]; exact List.mem_cons_self ..
end Go.Proofs.YtllkogdgmmcfgaaGreatDoor
