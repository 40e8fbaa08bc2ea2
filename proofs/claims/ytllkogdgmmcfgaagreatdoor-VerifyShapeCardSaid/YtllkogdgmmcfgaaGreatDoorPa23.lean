/- What is known of an accepted proof; plain; no condition. -/
import Derived.Test.YtllkogdgmmcfgaaGreatDoorVvG
namespace Go.Proofs.YtllkogdgmmcfgaaGreatDoor
set_option linter.unusedVariables false
set_option linter.unusedSimpArgs false
set_option linter.unusedSectionVars false
open Go.RowKit
set_option maxRecDepth 100000
theorem kind_lt {ns : List Nd} {i : Int} (h : kindN ns i ≠ 0) : i.toNat < ns.length := by
 rcases Nat.lt_or_ge i.toNat ns.length with h2 | h2
 ·exact h2
 ·exfalso
  apply h
  unfold kindN
  rw [List.getD_eq_getElem?_getD, List.getElem?_eq_none h2]; rfl
theorem cut_perm {is : List Int} {k : Nat} (hk : k < is.length) : is.Perm (is.getD k 0 :: cutI is k) := by
 have e : is.take k ++ (is.getD k 0 :: is.drop (k + 1)) = is := by
  have := List.take_append_drop k is
  rw [List.drop_eq_getElem_cons hk] at this
  simp [List.getD, hk]
 have h := List.perm_middle (a := is.getD k 0) (l₁ := is.take k) (l₂ := is.drop (k + 1))
 rw [e] at h
 exact h
theorem all_permI {l m : List Int} (h : l.Perm m) (p : Int → Bool) : l.all p = m.all p := by
 rw [Bool.eq_iff_iff, List.all_eq_true, List.all_eq_true]
 exact ⟨fun k x hx => k x (h.mem_iff.2 hx), fun k x hx => k x (h.mem_iff.1 hx)⟩
theorem find_at {is : List Int} {p : Int → Bool} {k : Nat} (h : is.findIdx? p = some k) : k < is.length ∧ p (is.getD k 0) = true := by
 obtain ⟨hk, h1, _⟩ := List.findIdx?_eq_some_iff_getElem.1 h
 exact ⟨hk, by simpa [List.getD, hk] using h1⟩
theorem vars_litN {N : Int} {R : List (List Int)} (hz : checkT N R = 0) {v : Int} (hv : v ∈ listS (varsT R)) : litOk v N = true ∧ litOk (-v) N = true := (vars_lit hz hv).2
theorem form_kind {x : Nd} {n i : Int} (h : formB x n i = true) : x.1 = 0 ∨ x.1 = 1 ∨ x.1 = 2 ∨ x.1 = 3 ∨ x.1 = 4 := by
 unfold formB at h
 rw [Bool.and_eq_true] at h
 have h2 := h.2
 split at h2
 ·rename_i h3; omega
 ·split at h2
  ·rename_i h3; omega
  ·split at h2
   ·rename_i h3; omega
   ·cases h2
theorem form_in0 {x : Nd} {n i : Int} (h : formB x n i = true) (hk : x.1 = 0 ∨ x.1 = 1 ∨ x.1 = 2) : x.2.2 = [] := by
 unfold formB at h
 rw [Bool.and_eq_true] at h
 have h2 := h.2
 split at h2
 ·rw [Bool.and_eq_true, decide_eq_true_eq, decide_eq_true_eq] at h2; exact List.eq_nil_of_length_eq_zero h2.2
 ·rw [if_pos (by omega), Bool.and_eq_true, decide_eq_true_eq] at h2; exact List.eq_nil_of_length_eq_zero h2.2
theorem ned_of_and {ns : List Nd} {p : Nat} (hp : p < ns.length) (hk : kindN ns (p : Int) = 3) {j : Int} (hj0 : 0 ≤ j) (hj : j ∈ inN ns (p : Int)) (hj2 : kindN ns j ≠ 2) : nedB ns j.toNat = true := by
 unfold nedB
 rw [Bool.or_eq_true]
 right
 rw [Bool.and_eq_true]
 constructor
 ·unfold inpB
  rw [List.any_eq_true]
  refine ⟨ns.getD p nd0, by simp [List.getD, hp], ?_⟩
  rw [Bool.and_eq_true, decide_eq_true_eq, decide_eq_true_eq]
  refine ⟨hk, ?_⟩
  have : ((j.toNat : Nat) : Int) = j := by omega
  rw [this]; exact hj
 ·have : kindQ ns j.toNat ≠ 2 := hj2
  rw [decide_eq_false this]; rfl
theorem bad_not {N : Int} {L : List (List Int)} {ns : List Nd} {cl : List Cl} {i : Nat} (h : badV N L ns cl i = false) (hn : nedB ns i = true) : ∃ r, rsV L N (clN cl (i : Int)) = some r ∧ acptV N L ns cl (i : Int) r = true ∧ (i = ns.length - 1 → r = normL L) := by
 unfold badV at h
 rw [if_pos hn] at h
 cases hr : rsV L N (clN cl (i : Int)) with
 | none => rw [hr] at h; cases h
 | some r =>
  rw [hr] at h
  simp only [Bool.or_eq_false_iff, Bool.not_eq_false', Bool.and_eq_false_iff, decide_eq_false_iff_not, Bool.not_eq_eq_eq_not, Bool.not_false, decide_eq_true_eq] at h
  exact ⟨r, rfl, h.1, fun e => h.2.resolve_left fun h2 => h2 e⟩
structure AccV (N : Int) (L : List (List Int)) (M : Int) (ns : List Nd) (cl : List Cl) : Prop where
 hz : checkT N L = 0
 hv : validN N ns = true
 hNM : N = M
 hlen : cl.length = ns.length
 hb : ∀ i, i < ns.length → badV N L ns cl i = false
theorem accV_of {N : Int} {L : List (List Int)} {M : Int} {ns : List Nd} {cl : List Cl} (h : (verV N L M ns cl).2 = 0) : AccV N L M ns cl := by
 unfold verV at h
 split at h
 ·rename_i hh
  obtain ⟨h1, h2, h3, h4⟩ := hh
  subst h3
  refine ⟨h1, h2, rfl, h4, fun i hi => ?_⟩
  cases hf : (List.range ns.length).find? (badV N L ns cl) with
  | some j => rw [hf] at h; cases h
  | none =>
   have := List.find?_eq_none.1 hf i (List.mem_range.2 hi)
   simpa using this
 ·cases h
theorem rs_check {N : Int} {L : List (List Int)} {c : Cl} {r : List (List Int)} (hz : checkT N L = 0) (h : rsV L N c = some r) : checkT N r = 0 ∧ r = rsdL L c.1 c.2 := by
 unfold rsV at h
 split at h
 ·rename_i hg
  cases h
  exact ⟨res_check hz hg, rfl⟩
 ·cases h
theorem root_ned {ns : List Nd} : nedB ns (ns.length - 1) = true := by unfold nedB; simp
theorem fit1_sub {ns : List Nd} : ∀ (f : Nat) (R : List (List Int)) (is : List Int), ∀ i ∈ (fit1 ns f R is).2, i ∈ is
 | 0, R, is, i, hi => hi
 | f + 1, R, is, i, hi => by
  unfold fit1 at hi
  cases hf : is.findIdx? (useB ns R) with
  | none => rw [hf] at hi; exact hi
  | some k =>
   rw [hf] at hi
   exact (cut_perm (find_at hf).1).mem_iff.2 (List.mem_cons_of_mem _ (fit1_sub f _ _ i hi))
end Go.Proofs.YtllkogdgmmcfgaaGreatDoor
