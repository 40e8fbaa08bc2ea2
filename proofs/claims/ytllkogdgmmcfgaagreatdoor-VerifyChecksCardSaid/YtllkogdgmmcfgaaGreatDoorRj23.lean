/- (censusref23.Proof).fit; no condition. -/
import Derived.Test.YtllkogdgmmcfgaaGreatDoorRi23
namespace Go.Proofs.YtllkogdgmmcfgaaGreatDoor
set_option linter.unusedVariables false
set_option linter.unusedSimpArgs false
set_option linter.unusedSectionVars false
open Go.RowKit
set_option maxRecDepth 100000
def unus (is : List Int) (us : List Bool) : List Int := ((List.range is.length).filter fun k => !us.getD k false).map fun k => is.getD k 0
def unusK (is : List Int) (us : List Bool) (k : Nat) : List Int := (((List.range is.length).drop k).filter fun k => !us.getD k false).map fun k => is.getD k 0
theorem unusK_zero (is : List Int) (us : List Bool) : unusK is us 0 = unus is us := by unfold unusK unus; rw [List.drop_zero]
theorem unusK_end (is : List Int) (us : List Bool) : unusK is us is.length = [] := by unfold unusK; rw [List.drop_eq_nil_of_le (by simp)]; rfl
theorem unusK_step {is : List Int} {us : List Bool} {k : Nat} (hk : k < is.length) : unusK is us k = if us.getD k false = true then unusK is us (k + 1) else is.getD k 0 :: unusK is us (k + 1) := by
 unfold unusK
 have e : (List.range is.length).drop k = k :: (List.range is.length).drop (k + 1) := by
  rw [List.drop_eq_getElem_cons (by simpa using hk)]; simp
 rw [e, List.filter_cons]
 cases us.getD k false <;> simp
theorem unus_start (is : List Int) : unus is (List.replicate is.length false) = is := by
 unfold unus
 have e : (List.range is.length).filter (fun k => !(List.replicate is.length false).getD k false) = List.range is.length := by
  refine List.filter_eq_self.2 fun k hk => ?_
  have := List.mem_range.1 hk
  simp [List.getD, this]
 rw [e]
 refine List.ext_getElem (by simp) fun i h1 h2 => ?_
 simp [List.getD, h2]
theorem unus_sub (is : List Int) (us : List Bool) : (unus is us).Sublist is := by
 have h : (List.range is.length).map (fun k => is.getD k 0) = is := by
  refine List.ext_getElem (by simp) fun i h1 h2 => ?_
  simp [List.getD, h2]
 have h2 := (List.filter_sublist (p := fun k => !us.getD k false) (l := List.range is.length)).map fun k => is.getD k 0
 rw [h] at h2
 exact h2
theorem unus_set {is : List Int} {us : List Bool} {k : Nat} (hk : k < is.length) (hu : us.length = is.length) (h : us.getD k false = false) : (unus is us).Perm (is.getD k 0 :: unus is (us.set k true)) := by
 unfold unus
 have hg : ∀ j, j < is.length → (us.set k true).getD j false = if j = k then true else us.getD j false := fun j hj => by
  rw [List.getD_eq_getElem?_getD, List.getElem?_set]
  by_cases e : k = j
  ·subst e; rw [if_pos rfl, if_pos (by omega), if_pos rfl]; rfl
  ·rw [if_neg e, if_neg (Ne.symm e), ← List.getD_eq_getElem?_getD]
 have e1 : List.range is.length = (List.range is.length).take k ++ k :: (List.range is.length).drop (k + 1) := by
  have := List.take_append_drop k (List.range is.length)
  rw [List.drop_eq_getElem_cons (by simpa using hk)] at this
  simpa using this.symm
 have hnd : ∀ j ∈ (List.range is.length).take k ++ (List.range is.length).drop (k + 1), j < is.length ∧ j ≠ k := fun j hj => by
  rcases List.mem_append.1 hj with hj | hj
  ·obtain ⟨i, hi, rfl⟩ := List.mem_take_iff_getElem.1 hj
   simp at hi ⊢
   omega
  ·obtain ⟨i, hi, rfl⟩ := List.mem_iff_getElem.1 hj
   simp at hi ⊢
   omega
 have e2 : ∀ l : List Nat, (∀ j ∈ l, j < is.length ∧ j ≠ k) → l.filter (fun j => !(us.set k true).getD j false) = l.filter fun j => !us.getD j false := fun l hl => by
  refine List.filter_congr fun j hj => ?_
  rw [hg j (hl j hj).1, if_neg (hl j hj).2]
 rw [e1]
 simp only [List.filter_append, List.filter_cons, h, hg k hk, if_true, Bool.not_false, Bool.not_true, Bool.false_eq_true, if_false, List.map_append, List.map_cons]
 rw [e2 _ fun j hj => hnd j (List.mem_append_left _ hj), e2 _ fun j hj => hnd j (List.mem_append_right _ hj)]
 exact List.perm_middle
theorem Run.snoc {ns : List Nd} {R : List (List Int)} {A : List Int} {R1 : List (List Int)} {B1 : List Int} (h : Run ns R A R1 B1) : ∀ {p : Int} {B2 : List Int}, B1.Perm (p :: B2) → useB ns R1 p = true → Run ns R A (gvV R1 (litN ns p)) B2 := by
 induction h with
 | done h => intro p B2 hp hu; exact .step (h.trans hp) hu (.done (List.Perm.refl _))
 | step hq hqu h ih => intro p B2 hp hu; exact .step hq hqu (ih hp hu)
theorem run_check {N : Int} {ns : List Nd} {R : List (List Int)} {A : List Int} {R1 : List (List Int)} {B1 : List Int} (h : Run ns R A R1 B1) : checkT N R = 0 → checkT N R1 = 0 := by
 induction h with
 | done h => intro hz; exact hz
 | step hq hqu h ih => intro hz; exact ih (gv_check hz _)
/-! ### The inner loop -/
def addJ (all x : List (List Int)) (j : Nat) : List (List Int) := all ++ if [] ∈ x ∧ [] ∈ all then (x.drop 1).take (j - 1) else x.take j
theorem addJ_zero (all x : List (List Int)) : addJ all x 0 = all := by unfold addJ; split <;> simp
theorem addJ_end (all x : List (List Int)) : addJ all x x.length = addR all x := by
 unfold addJ addR
 split
 ·rw [List.take_of_length_le (by simp)]
 ·rw [List.take_length]
theorem addJ_yes {all x : List (List Int)} (hn : [] ∈ x → x = [] :: x.drop 1 ∧ [] ∉ x.drop 1) {j : Nat} (hj : j < x.length) (h : x.getD j [] ≠ [] ∨ [] ∉ addJ all x j) : addJ all x (j + 1) = addJ all x j ++ [x.getD j []] := by
 have e : x.getD j [] = x[j] := by simp [List.getD, hj]
 unfold addJ at h ⊢
 split
 ·rename_i hb
  rw [if_pos hb] at h
  obtain ⟨h1, h2⟩ := hn hb.1
  cases j with
  | zero =>
   exfalso
   rcases h with h | h
   ·rw [h1] at h; exact h rfl
   ·exact h (List.mem_append_left _ hb.2)
  | succ i =>
   have hi : i < (x.drop 1).length := by simp; omega
   have e2 : (x.drop 1)[i] = x[i + 1] := by simp [Nat.add_comm]
   rw [show i + 1 + 1 - 1 = i + 1 by omega, show i + 1 - 1 = i by omega, List.take_succ_eq_append_getElem hi, e2, e, List.append_assoc]
 ·rw [List.take_succ_eq_append_getElem hj, e, List.append_assoc]
theorem addJ_no {all x : List (List Int)} (hn : [] ∈ x → x = [] :: x.drop 1 ∧ [] ∉ x.drop 1) {j : Nat} (hj : j < x.length) (h1 : x.getD j [] = []) (h2 : [] ∈ addJ all x j) : addJ all x (j + 1) = addJ all x j := by
 have e : x.getD j [] = x[j] := by simp [List.getD, hj]
 have hx : [] ∈ x := by rw [← h1, e]; exact List.getElem_mem hj
 obtain ⟨g1, g2⟩ := hn hx
 cases j with
 | zero =>
  rw [addJ_zero] at h2 ⊢
  unfold addJ
  rw [if_pos ⟨hx, h2⟩]
  simp
 | succ i =>
  exfalso
  have hi : i < (x.drop 1).length := by simp; omega
  have e2 : (x.drop 1)[i] = x[i + 1] := by simp [Nat.add_comm]
  refine g2 ?_
  rw [← h1, e, ← e2]
  exact List.getElem_mem hi
end Go.Proofs.YtllkogdgmmcfgaaGreatDoor
