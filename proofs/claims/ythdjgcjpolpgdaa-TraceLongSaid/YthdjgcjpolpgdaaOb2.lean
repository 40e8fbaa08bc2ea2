/- lit.Clause as a function that returns a slice of its own; sorting slices of rows that are objects; no condition. -/
import Derived.Test.YthdjgcjpolpgdaaOb1
import Derived.Test.YthdjgcjpolpgdaaJf
namespace Go.Proofs.Ythdjgcjpolpgdaa
set_option linter.unusedVariables false
set_option linter.unusedSimpArgs false
set_option linter.unusedSectionVars false
open Go.RowKit Go.Shelf Go.Sort
set_option maxRecDepth 100000
@[simp] theorem obI_t (xs : List Int) : (obI xs).t = 3 := rfl
@[simp] theorem obI_sz (xs : List Int) : (obI xs).sz = 1 := rfl
@[simp] theorem obI_xs (xs : List Int) : (obI xs).xs = xs.map fun x => [.v (.int .i64 x)] := rfl
@[simp] theorem renLL_ints (ρ : Nat → Nat) (xs : List Int) : renLL ρ (xs.map fun x => [AV.v (.int .i64 x)]) = xs.map fun x => [AV.v (.int .i64 x)] := renLL_pure ρ _ (ids_ints xs)
@[simp] theorem shO_nil (q : Nat) : shO q [] = [] := rfl
theorem obI_mk (xs : List Int) : (⟨3, 1, xs.map fun x => [.v (.int .i64 x)]⟩ : AObj) = obI xs := rfl
theorem shO_ob (q k : Nat) (xs : List Int) (r : List (Nat × AObj)) : shO q ((k, obI xs) :: r) = (k + q, obI xs) :: shO q r := by
  rw [shO_cons]; simp [obI]
abbrev fam (b : Nat) (M : List (List Int)) : List (Nat × AObj) := famI 3 b M
theorem lk_fam_add {b j : Nat} {M : List (List Int)} (h : j < M.length) : lk (fam b M) (b + j) = some (obI (M.getD j [])) := by
  rw [lk_famI, if_pos ⟨by omega, by omega⟩, show b + j - b = j by omega]; rfl
theorem lk_fam_lt {b k : Nat} {M : List (List Int)} (h : k < b) : lk (fam b M) k = none := by
  rw [lk_famI, if_neg (by omega)]
theorem dl_none {α : Type} : ∀ {l : List (Nat × α)} {k : Nat}, lk l k = none → dl l k = l
  | [], _, _ => rfl
  | (e, u) :: r, k, h => by
    simp only [lk] at h
    split at h
    · cases h
    · rename_i he
      simp only [dl, if_neg he, dl_none h]
theorem st_none {α : Type} : ∀ {l : List (Nat × α)} {k : Nat} {v : α}, lk l k = none → st l k v = l ++ [(k, v)]
  | [], _, _, _ => rfl
  | (e, u) :: r, k, v, h => by
    simp only [lk] at h
    split at h
    · cases h
    · rename_i he
      simp only [st, if_neg he, st_none h, List.cons_append]
theorem dl_fam_lt {b k : Nat} {M : List (List Int)} (h : k < b) : dl (fam b M) k = fam b M := dl_none (lk_fam_lt h)
theorem st_fam_lt {b k : Nat} {M : List (List Int)} {v : AObj} (h : k < b) : st (fam b M) k v = fam b M ++ [(k, v)] := st_none (lk_fam_lt h)
theorem weakI_fam {I0 : List Nat} {σ : AS} {n b : Nat} {slots : List (Nat × AV)} {E : List (Nat × AObj)} {I : List Nat} {M : List (List Int)} (ρ : Nat → Nat) (hI0 : ∀ k ∈ I0, ρ k = k ∧ (k ∈ I ∨ (b ≤ k ∧ k < b + M.length))) (hn : n = σ.n) (hs : ∀ p ∈ slots, lk σ.slots p.1 = some (p.2.ren ρ) ∧ ∀ k ∈ p.2.ids, k ∈ I)
    (hE : ∀ p ∈ E, p.1 < b ∧ lk σ.objs (ρ p.1) = some ⟨p.2.t, p.2.sz, renLL ρ p.2.xs⟩ ∧ p.1 ∈ I ∧ ∀ q ∈ idsLL p.2.xs, q ∈ I ∨ (b ≤ q ∧ q < b + M.length)) (hM : ∀ j, j < M.length → lk σ.objs (ρ (b + j)) = some (obI (M.getD j [])))
    (h1 : ∀ p ∈ E, ∀ q ∈ E, ρ p.1 = ρ q.1 → p.1 = q.1) (h2 : ∀ j, j < M.length → ∀ i, i < M.length → ρ (b + j) = ρ (b + i) → j = i) (h3 : ∀ p ∈ E, ∀ j, j < M.length → ρ p.1 ≠ ρ (b + j)) : WeakI I0 σ ⟨n, slots, E ++ fam b M, I ++ List.range' b M.length⟩ := by
  have hlk : ∀ k ob, lk (E ++ fam b M) k = some ob → (k, ob) ∈ E ∨ ∃ j, j < M.length ∧ k = b + j ∧ ob = obI (M.getD j []) := fun k ob h => by
    rw [lk_append] at h
    cases hk : lk E k with
    | some x => rw [hk] at h; cases h; exact .inl (mem_lk hk)
    | none =>
      rw [hk] at h
      simp only [lk_famI] at h
      split at h
      · rename_i hc; cases h
        exact .inr ⟨k - b, by omega, by omega, rfl⟩
      · cases h
  have hin : ∀ k, k ∈ I → k ∈ I ++ List.range' b M.length := fun k h => List.mem_append_left _ h
  have hin2 : ∀ k, b ≤ k ∧ k < b + M.length → k ∈ I ++ List.range' b M.length := fun k h => List.mem_append_right _ (List.mem_range'_1.2 h)
  refine ⟨hn, ρ, fun t av ht => ?_, fun k ob hk => ?_, fun k ob k' ob' hk hk' e => ?_, fun k hk => ⟨(hI0 k hk).1, (hI0 k hk).2.elim (hin k) (hin2 k)⟩⟩
  · obtain ⟨g1, g2⟩ := hs (t, av) (mem_lk ht)
    exact ⟨g1, fun k hk => hin k (g2 k hk)⟩
  · rcases hlk k ob hk with h | ⟨j, hj, rfl, rfl⟩
    · obtain ⟨_, g1, g2, g3⟩ := hE _ h
      exact ⟨g1, hin k g2, fun q hq => (g3 q hq).elim (hin q) (hin2 q)⟩
    · refine ⟨by rw [hM j hj]; simp [obI], hin2 _ (by omega), fun q hq => ?_⟩
      rw [show idsLL (obI (M.getD j [])).xs = [] from ids_ints _] at hq; cases hq
  · rcases hlk k ob hk with h | ⟨j, hj, rfl, rfl⟩ <;> rcases hlk k' ob' hk' with h' | ⟨i, hi, rfl, rfl⟩
    · exact h1 _ h _ h' e
    · exact absurd e (h3 _ h i hi)
    · exact absurd e.symm (h3 _ h' j hj)
    · rw [h2 j hj i hi e]
theorem weak_fam {σ : AS} {n b : Nat} {slots : List (Nat × AV)} {E : List (Nat × AObj)} {I : List Nat} {M : List (List Int)} (ρ : Nat → Nat) (hn : n = σ.n) (hs : ∀ p ∈ slots, lk σ.slots p.1 = some (p.2.ren ρ) ∧ ∀ k ∈ p.2.ids, k ∈ I)
    (hE : ∀ p ∈ E, p.1 < b ∧ lk σ.objs (ρ p.1) = some ⟨p.2.t, p.2.sz, renLL ρ p.2.xs⟩ ∧ p.1 ∈ I ∧ ∀ q ∈ idsLL p.2.xs, q ∈ I ∨ (b ≤ q ∧ q < b + M.length)) (hM : ∀ j, j < M.length → lk σ.objs (ρ (b + j)) = some (obI (M.getD j [])))
    (h1 : ∀ p ∈ E, ∀ q ∈ E, ρ p.1 = ρ q.1 → p.1 = q.1) (h2 : ∀ j, j < M.length → ∀ i, i < M.length → ρ (b + j) = ρ (b + i) → j = i) (h3 : ∀ p ∈ E, ∀ j, j < M.length → ρ p.1 ≠ ρ (b + j)) : Weak σ ⟨n, slots, E ++ fam b M, I ++ List.range' b M.length⟩ := weakI_fam ρ (fun k hk => by cases hk) hn hs hE hM h1 h2 h3
theorem post_obj {TT : TTab} {fn : Func} {res av : AV} {objs : List (Nat × AObj)} {e : Exit} {σ : AS} {rs : List ResultVar} (he : e = .normal ∨ e = .ret) (hr : fn.results.toList = rs) (h1 : retA TT σ rs = some av) (ρ : Nat → Nat) (h2 : res.ren ρ = av)
    (h3 : ∀ k ob, lk objs k = some ob → lk σ.objs (ρ k) = some ⟨ob.t, ob.sz, renLL ρ ob.xs⟩) (h4 : ∀ k ob k' ob', lk objs k = some ob → lk objs k' = some ob' → ρ k = ρ k' → k = k') : PostO TT fn res objs e σ := ⟨he, av, by rw [hr]; exact h1, ρ, h2, h3, h4⟩
theorem renLL_append (ρ : Nat → Nat) : ∀ xs ys : List (List AV), renLL ρ (xs ++ ys) = renLL ρ xs ++ renLL ρ ys
  | [], ys => by simp [renLL]
  | x :: xs, ys => by simp only [List.cons_append, renLL, renLL_append ρ xs ys]
def objT (D : List (List Int)) : List (Nat × AObj) := (0, ⟨25, 1, refsI 1 D⟩) :: fam 1 D
def idsT (D : List (List Int)) : List Nat := 0 :: List.range' 1 D.length
theorem within_T {res : AV} (D : List (List Int)) (h : ∀ k ∈ res.ids, k = 0) : Within res (objT D) (idsT D) := by
  refine ⟨fun k hk => by rw [h k hk]; exact List.mem_cons_self, fun k ob hk => ?_⟩
  unfold objT at hk
  simp only [lk] at hk
  split at hk
  · rename_i e; cases hk; subst e
    refine ⟨List.mem_cons_self, fun q hq => ?_⟩
    have := ids_refsI 1 D hq
    exact List.mem_cons_of_mem _ (List.mem_range'_1.2 ⟨by omega, by omega⟩)
  · rw [lk_famI] at hk
    split at hk
    · rename_i hc; cases hk
      refine ⟨List.mem_cons_of_mem _ (List.mem_range'_1.2 ⟨by omega, by omega⟩), fun q hq => ?_⟩
      rw [show idsLL ((D.getD (k - 1) []).map fun x => [AV.v (.int .i64 x)]) = [] from ids_ints _] at hq; cases hq
    · cases hk
def resT (N : Int) (D : List (List Int)) : AV := .tup [.agg [.v (.int .i64 N), .ref 0 0 D.length], .v (.int .i64 0)]
end Go.Proofs.Ythdjgcjpolpgdaa
