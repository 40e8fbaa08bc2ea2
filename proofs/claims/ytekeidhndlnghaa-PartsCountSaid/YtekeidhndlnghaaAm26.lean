/- An abstract machine for the text, part twenty-six: families of objects given by a function; maps whose keys are numbers; plain lemmas over any program; no condition. -/
import Derived.Test.YtekeidhndlnghaaAm25
namespace Go.Proofs.Ytekeidhndlnghaa
set_option linter.unusedVariables false
set_option linter.unusedSimpArgs false
set_option linter.unusedSectionVars false
open Go.RowKit
def famF (b n : Nat) (f : Nat → AObj) : List (Nat × AObj) := (List.range n).map fun j => (b + j, f j)
theorem lk_famF (b n : Nat) (f : Nat → AObj) (k : Nat) : lk (famF b n f) k = if b ≤ k ∧ k < b + n then some (f (k - b)) else none := by
  unfold famF
  induction n with
  | zero => rw [if_neg (by omega)]; rfl
  | succ n ih =>
    have hap : ∀ (l m : List (Nat × AObj)) (k : Nat), lk (l ++ m) k = match lk l k with | some x => some x | none => lk m k := by
      intro l m k
      induction l with
      | nil => simp [lk]
      | cons p l ih =>
        obtain ⟨e, x⟩ := p
        simp only [List.cons_append, lk]
        split
        · rfl
        · exact ih
    rw [List.range_succ, List.map_append, hap, ih]
    by_cases h : b ≤ k ∧ k < b + n
    · rw [if_pos h, if_pos (by omega)]
    · rw [if_neg h]
      simp only [List.map_cons, List.map_nil, lk]
      by_cases e : b + n = k
      · subst e; rw [if_pos rfl, if_pos (by omega)]; congr 2; omega
      · rw [if_neg e, if_neg (by omega)]
theorem lk_famF_at {b n : Nat} {f : Nat → AObj} {j : Nat} (h : j < n) : lk (famF b n f) (b + j) = some (f j) := by
  rw [lk_famF, if_pos (by omega)]; congr 2; omega
theorem famF_succ (b n : Nat) (f : Nat → AObj) : famF b (n + 1) f = famF b n f ++ [(b + n, f n)] := by unfold famF; rw [List.range_succ, List.map_append]; rfl
theorem lk_app2 : ∀ (l m : List (Nat × AObj)) (k : Nat), lk (l ++ m) k = match lk l k with | some x => some x | none => lk m k
  | [], m, k => by simp [lk]
  | (j, x) :: l, m, k => by
    simp only [List.cons_append, lk]
    split
    · rfl
    · exact lk_app2 l m k
theorem lk_mem2 : ∀ {l : List (Nat × AObj)} {k : Nat} {ob : AObj}, lk l k = some ob → (k, ob) ∈ l
  | (e, u) :: r, k, ob, h => by
    simp only [lk] at h
    split at h
    · rename_i he; cases h; subst he; exact List.mem_cons_self
    · exact List.mem_cons_of_mem _ (lk_mem2 h)
theorem weak_fam2 {σ : AS} {n b1 b2 n1 n2 : Nat} {f1 f2 : Nat → AObj} {slots : List (Nat × AV)} {E : List (Nat × AObj)} {I : List Nat} (ρ : Nat → Nat) (hn : n = σ.n) (hs : ∀ p ∈ slots, lk σ.slots p.1 = some (p.2.ren ρ) ∧ ∀ k ∈ p.2.ids, k ∈ I)
    (hE : ∀ p ∈ E, lk σ.objs (ρ p.1) = some ⟨p.2.t, p.2.sz, renLL ρ p.2.xs⟩ ∧ p.1 ∈ I ∧ ∀ q ∈ idsLL p.2.xs, q ∈ I)
    (h1 : ∀ j, j < n1 → lk σ.objs (ρ (b1 + j)) = some ⟨(f1 j).t, (f1 j).sz, renLL ρ (f1 j).xs⟩ ∧ b1 + j ∈ I ∧ ∀ q ∈ idsLL (f1 j).xs, q ∈ I)
    (h2 : ∀ j, j < n2 → lk σ.objs (ρ (b2 + j)) = some ⟨(f2 j).t, (f2 j).sz, renLL ρ (f2 j).xs⟩ ∧ b2 + j ∈ I ∧ ∀ q ∈ idsLL (f2 j).xs, q ∈ I)
    (hinj : ∀ k k', (k ∈ E.map (·.1) ∨ (b1 ≤ k ∧ k < b1 + n1) ∨ (b2 ≤ k ∧ k < b2 + n2)) → (k' ∈ E.map (·.1) ∨ (b1 ≤ k' ∧ k' < b1 + n1) ∨ (b2 ≤ k' ∧ k' < b2 + n2)) → ρ k = ρ k' → k = k') : Weak σ ⟨n, slots, E ++ (famF b1 n1 f1 ++ famF b2 n2 f2), I⟩ := by
  have key : ∀ k ob, lk (E ++ (famF b1 n1 f1 ++ famF b2 n2 f2)) k = some ob → (k, ob) ∈ E ∨ (∃ j, j < n1 ∧ k = b1 + j ∧ ob = f1 j) ∨ (∃ j, j < n2 ∧ k = b2 + j ∧ ob = f2 j) := fun k ob h => by
    rw [lk_app2] at h
    cases he : lk E k with
    | some x => rw [he] at h; cases h; exact .inl (lk_mem2 he)
    | none =>
      rw [he] at h
      simp only [lk_app2, lk_famF] at h
      right
      split at h
      · rename_i x hx
        split at hx
        · rename_i hc; cases hx; cases h; exact .inl ⟨k - b1, by omega, by omega, rfl⟩
        · cases hx
      · split at h
        · rename_i hc; cases h; exact .inr ⟨k - b2, by omega, by omega, rfl⟩
        · cases h
  have dom : ∀ k ob, lk (E ++ (famF b1 n1 f1 ++ famF b2 n2 f2)) k = some ob → (k ∈ E.map (·.1) ∨ (b1 ≤ k ∧ k < b1 + n1) ∨ (b2 ≤ k ∧ k < b2 + n2)) := fun k ob h => by
    rcases key k ob h with h | ⟨j, hj, rfl, _⟩ | ⟨j, hj, rfl, _⟩
    · exact .inl (List.mem_map.2 ⟨_, h, rfl⟩)
    · exact .inr (.inl ⟨by omega, by omega⟩)
    · exact .inr (.inr ⟨by omega, by omega⟩)
  refine ⟨hn, ρ, fun t av ht => ?_, fun k ob hk => ?_, fun k ob k' ob' hk hk' e => hinj k k' (dom k ob hk) (dom k' ob' hk') e, fun k hk => by cases hk⟩
  · have hm : ∀ {l : List (Nat × AV)}, lk l t = some av → (t, av) ∈ l := by
      intro l
      induction l with
      | nil => intro h; cases h
      | cons p l ih =>
        obtain ⟨e, x⟩ := p
        intro h
        simp only [lk] at h
        split at h
        · rename_i he; cases h; subst he; exact List.mem_cons_self
        · exact List.mem_cons_of_mem _ (ih h)
    exact hs _ (hm ht)
  · rcases key k ob hk with h | ⟨j, hj, rfl, rfl⟩ | ⟨j, hj, rfl, rfl⟩
    · exact hE _ h
    · exact h1 j hj
    · exact h2 j hj
def keyRows (P : List Nat) (f : Nat → AV) : List (List AV) := P.mapIdx (fun (j v : Nat) => [AV.v (.int .i64 (v : Int)), f j])
theorem keyRows_len (P : List Nat) (f : Nat → AV) : (keyRows P f).length = P.length := by simp [keyRows]
theorem keyRows_get {P : List Nat} {f : Nat → AV} {j : Nat} (h : j < P.length) : (keyRows P f).getD j [] = [.v (.int .i64 (P.getD j 0 : Int)), f j] := by simp [keyRows, List.getD, h]
theorem keyRows_snoc (P : List Nat) (f : Nat → AV) (v : Nat) : keyRows (P ++ [v]) f = keyRows P f ++ [[.v (.int .i64 (v : Int)), f P.length]] := by simp [keyRows, List.mapIdx_append]
theorem same_int (a b : Int) : Instr.sameNow (.int .i64) (.int .i64 a) (.int .i64 b) = some (a == b) := rfl
theorem findA_keys : ∀ (P : List Nat) (f : Nat → AV) (v i : Nat), findA (.int .i64) (.int .i64 (v : Int)) (keyRows P f) i = some (if v ∈ P then some (i + P.idxOf v) else none)
  | [], f, v, i => by simp [keyRows, findA]
  | w :: P, f, v, i => by
    have ih := findA_keys P (fun j => f (j + 1)) v (i + 1)
    have e : keyRows (w :: P) f = [.v (.int .i64 (w : Int)), f 0] :: keyRows P (fun j => f (j + 1)) := by simp [keyRows, List.mapIdx_cons]
    rw [e]
    simp only [findA, same_int]
    by_cases hvw : v = w
    · subst hvw
      simp
    · have h1 : ((v : Int) == (w : Int)) = false := by simp; omega
      rw [h1]
      simp only [ih, List.mem_cons, hvw, false_or]
      by_cases hm : v ∈ P
      · rw [if_pos hm, if_pos hm, List.idxOf_cons, show (w == v) = false from by simpa using (Ne.symm hvw)]; simp only [cond_false, Option.some.injEq]; omega
      · rw [if_neg hm, if_neg hm]
end Go.Proofs.Ytekeidhndlnghaa
