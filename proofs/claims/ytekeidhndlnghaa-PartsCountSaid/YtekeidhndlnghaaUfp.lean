/- Arrays whose cells are given by a function; the union-find array of parts.Split; plain lemmas; no condition. -/
import Derived.Test.YtekeidhndlnghaaAmB
namespace Go.Proofs.Ytekeidhndlnghaa
set_option linter.unusedVariables false
set_option linter.unusedSimpArgs false
set_option linter.unusedSectionVars false
open Go.RowKit
def fnRow (n : Nat) (f : Nat → AV) : List AV := (List.range n).map f
@[simp ↓ high] theorem d_len_fn (n : Nat) (f : Nat → AV) : (fnRow n f).length = n := by simp [fnRow]
theorem fn_getD {n j : Nat} (f : Nat → AV) (h : j < n) : (fnRow n f).getD j .any = f j := by simp [fnRow, List.getD, h]
theorem fn_ext {n : Nat} {r : List AV} {f : Nat → AV} (hl : r.length = n) (h : ∀ i, i < n → r.getD i .any = f i) : r = fnRow n f := by
  refine List.ext_getElem (by simp [fnRow, hl]) fun i h1 h2 => ?_
  have := h i (by omega)
  simpa [List.getD, h1, fnRow] using this
theorem fn_spl {n j : Nat} {f : Nat → AV} (v : AV) (h : j < n) : spl (fnRow n f) j [v] = fnRow n (fun i => if i = j then v else f i) := by
  refine fn_ext (by rw [spl_len (by rw [d_len_fn]; simp; omega), d_len_fn]) fun i hi => ?_
  rw [spl_getD (by rw [d_len_fn]; simp; omega)]
  by_cases e : i = j
  · subst e; rw [if_pos (by simp), if_pos rfl]; simp
  · rw [if_neg (by simp; omega), if_neg e, fn_getD f hi]
theorem wr_fn {n j : Nat} {f : Nat → AV} (v : AV) (h : j < n) : wr (fnRow n f) j [v] = fnRow n (fun i => if i = j then v else f i) := by
  rw [wr_spl (by rw [d_len_fn]; simp; omega), fn_spl v h]
theorem ld_fn {ti : TI} {n j : Nat} {f : Nat → AV} (hg : ti.agg = false) (h : j < n) : ldA ti ((fnRow n f).drop j) = f j := by
  unfold ldA
  rw [hg, if_neg (by simp)]
  have := fn_getD f h
  simpa [List.getD, List.getElem?_drop] using this
theorem idsL_fn {n : Nat} {f : Nat → AV} (h : ∀ i, (f i).ids = []) : idsL (fnRow n f) = [] := by
  unfold fnRow
  generalize List.range n = l
  induction l with
  | nil => rfl
  | cons a l ih => simp [idsL, h a, ih]
theorem renL_fn {n : Nat} {f : Nat → AV} (ρ : Nat → Nat) (h : ∀ i, (f i).ids = []) : renL ρ (fnRow n f) = fnRow n f := renL_pure ρ _ (idsL_fn h)
structure Uf (u : List Nat) (r : Nat → Nat) : Prop where
  len : u.length = 129
  root : ∀ v, v < 129 → u.getD v 0 = 0 → r v = v
  up : ∀ v, v < 129 → u.getD v 0 ≠ 0 → u.getD v 0 < v ∧ r (u.getD v 0) = r v

theorem Uf.le {u : List Nat} {r : Nat → Nat} (h : Uf u r) : ∀ v, v < 129 → r v ≤ v := by
  intro v
  induction v using Nat.strongRecOn with
  | _ v ih =>
    intro hv
    by_cases h0 : u.getD v 0 = 0
    · rw [h.root v hv h0]; exact Nat.le_refl _
    · obtain ⟨h1, h2⟩ := h.up v hv h0
      rw [← h2]
      exact Nat.le_trans (ih _ h1 (by omega)) (by omega)
theorem Uf.idem {u : List Nat} {r : Nat → Nat} (h : Uf u r) : ∀ v, v < 129 → u.getD (r v) 0 = 0 ∧ r (r v) = r v := by
  intro v
  induction v using Nat.strongRecOn with
  | _ v ih =>
    intro hv
    by_cases h0 : u.getD v 0 = 0
    · have e := h.root v hv h0
      rw [e]; exact ⟨h0, e⟩
    · obtain ⟨h1, h2⟩ := h.up v hv h0
      rw [← h2]
      exact ih _ h1 (by omega)
theorem Uf.pos {u : List Nat} {r : Nat → Nat} (h : Uf u r) : ∀ v, 1 ≤ v → v < 129 → 1 ≤ r v := by
  intro v
  induction v using Nat.strongRecOn with
  | _ v ih =>
    intro h1 hv
    by_cases h0 : u.getD v 0 = 0
    · rw [h.root v hv h0]; exact h1
    · obtain ⟨h2, h3⟩ := h.up v hv h0
      rw [← h3]
      exact ih _ h2 (by omega) (by omega)
theorem getD_set_nat (u : List Nat) (i j x : Nat) (hi : i < u.length) : (u.set i x).getD j 0 = if i = j then x else u.getD j 0 := by
  simp only [List.getD, List.getElem?_set]
  by_cases h : i = j
  · subst h; simp [hi]
  · simp [h]
theorem Uf.short {u : List Nat} {r : Nat → Nat} (h : Uf u r) {v : Nat} (hv : v < 129) (h0 : u.getD v 0 ≠ 0) (h1 : 1 ≤ u.getD v 0) : Uf (u.set v (r v)) r := by
  have hl := h.len
  obtain ⟨h2, h3⟩ := h.up v hv h0
  have hlt : r v < v := by rw [← h3]; have := h.le _ (show u.getD v 0 < 129 by omega); omega
  have hp : 1 ≤ r v := by rw [← h3]; exact h.pos _ h1 (by omega)
  refine ⟨by simpa using hl, fun j hj e => ?_, fun j hj e => ?_⟩
  · rw [getD_set_nat _ _ _ _ (by omega)] at e
    split at e
    · omega
    · exact h.root j hj e
  · rw [getD_set_nat _ _ _ _ (by omega)] at e ⊢
    split at e
    · rename_i hvj
      subst hvj
      rw [if_pos rfl]
      exact ⟨hlt, (h.idem v hv).2⟩
    · rename_i hvj
      rw [if_neg hvj]
      exact h.up j hj e
def joinR (r : Nat → Nat) (x y : Nat) : Nat → Nat := fun v => if r v = max x y then min x y else r v
theorem Uf.join {u : List Nat} {r : Nat → Nat} (h : Uf u r) {x y : Nat} (hx : x < 129) (hy : y < 129) (hx1 : 1 ≤ x) (hy1 : 1 ≤ y) (hrx : r x = x) (hry : r y = y) (hne : x ≠ y) : Uf (u.set (max x y) (min x y)) (joinR r x y) := by
  have hl := h.len
  have hmax : r (max x y) = max x y := by rcases Nat.le_total x y with h1 | h1 <;> simp [Nat.max_def, h1] <;> (try split) <;> simp_all <;> omega
  have hmin : r (min x y) = min x y := by rcases Nat.le_total x y with h1 | h1 <;> simp [Nat.min_def, h1] <;> (try split) <;> simp_all <;> omega
  have hlt : min x y < max x y := by omega
  refine ⟨by simpa using hl, fun j hj e => ?_, fun j hj e => ?_⟩
  · rw [getD_set_nat _ _ _ _ (by omega)] at e
    split at e
    · omega
    · rename_i hvj
      have := h.root j hj e
      unfold joinR
      rw [this, if_neg (fun e => hvj e.symm)]
  · rw [getD_set_nat _ _ _ _ (by omega)] at e ⊢
    split at e
    · rename_i hvj
      rw [if_pos hvj]
      subst hvj
      refine ⟨hlt, ?_⟩
      unfold joinR
      rw [hmax, hmin, if_pos rfl, if_neg (by omega)]
    · rename_i hvj
      rw [if_neg hvj]
      obtain ⟨h1, h2⟩ := h.up j hj e
      refine ⟨h1, ?_⟩
      unfold joinR
      rw [h2]
theorem getD_repl (n v : Nat) : (List.replicate n 0).getD v 0 = 0 := by
  simp only [List.getD, List.getElem?_replicate]
  split <;> rfl
theorem Uf.start : Uf (List.replicate 129 0) id := ⟨List.length_replicate, fun _ _ _ => rfl, fun v _ h => (h (getD_repl 129 v)).elim⟩

theorem Uf.set {u : List Nat} {r : Nat → Nat} (h : Uf u r) {v : Nat} (hv : v < 129) (h1 : 1 ≤ r v) (hlt : r v < v) (hi : r (r v) = r v) : Uf (u.set v (r v)) r := by
  have hl := h.len
  refine ⟨by simpa using hl, fun j hj e => ?_, fun j hj e => ?_⟩
  · rw [getD_set_nat _ _ _ _ (by omega)] at e
    split at e
    · omega
    · exact h.root j hj e
  · rw [getD_set_nat _ _ _ _ (by omega)] at e ⊢
    split at e
    · rename_i hvj
      subst hvj
      rw [if_pos rfl]
      exact ⟨hlt, hi⟩
    · rename_i hvj
      rw [if_neg hvj]
      exact h.up j hj e
def topR (r : Nat → Nat) : Nat → List Nat → Nat → List Nat
  | 0, u, _ => u
  | n + 1, u, v => if u.getD v 0 = 0 then u else (topR r n u (u.getD v 0)).set v (r v)
theorem topR_uf {r : Nat → Nat} : ∀ (n : Nat) {u : List Nat} {v : Nat}, Uf u r → 1 ≤ v → v < 129 → Uf (topR r n u v) r
  | 0, u, v, h, _, _ => h
  | n + 1, u, v, h, h1, hv => by
    unfold topR
    split
    · exact h
    · rename_i h0
      obtain ⟨h2, h3⟩ := h.up v hv h0
      have hr := h.le (u.getD v 0) (by omega)
      refine (topR_uf n h (by omega) (by omega)).set hv (h.pos v h1 hv) (by rw [← h3]; omega) (h.idem v hv).2
def uRow (u : List Nat) : List AV := fnRow 129 fun i => .v (.int .i64 (u.getD i 0 : Int))
@[simp ↓ high] theorem d_u_len (u : List Nat) : (uRow u).length = 129 := d_len_fn _ _
@[simp ↓ high] theorem d_u_ids (u : List Nat) : idsL (uRow u) = [] := idsL_fn fun _ => rfl
@[simp ↓ high] theorem d_u_ren (ρ : Nat → Nat) (u : List Nat) : renL ρ (uRow u) = uRow u := renL_fn ρ fun _ => rfl
theorem u_spl {u : List Nat} (hl : u.length = 129) {v x : Nat} (hv : v < 129) : spl (uRow u) v [.v (.int .i64 (x : Int))] = uRow (u.set v x) := by
  unfold uRow
  rw [fn_spl _ hv]
  congr 1
  funext i
  by_cases e : i = v
  · subst e; rw [if_pos rfl]; simp [List.getD, hl, hv]
  · rw [if_neg e]; simp [List.getD, List.getElem?_set, Ne.symm e]
theorem u_wr {u : List Nat} (hl : u.length = 129) {v x : Nat} (hv : v < 129) : wr (uRow u) v [.v (.int .i64 (x : Int))] = uRow (u.set v x) := by
  rw [wr_spl (by rw [d_u_len]; simp; omega), u_spl hl hv]
theorem u_ld {ti : TI} {u : List Nat} {v : Nat} (hg : ti.agg = false) (hv : v < 129) : ldA ti (List.drop v (uRow u)) = .v (.int .i64 (u.getD v 0 : Int)) := ld_fn hg hv
theorem u_ld0 {u : List Nat} {v : Nat} (hv : v < 129) : (List.drop v (uRow u)).getD 0 .any = .v (.int .i64 (u.getD v 0 : Int)) := by
  have := u_ld (ti := TI.mk 1 false [] (.plain .bool) none) (u := u) rfl hv
  simpa only [ldA, Bool.false_eq_true, if_false] using this
theorem uRow_start : uRow (List.replicate 129 0) = List.replicate 129 (.v (.int .i64 0)) := by kernel_rfl
end Go.Proofs.Ytekeidhndlnghaa
