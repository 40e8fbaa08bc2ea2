/- Nets as arguments; no condition. -/
import Derived.Test.YtecdhmiamlgibaaDoorNt39
import Derived.Test.YtecdhmiamlgibaaDoorCvG
namespace Go.Proofs.YtecdhmiamlgibaaDoor
set_option linter.unusedVariables false
set_option linter.unusedSimpArgs false
set_option linter.unusedSectionVars false
open Go.RowKit
set_option maxRecDepth 100000
def ndsOf : List (List AV) → Option (List Nd)
  | [] => some []
  | [.v (.int .i64 k), .v (.int .i64 l), c] :: r => match toInts c, ndsOf r with
    | some x, some y => some ((k, l, x) :: y)
    | _, _ => none
  | _ :: _ => none
def toNds : AV → Option (List Nd)
  | .sl 3 ys => ndsOf ys
  | .v (.slice none 0 0) => some []
  | _ => none
@[simp] theorem ndsOf_map : ∀ l : List Nd, ndsOf (l.map fun x => [AV.v (.int .i64 x.1), .v (.int .i64 x.2.1), aInts x.2.2]) = some l
  | [] => rfl
  | (k, y, x) :: l => by simp [ndsOf, ndsOf_map l]
@[simp] theorem toNds_sl (l : List Nd) : toNds (.sl 3 (l.map fun x => [AV.v (.int .i64 x.1), .v (.int .i64 x.2.1), aInts x.2.2])) = some l := ndsOf_map l
@[simp] theorem toNds_aNds (l : List Nd) : toNds (aNds l) = some l := ndsOf_map l
@[simp] theorem toNds_nil : toNds (.v (.slice none 0 0)) = some [] := rfl
@[simp ↓ high] theorem d_ids_aNds (l : List Nd) : idsLL (l.map fun x => [AV.v (.int .i64 x.1), .v (.int .i64 x.2.1), aInts x.2.2]) = [] := by
  induction l with
  | nil => rfl
  | cons p r ih => simp [idsLL, idsL, AV.ids, ih]
@[simp ↓ high] theorem d_ren_aNds (ρ : Nat → Nat) (l : List Nd) : renLL ρ (l.map fun x => [AV.v (.int .i64 x.1), .v (.int .i64 x.2.1), aInts x.2.2]) = l.map fun x => [AV.v (.int .i64 x.1), .v (.int .i64 x.2.1), aInts x.2.2] := renLL_pure ρ _ (d_ids_aNds l)
@[simp] theorem nds_get {l : List Nd} {k : Nat} (h : k < l.length) : (l.map fun x => [AV.v (.int .i64 x.1), .v (.int .i64 x.2.1), aInts x.2.2]).getD k [] = [.v (.int .i64 (l.getD k nd0).1), .v (.int .i64 (l.getD k nd0).2.1), aInts (l.getD k nd0).2.2] := by
  simp [List.getD, h]
theorem ndsOf_rows : ∀ {ys : List (List AV)} {l : List Nd}, ndsOf ys = some l → ys.length = l.length ∧ ∀ i, i < l.length → ∃ c, ys.getD i [] = [.v (.int .i64 (l.getD i nd0).1), .v (.int .i64 (l.getD i nd0).2.1), c] ∧ toInts c = some (l.getD i nd0).2.2
  | [], l, h => by
    simp only [ndsOf, Option.some.injEq] at h
    subst h
    exact ⟨rfl, fun i hi => absurd hi (by simp)⟩
  | a :: r, l, h => by
    unfold ndsOf at h
    split at h
    · rename_i he; cases he
    · rename_i k y c r2 he
      cases he
      split at h
      · rename_i x l2 h1 h3
        cases h
        obtain ⟨g1, g2⟩ := ndsOf_rows h3
        refine ⟨by simp [g1], fun i hi => ?_⟩
        cases i with
        | zero => exact ⟨c, rfl, h1⟩
        | succ i =>
          have := g2 i (by simpa using hi)
          simpa using this
      · cases h
    · cases h
theorem cov_nds {a : AV} {l : List Nd} (h : toNds a = some l) : Cov a (aNds l) := fun S v hv => by
  unfold toNds at h
  split at h
  · rename_i ys
    obtain ⟨g1, g2⟩ := ndsOf_rows h
    cases hv with
    | sl _ _ b n c us hn hc hm h0 hz ha h3 h4 =>
      refine .sl 3 _ b n c us (by rw [hn, List.length_map, g1]) hc hm h0 (fun i hi => ?_) (fun hp => ?_) (fun i j hi hj => ?_) (fun i j hi hj => ?_)
      · rw [List.length_map] at hi; rw [nds_get hi]; rfl
      · rw [List.length_map] at hp
        obtain ⟨b2, base, e1, e2⟩ := ha (by omega)
        exact ⟨b2, base, e1, fun i j hi hj => e2 i j (by rw [List.length_map] at hi; omega) hj⟩
      · rw [List.length_map] at hi
        exact h3 i j (by omega) hj
      · rw [List.length_map] at hi
        obtain ⟨c, e1, e2⟩ := g2 i hi
        have h5 := h4 i j (by omega) hj
        rw [e1] at h5
        rw [nds_get hi]
        match j, hj with
        | 0, hj => exact h5
        | 1, hj => exact h5
        | 2, hj => exact cov_ints e2 S _ h5
  · cases h; rw [hv.v_eq]; exact rv_nil 3
  · cases h
theorem cov_nd {a : AV} {xs : List Int} (k l : Int) (h : toInts a = some xs) : Cov (.agg [.v (.int .i64 k), .v (.int .i64 l), a]) (.agg [.v (.int .i64 k), .v (.int .i64 l), aInts xs]) := fun S v hv => by
  cases hv with
  | agg _ us hl g1 g2 =>
    refine .agg _ us hl g1 fun i hi => ?_
    match i, hi with
    | 0, hi => exact g2 0 (by simp)
    | 1, hi => exact g2 1 (by simp)
    | 2, hi => exact cov_ints h S _ (g2 2 (by simp))
theorem okNs_len {ns : List Nd} (h : okNs ns = true) : ns.length ≤ 200 := by
  unfold okNs at h
  rw [Bool.and_eq_true, decide_eq_true_eq] at h
  exact h.1
theorem okNs_at {ns : List Nd} (h : okNs ns = true) {i : Nat} (hi : i < ns.length) : okI (ns.getD i nd0).1 = true ∧ okI (ns.getD i nd0).2.1 = true ∧ okInts (ns.getD i nd0).2.2 = true ∧ (ns.getD i nd0).2.2.length ≤ 20 := by
  unfold okNs at h
  rw [Bool.and_eq_true] at h
  have := List.all_eq_true.1 h.2 (ns.getD i nd0) (by simp [List.getD, hi])
  unfold okNd at this
  simp only [Bool.and_eq_true, decide_eq_true_eq] at this
  exact ⟨this.1.1.1, this.1.1.2, this.1.2, this.2⟩
end Go.Proofs.YtecdhmiamlgibaaDoor
