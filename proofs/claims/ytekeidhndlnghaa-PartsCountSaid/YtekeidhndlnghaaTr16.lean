/- Further contracts of the document's chapter 16 as rows of the table; no condition. -/
import Derived.Test.YtekeidhndlnghaaGrowW
import Derived.Test.YtekeidhndlnghaaAl16
namespace Go.Proofs.Ytekeidhndlnghaa
set_option linter.unusedVariables false
set_option linter.unusedSimpArgs false
set_option linter.unusedSectionVars false
open Go.RowKit
set_option maxRecDepth 100000
theorem rv_part {G : Gh} {S : BitVec 128} {I : List Int} {v : Value} (h : Rv G (aInts I) v) (h1 : v.oneCell' = true) : Rv G (aPart S I) (.agg #[WV (lo S), WV (hi S), v]) := by
  refine Rv.agg' rfl (fun x hx => ?_) fun i hi => ?_
  · simp at hx
    rcases hx with rfl | rfl | rfl
    · rfl
    · rfl
    · exact h1
  · match i, hi with
    | 0, _ => exact .v _
    | 1, _ => exact .v _
    | 2, _ => exact h
theorem ints_one {F : Foot} {w : World} {v : Value} {xs : List Int} (h : Ints F w v xs) : v.oneCell' = true := by
  obtain ⟨a, n, c, rfl, _⟩ := h.open
  rfl
def posL (xs : List Int) : Bool := xs.all fun y => decide (1 ≤ litVar y)
def goodB (N : Int) (L : List (List Int)) : Bool := L.all fun c => c.all fun l => litOk l N
theorem posL_iff {xs : List Int} : posL xs = true ↔ ∀ y ∈ xs, 1 ≤ litVar y := by simp [posL]
theorem goodB_iff {N : Int} {L : List (List Int)} : goodB N L = true ↔ ∀ c ∈ L, ∀ l ∈ c, litOk l N = true := by simp [goodB]
@[simp] def g_r6Grow : List AV → Option (AV × Bool)
  | [.agg [.v (.int .i64 N), a0], a1, .v (.int .i64 f)] => (match toRows a0 with | some L => (match toInts a1 with | some ts => if (okI N && okRows L && okInts ts && okI f && (goodB N L && decide (0 ≤ f) && decide (f < L.length))) = true then some (aPart (growSet L ts (litVars (restL (L.getD f.toNat []) ts))) (growIdx L ts f.toNat (growSet L ts (litVars (restL (L.getD f.toNat []) ts)))), true) else none | none => none) | none => none)
  | _ => none
theorem e_r6Grow : EntOk Try.prog 36 g_r6Grow := ent_fresh (by kernel_rfl) fun args r fr h => by
  unfold g_r6Grow at h
  split at h
  · rename_i N a0 a1 f
    split at h
    · rename_i L t0
      split at h
      · rename_i ts t1
        split at h
        · rename_i hc
          simp only [Bool.and_eq_true] at hc
          obtain ⟨⟨⟨⟨m0, o0⟩, o1⟩, o2⟩, hk⟩ := hc
          cases h
          exact fun S w vs hS hn hv => by
            obtain ⟨u0, u1, u2, rfl, r0, r1, r2⟩ := args3 hn hv
            obtain ⟨z0, q0, p0⟩ := th_inv r0
            subst q0
            have q0 := rows_of hS p0 t0 o0
            have q1 := ints_of hS r1 t1 o1
            have q2 := r2.v_eq
            subst q2
            simp only [Bool.and_eq_true, decide_eq_true_eq] at hk
            obtain ⟨⟨hal, hf0⟩, hf1⟩ := hk
            obtain ⟨fn, rfl⟩ : ∃ n : Nat, f = n := ⟨f.toNat, by omega⟩
            exact (ref16grow_c N fn q0 q1 (goodB_iff.1 hal) (by omega)).mono fun e w2 h2 => by obtain ⟨v2, rfl, h3, h4⟩ := h2; exact ⟨_, rfl, h4, rv_part (rv_ints h3 fun _ _ _ h => fresh_new h) (ints_one h3)⟩
        · cases h
      · cases h
    · cases h
  · cases h

@[simp] def g_r6Vars : List AV → Option (AV × Bool)
  | [a0] => (match toInts a0 with | some xs => if (okInts xs && posL xs) = true then some (aSet (litVars xs), true) else none | none => none)
  | _ => none
theorem e_r6Vars : EntOk Try.prog 35 g_r6Vars := ent_fresh (by kernel_rfl) fun args r fr h => by
  unfold g_r6Vars at h
  split at h
  · rename_i a0
    split at h
    · rename_i xs t0
      split at h
      · rename_i hc
        simp only [Bool.and_eq_true] at hc
        obtain ⟨o0, hk⟩ := hc
        cases h
        exact fresh_gives (fun G => set_rv _) fun S w vs hS hn hv => by
          obtain ⟨u0, rfl, r0⟩ := args1 hn hv
          have q0 := ints_of hS r0 t0 o0
          exact ref16vars_c q0 (posL_iff.1 hk)
      · cases h
    · cases h
  · cases h

@[simp] def g_r6Join : List AV → Option (AV × Bool)
  | [a0, a1] => (match toSet a0 with | some s => (match toSet a1 with | some t => if (true) = true then some (aSet (s ||| t), true) else none | none => none) | none => none)
  | _ => none
theorem e_r6Join : EntOk Try.prog 37 g_r6Join := ent_fresh (by kernel_rfl) fun args r fr h => by
  unfold g_r6Join at h
  split at h
  · rename_i a0 a1
    split at h
    · rename_i s t0
      split at h
      · rename_i t t1
        split at h
        · rename_i hc
          cases h
          exact fresh_gives (fun G => set_rv _) fun S w vs hS hn hv => by
            obtain ⟨u0, u1, rfl, r0, r1⟩ := args2 hn hv
            have q0 := toSet_rv t0 r0
            subst q0
            have q1 := toSet_rv t1 r1
            subst q1
            exact ref16join_c s t w
        · cases h
      · cases h
    · cases h
  · cases h

@[simp] def g_r6Least : List AV → Option (AV × Bool)
  | [a0] => (match toSet a0 with | some s => if (true) = true then some (.v (.int .i64 (leastV s)), true) else none | none => none)
  | _ => none
theorem e_r6Least : EntOk Try.prog 38 g_r6Least := ent_fresh (by kernel_rfl) fun args r fr h => by
  unfold g_r6Least at h
  split at h
  · rename_i a0
    split at h
    · rename_i s t0
      split at h
      · rename_i hc
        cases h
        exact fresh_gives (fun G => .v _) fun S w vs hS hn hv => by
          obtain ⟨u0, rfl, r0⟩ := args1 hn hv
          have q0 := toSet_rv t0 r0
          subst q0
          exact ref16least_c s w
      · cases h
    · cases h
  · cases h

@[simp] def g_r4In : List AV → Option (AV × Bool)
  | [a0, .v (.int .i64 v)] => (match toSet a0 with | some s => if (okI v && (decide (1 ≤ v) && decide (v ≤ 128))) = true then some (.v (.bool (sHas s v)), true) else none | none => none)
  | _ => none
theorem e_r4In : EntOk Try.prog 20 g_r4In := ent_fresh (by kernel_rfl) fun args r fr h => by
  unfold g_r4In at h
  split at h
  · rename_i a0 v
    split at h
    · rename_i s t0
      split at h
      · rename_i hc
        simp only [Bool.and_eq_true] at hc
        obtain ⟨o1, hk⟩ := hc
        cases h
        exact fresh_gives (fun G => .v _) fun S w vs hS hn hv => by
          obtain ⟨u0, u1, rfl, r0, r1⟩ := args2 hn hv
          have q0 := toSet_rv t0 r0
          subst q0
          have q1 := r1.v_eq
          subst q1
          exact ref04In_c s v w (by simp at hk; exact hk.1) (by simp at hk; exact hk.2)
      · cases h
    · cases h
  · cases h

@[simp] def g_r6With : List AV → Option (AV × Bool)
  | [a0, .v (.int .i64 v)] => (match toSet a0 with | some s => if (okI v && (decide (1 ≤ v) && decide (v ≤ 128))) = true then some (aSet (sWith s v), true) else none | none => none)
  | _ => none
theorem e_r6With : EntOk Try.prog 39 g_r6With := ent_fresh (by kernel_rfl) fun args r fr h => by
  unfold g_r6With at h
  split at h
  · rename_i a0 v
    split at h
    · rename_i s t0
      split at h
      · rename_i hc
        simp only [Bool.and_eq_true] at hc
        obtain ⟨o1, hk⟩ := hc
        cases h
        exact fresh_gives (fun G => set_rv _) fun S w vs hS hn hv => by
          obtain ⟨u0, u1, rfl, r0, r1⟩ := args2 hn hv
          have q0 := toSet_rv t0 r0
          subst q0
          have q1 := r1.v_eq
          subst q1
          exact ref16with_c s v w (by simp at hk; exact hk.1) (by simp at hk; exact hk.2)
      · cases h
    · cases h
  · cases h

end Go.Proofs.Ytekeidhndlnghaa
