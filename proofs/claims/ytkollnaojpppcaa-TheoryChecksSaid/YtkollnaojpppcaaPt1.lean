/- The table of proved functions, first part: old contracts; no condition. -/
import Derived.Test.YtkollnaojpppcaaCv
import Derived.Test.YtkollnaojpppcaaTerm
import Derived.Test.YtkollnaojpppcaaRef05b
namespace Go.Proofs.Ytkollnaojpppcaa
open Go.RowKit

/-- The words of a set. -/
def toSet : AV → Option (BitVec 128)
  | .agg [.v (.int .u64 a), .v (.int .u64 b)] => if 0 ≤ a ∧ a < 18446744073709551616 ∧ 0 ≤ b ∧ b < 18446744073709551616 then some (BitVec.ofNat 64 b.toNat ++ BitVec.ofNat 64 a.toNat) else none
  | _ => none
theorem append_words (s : BitVec 128) : hi s ++ lo s = s := by
  apply BitVec.eq_of_getLsbD_eq
  intro k hk
  rw [BitVec.getLsbD_append]
  by_cases h : k < 64
  · simp only [h, if_true, lo_bit, decide_true, Bool.true_and]
  · simp only [h, decide_false, Bool.false_eq_true, if_false, hi_bit]
    simp [show k - 64 < 64 by omega, show 64 + (k - 64) = k by omega]
theorem ofNat_cast (x : BitVec 64) : BitVec.ofNat 64 ((x.toNat : Int)).toNat = x := by simp
@[simp] theorem toSet_words (s : BitVec 128) : toSet (.agg [.v (.int .u64 ((lo s).toNat : Int)), .v (.int .u64 ((hi s).toNat : Int))]) = some s := by
  have h1 := (lo s).isLt
  have h2 := (hi s).isLt
  show (if 0 ≤ ((lo s).toNat : Int) ∧ ((lo s).toNat : Int) < 18446744073709551616 ∧ 0 ≤ ((hi s).toNat : Int) ∧ ((hi s).toNat : Int) < 18446744073709551616 then some (BitVec.ofNat 64 ((hi s).toNat : Int).toNat ++ BitVec.ofNat 64 ((lo s).toNat : Int).toNat) else none) = some s
  rw [if_pos (by omega), ofNat_cast, ofNat_cast, append_words]
@[simp] theorem toSet_set (s : BitVec 128) : toSet (aSet s) = some s := toSet_words s
theorem lo_append (x y : BitVec 64) : lo (y ++ x) = x := by
  apply BitVec.eq_of_getLsbD_eq
  intro k hk
  rw [lo_bit, BitVec.getLsbD_append]
  simp [hk]
theorem hi_append (x y : BitVec 64) : hi (y ++ x) = y := by
  apply BitVec.eq_of_getLsbD_eq
  intro k hk
  rw [hi_bit, BitVec.getLsbD_append]
  simp [hk, show ¬ (64 + k < 64) by omega]
theorem toSet_inv {av : AV} {s : BitVec 128} (h : toSet av = some s) : av = aSet s := by
  unfold toSet at h
  split at h
  · split at h
    · rename_i a b hc
      cases h
      unfold aSet WV
      rw [lo_append, hi_append]
      simp only [BitVec.toNat_ofNat]
      rw [Nat.mod_eq_of_lt (by omega), Nat.mod_eq_of_lt (by omega), Int.toNat_of_nonneg hc.1, Int.toNat_of_nonneg hc.2.2.1]
    · cases h
  · cases h
theorem toSet_rv {G : Gh} {av : AV} {s : BitVec 128} {v : Value} (h : toSet av = some s) (hv : Rv G av v) : v = SV s := rv_set (toSet_inv h ▸ hv)
theorem th_inv {G : Gh} {N : Int} {a : AV} {v : Value} (h : Rv G (.agg [.v (.int .i64 N), a]) v) : ∃ u, v = .agg #[.int .i64 N, u] ∧ Rv G a u := by
  obtain ⟨arr, rfl, hl, _, hcs⟩ := h.agg_inv
  have h0 := (hcs 0 (by simp)).v_eq
  have h1 := hcs 1 (by simp)
  obtain ⟨l⟩ := arr
  match l, hl with
  | [x, y], _ => simp at h0 h1; subst h0; exact ⟨y, rfl, h1⟩
@[simp] theorem okI_lit (n : Nat) : okI (@OfNat.ofNat Int n instOfNat) = decide (n ≤ 9223372036854775807) := by
  have : (@OfNat.ofNat Int n instOfNat) = (n : Int) := rfl
  rw [this]
  simp only [okI, Bool.and_eq_decide, decide_eq_decide, decide_eq_true_eq]
  omega
@[simp] theorem okI_nlit (n : Nat) : okI (-(@OfNat.ofNat Int n instOfNat)) = decide (n ≤ 9223372036854775808) := by
  have : (@OfNat.ofNat Int n instOfNat) = (n : Int) := rfl
  rw [this]
  simp only [okI, Bool.and_eq_decide, decide_eq_decide, decide_eq_true_eq]
  omega
@[simp] theorem okInts_nil : okInts [] = true := rfl
@[simp] theorem okRows_nil : okRows [] = true := rfl
/-- Literals of small range. -/
def okL (xs : List Int) : Bool := xs.all fun y => decide (-128 ≤ y) && decide (y ≤ 128)
theorem okL_iff {xs : List Int} : okL xs = true ↔ ∀ y ∈ xs, -128 ≤ y ∧ y ≤ 128 := by simp [okL]

/-! ### Arguments in other words -/
def Cov (a b : AV) : Prop := ∀ (S : Nat → Nat → Option Value) (v : Value), Rv (G0 S) a v → Rv (G0 S) b v
theorem Cov.refl (a : AV) : Cov a a := fun _ _ h => h
theorem toIntsL_inv : ∀ {ys : List (List AV)} {xs : List Int}, toIntsL ys = some xs → ys = xs.map fun x => [.v (.int .i64 x)]
  | [], xs, h => by simp only [toIntsL, Option.some.injEq] at h; subst h; rfl
  | r :: rs, xs, h => by
    simp only [toIntsL] at h
    split at h
    · rename_i x l h1 h2
      cases h
      unfold rowI at h1
      split at h1
      · cases h1; rw [List.map_cons, ← toIntsL_inv h2]
      · cases h1
    · cases h
theorem rv_nil {G : Gh} (sz : Nat) : Rv G (.sl sz []) (.slice none 0 0) := .sl sz [] none 0 0 (fun _ _ => undef) rfl (Nat.le_refl _) (by unfold AMax; omega) (fun _ => rfl) (fun i hi => by simp at hi) (fun h => by simp at h) (fun i j hi => by simp at hi) (fun i j hi => by simp at hi)
theorem cov_ints {a : AV} {xs : List Int} (h : toInts a = some xs) : Cov a (aInts xs) := fun S v hv => by
  unfold toInts at h
  split at h
  · rw [toIntsL_inv h] at hv; exact hv
  · cases h; rw [hv.v_eq]; exact rv_nil 1
  · cases h
theorem cov_rows {a : AV} {L : List (List Int)} (h : toRows a = some L) : Cov a (aRows L) := fun S v hv => by
  unfold toRows at h
  split at h
  · rename_i ys
    obtain ⟨h1, h2⟩ := toRowsL_get h
    cases hv with
    | sl _ _ b n c us hn hc hm h0 hz ha h3 h4 =>
      refine .sl 1 _ b n c us (by simp; omega) hc hm h0 (fun i hi => by simp at hi; simp [List.getD, hi]) (fun hp => ?_) (fun i j hi hj => h3 i j (by simp at hi; omega) hj) (fun i j hi hj => ?_)
      · obtain ⟨b', o, e, h5⟩ := ha (by simp at hp; omega)
        exact ⟨b', o, e, fun i j hi hj => h5 i j (by simp at hi; omega) hj⟩
      · have hi' : i < L.length := by simpa using hi
        have hj0 : j = 0 := by omega
        subst hj0
        have h6 := h4 i 0 (by omega) hj
        obtain ⟨a', g1, g2⟩ := h2 i (by omega)
        rw [g1] at h6
        have h7 := cov_ints g2 S _ h6
        simpa [List.getD, hi'] using h7
  · cases h; rw [hv.v_eq]; exact rv_nil 1
  · cases h
theorem cov_th {a b : AV} (N : Int) (h : Cov a b) : Cov (.agg [.v (.int .i64 N), a]) (.agg [.v (.int .i64 N), b]) := fun S v hv => by
  cases hv with
  | agg _ us hl h1 h2 =>
    refine .agg _ us hl h1 fun i hi => ?_
    match i, hi with
    | 0, hi => exact h2 0 hi
    | 1, hi => exact h S _ (h2 1 hi)
inductive CovL : List AV → List AV → Prop
  | nil : CovL [] []
  | cons {a b : AV} {l m : List AV} : Cov a b → CovL l m → CovL (a :: l) (b :: m)
theorem CovL.get {l m : List AV} (h : CovL l m) : l.length = m.length ∧ ∀ i, i < m.length → Cov (l.getD i .any) (m.getD i .any) := by
  induction h with
  | nil => exact ⟨rfl, fun i hi => by simp at hi⟩
  | cons h1 _ ih =>
    refine ⟨by simp [ih.1], fun i hi => ?_⟩
    cases i with
    | zero => exact h1
    | succ i => simpa using ih.2 i (by simpa using hi)
theorem FnPure.cov {P : Program} {f : FuncId} {args args' : List AV} {r : AV} (h : FnPure P f args' r) (hc : CovL args args') : FnPure P f args r := fun S w vs hS hn hv =>
  h S w vs hS (by rw [hn, hc.get.1]) fun i hi => hc.get.2 i hi S _ (hv i (by rw [hc.get.1]; exact hi))
theorem FnFresh.cov {P : Program} {f : FuncId} {args args' : List AV} {r : AV} (h : FnFresh P f args' r) (hc : CovL args args') : FnFresh P f args r := fun S w vs hS hn hv =>
  h S w vs hS (by rw [hn, hc.get.1]) fun i hi => hc.get.2 i hi S _ (hv i (by rw [hc.get.1]; exact hi))

@[simp] def g_litVar : List AV → Option (AV × Bool)
  | [.v (.int .i64 l)] => if (okI l) = true then some (.v (.int .i64 (litVar l)), true) else none
  | _ => none
theorem e_litVar : EntOk Try.prog 41 g_litVar := ent_fresh (by kernel_rfl) fun args r fr h => by
  unfold g_litVar at h
  split at h
  · rename_i l
    split at h
    · rename_i hc
      have o0 := hc
      cases h
      exact fresh_same fun S w vs hS hn hv => by
        obtain ⟨u0, rfl, r0⟩ := args1 hn hv
        have q0 := r0.v_eq
        subst q0
        exact litVar_c l w (okI_iff.1 o0)
    · cases h
  · cases h

@[simp] def g_litValid : List AV → Option (AV × Bool)
  | [.v (.int .i64 l), .v (.int .i64 n)] => if (okI l && okI n) = true then some (.v (.bool (litOk l n)), true) else none
  | _ => none
theorem e_litValid : EntOk Try.prog 36 g_litValid := ent_fresh (by kernel_rfl) fun args r fr h => by
  unfold g_litValid at h
  split at h
  · rename_i l n
    split at h
    · rename_i hc
      simp only [Bool.and_eq_true] at hc
      obtain ⟨o0, o1⟩ := hc
      cases h
      exact fresh_same fun S w vs hS hn hv => by
        obtain ⟨u0, u1, rfl, r0, r1⟩ := args2 hn hv
        have q0 := r0.v_eq
        subst q0
        have q1 := r1.v_eq
        subst q1
        exact litValid_c l n w (okI_iff.1 o0)
    · cases h
  · cases h

@[simp] def g_check : List AV → Option (AV × Bool)
  | [.agg [.v (.int .i64 N), a0]] => (match toRows a0 with | some L => if (okI N && okRows L) = true then some (.v (.int .i64 (checkT N L)), true) else none | none => none)
  | _ => none
theorem e_check : EntOk Try.prog 17 g_check := ent_fresh (by kernel_rfl) fun args r fr h => by
  unfold g_check at h
  split at h
  · rename_i N a0
    split at h
    · rename_i L t0
      split at h
      · rename_i hc
        simp only [Bool.and_eq_true] at hc
        obtain ⟨m0, o0⟩ := hc
        cases h
        exact fresh_gives (fun G => .v _) fun S w vs hS hn hv => by
          obtain ⟨u0, rfl, r0⟩ := args1 hn hv
          obtain ⟨z0, q0, p0⟩ := th_inv r0
          subst q0
          have q0 := rows_of hS p0 t0 o0
          exact theoryCheck_c N (okI_iff.1 m0) q0
      · cases h
    · cases h
  · cases h

@[simp] def g_with : List AV → Option (AV × Bool)
  | [a0, .v (.int .i64 v)] => (match toSet a0 with | some s => if (okI v) = true then some (aSet (sWith s v), true) else none | none => none)
  | _ => none
theorem e_with : EntOk Try.prog 56 g_with := ent_fresh (by kernel_rfl) fun args r fr h => by
  unfold g_with at h
  split at h
  · rename_i a0 v
    split at h
    · rename_i s t0
      split at h
      · rename_i hc
        have o1 := hc
        cases h
        exact fresh_gives (fun G => set_rv _) fun S w vs hS hn hv => by
          obtain ⟨u0, u1, rfl, r0, r1⟩ := args2 hn hv
          have q0 := toSet_rv t0 r0
          subst q0
          have q1 := r1.v_eq
          subst q1
          exact with_c s v w
      · cases h
    · cases h
  · cases h

@[simp] def g_all : List AV → Option (AV × Bool)
  | [.v (.int .i64 n)] => if (okI n) = true then some (aSet (sAll n), true) else none
  | _ => none
theorem e_all : EntOk Try.prog 48 g_all := ent_fresh (by kernel_rfl) fun args r fr h => by
  unfold g_all at h
  split at h
  · rename_i n
    split at h
    · rename_i hc
      have o0 := hc
      cases h
      exact fresh_gives (fun G => set_rv _) fun S w vs hS hn hv => by
        obtain ⟨u0, rfl, r0⟩ := args1 hn hv
        have q0 := r0.v_eq
        subst q0
        exact all_c n w
    · cases h
  · cases h

@[simp] def g_rValid : List AV → Option (AV × Bool)
  | [.v (.int .i64 l), .v (.int .i64 n)] => if (okI l && okI n && (decide (0 ≤ n) && decide (n ≤ 128))) = true then some (.v (.bool (litOk l n)), true) else none
  | _ => none
theorem e_rValid : EntOk Try.prog 37 g_rValid := ent_fresh (by kernel_rfl) fun args r fr h => by
  unfold g_rValid at h
  split at h
  · rename_i l n
    split at h
    · rename_i hc
      simp only [Bool.and_eq_true] at hc
      obtain ⟨⟨o0, o1⟩, hk⟩ := hc
      cases h
      exact fresh_same fun S w vs hS hn hv => by
        obtain ⟨u0, u1, rfl, r0, r1⟩ := args2 hn hv
        have q0 := r0.v_eq
        subst q0
        have q1 := r1.v_eq
        subst q1
        exact ref05Valid_c l n w (okI_iff.1 o0) (by simp at hk; exact hk.1) (by simp at hk; exact hk.2)
    · cases h
  · cases h

@[simp] def g_rHas : List AV → Option (AV × Bool)
  | [a0, .v (.int .i64 v)] => (match toSet a0 with | some s => if (okI v) = true then some (.v (.bool (sHas s v)), true) else none | none => none)
  | _ => none
theorem e_rHas : EntOk Try.prog 60 g_rHas := ent_fresh (by kernel_rfl) fun args r fr h => by
  unfold g_rHas at h
  split at h
  · rename_i a0 v
    split at h
    · rename_i s t0
      split at h
      · rename_i hc
        have o1 := hc
        cases h
        exact fresh_gives (fun G => .v _) fun S w vs hS hn hv => by
          obtain ⟨u0, u1, rfl, r0, r1⟩ := args2 hn hv
          have q0 := toSet_rv t0 r0
          subst q0
          have q1 := r1.v_eq
          subst q1
          exact ref05Has_c s v w
      · cases h
    · cases h
  · cases h

@[simp] def g_rHolds : List AV → Option (AV × Bool)
  | [a0, .v (.int .i64 l)] => (match toSet a0 with | some s => if (okI l && (decide (-128 ≤ l) && decide (l ≤ 128))) = true then some (.v (.bool (holds05 s l)), true) else none | none => none)
  | _ => none
theorem e_rHolds : EntOk Try.prog 51 g_rHolds := ent_fresh (by kernel_rfl) fun args r fr h => by
  unfold g_rHolds at h
  split at h
  · rename_i a0 l
    split at h
    · rename_i s t0
      split at h
      · rename_i hc
        simp only [Bool.and_eq_true] at hc
        obtain ⟨o1, hk⟩ := hc
        cases h
        exact fresh_gives (fun G => .v _) fun S w vs hS hn hv => by
          obtain ⟨u0, u1, rfl, r0, r1⟩ := args2 hn hv
          have q0 := toSet_rv t0 r0
          subst q0
          have q1 := r1.v_eq
          subst q1
          exact ref05Holds_c s l w (by simp at hk; exact hk.1) (by simp at hk; exact hk.2)
      · cases h
    · cases h
  · cases h

@[simp] def g_rAssign : List AV → Option (AV × Bool)
  | [a0, .v (.int .i64 n)] => (match toSet a0 with | some s => if (okI n && (decide (0 ≤ n) && decide (n ≤ 128))) = true then some (.v (.bool (sUpto s n)), true) else none | none => none)
  | _ => none
theorem e_rAssign : EntOk Try.prog 50 g_rAssign := ent_fresh (by kernel_rfl) fun args r fr h => by
  unfold g_rAssign at h
  split at h
  · rename_i a0 n
    split at h
    · rename_i s t0
      split at h
      · rename_i hc
        simp only [Bool.and_eq_true] at hc
        obtain ⟨o1, hk⟩ := hc
        cases h
        exact fresh_gives (fun G => .v _) fun S w vs hS hn hv => by
          obtain ⟨u0, u1, rfl, r0, r1⟩ := args2 hn hv
          have q0 := toSet_rv t0 r0
          subst q0
          have q1 := r1.v_eq
          subst q1
          exact ref05Assignment_c s n w (by simp at hk; exact hk.1) (by simp at hk; exact hk.2)
      · cases h
    · cases h
  · cases h

@[simp] def g_rCheck : List AV → Option (AV × Bool)
  | [.agg [.v (.int .i64 N), a0]] => (match toRows a0 with | some L => if (okI N && okRows L) = true then some (.v (.int .i64 (checkT N L)), true) else none | none => none)
  | _ => none
theorem e_rCheck : EntOk Try.prog 18 g_rCheck := ent_fresh (by kernel_rfl) fun args r fr h => by
  unfold g_rCheck at h
  split at h
  · rename_i N a0
    split at h
    · rename_i L t0
      split at h
      · rename_i hc
        simp only [Bool.and_eq_true] at hc
        obtain ⟨m0, o0⟩ := hc
        cases h
        exact fresh_gives (fun G => .v _) fun S w vs hS hn hv => by
          obtain ⟨u0, rfl, r0⟩ := args1 hn hv
          obtain ⟨z0, q0, p0⟩ := th_inv r0
          subst q0
          have q0 := rows_of hS p0 t0 o0
          exact ref05Check_c N (okI_iff.1 m0) q0
      · cases h
    · cases h
  · cases h

@[simp] def g_rEval : List AV → Option (AV × Bool)
  | [.agg [.v (.int .i64 N), a0], a1] => (match toRows a0 with | some L => (match toSet a1 with | some s => if (okI N && okRows L) = true then some (.v (.bool (evalT N L s)), true) else none | none => none) | none => none)
  | _ => none
theorem e_rEval : EntOk Try.prog 25 g_rEval := ent_fresh (by kernel_rfl) fun args r fr h => by
  unfold g_rEval at h
  split at h
  · rename_i N a0 a1
    split at h
    · rename_i L t0
      split at h
      · rename_i s t1
        split at h
        · rename_i hc
          simp only [Bool.and_eq_true] at hc
          obtain ⟨m0, o0⟩ := hc
          cases h
          exact fresh_gives (fun G => .v _) fun S w vs hS hn hv => by
            obtain ⟨u0, u1, rfl, r0, r1⟩ := args2 hn hv
            obtain ⟨z0, q0, p0⟩ := th_inv r0
            subst q0
            have q0 := rows_of hS p0 t0 o0
            have q1 := toSet_rv t1 r1
            subst q1
            exact ref05Eval_c N s (okI_iff.1 m0) q0
        · cases h
      · cases h
    · cases h
  · cases h

@[simp] def g_litvalid : List AV → Option (AV × Bool)
  | [a0, .v (.int .i64 n)] => (match toInts a0 with | some xs => if (okInts xs && okI n) = true then some (.v (.bool (xs.all fun y => litOk y n)), true) else none | none => none)
  | _ => none
theorem e_litvalid : EntOk Try.prog 61 g_litvalid := ent_fresh (by kernel_rfl) fun args r fr h => by
  unfold g_litvalid at h
  split at h
  · rename_i a0 n
    split at h
    · rename_i xs t0
      split at h
      · rename_i hc
        simp only [Bool.and_eq_true] at hc
        obtain ⟨o0, o1⟩ := hc
        cases h
        exact fresh_gives (fun G => .v _) fun S w vs hS hn hv => by
          obtain ⟨u0, u1, rfl, r0, r1⟩ := args2 hn hv
          have q0 := ints_of hS r0 t0 o0
          have q1 := r1.v_eq
          subst q1
          exact litvalid_c n q0
      · cases h
    · cases h
  · cases h

@[simp] def g_opposite : List AV → Option (AV × Bool)
  | [a0] => (match toInts a0 with | some xs => if (okInts xs && okL xs) = true then some (.v (.bool (adjOpp xs)), true) else none | none => none)
  | _ => none
theorem e_opposite : EntOk Try.prog 63 g_opposite := ent_fresh (by kernel_rfl) fun args r fr h => by
  unfold g_opposite at h
  split at h
  · rename_i a0
    split at h
    · rename_i xs t0
      split at h
      · rename_i hc
        simp only [Bool.and_eq_true] at hc
        obtain ⟨o0, hk⟩ := hc
        cases h
        exact fresh_gives (fun G => .v _) fun S w vs hS hn hv => by
          obtain ⟨u0, rfl, r0⟩ := args1 hn hv
          have q0 := ints_of hS r0 t0 o0
          exact litopposite_c q0 (okL_iff.1 hk)
      · cases h
    · cases h
  · cases h

@[simp] def g_clone : List AV → Option (AV × Bool)
  | [a0] => (match toInts a0 with | some xs => if (okInts xs) = true then some (aInts xs, true) else none | none => none)
  | _ => none
theorem e_clone : EntOk Try.prog 58 g_clone := ent_fresh (by kernel_rfl) fun args r fr h => by
  unfold g_clone at h
  split at h
  · rename_i a0
    split at h
    · rename_i xs t0
      split at h
      · rename_i hc
        have o0 := hc
        cases h
        exact fun S w vs hS hn hv => by
          obtain ⟨u0, rfl, r0⟩ := args1 hn hv
          have q0 := ints_of hS r0 t0 o0
          exact (clone_c q0).mono fun e w2 h2 => by obtain ⟨v2, rfl, h3, h4⟩ := h2; exact ⟨v2, rfl, h4, rv_ints (h3.ints (okInts_len o0)) fun _ _ _ h => fresh_new h⟩
      · cases h
    · cases h
  · cases h

@[simp] def g_order : List AV → Option (AV × Bool)
  | [a0] => (match toInts a0 with | some xs => if (okInts xs && okL xs) = true then some (aInts (orderL xs), true) else none | none => none)
  | _ => none
theorem e_order : EntOk Try.prog 62 g_order := ent_fresh (by kernel_rfl) fun args r fr h => by
  unfold g_order at h
  split at h
  · rename_i a0
    split at h
    · rename_i xs t0
      split at h
      · rename_i hc
        simp only [Bool.and_eq_true] at hc
        obtain ⟨o0, hk⟩ := hc
        cases h
        exact fun S w vs hS hn hv => by
          obtain ⟨u0, rfl, r0⟩ := args1 hn hv
          have q0 := ints_of hS r0 t0 o0
          exact (order_c q0 (okL_iff.1 hk)).mono fun e w2 h2 => by obtain ⟨v2, rfl, h3, h4⟩ := h2; exact ⟨v2, rfl, h4, rv_ints (h3.ints (Nat.le_trans (orderL_len xs) (okInts_len o0))) fun _ _ _ h => fresh_new h⟩
      · cases h
    · cases h
  · cases h

theorem rv_tup2 {G : Gh} {a b : AV} {x y : Value} (h1 : Rv G a x) (h2 : Rv G b y) : Rv G (.tup [a, b]) (.tuple #[x, y]) := by
  refine .tup _ [x, y] rfl (fun i hi => ?_)
  match i, hi with
  | 0, _ => exact h1
  | 1, _ => exact h2
@[simp] def g_term : List AV → Option (AV × Bool)
  | [a0, .v (.int .i64 n)] => (match toInts a0 with | some xs => if (okInts xs && okI n) = true then some (.tup [aInts ((termL xs n).getD []), .v (.bool (termL xs n).isSome)], true) else none | none => none)
  | _ => none
theorem e_term : EntOk Try.prog 52 g_term := ent_fresh (by kernel_rfl) fun args r fr h => by
  unfold g_term at h
  split at h
  · rename_i a0 n
    split at h
    · rename_i xs t0
      split at h
      · rename_i hc
        simp only [Bool.and_eq_true] at hc
        obtain ⟨o0, o1⟩ := hc
        cases h
        exact fun S w vs hS hn hv => by
          obtain ⟨u0, u1, rfl, r0, r1⟩ := args2 hn hv
          have q0 := ints_of hS r0 t0 o0
          have q1 := r1.v_eq
          subst q1
          exact (term_c n q0).mono fun e w2 h2 => by obtain ⟨v2, rfl, h3, h4⟩ := h2; exact ⟨_, rfl, h4, rv_tup2 (rv_ints h3 fun _ _ _ h => fresh_new h) (.v _)⟩
      · cases h
    · cases h
  · cases h

theorem ent_nil {P : Program} : ∀ p ∈ ([] : List (FuncId × (List AV → Option (AV × Bool)))), EntOk P p.1 p.2 := fun p h => by cases h
theorem ent_cons {P : Program} {f : FuncId} {g : List AV → Option (AV × Bool)} {l : List (FuncId × (List AV → Option (AV × Bool)))} (h : EntOk P f g) (hl : ∀ p ∈ l, EntOk P p.1 p.2) : ∀ p ∈ (f, g) :: l, EntOk P p.1 p.2 := fun p hp => by
  rcases List.mem_cons.1 hp with rfl | hp
  · exact h
  · exact hl p hp
theorem prog_mixed : Try.prog.follows .mixedOrders = true := by kernel_rfl
def l1 : List (FuncId × (List AV → Option (AV × Bool))) :=
  (41, g_litVar) :: (36, g_litValid) :: (17, g_check) :: (56, g_with) :: (48, g_all) :: (37, g_rValid) :: (60, g_rHas) :: (51, g_rHolds) :: (50, g_rAssign) :: (18, g_rCheck) :: (25, g_rEval) :: (61, g_litvalid) :: (63, g_opposite) :: (58, g_clone) :: (62, g_order) :: (52, g_term) :: []
theorem l1_ok : ∀ p ∈ l1, EntOk Try.prog p.1 p.2 := ent_cons e_litVar (ent_cons e_litValid (ent_cons e_check (ent_cons e_with (ent_cons e_all (ent_cons e_rValid (ent_cons e_rHas (ent_cons e_rHolds (ent_cons e_rAssign (ent_cons e_rCheck (ent_cons e_rEval (ent_cons e_litvalid (ent_cons e_opposite (ent_cons e_clone (ent_cons e_order (ent_cons e_term (ent_nil))))))))))))))))
def PT1 : PTab := tab l1
theorem PT1_ok : PTok Try.prog PT1 := tab_ok l1_ok
@[simp] theorem PT1_litVar : PT1 41 = g_litVar := rfl
@[simp] theorem PT1_litValid : PT1 36 = g_litValid := rfl
@[simp] theorem PT1_check : PT1 17 = g_check := rfl
@[simp] theorem PT1_with : PT1 56 = g_with := rfl
@[simp] theorem PT1_all : PT1 48 = g_all := rfl
@[simp] theorem PT1_rValid : PT1 37 = g_rValid := rfl
@[simp] theorem PT1_rHas : PT1 60 = g_rHas := rfl
@[simp] theorem PT1_rHolds : PT1 51 = g_rHolds := rfl
@[simp] theorem PT1_rAssign : PT1 50 = g_rAssign := rfl
@[simp] theorem PT1_rCheck : PT1 18 = g_rCheck := rfl
@[simp] theorem PT1_rEval : PT1 25 = g_rEval := rfl
@[simp] theorem PT1_litvalid : PT1 61 = g_litvalid := rfl
@[simp] theorem PT1_opposite : PT1 63 = g_opposite := rfl
@[simp] theorem PT1_clone : PT1 58 = g_clone := rfl
@[simp] theorem PT1_order : PT1 62 = g_order := rfl
@[simp] theorem PT1_term : PT1 52 = g_term := rfl
end Go.Proofs.Ytkollnaojpppcaa
