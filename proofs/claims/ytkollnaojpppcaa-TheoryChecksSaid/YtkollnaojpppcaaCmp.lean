/- The order of clauses: plain lemmas, and the contract of theory.Normal's comparison; no condition. -/
import Derived.Test.YtkollnaojpppcaaPt1
import Derived.BigQuiet
namespace Go.Proofs.Ytkollnaojpppcaa
open Go.RowKit

/-- Clauses of one length: the first difference decides. -/
def cmpG : List Int → List Int → Int
  | x :: xs, y :: ys => if x = y then cmpG xs ys else if litVar x = litVar y then x else litVar x - litVar y
  | _, _ => 0
def cmpC (c d : List Int) : Int := if c.length = d.length then cmpG c d else (c.length : Int) - d.length
theorem cmpG_at : ∀ (c d : List Int) (k : Nat), k < c.length → k < d.length → (∀ j, j < k → c.getD j 0 = d.getD j 0) → c.getD k 0 ≠ d.getD k 0 → cmpG c d = if litVar (c.getD k 0) = litVar (d.getD k 0) then c.getD k 0 else litVar (c.getD k 0) - litVar (d.getD k 0)
  | [], _, _, h, _, _, _ => by simp at h
  | _ :: _, [], _, _, h, _, _ => by simp at h
  | x :: xs, y :: ys, 0, _, _, _, hn => by
    simp only [List.getD_cons_zero] at hn ⊢
    rw [cmpG, if_neg hn]
  | x :: xs, y :: ys, k + 1, h1, h2, h3, hn => by
    have h0 := h3 0 (by omega)
    simp only [List.getD_cons_zero] at h0
    simp only [List.getD_cons_succ] at hn ⊢
    rw [cmpG, if_pos h0]
    exact cmpG_at xs ys k (by simpa using h1) (by simpa using h2) (fun j hj => by simpa using h3 (j + 1) (by omega)) hn
theorem cmpG_self : ∀ c : List Int, cmpG c c = 0
  | [] => rfl
  | x :: xs => by rw [cmpG, if_pos rfl, cmpG_self xs]
theorem cmpC_self (c : List Int) : cmpC c c = 0 := by rw [cmpC, if_pos rfl, cmpG_self]
/-- A literal, its variable and its sign. -/
def isLit (x : Int) : Bool := decide (1 ≤ litVar x)
theorem isLit_abs {x : Int} (h : isLit x = true) : litVar x = x.natAbs ∧ x ≠ 0 ∧ -128 ≤ x ∧ x ≤ 128 := by
  unfold isLit at h
  simp only [decide_eq_true_eq] at h
  unfold litVar at *
  split at h
  · rename_i h1; rw [if_pos h1]; omega
  · rename_i h1
    split at h
    · rename_i h2; rw [if_neg h1, if_pos h2]; omega
    · omega
theorem cmpG_anti : ∀ {c d : List Int}, c.length = d.length → (∀ x ∈ c, isLit x = true) → (∀ x ∈ d, isLit x = true) → (cmpG c d = 0 → c = d) ∧ (cmpG c d < 0 ↔ 0 < cmpG d c)
  | [], [], _, _, _ => by simp [cmpG]
  | x :: xs, y :: ys, h, hc, hd => by
    obtain ⟨h1, h2⟩ := cmpG_anti (c := xs) (d := ys) (by simpa using h) (fun z hz => hc z (by simp [hz])) (fun z hz => hd z (by simp [hz]))
    obtain ⟨a1, a2, _, _⟩ := isLit_abs (hc x (by simp))
    obtain ⟨b1, b2, _, _⟩ := isLit_abs (hd y (by simp))
    simp only [cmpG]
    by_cases e : x = y
    · subst e; simp only [if_true]; exact ⟨fun h => by rw [h1 h], h2⟩
    · rw [if_neg e, if_neg (Ne.symm e)]
      by_cases e2 : litVar x = litVar y
      · rw [if_pos e2, if_pos e2.symm]
        refine ⟨fun h => by omega, ?_⟩
        omega
      · rw [if_neg e2, if_neg (Ne.symm e2)]
        refine ⟨fun h => by omega, ?_⟩
        omega
theorem cmpG_trans : ∀ {a b c : List Int}, a.length = b.length → b.length = c.length → (∀ x ∈ a, isLit x = true) → (∀ x ∈ b, isLit x = true) → (∀ x ∈ c, isLit x = true) → cmpG a b < 0 → cmpG b c < 0 → cmpG a c < 0
  | [], [], [], _, _, _, _, _, h, _ => by simp [cmpG] at h
  | x :: xs, y :: ys, z :: zs, h1, h2, ha, hb, hc, hab, hbc => by
    have ih := cmpG_trans (a := xs) (b := ys) (c := zs) (by simpa using h1) (by simpa using h2) (fun z hz => ha z (by simp [hz])) (fun z hz => hb z (by simp [hz])) (fun z hz => hc z (by simp [hz]))
    obtain ⟨a1, a2, _, _⟩ := isLit_abs (ha x (by simp))
    obtain ⟨b1, b2, _, _⟩ := isLit_abs (hb y (by simp))
    obtain ⟨c1, c2, _, _⟩ := isLit_abs (hc z (by simp))
    simp only [cmpG] at hab hbc ⊢
    by_cases e1 : x = y
    · subst e1
      rw [if_pos rfl] at hab
      by_cases e2 : x = z
      · subst e2; rw [if_pos rfl] at hbc ⊢; exact ih hab hbc
      · rw [if_neg e2] at hbc ⊢; exact hbc
    · rw [if_neg e1] at hab
      by_cases e2 : y = z
      · subst e2; rw [if_neg e1]; exact hab
      · rw [if_neg e2] at hbc
        by_cases e3 : x = z
        · subst e3
          exfalso
          by_cases v : litVar x = litVar y
          · rw [if_pos v] at hab; rw [if_pos v.symm] at hbc; omega
          · rw [if_neg v] at hab; rw [if_neg (Ne.symm v)] at hbc; omega
        · rw [if_neg e3]
          by_cases v1 : litVar x = litVar y
          · rw [if_pos v1] at hab
            by_cases v2 : litVar y = litVar z
            · rw [if_pos v2] at hbc; rw [if_pos (v1.trans v2)]; exact hab
            · rw [if_neg v2] at hbc; rw [if_neg (by omega)]; omega
          · rw [if_neg v1] at hab
            by_cases v2 : litVar y = litVar z
            · rw [if_neg (by omega)]; omega
            · rw [if_neg v2] at hbc; rw [if_neg (by omega)]; omega
/-- Clauses of literals. -/
def Lits (c : List Int) : Prop := ∀ x ∈ c, isLit x = true
theorem cmpC_anti {c d : List Int} (hc : Lits c) (hd : Lits d) : (cmpC c d = 0 → c = d) ∧ (cmpC c d < 0 ↔ 0 < cmpC d c) := by
  unfold cmpC
  by_cases h : c.length = d.length
  · rw [if_pos h, if_pos h.symm]; exact cmpG_anti h hc hd
  · rw [if_neg h, if_neg (Ne.symm h)]
    exact ⟨fun e => by omega, by omega⟩
theorem cmpC_trans {a b c : List Int} (ha : Lits a) (hb : Lits b) (hc : Lits c) (h1 : cmpC a b < 0) (h2 : cmpC b c < 0) : cmpC a c < 0 := by
  unfold cmpC at *
  by_cases e1 : a.length = b.length
  · rw [if_pos e1] at h1
    by_cases e2 : b.length = c.length
    · rw [if_pos e2] at h2; rw [if_pos (e1.trans e2)]; exact cmpG_trans e1 e2 ha hb hc h1 h2
    · rw [if_neg e2] at h2; rw [if_neg (by omega)]; omega
  · rw [if_neg e1] at h1
    by_cases e2 : b.length = c.length
    · rw [if_neg (by omega)]; omega
    · rw [if_neg e2] at h2; rw [if_neg (by omega)]; omega

set_option maxHeartbeats 1000000 in
theorem normalFn_c {F G : Foot} {w : World} {v u : Value} {xs ys : List Int} (h : Ints F w v xs) (h' : Ints G w u ys) :
    Calls Try.prog 40 #[v, u] w fun e w' => e = .returned (.int .i64 (cmpC xs ys)) ∧ ∃ q, w' = w.drewN q := by
  have hX := h.range
  have hY := h'.range
  obtain ⟨a, n, c, rfl, hn, _, hm, hc⟩ := h.open
  obtain ⟨a', n', c', rfl, hn', _, hm', hc'⟩ := h'.open
  unfold LenMax at hm hm'
  clear h h'
  have HE := Lib.hid hn
  have HE' := Lib.hid hn'
  clear hn hn'
  by_cases hne : n = n'
  · subst hne
    have HC := Lib.hid (show cmpC xs ys = cmpG xs ys by unfold cmpC; rw [if_pos (HE.out.symm.trans HE'.out)])
    go_enter Try.func40, Try.ntmps40
    go_wp2
    go_loopw [20] (fun i wr => ∃ k : Nat, k ≤ n ∧ i = .int .i64 k ∧ Hid (∀ j, j < k → xs.getD j 0 = ys.getD j 0) ∧ ∃ q, wr = w.drewN q) (fun i _ => n - (intOf i).toNat)
    case atStart => exact ⟨0, Nat.zero_le _, rfl, by intro j hj; omega, 0, rfl⟩
    case round =>
      obtain ⟨k, hk, rfl, hno, q, rfl⟩ := hrel
      by_cases hlt : k < n
      · obtain ⟨b, o, rfl, hcell, hr⟩ := hc k hlt
        obtain ⟨b', o', rfl, hcell', hr'⟩ := hc' k hlt
        clear hc hc'
        have hk0 : (0 : Int) ≤ k := by omega
        have hk1 : (k : Int) < n := by omega
        have HX : ∃ x, Hid (xs.getD k 0 = x) := ⟨_, rfl⟩
        have HY : ∃ y, Hid (ys.getD k 0 = y) := ⟨_, rfl⟩
        obtain ⟨x, HX⟩ := HX
        obtain ⟨y, HY⟩ := HY
        rw [HX.out] at hcell hr
        rw [HY.out] at hcell' hr'
        have hpx := fun w => litVar_c x w hr
        have hpy := fun w => litVar_c y w hr'
        have HAT := Lib.hid (cmpG_at xs ys k (by have := HE.out; omega) (by have := HE'.out; omega) hno.out)
        have hvx := litVar_range x
        have hvy := litVar_range y
        clear hX hY hr hr'
        rw [HX.out, HY.out] at HAT
        generalize litVar x = vx at *
        generalize litVar y = vy at *
        go_wp2
        go_quiet (fail)
        by_cases he : x = y
        · subst he
          go_wp2
          go_roundw
          case rel => exact ⟨k + 1, by omega, by go_num, by intro j hj; by_cases e : j < k; exact hno.out j e; (obtain rfl : j = k := by omega); rw [HX.out, HY.out], _, rfl⟩
          case measure => simp [intOf]; omega
        · have HAT := Lib.hid (HAT.out he)
          go_wp2
          go_quiet (first | (with_reducible refine (hpx _).mono ?_; rintro e w' ⟨rfl, rfl⟩; rename_i dr; refine ⟨?_, dr, ?_⟩; exact Eq.refl _; exact Eq.refl _) | (with_reducible refine (hpy _).mono ?_; rintro e w' ⟨rfl, rfl⟩; rename_i dr; refine ⟨?_, dr, ?_⟩; exact Eq.refl _; exact Eq.refl _))
          by_cases hv : vx = vy
          · subst hv
            have HAT := Lib.hid (HAT.out.trans (if_pos rfl))
            go_wp2
            go_ret
            exact ⟨by rw [HC.out, HAT.out]; rfl, _, by first | rfl | rw [World.drewN_drewN]⟩
          · have HAT := Lib.hid (HAT.out.trans (if_neg hv))
            go_wp2
            go_ret
            exact ⟨by rw [HC.out, HAT.out]; rfl, _, by first | rfl | rw [World.drewN_drewN]⟩
      · go_wp2
        go_ret
        have : xs = ys := by
          apply List.ext_getElem (by rw [← HE.out, ← HE'.out])
          intro j h1 h2
          have := hno.out j (by have := HE.out; omega)
          simpa [List.getD, h1, h2] using this
        exact ⟨by subst this; rw [HC.out, cmpG_self]; rfl, _, rfl⟩
  · have HC := Lib.hid (show cmpC xs ys = (n : Int) - n' by unfold cmpC; rw [if_neg (by rw [← HE.out, ← HE'.out]; exact hne), ← HE.out, ← HE'.out])
    have hne' : ((n : Int) == n') = false := by simp; omega
    go_enter Try.func40, Try.ntmps40
    go_wp2
    go_ret
    exact ⟨by rw [HC.out]; rfl, 0, rfl⟩
end Go.Proofs.Ytkollnaojpppcaa
