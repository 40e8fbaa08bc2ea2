/- The order of clauses: plain lemmas, and the contract of theory.Normal's comparison; no condition. -/
import Derived.Test.YtllkogdgmmcfgaaGreatDoorCvG
import Derived.BigQuiet
import Derived.Test.YtllkogdgmmcfgaaGreatDoorOld
import Derived.Test.YtllkogdgmmcfgaaGreatDoorWl
/- Cmp: The order of clauses: plain lemmas, and the contract of theory.Normal's comparison; no condition. -/
namespace Go.Proofs.YtllkogdgmmcfgaaGreatDoor
set_option linter.unusedVariables false
set_option linter.unusedSimpArgs false
set_option linter.unusedSectionVars false
open Go.RowKit

def cmpG : List Int → List Int → Int
 | x :: xs, y :: ys => if x = y then cmpG xs ys else if litVar x = litVar y then x else litVar x - litVar y
 | _, _ => 0
def cmpC (c d : List Int) : Int := if c.length = d.length then cmpG c d else (c.length : Int) - d.length
theorem cmpG_at : ∀ (c d : List Int) (k : Nat), k < c.length → k < d.length → (∀ j, j < k → c.getD j 0 = d.getD j 0) → c.getD k 0 ≠ d.getD k 0 → cmpG c d = if litVar (c.getD k 0) = litVar (d.getD k 0) then c.getD k 0 else litVar (c.getD k 0) - litVar (d.getD k 0)
 | [], _, _, h, _, _, _ => by simp at h
 | _ :: _, [], _, _, h, _, _ => by simp at h
 | x :: xs, y :: ys, 0, _, _, _, hn => by
  simp only [List.getD_cons_zero] at hn ⊢
  rw [cmpG, if_neg hn]
 | x :: xs, y :: ys, k + 1, h1, h2, h3, hn => by
  have h0 := h3 0 (by omega)
  simp only [List.getD_cons_zero] at h0
  simp only [List.getD_cons_succ] at hn ⊢
  rw [cmpG, if_pos h0]
  exact cmpG_at xs ys k (by simpa using h1) (by simpa using h2) (fun j hj => by simpa using h3 (j + 1) (by omega)) hn
theorem cmpG_self : ∀ c : List Int, cmpG c c = 0
 | [] => rfl
 | x :: xs => by rw [cmpG, if_pos rfl, cmpG_self xs]
theorem cmpC_self (c : List Int) : cmpC c c = 0 := by rw [cmpC, if_pos rfl, cmpG_self]
def isLit (x : Int) : Bool := decide (1 ≤ litVar x)
theorem isLit_abs {x : Int} (h : isLit x = true) : litVar x = x.natAbs ∧ x ≠ 0 ∧ -128 ≤ x ∧ x ≤ 128 := by
 unfold isLit at h
 simp only [decide_eq_true_eq] at h
 unfold litVar at *
 split at h
 ·rename_i h1; rw [if_pos h1]; omega
 ·rename_i h1
  split at h
  ·rename_i h2; rw [if_neg h1, if_pos h2]; omega
  ·omega
theorem cmpG_anti : ∀ {c d : List Int}, c.length = d.length → (∀ x ∈ c, isLit x = true) → (∀ x ∈ d, isLit x = true) → (cmpG c d = 0 → c = d) ∧ (cmpG c d < 0 ↔ 0 < cmpG d c)
 | [], [], _, _, _ => by simp [cmpG]
 | x :: xs, y :: ys, h, hc, hd => by
  obtain ⟨h1, h2⟩ := cmpG_anti (c := xs) (d := ys) (by simpa using h) (fun z hz => hc z (by simp [hz])) (fun z hz => hd z (by simp [hz]))
  obtain ⟨a1, a2, _, _⟩ := isLit_abs (hc x (by simp))
  obtain ⟨b1, b2, _, _⟩ := isLit_abs (hd y (by simp))
  simp only [cmpG]
  by_cases e : x = y
  ·subst e; simp only [if_true]; exact ⟨fun h => by rw [h1 h], h2⟩
  ·rw [if_neg e, if_neg (Ne.symm e)]
   by_cases e2 : litVar x = litVar y
   ·rw [if_pos e2, if_pos e2.symm]
    refine ⟨fun h => by omega, ?_⟩
    omega
   ·rw [if_neg e2, if_neg (Ne.symm e2)]
    refine ⟨fun h => by omega, ?_⟩
    omega
theorem cmpG_trans : ∀ {a b c : List Int}, a.length = b.length → b.length = c.length → (∀ x ∈ a, isLit x = true) → (∀ x ∈ b, isLit x = true) → (∀ x ∈ c, isLit x = true) → cmpG a b < 0 → cmpG b c < 0 → cmpG a c < 0
 | [], [], [], _, _, _, _, _, h, _ => by simp [cmpG] at h
 | x :: xs, y :: ys, z :: zs, h1, h2, ha, hb, hc, hab, hbc => by
  have ih := cmpG_trans (a := xs) (b := ys) (c := zs) (by simpa using h1) (by simpa using h2) (fun z hz => ha z (by simp [hz])) (fun z hz => hb z (by simp [hz])) (fun z hz => hc z (by simp [hz]))
  obtain ⟨a1, a2, _, _⟩ := isLit_abs (ha x (by simp))
  obtain ⟨b1, b2, _, _⟩ := isLit_abs (hb y (by simp))
  obtain ⟨c1, c2, _, _⟩ := isLit_abs (hc z (by simp))
  simp only [cmpG] at hab hbc ⊢
  by_cases e1 : x = y
  ·subst e1
   rw [if_pos rfl] at hab
   by_cases e2 : x = z
   ·subst e2; rw [if_pos rfl] at hbc ⊢; exact ih hab hbc
   ·rw [if_neg e2] at hbc ⊢; exact hbc
  ·rw [if_neg e1] at hab
   by_cases e2 : y = z
   ·subst e2; rw [if_neg e1]; exact hab
   ·rw [if_neg e2] at hbc
    by_cases e3 : x = z
    ·subst e3
     exfalso
     by_cases v : litVar x = litVar y
     ·rw [if_pos v] at hab; rw [if_pos v.symm] at hbc; omega
     ·rw [if_neg v] at hab; rw [if_neg (Ne.symm v)] at hbc; omega
    ·rw [if_neg e3]
     by_cases v1 : litVar x = litVar y
     ·rw [if_pos v1] at hab
      by_cases v2 : litVar y = litVar z
      ·rw [if_pos v2] at hbc; rw [if_pos (v1.trans v2)]; exact hab
      ·rw [if_neg v2] at hbc; rw [if_neg (by omega)]; omega
     ·rw [if_neg v1] at hab
      by_cases v2 : litVar y = litVar z
      ·rw [if_neg (by omega)]; omega
      ·rw [if_neg v2] at hbc; rw [if_neg (by omega)]; omega
def Lits (c : List Int) : Prop := ∀ x ∈ c, isLit x = true
theorem cmpC_anti {c d : List Int} (hc : Lits c) (hd : Lits d) : (cmpC c d = 0 → c = d) ∧ (cmpC c d < 0 ↔ 0 < cmpC d c) := by
 unfold cmpC
 by_cases h : c.length = d.length
 ·rw [if_pos h, if_pos h.symm]; exact cmpG_anti h hc hd
 ·rw [if_neg h, if_neg (Ne.symm h)]
  exact ⟨fun e => by omega, by omega⟩
theorem cmpC_trans {a b c : List Int} (ha : Lits a) (hb : Lits b) (hc : Lits c) (h1 : cmpC a b < 0) (h2 : cmpC b c < 0) : cmpC a c < 0 := by
 unfold cmpC at *
 by_cases e1 : a.length = b.length
 ·rw [if_pos e1] at h1
  by_cases e2 : b.length = c.length
  ·rw [if_pos e2] at h2; rw [if_pos (e1.trans e2)]; exact cmpG_trans e1 e2 ha hb hc h1 h2
  ·rw [if_neg e2] at h2; rw [if_neg (by omega)]; omega
 ·rw [if_neg e1] at h1
  by_cases e2 : b.length = c.length
  ·rw [if_neg (by omega)]; omega
  ·rw [if_neg e2] at h2; rw [if_neg (by omega)]; omega

set_option maxHeartbeats 1000000 in
theorem normalFn_c {F G : Foot} {w : World} {v u : Value} {xs ys : List Int} (h : Ints F w v xs) (h' : Ints G w u ys) :
  Calls Tryz.prog 53 #[v, u] w fun e w' => e = .returned (.int .i64 (cmpC xs ys)) ∧ ∃ q, w' = w.drewN q := by
 have hX := h.range
 have hY := h'.range
 obtain ⟨a, n, c, rfl, hn, _, hm, hc⟩ := h.open
 obtain ⟨a', n', c', rfl, hn', _, hm', hc'⟩ := h'.open
 unfold LenMax at hm hm'
 clear h h'
 have HE := Lib.hid hn
 have HE' := Lib.hid hn'
 clear hn hn'
 by_cases hne : n = n'
 ·subst hne
  have HC := Lib.hid (show cmpC xs ys = cmpG xs ys by unfold cmpC; rw [if_pos (HE.out.symm.trans HE'.out)])
  go_enter Tryz.func53, Tryz.ntmps53
  go_wp2
  go_loopw [20] (fun i wr => ∃ k : Nat, k ≤ n ∧ i = .int .i64 k ∧ Hid (∀ j, j < k → xs.getD j 0 = ys.getD j 0) ∧ ∃ q, wr = w.drewN q) (fun i _ => n - (intOf i).toNat)
  case atStart => exact ⟨0, Nat.zero_le _, rfl, by intro j hj; omega, 0, rfl⟩
  case round =>
   obtain ⟨k, hk, rfl, hno, q, rfl⟩ := hrel
   by_cases hlt : k < n
   ·obtain ⟨b, o, rfl, hcell, hr⟩ := hc k hlt
    obtain ⟨b', o', rfl, hcell', hr'⟩ := hc' k hlt
    clear hc hc'
    have hk0 : (0 : Int) ≤ k := by omega
    have hk1 : (k : Int) < n := by omega
    have HX : ∃ x, Hid (xs.getD k 0 = x) := ⟨_, rfl⟩
    have HY : ∃ y, Hid (ys.getD k 0 = y) := ⟨_, rfl⟩
    obtain ⟨x, HX⟩ := HX
    obtain ⟨y, HY⟩ := HY
    rw [HX.out] at hcell hr
    rw [HY.out] at hcell' hr'
    have hpx := fun w => litVar_c x w hr
    have hpy := fun w => litVar_c y w hr'
    have HAT := Lib.hid (cmpG_at xs ys k (by have := HE.out; omega) (by have := HE'.out; omega) hno.out)
    have hvx := litVar_range x
    have hvy := litVar_range y
    clear hX hY hr hr'
    rw [HX.out, HY.out] at HAT
    generalize litVar x = vx at *
    generalize litVar y = vy at *
    go_wp2
    go_quiet (fail)
    by_cases he : x = y
    ·subst he
     go_wp2
     go_roundw
     case rel => exact ⟨k + 1, by omega, by go_num, by intro j hj; by_cases e : j < k; exact hno.out j e; (obtain rfl : j = k := by omega); rw [HX.out, HY.out], _, rfl⟩
     case measure => simp [intOf]; omega
    ·have HAT := Lib.hid (HAT.out he)
     go_wp2
     go_quiet (first | (with_reducible refine (hpx _).mono ?_; rintro e w' ⟨rfl, rfl⟩; rename_i dr; refine ⟨?_, dr, ?_⟩; exact Eq.refl _; exact Eq.refl _) | (with_reducible refine (hpy _).mono ?_; rintro e w' ⟨rfl, rfl⟩; rename_i dr; refine ⟨?_, dr, ?_⟩; exact Eq.refl _; exact Eq.refl _))
     by_cases hv : vx = vy
     ·subst hv
      have HAT := Lib.hid (HAT.out.trans (if_pos rfl))
      go_wp2
      go_ret
      exact ⟨by rw [HC.out, HAT.out]; rfl, _, by first | rfl | rw [World.drewN_drewN]⟩
     ·have HAT := Lib.hid (HAT.out.trans (if_neg hv))
      go_wp2
      go_ret
      exact ⟨by rw [HC.out, HAT.out]; rfl, _, by first | rfl | rw [World.drewN_drewN]⟩
   ·go_wp2
    go_ret
    have : xs = ys := by
     apply List.ext_getElem (by rw [← HE.out, ← HE'.out])
     intro j h1 h2
     have := hno.out j (by have := HE.out; omega)
     simpa [List.getD, h1, h2] using this
    exact ⟨by subst this; rw [HC.out, cmpG_self]; rfl, _, rfl⟩
 ·have HC := Lib.hid (show cmpC xs ys = (n : Int) - n' by unfold cmpC; rw [if_neg (by rw [← HE.out, ← HE'.out]; exact hne), ← HE.out, ← HE'.out])
  have hne' : ((n : Int) == n') = false := by simp; omega
  go_enter Tryz.func53, Tryz.ntmps53
  go_wp2
  go_ret
  exact ⟨by rw [HC.out]; rfl, 0, rfl⟩
end Go.Proofs.YtllkogdgmmcfgaaGreatDoor
/- Nrm: Sorting clauses in place, on the abstract machine; no condition. -/
namespace Go.Proofs.YtllkogdgmmcfgaaGreatDoor
set_option linter.unusedVariables false
set_option linter.unusedSimpArgs false
set_option linter.unusedSectionVars false
open Go.RowKit Go.Shelf Go.Sort

def clLe (c d : List Int) : Bool := !decide (cmpC d c < 0)
def sortRows (L : List (List Int)) : List (List Int) := L.mergeSort clLe
theorem sortRows_perm (L : List (List Int)) : (sortRows L).Perm L := List.mergeSort_perm _ _
theorem clLe_trans {a b c : List Int} (ha : Lits a) (hb : Lits b) (hc : Lits c) (h1 : clLe a b = true) (h2 : clLe b c = true) : clLe a c = true := by
 simp only [clLe, Bool.not_eq_true', decide_eq_false_iff_not, Int.not_lt] at *
 have k1 := (cmpC_anti hb ha)
 have k2 := (cmpC_anti hc hb)
 have k3 := (cmpC_anti hc ha)
 refine Int.not_lt.1 fun h => ?_
 -- c < a; b ≤ c .. b ≤ a
 have h3 : cmpC b a < 0 ∨ cmpC b a = 0 ∨ 0 < cmpC b a := by omega
 rcases h3 with h3 | h3 | h3
 ·omega
 ·have := k1.1 h3; subst this
  omega
 ·have h4 : cmpC a b < 0 := (cmpC_anti ha hb).2.2 h3
  have h5 := cmpC_trans hc ha hb h h4
  omega
theorem clLe_total {a b : List Int} (ha : Lits a) (hb : Lits b) : clLe a b = true ∨ clLe b a = true := by
 have h2 := (cmpC_anti hb ha).2
 by_cases h : cmpC b a < 0
 ·right
  have : ¬ cmpC a b < 0 := by have := h2.1 h; omega
  simp [clLe, this]
 ·left
  simp [clLe, h]
theorem clLe_anti {a b : List Int} (ha : Lits a) (hb : Lits b) (h1 : clLe a b = true) (h2 : clLe b a = true) : a = b := by
 simp only [clLe, Bool.not_eq_true', decide_eq_false_iff_not, Int.not_lt] at *
 have k := cmpC_anti ha hb
 have k2 := (cmpC_anti hb ha).2
 exact k.1 (by omega)

theorem pairwise_mergeSort_of {L : List (List Int)} (h : ∀ c ∈ L, Lits c) : List.Pairwise (fun a b => clLe a b = true) (L.mergeSort clLe) := by
 obtain ⟨M, rfl⟩ : ∃ M : List {c : List Int // Lits c}, M.map Subtype.val = L := by
  induction L with
  | nil => exact ⟨[], rfl⟩
  | cons c r ih =>
   obtain ⟨M, hM⟩ := ih (fun c hc => h c (by simp [hc]))
   exact ⟨⟨c, h c (by simp)⟩ :: M, by simp [hM]⟩
 have h1 := List.pairwise_mergeSort (le := fun a b : {c : List Int // Lits c} => clLe a.1 b.1) (fun a b c h1 h2 => clLe_trans a.2 b.2 c.2 h1 h2) (fun a b => by
  have := clLe_total a.2 b.2
  simpa using this) M
 rw [← List.map_mergeSort (r := fun a b : {c : List Int // Lits c} => clLe a.1 b.1) (s := clLe) (fun a _ b _ => rfl), List.pairwise_map]
 exact h1

def sortR_ren : Go.Shelf.Ren := ⟨fun | 6 => 52 | 15 => 97 | 14 => 96 | 28 => 128 | 29 => 129 | 20 => 120 | 21 => 121 | 22 => 122 | 23 => 123 | 24 => 124 | 25 => 125 | 26 => 126 | 27 => 127 | 46 => 133 | 47 => 134 | 48 => 135 | 49 => 136 | 50 => 137 | 57 => 146 | n => n, fun | 22 => 22 | 24 => 30 | 25 => 90 | 3 => 3 | 39 => 44 | 0 => 0 | 53 => 139 | 55 => 43 | 4 => 4 | 46 => 132 | 45 => 131 | 50 => 136 | 5 => 5 | 9 => 9 | 66 => 142 | 70 => 146 | 76 => 153 | 77 => 154 | n => n, fun | n => n⟩
theorem sortR : Go.Proofs.SlLaysF.n6 Tryz.prog sortR_ren := {
 mixed := by kernel_rfl,
 f6 := ⟨Tryz.f52.name, by decide, Tryz.func52.trans (congrArg some (by kernel_rfl))⟩,
 f14 := ⟨Tryz.f96.name, by decide, Tryz.func96.trans (congrArg some (by kernel_rfl))⟩,
 f15 := Tryz.func97.trans (congrArg some (by kernel_rfl)),
 f20 := ⟨Tryz.f120.name, by decide, Tryz.func120.trans (congrArg some (by kernel_rfl))⟩,
 f21 := ⟨Tryz.f121.name, by decide, Tryz.func121.trans (congrArg some (by kernel_rfl))⟩,
 f22 := ⟨Tryz.f122.name, by decide, Tryz.func122.trans (congrArg some (by kernel_rfl))⟩,
 f23 := ⟨Tryz.f123.name, by decide, Tryz.func123.trans (congrArg some (by kernel_rfl))⟩,
 f24 := ⟨Tryz.f124.name, by decide, Tryz.func124.trans (congrArg some (by kernel_rfl))⟩,
 f25 := ⟨Tryz.f125.name, by decide, Tryz.func125.trans (congrArg some (by kernel_rfl))⟩,
 f26 := ⟨Tryz.f126.name, by decide, Tryz.func126.trans (congrArg some (by kernel_rfl))⟩,
 f27 := ⟨Tryz.f127.name, by decide, Tryz.func127.trans (congrArg some (by kernel_rfl))⟩,
 f28 := Tryz.func128.trans (congrArg some (by kernel_rfl)),
 f29 := Tryz.func129.trans (congrArg some (by kernel_rfl)),
 f46 := ⟨Tryz.f133.name, by decide, Tryz.func133.trans (congrArg some (by kernel_rfl))⟩,
 f47 := Tryz.func134.trans (congrArg some (by kernel_rfl)),
 f48 := Tryz.func135.trans (congrArg some (by kernel_rfl)),
 f49 := ⟨Tryz.f136.name, by decide, Tryz.func136.trans (congrArg some (by kernel_rfl))⟩,
 f50 := ⟨Tryz.f137.name, by decide, Tryz.func137.trans (congrArg some (by kernel_rfl))⟩,
 f57 := ⟨Tryz.f146.name, by decide, Tryz.func146.trans (congrArg some (by kernel_rfl))⟩,
 t0 := Tryz.underlying0,
 a0 := Tryz.isAgg0,
 z0 := Tryz.sizeOf0,
 v0 := Tryz.zeroValue0,
 t3 := Tryz.underlying3,
 a3 := Tryz.isAgg3,
 z3 := Tryz.sizeOf3,
 v3 := Tryz.zeroValue3,
 t4 := Tryz.underlying4,
 a4 := Tryz.isAgg4,
 z4 := Tryz.sizeOf4,
 v4 := Tryz.zeroValue4,
 t5 := Tryz.underlying5,
 a5 := Tryz.isAgg5,
 z5 := Tryz.sizeOf5,
 v5 := Tryz.zeroValue5,
 t9 := Tryz.underlying9,
 a9 := Tryz.isAgg9,
 z9 := Tryz.sizeOf9,
 v9 := Tryz.zeroValue9,
 t22 := Tryz.underlying22,
 a22 := Tryz.isAgg22,
 z22 := Tryz.sizeOf22,
 v22 := Tryz.zeroValue22,
 a24 := Tryz.isAgg30,
 z24 := Tryz.sizeOf30,
 t25 := Tryz.underlying90,
 a25 := Tryz.isAgg90,
 z25 := Tryz.sizeOf90,
 v25 := Tryz.zeroValue90,
 t39 := Tryz.underlying44,
 a39 := Tryz.isAgg44,
 z39 := Tryz.sizeOf44,
 v39 := Tryz.zeroValue44,
 t45 := Tryz.underlying131,
 a45 := Tryz.isAgg131,
 z45 := Tryz.sizeOf131,
 v45 := Tryz.zeroValue131,
 t46 := Tryz.underlying132,
 a46 := Tryz.isAgg132,
 z46 := Tryz.sizeOf132,
 v46 := Tryz.zeroValue132,
 t50 := Tryz.underlying136,
 a50 := Tryz.isAgg136,
 z50 := Tryz.sizeOf136,
 v50 := Tryz.zeroValue136,
 t53 := Tryz.underlying139,
 a53 := Tryz.isAgg139,
 z53 := Tryz.sizeOf139,
 v53 := Tryz.zeroValue139,
 t55 := Tryz.underlying43,
 a55 := Tryz.isAgg43,
 z55 := Tryz.sizeOf43,
 v55 := Tryz.zeroValue43,
 t66 := Tryz.underlying142,
 a66 := Tryz.isAgg142,
 z66 := Tryz.sizeOf142,
 v66 := Tryz.zeroValue142,
 t70 := Tryz.underlying146,
 a70 := Tryz.isAgg146,
 z70 := Tryz.sizeOf146,
 v70 := Tryz.zeroValue146,
 t76 := Tryz.underlying153,
 a76 := Tryz.isAgg153,
 z76 := Tryz.sizeOf153,
 v76 := Tryz.zeroValue153,
 t77 := Tryz.underlying154,
 a77 := Tryz.isAgg154,
 z77 := Tryz.sizeOf154,
 v77 := Tryz.zeroValue154 }


abbrev RowV (S : Nat → Nat → Option Value) := { p : Value × List Int // Rv (G0 S) (aInts p.2) p.1 ∧ p.1.oneCell' = true ∧ okInts p.2 = true ∧ Lits p.2 }
instance (S : Nat → Nat → Option Value) : Inhabited (RowV S) := ⟨⟨(.slice none 0 0, []), rv_nil 1, rfl, rfl, fun x hx => by cases hx⟩⟩
def encR {S : Nat → Nat → Option Value} (x : RowV S) : Value := x.1.1
def cmpR {S : Nat → Nat → Option Value} (x y : RowV S) : Int := cmpC x.1.2 y.1.2
theorem swoR {S : Nat → Nat → Option Value} : SWO (ltOf (cmpR (S := S))) where
 irrefl x := by show decide (cmpC _ _ < 0) = false; rw [cmpC_self]; rfl
 trans x y z h1 h2 := by
  have k1 : cmpC x.1.2 y.1.2 < 0 := of_decide_eq_true h1
  have k2 : cmpC y.1.2 z.1.2 < 0 := of_decide_eq_true h2
  exact decide_eq_true (cmpC_trans x.2.2.2.2 y.2.2.2.2 z.2.2.2.2 k1 k2)
 ntrans x y z h1 h2 := by
  have h3 := clLe_trans (a := z.1.2) (b := y.1.2) (c := x.1.2) z.2.2.2.2 y.2.2.2.2 x.2.2.2.2 (by
   show (!decide (cmpC y.1.2 z.1.2 < 0)) = true
   have : decide (cmpC y.1.2 z.1.2 < 0) = false := h2
   rw [this]; rfl) (by
   show (!decide (cmpC x.1.2 y.1.2 < 0)) = true
   have : decide (cmpC x.1.2 y.1.2 < 0) = false := h1
   rw [this]; rfl)
  have h4 : (!decide (cmpC x.1.2 z.1.2 < 0)) = true := h3
  show decide (cmpC x.1.2 z.1.2 < 0) = false
  simpa using h4
theorem sortRows_c {S : Nat → Nat → Option Value} {w : World} (hS : StOk S w) {b base cap : Nat} (hsep : ∀ p, S b p = none) (hb : b < w.heap.size) (d : Array (RowV S)) (hd : Holds encR w b base d) (hsz : d.size < 4611686018427387904) :
  Calls Tryz.prog 52 #[.slice (some ⟨b, base, none⟩) d.size cap, .func (.func 53) #[] #[]] w fun e w' =>
   e = .returned (.tuple #[]) ∧ ∃ (d' : Array (RowV S)) (q : Nat) (os : Array Obj), d'.size = d.size ∧ d'.toList.map (fun x => x.1.2) = sortRows (d.toList.map fun x => x.1.2) ∧ w' = sortWorld encR w b base q d' os := by
 have eg : ∀ args w, (callFunc 53 args).run Tryz.prog w = .ok (.enter 53 args) w := enters_fn Tryz.func53 (by kernel_rfl) rfl
 have hcmp : CmpReads Tryz.prog 53 #[] (encR (S := S)) cmpR b base d.size w := fun m os dk _ x y => by
  have hst : StOk S (sortWorld encR w b base m dk os) := ⟨fun b' o u h => by
   have h1 := hS.1 b' o u h
   have hne : b' ≠ b := fun e => by subst e; rw [hsep] at h; cases h
   have hlt := World.block_lt_of_cell? _ _ h1
   have : (sortWorld encR w b base m dk os).heap[b']? = w.heap[b']? := by
    show ((putRow encR (Sort.ahead w m) b base dk).heap ++ os)[b']? = _
    rw [Array.getElem?_append_left (by simpa [putRow, mapBlock, Sort.ahead] using hlt)]
    simp [putRow, mapBlock, Sort.ahead, Array.getElem?_modify, Ne.symm hne]
   rw [← h1]; unfold World.cell?; simp only [this], hS.2⟩
  exact normalFn_c (ints_of hst x.2.1 (toInts_ints _) x.2.2.2.1) (ints_of hst y.2.1 (toInts_ints _) y.2.2.2.1)
 have hT := Any.slices_SortFunc sortR (encR (S := S)) (fun x => x.2.2.1) cmpR swoR 53 #[] b base cap d w eg (CmpReads.lays hcmp) hd hb hsz
 change Calls Tryz.prog 52 _ _ _ at hT
 refine hT.mono fun e w' ⟨he, d', q, os, hp, hs, hw⟩ => ⟨he, d', q, os, hp.1, ?_, hw⟩
 obtain ⟨hsz', _, hperm⟩ := hp
 have e1 : d'.extract 0 d.size = d' := by rw [← hsz']; exact Array.extract_size
 rw [e1, Array.extract_size] at hperm
 have hlits : ∀ c ∈ d.toList.map (fun x : RowV S => x.1.2), Lits c := fun c hc => by
  obtain ⟨x, _, rfl⟩ := List.mem_map.1 hc; exact x.2.2.2.2
 have hperm2 : (d'.toList.map fun x : RowV S => x.1.2).Perm (sortRows (d.toList.map fun x => x.1.2)) := (hperm.map _).trans (sortRows_perm _).symm
 have hl1 : ∀ c ∈ d'.toList.map (fun x : RowV S => x.1.2), Lits c := fun c hc => by
  obtain ⟨x, _, rfl⟩ := List.mem_map.1 hc; exact x.2.2.2.2
 refine List.Perm.eq_of_pairwise (le := fun x y => clLe x y = true) ?_ ?_ ?_ hperm2
 ·intro a c ha hc h1 h2
  exact clLe_anti (hl1 a ha) (hlits c ((sortRows_perm _).mem_iff.1 hc)) h1 h2
 ·rw [List.pairwise_map, List.pairwise_iff_getElem]
  intro i j hi hj hij
  have := hs i j (by omega) hij (by simp at hj; omega)
  have hi' : i < d'.size := by simpa using hi
  have hj' : j < d'.size := by simpa using hj
  rw [getElem!_pos _ i hi', getElem!_pos _ j hj'] at this
  show (!decide (cmpC _ _ < 0)) = true
  have h2 : decide (cmpC (d'.toList[j]).1.2 (d'.toList[i]).1.2 < 0) = false := this
  rw [h2]; rfl
 ·unfold sortRows
  have : List.Pairwise (fun a b => clLe a b = true) ((d.toList.map fun x : RowV S => x.1.2).mergeSort clLe) := by
   refine pairwise_mergeSort_of hlits
  exact this
end Go.Proofs.YtllkogdgmmcfgaaGreatDoor
/- Dst: Contracts of lit.Clause, slices.Equal, theory.distinct, by the abstract machine; no condition. -/
namespace Go.Proofs.YtllkogdgmmcfgaaGreatDoor
set_option linter.unusedVariables false
set_option linter.unusedSimpArgs false
set_option linter.unusedSectionVars false
open Go.RowKit
open Wlk
attribute [-simp] List.getD_eq_getElem?_getD

set_option maxRecDepth 100000
theorem okL_order {c : List Int} (h : okL c = true) : okL (orderL c) = true := okL_iff.2 fun y hy => okL_iff.1 h y (mem_orderL.1 hy)
theorem okInts_order {c : List Int} (h : okInts c = true) (hL : okL c = true) : okInts (orderL c) = true := by
 have h1 := okInts_len h
 have h2 := orderL_len c
 simp only [okInts, Bool.and_eq_true, List.all_eq_true, decide_eq_true_eq]
 exact ⟨fun y hy => okInts_mem h y (mem_orderL.1 hy), by omega⟩
def clauseA (c : List Int) (n : Int) : AV := if (c.all fun y => litOk y n) then .tup [aInts (orderL c), .v (.bool (adjOpp (orderL c))), .v (.int .i64 0)] else .tup [.v (.slice none 0 0), .v (.bool false), .v (.int .i64 1)]
theorem clause_p (c : List Int) (n : Int) (hc : okInts c = true) (hn : okI n = true) : FnPure Tryz.prog 51 [aInts c, .v (.int .i64 n)] (clauseA c n) := by
 cases hv : (c.all fun y => litOk y n)
 ·refine fn_sp TT_ok Tryz.func51 (c := _) rfl (by simp [Tryz.ntmps51]) (fun B hI0 hro => ?_)
  rw [Tryz.ntmps51]
  simp only [enumA]
  refine amGo PT1_ok (h := ?_)
  (refine amRt Tryz.results51 (h := ?_); try simp [*])
  simp [clauseA, hv]
 ·have hL : okL c = true := by
   rw [okL_iff]; intro y hy; have := litOk_range (List.all_eq_true.1 hv y hy); omega
  have hO := okInts_order hc hL
  have hO2 := okL_order hL
  refine fn_sp TT_ok Tryz.func51 (c := _) rfl (by simp [Tryz.ntmps51]) (fun B hI0 hro => ?_)
  rw [Tryz.ntmps51]
  simp only [enumA]
  refine amGo PT1_ok (h := ?_)
  (refine amRt Tryz.results51 (h := ?_); try simp [*])
  simp [clauseA, hv]

/-! ### slices.Equal -/
@[simp] theorem ints_get {xs : List Int} {k : Nat} (h : k < xs.length) : (xs.map fun x => [AV.v (.int .i64 x)]).getD k [] = [.v (.int .i64 (xs.getD k 0))] := by simp [List.getD, h]
theorem equal_p (xs ys : List Int) (hx : okInts xs = true) (hy : okInts ys = true) : FnPure Tryz.prog 56 [aInts xs, aInts ys] (.v (.bool (decide (xs = ys)))) := by
 by_cases hl : xs.length = ys.length
 ·have hm := okInts_len hx
  refine fn_sp TT_ok Tryz.func56 (c := _) rfl (by simp [Tryz.ntmps56]) (fun B hI0 hro => ?_)
  rw [Tryz.ntmps56]
  simp only [enumA]
  refine amGo PT1_ok (h := ?_)
  refine s_loop (J := fun i : {k : Nat // k ≤ xs.length ∧ ∀ j, j < k → xs.getD j 0 = ys.getD j 0} => ⟨26, [(0, aInts xs), (1, aInts ys), (4, .v (.bool false)), (12, .v (.int .i64 (xs.length : Int))), (13, .v (.int .i64 (i.1 : Int)))], [], []⟩) (μ := fun i => xs.length - i.1) ⟨0, Nat.zero_le _, fun j hj => by omega⟩ ?_ (fun ⟨k, hk, he⟩ => ?_)
  ·(refine weak_id rfl ?_ ?_ <;> ((try simp only [List.mem_cons, List.not_mem_nil, or_false, forall_eq_or_imp, forall_eq]); (try simp (disch := omega) [i64w, *])))
  refine amGo PT1_ok (h := ?_)
  (focus ((with_reducible refine sp_cond (b := ?_) ?_ (fun hc => ?_) (fun hc => ?_)); rotate_left; (focus (first | rfl | (simp [lk, AS.ev]; rfl))); all_goals (try simp at hc)))
  ·have hk2 : k < ys.length := by omega
   refine amGo PT1_ok (h := ?_)
   (focus ((with_reducible refine sp_cond (b := ?_) ?_ (fun hc => ?_) (fun hc => ?_)); rotate_left; (focus (first | rfl | (simp [lk, AS.ev]; rfl))); all_goals (try simp at hc)))
   ·refine amGo PT1_ok (h := ?_)
    (refine amRt Tryz.results56 (h := ?_); try simp [*])
    rintro rfl; exact hc rfl
   ·refine amGo PT1_ok (h := ?_)
    refine k_lp ⟨k + 1, by omega, ?_⟩ ?_ ?_
    ·intro j hj
     by_cases e : j < k
     ·exact he j e
     ·obtain rfl : j = k := by omega
      exact Decidable.not_not.1 (by simpa using hc)
    ·simp; omega
    ·(refine weak_id rfl ?_ ?_ <;> ((try simp only [List.mem_cons, List.not_mem_nil, or_false, forall_eq_or_imp, forall_eq]); (try simp (disch := omega) [i64w, *])))
  ·refine amGo PT1_ok (h := ?_)
   (refine amRt Tryz.results56 (h := ?_); try simp [*])
   apply List.ext_getElem hl
   intro j h1 h2
   have := he j (by omega)
   simpa [List.getD, h1, h2] using this
 ·have hl2 : ((xs.length : Int) != (ys.length : Int)) = true := by simp; omega
  have hne : xs ≠ ys := fun e => hl (by rw [e])
  refine fn_sp TT_ok Tryz.func56 (c := _) rfl (by simp [Tryz.ntmps56]) (fun B hI0 hro => ?_)
  rw [Tryz.ntmps56]
  simp only [enumA]
  refine amGo PT1_ok (h := ?_)
  (refine amRt Tryz.results56 (h := ?_); try simp [*])
@[simp] def g_clause : List AV → Option (AV × Bool)
 | [a0, .v (.int .i64 n)] => (match toInts a0 with | some c => if (okInts c && okI n) = true then some (clauseA c n, false) else none | none => none)
 | _ => none
theorem e_clause : EntOk Tryz.prog 51 g_clause := ent_pure (by kernel_rfl) fun args r fr h => by
 unfold g_clause at h
 split at h
 ·rename_i a0 n
  split at h
  ·rename_i c t0
   split at h
   ·rename_i hc
    simp only [Bool.and_eq_true] at hc
    obtain ⟨o0, o1⟩ := hc
    cases h
    exact ⟨FnPure.cov (clause_p c n o0 o1) (.cons (cov_ints t0) (.cons (Cov.refl _) .nil)), rfl⟩
   ·cases h
  ·cases h
 ·cases h

@[simp] def g_equal : List AV → Option (AV × Bool)
 | [a0, a1] => (match toInts a0 with | some xs => (match toInts a1 with | some ys => if (okInts xs && okInts ys) = true then some (.v (.bool (decide (xs = ys))), false) else none | none => none) | none => none)
 | _ => none
theorem e_equal : EntOk Tryz.prog 56 g_equal := ent_pure (by kernel_rfl) fun args r fr h => by
 unfold g_equal at h
 split at h
 ·rename_i a0 a1
  split at h
  ·rename_i xs t0
   split at h
   ·rename_i ys t1
    split at h
    ·rename_i hc
     simp only [Bool.and_eq_true] at hc
     obtain ⟨o0, o1⟩ := hc
     cases h
     exact ⟨FnPure.cov (equal_p xs ys o0 o1) (.cons (cov_ints t0) (.cons (cov_ints t1) .nil)), rfl⟩
    ·cases h
   ·cases h
  ·cases h
 ·cases h

def l2 : List (FuncId × (List AV → Option (AV × Bool))) :=
 (51, g_clause) :: (56, g_equal) :: l1
theorem l2_ok : ∀ p ∈ l2, EntOk Tryz.prog p.1 p.2 := ent_cons e_clause (ent_cons e_equal (l1_ok))
def PT2 : PTab := tab l2
theorem PT2_ok : PTok Tryz.prog PT2 := tab_ok l2_ok
@[simp] theorem PT2_clause : PT2 51 = g_clause := rfl
@[simp] theorem PT2_equal : PT2 56 = g_equal := rfl
@[simp] theorem PT2_old (f : FuncId) (h : decide (f ≠ 51 ∧ f ≠ 56) = true) : PT2 f = PT1 f := (fun h => Eq.trans (tab_old h.1) (tab_old h.2)) (of_decide_eq_true h)
end Go.Proofs.YtllkogdgmmcfgaaGreatDoor
/- Dst2: Contract of theory.distinct, by the abstract machine; no condition. -/
namespace Go.Proofs.YtllkogdgmmcfgaaGreatDoor
set_option linter.unusedVariables false
set_option linter.unusedSimpArgs false
set_option linter.unusedSectionVars false
open Go.RowKit
open Wlk
attribute [-simp] List.getD_eq_getElem?_getD
set_option maxRecDepth 100000

def distK (L : List (List Int)) (k : Nat) : List (List Int) := (List.range k).filterMap fun i => if i = 0 ∨ L.getD (i - 1) [] ≠ L.getD i [] then some (L.getD i []) else none
def distL (L : List (List Int)) : List (List Int) := distK L L.length
theorem distK_succ (L : List (List Int)) (k : Nat) : distK L (k + 1) = distK L k ++ if k = 0 ∨ L.getD (k - 1) [] ≠ L.getD k [] then [L.getD k []] else [] := by
 unfold distK
 rw [List.range_succ, List.filterMap_append]
 congr 1
 by_cases h : k = 0 ∨ L.getD (k - 1) [] ≠ L.getD k []
 ·rw [List.filterMap_cons, if_pos h, if_pos h]; rfl
 ·rw [List.filterMap_cons, if_neg h, if_neg h]; rfl
theorem distK_len (L : List (List Int)) (k : Nat) : (distK L k).length ≤ k := by
 unfold distK
 exact Nat.le_trans (List.length_filterMap_le _ _) (by simp)
theorem distinct_p (L : List (List Int)) (h : okRows L = true) : FnPure Tryz.prog 55 [aRows L, .v (.func (.func 56) #[] #[])] (aRows (distL L)) := by
 have hm := okRows_len h
 refine fn_sp TT_ok Tryz.func55 (c := _) rfl (by simp [Tryz.ntmps55]) (fun B hI0 hro => ?_)
 rw [Tryz.ntmps55]
 simp only [enumA]
 refine amGo PT2_ok (h := ?_)
 refine s_nil 5 0 30 1 (by simp [lk]) (by simp) ?_
 simp only [st]
 refine s_loop (J := fun i : {k : Nat // k ≤ L.length} => ⟨37, [(0, aRows L), (1, .v (.func (.func 56) #[] #[])), (5, .ref 0 0 (distK L i.1).length), (8, .v (.int .i64 (L.length : Int))), (9, .v (.int .i64 (i.1 : Int)))], [(0, ⟨30, 1, (distK L i.1).map fun xs => [aInts xs]⟩)], [0]⟩) (μ := fun i => L.length - i.1) ⟨0, Nat.zero_le _⟩ ?_ (fun ⟨k, hk⟩ => ?_)
 ·(refine weak_id rfl ?_ ?_ <;> ((try simp only [List.mem_cons, List.not_mem_nil, or_false, forall_eq_or_imp, forall_eq]); (try simp (disch := omega) [i64w, *])))
  all_goals rfl
 refine amGo PT2_ok (h := ?_)
 (focus ((with_reducible refine sp_cond (b := ?_) ?_ (fun hc => ?_) (fun hc => ?_)); rotate_left; (focus (first | rfl | (simp [lk, AS.ev]; rfl))); all_goals (try simp at hc)))
 ·have hd := distK_len L k
  have hcap : ((distK L k).length + 1) * 24 ≤ 140737488355328 := by omega
  by_cases h0 : k = 0
  ·subst h0
   have hs : distK L 1 = distK L 0 ++ [L.getD 0 []] := by rw [distK_succ, if_pos (.inl rfl)]
   refine amGo PT2_ok (h := ?_)
   refine k_lp (⟨1, by omega⟩ : {k : Nat // k ≤ L.length}) (by dsimp only; omega) ?_
   (refine weak_of (fun _ => 7) ⟨rfl, ?_, ?_, ?_⟩ <;> ((try simp only [List.mem_cons, List.not_mem_nil, or_false, forall_eq_or_imp, forall_eq]); (try simp (disch := omega) [lk, AV.ids, idsL, idsLL, AV.ren, renL, renLL, i64w, *])))
  ·obtain ⟨p, hp⟩ : ∃ p, p + 1 = k := ⟨k - 1, by omega⟩
   have hp1 : p < L.length := by omega
   have h1 := okRows_at h p
   have h2 := okRows_at h k
   have w1 : IntKind.i64.wrap ((k : Int) - 1) = (p : Int) := by rw [i64w] <;> omega
   have h0' : ((k : Int) == 0) = false := by simp; omega
   have hs := distK_succ L k
   rw [show k - 1 = p by omega] at hs
   refine amGo PT2_ok (h := ?_)
   (focus ((with_reducible refine sp_cond (b := ?_) ?_ (fun hc => ?_) (fun hc => ?_)); rotate_left; (focus (first | rfl | (simp [lk, AS.ev]; rfl))); all_goals (try simp at hc)))
   ·rw [if_pos (.inr hc)] at hs
    refine amGo PT2_ok (h := ?_)
    refine k_lp (⟨k + 1, by omega⟩ : {k : Nat // k ≤ L.length}) ?_ ?_
    ·dsimp only; omega
    (refine weak_of (fun _ => 7) ⟨rfl, ?_, ?_, ?_⟩ <;> ((try simp only [List.mem_cons, List.not_mem_nil, or_false, forall_eq_or_imp, forall_eq]); (try simp (disch := omega) [lk, AV.ids, idsL, idsLL, AV.ren, renL, renLL, i64w, *])))
   ·rw [if_neg (by simp only [ne_eq, not_or, Decidable.not_not]; exact ⟨h0, hc⟩), List.append_nil] at hs
    refine amGo PT2_ok (h := ?_)
    refine k_lp (⟨k + 1, by omega⟩ : {k : Nat // k ≤ L.length}) (by dsimp only; omega) ?_
    (refine weak_id rfl ?_ ?_ <;> ((try simp only [List.mem_cons, List.not_mem_nil, or_false, forall_eq_or_imp, forall_eq]); (try simp (disch := omega) [i64w, *])))
 ·have hk' : k = L.length := by omega
  subst hk'
  refine amGo PT2_ok (h := ?_)
  (refine amRt Tryz.results55 (h := ?_); try simp [*])
  rfl
@[simp] def g_distinct : List AV → Option (AV × Bool)
 | [a, .v (.func (.func 56) first caps)] => (match toRows a with | some L => if okRows L = true ∧ first = #[] ∧ caps = #[] then some (aRows (distL L), false) else none | none => none)
 | _ => none
theorem e_distinct : EntOk Tryz.prog 55 g_distinct := ent_pure (by kernel_rfl) fun args r fr h => by
 unfold g_distinct at h
 split at h
 ·split at h
  ·rename_i L t0
   split at h
   ·rename_i hc
    obtain ⟨o0, rfl, rfl⟩ := hc
    cases h
    exact ⟨FnPure.cov (distinct_p L o0) (.cons (cov_rows t0) (.cons (Cov.refl _) .nil)), rfl⟩
   ·cases h
  ·cases h
 ·cases h
def l3 : List (FuncId × (List AV → Option (AV × Bool))) :=
 (55, g_distinct) :: l2
theorem l3_ok : ∀ p ∈ l3, EntOk Tryz.prog p.1 p.2 := ent_cons e_distinct (l2_ok)
def PT3 : PTab := tab l3
theorem PT3_ok : PTok Tryz.prog PT3 := tab_ok l3_ok
@[simp] theorem PT3_distinct : PT3 55 = g_distinct := rfl
@[simp] theorem PT3_old (f : FuncId) (h : decide (f ≠ 55) = true) : PT3 f = PT2 f := tab_old (of_decide_eq_true h)
end Go.Proofs.YtllkogdgmmcfgaaGreatDoor
/- Srt: Sorting clauses in place: the operation on the abstract machine; no condition. -/
namespace Go.Proofs.YtllkogdgmmcfgaaGreatDoor
set_option linter.unusedVariables false
set_option linter.unusedSimpArgs false
set_option linter.unusedSectionVars false
open Go.RowKit Go.Shelf Go.Sort

theorem sortWorld_block {S : Nat → Nat → Option Value} {w : World} {b base q : Nat} {d : Array (RowV S)} {os : Array Obj} {k : Nat} (hk : k < w.heap.size) (hne : k ≠ b) : (sortWorld encR w b base q d os).heap[k]? = w.heap[k]? := by
 show ((putRow encR (Sort.ahead w q) b base d).heap ++ os)[k]? = _
 rw [Array.getElem?_append_left (by simpa [putRow, mapBlock, Sort.ahead] using hk)]
 simp [putRow, mapBlock, Sort.ahead, Array.getElem?_modify, Ne.symm hne]
theorem sortWorld_own {S : Nat → Nat → Option Value} {w : World} {b base q : Nat} {d : Array (RowV S)} {os : Array Obj} {vs : Array Value} {t : TypeId} {fz : Nat × Nat} (h : w.heap[b]? = some (.cells vs t fz)) : (sortWorld encR w b base q d os).heap[b]? = some (.cells (putCells encR base d vs) t fz) := by
 have hlt := (Array.getElem?_eq_some_iff.1 h).1
 show ((putRow encR (Sort.ahead w q) b base d).heap ++ os)[b]? = _
 rw [Array.getElem?_append_left (by simpa [putRow, mapBlock, Sort.ahead] using hlt)]
 simp [putRow, mapBlock, Sort.ahead, Array.getElem?_modify, h, onCells]
theorem run_call_args {P : Program} {o : Oper} {f : FuncId} {args : Array Operand} {ts : Array TypeId} (ho : o.op = .call { callee := .value (.func f), args := args, argTypes := ts }) (hf : fnB P f = true) (a : Act) (w : World) : (execOp a.eval o).run P w = .ok (.enter f (args.map a.eval)) w := by
 unfold execOp
 rw [ho]
 simp [resolve, Act.eval, Deferred.ofValue, invoke, run_callFunc hf]
theorem ok_sortRows {σ : AS} {o : Oper} {x : Operand} {ts : Array TypeId} {k : Nat} {t : TypeId} {L : List (List Int)} (ho : o.op = .call { callee := .value (.func 52), args := #[x, .func 53], argTypes := ts })
  (hx : σ.ev x = some (.ref k 0 L.length)) (hob : lk σ.objs k = some ⟨t, 1, L.map fun c => [aInts c]⟩) (hL : okRows L = true) (hl : ∀ c ∈ L, Lits c) : CoreOk Tryz.prog o σ (.v (.tuple #[]), [(k, some ⟨t, 1, (sortRows L).map fun c => [aInts c]⟩)]) := by
 intro B G w a hr K Q hK
 have hv := hr.ev hx
 have hlen := okRows_len hL
 unfold Oper.wp
 rw [run_call_args ho (by kernel_rfl)]
 have harg : (#[x, Operand.func 53] : Array Operand).map a.eval = #[a.eval x, .func (.func 53) #[] #[]] := by simp [Act.eval]
 rw [harg]
 generalize a.eval x = v at hv
 cases hv with
 | ref _ _ _ blk base cap sz ad hloc hle hm hb h0 =>
  obtain ⟨blk', base', cap', g1, g2, g3, g4, g5⟩ := (hr.heap.obj k _ hob).cells Nat.one_pos
  rw [hloc] at g1
  cases g1
  by_cases hne : L.length = 0
  ·obtain rfl : L = [] := List.eq_nil_of_length_eq_zero hne
   have hS := AnyF.slices_SortFunc_none (P := Tryz.prog) (ρ := sortR_ren) { sortR with } ad (cap - 0) (.func (.func 53) #[] #[]) w
   change Calls Tryz.prog 52 _ _ _ at hS
   refine Calls.mono hS fun e w' ⟨he, hw⟩ => ?_
   subst he; subst hw
   refine hK G w' (.tuple #[]) (Gh.le.refl G) ?_ (.v _)
   refine StEq.R (σ := σ) (τ := σ.upd [(k, some (⟨t, 1, (sortRows []).map fun c => [aInts c]⟩ : AObj))]) ⟨rfl, fun _ => rfl, fun q => ?_, fun q => ?_⟩ hr
   ·simp only [AS.upd, updO, lk_st]
    split
    ·rename_i e; subst e; rw [hob]; simp [sortRows]
    ·rfl
   ·rw [show (σ.upd [(k, some (⟨t, 1, (sortRows []).map fun c => [aInts c]⟩ : AObj))]).ids = updI σ.ids [(k, some ⟨t, 1, (sortRows []).map fun c => [aInts c]⟩)] from rfl, updI_mem]
    constructor
    ·exact .inr
    ·rintro (h | h)
     ·simp at h; subst h; exact hr.ids _ (by rw [hloc]; simp)
     ·exact h
  ·obtain ⟨b, rfl, rfl⟩ := hb (by omega)
   obtain ⟨vs, g6, g7, g8⟩ := g5
   have hget : ∀ i, i < L.length → (L.map fun c => [aInts c]).getD i [] = [aInts (L.getD i [])] := fun i hi => getD_map_rows hi
   have hrow : ∀ i, i < L.length → (vs.getD (base + i) undef).oneCell' = true ∧ Rv (G0 G.S) (aInts (L.getD i [])) (vs.getD (base + i) undef) := fun i hi => by
    obtain ⟨h1, h2⟩ := g8 i 0 (by simpa using hi) (by show 0 < 1; omega)
    have e1 : base + (i * (⟨t, 1, L.map fun c => [aInts c]⟩ : AObj).sz + 0) = base + i := by show base + (i * 1 + 0) = _; omega
    rw [e1] at h1 h2
    rw [show (⟨t, 1, L.map fun c => [aInts c]⟩ : AObj).xs.getD i [] = [aInts (L.getD i [])] from hget i hi] at h2
    exact ⟨h1, Rv.pure (G := G) (G' := G0 G.S) (fun _ _ _ h => h) h2 (ids_ints _)⟩
   have hblk := (Array.getElem?_eq_some_iff.1 g6).1
   let d : Array (RowV G.S) := (List.ofFn fun i : Fin L.length => (⟨(vs.getD (base + i.1) undef, L.getD i.1 []), (hrow i.1 i.2).2, (hrow i.1 i.2).1, okRows_at hL i.1, by
    have : L.getD i.1 [] = L[i.1] := by simp [i.2]
    rw [this]; exact hl _ (List.getElem_mem _)⟩ : RowV G.S)).toArray
   have hdsz : d.size = L.length := by simp [d]
   have hdget : ∀ j, j < d.size → (d[j]!).1 = (vs.getD (base + j) undef, L.getD j []) := fun j hj => by
    have hj2 : j < L.length := by omega
    rw [getElem!_pos d j hj]; simp [d, List.getD, hj2]
   have hdL : d.toList.map (fun x => x.1.2) = L := by
    apply List.ext_getElem
    ·simp [d]
    ·intro i h1 h2
     simp [d, List.getD, h2]
   have hH : Holds encR w b (base + 0 * 1) d := fun j hj => by
    have hj' : base + j < vs.size := by
     have : j < cap := by omega
     have : base + cap * 1 ≤ vs.size := g7
     omega
    refine ⟨?_, by simp [World.frozen?, g6]⟩
    show w.cell? ⟨b, base + 0 * 1 + j, none⟩ = some (d[j]!).1.1
    rw [hdget j hj, show base + 0 * 1 + j = base + j by omega]
    simp [World.cell?, g6, hj']
   have hS := sortRows_c hr.heap.stOk (cap := cap - 0) (hr.heap.sep k _ hob b _ hloc) hblk d hH (by omega)
   rw [hdsz] at hS
   refine Calls.mono hS fun e w' ⟨he, d', q, os, hs1, hs2, hw⟩ => ?_
   subst he
   rw [hdL] at hs2
   refine hK G w' (.tuple #[]) (Gh.le.refl G) ?_ (.v _)
   have hown : w'.heap[b]? = some (.cells (putCells encR (base + 0 * 1) d' vs) t (0, 0)) := by rw [hw]; exact sortWorld_own g6
   have hsl : (sortRows L).length = L.length := (sortRows_perm L).length_eq
   refine ⟨hr.n, hr.slot, hr.defers, ?_, fun q hq => ?_⟩
   ·refine hr.heap.step (by rw [hw]; rfl) (by rw [hw]; rfl) (by rw [hw]; rfl) (by rw [hw]; show _ ≤ ((putRow encR (Sort.ahead w q) b (base + 0 * 1) d').heap ++ os).size; simp [putRow, mapBlock, Sort.ahead]) (Gh.le.refl G) rfl b k (fun b' hne' hlt => by rw [hw]; exact sortWorld_block hlt hne') (.inr ⟨k, _, _, hob, hloc⟩) (fun q' ob' hq' => ?_)
    simp only [AS.upd, updO, lk_st] at hq'
    split at hq'
    ·rename_i e; subst e; cases hq'
     refine .inl ⟨rfl, .of Nat.one_pos ⟨some b, base, cap, hloc, by simp [hsl]; omega, g3, fun i hi => ?_, _, hown, ?_, fun i j hi hj => ?_⟩, fun b' x hl' => ?_⟩
     ·simp only [List.length_map] at hi
      simp [List.getD, hi]
     ·simpa [putCells] using g7
     ·simp only [List.length_map] at hi
      have hj0 : j = 0 := by
       have : j < 1 := hj
       omega
      subst hj0
      have hi' : i < d'.size := by omega
      have e1 : base + (i * (⟨t, 1, (sortRows L).map fun c => [aInts c]⟩ : AObj).sz + 0) = base + i := by show base + (i * 1 + 0) = _; omega
      rw [e1]
      have hvi : base + i < vs.size := by
       have : base + cap * 1 ≤ vs.size := g7
       omega
      have e2 : (putCells encR (base + 0 * 1) d' vs).getD (base + i) undef = (d'[i]!).1.1 := by
       simp only [putCells, Nat.zero_mul, Nat.add_zero, Array.getD_eq_getD_getElem?, Array.getElem?_mapIdx]
       rw [Array.getElem?_eq_getElem hvi]
       simp only [Option.map_some, Option.getD_some]
       rw [if_pos (by omega), show base + i - base = i by omega]
       rfl
      rw [e2, getElem!_pos d' i hi']
      refine ⟨d'[i].2.2.1, ?_⟩
      have e3 : ((⟨t, 1, (sortRows L).map fun c => [aInts c]⟩ : AObj).xs.getD i []).getD 0 .any = aInts (d'[i].1.2) := by
       show (((sortRows L).map fun c => [aInts c]).getD i []).getD 0 .any = _
       rw [getD_map_rows hi, ← hs2]
       simp [List.getD, hi']
      rw [e3]
      exact Rv.mono (G := G0 G.S) (G' := G) ⟨fun _ _ _ h => h, fun _ _ h => by cases h⟩ d'[i].2.1
     ·rw [hloc] at hl'; cases hl'; rfl
    ·rename_i e
     refine .inr ⟨Ne.symm e, hq', fun b' x hl' e2 => ?_⟩
     subst e2
     exact e (hr.heap.inj _ _ _ _ hob hq' _ _ _ hloc hl')
   ·rw [show (σ.upd [(k, some (⟨t, 1, (sortRows L).map fun c => [aInts c]⟩ : AObj))]).ids = updI σ.ids [(k, some ⟨t, 1, (sortRows L).map fun c => [aInts c]⟩)] from rfl, updI_mem]
    exact .inr (hr.ids q hq)
end Go.Proofs.YtllkogdgmmcfgaaGreatDoor
/- Nml: Contract of theory.Normal, by the abstract machine; no condition. -/
namespace Go.Proofs.YtllkogdgmmcfgaaGreatDoor
set_option linter.unusedVariables false
set_option linter.unusedSimpArgs false
set_option linter.unusedSectionVars false
open Go.RowKit
open Wlk
attribute [-simp] List.getD_eq_getElem?_getD
set_option maxRecDepth 100000

def openL (L : List (List Int)) : List (List Int) := (L.filter fun c => !adjOpp (orderL c)).map orderL
theorem openL_len (L : List (List Int)) : (openL L).length ≤ L.length := by
 unfold openL
 rw [List.length_map]
 exact List.length_filter_le _ _
theorem openL_take (L : List (List Int)) {k : Nat} (hk : k < L.length) : openL (L.take (k + 1)) = openL (L.take k) ++ if adjOpp (orderL (L.getD k [])) = true then [] else [orderL (L.getD k [])] := by
 have : L.getD k [] = L[k] := by simp [List.getD, hk]
 unfold openL
 rw [List.take_succ_eq_append_getElem hk, List.filter_append, List.map_append, this]
 congr 1
 cases h : adjOpp (orderL L[k]) <;> simp [h]
theorem okRows_sort {L : List (List Int)} (h : okRows L = true) : okRows (sortRows L) = true := by
 have h1 := (sortRows_perm L).length_eq
 have h2 := okRows_len h
 simp only [okRows, Bool.and_eq_true, List.all_eq_true, decide_eq_true_eq]
 exact ⟨fun c hc => okRows_mem h c ((sortRows_perm L).mem_iff.1 hc), by omega⟩
def normL (L : List (List Int)) : List (List Int) := distL (sortRows (openL L))
def aTh (N : Int) (L : List (List Int)) : AV := .agg [.v (.int .i64 N), aRows L]
def normA (N : Int) (L : List (List Int)) : AV := if checkT N L = 0 then .tup [aTh N (normL L), .v (.int .i64 0)] else .tup [.agg [.v (.int .i64 0), .v (.slice none 0 0)], .v (.int .i64 (checkT N L))]
theorem normal_p (N : Int) (L : List (List Int)) (hN : okI N = true) (h : okRows L = true) : FnPure Tryz.prog 26 [aTh N L] (normA N L) := by
 have hm := okRows_len h
 by_cases hz : checkT N L = 0
 ·have hck := checkT_ok hz
  unfold aTh
  refine fn_sp TT_ok Tryz.func26 (c := _) rfl (by simp [Tryz.ntmps26]) (fun B hI0 hro => ?_)
  rw [Tryz.ntmps26]
  simp only [enumA]
  refine amGo PT3_ok (h := ?_)
  refine s_nil 5 2 30 1 (by simp [lk]) (by simp) ?_
  simp only [st]
  refine s_loop (J := fun i : {k : Nat // k ≤ L.length} => ⟨46, [(1, .ptr 0 0 0), (2, .ptr 1 0 0), (3, .v (.int .i64 0)), (5, .ref 2 0 (openL (L.take i.1)).length), (18, aRows L), (19, .v (.int .i64 (L.length : Int))), (20, .v (.int .i64 (i.1 : Int)))], [(0, ⟨24, 2, [[.v (.int .i64 N), aRows L]]⟩), (1, ⟨24, 2, [[.v (.int .i64 0), .v (.slice none 0 0)]]⟩), (2, ⟨30, 1, (openL (L.take i.1)).map fun xs => [aInts xs]⟩)], [2, 1, 0]⟩) (μ := fun i => L.length - i.1) ⟨0, Nat.zero_le _⟩ ?_ (fun ⟨k, hk⟩ => ?_)
  ·(refine weak_id rfl ?_ ?_ <;> ((try simp only [List.mem_cons, List.not_mem_nil, or_false, forall_eq_or_imp, forall_eq]); (try simp (disch := omega) [i64w, *])))
   all_goals rfl
  refine amGo PT3_ok (h := ?_)
  (focus ((with_reducible refine sp_cond (b := ?_) ?_ (fun hc => ?_) (fun hc => ?_)); rotate_left; (focus (first | rfl | (simp [lk, AS.ev]; rfl))); all_goals (try simp at hc)))
  ·have hd := openL_len (L.take k)
   have htk : (L.take k).length ≤ k := by rw [List.length_take]; omega
   have hcap : ((openL (L.take k)).length + 1) * 24 ≤ 140737488355328 := by omega
   have hmem : L.getD k [] ∈ L := by
    have : L.getD k [] = L[k] := by simp [List.getD, hc]
    rw [this]; exact List.getElem_mem _
   have ho := okRows_at h k
   have hv : ((L.getD k []).all fun y => litOk y N) = true := List.all_eq_true.2 (hck.2.2.2 _ hmem).2
   have hA : clauseA (L.getD k []) N = .tup [aInts (orderL (L.getD k [])), .v (.bool (adjOpp (orderL (L.getD k [])))), .v (.int .i64 0)] := by unfold clauseA; rw [if_pos hv]
   have hs := openL_take L hc
   refine amGo PT3_ok (h := ?_)
   (focus ((with_reducible refine sp_cond (b := ?_) ?_ (fun hc => ?_) (fun hc => ?_)); rotate_left; (focus (first | rfl | (simp [lk, AS.ev]; rfl))); all_goals (try simp at hc)))
   ·simp only [hc, if_true, Bool.false_eq_true, if_false, List.append_nil] at hs
    refine amGo PT3_ok (h := ?_)
    refine k_lp (⟨k + 1, by omega⟩ : {k : Nat // k ≤ L.length}) (by dsimp only; omega) ?_
    (refine weak_of (fun q => if q = 2 then 6 else q) ⟨rfl, ?_, ?_, ?_⟩ <;> ((try simp only [List.mem_cons, List.not_mem_nil, or_false, forall_eq_or_imp, forall_eq]); (try simp (disch := omega) [lk, AV.ids, idsL, idsLL, AV.ren, renL, renLL, i64w, *])))
   ·simp only [hc, if_true, Bool.false_eq_true, if_false, List.append_nil] at hs
    refine amGo PT3_ok (h := ?_)
    refine k_lp (⟨k + 1, by omega⟩ : {k : Nat // k ≤ L.length}) (by dsimp only; omega) ?_
    (refine weak_id rfl ?_ ?_ <;> ((try simp only [List.mem_cons, List.not_mem_nil, or_false, forall_eq_or_imp, forall_eq]); (try simp (disch := omega) [i64w, *])))
  ·obtain rfl : k = L.length := by omega
   rw [List.take_length]
   have hlits : ∀ c ∈ openL L, Lits c := fun c hcc => by
    unfold openL at hcc
    obtain ⟨d, hd, rfl⟩ := List.mem_map.1 hcc
    intro x hx
    have := litOk_range ((hck.2.2.2 d (List.mem_filter.1 hd).1).2 x (mem_orderL.1 hx))
    unfold isLit
    have h2 := (hck.2.2.2 d (List.mem_filter.1 hd).1).2 x (mem_orderL.1 hx)
    unfold litOk at h2
    simp only [Bool.and_eq_true, decide_eq_true_eq] at h2 ⊢
    have h3 := litVar_range x
    omega
   have hok : okRows (openL L) = true := by
    have := openL_len L
    simp only [okRows, Bool.and_eq_true, List.all_eq_true, decide_eq_true_eq]
    refine ⟨fun c hcc => ?_, by omega⟩
    unfold openL at hcc
    obtain ⟨d, hd, rfl⟩ := List.mem_map.1 hcc
    have hd1 := (List.mem_filter.1 hd).1
    exact okInts_order (okRows_mem h d hd1) (okL_iff.2 fun y hy => by have := litOk_range ((hck.2.2.2 d hd1).2 y hy); omega)
   refine amGo PT3_ok (h := ?_)
   refine s_regionL ?_
   refine spl_step TT_ok PT3_ok (id := 0) (σ' := ?_) ?_ ?_
   rotate_left
   ·simp [undef, gvars, runL, runE, effA, stepA, dstOk, wantA, core, lk, st, dl, AS.ev, AS.evs, AS.put, AS.upd, updO, updI, nxt, cPick, cAlloc, cBox, cBuild, cBuildS, cLoad, cStore, cNil, plainOf, cBin, cNilS, isNilS, nilA, cUn, cConvX, cConvB, cConv, bytesOf, rowB, cMake, cSlice, slA, idxA, cFA, cF, cIA, cIX, cIS, cI, cExt, cLen, cApp, cMM, cFun, cCall, lenA, lenM, isNilM, nilM, cNilM, cMakeM, hintB, cMapK, cLook, foundR, lookR, cUpd, putM, cDel, delM, findA, isKeyB, Instr.sameNow, AS.entry, AS.bound, AS.callee, sc1, sc2, ixOk, ldA, AV.flat, AV.cell, AV.cells, Value.oneCell', fillA, spl, chunk, zeros, AS.parts, AS.rows, AS.shut, AS.shut1, AS.shut2, AS.shutL, AS.shutM, AV.ids, idsL, idsLL, eqAll, bndA, AV.scalar, AV.scalar1, AV.isV, Ef.app, Ef.pk, ptOf, pntO, wrO, wr]
    rfl
   refine spl_op (s := (.v (.tuple #[]), [(2, some ⟨30, 1, (sortRows (openL L)).map fun c => [aInts c]⟩)])) rfl rfl (ok_sortRows rfl rfl rfl hok hlits) ?_
   refine spl_nil ?_
   refine k_seq ?_
   rw [show (openL L).length = (sortRows (openL L)).length from (sortRows_perm _).length_eq.symm]
   have hok2 := okRows_sort hok
   (refine s_eq (τ := ?_) ?_ ?_; rotate_left; (focus ((try simp only [AS.frz, List.map_cons, List.map_nil]); (try simp [frzV, frzO, frzC, List.filter]); rfl)))
   refine s_frz (fun q => q == 2) ?_
   (refine s_eq (τ := ?_) ?_ ?_; rotate_left; (focus ((try simp only [AS.frz, List.map_cons, List.map_nil]); (try simp [frzV, frzO, frzC, List.filter]); rfl)))
   refine amGo PT3_ok (h := ?_)
   (refine amRt Tryz.results26 (h := ?_); try simp [*])
   unfold normA
   rw [if_pos hz]
   rfl
 ·unfold aTh
  refine fn_sp TT_ok Tryz.func26 (c := _) rfl (by simp [Tryz.ntmps26]) (fun B hI0 hro => ?_)
  rw [Tryz.ntmps26]
  simp only [enumA]
  refine amGo PT3_ok (h := ?_)
  (refine amRt Tryz.results26 (h := ?_); try simp [*])
  unfold normA
  rw [if_neg hz]
@[simp] def g_normal : List AV → Option (AV × Bool)
 | [.agg [.v (.int .i64 N), a0]] => (match toRows a0 with | some L => if (okI N && okRows L) = true then some (normA N L, false) else none | none => none)
 | _ => none
theorem e_normal : EntOk Tryz.prog 26 g_normal := ent_pure (by kernel_rfl) fun args r fr h => by
 unfold g_normal at h
 split at h
 ·rename_i N a0
  split at h
  ·rename_i L t0
   split at h
   ·rename_i hc
    simp only [Bool.and_eq_true] at hc
    obtain ⟨m0, o0⟩ := hc
    cases h
    exact ⟨FnPure.cov (normal_p N L m0 o0) (.cons (cov_th _ (cov_rows t0)) .nil), rfl⟩
   ·cases h
  ·cases h
 ·cases h

def l4 : List (FuncId × (List AV → Option (AV × Bool))) :=
 (26, g_normal) :: l3
theorem l4_ok : ∀ p ∈ l4, EntOk Tryz.prog p.1 p.2 := ent_cons e_normal (l3_ok)
def PT4 : PTab := tab l4
theorem PT4_ok : PTok Tryz.prog PT4 := tab_ok l4_ok
@[simp] theorem PT4_normal : PT4 26 = g_normal := rfl
@[simp] theorem PT4_old (f : FuncId) (h : decide (f ≠ 26) = true) : PT4 f = PT3 f := tab_old (of_decide_eq_true h)
end Go.Proofs.YtllkogdgmmcfgaaGreatDoor
/- Rn1: Contracts of censusref05.Contains, SameInts, abs, Before, by the abstract machine; no condition. -/
namespace Go.Proofs.YtllkogdgmmcfgaaGreatDoor
set_option linter.unusedVariables false
set_option linter.unusedSimpArgs false
set_option linter.unusedSectionVars false
open Go.RowKit
open Wlk
attribute [-simp] List.getD_eq_getElem?_getD
set_option maxRecDepth 100000

theorem not_mem_of_getD {xs : List Int} {x : Int} (h : ∀ j, j < xs.length → ¬ xs.getD j 0 = x) : ¬ x ∈ xs := fun hx => by
 obtain ⟨j, hj, e⟩ := List.getElem_of_mem hx
 exact h j hj (by simpa [List.getD, hj] using e)
theorem mem_of_getD {xs : List Int} {x : Int} {j : Nat} (hj : j < xs.length) (h : xs.getD j 0 = x) : x ∈ xs := by
 rw [← h]; simp [List.getD, hj]
theorem rContains_p (xs : List Int) (x : Int) (hx : okInts xs = true) : FnPure Tryz.prog 60 [aInts xs, .v (.int .i64 x)] (.v (.bool (decide (x ∈ xs)))) := by
 have hm := okInts_len hx
 refine fn_sp TT_ok Tryz.func60 (c := _) rfl (by simp [Tryz.ntmps60]) (fun B hI0 hro => ?_)
 rw [Tryz.ntmps60]
 simp only [enumA]
 refine amGo PT4_ok (h := ?_)
 refine s_loop (J := fun i : {k : Nat // k ≤ xs.length ∧ ∀ j, j < k → ¬ xs.getD j 0 = x} => ⟨18, [(0, aInts xs), (1, .v (.int .i64 x)), (5, .v (.int .i64 (i.1 : Int)))], [], []⟩) (μ := fun i => xs.length - i.1) ⟨0, Nat.zero_le _, fun j hj => by omega⟩ ?_ (fun ⟨k, hk, he⟩ => ?_)
 ·(refine weak_id rfl ?_ ?_ <;> ((try simp only [List.mem_cons, List.not_mem_nil, or_false, forall_eq_or_imp, forall_eq]); (try simp (disch := omega) [i64w, *])))
 refine amGo PT4_ok (h := ?_)
 (focus ((with_reducible refine sp_cond (b := ?_) ?_ (fun hc => ?_) (fun hc => ?_)); rotate_left; (focus (first | rfl | (simp [lk, AS.ev]; rfl))); all_goals (try simp at hc)))
 ·refine amGo PT4_ok (h := ?_)
  (focus ((with_reducible refine sp_cond (b := ?_) ?_ (fun hc => ?_) (fun hc => ?_)); rotate_left; (focus (first | rfl | (simp [lk, AS.ev]; rfl))); all_goals (try simp at hc)))
  ·have hin := mem_of_getD (by assumption) hc
   refine amGo PT4_ok (h := ?_)
   (refine amRt Tryz.results60 (h := ?_); try simp [*])
  ·refine amGo PT4_ok (h := ?_)
   refine k_lp (⟨k + 1, by omega, fun j hj => ?_⟩ : {k : Nat // k ≤ xs.length ∧ ∀ j, j < k → ¬ xs.getD j 0 = x}) (by dsimp only; omega) ?_
   ·by_cases e : j < k
    ·exact he j e
    ·obtain rfl : j = k := by omega
     exact hc
   ·(refine weak_id rfl ?_ ?_ <;> ((try simp only [List.mem_cons, List.not_mem_nil, or_false, forall_eq_or_imp, forall_eq]); (try simp (disch := omega) [i64w, *])))
 ·have hno := not_mem_of_getD (x := x) (xs := xs) (fun j hj => he j (by omega))
  refine amGo PT4_ok (h := ?_)
  (refine amRt Tryz.results60 (h := ?_); try simp [*])

def okS (x : Int) : Bool := decide (-128 ≤ x) && decide (x ≤ 128)
def absI (x : Int) : Int := if x < 0 then -x else x
theorem rAbs_p (x : Int) (hx : okS x = true) : FnPure Tryz.prog 98 [.v (.int .i64 x)] (.v (.int .i64 (absI x))) := by
 simp only [okS, Bool.and_eq_true, decide_eq_true_eq] at hx
 by_cases h : x < 0
 ·have hw : IntKind.i64.wrap (-x) = -x := i64w (by omega) (by omega)
  refine fn_sp TT_ok Tryz.func98 (c := _) rfl (by simp [Tryz.ntmps98]) (fun B hI0 hro => ?_)
  rw [Tryz.ntmps98]
  simp only [enumA]
  refine amGo PT4_ok (h := ?_)
  (refine amRt Tryz.results98 (h := ?_); try simp [*])
  simp [absI, h]
 ·refine fn_sp TT_ok Tryz.func98 (c := _) rfl (by simp [Tryz.ntmps98]) (fun B hI0 hro => ?_)
  rw [Tryz.ntmps98]
  simp only [enumA]
  refine amGo PT4_ok (h := ?_)
  (refine amRt Tryz.results98 (h := ?_); try simp [*])
  simp [absI, h]
@[simp] def g_rContains : List AV → Option (AV × Bool)
 | [a0, .v (.int .i64 x)] => (match toInts a0 with | some xs => if (okInts xs && okI x) = true then some (.v (.bool (decide (x ∈ xs))), false) else none | none => none)
 | _ => none
theorem e_rContains : EntOk Tryz.prog 60 g_rContains := ent_pure (by kernel_rfl) fun args r fr h => by
 unfold g_rContains at h
 split at h
 ·rename_i a0 x
  split at h
  ·rename_i xs t0
   split at h
   ·rename_i hc
    simp only [Bool.and_eq_true] at hc
    obtain ⟨o0, o1⟩ := hc
    cases h
    exact ⟨FnPure.cov (rContains_p xs x o0) (.cons (cov_ints t0) (.cons (Cov.refl _) .nil)), rfl⟩
   ·cases h
  ·cases h
 ·cases h

@[simp] def g_rAbs : List AV → Option (AV × Bool)
 | [.v (.int .i64 x)] => if (okI x && okS x) = true then some (.v (.int .i64 (absI x)), false) else none
 | _ => none
theorem e_rAbs : EntOk Tryz.prog 98 g_rAbs := ent_pure (by kernel_rfl) fun args r fr h => by
 unfold g_rAbs at h
 split at h
 ·rename_i x
  split at h
  ·rename_i hc
   simp only [Bool.and_eq_true] at hc
   obtain ⟨o0, hk⟩ := hc
   cases h
   exact ⟨FnPure.cov (rAbs_p x hk) (.cons (Cov.refl _) .nil), rfl⟩
  ·cases h
 ·cases h

def l5 : List (FuncId × (List AV → Option (AV × Bool))) :=
 (60, g_rContains) :: (98, g_rAbs) :: l4
theorem l5_ok : ∀ p ∈ l5, EntOk Tryz.prog p.1 p.2 := ent_cons e_rContains (ent_cons e_rAbs (l4_ok))
def PT5 : PTab := tab l5
theorem PT5_ok : PTok Tryz.prog PT5 := tab_ok l5_ok
@[simp] theorem PT5_rContains : PT5 60 = g_rContains := rfl
@[simp] theorem PT5_rAbs : PT5 98 = g_rAbs := rfl
@[simp] theorem PT5_old (f : FuncId) (h : decide (f ≠ 60 ∧ f ≠ 98) = true) : PT5 f = PT4 f := (fun h => Eq.trans (tab_old h.1) (tab_old h.2)) (of_decide_eq_true h)
end Go.Proofs.YtllkogdgmmcfgaaGreatDoor
/- Rn2: Contracts of censusref05.Before, sorted, put, Normal, by the abstract machine; no condition. -/
namespace Go.Proofs.YtllkogdgmmcfgaaGreatDoor
set_option linter.unusedVariables false
set_option linter.unusedSimpArgs false
set_option linter.unusedSectionVars false
open Go.RowKit
open Wlk
attribute [-simp] List.getD_eq_getElem?_getD
set_option maxRecDepth 100000

theorem isLit_absI {x : Int} (h : isLit x = true) : absI x = litVar x := by
 obtain ⟨h1, h2, h3, h4⟩ := isLit_abs h
 rw [h1]; unfold absI; split <;> omega
theorem lits_at {c : List Int} (h : Lits c) {k : Nat} (hk : k < c.length) : isLit (c.getD k 0) = true := by
 have : c.getD k 0 = c[k] := by simp [List.getD, hk]
 rw [this]; exact h _ (List.getElem_mem _)
theorem isLit_okS {x : Int} (h : isLit x = true) : okS x = true := by
 obtain ⟨h1, h2, h3, h4⟩ := isLit_abs h
 simp [okS, h3, h4]
theorem lits_ok {c : List Int} (h : Lits c) (hl : c.length ≤ 17592186044416) : okInts c = true := by
 simp only [okInts, Bool.and_eq_true, List.all_eq_true, decide_eq_true_eq]
 refine ⟨fun x hx => ?_, hl⟩
 obtain ⟨h1, h2, h3, h4⟩ := isLit_abs (h x hx)
 exact okI_iff.2 ⟨by omega, by omega⟩
set_option maxHeartbeats 1000000 in
theorem rBefore_p (c d : List Int) (hc : Lits c) (hd : Lits d) (hcl : c.length ≤ 17592186044416) (hdl : d.length ≤ 17592186044416) : FnPure Tryz.prog 61 [aInts c, aInts d] (.v (.bool (decide (cmpC c d < 0)))) := by
 by_cases hl : c.length = d.length
 ·have hC : cmpC c d = cmpG c d := by unfold cmpC; rw [if_pos hl]
  rw [hC]
  refine fn_sp TT_ok Tryz.func61 (c := _) rfl (by simp [Tryz.ntmps61]) (fun B hI0 hro => ?_)
  rw [Tryz.ntmps61]
  simp only [enumA]
  refine amGo PT5_ok (h := ?_)
  refine s_loop (J := fun i : {k : Nat // k ≤ c.length ∧ Hid (∀ j, j < k → c.getD j 0 = d.getD j 0)} => ⟨62, [(0, aInts c), (1, aInts d), (5, .v (.int .i64 (i.1 : Int)))], [], []⟩) (μ := fun i => c.length - i.1) ⟨0, Nat.zero_le _, (fun j hj => by omega : ∀ j, j < 0 → c.getD j 0 = d.getD j 0)⟩ ?_ (fun ⟨k, hk, he⟩ => ?_)
  ·(refine weak_id rfl ?_ ?_ <;> ((try simp only [List.mem_cons, List.not_mem_nil, or_false, forall_eq_or_imp, forall_eq]); (try simp (disch := omega) [i64w, *])))
  refine amGo PT5_ok (h := ?_)
  (focus ((with_reducible refine sp_cond (b := ?_) ?_ (fun hc => ?_) (fun hc => ?_)); rotate_left; (focus (first | rfl | (simp [lk, AS.ev]; rfl))); all_goals (try simp at hc)))
  ·rename_i hkl
   have hk1 : k < c.length := by omega
   have hk2 : k < d.length := by omega
   refine amGo PT5_ok (h := ?_)
   (focus ((with_reducible refine sp_cond (b := ?_) ?_ (fun hc => ?_) (fun hc => ?_)); rotate_left; (focus (first | rfl | (simp [lk, AS.ev]; rfl))); all_goals (try simp at hc)))
   ·have hat := cmpG_at c d k hk1 hk2 he.out hc
    have l1 := lits_at (by assumption : Lits c) hk1
    have l2 := lits_at (by assumption : Lits d) hk2
    have s1 := isLit_okS l1
    have s2 := isLit_okS l2
    have i1 : okI (c.getD k 0) = true := okI_iff.2 ⟨by have := isLit_abs l1; omega, by have := isLit_abs l1; omega⟩
    have i2 : okI (d.getD k 0) = true := okI_iff.2 ⟨by have := isLit_abs l2; omega, by have := isLit_abs l2; omega⟩
    have a1 := isLit_absI l1
    have a2 := isLit_absI l2
    have v1 := (isLit_abs l1).1
    have v2 := (isLit_abs l2).1
    have HR : Hid (cmpG c d = if litVar (c.getD k 0) = litVar (d.getD k 0) then c.getD k 0 else litVar (c.getD k 0) - litVar (d.getD k 0)) := hat
    clear hat v1 v2 l1 l2
    generalize litVar (c.getD k 0) = vx at *
    generalize litVar (d.getD k 0) = vy at *
    by_cases b1 : vx < vy
    ·refine amGo PT5_ok (h := ?_)
     (refine amRt Tryz.results61 (h := ?_); try simp [*])
     have := HR.out
     rw [if_neg (by omega)] at this
     omega
    ·by_cases b2 : vx = vy
     ·refine amGo PT5_ok (h := ?_)
      (refine amRt Tryz.results61 (h := ?_); try simp [*])
      have := HR.out
      rw [if_pos b2] at this
      omega
     ·have b3 : (vx == vy) = false := by simp [b2]
      refine amGo PT5_ok (h := ?_)
      (refine amRt Tryz.results61 (h := ?_); try simp [*])
      have := HR.out
      rw [if_neg b2] at this
      omega
   ·refine amGo PT5_ok (h := ?_)
    refine k_lp (⟨k + 1, by omega, (fun j hj => ?_ : ∀ j, j < k + 1 → c.getD j 0 = d.getD j 0)⟩ : {k : Nat // k ≤ c.length ∧ Hid (∀ j, j < k → c.getD j 0 = d.getD j 0)}) (by dsimp only; omega) ?_
    ·by_cases e : j < k
     ·exact he.out j e
     ·obtain rfl : j = k := by omega
      exact Decidable.not_not.1 (by simpa using hc)
    ·(refine weak_id rfl ?_ ?_ <;> ((try simp only [List.mem_cons, List.not_mem_nil, or_false, forall_eq_or_imp, forall_eq]); (try simp (disch := omega) [i64w, *])))
  ·have hcd : c = d := by
    apply List.ext_getElem hl
    intro j h1 h2
    have := he.out j (by omega)
    simpa [List.getD, h1, h2] using this
   subst hcd
   rw [cmpG_self]
   refine amGo PT5_ok (h := ?_)
   (refine amRt Tryz.results61 (h := ?_); try simp [*])
 ·have hC : cmpC c d = (c.length : Int) - d.length := by unfold cmpC; rw [if_neg hl]
  rw [hC]
  have hl2 : ((c.length : Int) != (d.length : Int)) = true := by simp; omega
  refine fn_sp TT_ok Tryz.func61 (c := _) rfl (by simp [Tryz.ntmps61]) (fun B hI0 hro => ?_)
  rw [Tryz.ntmps61]
  simp only [enumA]
  refine amGo PT5_ok (h := ?_)
  (refine amRt Tryz.results61 (h := ?_); try simp [*])
  omega
def litsB (c : List Int) : Bool := c.all isLit
theorem litsB_iff {c : List Int} : litsB c = true ↔ Lits c := by simp [litsB, Lits]
@[simp] def g_rBefore : List AV → Option (AV × Bool)
 | [a0, a1] => (match toInts a0 with | some c => (match toInts a1 with | some d => if (okInts c && okInts d && (litsB c && litsB d)) = true then some (.v (.bool (decide (cmpC c d < 0))), false) else none | none => none) | none => none)
 | _ => none
theorem e_rBefore : EntOk Tryz.prog 61 g_rBefore := ent_pure (by kernel_rfl) fun args r fr h => by
 unfold g_rBefore at h
 split at h
 ·rename_i a0 a1
  split at h
  ·rename_i c t0
   split at h
   ·rename_i d t1
    split at h
    ·rename_i hc
     simp only [Bool.and_eq_true] at hc
     obtain ⟨⟨o0, o1⟩, hk⟩ := hc
     cases h
     exact ⟨FnPure.cov (rBefore_p c d (litsB_iff.1 hk.1) (litsB_iff.1 hk.2) (okInts_len o0) (okInts_len o1)) (.cons (cov_ints t0) (.cons (cov_ints t1) .nil)), rfl⟩
    ·cases h
   ·cases h
  ·cases h
 ·cases h

def l6 : List (FuncId × (List AV → Option (AV × Bool))) :=
 (61, g_rBefore) :: l5
theorem l6_ok : ∀ p ∈ l6, EntOk Tryz.prog p.1 p.2 := ent_cons e_rBefore (l5_ok)
def PT6 : PTab := tab l6
theorem PT6_ok : PTok Tryz.prog PT6 := tab_ok l6_ok
@[simp] theorem PT6_rBefore : PT6 61 = g_rBefore := rfl
@[simp] theorem PT6_old (f : FuncId) (h : decide (f ≠ 61) = true) : PT6 f = PT5 f := tab_old (of_decide_eq_true h)
end Go.Proofs.YtllkogdgmmcfgaaGreatDoor
/- Rn3: Contracts of censusref05.sorted, put, by the abstract machine; no condition. -/
namespace Go.Proofs.YtllkogdgmmcfgaaGreatDoor
set_option linter.unusedVariables false
set_option linter.unusedSimpArgs false
set_option linter.unusedSectionVars false
open Go.RowKit
open Wlk
attribute [-simp] List.getD_eq_getElem?_getD
set_option maxRecDepth 100000

def sortK (c : List Int) (k : Nat) : List Int := (List.range k).flatMap fun (i : Nat) => (if -((i : Int) + 1) ∈ c then [-((i : Int) + 1)] else []) ++ (if (i : Int) + 1 ∈ c then [(i : Int) + 1] else [])
def altK (c : List Int) (k : Nat) : Bool := (List.range k).any fun (i : Nat) => decide ((i : Int) + 1 ∈ c) && decide (-((i : Int) + 1) ∈ c)
theorem sortK_succ (c : List Int) (k : Nat) : sortK c (k + 1) = sortK c k ++ ((if -((k : Int) + 1) ∈ c then [-((k : Int) + 1)] else []) ++ (if (k : Int) + 1 ∈ c then [(k : Int) + 1] else [])) := by
 unfold sortK; rw [List.range_succ, List.flatMap_append]; simp
theorem altK_succ (c : List Int) (k : Nat) : altK c (k + 1) = (altK c k || (decide ((k : Int) + 1 ∈ c) && decide (-((k : Int) + 1) ∈ c))) := by
 unfold altK; rw [List.range_succ, List.any_append]; simp
theorem sortK_len (c : List Int) (k : Nat) : (sortK c k).length ≤ 2 * k := by
 induction k with
 | zero => simp [sortK]
 | succ k ih =>
  rw [sortK_succ]
  simp only [List.length_append]
  split <;> split <;> simp <;> omega
set_option maxHeartbeats 2000000 in
theorem rSorted_p (c : List Int) (m : Nat) (hc : okInts c = true) (hm : m ≤ 128) : FnPure Tryz.prog 29 [aInts c, .v (.int .i64 (m : Int))] (.tup [aInts (sortK c m), .v (.bool (altK c m))]) := by
 refine fn_sp TT_ok Tryz.func29 (c := _) rfl (by simp [Tryz.ntmps29]) (fun B hI0 hro => ?_)
 rw [Tryz.ntmps29]
 simp only [enumA]
 refine amGo PT6_ok (h := ?_)
 refine s_nil 6 0 3 1 (by simp [lk]) (by simp) ?_
 simp only [st]
 refine s_loop (J := fun i : {k : Nat // k ≤ m} => ⟨39, [(0, aInts c), (1, .v (.int .i64 (m : Int))), (6, .ref 0 0 (sortK c i.1).length), (7, .v (.bool (altK c i.1))), (8, .v (.int .i64 ((i.1 : Int) + 1)))], [(0, ⟨3, 1, (sortK c i.1).map fun x => [.v (.int .i64 x)]⟩)], [0]⟩) (μ := fun i => m - i.1) ⟨0, Nat.zero_le _⟩ ?_ (fun ⟨k, hk⟩ => ?_)
 ·(refine weak_id rfl ?_ ?_ <;> ((try simp only [List.mem_cons, List.not_mem_nil, or_false, forall_eq_or_imp, forall_eq]); (try simp (disch := omega) [i64w, *])))
  all_goals simp [sortK, altK]
 have hs := sortK_succ c k
 have ha := altK_succ c k
 have hl := sortK_len c k
 have hcap : ((sortK c k).length + 1) * 8 ≤ 140737488355328 := by omega
 have hcap2 : ((sortK c k).length + 1 + 1) * 8 ≤ 140737488355328 := by omega
 have hw : IntKind.i64.wrap (-((k : Int) + 1)) = -((k : Int) + 1) := i64w (by omega) (by omega)
 have hw2 : IntKind.i64.wrap ((k : Int) + 1 + 1) = (k : Int) + 1 + 1 := i64w (by omega) (by omega)
 have ho1 : okI (-((k : Int) + 1)) = true := okI_iff.2 ⟨by omega, by omega⟩
 have ho2 : okI ((k : Int) + 1) = true := okI_iff.2 ⟨by omega, by omega⟩
 have hv : ∃ v, (k : Int) + 1 = v := ⟨_, rfl⟩
 obtain ⟨v, hv⟩ := hv
 have hkm : (k : Int) + 1 ≤ m ↔ k < m := by omega
 rw [hv] at hs ha hw hw2 ho1 ho2 hkm
 have hj : ((k + 1 : Nat) : Int) + 1 = v + 1 := by omega
 dsimp only
 rw [hv]
 clear hv
 by_cases hkm2 : v ≤ (m : Int)
 ·have hlt := hkm.1 hkm2
  clear hkm
  by_cases h1 : -v ∈ c
  ·by_cases h2 : v ∈ c
   ·rw [if_pos h1, if_pos h2] at hs
    cases h3 : altK c k
    all_goals
     rw [h3] at ha
     refine amGo PT6_ok (h := ?_)
     refine k_lp (⟨k + 1, by omega⟩ : {k : Nat // k ≤ m}) (by dsimp only; omega) ?_
     (refine weak_of (fun _ => 9) ⟨rfl, ?_, ?_, ?_⟩ <;> ((try simp only [List.mem_cons, List.not_mem_nil, or_false, forall_eq_or_imp, forall_eq]); (try simp (disch := omega) [lk, AV.ids, idsL, idsLL, AV.ren, renL, renLL, i64w, *])))
     all_goals omega
   ·rw [if_pos h1, if_neg h2] at hs
    refine amGo PT6_ok (h := ?_)
    refine k_lp (⟨k + 1, by omega⟩ : {k : Nat // k ≤ m}) (by dsimp only; omega) ?_
    (refine weak_of (fun _ => 5) ⟨rfl, ?_, ?_, ?_⟩ <;> ((try simp only [List.mem_cons, List.not_mem_nil, or_false, forall_eq_or_imp, forall_eq]); (try simp (disch := omega) [lk, AV.ids, idsL, idsLL, AV.ren, renL, renLL, i64w, *])))
    all_goals omega
  ·by_cases h2 : v ∈ c
   ·rw [if_neg h1, if_pos h2] at hs
    cases h3 : altK c k
    all_goals
     rw [h3] at ha
     refine amGo PT6_ok (h := ?_)
     refine k_lp (⟨k + 1, by omega⟩ : {k : Nat // k ≤ m}) (by dsimp only; omega) ?_
     (refine weak_of (fun _ => 4) ⟨rfl, ?_, ?_, ?_⟩ <;> ((try simp only [List.mem_cons, List.not_mem_nil, or_false, forall_eq_or_imp, forall_eq]); (try simp (disch := omega) [lk, AV.ids, idsL, idsLL, AV.ren, renL, renLL, i64w, *])))
     all_goals omega
   ·rw [if_neg h1, if_neg h2] at hs
    refine amGo PT6_ok (h := ?_)
    refine k_lp (⟨k + 1, by omega⟩ : {k : Nat // k ≤ m}) (by dsimp only; omega) ?_
    (refine weak_id rfl ?_ ?_ <;> ((try simp only [List.mem_cons, List.not_mem_nil, or_false, forall_eq_or_imp, forall_eq]); (try simp (disch := omega) [i64w, *])))
    all_goals omega
 ·obtain rfl : k = m := by omega
  refine amGo PT6_ok (h := ?_)
  (refine amRt Tryz.results29 (h := ?_); try simp [*])
def putStep (c : List Int) (p : List (List Int) × Bool) (d : List Int) : List (List Int) × Bool :=
 if p.2 = false ∧ ¬ cmpC d c < 0 then (if cmpC c d < 0 then p.1 ++ [c] ++ [d] else p.1 ++ [d], true) else (p.1 ++ [d], p.2)
def putK (L : List (List Int)) (c : List Int) (k : Nat) : List (List Int) × Bool := (L.take k).foldl (putStep c) ([], false)
def putL (L : List (List Int)) (c : List Int) : List (List Int) := if (putK L c L.length).2 then (putK L c L.length).1 else (putK L c L.length).1 ++ [c]
theorem putK_succ (L : List (List Int)) (c : List Int) {k : Nat} (hk : k < L.length) : putK L c (k + 1) = putStep c (putK L c k) (L.getD k []) := by
 have : L.getD k [] = L[k] := by simp [List.getD, hk]
 unfold putK
 rw [List.take_succ_eq_append_getElem hk, List.foldl_append, this]
 rfl
theorem putStep_len (c : List Int) (p : List (List Int) × Bool) (d : List Int) : (putStep c p d).1.length ≤ p.1.length + 2 := by
 unfold putStep
 split
 ·simp only
  split <;> simp
 ·simp
theorem putK_len (L : List (List Int)) (c : List Int) : ∀ k, k ≤ L.length → (putK L c k).1.length ≤ 2 * k
 | 0, _ => by simp [putK]
 | k + 1, h => by
  rw [putK_succ L c (by omega)]
  have h1 := putStep_len c (putK L c k) (L.getD k [])
  have h2 := putK_len L c k (by omega)
  omega
theorem take_snoc_map (o : List (List Int)) (c : List Int) : List.take (o.length + 1) (List.map (fun xs => [aInts xs]) o ++ [[aInts c]]) = (o ++ [c]).map fun xs => [aInts xs] := by
 rw [List.map_append]
 exact List.take_of_length_le (by simp)
theorem caps24 {n : Nat} (h : n ≤ 2 * 4096) : (n + 1) * 24 ≤ 140737488355328 ∧ (n + 1 + 1) * 24 ≤ 140737488355328 := by omega
set_option maxHeartbeats 2000000 in
theorem rPut_p (L : List (List Int)) (c : List Int) (hL : okRows L = true) (hc : okInts c = true) (hl : ∀ d ∈ L, Lits d) (hcl : litsB c = true) (hm : L.length ≤ 4096) : FnPure Tryz.prog 30 [aRows L, aInts c] (aRows (putL L c)) := by
 refine fn_sp TT_ok Tryz.func30 (c := _) rfl (by simp [Tryz.ntmps30]) (fun B hI0 hro => ?_)
 rw [Tryz.ntmps30]
 simp only [enumA]
 refine amGo PT6_ok (h := ?_)
 refine s_nil 5 0 30 1 (by simp [lk]) (by simp) ?_
 simp only [st]
 refine s_loop (J := fun i : {k : Nat // k ≤ L.length} => ⟨49, [(0, aRows L), (1, aInts c), (5, .ref 0 0 (putK L c i.1).1.length), (6, .v (.bool (putK L c i.1).2)), (7, .v (.int .i64 (i.1 : Int)))], [(0, ⟨30, 1, (putK L c i.1).1.map fun xs => [aInts xs]⟩)], [0]⟩) (μ := fun i => L.length - i.1) ⟨0, Nat.zero_le _⟩ ?_ (fun ⟨k, hk⟩ => ?_)
 ·(refine weak_id rfl ?_ ?_ <;> ((try simp only [List.mem_cons, List.not_mem_nil, or_false, forall_eq_or_imp, forall_eq]); (try simp (disch := omega) [i64w, *])))
  all_goals simp [putK]
 have hlen := putK_len L c k hk
 obtain ⟨hcap, hcap2⟩ := caps24 (Nat.le_trans hlen (Nat.mul_le_mul_left 2 (Nat.le_trans hk hm)))
 clear hlen
 by_cases hlt : k < L.length
 ·have hs := putK_succ L c hlt
  have ho := okRows_at hL k
  have hd : litsB (L.getD k []) = true := by
   rw [litsB_iff]
   have : L.getD k [] = L[k] := by simp [List.getD, hlt]
   rw [this]; exact hl _ (List.getElem_mem _)
  unfold putStep at hs
  clear hl
  have hcap3 : ((putK L c k).1.length + 1 + 1) * 24 ≤ 140737488355328 := hcap2
  cases h3 : (putK L c k).2
  ·by_cases h1 : cmpC (L.getD k []) c < 0
   ·rw [if_neg (fun h => h.2 h1), h3] at hs
    refine amGo PT6_ok (h := ?_)
    refine k_lp (⟨k + 1, hlt⟩ : {k : Nat // k ≤ L.length}) (Nat.sub_lt_sub_left hlt (Nat.lt_succ_self k)) ?_
    (refine weak_of (fun _ => 7) ⟨rfl, ?_, ?_, ?_⟩ <;> ((try simp only [List.mem_cons, List.not_mem_nil, or_false, forall_eq_or_imp, forall_eq]); (try simp (disch := omega) [lk, AV.ids, idsL, idsLL, AV.ren, renL, renLL, i64w, *])))
   ·rw [if_pos ⟨h3, h1⟩] at hs
    by_cases h2 : cmpC c (L.getD k []) < 0
    ·rw [if_pos h2] at hs
     refine amGo PT6_ok (h := ?_)
     refine k_lp (⟨k + 1, hlt⟩ : {k : Nat // k ≤ L.length}) (Nat.sub_lt_sub_left hlt (Nat.lt_succ_self k)) ?_
     (refine weak_of (fun _ => 11) ⟨rfl, ?_, ?_, ?_⟩ <;> ((try simp only [List.mem_cons, List.not_mem_nil, or_false, forall_eq_or_imp, forall_eq]); (try simp (disch := omega) [lk, AV.ids, idsL, idsLL, AV.ren, renL, renLL, i64w, *])))
    ·rw [if_neg h2] at hs
     refine amGo PT6_ok (h := ?_)
     refine k_lp (⟨k + 1, hlt⟩ : {k : Nat // k ≤ L.length}) (Nat.sub_lt_sub_left hlt (Nat.lt_succ_self k)) ?_
     (refine weak_of (fun _ => 7) ⟨rfl, ?_, ?_, ?_⟩ <;> ((try simp only [List.mem_cons, List.not_mem_nil, or_false, forall_eq_or_imp, forall_eq]); (try simp (disch := omega) [lk, AV.ids, idsL, idsLL, AV.ren, renL, renLL, i64w, *])))
  ·rw [if_neg (fun h => by rw [h3] at h; cases h.1), h3] at hs
   refine amGo PT6_ok (h := ?_)
   refine k_lp (⟨k + 1, hlt⟩ : {k : Nat // k ≤ L.length}) (Nat.sub_lt_sub_left hlt (Nat.lt_succ_self k)) ?_
   (refine weak_of (fun _ => 7) ⟨rfl, ?_, ?_, ?_⟩ <;> ((try simp only [List.mem_cons, List.not_mem_nil, or_false, forall_eq_or_imp, forall_eq]); (try simp (disch := omega) [lk, AV.ids, idsL, idsLL, AV.ren, renL, renLL, i64w, *])))
 ·have hkl : k = L.length := Nat.le_antisymm hk (Nat.le_of_not_lt hlt)
  subst hkl
  have hlt2 : ¬ ((L.length : Int) < L.length) := Int.lt_irrefl _
  cases h3 : (putK L c L.length).2
  ·have hp : putL L c = (putK L c L.length).1 ++ [c] := by unfold putL; rw [h3]; rfl
   refine amGo PT6_ok (h := ?_)
   (refine amRt Tryz.results30 (h := ?_); try simp [*])
   rw [take_snoc_map]
   exact ⟨idsLL_rows _, rfl⟩
  ·have hp : putL L c = (putK L c L.length).1 := by unfold putL; rw [h3]; rfl
   refine amGo PT6_ok (h := ?_)
   (refine amRt Tryz.results30 (h := ?_); try simp [*])
@[simp] def g_rSorted : List AV → Option (AV × Bool)
 | [a0, .v (.int .i64 n)] => (match toInts a0 with | some c => if (okInts c && okI n && (decide ((n.toNat : Int) = n) && decide (n.toNat ≤ 128))) = true then some (.tup [aInts (sortK c n.toNat), .v (.bool (altK c n.toNat))], false) else none | none => none)
 | _ => none
theorem e_rSorted : EntOk Tryz.prog 29 g_rSorted := ent_pure (by kernel_rfl) fun args r fr h => by
 unfold g_rSorted at h
 split at h
 ·rename_i a0 n
  split at h
  ·rename_i c t0
   split at h
   ·rename_i hc
    simp only [Bool.and_eq_true] at hc
    obtain ⟨⟨o0, o1⟩, hk⟩ := hc
    cases h
    exact ⟨FnPure.cov ((by have h := rSorted_p c n.toNat o0 (of_decide_eq_true hk.2); rw [of_decide_eq_true hk.1] at h; exact h)) (.cons (cov_ints t0) (.cons (Cov.refl _) .nil)), rfl⟩
   ·cases h
  ·cases h
 ·cases h

@[simp] def g_rPut : List AV → Option (AV × Bool)
 | [a0, a1] => (match toRows a0 with | some L => (match toInts a1 with | some c => if (okRows L && okInts c && (L.all litsB && litsB c && decide (L.length ≤ 4096))) = true then some (aRows (putL L c), false) else none | none => none) | none => none)
 | _ => none
theorem e_rPut : EntOk Tryz.prog 30 g_rPut := ent_pure (by kernel_rfl) fun args r fr h => by
 unfold g_rPut at h
 split at h
 ·rename_i a0 a1
  split at h
  ·rename_i L t0
   split at h
   ·rename_i c t1
    split at h
    ·rename_i hc
     simp only [Bool.and_eq_true] at hc
     obtain ⟨⟨o0, o1⟩, hk⟩ := hc
     cases h
     exact ⟨FnPure.cov (rPut_p L c o0 o1 (fun d hd => litsB_iff.1 (List.all_eq_true.1 hk.1.1 d hd)) hk.1.2 (of_decide_eq_true hk.2)) (.cons (cov_rows t0) (.cons (cov_ints t1) .nil)), rfl⟩
    ·cases h
   ·cases h
  ·cases h
 ·cases h

def l7 : List (FuncId × (List AV → Option (AV × Bool))) :=
 (29, g_rSorted) :: (30, g_rPut) :: l6
theorem l7_ok : ∀ p ∈ l7, EntOk Tryz.prog p.1 p.2 := ent_cons e_rSorted (ent_cons e_rPut (l6_ok))
def PT7 : PTab := tab l7
theorem PT7_ok : PTok Tryz.prog PT7 := tab_ok l7_ok
@[simp] theorem PT7_rSorted : PT7 29 = g_rSorted := rfl
@[simp] theorem PT7_rPut : PT7 30 = g_rPut := rfl
@[simp] theorem PT7_old (f : FuncId) (h : decide (f ≠ 29 ∧ f ≠ 30) = true) : PT7 f = PT6 f := (fun h => Eq.trans (tab_old h.1) (tab_old h.2)) (of_decide_eq_true h)
end Go.Proofs.YtllkogdgmmcfgaaGreatDoor
/- Rn4: Contract of censusref05.Normal, by the abstract machine; no condition. -/
namespace Go.Proofs.YtllkogdgmmcfgaaGreatDoor
set_option linter.unusedVariables false
set_option linter.unusedSimpArgs false
set_option linter.unusedSectionVars false
open Go.RowKit
open Wlk
attribute [-simp] List.getD_eq_getElem?_getD
set_option maxRecDepth 100000

def rNormK (N : Int) (L : List (List Int)) (k : Nat) : List (List Int) := (L.take k).foldl (fun o c => if altK c N.toNat = true then o else putL o (sortK c N.toNat)) []
def rNormA (N : Int) (L : List (List Int)) : AV := if checkT N L = 0 then .tup [aTh N (rNormK N L L.length), .v (.int .i64 0)] else .tup [.agg [.v (.int .i64 0), .v (.slice none 0 0)], .v (.int .i64 (checkT N L))]
theorem rNormK_succ (N : Int) (L : List (List Int)) {k : Nat} (hk : k < L.length) : rNormK N L (k + 1) = if altK (L.getD k []) N.toNat = true then rNormK N L k else putL (rNormK N L k) (sortK (L.getD k []) N.toNat) := by
 have : L.getD k [] = L[k] := by simp [List.getD, hk]
 unfold rNormK
 rw [List.take_succ_eq_append_getElem hk, List.foldl_append, this]
 rfl
theorem sortK_lits (c : List Int) {m : Nat} (hm : m ≤ 128) : Lits (sortK c m) := fun x hx => by
 unfold sortK at hx
 obtain ⟨i, hi, hx⟩ := List.mem_flatMap.1 hx
 simp only [List.mem_range] at hi
 have key : ∀ y : Int, (y = -((i : Int) + 1) ∨ y = (i : Int) + 1) → isLit y = true := fun y hy => by
  unfold isLit
  simp only [decide_eq_true_eq]
  unfold litVar
  split
  ·omega
  ·split <;> omega
 rw [List.mem_append] at hx
 rcases hx with hx | hx
 ·split at hx
  ·exact key x (.inl (by simpa using hx))
  ·cases hx
 ·split at hx
  ·exact key x (.inr (by simpa using hx))
  ·cases hx
theorem sortK_ok (c : List Int) {m : Nat} (hm : m ≤ 128) : okInts (sortK c m) = true ∧ litsB (sortK c m) = true := by
 have h1 := sortK_lits c hm
 have h2 := sortK_len c m
 exact ⟨lits_ok h1 (by omega), litsB_iff.2 h1⟩
theorem putL_mem {L : List (List Int)} {c d : List Int} (h : d ∈ putL L c) : d ∈ L ∨ d = c := by
 have key : ∀ k, k ≤ L.length → ∀ d ∈ (putK L c k).1, d ∈ L ∨ d = c := by
  intro k
  induction k with
  | zero => intro _ d hd; simp [putK] at hd
  | succ k ih =>
   intro hk d hd
   rw [putK_succ L c (by omega)] at hd
   have hmem : L.getD k [] ∈ L := by
    have : L.getD k [] = L[k] := by simp [List.getD, show k < L.length by omega]
    rw [this]; exact List.getElem_mem _
   unfold putStep at hd
   split at hd
   ·dsimp only at hd
    split at hd
    ·simp only [List.mem_append, List.mem_singleton] at hd
     rcases hd with (hd | hd) | hd
     ·exact ih (by omega) d hd
     ·exact .inr hd
     ·exact .inl (hd ▸ hmem)
    ·simp only [List.mem_append, List.mem_singleton] at hd
     rcases hd with hd | hd
     ·exact ih (by omega) d hd
     ·exact .inl (hd ▸ hmem)
   ·simp only [List.mem_append, List.mem_singleton] at hd
    rcases hd with hd | hd
    ·exact ih (by omega) d hd
    ·exact .inl (hd ▸ hmem)
 unfold putL at h
 split at h
 ·exact key _ (Nat.le_refl _) d h
 ·simp only [List.mem_append, List.mem_singleton] at h
  rcases h with h | h
  ·exact key _ (Nat.le_refl _) d h
  ·exact .inr h
theorem putK_len2 (L : List (List Int)) (c : List Int) : ∀ k, k ≤ L.length → (putK L c k).1.length ≤ k + (if (putK L c k).2 then 1 else 0)
 | 0, _ => by simp [putK]
 | k + 1, h => by
  have ih := putK_len2 L c k (by omega)
  rw [putK_succ L c (by omega)]
  unfold putStep
  split
  ·rename_i h1
   rw [h1.1] at ih
   dsimp only
   split <;> simp at ih ⊢ <;> omega
  ·dsimp only
   split at ih <;> rename_i h2 <;> simp [h2] <;> omega
theorem putL_len (L : List (List Int)) (c : List Int) : (putL L c).length ≤ L.length + 1 := by
 have := putK_len2 L c L.length (Nat.le_refl _)
 unfold putL
 split
 ·rename_i h; rw [if_pos h] at this; exact this
 ·rename_i h; rw [if_neg h] at this; simp; omega
theorem rNormK_inv (N : Int) (L : List (List Int)) (hN : N.toNat ≤ 128) : ∀ k, k ≤ L.length → (rNormK N L k).length ≤ k ∧ ∀ d ∈ rNormK N L k, okInts d = true ∧ litsB d = true
 | 0, _ => by simp [rNormK]
 | k + 1, h => by
  obtain ⟨h1, h2⟩ := rNormK_inv N L hN k (by omega)
  rw [rNormK_succ N L (by omega)]
  split
  ·exact ⟨by omega, h2⟩
  ·have h3 := putL_len (rNormK N L k) (sortK (L.getD k []) N.toNat)
   refine ⟨by omega, fun d hd => ?_⟩
   rcases putL_mem hd with hd | rfl
   ·exact h2 d hd
   ·exact sortK_ok _ hN
theorem rNormK_ok {N : Int} {L : List (List Int)} (hck : 0 ≤ N ∧ N ≤ 128 ∧ L.length ≤ 4096 ∧ ∀ c ∈ L, c.length ≤ 128 ∧ ∀ l ∈ c, litOk l N = true) {k : Nat} (hk : k < L.length) : okRows (rNormK N L k) = true ∧ (rNormK N L k).all litsB = true ∧ (rNormK N L k).length ≤ 4096 := by
 obtain ⟨h1, h2⟩ := rNormK_inv N L (by omega) k (by omega)
 refine ⟨?_, List.all_eq_true.2 fun d hd => (h2 d hd).2, by omega⟩
 simp only [okRows, Bool.and_eq_true, List.all_eq_true, decide_eq_true_eq]
 exact ⟨fun d hd => (h2 d hd).1, by omega⟩
theorem rNormal_p (N : Int) (L : List (List Int)) (hN : okI N = true) (h : okRows L = true) : FnPure Tryz.prog 12 [aTh N L] (rNormA N L) := by
 by_cases hz : checkT N L = 0
 ·have hck := checkT_ok hz
  unfold aTh
  refine fn_sp TT_ok Tryz.func12 (c := _) rfl (by simp [Tryz.ntmps12]) (fun B hI0 hro => ?_)
  rw [Tryz.ntmps12]
  simp only [enumA]
  refine amGo PT7_ok (h := ?_)
  refine s_cell 5 0 1 1 (ob := ⟨24, 2, [[.v (.int .i64 N), .v (.slice none 0 0)]]⟩) rfl rfl ?_
  (refine s_eq (τ := ?_) ?_ ?_; rotate_left; (focus ((try simp only [AS.frz, List.map_cons, List.map_nil]); (try simp [frzV, frzO, frzC, List.filter]); rfl)))
  refine s_loop (J := fun i : {k : Nat // k ≤ L.length} => ⟨44, [(1, .ptr 0 0 0), (2, .ptr 1 0 0), (3, .v (.int .i64 0)), (5, .ptr 5 0 0), (6, .v (.int .i64 (i.1 : Int)))], [(0, ⟨24, 2, [[.v (.int .i64 N), aRows L]]⟩), (1, ⟨24, 2, [[.v (.int .i64 0), .v (.slice none 0 0)]]⟩), (5, ⟨24, 2, [[.v (.int .i64 N), aRows (rNormK N L i.1)]]⟩)], [5, 1, 0]⟩) (μ := fun i => L.length - i.1) ⟨0, Nat.zero_le _⟩ ?_ (fun ⟨k, hk⟩ => ?_)
  ·(refine weak_id rfl ?_ ?_ <;> ((try simp only [List.mem_cons, List.not_mem_nil, or_false, forall_eq_or_imp, forall_eq]); (try simp (disch := omega) [i64w, *])))
   all_goals rfl
  have hNn : ((N.toNat : Nat) : Int) = N := by omega
  have hN2 : N.toNat ≤ 128 := by omega
  by_cases hlt : k < L.length
  ·have ho := okRows_at h k
   have hs := rNormK_succ N L hlt
   have ok1 := rNormK_ok hck hlt
   have ok2 := sortK_ok (L.getD k []) hN2
   have hm := okRows_len h
   cases h3 : altK (L.getD k []) N.toNat
   ·rw [if_neg (by rw [h3]; simp)] at hs
    refine amGo PT7_ok (h := ?_)
    refine k_lp (⟨k + 1, hlt⟩ : {k : Nat // k ≤ L.length}) (Nat.sub_lt_sub_left hlt (Nat.lt_succ_self k)) ?_
    (refine weak_id rfl ?_ ?_ <;> ((try simp only [List.mem_cons, List.not_mem_nil, or_false, forall_eq_or_imp, forall_eq]); (try simp (disch := omega) [i64w, *])))
   ·rw [if_pos h3] at hs
    refine amGo PT7_ok (h := ?_)
    refine k_lp (⟨k + 1, hlt⟩ : {k : Nat // k ≤ L.length}) (Nat.sub_lt_sub_left hlt (Nat.lt_succ_self k)) ?_
    (refine weak_id rfl ?_ ?_ <;> ((try simp only [List.mem_cons, List.not_mem_nil, or_false, forall_eq_or_imp, forall_eq]); (try simp (disch := omega) [i64w, *])))
  ·obtain rfl : k = L.length := by omega
   refine amGo PT7_ok (h := ?_)
   (refine amRt Tryz.results12 (h := ?_); try simp [*])
   unfold rNormA
   rw [if_pos hz]
   rfl
 ·unfold aTh
  refine fn_sp TT_ok Tryz.func12 (c := _) rfl (by simp [Tryz.ntmps12]) (fun B hI0 hro => ?_)
  rw [Tryz.ntmps12]
  simp only [enumA]
  refine amGo PT7_ok (h := ?_)
  (refine amRt Tryz.results12 (h := ?_); try simp [*])
  unfold rNormA
  rw [if_neg hz]
@[simp] def g_rNormal : List AV → Option (AV × Bool)
 | [.agg [.v (.int .i64 N), a0]] => (match toRows a0 with | some L => if (okI N && okRows L) = true then some (rNormA N L, false) else none | none => none)
 | _ => none
theorem e_rNormal : EntOk Tryz.prog 12 g_rNormal := ent_pure (by kernel_rfl) fun args r fr h => by
 unfold g_rNormal at h
 split at h
 ·rename_i N a0
  split at h
  ·rename_i L t0
   split at h
   ·rename_i hc
    simp only [Bool.and_eq_true] at hc
    obtain ⟨m0, o0⟩ := hc
    cases h
    exact ⟨FnPure.cov (rNormal_p N L m0 o0) (.cons (cov_th _ (cov_rows t0)) .nil), rfl⟩
   ·cases h
  ·cases h
 ·cases h

def l8 : List (FuncId × (List AV → Option (AV × Bool))) :=
 (12, g_rNormal) :: l7
theorem l8_ok : ∀ p ∈ l8, EntOk Tryz.prog p.1 p.2 := ent_cons e_rNormal (l7_ok)
def PT8 : PTab := tab l8
theorem PT8_ok : PTok Tryz.prog PT8 := tab_ok l8_ok
@[simp] theorem PT8_rNormal : PT8 12 = g_rNormal := rfl
@[simp] theorem PT8_old (f : FuncId) (h : decide (f ≠ 12) = true) : PT8 f = PT7 f := tab_old (of_decide_eq_true h)
end Go.Proofs.YtllkogdgmmcfgaaGreatDoor
