/- The order of reasons: explain.compare; no condition. -/
import Derived.Test.YtecdhmiamlgibaaDoorCvG
namespace Go.Proofs.YtecdhmiamlgibaaDoor
set_option linter.unusedVariables false
set_option linter.unusedSimpArgs false
set_option linter.unusedSectionVars false
open Go.RowKit
set_option maxRecDepth 100000
def absZ (x : Int) : Int := max x (-x)
def lexA : List Int → List Int → Int
 | [], _ => 0
 | _ :: _, [] => 0
 | x :: r, y :: s => if absZ x - absZ y = 0 then lexA r s else absZ x - absZ y
def cmpX (c d : List Int) : Int := if c.length = d.length then lexA c d else (c.length : Int) - d.length
theorem lexA_at : ∀ (c d : List Int) (k : Nat), k < c.length → k < d.length → (∀ j, j < k → absZ (c.getD j 0) - absZ (d.getD j 0) = 0) → absZ (c.getD k 0) - absZ (d.getD k 0) ≠ 0 → lexA c d = absZ (c.getD k 0) - absZ (d.getD k 0)
 | [], _, k, h, _, _, _ => by cases h
 | _ :: _, [], k, _, h, _, _ => by cases h
 | x :: r, y :: s, 0, _, _, _, hne => by
  simp only [List.getD_cons_zero] at hne ⊢
  rw [lexA, if_neg hne]
 | x :: r, y :: s, k + 1, h1, h2, h, hne => by
  have h0 := h 0 (by omega)
  simp only [List.getD_cons_zero] at h0
  simp only [List.getD_cons_succ] at hne ⊢
  rw [lexA, if_pos h0]
  exact lexA_at r s k (by simpa using h1) (by simpa using h2) (fun j hj => by have := h (j + 1) (by omega); simpa using this) hne
theorem lexA_all : ∀ (c d : List Int), c.length = d.length → (∀ j, j < c.length → absZ (c.getD j 0) - absZ (d.getD j 0) = 0) → lexA c d = 0
 | [], _, _, _ => rfl
 | _ :: _, [], h, _ => by cases h
 | x :: r, y :: s, hl, h => by
  have h0 := h 0 (by simp)
  simp only [List.getD_cons_zero] at h0
  rw [lexA, if_pos h0]
  exact lexA_all r s (by simpa using hl) fun j hj => by have := h (j + 1) (by simp; omega); simpa using this
theorem lexA_anti : ∀ (c d : List Int), c.length = d.length → lexA d c = -lexA c d
 | [], [], _ => rfl
 | [], _ :: _, h => by cases h
 | _ :: _, [], h => by cases h
 | x :: r, y :: s, h => by
  have ih := lexA_anti r s (by simpa using h)
  rw [lexA, lexA]
  by_cases e : absZ x - absZ y = 0
  ·rw [if_pos e, if_pos (by omega), ih]
  ·rw [if_neg e, if_neg (by omega)]; omega
theorem lexA_trans : ∀ (a b c : List Int), a.length = b.length → b.length = c.length → lexA a b ≤ 0 → lexA b c ≤ 0 → lexA a c ≤ 0 ∧ (lexA a b < 0 ∨ lexA b c < 0 → lexA a c < 0)
 | [], [], [], _, _, _, _ => ⟨Int.le_refl _, fun h => by simp [lexA] at h⟩
 | [], [], _ :: _, _, h, _, _ => by cases h
 | [], _ :: _, _, h, _, _, _ => by cases h
 | _ :: _, [], _, h, _, _, _ => by cases h
 | _ :: _, _ :: _, [], _, h, _, _ => by cases h
 | x :: r, y :: s, z :: t, h1, h2, h3, h4 => by
  rw [lexA] at h3 h4 ⊢
  have e3 : lexA (x :: r) (y :: s) = if absZ x - absZ y = 0 then lexA r s else absZ x - absZ y := by rw [lexA]
  have e4 : lexA (y :: s) (z :: t) = if absZ y - absZ z = 0 then lexA s t else absZ y - absZ z := by rw [lexA]
  by_cases p1 : absZ x - absZ y = 0
  ·rw [if_pos p1] at h3 e3
   by_cases p2 : absZ y - absZ z = 0
   ·rw [if_pos p2] at h4 e4
    obtain ⟨i1, i2⟩ := lexA_trans r s t (by simpa using h1) (by simpa using h2) h3 h4
    rw [if_pos (by omega), e3, e4]
    exact ⟨i1, i2⟩
   ·rw [if_neg p2] at h4
    rw [if_neg (by omega)]
    exact ⟨by omega, fun _ => by omega⟩
  ·rw [if_neg p1] at h3
   by_cases p2 : absZ y - absZ z = 0
   ·rw [if_neg (by omega)]
    exact ⟨by omega, fun _ => by omega⟩
   ·rw [if_neg p2] at h4
    rw [if_neg (by omega)]
    exact ⟨by omega, fun _ => by omega⟩
theorem cmpX_self (c : List Int) : cmpX c c = 0 := by
 rw [cmpX, if_pos rfl]
 exact lexA_all c c rfl fun j _ => by omega
theorem cmpX_anti (c d : List Int) : cmpX d c = -cmpX c d := by
 unfold cmpX
 by_cases h : c.length = d.length
 ·rw [if_pos h, if_pos h.symm, lexA_anti c d h]
 ·rw [if_neg h, if_neg (fun e => h e.symm)]; omega
theorem cmpX_trans (a b c : List Int) (h1 : cmpX a b ≤ 0) (h2 : cmpX b c ≤ 0) : cmpX a c ≤ 0 ∧ (cmpX a b < 0 ∨ cmpX b c < 0 → cmpX a c < 0) := by
 unfold cmpX at *
 by_cases e1 : a.length = b.length
 ·rw [if_pos e1] at h1 ⊢
  by_cases e2 : b.length = c.length
  ·rw [if_pos e2] at h2 ⊢
   rw [if_pos (e1.trans e2)]
   exact lexA_trans a b c e1 e2 h1 h2
  ·rw [if_neg e2] at h2 ⊢
   rw [if_neg (by omega)]
   exact ⟨by omega, fun _ => by omega⟩
 ·rw [if_neg e1] at h1 ⊢
  by_cases e2 : b.length = c.length
  ·rw [if_neg (by omega)]
   exact ⟨by omega, fun _ => by omega⟩
  ·rw [if_neg e2] at h2 ⊢
   rw [if_neg (by omega)]
   exact ⟨by omega, fun _ => by omega⟩
def litX (x : Int) : Bool := decide (-128 ≤ x) && decide (x ≤ 128)
def LitsX (c : List Int) : Prop := ∀ x ∈ c, litX x = true
theorem litX_b {x : Int} (h : litX x = true) : -128 ≤ x ∧ x ≤ 128 := by
 unfold litX at h
 rw [Bool.and_eq_true, decide_eq_true_eq, decide_eq_true_eq] at h
 exact h
theorem compareFn_c (x y : Int) (w : World) (hx : litX x = true) (hy : litX y = true) : Calls Tryd.prog 77 #[.int .i64 x, .int .i64 y] w fun e w' => e = .returned (.int .i64 (absZ x - absZ y)) ∧ w = w' := by
 obtain ⟨x1, x2⟩ := litX_b hx
 obtain ⟨y1, y2⟩ := litX_b hy
 clear hx hy
 go_enter Tryd.func77, Tryd.ntmps77
 go_wp2
 go_ret
 exact ⟨rfl, rfl⟩
set_option maxHeartbeats 1000000 in
theorem cmpFunc_c {F G : Foot} {w : World} {v u : Value} {xs ys : List Int} (h : Ints F w v xs) (h' : Ints G w u ys) (hx : LitsX xs) (hy : LitsX ys) (hl : xs.length = ys.length) :
  Calls Tryd.prog 76 #[v, u, .func (.func 77) #[] #[]] w fun e w' => e = .returned (.int .i64 (lexA xs ys)) ∧ w = w' := by
 have eg : ∀ args w, (callFunc 77 args).run Tryd.prog w = .ok (.enter 77 args) w := enters_fn Tryd.func77 (by kernel_rfl) rfl
 obtain ⟨a, n, c, rfl, hn, _, hm, hc⟩ := h.open
 obtain ⟨a', n', c', rfl, hn', _, hm', hc'⟩ := h'.open
 unfold LenMax at hm hm'
 clear h h'
 obtain rfl : n' = n := by omega
 have HE := Lib.hid hn
 have HE' := Lib.hid hn'
 have HX := Lib.hid hx
 have HY := Lib.hid hy
 clear hn hn' hl hx hy
 go_enter Tryd.func76, Tryd.ntmps76
 go_wp2
 go_loopw [13] (fun i wr => ∃ k : Nat, k ≤ n' ∧ i = .int .i64 k ∧ Hid (∀ j, j < k → absZ (xs.getD j 0) - absZ (ys.getD j 0) = 0) ∧ wr = w) (fun i _ => n' - (intOf i).toNat)
 case atStart => exact ⟨0, Nat.zero_le _, rfl, by intro j hj; omega, rfl⟩
 case round =>
  obtain ⟨k, hk, rfl, hno, rfl⟩ := hrel
  by_cases hlt : k < n'
  ·obtain ⟨b, o, rfl, hcell, hr⟩ := hc k hlt
   obtain ⟨b', o', rfl, hcell', hr'⟩ := hc' k hlt
   clear hc hc'
   have hk0 : (0 : Int) ≤ k := by omega
   have hk1 : (k : Int) < n' := by omega
   have HAT := Lib.hid (lexA_at xs ys k (by have := HE.out; omega) (by have := HE'.out; omega) hno.out)
   have hpx := compareFn_c (xs.getD k 0) (ys.getD k 0) wr (HX.out _ (getD_mem xs k (by have := HE.out; omega) 0)) (HY.out _ (getD_mem ys k (by have := HE'.out; omega) 0))
   have HD : ∃ q, Hid (absZ (xs.getD k 0) - absZ (ys.getD k 0) = q) := ⟨_, rfl⟩
   obtain ⟨q, HD⟩ := HD
   rw [HD.out] at hpx HAT
   have HP := Lib.hid hpx
   clear hpx
   generalize hgx : xs.getD k 0 = x at *
   generalize hgy : ys.getD k 0 = y at *
   by_cases hq : q = 0
   ·subst hq
    go_wp2_with fail
    refine HP.out.mono ?_
    rintro e w1 ⟨rfl, rfl⟩
    go_wp2
    go_roundw
    case rel => exact ⟨k + 1, by omega, by go_num, by intro j hj; by_cases e : j < k; exact hno.out j e; (obtain rfl : j = k := by omega); rw [hgx, hgy]; exact HD.out, by trivial⟩
    case measure => simp [intOf]; omega
   ·go_wp2_with fail
    refine HP.out.mono ?_
    rintro e w1 ⟨rfl, rfl⟩
    go_wp2
    go_ret
    exact ⟨by rw [HAT.out hq]; rfl, rfl⟩
  ·go_wp2
   go_ret
   obtain rfl : k = n' := by omega
   exact ⟨by rw [lexA_all xs ys (by rw [← HE.out, ← HE'.out]) fun j hj => hno.out j (by have := HE.out; omega)]; rfl, rfl⟩
set_option maxHeartbeats 1000000 in
theorem compare_c {F G : Foot} {w : World} {v u : Value} {xs ys : List Int} (h : Ints F w v xs) (h' : Ints G w u ys) (hx : LitsX xs) (hy : LitsX ys) :
  Calls Tryd.prog 47 #[v, u] w fun e w' => e = .returned (.int .i64 (cmpX xs ys)) ∧ ∃ q, w' = w.drewN q := by
 have hH := h
 have hH' := h'
 obtain ⟨a, n, c, rfl, hn, _, hm, _⟩ := h.open
 obtain ⟨a', n', c', rfl, hn', _, hm', _⟩ := h'.open
 unfold LenMax at hm hm'
 clear h h'
 have HE := Lib.hid hn
 have HE' := Lib.hid hn'
 by_cases hne : n = n'
 ·have hp := cmpFunc_c hH hH' hx hy (by omega)
  have HC := Lib.hid (show cmpX xs ys = lexA xs ys by unfold cmpX; rw [if_pos (by omega)])
  have HP := Lib.hid hp
  clear hp hH hH' hn hn' hx hy
  subst hne
  go_enter Tryd.func47, Tryd.ntmps47
  go_wp2_with fail
  refine HP.out.mono ?_
  rintro e w1 ⟨rfl, rfl⟩
  go_wp2
  go_ret
  exact ⟨by rw [HC.out]; rfl, 0, rfl⟩
 ·have HC := Lib.hid (show cmpX xs ys = (n : Int) - n' by unfold cmpX; rw [if_neg (by omega), ← HE.out, ← HE'.out])
  have hne' : ((n : Int) == n') = false := by simp; omega
  clear hH hH' hn hn' hx hy
  go_enter Tryd.func47, Tryd.ntmps47
  go_wp2
  go_ret
  exact ⟨by rw [HC.out]; rfl, 0, rfl⟩
end Go.Proofs.YtecdhmiamlgibaaDoor
