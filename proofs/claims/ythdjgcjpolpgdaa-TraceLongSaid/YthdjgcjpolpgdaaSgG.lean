/- Bytes that are read are those that are written: the plain law of Decode; no program. -/
import Derived.Test.YthdjgcjpolpgdaaSd22
import Derived.Test.YthdjgcjpolpgdaaLg22
/- Se22: Bytes that are read are those that are written: the plain law of Decode; no program. -/
namespace Go.Proofs.Ythdjgcjpolpgdaa
set_option linter.unusedVariables false
set_option linter.unusedSimpArgs false
set_option linter.unusedSectionVars false
open Go.RowKit
set_option maxRecDepth 100000
theorem numG_bad (b : List Int) : ∀ f k v, (numG b true f k v).2.2 = true
  | 0, _, _ => rfl
  | f + 1, k, v => by
    rw [numG]
    split
    · split
      · rfl
      · exact numG_bad b f _ _
    · rfl
theorem drop_getD {b : List Int} {k : Nat} (h : k < b.length) : b.drop k = b.getD k 0 :: b.drop (k + 1) := by
  rw [List.drop_eq_getElem_cons h]
  simp [List.getD, h]
theorem numG_inv {b : List Int} (hb : okBy b = true) : ∀ (f k v n : Nat) (rest : List Int), numG b false f k v = (n, rest, false) → ∃ w, n = v + w * 128 ^ k ∧ b.drop k = numB w ++ rest ∧ (w = 0 → k = 0)
  | 0, k, v, n, rest, h => by simp [numG] at h
  | f + 1, k, v, n, rest, h => by
    rw [numG] at h
    split at h
    · rename_i hk
      have hc := okBy_at hb hk
      have hd := drop_getD hk
      split at h
      · rename_i h128
        simp only [Prod.mk.injEq, Bool.false_or, Bool.and_eq_false_iff, decide_eq_false_iff_not] at h
        obtain ⟨h1, h2, h3⟩ := h
        refine ⟨(b.getD k 0).toNat, by rw [← h1, Nat.mod_eq_of_lt (by omega)], ?_, fun hw => ?_⟩
        · rw [numB_lt (by omega), hd, ← h2, show (((b.getD k 0).toNat : Nat) : Int) = b.getD k 0 by omega]; rfl
        · rcases h3 with h3 | h3
          · exact absurd (by omega) h3
          · omega
      · rename_i h128
        obtain ⟨w, h1, h2, h3⟩ := numG_inv hb f (k + 1) _ n rest h
        have hw : w ≠ 0 := fun e => by have := h3 e; omega
        refine ⟨(b.getD k 0).toNat % 128 + w * 128, ?_, ?_, fun e => by omega⟩
        · have hP : 128 ^ (k + 1) = 128 * 128 ^ k := by rw [Nat.pow_succ, Nat.mul_comm]
          rw [h1, hP, Nat.add_mul, Nat.mul_assoc w, Nat.add_assoc]
        · rw [hd, h2, numB_ge (n := (b.getD k 0).toNat % 128 + w * 128) (by omega)]
          have e1 : ((b.getD k 0).toNat % 128 + w * 128) % 128 = (b.getD k 0).toNat % 128 := by omega
          have e2 : ((b.getD k 0).toNat % 128 + w * 128) / 128 = w := by omega
          rw [e1, e2]
          have e3 : (((b.getD k 0).toNat % 128 + 128 : Nat) : Int) = b.getD k 0 := by omega
          rw [e3]; rfl
    · simp at h
theorem numR_inv {b : List Int} (hb : okBy b = true) {bad : Bool} {n : Nat} {rest : List Int} (h : numR b bad = (n, rest, false)) : bad = false ∧ b = numB n ++ rest := by
  cases bad
  · obtain ⟨w, h1, h2, _⟩ := numG_inv hb 4 0 0 n rest h
    rw [Nat.pow_zero, Nat.mul_one, Nat.zero_add] at h1
    subst h1
    exact ⟨rfl, by simpa using h2⟩
  · have := numG_bad b 4 0 0
    unfold numR at h
    rw [h] at this; cases this
theorem numG_rt (bad : Bool) (rest : List Int) : ∀ (f : Nat) (b : List Int) (k v w : Nat), b.drop k = numB w ++ rest → k ≤ b.length → w < 128 ^ f → (w = 0 → k = 0) → 1 ≤ f → numG b bad f k v = (v + w * 128 ^ k, rest, bad)
  | 0, b, k, v, w, h, hk, hw, h0, hf => by omega
  | f + 1, b, k, v, w, h, hk, hw, h0, hf0 => by
    have hlt : k < b.length := by
      have := congrArg List.length h
      rw [List.length_drop, List.length_append] at this
      have := numB_pos w
      omega
    have hd := drop_getD hlt
    rw [numG, if_pos hlt]
    by_cases h128 : w < 128
    · rw [numB_lt h128] at h
      rw [hd] at h
      obtain ⟨h1, h2⟩ := List.cons.inj h
      rw [h1, if_pos (by omega), h2]
      have e : ((w : Nat) : Int).toNat % 128 = w := by omega
      rw [e]
      congr 2
      have : (decide (((w : Nat) : Int) = 0) && decide (0 < k)) = false := by
        by_cases hw0 : w = 0
        · have := h0 hw0; subst this; simp
        · have : ¬ ((w : Nat) : Int) = 0 := by omega
          simp [hw0]
      rw [this, Bool.or_false]
    · rw [numB_ge h128] at h
      rw [hd] at h
      obtain ⟨h1, h2⟩ := List.cons.inj h
      rw [h1, if_neg (by omega)]
      have e : (((w % 128 + 128 : Nat) : Int)).toNat % 128 = w % 128 := by omega
      have hf : 1 ≤ f := by
        cases f with
        | zero => rw [Nat.zero_add, Nat.pow_one] at hw; omega
        | succ f => omega
      rw [e, numG_rt bad rest f b (k + 1) _ (w / 128) h2 (by omega) (by rw [Nat.div_lt_iff_lt_mul (by omega), ← Nat.pow_succ]; exact hw) (fun e => by omega) hf]
      congr 1
      rw [Nat.pow_succ, Nat.mul_comm (128 ^ k) 128, ← Nat.mul_assoc, Nat.add_assoc, ← Nat.add_mul]
      congr 2
      omega
theorem numR_rt (bad : Bool) {n : Nat} (hn : n < 268435456) (rest : List Int) : numR (numB n ++ rest) bad = (n, rest, bad) := by
  have := numG_rt bad rest 4 (numB n ++ rest) 0 0 n (by simp) (Nat.zero_le _) hn (fun _ => rfl) (by omega)
  simpa [numR] using this
theorem nfG_rt {b : List Int} (bad : Bool) (rest : List Int) : ∀ (f a v o w : Nat), b.drop a = numB w ++ rest → a ≤ b.length → w < 128 ^ f → 1 ≤ f → nfG b bad f a v o = (v + w * o, a + (numB w).length, bad)
  | 0, a, v, o, w, h, hk, hw, h0 => by omega
  | f + 1, a, v, o, w, h, hk, hw, h0 => by
    have hlt : a < b.length := by
      have := congrArg List.length h
      rw [List.length_drop, List.length_append] at this
      have := numB_pos w
      omega
    have hd := drop_getD hlt
    rw [nfG, if_pos hlt]
    by_cases h128 : w < 128
    · rw [numB_lt h128] at h ⊢
      rw [hd] at h
      obtain ⟨h1, h2⟩ := List.cons.inj h
      rw [h1, if_pos (by omega)]
      have e : ((w : Nat) : Int).toNat % 128 = w := by omega
      rw [e]; rfl
    · rw [numB_ge h128] at h ⊢
      rw [hd] at h
      obtain ⟨h1, h2⟩ := List.cons.inj h
      rw [h1, if_neg (by omega)]
      have e : (((w % 128 + 128 : Nat) : Int)).toNat % 128 = w % 128 := by omega
      have hf : 1 ≤ f := by
        cases f with
        | zero => rw [Nat.zero_add, Nat.pow_one] at hw; omega
        | succ f => omega
      rw [e, nfG_rt bad rest f (a + 1) _ (o * 128) (w / 128) h2 (by omega) (by rw [Nat.div_lt_iff_lt_mul (by omega), ← Nat.pow_succ]; exact hw) hf]
      have e1 : v + w % 128 * o + w / 128 * (o * 128) = v + w * o := by
        rw [Nat.mul_comm o 128, ← Nat.mul_assoc, Nat.add_assoc, ← Nat.add_mul]
        congr 2
        omega
      have e2 : a + 1 + (numB (w / 128)).length = a + (((w % 128 + 128 : Nat) : Int) :: numB (w / 128)).length := by rw [List.length_cons]; omega
      rw [e1, e2]
theorem nfR_rt {b : List Int} {a n : Nat} {bad : Bool} {rest : List Int} (h : b.drop a = numB n ++ rest) (ha : a ≤ b.length) (hn : n < 268435456) : nfR b (a, bad) = (n, a + (numB n).length, bad) := by
  have := nfG_rt bad rest 4 a 0 1 n h ha hn (by omega)
  simpa [nfR] using this
def difL : Int → List Int → List Int
  | _, [] => []
  | la, x :: xs => numB (x - la).toNat ++ difL x xs
theorem difL_eq (cs : List Int) : (List.range cs.length).flatMap (difB cs) = difL 0 cs := by
  have key : ∀ (xs : List Int) (la : Int), (List.range xs.length).flatMap (fun k => numB (xs.getD k 0 - if k = 0 then la else xs.getD (k - 1) 0).toNat) = difL la xs := by
    intro xs
    induction xs with
    | nil => intro la; rfl
    | cons x xs ih =>
      intro la
      rw [List.length_cons, List.range_succ_eq_map, List.flatMap_cons, List.flatMap_map, difL, ← ih x]
      congr 1
      refine congrArg (fun f => List.flatMap f (List.range xs.length)) (funext fun k => ?_)
      cases k with
      | zero => rfl
      | succ k => rfl
  exact key cs 0
theorem litR_inv {b : List Int} (hb : okBy b = true) {x : Int} {rest : List Int} (h : litR (b, false) = (x, rest, false)) (hx : x ≠ 0) : b = litB x ++ rest := by
  unfold litR at h
  dsimp only at h
  obtain ⟨⟨n, r, bd⟩, hn⟩ : ∃ X, numR b false = X := ⟨_, rfl⟩
  rw [hn] at h
  simp only [Prod.mk.injEq] at h
  obtain ⟨h1, rfl, rfl⟩ := h
  obtain ⟨_, h2⟩ := numR_inv hb hn
  rw [h2]
  congr 1
  unfold litB litN
  congr 1
  rcases (by omega : n % 2 = 0 ∨ n % 2 = 1) with hm | hm <;> rw [hm] at h1 <;> split <;> omega
theorem litR_rt {x : Int} (hx : okLit x = true) (h0 : x ≠ 0) (bad : Bool) (rest : List Int) : litR (litB x ++ rest, bad) = (x, rest, bad) := by
  simp only [okLit, Bool.and_eq_true, decide_eq_true_eq] at hx
  unfold litR litB
  dsimp only
  rw [numR_rt bad (by have := litN_le hx.1 hx.2; omega)]
  congr 1
  dsimp only
  unfold litN
  split
  · rw [show ((2 * x).toNat % 2 : Nat) = 0 by omega]; omega
  · rw [show ((1 - 2 * x).toNat % 2 : Nat) = 1 by omega]; omega
theorem loopT_inv : ∀ (f : Nat) (out out' b rest : List Int) (bd : Bool), okBy b = true → rdLoop litR (fun s => s.2) f out (b, bd) = (out', rest, false) → bd = false ∧ ∃ xs, out' = out ++ xs ∧ xs.length = f ∧ ((∀ x ∈ xs, x ≠ 0) → b = xs.flatMap litB ++ rest)
  | 0, out, out', b, rest, bd, hb, h => by
    simp only [rdLoop, Prod.mk.injEq] at h
    obtain ⟨rfl, rfl, rfl⟩ := h
    exact ⟨rfl, [], by simp, rfl, fun _ => rfl⟩
  | f + 1, out, out', b, rest, bd, hb, h => by
    rw [rdLoop] at h
    cases bd
    · rw [if_neg (by simp)] at h
      obtain ⟨_, q2, _⟩ := numR_ok b false hb
      have q2' : okBy (litR (b, false)).2.1 = true := q2
      obtain ⟨⟨x, b1, bd1⟩, hX⟩ : ∃ X, litR (b, false) = X := ⟨_, rfl⟩
      rw [hX] at h q2'
      obtain ⟨h1, xs, h2, h3, h4⟩ := loopT_inv f _ _ _ _ _ q2' h
      dsimp only at h1 h2 h4
      subst h1
      refine ⟨rfl, x :: xs, by rw [h2]; simp, by simp [h3], fun hz => ?_⟩
      rw [litR_inv hb hX (hz x (by simp)), h4 (fun y hy => hz y (by simp [hy]))]
      simp
    · rw [if_pos rfl] at h
      simp at h
theorem loopT_rt (bad : Bool) (rest : List Int) (hbad : bad = false) : ∀ (xs out : List Int), (∀ x ∈ xs, okLit x = true ∧ x ≠ 0) → rdLoop litR (fun s => s.2) xs.length out (xs.flatMap litB ++ rest, bad) = (out ++ xs, rest, bad)
  | [], out, _ => by simp [rdLoop]
  | x :: xs, out, h => by
    rw [List.length_cons, rdLoop, if_neg (by simp [hbad]), List.flatMap_cons, List.append_assoc, litR_rt (h x (by simp)).1 (h x (by simp)).2]
    dsimp only
    rw [loopT_rt bad rest hbad xs _ (fun y hy => h y (by simp [hy]))]
    simp
theorem loopI_inv : ∀ (f : Nat) (out out' b rest : List Int) (la la' : Int) (bd : Bool), okBy b = true → rdLoop idxR (fun s => s.2.2) f out (la, b, bd) = (out', la', rest, false) → bd = false ∧ ∃ xs, out' = out ++ xs ∧ xs.length = f ∧ b = difL la xs ++ rest
  | 0, out, out', b, rest, la, la', bd, hb, h => by
    simp only [rdLoop, Prod.mk.injEq] at h
    obtain ⟨rfl, rfl, rfl, rfl⟩ := h
    exact ⟨rfl, [], by simp, rfl, rfl⟩
  | f + 1, out, out', b, rest, la, la', bd, hb, h => by
    rw [rdLoop] at h
    cases bd
    · rw [if_neg (by simp)] at h
      obtain ⟨_, q2, _⟩ := numR_ok b false hb
      have hix : idxR (la, b, false) = (la + ((numR b false).1 : Int), la + ((numR b false).1 : Int), (numR b false).2) := rfl
      rw [hix] at h
      obtain ⟨⟨n, b1, bd1⟩, hX⟩ : ∃ X, numR b false = X := ⟨_, rfl⟩
      rw [hX] at h q2
      obtain ⟨h1, xs, h2, h3, h4⟩ := loopI_inv f _ _ _ _ _ _ _ q2 h
      dsimp only at h1 h2 h4
      subst h1
      obtain ⟨_, h5⟩ := numR_inv hb hX
      refine ⟨rfl, (la + (n : Int)) :: xs, by rw [h2]; simp, by simp [h3], ?_⟩
      rw [difL, show (la + (n : Int) - la).toNat = n by omega, List.append_assoc, ← h4]
      exact h5
    · rw [if_pos rfl] at h
      simp at h
theorem loopI_rt (rest : List Int) : ∀ (xs out : List Int) (la : Int), (∀ x ∈ xs, la ≤ x ∧ x < 4096) → 0 ≤ la → xs.Pairwise (· < ·) → ∃ la', rdLoop idxR (fun s => s.2.2) xs.length out (la, difL la xs ++ rest, false) = (out ++ xs, la', rest, false)
  | [], out, la, _, _, _ => ⟨la, by simp [rdLoop, difL]⟩
  | x :: xs, out, la, h, h0, hp => by
    obtain ⟨h1, h2⟩ := h x (by simp)
    rw [List.pairwise_cons] at hp
    obtain ⟨la', ih⟩ := loopI_rt rest xs (out ++ [x]) x (fun y hy => ⟨Int.le_of_lt (hp.1 y hy), (h y (by simp [hy])).2⟩) (by omega) hp.2
    refine ⟨la', ?_⟩
    rw [List.length_cons, rdLoop, if_neg (by simp), difL, List.append_assoc]
    have hix : idxR (la, numB (x - la).toNat ++ (difL x xs ++ rest), false) = (la + ((numR (numB (x - la).toNat ++ (difL x xs ++ rest)) false).1 : Int), la + ((numR (numB (x - la).toNat ++ (difL x xs ++ rest)) false).1 : Int), (numR (numB (x - la).toNat ++ (difL x xs ++ rest)) false).2) := rfl
    rw [hix, numR_rt false (by omega)]
    dsimp only
    rw [show la + (((x - la).toNat : Nat) : Int) = x by omega, ih]
    simp
end Go.Proofs.Ythdjgcjpolpgdaa
/- Sf22: Decode is the reference's Decode: plain; no program. -/
namespace Go.Proofs.Ythdjgcjpolpgdaa
set_option linter.unusedVariables false
set_option linter.unusedSimpArgs false
set_option linter.unusedSectionVars false
open Go.RowKit
set_option maxRecDepth 100000
theorem clG_nz {ts cs : List Int} (h : clG (ts, cs) = true) : ∀ x ∈ ts, okLit x = true ∧ x ≠ 0 := fun x hx => by
  obtain ⟨f1, _⟩ := clG_facts h
  have hg : goodB 128 4096 ts cs = true := h
  exact ⟨List.all_eq_true.1 f1 x hx, (litOk_range (good_lits hg x hx)).2.2.1⟩
theorem clG_asc {ts cs : List Int} (h : clG (ts, cs) = true) : cs.Pairwise (· < ·) := by
  obtain ⟨_, _, _, _, f5⟩ := clG_facts h
  rw [List.pairwise_iff_getElem]
  intro i j hi hj hij
  have := f5 i j hij hj
  simpa [List.getD, hi, hj] using this
theorem cB_eq (cs : List Int) : cB cs = numB cs.length ++ difL 0 cs := by unfold cB; rw [difL_eq]
theorem rdT_inv {b : List Int} (hb : okBy b = true) {ts rest : List Int} {bd : Bool} (h : rdT b bd = (ts, rest, false)) : bd = false ∧ ((∀ x ∈ ts, x ≠ 0) → b = tB ts ++ rest) := by
  unfold rdT at h
  obtain ⟨_, q2, _⟩ := numR_ok b bd hb
  obtain ⟨⟨n, r, bn⟩, hn⟩ : ∃ X, numR b bd = X := ⟨_, rfl⟩
  rw [hn] at h q2
  dsimp only at h q2
  obtain ⟨h1, xs, h2, h3, h4⟩ := loopT_inv _ _ _ _ _ _ q2 h
  rw [Bool.or_eq_false_iff] at h1
  obtain ⟨rfl, _⟩ := h1
  obtain ⟨h5, h6⟩ := numR_inv hb hn
  rw [List.nil_append] at h2
  subst h2
  refine ⟨h5, fun hz => ?_⟩
  unfold tB
  rw [List.append_assoc, ← h4 hz, h3]
  exact h6
theorem rdI_inv {b : List Int} (hb : okBy b = true) {cs rest : List Int} {la : Int} {bd : Bool} (h : rdI b bd = (cs, la, rest, false)) : bd = false ∧ b = cB cs ++ rest := by
  unfold rdI at h
  obtain ⟨_, q2, _⟩ := numR_ok b bd hb
  obtain ⟨⟨n, r, bn⟩, hn⟩ : ∃ X, numR b bd = X := ⟨_, rfl⟩
  rw [hn] at h q2
  dsimp only at h q2
  obtain ⟨h1, xs, h2, h3, h4⟩ := loopI_inv _ _ _ _ _ _ _ _ q2 h
  rw [Bool.or_eq_false_iff] at h1
  obtain ⟨rfl, _⟩ := h1
  obtain ⟨h5, h6⟩ := numR_inv hb hn
  rw [List.nil_append] at h2
  subst h2
  refine ⟨h5, ?_⟩
  rw [cB_eq, List.append_assoc, ← h4, h3]
  exact h6
theorem claimR_inv {b : List Int} (hb : okBy b = true) {c : Cl} {rest : List Int} (h : claimR (b, false) = (c, rest, false)) : clG c = true ∧ b = clB c ++ rest := by
  unfold claimR at h
  dsimp only at h
  obtain ⟨_, t2, _⟩ := rdT_ok b false hb
  obtain ⟨⟨ts, b1, bd1⟩, hT⟩ : ∃ X, rdT b false = X := ⟨_, rfl⟩
  rw [hT] at h t2
  dsimp only at h t2
  obtain ⟨⟨cs, la, b2, bd2⟩, hI⟩ : ∃ X, rdI b1 bd1 = X := ⟨_, rfl⟩
  rw [hI] at h
  simp only [Prod.mk.injEq, Bool.or_eq_false_iff, Bool.not_eq_false'] at h
  obtain ⟨rfl, rfl, rfl, hg⟩ := h
  obtain ⟨rfl, h1⟩ := rdI_inv t2 hI
  have hc : clG (ts, cs) = true := hg
  obtain ⟨_, h2⟩ := rdT_inv hb hT
  refine ⟨hc, ?_⟩
  unfold clB
  rw [h2 (fun x hx => (clG_nz hc x hx).2), h1, List.append_assoc]
theorem loopC_inv : ∀ (f : Nat) (out out' : List Cl) (b rest : List Int) (bd : Bool), okBy b = true → rdLoop claimR (fun s => s.2) f out (b, bd) = (out', rest, false) → bd = false ∧ ∃ xs, out' = out ++ xs ∧ xs.length = f ∧ xs.all clG = true ∧ b = xs.flatMap clB ++ rest
  | 0, out, out', b, rest, bd, hb, h => by
    simp only [rdLoop, Prod.mk.injEq] at h
    obtain ⟨rfl, rfl, rfl⟩ := h
    exact ⟨rfl, [], by simp, rfl, rfl, rfl⟩
  | f + 1, out, out', b, rest, bd, hb, h => by
    rw [rdLoop] at h
    cases bd
    · rw [if_neg (by simp)] at h
      obtain ⟨_, _, q2, _⟩ := claimR_ok b false hb
      obtain ⟨⟨x, b1, bd1⟩, hX⟩ : ∃ X, claimR (b, false) = X := ⟨_, rfl⟩
      rw [hX] at h q2
      obtain ⟨h1, xs, h2, h3, h4, h5⟩ := loopC_inv f _ _ _ _ _ q2 h
      dsimp only at h1 h2 h5
      subst h1
      obtain ⟨h6, h7⟩ := claimR_inv hb hX
      refine ⟨rfl, x :: xs, by rw [h2]; simp, by simp [h3], by simp [h6, h4], ?_⟩
      rw [h7, h5]
      simp
    · rw [if_pos rfl] at h
      simp at h
theorem rdC_inv {b : List Int} (hb : okBy b = true) {l : List Cl} {rest : List Int} (h : rdC b false = (l, rest, false)) : l.all clG = true ∧ l.length ≤ 65536 ∧ b = fullB l ++ rest := by
  have hlen := (rdC_ok b false hb).2.2.2
  rw [h] at hlen
  unfold rdC at h
  obtain ⟨_, q2, _⟩ := numR_ok b false hb
  obtain ⟨⟨n, r, bn⟩, hn⟩ : ∃ X, numR b false = X := ⟨_, rfl⟩
  rw [hn] at h q2
  dsimp only at h q2
  obtain ⟨h1, xs, h2, h3, h4, h5⟩ := loopC_inv _ _ _ _ _ _ q2 h
  rw [Bool.or_eq_false_iff] at h1
  obtain ⟨rfl, _⟩ := h1
  obtain ⟨_, h6⟩ := numR_inv hb hn
  rw [List.nil_append] at h2
  subst h2
  refine ⟨h4, hlen, ?_⟩
  unfold fullB
  rw [List.append_assoc, ← h5, h3]
  exact h6
theorem claimR_rt {c : Cl} (hc : clG c = true) (rest : List Int) : claimR (clB c ++ rest, false) = (c, rest, false) := by
  obtain ⟨ts, cs⟩ := c
  obtain ⟨f1, f2, f3, f4, f5⟩ := clG_facts hc
  have hT : rdT (clB (ts, cs) ++ rest) false = (ts, cB cs ++ rest, false) := by
    unfold rdT clB tB
    dsimp only
    rw [List.append_assoc, List.append_assoc, numR_rt false (by omega)]
    dsimp only
    rw [Bool.false_or, decide_eq_false (by omega), loopT_rt false _ rfl ts [] (clG_nz hc)]
    simp
  have hI : ∃ la, rdI (cB cs ++ rest) false = (cs, la, rest, false) := by
    obtain ⟨la, h⟩ := loopI_rt rest cs [] 0 (fun x hx => f4 x hx) (Int.le_refl 0) (clG_asc hc)
    refine ⟨la, ?_⟩
    unfold rdI
    rw [cB_eq, List.append_assoc, numR_rt false (by omega)]
    dsimp only
    rw [Bool.false_or, decide_eq_false (by omega), h]
    simp
  obtain ⟨la, hI⟩ := hI
  unfold claimR
  dsimp only
  rw [hT]
  dsimp only
  rw [hI]
  dsimp only
  rw [show goodB 128 4096 ts cs = true from hc]
  rfl
theorem loopC_rt (rest : List Int) : ∀ (xs out : List Cl), xs.all clG = true → rdLoop claimR (fun s => s.2) xs.length out (xs.flatMap clB ++ rest, false) = (out ++ xs, rest, false)
  | [], out, _ => by simp [rdLoop]
  | x :: xs, out, h => by
    rw [List.all_cons, Bool.and_eq_true] at h
    rw [List.length_cons, rdLoop, if_neg (by simp), List.flatMap_cons, List.append_assoc, claimR_rt h.1]
    dsimp only
    rw [loopC_rt rest xs _ h.2]
    simp
theorem rdC_rt {l : List Cl} (hf : l.all clG = true) (hl : l.length ≤ 65536) : rdC (fullB l) false = (l, [], false) := by
  unfold rdC fullB
  rw [numR_rt false (by omega)]
  dsimp only
  rw [Bool.false_or, decide_eq_false (by omega)]
  have := loopC_rt [] l [] hf
  rw [List.append_nil] at this
  rw [this]
  simp
theorem drop_to {b x y : List Int} {a : Nat} (h : b.drop a = x ++ y) (ha : a ≤ b.length) : b.drop (a + x.length) = y ∧ a + x.length ≤ b.length := by
  refine ⟨?_, ?_⟩
  · rw [← List.drop_drop, h, List.drop_left]
  · have := congrArg List.length h
    rw [List.length_drop, List.length_append] at this
    omega
theorem loopTF_rt (b rest : List Int) : ∀ (xs out : List Int) (a : Nat), (∀ x ∈ xs, okLit x = true ∧ x ≠ 0) → b.drop a = xs.flatMap litB ++ rest → a ≤ b.length → rdLoop (litF b) (fun s => s.2) xs.length out (a, false) = (out ++ xs, a + (xs.flatMap litB).length, false)
  | [], out, a, _, _, _ => by simp [rdLoop]
  | x :: xs, out, a, h, hd, ha => by
    obtain ⟨h1, h0⟩ := h x (by simp)
    rw [List.flatMap_cons, List.append_assoc] at hd
    simp only [okLit, Bool.and_eq_true, decide_eq_true_eq] at h1
    have hn := nfR_rt (bad := false) (n := litN x) hd ha (by have := litN_le h1.1 h1.2; omega)
    have hl : litF b (a, false) = (x, a + (litB x).length, false) := by
      unfold litF
      rw [hn]
      refine Prod.ext ?_ rfl
      dsimp only
      unfold litN
      split <;> split <;> omega
    obtain ⟨d1, d2⟩ := drop_to hd ha
    rw [List.length_cons, rdLoop, if_neg (by simp), hl, List.flatMap_cons]
    dsimp only
    rw [loopTF_rt b rest xs _ _ (fun y hy => h y (by simp [hy])) d1 d2]
    simp [Nat.add_assoc]
theorem loopIF_rt (b rest : List Int) : ∀ (xs out : List Int) (a : Nat) (la : Int), (∀ x ∈ xs, la ≤ x ∧ x < 4096) → 0 ≤ la → xs.Pairwise (· < ·) → b.drop a = difL la xs ++ rest → a ≤ b.length → ∃ la', rdLoop (ixF b) (fun s => s.2.2) xs.length out (la, a, false) = (out ++ xs, la', a + (difL la xs).length, false)
  | [], out, a, la, _, _, _, _, _ => ⟨la, by simp [rdLoop, difL]⟩
  | x :: xs, out, a, la, h, h0, hp, hd, ha => by
    obtain ⟨h1, h2⟩ := h x (by simp)
    rw [List.pairwise_cons] at hp
    rw [difL, List.append_assoc] at hd
    have hn := nfR_rt (bad := false) hd ha (by omega)
    obtain ⟨d1, d2⟩ := drop_to hd ha
    obtain ⟨la', ih⟩ := loopIF_rt b rest xs (out ++ [x]) _ x (fun y hy => ⟨Int.le_of_lt (hp.1 y hy), (h y (by simp [hy])).2⟩) (by omega) hp.2 d1 d2
    refine ⟨la', ?_⟩
    have hix : ixF b (la, a, false) = (x, x, a + (numB (x - la).toNat).length, false) := by
      unfold ixF
      dsimp only
      rw [hn]
      dsimp only
      rw [show la + (((x - la).toNat : Nat) : Int) = x by omega]
    rw [List.length_cons, rdLoop, if_neg (by simp), hix, difL]
    dsimp only
    rw [ih]
    simp [Nat.add_assoc]
theorem clF_rt {b rest : List Int} {c : Cl} {a : Nat} (hc : clG c = true) (hd : b.drop a = clB c ++ rest) (ha : a ≤ b.length) : clF b (a, false) = (c, a + (clB c).length, false) := by
  obtain ⟨ts, cs⟩ := c
  obtain ⟨f1, f2, f3, f4, f5⟩ := clG_facts hc
  unfold clB tB at hd
  dsimp only at hd
  rw [List.append_assoc, List.append_assoc] at hd
  have hn := nfR_rt (bad := false) hd ha (by omega)
  obtain ⟨d1, d2⟩ := drop_to hd ha
  have hT : tF b (a, false) = (ts, a + (numB ts.length).length + (ts.flatMap litB).length, false) := by
    unfold tF
    rw [hn]
    dsimp only
    rw [loopTF_rt b _ ts [] _ (clG_nz hc) d1 d2]
    simp
  obtain ⟨d3, d4⟩ := drop_to d1 d2
  rw [cB_eq, List.append_assoc] at d3
  have hn2 := nfR_rt (bad := false) d3 d4 (by omega)
  obtain ⟨d5, d6⟩ := drop_to d3 d4
  obtain ⟨la, hI0⟩ := loopIF_rt b rest cs [] _ 0 (fun x hx => f4 x hx) (Int.le_refl 0) (clG_asc hc) d5 d6
  unfold clF
  rw [hT]
  dsimp only
  unfold iF
  rw [hn2]
  dsimp only
  rw [hI0]
  simp only [List.nil_append, Prod.mk.injEq, and_true, true_and]
  unfold clB tB
  dsimp only
  rw [cB_eq]
  simp only [List.length_append]
  omega
theorem loopCF_rt (b rest : List Int) : ∀ (xs out : List Cl) (a : Nat), xs.all clG = true → b.drop a = xs.flatMap clB ++ rest → a ≤ b.length → rdLoop (clF b) (fun s => s.2) xs.length out (a, false) = (out ++ xs, a + (xs.flatMap clB).length, false)
  | [], out, a, _, _, _ => by simp [rdLoop]
  | x :: xs, out, a, h, hd, ha => by
    rw [List.all_cons, Bool.and_eq_true] at h
    rw [List.flatMap_cons, List.append_assoc] at hd
    obtain ⟨d1, d2⟩ := drop_to hd ha
    rw [List.length_cons, rdLoop, if_neg (by simp), clF_rt h.1 hd ha, List.flatMap_cons]
    dsimp only
    rw [loopCF_rt b rest xs _ _ h.2 d1 d2]
    simp [Nat.add_assoc]
theorem dF_rt {l : List Cl} (hf : l.all clG = true) (hl : l.length ≤ 65536) : (dF (fullB l)).1 = l ∧ (dF (fullB l)).2.2 = false := by
  have hd : (fullB l).drop 0 = numB l.length ++ (l.flatMap clB ++ []) := by simp [fullB]
  have hn := nfR_rt (bad := false) hd (Nat.zero_le _) (by omega)
  obtain ⟨d1, d2⟩ := drop_to hd (Nat.zero_le _)
  unfold dF
  rw [hn]
  dsimp only
  rw [loopCF_rt _ [] l [] _ hf d1 d2]
  simp
theorem decA_eq {b : List Int} (hb : okBy b = true) (hl : b.length ≤ 3000) : decA b = decR b := by
  unfold decA decR
  rw [if_neg (by unfold maxB; omega)]
  obtain ⟨⟨l, b2, bd⟩, hR⟩ : ∃ X, rdC b false = X := ⟨_, rfl⟩
  rw [hR]
  dsimp only
  by_cases hs : (bd || decide (0 < b2.length)) = true
  · rw [if_pos hs, if_neg]
    rintro ⟨h1, h2, h3⟩
    have h4 := (dF_ok b hl).2
    have h5 := rdC_rt h2 (by omega)
    rw [h3, hR] at h5
    simp only [Prod.mk.injEq] at h5
    obtain ⟨_, rfl, rfl⟩ := h5
    simp at hs
  · rw [if_neg hs]
    rw [Bool.or_eq_true, not_or, decide_eq_true_eq] at hs
    have hbd : bd = false := by simpa using hs.1
    have hb2 : b2 = [] := List.eq_nil_of_length_eq_zero (by omega)
    subst hbd
    subst hb2
    obtain ⟨h1, h2, h3⟩ := rdC_inv hb hR
    rw [List.append_nil] at h3
    obtain ⟨h4, h5⟩ := dF_rt h1 h2
    rw [← h3] at h4 h5
    rw [if_pos ⟨h5, by rw [h4]; exact h1, by rw [h4]; exact h3.symm⟩, h4]
end Go.Proofs.Ythdjgcjpolpgdaa
/- Dc22: Rows of Decode for the table; no condition. -/
namespace Go.Proofs.Ythdjgcjpolpgdaa
set_option linter.unusedVariables false
set_option linter.unusedSimpArgs false
set_option linter.unusedSectionVars false
open Go.RowKit
set_option maxRecDepth 100000
def toB : AV → Option (List Int)
  | .sl 1 ys => bytesOf ys
  | .v (.slice none 0 0) => some []
  | _ => none
@[simp] theorem toB_sl (xs : List Int) : toB (.sl 1 (xs.map fun x => [.v (.int .u8 x)])) = some xs := bytes_idem xs
@[simp] theorem toB_aB (xs : List Int) : toB (aB xs) = some xs := bytes_idem xs
@[simp] theorem toB_nil : toB (.v (.slice none 0 0)) = some [] := rfl
theorem bytesOf_inv : ∀ {ys : List (List AV)} {xs : List Int}, bytesOf ys = some xs → ys = xs.map fun x => [.v (.int .u8 x)]
  | [], xs, h => by simp only [bytesOf, Option.some.injEq] at h; subst h; rfl
  | r :: rs, xs, h => by
    simp only [bytesOf] at h
    split at h
    · rename_i x l h1 h2
      cases h
      rw [rowB_inv h1, List.map_cons, ← bytesOf_inv h2]
    · cases h
theorem cov_B {a : AV} {xs : List Int} (h : toB a = some xs) : Cov a (aB xs) := fun S v hv => by
  unfold toB at h
  split at h
  · rw [bytesOf_inv h] at hv; exact hv
  · cases h; rw [hv.v_eq]; exact rv_nil 1
  · cases h
theorem decode_pR (b : List Int) (hb : okB b = true) (hk : decide (b.length ≤ 3000) = true) : FnPure Try.prog 38 [aB b] (decR b) := by
  have hl := of_decide_eq_true hk
  exact decA_eq hb hl ▸ decode_p b hb (by omega)
theorem decodeF_pR (b : List Int) (hb : okB b = true) (hk : decide (b.length ≤ 3000) = true) : FnPure Try.prog 39 [aB b] (decR b) := decodeF_p b hb (of_decide_eq_true hk)
@[simp] def g_trDec : List AV → Option (AV × Bool)
  | [a0] => (match toB a0 with | some b => if (okB b && decide (b.length ≤ 3000)) = true then some (decR b, false) else none | none => none)
  | _ => none
theorem e_trDec : EntOk Try.prog 38 g_trDec := ent_pure (by kernel_rfl) fun args r fr h => by
  unfold g_trDec at h
  split at h
  · rename_i a0
    split at h
    · rename_i b t0
      split at h
      · rename_i hc
        simp only [Bool.and_eq_true] at hc
        obtain ⟨o0, hk⟩ := hc
        cases h
        exact ⟨FnPure.cov (decode_pR b o0 hk) (.cons (cov_B t0) .nil), rfl⟩
      · cases h
    · cases h
  · cases h

@[simp] def g_r2Dec : List AV → Option (AV × Bool)
  | [a0] => (match toB a0 with | some b => if (okB b && decide (b.length ≤ 3000)) = true then some (decR b, false) else none | none => none)
  | _ => none
theorem e_r2Dec : EntOk Try.prog 39 g_r2Dec := ent_pure (by kernel_rfl) fun args r fr h => by
  unfold g_r2Dec at h
  split at h
  · rename_i a0
    split at h
    · rename_i b t0
      split at h
      · rename_i hc
        simp only [Bool.and_eq_true] at hc
        obtain ⟨o0, hk⟩ := hc
        cases h
        exact ⟨FnPure.cov (decodeF_pR b o0 hk) (.cons (cov_B t0) .nil), rfl⟩
      · cases h
    · cases h
  · cases h

def l114 : List (FuncId × (List AV → Option (AV × Bool))) :=
  (38, g_trDec) :: (39, g_r2Dec) :: l113
theorem l114_ok : ∀ p ∈ l114, EntOk Try.prog p.1 p.2 := ent_cons e_trDec (ent_cons e_r2Dec (l113_ok))
def PT114 : PTab := tab l114
theorem PT114_ok : PTok Try.prog PT114 := tab_ok l114_ok
@[simp] theorem PT114_litVar : PT114 32 = g_litVar := rfl
@[simp] theorem PT114_litValid : PT114 77 = g_litValid := rfl
@[simp] theorem PT114_contains : PT114 50 = g_contains := rfl
@[simp] theorem PT114_check : PT114 46 = g_check := rfl
@[simp] theorem PT114_with : PT114 33 = g_with := rfl
@[simp] theorem PT114_without : PT114 31 = g_without := rfl
@[simp] theorem PT114_all : PT114 30 = g_all := rfl
@[simp] theorem PT114_rValid : PT114 71 = g_rValid := rfl
@[simp] theorem PT114_rCheck : PT114 42 = g_rCheck := rfl
@[simp] theorem PT114_litvalid : PT114 85 = g_litvalid := rfl
@[simp] theorem PT114_opposite : PT114 87 = g_opposite := rfl
@[simp] theorem PT114_clone : PT114 99 = g_clone := rfl
@[simp] theorem PT114_order : PT114 86 = g_order := rfl
@[simp] theorem PT114_term : PT114 69 = g_term := rfl
@[simp] theorem PT114_clause : PT114 57 = g_clause := rfl
@[simp] theorem PT114_equal : PT114 61 = g_equal := rfl
@[simp] theorem PT114_distinct : PT114 60 = g_distinct := rfl
@[simp] theorem PT114_normal : PT114 27 = g_normal := rfl
@[simp] theorem PT114_rContains : PT114 74 = g_rContains := rfl
@[simp] theorem PT114_rSameInts : PT114 52 = g_rSameInts := rfl
@[simp] theorem PT114_rAbs : PT114 114 = g_rAbs := rfl
@[simp] theorem PT114_rBefore : PT114 97 = g_rBefore := rfl
@[simp] theorem PT114_rSorted : PT114 75 = g_rSorted := rfl
@[simp] theorem PT114_rPut : PT114 76 = g_rPut := rfl
@[simp] theorem PT114_rNormal : PT114 45 = g_rNormal := rfl
@[simp] theorem PT114_place : PT114 62 = g_place := rfl
@[simp] theorem PT114_vHas : PT114 34 = g_vHas := rfl
@[simp] theorem PT114_vMinus : PT114 90 = g_vMinus := rfl
@[simp] theorem PT114_vCut : PT114 29 = g_vCut := rfl
@[simp] theorem PT114_vSub : PT114 65 = g_vSub := rfl
@[simp] theorem PT114_litHolds : PT114 64 = g_litHolds := rfl
@[simp] theorem PT114_litAny : PT114 36 = g_litAny := rfl
@[simp] theorem PT114_thEval : PT114 37 = g_thEval := rfl
@[simp] theorem PT114_rSame : PT114 22 = g_rSame := rfl
@[simp] theorem PT114_rTerm : PT114 73 = g_rTerm := rfl
@[simp] theorem PT114_thVars : PT114 35 = g_thVars := rfl
@[simp] theorem PT114_light : PT114 13 = g_light := rfl
@[simp] theorem PT114_trWorks : PT114 15 = g_trWorks := rfl
@[simp] theorem PT114_copiedL : PT114 17 = g_copiedL := rfl
@[simp] theorem PT114_sameCls : PT114 24 = g_sameCls := rfl
@[simp] theorem PT114_r2Enc : PT114 26 = g_r2Enc := rfl
@[simp] theorem PT114_trEnc : PT114 25 = g_trEnc := rfl
@[simp] theorem PT114_r2Bytes : PT114 56 = g_r2Bytes := rfl
@[simp] theorem PT114_r2Num : PT114 84 = g_r2Num := rfl
@[simp] theorem PT114_r2Formed : PT114 43 = g_r2Formed := rfl
@[simp] theorem PT114_r2In : PT114 51 = g_r2In := rfl
@[simp] theorem PT114_r2Same : PT114 23 = g_r2Same := rfl
@[simp] theorem PT114_r2Var : PT114 72 = g_r2Var := rfl
@[simp] theorem PT114_trLight : PT114 14 = g_trLight := rfl
@[simp] theorem PT114_trGood : PT114 47 = g_trGood := rfl
@[simp] theorem PT114_trDec : PT114 38 = g_trDec := rfl
@[simp] theorem PT114_r2Dec : PT114 39 = g_r2Dec := rfl
end Go.Proofs.Ythdjgcjpolpgdaa
