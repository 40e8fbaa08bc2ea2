/- The parity nets and their reasons (plain); no condition. -/
import Derived.Test.YtecdhmiamlgibaaDoorPe39
namespace Go.Proofs.YtecdhmiamlgibaaDoor
set_option linter.unusedVariables false
set_option linter.unusedSimpArgs false
set_option linter.unusedSectionVars false
open Go.RowKit
set_option maxRecDepth 100000
def blkN (v : Int) (y n k : Nat) : List Nd :=
  [(2, v, []), (2, -v, []), (3, 0, [(y : Int), (k : Int) + 1]), (3, 0, [(n : Int), (k : Int)]), (3, 0, [(y : Int), (k : Int)]), (3, 0, [(n : Int), (k : Int) + 1]), (4, 0, [(k : Int) + 4, (k : Int) + 5]), (4, 0, [(k : Int) + 2, (k : Int) + 3])]
def yesN : Nat → Nat
  | 0 => 0
  | v + 1 => 8 * v + 9
def noN : Nat → Nat
  | 0 => 1
  | v + 1 => 8 * v + 8
def parN : Nat → List Nd
  | 0 => [(2, 1, []), (2, -1, [])]
  | v + 1 => parN v ++ blkN ((v : Int) + 2) (yesN v) (noN v) (8 * v + 2)
theorem parN_len : ∀ v, (parN v).length = 8 * v + 2
  | 0 => rfl
  | v + 1 => by rw [parN, List.length_append, parN_len v]; simp only [blkN, List.length_cons, List.length_nil]; omega
theorem yesN_lt (v : Nat) : yesN v < 8 * v + 2 := by cases v <;> simp only [yesN] <;> omega
theorem noN_lt (v : Nat) : noN v < 8 * v + 2 := by cases v <;> simp only [noN] <;> omega
theorem scanN_app {α : Type} (f : Nd → List α → α) (xs ys : List Nd) : scanN f (xs ++ ys) = ys.foldl (fun out x => out ++ [f x out]) (scanN f xs) := by
  unfold scanN; rw [List.foldl_append]
theorem gr_app {α : Type} {V l : List α} {k j i : Nat} {d : α} (h : V.length = k) (hi : i = k + j) : (V ++ l).getD i d = l.getD j d := by
  subst hi; simp [List.getD, List.getElem?_append_right (by omega : V.length ≤ k + j), h]
theorem gl_app {α : Type} {V l : List α} {k i : Nat} {d : α} (h : V.length = k) (hi : i < k) : (V ++ l).getD i d = V.getD i d := by
  simp [List.getD, List.getElem?_append_left (by omega : i < V.length)]
theorem litV_pos (a : BitVec 128) {v : Int} (h1 : 1 ≤ v) (h2 : v ≤ 128) : litV a v = sHas a v := by
  have e : litVar v = v := by unfold litVar; rw [if_pos ⟨h1, h2⟩]
  unfold litV
  rw [e, if_neg (by omega), decide_eq_true (by omega)]; simp
theorem litV_neg (a : BitVec 128) {v : Int} (h1 : 1 ≤ v) (h2 : v ≤ 128) : litV a (-v) = !sHas a v := by
  have e : litVar (-v) = v := by unfold litVar; rw [if_neg (by omega), if_pos (by omega), Int.neg_neg]
  unfold litV
  rw [e, if_neg (by omega), decide_eq_false (by omega)]; simp
theorem nodeV_and (a : BitVec 128) (i j : Int) (V : List Bool) : nodeV a (3, 0, [i, j]) V = (V.getD i.toNat false && V.getD j.toNat false) := by simp [nodeV]
theorem nodeV_or (a : BitVec 128) (i j : Int) (V : List Bool) : nodeV a (4, 0, [i, j]) V = (V.getD i.toNat false || V.getD j.toNat false) := by simp [nodeV]
theorem nodeV_lit (a : BitVec 128) (l : Int) (V : List Bool) : nodeV a (2, l, []) V = litV a l := by simp [nodeV]
theorem blk_vals (a : BitVec 128) {V : List Bool} {k y n : Nat} {v : Int} (hV : V.length = k) (hy : y < k) (hn : n < k) (h1 : 1 ≤ v) (h2 : v ≤ 128) :
    (blkN v y n k).foldl (fun out x => out ++ [nodeV a x out]) V = V ++ [sHas a v, !sHas a v, V.getD y false && !sHas a v, V.getD n false && sHas a v, V.getD y false && sHas a v, V.getD n false && !sHas a v, (V.getD y false && sHas a v) || (V.getD n false && !sHas a v), (V.getD y false && !sHas a v) || (V.getD n false && sHas a v)] := by
  have ty : (y : Int).toNat = y := Int.toNat_natCast y
  have tn : (n : Int).toNat = n := Int.toNat_natCast n
  have t0 : (k : Int).toNat = k := Int.toNat_natCast k
  have tj : ∀ j : Nat, ((k : Int) + (j : Int)).toNat = k + j := fun j => by omega
  have t1 : ((k : Int) + 1).toNat = k + 1 := tj 1
  have t2 : ((k : Int) + 2).toNat = k + 2 := tj 2
  have t3 : ((k : Int) + 3).toNat = k + 3 := tj 3
  have t4 : ((k : Int) + 4).toNat = k + 4 := tj 4
  have t5 : ((k : Int) + 5).toNat = k + 5 := tj 5
  have gy := fun l : List Bool => gl_app (d := false) (l := l) hV hy
  have gn := fun l : List Bool => gl_app (d := false) (l := l) hV hn
  have g := fun (l : List Bool) (j : Nat) => gr_app (l := l) (d := false) hV (rfl : k + j = k + j)
  have g0 := fun (l : List Bool) => gr_app (l := l) (d := false) (j := 0) hV (rfl : k = k + 0)
  simp only [blkN, List.foldl_cons, List.foldl_nil, nodeV_lit, litV_pos a h1 h2, litV_neg a h1 h2, List.append_assoc, List.cons_append, List.nil_append, nodeV_and, nodeV_or, ty, tn, t0, t1, t2, t3, t4, t5, gy, gn, g, g0, List.getD_cons_zero, List.getD_cons_succ]
def parB (a : BitVec 128) : Nat → Bool
  | 0 => sHas a 1
  | v + 1 => parB a v ^^ sHas a ((v : Int) + 2)
theorem par_vals (a : BitVec 128) : ∀ v : Nat, v ≤ 100 → (valsL a (parN v)).length = 8 * v + 2 ∧ (valsL a (parN v)).getD (yesN v) false = parB a v ∧ (valsL a (parN v)).getD (noN v) false = !parB a v
  | 0, _ => by
    have e : valsL a (parN 0) = [litV a 1, litV a (-1)] := by
      show scanN (nodeV a) [(2, 1, []), (2, -1, [])] = _
      simp [scanN, nodeV]
    rw [e, litV_pos a (by decide) (by decide), show (-1 : Int) = -(1 : Int) from rfl, litV_neg a (by decide) (by decide)]
    exact ⟨rfl, rfl, rfl⟩
  | v + 1, hv => by
    obtain ⟨hl, i1, i2⟩ := par_vals a v (by omega)
    have e : valsL a (parN (v + 1)) = (blkN ((v : Int) + 2) (yesN v) (noN v) (8 * v + 2)).foldl (fun out x => out ++ [nodeV a x out]) (valsL a (parN v)) := scanN_app _ _ _
    rw [blk_vals a hl (yesN_lt v) (noN_lt v) (by omega) (by omega), i1, i2] at e
    rw [e]
    refine ⟨by rw [List.length_append, hl]; rfl, ?_, ?_⟩
    · rw [gr_app (j := 7) hl (by simp only [yesN])]
      simp only [List.getD_cons_zero, List.getD_cons_succ, parB]
      cases parB a v <;> cases sHas a ((v : Int) + 2) <;> rfl
    · rw [gr_app (j := 6) hl (by simp only [noN])]
      simp only [List.getD_cons_zero, List.getD_cons_succ, parB]
      cases parB a v <;> cases sHas a ((v : Int) + 2) <;> rfl
theorem par_eval (a : BitVec 128) {v : Nat} (hv : v ≤ 100) : evalR (parN v) a = (parB a v ^^ decide (v = 0)) := by
  obtain ⟨_, h1, h2⟩ := par_vals a v hv
  unfold evalR
  rw [parN_len]
  cases v with
  | zero => rw [show 8 * 0 + 2 - 1 = noN 0 from rfl, h2]; simp
  | succ w => rw [show 8 * (w + 1) + 2 - 1 = yesN (w + 1) by simp only [yesN]; omega, h1]; simp
theorem nodeS_lit (l : Int) (V : List (BitVec 128)) : nodeS (2, l, []) V = sBit (litVar l) := rfl
theorem nodeS_two (x i j : Int) (V : List (BitVec 128)) : nodeS (x, 0, [i, j]) V = (V.getD i.toNat 0#128 ||| V.getD j.toNat 0#128) := by
  unfold nodeS
  simp only [List.foldl_cons, List.foldl_nil]
  rw [show litVar 0 = 0 from rfl, sBit_zero, BitVec.zero_or]
theorem blk_vars {V : List (BitVec 128)} {k y n : Nat} {v : Int} (hV : V.length = k) (hy : y < k) (hn : n < k) (h1 : 1 ≤ v) (h2 : v ≤ 128) :
    (blkN v y n k).foldl (fun out x => out ++ [nodeS x out]) V = V ++ [sBit v, sBit v, V.getD y 0#128 ||| sBit v, V.getD n 0#128 ||| sBit v, V.getD y 0#128 ||| sBit v, V.getD n 0#128 ||| sBit v, (V.getD y 0#128 ||| sBit v) ||| (V.getD n 0#128 ||| sBit v), (V.getD y 0#128 ||| sBit v) ||| (V.getD n 0#128 ||| sBit v)] := by
  have ty : (y : Int).toNat = y := Int.toNat_natCast y
  have tn : (n : Int).toNat = n := Int.toNat_natCast n
  have t0 : (k : Int).toNat = k := Int.toNat_natCast k
  have tj : ∀ j : Nat, ((k : Int) + (j : Int)).toNat = k + j := fun j => by omega
  have t1 : ((k : Int) + 1).toNat = k + 1 := tj 1
  have t2 : ((k : Int) + 2).toNat = k + 2 := tj 2
  have t3 : ((k : Int) + 3).toNat = k + 3 := tj 3
  have t4 : ((k : Int) + 4).toNat = k + 4 := tj 4
  have t5 : ((k : Int) + 5).toNat = k + 5 := tj 5
  have gy := fun l : List (BitVec 128) => gl_app (d := 0#128) (l := l) hV hy
  have gn := fun l : List (BitVec 128) => gl_app (d := 0#128) (l := l) hV hn
  have g := fun (l : List (BitVec 128)) (j : Nat) => gr_app (l := l) (d := 0#128) hV (rfl : k + j = k + j)
  have g0 := fun (l : List (BitVec 128)) => gr_app (l := l) (d := 0#128) (j := 0) hV (rfl : k = k + 0)
  have l1 : litVar v = v := by unfold litVar; rw [if_pos ⟨h1, h2⟩]
  have l2 : litVar (-v) = v := by unfold litVar; rw [if_neg (by omega), if_pos (by omega), Int.neg_neg]
  simp only [blkN, List.foldl_cons, List.foldl_nil, nodeS_lit, l1, l2, List.append_assoc, List.cons_append, List.nil_append, nodeS_two, ty, tn, t0, t1, t2, t3, t4, t5, gy, gn, g, g0, List.getD_cons_zero, List.getD_cons_succ]
theorem sAll_next {v : Int} (h1 : 0 ≤ v) (h2 : v < 128) : sAll v ||| sBit (v + 1) = sAll (v + 1) := by
  refine sets_ext fun u g1 g2 => ?_
  rw [sHas_or, sHas_all, sHas_all, sHas_bit, Bool.eq_iff_iff, Bool.or_eq_true, decide_eq_true_eq, decide_eq_true_eq, decide_eq_true_eq]
  omega
theorem par_vars : ∀ v : Nat, v ≤ 100 → (varsL (parN v)).length = 8 * v + 2 ∧ (varsL (parN v)).getD (yesN v) 0#128 = sAll ((v : Int) + 1) ∧ (varsL (parN v)).getD (noN v) 0#128 = sAll ((v : Int) + 1)
  | 0, _ => by
    have e : varsL (parN 0) = [sBit 1, sBit 1] := by
      show scanN nodeS [(2, 1, []), (2, -1, [])] = _
      simp [scanN, nodeS, litVar]
    rw [e]
    exact ⟨rfl, by decide, by decide⟩
  | v + 1, hv => by
    obtain ⟨hl, i1, i2⟩ := par_vars v (by omega)
    have e : varsL (parN (v + 1)) = (blkN ((v : Int) + 2) (yesN v) (noN v) (8 * v + 2)).foldl (fun out x => out ++ [nodeS x out]) (varsL (parN v)) := scanN_app _ _ _
    rw [blk_vars hl (yesN_lt v) (noN_lt v) (by omega) (by omega), i1, i2] at e
    rw [e]
    have hs : sAll ((v : Int) + 1) ||| sBit ((v : Int) + 2) = sAll (((v + 1 : Nat) : Int) + 1) := by
      have := sAll_next (v := (v : Int) + 1) (by omega) (by omega)
      rw [show ((v + 1 : Nat) : Int) + 1 = (v : Int) + 1 + 1 by omega, ← this]
      congr 2
    refine ⟨by rw [List.length_append, hl]; rfl, ?_, ?_⟩
    · rw [gr_app (j := 7) hl (by simp only [yesN])]
      simp only [List.getD_cons_zero, List.getD_cons_succ, hs, BitVec.or_self]
    · rw [gr_app (j := 6) hl (by simp only [noN])]
      simp only [List.getD_cons_zero, List.getD_cons_succ, hs, BitVec.or_self]
def firstV (n : Nat) : List Int := (List.range n).map fun i : Nat => (i : Int) + 1
theorem list_all : ∀ n : Nat, n < 21 → listS (sAll (n : Int)) = firstV n := by decide +kernel
theorem par_mat {v : Nat} (hv : v < 20) : matL (parN v) = firstV (v + 1) := by
  obtain ⟨_, h1, h2⟩ := par_vars v (by omega)
  have e : matS (parN v) = sAll ((v : Int) + 1) := by
    unfold matS
    rw [parN_len]
    cases v with
    | zero => rw [show 8 * 0 + 2 - 1 = noN 0 from rfl, h2]
    | succ w => rw [show 8 * (w + 1) + 2 - 1 = yesN (w + 1) by simp only [yesN]; omega, h1]
  unfold matL
  rw [e]
  exact list_all (v + 1) (by omega)
theorem firstV_len (n : Nat) : (firstV n).length = n := by unfold firstV; simp
theorem firstV_get {n i : Nat} (h : i < n) : (firstV n).getD i 0 = (i : Int) + 1 := by unfold firstV; simp [List.getD, h]
theorem par_valid : ∀ v, v < 20 → validN 128 (parN v) = true := by decide +kernel
theorem par_okNs : ∀ v, v < 20 → okNs (parN v) = true := by decide +kernel
theorem firstV_ok {n : Nat} (h : n ≤ 128) : okVs (firstV n) := by
  refine ⟨?_, fun v hv => ?_⟩
  · unfold firstV
    exact List.Pairwise.map _ (fun a b h => by intro e; exact h (by omega)) List.nodup_range
  · unfold firstV at hv
    rw [List.mem_map] at hv
    obtain ⟨i, hi, rfl⟩ := hv
    have := List.mem_range.1 hi
    omega
def parX (x : Nat) : Nat → Bool
  | 0 => x.testBit 0
  | v + 1 => parX x v ^^ x.testBit (v + 1)
theorem par_setX {n : Nat} (hn : n ≤ 128) (x : Nat) : ∀ v, v < n → parB (setX (firstV n) x) v = parX x v
  | 0, h => by
    have := posV_get (firstV_ok hn).1 (p := 0) (by rw [firstV_len]; omega)
    rw [firstV_get h] at this
    rw [parB, parX, setX_has (firstV_ok hn), show (1 : Int) = ((0 : Nat) : Int) + 1 from rfl, this]
  | v + 1, h => by
    have := posV_get (firstV_ok hn).1 (p := v + 1) (by rw [firstV_len]; omega)
    rw [firstV_get h] at this
    rw [parB, parX, par_setX hn x v (by omega), setX_has (firstV_ok hn), show (v : Int) + 2 = ((v + 1 : Nat) : Int) + 1 by omega, this]
theorem parX_flip (x i : Nat) : ∀ v, parX (x ^^^ 2 ^ i) v = (parX x v ^^ decide (i ≤ v))
  | 0 => by
    rw [parX, parX, Nat.testBit_xor, Nat.testBit_two_pow]
    by_cases h : i = 0
    · subst h; simp
    · rw [decide_eq_false h, decide_eq_false (by omega : ¬ i ≤ 0)]
  | v + 1 => by
    rw [parX, parX, parX_flip x i v, Nat.testBit_xor, Nat.testBit_two_pow]
    by_cases h : i = v + 1
    · subst h
      rw [decide_eq_false (by omega : ¬ v + 1 ≤ v), decide_eq_true (rfl : v + 1 = v + 1), decide_eq_true (Nat.le_refl (v + 1))]
      cases parX x v <;> cases x.testBit (v + 1) <;> rfl
    · rw [decide_eq_false h, show decide (i ≤ v + 1) = decide (i ≤ v) by rw [Bool.eq_iff_iff, decide_eq_true_eq, decide_eq_true_eq]; omega]
      cases parX x v <;> cases x.testBit (v + 1) <;> cases decide (i ≤ v) <;> rfl
theorem tabF_get {ns : List Nd} {y : Nat} (h : y < 2 ^ (matL ns).length) : tabF ns y = evalR ns (setX (matL ns) y) := by
  unfold tabF onL
  simp [List.getD, h]
theorem par_tab {v : Nat} (hv : v < 20) {y : Nat} (hy : y < 2 ^ (v + 1)) : tabF (parN v) y = (parX y v ^^ decide (v = 0)) := by
  have hm := par_mat hv
  rw [tabF_get (by rw [hm, firstV_len]; exact hy), par_eval _ (by omega), hm, par_setX (by omega) y v (by omega)]
theorem par_flip {v : Nat} (hv : v < 20) {x i : Nat} (hx : x < 2 ^ (v + 1)) (hi : i < v + 1) : tabF (parN v) (x ^^^ 2 ^ i) ≠ tabF (parN v) x := by
  have h2 : x ^^^ 2 ^ i < 2 ^ (v + 1) := Nat.xor_lt_two_pow hx (Nat.pow_lt_pow_right (by omega) hi)
  rw [par_tab hv hx, par_tab hv h2, parX_flip, decide_eq_true (by omega)]
  cases parX x v <;> cases decide (v = 0) <;> decide
theorem par_chg {v : Nat} (hv : v < 20) {x m : Nat} (hx : x < 2 ^ (v + 1)) (hm : m < 2 ^ (v + 1)) : chgB (tabF (parN v)) (v + 1) x m = decide (m ≠ 0) := by
  by_cases h0 : m = 0
  · subst h0; rw [chg_zero]; rfl
  rw [decide_eq_true h0, chg_iff hm]
  obtain ⟨i, hi⟩ := Nat.exists_testBit_of_ne_zero h0
  refine ⟨2 ^ i, fun p hp => ?_, par_flip hv hx (bit_hi hm hi)⟩
  rw [Nat.testBit_two_pow, decide_eq_true_eq] at hp
  rw [← hp]; exact hi
theorem par_least {v : Nat} (hv : v < 20) {x P : Nat} (hx : x < 2 ^ (v + 1)) (hP : P < 2 ^ (v + 1)) : leastB (tabF (parN v)) (v + 1) x P = decide (P = 2 ^ (v + 1) - 1) := by
  have hc := cmpl_lt hP
  have hz : cmpl (v + 1) P = 0 ↔ P = 2 ^ (v + 1) - 1 := by
    unfold cmpl
    constructor
    · intro h0
      have : (2 ^ (v + 1) - 1) ^^^ ((2 ^ (v + 1) - 1) ^^^ P) = P := by rw [← Nat.xor_assoc, Nat.xor_self, Nat.zero_xor]
      rw [h0, Nat.xor_zero] at this; exact this.symm
    · rintro rfl; exact Nat.xor_self _
  unfold leastB
  rw [par_chg hv hx hc]
  by_cases h : P = 2 ^ (v + 1) - 1
  · rw [decide_eq_true h, decide_eq_false (by rw [hz.2 h]; simp), Bool.not_false, Bool.true_and, List.all_eq_true]
    intro k hk
    have hk2 := List.mem_range.1 hk
    rw [par_chg hv hx (or_lt hc hk2), decide_eq_true, Bool.or_true]
    intro h0
    have := congrArg (fun z => z.testBit k) h0
    simp [Nat.testBit_or, Nat.testBit_two_pow] at this
  · rw [decide_eq_false h, show decide (cmpl (v + 1) P ≠ 0) = true from decide_eq_true fun h0 => h (hz.1 h0)]; rfl
theorem single_of {α : Type} {l : List α} {r : α} (hn : l.Nodup) (h : ∀ x, x ∈ l ↔ x = r) : l = [r] := by
  cases l with
  | nil => exact absurd ((h r).2 rfl) (by simp)
  | cons a t =>
    have ha := (h a).1 (by simp)
    subst ha
    cases t with
    | nil => rfl
    | cons b u =>
      have hb := (h b).1 (by simp)
      subst hb
      simp at hn
theorem par_rea {v : Nat} (hv : v < 16) (a : BitVec 128) : reaX (parN v) a = [termL (firstV (v + 1)) (idxN (firstV (v + 1)) a) (2 ^ (v + 1) - 1)] := by
  have hm := par_mat (v := v) (by omega)
  have hl : (matL (parN v)).length = v + 1 := by rw [hm, firstV_len]
  have hx := idxN_lt (matL (parN v)) a
  rw [hl] at hx
  have hp := Nat.two_pow_pos (v + 1)
  refine single_of (reaX_nodup a (by omega)) fun r => ?_
  rw [reaX_mem, hl]
  constructor
  · rintro ⟨P, h1, h2, rfl⟩
    rw [par_least (by omega) hx h1, decide_eq_true_eq] at h2
    rw [h2, hm]
  · rintro rfl
    refine ⟨2 ^ (v + 1) - 1, by omega, ?_, by rw [hm]⟩
    rw [par_least (by omega) hx (by omega)]; exact decide_eq_true rfl
theorem term_full : ∀ (vs : List Int) (x : Nat), termL vs x (2 ^ vs.length - 1) = (List.range vs.length).map (sgn vs x)
  | [], x => rfl
  | v :: r, x => by
    have hp := Nat.two_pow_pos r.length
    have e1 : (2 ^ (r.length + 1) - 1) % 2 = 1 := by rw [Nat.pow_succ]; omega
    have e2 : (2 ^ (r.length + 1) - 1) / 2 = 2 ^ r.length - 1 := by rw [Nat.pow_succ]; omega
    rw [List.length_cons, termL, if_pos e1, e2, term_full r (x / 2), List.range_succ_eq_map, List.map_cons, List.map_map]
    congr 1
    · unfold sgn
      rw [Nat.testBit_zero]
      simp
    · refine List.map_congr_left fun i _ => ?_
      simp only [Function.comp, sgn, Nat.testBit_succ, List.getD_cons_succ, Nat.succ_eq_add_one]
def oneL (a : BitVec 128) (n : Nat) : List Int := (List.range n).map fun i : Nat => if sHas a ((i : Int) + 1) = true then (i : Int) + 1 else -((i : Int) + 1)
theorem oneL_len (a : BitVec 128) (n : Nat) : (oneL a n).length = n := by unfold oneL; simp
theorem oneL_get (a : BitVec 128) {n i : Nat} (h : i < n) : (oneL a n).getD i 0 = if sHas a ((i : Int) + 1) = true then (i : Int) + 1 else -((i : Int) + 1) := by unfold oneL; simp [List.getD, h]
theorem par_one {v : Nat} (hv : v < 16) (a : BitVec 128) : reaX (parN v) a = [oneL a (v + 1)] := by
  rw [par_rea hv a]
  have h := term_full (firstV (v + 1)) (idxN (firstV (v + 1)) a)
  rw [firstV_len] at h
  rw [h]
  congr 1
  refine List.map_congr_left fun i hi => ?_
  have hi2 := List.mem_range.1 hi
  unfold sgn
  rw [idx_bit (firstV_ok (by omega)) a (by rw [firstV_len]; exact hi2), firstV_get hi2]
theorem par_out {v : Nat} (hv : v < 20) : idxN (matL (parN v)) (sBit 128) = 0 := by
  rw [par_mat hv]
  apply Nat.eq_of_testBit_eq
  intro i
  rw [Nat.zero_testBit]
  by_cases hi : i < v + 1
  · rw [idx_bit (firstV_ok (by omega)) _ (by rw [firstV_len]; exact hi), firstV_get hi, sHas_bit]
    exact decide_eq_false (by omega)
  · have h := idxN_lt (firstV (v + 1)) (sBit 128)
    rw [firstV_len] at h
    exact Nat.testBit_lt_two_pow (Nat.lt_of_lt_of_le h (Nat.pow_le_pow_right (by omega) (by omega)))
end Go.Proofs.YtecdhmiamlgibaaDoor
