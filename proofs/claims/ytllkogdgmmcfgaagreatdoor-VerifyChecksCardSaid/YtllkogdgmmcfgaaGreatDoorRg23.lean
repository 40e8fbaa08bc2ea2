/- The order in which literals are used does not matter; what the document's fit computes; plain; no condition. -/
import Derived.Test.YtllkogdgmmcfgaaGreatDoorPb23
namespace Go.Proofs.YtllkogdgmmcfgaaGreatDoor
set_option linter.unusedVariables false
set_option linter.unusedSimpArgs false
set_option linter.unusedSectionVars false
open Go.RowKit
set_option maxRecDepth 100000
inductive Run (ns : List Nd) : List (List Int) → List Int → List (List Int) → List Int → Prop
 | done {R : List (List Int)} {A B : List Int} (h : A.Perm B) : Run ns R A R B
 | step {R : List (List Int)} {A : List Int} {R' : List (List Int)} {B : List Int} {p : Int} {A1 : List Int} (hp : A.Perm (p :: A1)) (hu : useB ns R p = true) (h : Run ns (gvV R (litN ns p)) A1 R' B) : Run ns R A R' B
theorem Run.perm {ns : List Nd} {R : List (List Int)} {A A' : List Int} {R' : List (List Int)} {B : List Int} (h : Run ns R A R' B) (hA : A.Perm A') : Run ns R A' R' B := by
 cases h with
 | done h => exact .done (hA.symm.trans h)
 | step hp hu h => exact .step (hA.symm.trans hp) hu h
theorem use_iff {ns : List Nd} {R : List (List Int)} {p : Int} : useB ns R p = true ↔ kindN ns p = 2 ∧ [litN ns p] ∈ R := by
 unfold useB
 rw [Bool.and_eq_true, decide_eq_true_eq, decide_eq_true_eq]
theorem unit_ok {N : Int} {R : List (List Int)} (hz : checkT N R = 0) {l : Int} (h : [l] ∈ R) : litOk l N = true := ((checkT_ok hz).2.2.2 _ h).2 l (List.mem_singleton.2 rfl)
theorem unit_var {N : Int} {R : List (List Int)} (hz : checkT N R = 0) {l : Int} (h : [l] ∈ R) : sHas (varsT R) (litVar l) = true := by
 have a := litVar_abs (unit_ok hz h)
 have b := litVar_range l
 exact (sHas_varsT _ _).2 ⟨⟨a.2.1, b.2⟩, _, h, _, List.mem_singleton.2 rfl, rfl⟩
theorem sortK_one {N : Int} (h0 : 0 ≤ N) (h1 : N ≤ 128) {b : Int} (hb : litOk b N = true) : sortK [b] N.toNat = [b] := by
 refine strict_unique litLt_asymm (sortK_strict _ _ (by omega)) (List.pairwise_singleton _ _) fun z => ?_
 rw [mem_sortK_ok h0 (fun l hl => by rw [List.mem_singleton.1 hl]; exact hb)]
theorem unit_stays {N : Int} {R : List (List Int)} (hz : checkT N R = 0) {a b : Int} (hb : [b] ∈ R) (ha : litOk a N = true) (hne : litVar b ≠ litVar a) : [b] ∈ gvV R a := by
 obtain ⟨h0, h1, _, _⟩ := checkT_ok hz
 have hbo := unit_ok hz hb
 unfold gvV
 have e1 : b ≠ a := fun e => hne (by rw [e])
 have e2 : -b ≠ a := fun e => hne (by rw [← e, (litVar_opp hbo).1])
 refine (normL_mem (givenT_check hz [a]) _).2 ⟨[b], givenT_mem.2 ⟨[b], hb, ?_, ?_⟩, ?_, (sortK_one h0 h1 hbo).symm⟩
 ·unfold openC
  simp [e1]
 ·unfold restC
  simp [e2]
 ·unfold altK
  rw [List.any_eq_false]
  intro i _ h
  simp only [Bool.and_eq_true, decide_eq_true_eq, List.mem_singleton] at h
  omega
theorem norm_given {N : Int} {X : List (List Int)} (hz : checkT N X = 0) (ts : List Int) : normL (givenT ts (normL X)) = normL (givenT ts X) := by
 obtain ⟨h0, h1, _, h3⟩ := checkT_ok hz
 have hn := normL_check hz
 have g1 := givenT_check hn ts
 have g2 := givenT_check hz ts
 have hmem : ∀ d, d ∈ X → ∀ y, y ∈ sortK d N.toNat ↔ y ∈ d := fun d hd => mem_sortK_ok h0 (h3 d hd).2
 have hop : ∀ d ∈ X, openC ts (sortK d N.toNat) = openC ts d := fun d hd => by
  unfold openC
  rw [any_congr_mem (hmem d hd)]
 have hre : ∀ d ∈ X, ∀ y, y ∈ restC ts (sortK d N.toNat) ↔ y ∈ restC ts d := fun d hd y => by
  unfold restC
  rw [List.mem_filter, List.mem_filter, hmem d hd]
 refine strict_unique clLt_asymm (normL_strict g1) (normL_strict g2) fun z => ?_
 rw [normL_mem g1, normL_mem g2]
 constructor
 ·rintro ⟨c, hc, ha, rfl⟩
  obtain ⟨e, he, ho, rfl⟩ := givenT_mem.1 hc
  obtain ⟨d, hd, _, rfl⟩ := (normL_mem hz e).1 he
  refine ⟨restC ts d, givenT_mem.2 ⟨d, hd, by rw [← hop d hd]; exact ho, rfl⟩, ?_, ?_⟩
  ·rw [← altK_congr (hre d hd)]; exact ha
  ·exact sortK_congr (hre d hd) _
 ·rintro ⟨c, hc, ha, rfl⟩
  obtain ⟨d, hd, ho, rfl⟩ := givenT_mem.1 hc
  have hda : altK d N.toNat = false := by
   cases hh : altK d N.toNat
   ·rfl
   ·exfalso
    unfold altK at hh ha
    obtain ⟨i, hi, hi2⟩ := List.any_eq_true.1 hh
    simp only [Bool.and_eq_true, decide_eq_true_eq] at hi2
    rw [List.any_eq_false] at ha
    refine ha i hi ?_
    unfold openC at ho
    rw [Bool.not_eq_true', List.any_eq_false] at ho
    have o1 := ho _ hi2.1
    have o2 := ho _ hi2.2
    simp only [decide_eq_true_eq] at o1 o2
    unfold restC
    simp only [Bool.and_eq_true, decide_eq_true_eq, List.mem_filter, Bool.not_eq_true', decide_eq_false_iff_not, Int.neg_neg]
    exact ⟨⟨hi2.1, o2⟩, hi2.2, o1⟩
  refine ⟨restC ts (sortK d N.toNat), givenT_mem.2 ⟨_, (normL_mem hz _).2 ⟨d, hd, hda, rfl⟩, by rw [hop d hd]; exact ho, rfl⟩, ?_, ?_⟩
  ·rw [altK_congr (hre d hd)]; exact ha
  ·exact (sortK_congr (hre d hd) _).symm
theorem gv_gv {N : Int} {R : List (List Int)} (hz : checkT N R = 0) {a b : Int} (ha : litOk a N = true) (hb : litOk b N = true) (hne : litVar a ≠ litVar b) : gvV (gvV R a) b = normL (givenT [a, b] R) := by
 unfold gvV
 rw [norm_given (givenT_check hz [a]), givenT_both (one := [a]) (two := [b]) (both := [a, b])]
 ·intro l; simp
 ·intro l hl hn
  simp only [List.mem_cons, List.not_mem_nil, or_false] at hl hn
  have h1 := litVar_opp ha
  rcases hl with rfl | rfl <;> rcases hn with h | h
  ·exact h1.2 h
  ·exact hne (by rw [← h, h1.1])
  ·have : litVar (-l) = litVar l := by
    have h2 := litVar_opp (l := -l) (N := N) (by rw [h]; exact ha)
    rw [Int.neg_neg] at h2
    exact h2.1.symm
   exact hne (by rw [← h, this])
  ·exact (litVar_opp hb).2 h
theorem gv_comm {N : Int} {R : List (List Int)} (hz : checkT N R = 0) {a b : Int} (ha : litOk a N = true) (hb : litOk b N = true) (hne : litVar a ≠ litVar b) : gvV (gvV R a) b = gvV (gvV R b) a := by
 rw [gv_gv hz ha hb hne, gv_gv hz hb ha hne.symm]
 have h1 : ∀ c, openC [a, b] c = openC [b, a] c := fun c => by
  unfold openC
  rw [show (fun l => decide (l ∈ [a, b])) = (fun l => decide (l ∈ [b, a])) from funext fun l => by simp [or_comm]]
 have h2 : ∀ c, restC [a, b] c = restC [b, a] c := fun c => by
  unfold restC
  congr 1
  funext l
  simp [Bool.and_comm]
 unfold givenT
 rw [show openC [a, b] = openC [b, a] from funext h1, show restC [a, b] = restC [b, a] from funext h2]
def NoLit (ns : List Nd) (B : List Int) : Prop := ∀ i ∈ B, kindN ns i ≠ 2
theorem run_var {N : Int} {ns : List Nd} {R : List (List Int)} {A : List Int} {R1 : List (List Int)} {B1 : List Int} (h : Run ns R A R1 B1) (hz : checkT N R = 0) (hB : NoLit ns B1) {p : Int} (hp : p ∈ A) (hk : kindN ns p = 2) : sHas (varsT R) (litVar (litN ns p)) = true := by
 induction h with
 | done h => exact absurd hk (hB p (h.mem_iff.1 hp))
 | step hq hu h ih =>
  obtain ⟨_, hu2⟩ := use_iff.1 hu
  rcases List.mem_cons.1 (hq.mem_iff.1 hp) with rfl | hp2
  ·exact unit_var hz hu2
  ·exact (gv_vars hz (unit_ok hz hu2) (ih (gv_check hz _) hB hp2)).1
theorem run_first {N : Int} {ns : List Nd} {R : List (List Int)} {A : List Int} {R1 : List (List Int)} {B1 : List Int} (h : Run ns R A R1 B1) (hB : NoLit ns B1) : checkT N R = 0 → ∀ {p : Int} {A1 : List Int}, A.Perm (p :: A1) → useB ns R p = true → Run ns (gvV R (litN ns p)) A1 R1 B1 := by
 induction h with
 | done h =>
  intro hz p A1 hp hu
  exact absurd (use_iff.1 hu).1 (hB p (h.mem_iff.1 (hp.mem_iff.2 (List.mem_cons_self ..))))
 | @step R A R' B q A2 hq hqu hrest ih =>
  intro hz p A1 hp hu
  have hpq := hq.symm.trans hp
  by_cases e : q = p
  ·subst e
   exact hrest.perm hpq.cons_inv
  ·have hpm : p ∈ A2 := by
    rcases List.mem_cons.1 (hpq.mem_iff.2 (List.mem_cons_self ..)) with h | h
    ·exact absurd h.symm e
    ·exact h
   obtain ⟨_, hq2⟩ := use_iff.1 hqu
   obtain ⟨hpk, hp2⟩ := use_iff.1 hu
   have hqo := unit_ok hz hq2
   have hpo := unit_ok hz hp2
   have hA3 := List.perm_cons_erase hpm
   have hA1 : A1.Perm (q :: A2.erase p) := by
    have h1 : (q :: A2).Perm (p :: q :: A2.erase p) := (hA3.cons q).trans (List.Perm.swap ..)
    exact (hpq.symm.trans h1).cons_inv
   have hne := (gv_vars hz hqo (run_var hrest (gv_check hz _) hB hpm hpk)).2
   have hup : useB ns (gvV R (litN ns q)) p = true := use_iff.2 ⟨hpk, unit_stays hz hp2 hqo hne⟩
   have h3 := ih hB (gv_check hz _) hA3 hup
   rw [gv_comm hz hqo hpo hne.symm] at h3
   exact .step hA1 (use_iff.2 ⟨(use_iff.1 hqu).1, unit_stays hz hq2 hpo hne.symm⟩) h3
theorem run_conf {N : Int} {ns : List Nd} {R : List (List Int)} {A : List Int} {R1 : List (List Int)} {B1 : List Int} {R2 : List (List Int)} {B2 : List Int} (h2 : Run ns R A R2 B2) (hs : ∀ i ∈ B2, useB ns R2 i = false) (hB : NoLit ns B1) : checkT N R = 0 → Run ns R A R1 B1 → R1 = R2 ∧ B1.Perm B2 := by
 induction h2 with
 | done hAB =>
  intro hz h1
  cases h1 with
  | done h => exact ⟨rfl, h.symm.trans hAB⟩
  | step hq hqu h =>
   have := hs _ (hAB.mem_iff.1 (hq.mem_iff.2 (List.mem_cons_self ..)))
   rw [hqu] at this
   cases this
 | step hp hpu hrest ih =>
  intro hz h1
  exact ih hs (gv_check hz _) (run_first h1 hB hz hp hpu)
theorem fit1_run (ns : List Nd) : ∀ (f : Nat) (R : List (List Int)) (is : List Int), Run ns R is (fit1 ns f R is).1 (fit1 ns f R is).2 ∧ (fit1 ns f R is).2.Sublist is ∧ (is.length ≤ f → ∀ i ∈ (fit1 ns f R is).2, useB ns (fit1 ns f R is).1 i = false)
 | 0, R, is => ⟨.done (List.Perm.refl _), List.Sublist.refl _, fun h i hi => by
   have : is = [] := List.eq_nil_of_length_eq_zero (by omega)
   subst this
   cases hi⟩
 | f + 1, R, is => by
  unfold fit1
  cases hf : is.findIdx? (useB ns R) with
  | none =>
   refine ⟨.done (List.Perm.refl _), List.Sublist.refl _, fun _ i hi => ?_⟩
   exact List.findIdx?_eq_none_iff.1 hf i hi
  | some k =>
   obtain ⟨hk, hu⟩ := find_at hf
   obtain ⟨h1, h2, h3⟩ := fit1_run ns f (gvV R (litN ns (is.getD k 0))) (cutI is k)
   have hcl : (cutI is k).length + 1 = is.length := by
    have := (cut_perm hk).length_eq
    simp only [List.length_cons] at this
    omega
   refine ⟨.step (cut_perm hk) hu h1, h2.trans ?_, fun hl => h3 (by omega)⟩
   unfold cutI
   rw [← List.eraseIdx_eq_take_drop_succ]
   exact List.eraseIdx_sublist ..
theorem run_parts {ns : List Nd} {R : List (List Int)} {A : List Int} {R1 : List (List Int)} {B1 : List Int} (h : Run ns R A R1 B1) : ∃ U, A.Perm (U ++ B1) ∧ ∀ u ∈ U, kindN ns u = 2 := by
 induction h with
 | done h => exact ⟨[], h, fun u hu => by cases hu⟩
 | @step R A R' B p A1 hp hu h ih =>
  obtain ⟨U, h1, h2⟩ := ih
  refine ⟨p :: U, hp.trans (h1.cons p), fun u hu2 => ?_⟩
  rcases List.mem_cons.1 hu2 with rfl | h3
  ·exact (use_iff.1 hu).1
  ·exact h2 u h3
theorem run_left {ns : List Nd} {R : List (List Int)} {A : List Int} {R1 : List (List Int)} {B1 : List Int} (h : Run ns R A R1 B1) (hs : B1.Sublist A) (hB : NoLit ns B1) : B1 = A.filter fun i => !decide (kindN ns i = 2) := by
 obtain ⟨U, h1, h2⟩ := run_parts h
 have e1 : B1.filter (fun i => !decide (kindN ns i = 2)) = B1 := List.filter_eq_self.2 fun i hi => by rw [decide_eq_false (hB i hi)]; rfl
 have e2 : U.filter (fun i => !decide (kindN ns i = 2)) = [] := List.filter_eq_nil_iff.2 fun i hi => by rw [decide_eq_true (h2 i hi)]; decide
 have h3 := hs.filter fun i => !decide (kindN ns i = 2)
 rw [e1] at h3
 refine h3.eq_of_length ?_
 have h4 := (h1.filter fun i => !decide (kindN ns i = 2)).length_eq
 rw [List.filter_append, e1, e2, List.nil_append] at h4
 exact h4.symm
theorem fit2_lit {N : Int} {L : List (List Int)} {ns : List Nd} {cl : List Cl} : ∀ (is : List Int) (seen : BitVec 128) (all : List (List Int)) {i : Int}, i ∈ is → kindN ns i = 2 → fit2 N L ns cl is seen all = none
 | j :: r, seen, all, i, hi, hk => by
  unfold fit2
  cases rsV L N (clN cl j) with
  | none => rfl
  | some x =>
   simp only
   split
   ·rfl
   ·rename_i hj
    split
    ·rfl
    ·rcases List.mem_cons.1 hi with rfl | h
     ·exact absurd hk hj
     ·exact fit2_lit r _ _ h hk
def endV (N : Int) (R : List (List Int)) (o : Option (List (List Int))) : Bool := match o with
 | none => false
 | some all => decide (checkT N all = 0) && decide (R = normL all)
theorem fit_end (N : Int) (L : List (List Int)) (ns : List Nd) (cl : List Cl) (R : List (List Int)) (is : List Int) : fitV N L ns cl R is = endV N (fit1 ns is.length R is).1 (fit2 N L ns cl (fit1 ns is.length R is).2 0#128 []) := by
 unfold fitV endV
 cases fit2 N L ns cl (fit1 ns is.length R is).2 0#128 [] <;> rfl
theorem fit_any {N : Int} {L : List (List Int)} {ns : List Nd} {cl : List Cl} {R : List (List Int)} {is : List Int} (hz : checkT N R = 0) {R2 : List (List Int)} {B2 : List Int} (h : Run ns R is R2 B2) (hsub : B2.Sublist is) (hs : ∀ i ∈ B2, useB ns R2 i = false) : fitV N L ns cl R is = endV N R2 (fit2 N L ns cl B2 0#128 []) := by
 rw [fit_end]
 obtain ⟨c1, c2, c3⟩ := fit1_run ns is.length R is
 have c3 := c3 (Nat.le_refl _)
 generalize (fit1 ns is.length R is).1 = R1 at c1 c3 ⊢
 generalize (fit1 ns is.length R is).2 = B1 at c1 c2 c3 ⊢
 by_cases hB1 : ∃ i ∈ B1, kindN ns i = 2
 ·by_cases hB2 : ∃ i ∈ B2, kindN ns i = 2
  ·obtain ⟨i, hi, hk⟩ := hB1
   obtain ⟨j, hj, hk2⟩ := hB2
   rw [fit2_lit _ _ _ hi hk, fit2_lit _ _ _ hj hk2]; rfl
  ·have hn : NoLit ns B2 := fun i hi hk => hB2 ⟨i, hi, hk⟩
   obtain ⟨_, hp⟩ := run_conf c1 c3 hn hz h
   obtain ⟨i, hi, hk⟩ := hB1
   exact absurd hk (hn i (hp.mem_iff.2 hi))
 ·have hn : NoLit ns B1 := fun i hi hk => hB1 ⟨i, hi, hk⟩
  obtain ⟨e, hp⟩ := run_conf h hs hn hz c1
  have hn2 : NoLit ns B2 := fun i hi => hn i (hp.mem_iff.2 hi)
  rw [run_left c1 c2 hn, run_left h hsub hn2, e]
/-! ### The document's second loop -/
def meetB (N : Int) (a b : List (List Int)) : Bool := !decide (varsOf N a &&& varsOf N b = 0#128)
def addR (all x : List (List Int)) : List (List Int) := all ++ if [] ∈ x ∧ [] ∈ all then x.drop 1 else x
def refF (N : Int) (L : List (List Int)) (ns : List Nd) (cl : List Cl) : List Int → List (List Int) → Option (List (List Int))
 | [], all => some all
 | i :: r, all => match rsV L N (clN cl i) with
  | none => none
  | some x => if kindN ns i = 2 then none else if meetB N all x = true then none else refF N L ns cl r (addR all x)
def ClsOk (N : Int) (all : List (List Int)) : Prop := ∀ c ∈ all, c.length ≤ 128 ∧ ∀ l ∈ c, litOk l N = true
theorem fit2_len {N : Int} {L : List (List Int)} {ns : List Nd} {cl : List Cl} : ∀ (is : List Int) (seen : BitVec 128) (all out : List (List Int)), fit2 N L ns cl is seen all = some out → all.length ≤ out.length
 | [], _, all, out, h => by simp only [fit2, Option.some.injEq] at h; subst h; exact Nat.le_refl _
 | i :: r, seen, all, out, h => by
  unfold fit2 at h
  cases hx : rsV L N (clN cl i) with
  | none => rw [hx] at h; cases h
  | some x =>
   rw [hx] at h
   simp only at h
   split at h
   ·cases h
   split at h
   ·cases h
   have := fit2_len r _ _ out h
   rw [List.length_append] at this
   omega
theorem refF_len {N : Int} {L : List (List Int)} {ns : List Nd} {cl : List Cl} : ∀ (is : List Int) (all out : List (List Int)), refF N L ns cl is all = some out → all.length ≤ out.length
 | [], all, out, h => by simp only [refF, Option.some.injEq] at h; subst h; exact Nat.le_refl _
 | i :: r, all, out, h => by
  unfold refF at h
  cases hx : rsV L N (clN cl i) with
  | none => rw [hx] at h; cases h
  | some x =>
   rw [hx] at h
   simp only at h
   split at h
   ·cases h
   split at h
   ·cases h
   have := refF_len r _ out h
   unfold addR at this
   rw [List.length_append] at this
   omega
theorem rs_norm {N : Int} {L : List (List Int)} {c : Cl} {x : List (List Int)} (hz : checkT N L = 0) (h : rsV L N c = some x) : checkT N x = 0 ∧ ([] ∈ x → x = [] :: x.drop 1 ∧ [] ∉ x.drop 1) := by
 unfold rsV at h
 split at h
 ·rename_i hg
  cases h
  have hA := givenT_check (left_check hz hg) c.1
  exact ⟨res_check hz hg, fun hn => norm_nil hA hn⟩
 ·cases h
theorem end_long {N : Int} {R out : List (List Int)} (h : 4096 < out.length) : endV N R (some out) = false := by
 unfold endV
 simp only
 rw [decide_eq_false (fun hz => by have := (checkT_ok hz).2.2.1; omega), Bool.false_and]
theorem refF_eq {N : Int} {L : List (List Int)} {ns : List Nd} {cl : List Cl} (hz : checkT N L = 0) (R : List (List Int)) : ∀ (is : List Int) (seen : BitVec 128) (all : List (List Int)), ClsOk N all → seen = varsT all → endV N R (fit2 N L ns cl is seen all) = endV N R (refF N L ns cl is all)
 | [], seen, all, _, _ => rfl
 | i :: r, seen, all, ha, hs => by
  obtain ⟨h0, h1, _, _⟩ := checkT_ok hz
  by_cases hlen : 4096 < all.length
  ·have e1 : endV N R (fit2 N L ns cl (i :: r) seen all) = false := by
    cases hf : fit2 N L ns cl (i :: r) seen all with
    | none => rfl
    | some out => exact end_long (by have := fit2_len _ _ _ _ hf; omega)
   have e2 : endV N R (refF N L ns cl (i :: r) all) = false := by
    cases hf : refF N L ns cl (i :: r) all with
    | none => rfl
    | some out => exact end_long (by have := refF_len _ _ _ hf; omega)
   rw [e1, e2]
  ·have hza : checkT N all = 0 := checkT_of h0 h1 (by omega) ha
   unfold fit2 refF
   cases hx : rsV L N (clN cl i) with
   | none => rfl
   | some x =>
    obtain ⟨hzx, hnx⟩ := rs_norm hz hx
    simp only
    split
    ·rfl
    ·have hm : meetB N all x = !decide (seen &&& varsT x = 0#128) := by
      unfold meetB varsOf
      rw [if_pos hza, if_pos hzx, hs]
     rw [hm]
     by_cases hd : seen &&& varsT x = 0#128
     ·rw [if_neg (fun h => h hd), show (!decide (seen &&& varsT x = 0#128)) = false by rw [decide_eq_true hd]; rfl]
      simp only [Bool.false_eq_true, if_false]
      have hy : ∀ c, c ∈ (if [] ∈ x ∧ [] ∈ all then x.drop 1 else x) → c ∈ x := fun c hc => by
       split at hc
       ·exact List.mem_of_mem_drop hc
       ·exact hc
      refine refF_eq hz R r _ _ (fun c hc => ?_) ?_
      ·rcases List.mem_append.1 hc with hc | hc
       ·exact ha c hc
       ·exact (checkT_ok hzx).2.2.2 c (hy c hc)
      ·rw [hs]
       refine sets_ext fun v _ _ => ?_
       rw [sHas_or, Bool.eq_iff_iff, Bool.or_eq_true, sHas_varsT, sHas_varsT, sHas_varsT]
       constructor
       ·rintro (⟨hv, c, hc, l, hl, e⟩ | ⟨hv, c, hc, l, hl, e⟩)
        ·exact ⟨hv, c, List.mem_append_left _ hc, l, hl, e⟩
        ·refine ⟨hv, c, List.mem_append_right _ ?_, l, hl, e⟩
         split
         ·rename_i hb
          rw [(hnx hb.1).1] at hc
          exact (List.mem_cons.1 hc).resolve_left (List.ne_nil_of_mem hl)
         ·exact hc
       ·rintro ⟨hv, c, hc, l, hl, e⟩
        rcases List.mem_append.1 hc with hc | hc
        ·exact .inl ⟨hv, c, hc, l, hl, e⟩
        ·exact .inr ⟨hv, c, hy c hc, l, hl, e⟩
     ·rw [if_pos hd, show (!decide (seen &&& varsT x = 0#128)) = true by rw [decide_eq_false hd]; rfl]
      simp only [if_true]
end Go.Proofs.YtllkogdgmmcfgaaGreatDoor
