/- What the document's Split computes, in plain words; no condition. -/
import Derived.Test.YtekeidhndlnghaaPq16
import Derived.Test.YtekeidhndlnghaaRef16b
/- Sq16: What the document's Split computes, in plain words; no condition. -/
namespace Go.Proofs.Ytekeidhndlnghaa
set_option linter.unusedVariables false
set_option linter.unusedSimpArgs false
set_option linter.unusedSectionVars false
open Go.RowKit
def insRev (p : PrtL) : List PrtL → List PrtL
  | [] => [p]
  | a :: r => if leastV p.1 < leastV a.1 then a :: insRev p r else p :: a :: r
def insEnd (l : List PrtL) (p : PrtL) : List PrtL := (insRev p l.reverse).reverse
theorem insEnd_nil (p : PrtL) : insEnd [] p = [p] := rfl
theorem insEnd_lt {l : List PrtL} {a p : PrtL} (h : leastV p.1 < leastV a.1) : insEnd (l ++ [a]) p = insEnd l p ++ [a] := by simp [insEnd, insRev, h]
theorem insEnd_ge {l : List PrtL} {a p : PrtL} (h : ¬ leastV p.1 < leastV a.1) : insEnd (l ++ [a]) p = l ++ [a] ++ [p] := by simp [insEnd, insRev, h]
theorem insRev_len (p : PrtL) : ∀ l : List PrtL, (insRev p l).length = l.length + 1
  | [] => rfl
  | a :: r => by unfold insRev; split <;> simp [insRev_len p r]
theorem insEnd_len (l : List PrtL) (p : PrtL) : (insEnd l p).length = l.length + 1 := by simp [insEnd, insRev_len]
theorem insEnd_end {A : List PrtL} {p : PrtL} (h : ∀ a ∈ A, ¬ leastV p.1 < leastV a.1) : insEnd A p = A ++ [p] := by
  rcases List.eq_nil_or_concat A with rfl | ⟨B, a, rfl⟩
  · rfl
  · rw [List.concat_eq_append]
    exact insEnd_ge (h a (by simp))
theorem insEnd_mid (p : PrtL) (A : List PrtL) (hA : ∀ a ∈ A, ¬ leastV p.1 < leastV a.1) : ∀ (n : Nat) (B : List PrtL), B.length = n → (∀ b ∈ B, leastV p.1 < leastV b.1) → insEnd (A ++ B) p = A ++ p :: B
  | 0, B, hn, _ => by
    obtain rfl := List.eq_nil_of_length_eq_zero hn
    simpa using insEnd_end hA
  | n + 1, B, hn, hB => by
    rcases List.eq_nil_or_concat B with rfl | ⟨C, b, rfl⟩
    · simp at hn
    · rw [List.concat_eq_append] at hn hB ⊢
      rw [← List.append_assoc, insEnd_lt (hB b (by simp)), insEnd_mid p A hA n C (by simpa using hn) (fun c hc => hB c (by simp [hc]))]
      simp
def refPart (L : List (List Int)) (ts : List Int) (i : Nat) : PrtL := (growSet L ts (litVars (restL (L.getD i []) ts)), growIdx L ts i (growSet L ts (litVars (restL (L.getD i []) ts))))
def refHead (L : List (List Int)) (ts : List Int) (i : Nat) : Bool := leftL (L.getD i []) ts && decide ((refPart L ts i).2.getD 0 0 = (i : Int))
def refStep (L : List (List Int)) (ts : List Int) (st : List PrtL × BitVec 128) (i : Nat) : List PrtL × BitVec 128 :=
  if refHead L ts i then (insEnd st.1 (refPart L ts i), st.2 ||| (refPart L ts i).1) else st
def refParts (L : List (List Int)) (ts : List Int) (k : Nat) : List PrtL × BitVec 128 := (List.range k).foldl (refStep L ts) ([], litVars ts)
theorem refParts_succ (L : List (List Int)) (ts : List Int) (k : Nat) : refParts L ts (k + 1) = refStep L ts (refParts L ts k) k := by unfold refParts; rw [List.range_succ, List.foldl_append]; rfl
theorem refParts_len (L : List (List Int)) (ts : List Int) : ∀ k, (refParts L ts k).1.length ≤ k
  | 0 => by simp [refParts]
  | k + 1 => by
    have := refParts_len L ts k
    rw [refParts_succ]
    unfold refStep
    split
    · simp only [insEnd_len]; omega
    · omega
def freeTo (used : BitVec 128) (k : Nat) : BitVec 128 := (List.range k).foldl (fun s (v : Nat) => if sHas used ((v : Int) + 1) then s else sWith s ((v : Int) + 1)) 0#128
theorem freeTo_succ (used : BitVec 128) (k : Nat) : freeTo used (k + 1) = if sHas used ((k : Int) + 1) then freeTo used k else sWith (freeTo used k) ((k : Int) + 1) := by unfold freeTo; rw [List.range_succ, List.foldl_append]; rfl
theorem freeTo_has (used : BitVec 128) (v : Int) : ∀ k : Nat, k ≤ 128 → sHas (freeTo used k) v = (decide (1 ≤ v) && decide (v ≤ k) && !sHas used v)
  | 0, _ => by
    have : freeTo used 0 = 0#128 := rfl
    rw [this, sHas_zero]
    by_cases h : 1 ≤ v
    · simp [show ¬ v ≤ 0 by omega]
    · simp [h]
  | k + 1, hk => by
    have ih := freeTo_has used v k (by omega)
    rw [freeTo_succ]
    by_cases e : v = (k : Int) + 1
    · subst e
      cases hu : sHas used ((k : Int) + 1)
      · rw [if_neg (by simp), sHas_with, ih]
        have h1 : decide ((k : Int) + 1 = (k : Int) + 1 ∧ 1 ≤ (k : Int) + 1 ∧ (k : Int) + 1 ≤ 128) = true := decide_eq_true ⟨rfl, by omega, by omega⟩
        have h2 : decide (1 ≤ (k : Int) + 1) = true := decide_eq_true (by omega)
        have h3 : decide ((k : Int) + 1 ≤ ((k + 1 : Nat) : Int)) = true := decide_eq_true (by omega)
        rw [h1, h2, h3]; simp
      · rw [if_pos rfl, ih, hu]
        simp
    · have h2 : decide (v ≤ ((k + 1 : Nat) : Int)) = decide (v ≤ (k : Int)) := by
        apply decide_eq_decide.2; omega
      rw [h2]
      split
      · exact ih
      · rw [sHas_with, ih, show decide (v = (k : Int) + 1 ∧ 1 ≤ (k : Int) + 1 ∧ (k : Int) + 1 ≤ 128) = false from by simp; omega, Bool.or_false]
end Go.Proofs.Ytekeidhndlnghaa
/- Uq16: The components of parts.Split are those of the document; no condition. -/
namespace Go.Proofs.Ytekeidhndlnghaa
set_option linter.unusedVariables false
set_option linter.unusedSimpArgs false
set_option linter.unusedSectionVars false
open Go.RowKit
/-! ### Roots -/
structure RF (r : Nat → Nat) : Prop where
  le : ∀ v, r v ≤ v
  id : ∀ v, r (r v) = r v
def Resp (r : Nat → Nat) (P : Nat → Prop) : Prop := ∀ u v, r u = r v → (P u ↔ P v)
theorem Resp.root {r : Nat → Nat} {P : Nat → Prop} (h : Resp r P) (hr : RF r) (v : Nat) : P v ↔ P (r v) := h v (r v) (hr.id v).symm
theorem joinR_rf {r : Nat → Nat} (h : RF r) {x y : Nat} (hx : r x = x) (hy : r y = y) : RF (joinR r x y) := by
  have hmin : r (min x y) = min x y := by rcases Nat.le_total x y with h1 | h1 <;> simp [Nat.min_eq_left, Nat.min_eq_right, h1, hx, hy]
  refine ⟨fun v => ?_, fun v => ?_⟩
  · unfold joinR
    have := h.le v
    split <;> omega
  · unfold joinR
    by_cases e : r v = max x y
    · rw [if_pos e, hmin]
      split <;> omega
    · rw [if_neg e, h.id, if_neg e]
theorem joinR_resp {r : Nat → Nat} (h : RF r) {P : Nat → Prop} (hp : Resp r P) {x y : Nat} (hxy : P x ↔ P y) : Resp (joinR r x y) P := by
  have key : ∀ u, P u ↔ P (joinR r x y u) := fun u => by
    rw [hp.root h u]
    unfold joinR
    by_cases e : r u = max x y
    · rw [if_pos e, e]
      rcases Nat.le_total x y with h1 | h1
      · rw [Nat.max_eq_right h1, Nat.min_eq_left h1]; exact hxy.symm
      · rw [Nat.max_eq_left h1, Nat.min_eq_right h1]; exact hxy
    · rw [if_neg e]
  intro u v e
  rw [key u, key v, e]
theorem joinR_mono {r : Nat → Nat} {x y u v : Nat} (h : r u = r v) : joinR r x y u = joinR r x y v := by unfold joinR; rw [h]
theorem joinR_both {r : Nat → Nat} {u v : Nat} (hne : r u ≠ r v) : joinR r (r u) (r v) u = joinR r (r u) (r v) v := by
  unfold joinR
  rcases Nat.le_total (r u) (r v) with h1 | h1
  · rw [Nat.max_eq_right h1, Nat.min_eq_left h1, if_neg hne, if_pos rfl]
  · rw [Nat.max_eq_left h1, Nat.min_eq_right h1, if_pos rfl, if_neg (fun e => hne e.symm)]
def vN (x : Int) : Nat := (litVar x).toNat
theorem joinAll_cons (x0 x : Int) (r : Nat → Nat) (xs : List Int) : joinAll x0 r (x :: xs) = joinAll x0 (if r (vN x0) = r (vN x) then r else joinR r (r (vN x0)) (r (vN x))) xs := rfl
theorem join1_rf {r : Nat → Nat} (h : RF r) (u v : Nat) : RF (if r u = r v then r else joinR r (r u) (r v)) := by
  split
  · exact h
  · exact joinR_rf h (h.id _) (h.id _)
theorem join1_mono {r : Nat → Nat} (u v : Nat) {a b : Nat} (h : r a = r b) : (if r u = r v then r else joinR r (r u) (r v)) a = (if r u = r v then r else joinR r (r u) (r v)) b := by
  split
  · exact h
  · exact joinR_mono h
theorem join1_both (r : Nat → Nat) (u v : Nat) : (if r u = r v then r else joinR r (r u) (r v)) u = (if r u = r v then r else joinR r (r u) (r v)) v := by
  split
  · assumption
  · exact joinR_both (by assumption)
theorem join1_resp {r : Nat → Nat} (h : RF r) {P : Nat → Prop} (hp : Resp r P) {u v : Nat} (huv : P u ↔ P v) : Resp (if r u = r v then r else joinR r (r u) (r v)) P := by
  split
  · exact hp
  · exact joinR_resp h hp (by rw [← hp.root h, ← hp.root h]; exact huv)
theorem joinAll_rf (x0 : Int) : ∀ (xs : List Int) (r : Nat → Nat), RF r → RF (joinAll x0 r xs)
  | [], _, h => h
  | x :: xs, r, h => by rw [joinAll_cons]; exact joinAll_rf x0 xs _ (join1_rf h _ _)
theorem joinAll_mono (x0 : Int) {a b : Nat} : ∀ (xs : List Int) (r : Nat → Nat), r a = r b → joinAll x0 r xs a = joinAll x0 r xs b
  | [], _, h => h
  | x :: xs, r, h => by rw [joinAll_cons]; exact joinAll_mono x0 xs _ (join1_mono _ _ h)
theorem joinAll_both (x0 : Int) : ∀ (xs : List Int) (r : Nat → Nat), ∀ x ∈ xs, joinAll x0 r xs (vN x0) = joinAll x0 r xs (vN x)
  | [], _, _, h => by cases h
  | y :: xs, r, x, h => by
    rw [joinAll_cons]
    rcases List.mem_cons.1 h with rfl | h
    · exact joinAll_mono x0 xs _ (join1_both r _ _)
    · exact joinAll_both x0 xs _ x h
theorem joinAll_resp (x0 : Int) {P : Nat → Prop} : ∀ (xs : List Int) (r : Nat → Nat), RF r → Resp r P → (∀ x ∈ xs, P (vN x0) ↔ P (vN x)) → Resp (joinAll x0 r xs) P
  | [], _, _, hp, _ => hp
  | x :: xs, r, h, hp, hx => by
    rw [joinAll_cons]
    exact joinAll_resp x0 xs _ (join1_rf h _ _) (join1_resp h hp (hx x (by simp))) fun y hy => hx y (List.mem_cons_of_mem _ hy)
/-! ### The first loop -/
section
variable (N : Int) (L : List (List Int)) (ts : List Int)
def Lf (i : Nat) : Bool := leftL (L.getD i []) ts
def Rs (i : Nat) : List Int := restL (L.getD i []) ts
def isE (i : Nat) : Bool := Lf L ts i && decide (Rs L ts i = [])
def isF (i : Nat) : Bool := Lf L ts i && !decide (Rs L ts i = [])
def hdV (i : Nat) : Nat := vN ((Rs L ts i).getD 0 0)
def Whole (k : Nat) (P : Nat → Prop) : Prop := ∀ i, i < k → Lf L ts i = true → ∀ x ∈ Rs L ts i, (P (hdV L ts i) ↔ P (vN x))
structure PInv (k : Nat) (st : PState) : Prop where
  rf : RF st.r
  con : ∀ i, i < k → Lf L ts i = true → ∀ x ∈ Rs L ts i, st.r (hdV L ts i) = st.r (vN x)
  least : ∀ P, Whole L ts k P → Resp st.r P
  out : st.out = ((List.range k).filter (isE L ts)).map fun i : Nat => (0#128, [(i : Int)])
  first : st.first = ((List.range k).filter (isF L ts)).map fun i : Nat => (i : Int)
  free : ∀ v, sHas st.free v = true ↔ (sHas (sAll N) v = true ∧ (∀ x ∈ ts, litVar x ≠ v) ∧ ∀ i, i < k → Lf L ts i = true → ∀ x ∈ Rs L ts i, litVar x ≠ v)
theorem lessV_has (v : Int) : ∀ (xs : List Int) (s : BitVec 128), sHas (lessV s xs) v = true ↔ (sHas s v = true ∧ ∀ x ∈ xs, litVar x ≠ v)
  | [], s => by simp [lessV]
  | x :: xs, s => by
    have e : lessV s (x :: xs) = lessV (sWithout s (litVar x)) xs := rfl
    rw [e, lessV_has v xs, sHas_without]
    simp only [Bool.and_eq_true, Bool.not_eq_true', decide_eq_false_iff_not, List.mem_cons, forall_eq_or_imp]
    constructor
    · rintro ⟨⟨h1, h2⟩, h3⟩; exact ⟨h1, fun e => h2 e.symm, h3⟩
    · rintro ⟨h1, h2, h3⟩; exact ⟨⟨h1, fun e => h2 e.symm⟩, h3⟩
theorem pInv : ∀ k, PInv N L ts k (pState N L ts k)
  | 0 => by
    refine ⟨⟨fun v => Nat.le_refl _, fun v => rfl⟩, fun i h => by omega, fun P _ u v e => ?_, rfl, rfl, fun v => ?_⟩
    · have e2 : u = v := e
      rw [e2]
    · show sHas (lessV (sAll N) ts) v = true ↔ _
      rw [lessV_has]
      exact ⟨fun h => ⟨h.1, h.2, fun i h => by omega⟩, fun h => ⟨h.1, h.2.1⟩⟩
  | k + 1 => by
    have ih := pInv k
    rw [pState_succ]
    have hE : (List.range (k + 1)).filter (isE L ts) = (List.range k).filter (isE L ts) ++ (if isE L ts k then [k] else []) := by
      rw [List.range_succ, List.filter_append]; congr 1; cases h : isE L ts k <;> simp [h]
    have hF : (List.range (k + 1)).filter (isF L ts) = (List.range k).filter (isF L ts) ++ (if isF L ts k then [k] else []) := by
      rw [List.range_succ, List.filter_append]; congr 1; cases h : isF L ts k <;> simp [h]
    have lt1 : ∀ {i}, i < k + 1 → i ≠ k → i < k := fun h1 h2 => by omega
    cases hl : leftL (L.getD k []) ts
    · rw [pStep_no hl]
      have hlf : Lf L ts k = false := hl
      have e1 : isE L ts k = false := by simp [isE, hlf]
      have e2 : isF L ts k = false := by simp [isF, hlf]
      have no : ∀ {i}, i < k + 1 → Lf L ts i = true → i < k := fun {i} h1 h2 => lt1 h1 fun e => by subst e; rw [hlf] at h2; cases h2
      refine ⟨ih.rf, fun i hi h x hx => ih.con i (no hi h) h x hx, fun P hP => ih.least P fun i hi => hP i (by omega), by rw [hE, e1, ih.out]; simp, by rw [hF, e2, ih.first]; simp, fun v => ?_⟩
      rw [ih.free v]
      exact ⟨fun h => ⟨h.1, h.2.1, fun i hi hh => h.2.2 i (no hi hh) hh⟩, fun h => ⟨h.1, h.2.1, fun i hi => h.2.2 i (by omega)⟩⟩
    · have hlf : Lf L ts k = true := hl
      by_cases hr : restL (L.getD k []) ts = []
      · rw [pStep_nil hl hr]
        have hrs : Rs L ts k = [] := hr
        have e1 : isE L ts k = true := by simp [isE, hlf, hrs]
        have e2 : isF L ts k = false := by simp [isF, hlf, hrs]
        have no : ∀ {i x}, i < k + 1 → x ∈ Rs L ts i → i < k := fun {i x} h1 h2 => lt1 h1 fun e => by subst e; rw [hrs] at h2; cases h2
        refine ⟨ih.rf, fun i hi h x hx => ih.con i (no hi hx) h x hx, fun P hP => ih.least P fun i hi => hP i (by omega), by rw [hE, e1, ih.out]; simp, by rw [hF, e2, ih.first]; simp, fun v => ?_⟩
        show sHas (pState N L ts k).free v = true ↔ _
        rw [ih.free v]
        exact ⟨fun h => ⟨h.1, h.2.1, fun i hi hh x hx => h.2.2 i (no hi hx) hh x hx⟩, fun h => ⟨h.1, h.2.1, fun i hi => h.2.2 i (by omega)⟩⟩
      · rw [pStep_cons hl hr]
        have hrs : Rs L ts k ≠ [] := hr
        have e1 : isE L ts k = false := by simp [isE, hlf, hrs]
        have e2 : isF L ts k = true := by simp [isF, hlf, hrs]
        refine ⟨joinAll_rf _ _ _ ih.rf, fun i hi h x hx => ?_, fun P hP => ?_, by rw [hE, e1, ih.out]; simp, by rw [hF, e2, ih.first]; simp, fun v => ?_⟩
        · by_cases e : i = k
          · subst e
            exact joinAll_both _ _ _ x hx
          · exact joinAll_mono _ _ _ (ih.con i (lt1 hi e) h x hx)
        · exact joinAll_resp _ _ _ ih.rf (ih.least P fun i hi => hP i (by omega)) fun x hx => hP k (by omega) hlf x hx
        · show sHas (lessV (pState N L ts k).free (Rs L ts k)) v = true ↔ _
          rw [lessV_has, ih.free v]
          constructor
          · rintro ⟨⟨h1, h2, h3⟩, h4⟩
            refine ⟨h1, h2, fun i hi hh x hx => ?_⟩
            by_cases e : i = k
            · subst e; exact h4 x hx
            · exact h3 i (lt1 hi e) hh x hx
          · rintro ⟨h1, h2, h3⟩
            exact ⟨⟨h1, h2, fun i hi => h3 i (by omega)⟩, h3 k (by omega) hlf⟩
/-! ### The second loop -/
def rN : Nat → Nat := (pState N L ts L.length).r
def firsts : List Nat := (List.range L.length).filter (isF L ts)
def keyN (i : Nat) : Nat := rN N L ts (hdV L ts i)
def clsN (v : Nat) : List Nat := (firsts L ts).filter fun i => decide (keyN N L ts i = v)
def varsN (v : Nat) : BitVec 128 := (clsN N L ts v).foldl (fun s i => addV s (Rs L ts i)) 0#128
def partN (v : Nat) : PrtL := (varsN N L ts v, (clsN N L ts v).map fun i : Nat => (i : Int))
def cls (l : List Nat) (v : Nat) : List Nat := l.filter fun i => decide (keyN N L ts i = v)
def prt (l : List Nat) (v : Nat) : PrtL := ((cls N L ts l v).foldl (fun s i => addV s (Rs L ts i)) 0#128, (cls N L ts l v).map fun i : Nat => (i : Int))
theorem cls_snoc (l : List Nat) (i v : Nat) : cls N L ts (l ++ [i]) v = cls N L ts l v ++ (if keyN N L ts i = v then [i] else []) := by
  unfold cls; rw [List.filter_append]; congr 1
  by_cases h : keyN N L ts i = v <;> simp [h]
theorem kFold (fi : List Nat) : ∀ (k : Nat), k ≤ fi.length → (∀ v, v ∈ (kState (rN N L ts) L ts (fi.map fun i : Nat => (i : Int)) k).1 ↔ ∃ i ∈ fi.take k, keyN N L ts i = v) ∧ ∀ v, (kState (rN N L ts) L ts (fi.map fun i : Nat => (i : Int)) k).2 v = prt N L ts (fi.take k) v
  | 0, _ => ⟨fun v => by simp [kState], fun v => rfl⟩
  | k + 1, hk => by
    obtain ⟨h1, h2⟩ := kFold fi k (by omega)
    have hkk : k < fi.length := by omega
    have e0 : (fi.map fun i : Nat => (i : Int)).getD k 0 = ((fi[k] : Nat) : Int) := by simp [List.getD, hkk]
    rw [kState_succ _ _ _ (by simpa using hkk), e0, List.take_succ_eq_append_getElem hkk]
    generalize kState (rN N L ts) L ts (fi.map fun i : Nat => (i : Int)) k = s at h1 h2
    have ek : keyV (rN N L ts) L ts ((fi[k] : Nat) : Int) = keyN N L ts fi[k] := by unfold keyV keyN hdV Rs vN; simp
    unfold kStep
    rw [ek]
    constructor
    · intro v
      constructor
      · intro h
        rcases ensK_or h with h | rfl
        · obtain ⟨i, hi, e⟩ := (h1 v).1 h
          exact ⟨i, List.mem_append_left _ hi, e⟩
        · exact ⟨fi[k], List.mem_append_right _ (List.mem_singleton.2 rfl), rfl⟩
      · rintro ⟨i, hi, e⟩
        rcases List.mem_append.1 hi with hi | hi
        · exact ensK_mono ((h1 v).2 ⟨i, hi, e⟩)
        · simp at hi; subst hi; subst e; exact ensK_mem _ _
    · intro v
      show upG _ _ _ v = _
      by_cases e : v = keyN N L ts fi[k]
      · subst e
        rw [upG_at, h2]
        unfold prt
        rw [cls_snoc, if_pos rfl, List.foldl_append, List.map_append]
        simp [Rs]
      · rw [upG_ne _ _ e, h2]
        unfold prt
        rw [cls_snoc, if_neg (fun h => e h.symm), List.append_nil]
theorem first_eq : (pState N L ts L.length).first = (firsts L ts).map fun i : Nat => (i : Int) := (pInv N L ts L.length).first
theorem splitS_eq : (∀ v, v ∈ (splitS N L ts).1 ↔ ∃ i ∈ firsts L ts, keyN N L ts i = v) ∧ ∀ v, (splitS N L ts).2 v = partN N L ts v := by
  have h := kFold N L ts (firsts L ts) (firsts L ts).length (Nat.le_refl _)
  rw [List.take_length] at h
  unfold splitS
  rw [first_eq, List.length_map]
  exact h
def hasK (k v : Nat) : Bool := (List.range k).any fun i => isF L ts i && decide (keyN N L ts i = v)
theorem hasK_iff (k v : Nat) : hasK N L ts k v = true ↔ ∃ i, i < k ∧ isF L ts i = true ∧ keyN N L ts i = v := by
  unfold hasK
  rw [List.any_eq_true]
  constructor
  · rintro ⟨i, h1, h2⟩; simp at h1 h2; exact ⟨i, h1, h2⟩
  · rintro ⟨i, h1, h2⟩; exact ⟨i, by simp [h1], by simpa using h2⟩
theorem mem_firsts {i : Nat} : i ∈ firsts L ts ↔ i < L.length ∧ isF L ts i = true := by unfold firsts; simp
def outK (k : Nat) : List PrtL := ((List.range k).filter (isE L ts)).map fun i : Nat => (0#128, [(i : Int)])
def finK (k n : Nat) : List PrtL := (List.range n).filterMap fun v => if hasK N L ts k v then some (partN N L ts v) else none
theorem splitP_eq : splitP N L ts = outK L ts L.length ++ finK N L ts L.length (N + 1).toNat := by
  unfold splitP
  rw [(pInv N L ts L.length).out]
  congr 1
  unfold finL finK
  obtain ⟨h1, h2⟩ := splitS_eq N L ts
  congr 1
  funext v
  rw [h2]
  have : v ∈ (splitS N L ts).1 ↔ hasK N L ts L.length v = true := by
    rw [h1, hasK_iff]
    constructor
    · rintro ⟨i, hi, e⟩; exact ⟨i, ((mem_firsts L ts).1 hi).1, ((mem_firsts L ts).1 hi).2, e⟩
    · rintro ⟨i, hi, h, e⟩; exact ⟨i, (mem_firsts L ts).2 ⟨hi, h⟩, e⟩
  by_cases hv : v ∈ (splitS N L ts).1
  · rw [if_pos hv, if_pos (this.1 hv)]
  · rw [if_neg hv, if_neg (fun h => hv (this.2 h))]
theorem splitF_has (v : Int) : sHas (splitF N L ts) v = true ↔ (sHas (sAll N) v = true ∧ (∀ x ∈ ts, litVar x ≠ v) ∧ ∀ i, i < L.length → Lf L ts i = true → ∀ x ∈ Rs L ts i, litVar x ≠ v) := (pInv N L ts L.length).free v
/-! ### Classes -/
theorem addV_has (v : Int) : ∀ (xs : List Int) (s : BitVec 128), sHas (addV s xs) v = true ↔ (sHas s v = true ∨ ∃ x ∈ xs, litVar x = v ∧ 1 ≤ v ∧ v ≤ 128)
  | [], s => by simp [addV]
  | x :: xs, s => by
    have e : addV s (x :: xs) = addV (sWith s (litVar x)) xs := rfl
    rw [e, addV_has v xs, sHas_with]
    simp only [Bool.or_eq_true, decide_eq_true_eq, List.mem_cons, exists_eq_or_imp]
    constructor
    · rintro ((h | ⟨rfl, h⟩) | h)
      · exact .inl h
      · exact .inr (.inl ⟨rfl, h⟩)
      · exact .inr (.inr h)
    · rintro (h | ⟨rfl, h⟩ | h)
      · exact .inl (.inl h)
      · exact .inl (.inr ⟨rfl, h⟩)
      · exact .inr h
theorem foldV_has (v : Int) : ∀ (l : List Nat) (s : BitVec 128), sHas (l.foldl (fun s i => addV s (Rs L ts i)) s) v = true ↔ (sHas s v = true ∨ ∃ i ∈ l, ∃ x ∈ Rs L ts i, litVar x = v ∧ 1 ≤ v ∧ v ≤ 128)
  | [], s => by simp
  | i :: l, s => by
    rw [List.foldl_cons, foldV_has v l, addV_has]
    simp only [List.mem_cons, exists_eq_or_imp]
    constructor
    · rintro ((h | h) | h)
      · exact .inl h
      · exact .inr (.inl h)
      · exact .inr (.inr h)
    · rintro (h | h | h)
      · exact .inl (.inl h)
      · exact .inl (.inr h)
      · exact .inr h
theorem mem_clsN {i v : Nat} : i ∈ clsN N L ts v ↔ i < L.length ∧ isF L ts i = true ∧ keyN N L ts i = v := by
  unfold clsN; rw [List.mem_filter, mem_firsts]; simp [and_assoc]
theorem varsN_has (v : Nat) (u : Int) : sHas (varsN N L ts v) u = true ↔ ∃ i, (i < L.length ∧ isF L ts i = true ∧ keyN N L ts i = v) ∧ ∃ x ∈ Rs L ts i, litVar x = u ∧ 1 ≤ u ∧ u ≤ 128 := by
  unfold varsN
  rw [foldV_has, sHas_zero]
  simp only [Bool.false_eq_true, false_or]
  constructor
  · rintro ⟨i, hi, h⟩; exact ⟨i, (mem_clsN N L ts).1 hi, h⟩
  · rintro ⟨i, hi, h⟩; exact ⟨i, (mem_clsN N L ts).2 hi, h⟩
theorem litVars_has (xs : List Int) (v : Int) : sHas (litVars xs) v = true ↔ ∃ x ∈ xs, litVar x = v ∧ 1 ≤ v ∧ v ≤ 128 := by
  have e : litVars xs = addV 0#128 xs := rfl
  rw [e, addV_has, sHas_zero]; simp
theorem rfN : RF (rN N L ts) := (pInv N L ts L.length).rf
theorem leastN {P : Nat → Prop} (h : Whole L ts L.length P) : Resp (rN N L ts) P := (pInv N L ts L.length).least P h
theorem conN {i : Nat} (hi : i < L.length) (hl : Lf L ts i = true) {x : Int} (hx : x ∈ Rs L ts i) : rN N L ts (vN x) = keyN N L ts i := ((pInv N L ts L.length).con i hi hl x hx).symm
theorem isF_iff {i : Nat} : isF L ts i = true ↔ Lf L ts i = true ∧ Rs L ts i ≠ [] := by simp [isF]
theorem isE_iff {i : Nat} : isE L ts i = true ↔ Lf L ts i = true ∧ Rs L ts i = [] := by simp [isE]
theorem isF_of {i : Nat} (h : Lf L ts i = true) {x : Int} (hx : x ∈ Rs L ts i) : isF L ts i = true := (isF_iff L ts).2 ⟨h, fun e => by rw [e] at hx; cases hx⟩
theorem hd_mem {i : Nat} (h : Rs L ts i ≠ []) : (Rs L ts i).getD 0 0 ∈ Rs L ts i := by
  cases hr : Rs L ts i with
  | nil => exact absurd hr h
  | cons x xs => simp
theorem mem_restL {c : List Int} {x : Int} (h : x ∈ restL c ts) : x ∈ c := (List.mem_filter.1 h).1
end
section
variable {N : Int} {L : List (List Int)} {ts : List Int}
def GoodL (N : Int) (L : List (List Int)) : Prop := N ≤ 128 ∧ ∀ c ∈ L, ∀ x ∈ c, litOk x N = true
theorem GoodL.var (h : GoodL N L) {i : Nat} {x : Int} (hx : x ∈ Rs L ts i) : 1 ≤ litVar x ∧ litVar x ≤ N := by
  have hm := mem_restL ts hx
  have hc : L.getD i [] ∈ L := by
    by_cases hi : i < L.length
    · exact getD_memL hi
    · have : L.getD i [] = [] := by simp [List.getD, List.getElem?_eq_none (show L.length ≤ i by omega)]
      rw [this] at hm; cases hm
  have := h.2 _ hc x hm
  simp only [litOk, Bool.and_eq_true, decide_eq_true_eq] at this
  omega
theorem GoodL.has (h : GoodL N L) {v i : Nat} {x : Int} (hi : i < L.length) (hl : Lf L ts i = true) (hk : keyN N L ts i = v) (hx : x ∈ Rs L ts i) : sHas (varsN N L ts v) (litVar x) = true := by
  have hv := h.var hx
  have h1 := h.1
  exact (varsN_has N L ts v _).2 ⟨i, ⟨hi, isF_of L ts hl hx, hk⟩, x, hx, rfl, by omega, by omega⟩
theorem varsN_key {v : Nat} {x : Int} (hx : sHas (varsN N L ts v) (litVar x) = true) : rN N L ts (vN x) = v := by
  obtain ⟨i, ⟨hi, hf, hk⟩, y, hy, e, _, _⟩ := (varsN_has N L ts v _).1 hx
  rw [← hk, ← conN N L ts hi ((isF_iff L ts).1 hf).1 hy]
  unfold vN; rw [e]
theorem class_whole (h : GoodL N L) (v : Nat) : Whole L ts L.length fun u => sHas (varsN N L ts v) (u : Int) = true := by
  intro i hi hl x hx
  have hv := h.var hx
  have hh : (Rs L ts i).getD 0 0 ∈ Rs L ts i := hd_mem L ts fun e => by rw [e] at hx; cases hx
  have hv2 := h.var hh
  have e1 : ((hdV L ts i : Nat) : Int) = litVar ((Rs L ts i).getD 0 0) := by unfold hdV vN; omega
  have e2 : ((vN x : Nat) : Int) = litVar x := by unfold vN; omega
  show sHas _ ((hdV L ts i : Nat) : Int) = true ↔ sHas _ ((vN x : Nat) : Int) = true
  rw [e1, e2]
  constructor
  · intro hm; exact h.has hi hl ((conN N L ts hi hl hh).symm.trans (varsN_key hm)) hx
  · intro hm; exact h.has hi hl ((conN N L ts hi hl hx).symm.trans (varsN_key hm)) hh
theorem vN_pos (h : GoodL N L) {i : Nat} {x : Int} (hx : x ∈ Rs L ts i) : ((vN x : Nat) : Int) = litVar x := by have := h.var hx; unfold vN; omega
theorem class_least (h : GoodL N L) {v : Nat} (hk : hasK N L ts L.length v = true) : 1 ≤ v ∧ (v : Int) ≤ N ∧ sHas (varsN N L ts v) v = true ∧ ∀ u : Int, 1 ≤ u → u < v → sHas (varsN N L ts v) u = false := by
  obtain ⟨i, hi, hf, hke⟩ := (hasK_iff N L ts _ v).1 hk
  obtain ⟨hl, hne⟩ := (isF_iff L ts).1 hf
  have hh := hd_mem L ts hne
  have hv2 := h.var hh
  have h1 := h.1
  have hm : sHas (varsN N L ts v) ((hdV L ts i : Nat) : Int) = true := by
    have := h.has hi hl hke hh
    rwa [← vN_pos h hh] at this
  have hm2 : sHas (varsN N L ts v) (v : Int) = true := by
    have := ((leastN N L ts (class_whole h v)).root (rfN N L ts) (hdV L ts i)).1 hm
    have e : rN N L ts (hdV L ts i) = v := hke
    rwa [e] at this
  have hmm := sHas_mem hm2
  have hle := (rfN N L ts).le (hdV L ts i)
  have e : rN N L ts (hdV L ts i) = v := hke
  have ehd : ((hdV L ts i : Nat) : Int) = litVar ((Rs L ts i).getD 0 0) := vN_pos h hh
  refine ⟨by omega, by omega, hm2, fun u hu1 hu2 => ?_⟩
  cases hs : sHas (varsN N L ts v) u
  · rfl
  · obtain ⟨j, ⟨hj, hjf, hjk⟩, y, hy, ey, _, _⟩ := (varsN_has N L ts v u).1 hs
    have h3 := conN N L ts hj ((isF_iff L ts).1 hjf).1 hy
    have h4 := (rfN N L ts).le (vN y)
    have h5 := vN_pos h hy
    rw [h3, hjk] at h4
    omega
theorem least_part (h : GoodL N L) {v : Nat} (hk : hasK N L ts L.length v = true) : leastV (partN N L ts v).1 = (v : Int) := by
  obtain ⟨_, _, h3, h4⟩ := class_least h hk
  exact leastV_some h3 h4
/-! ### The document's growing set -/
theorem growRound_has (ts : List Int) (v : Int) : ∀ (L : List (List Int)) (s : BitVec 128), sHas s v = true → sHas (growRound L ts s) v = true
  | [], _, h => h
  | c :: L, s, h => growRound_has ts v L _ (by unfold growStep; split; rw [sHas_or, h]; rfl; exact h)
theorem growRound_in (ts : List Int) {T : BitVec 128} (hT : ∀ c ∈ L, leftL c ts = true → meetB (litVars (restL c ts)) T = true → ∀ v, sHas (litVars (restL c ts)) v = true → sHas T v = true) :
    ∀ (K : List (List Int)) (s : BitVec 128), (∀ c ∈ K, c ∈ L) → (∀ v, sHas s v = true → sHas T v = true) → ∀ v, sHas (growRound K ts s) v = true → sHas T v = true
  | [], _, _, h, v, hv => h v hv
  | c :: K, s, hK, h, v, hv => by
    refine growRound_in ts hT K (growStep ts s c) (fun d hd => hK d (List.mem_cons_of_mem _ hd)) (fun u hu => ?_) v hv
    unfold growStep at hu
    split at hu
    · rename_i hc
      simp only [Bool.and_eq_true] at hc
      rw [sHas_or, Bool.or_eq_true] at hu
      rcases hu with hu | hu
      · exact h u hu
      · refine hT c (hK c (by simp)) hc.1 ?_ u hu
        have hm := hc.2
        unfold meetB at hm ⊢
        simp only [Bool.not_eq_true', decide_eq_false_iff_not] at hm ⊢
        intro e
        apply hm
        apply sets_ext
        intro w hw1 hw2
        rw [sHas_and, sHas_zero]
        cases h1 : sHas (litVars (restL c ts)) w
        · rfl
        · cases h2 : sHas s w
          · rfl
          · have h3 := h w h2
            have h4 : sHas (litVars (restL c ts) &&& T) w = true := by rw [sHas_and, h1, h3]; rfl
            rw [e, sHas_zero] at h4; cases h4
    · exact h u hu
theorem meetB_iff {s t : BitVec 128} : meetB s t = true ↔ ∃ v : Int, sHas s v = true ∧ sHas t v = true := by
  unfold meetB
  simp only [Bool.not_eq_true', decide_eq_false_iff_not]
  constructor
  · intro h
    refine Classical.byContradiction fun hn => h ?_
    apply sets_ext
    intro w _ _
    rw [sHas_and, sHas_zero]
    cases h1 : sHas s w
    · rfl
    · cases h2 : sHas t w
      · rfl
      · exact absurd ⟨w, h1, h2⟩ hn
  · rintro ⟨v, h1, h2⟩ e
    have h4 : sHas (s &&& t) v = true := by rw [sHas_and, h1, h2]; rfl
    rw [e, sHas_zero] at h4; cases h4
theorem growIter_in {T : BitVec 128} (hT : ∀ c ∈ L, leftL c ts = true → meetB (litVars (restL c ts)) T = true → ∀ v, sHas (litVars (restL c ts)) v = true → sHas T v = true) {s : BitVec 128} (h : ∀ v, sHas s v = true → sHas T v = true) : ∀ k v, sHas (growIter L ts s k) v = true → sHas T v = true
  | 0, v, hv => h v hv
  | k + 1, v, hv => growRound_in ts hT L _ (fun _ hc => hc) (growIter_in hT h k) v hv
theorem growIter_has {s : BitVec 128} {v : Int} (h : sHas s v = true) : ∀ k, sHas (growIter L ts s k) v = true
  | 0 => h
  | k + 1 => growRound_has ts v L _ (growIter_has h k)
theorem growIter_card (L : List (List Int)) (ts : List Int) (s : BitVec 128) : ∀ k, (∃ j, j ≤ k ∧ growRound L ts (growIter L ts s j) = growIter L ts s j) ∨ k + 1 ≤ card (growIter L ts s (k + 1))
  | 0 => by
    by_cases h : growRound L ts (growIter L ts s 0) = growIter L ts s 0
    · exact .inl ⟨0, Nat.le_refl _, h⟩
    · right
      have := card_lt (growRound_sub ts L (growIter L ts s 0)) (fun e => h e.symm)
      show 1 ≤ card (growRound L ts (growIter L ts s 0))
      omega
  | k + 1 => by
    rcases growIter_card L ts s k with ⟨j, hj, e⟩ | h2
    · exact .inl ⟨j, by omega, e⟩
    · by_cases h : growRound L ts (growIter L ts s (k + 1)) = growIter L ts s (k + 1)
      · exact .inl ⟨k + 1, Nat.le_refl _, h⟩
      · right
        have := card_lt (growRound_sub ts L (growIter L ts s (k + 1))) (fun e => h e.symm)
        show k + 1 + 1 ≤ card (growRound L ts (growIter L ts s (k + 1)))
        omega
theorem growSet_fix (L : List (List Int)) (ts : List Int) (s : BitVec 128) : growRound L ts (growSet L ts s) = growSet L ts s := by
  rcases growIter_card L ts s 128 with ⟨j, hj, e⟩ | h
  · have h1 := growIter_fix e (129 - j)
    rw [show j + (129 - j) = 129 by omega] at h1
    unfold growSet
    rw [h1, e]
  · have := card_le (growIter L ts s (128 + 1))
    omega
theorem growRound_step (ts : List Int) : ∀ (L : List (List Int)) (s : BitVec 128) (c : List Int), c ∈ L → growRound L ts s = s → growStep ts s c = s
  | [], _, _, h, _ => by cases h
  | d :: L, s, c, h, e => by
    have hd : growStep ts s d = s := by
      refine Classical.byContradiction fun hn => ?_
      have h1 := card_lt (growStep_sub ts s d) (fun e => hn e.symm)
      have h2 := growRound_sub ts L (growStep ts s d)
      have e2 : growRound (d :: L) ts s = growRound L ts (growStep ts s d) := rfl
      rw [e2] at e
      rw [e] at h2
      by_cases h3 : growStep ts s d = s
      · exact hn h3
      · have h4 := card_lt h2 h3
        omega
    rcases List.mem_cons.1 h with rfl | h
    · exact hd
    · refine growRound_step ts L s c h ?_
      have e2 : growRound (d :: L) ts s = growRound L ts (growStep ts s d) := rfl
      rw [e2, hd] at e
      exact e
theorem grow_class (h : GoodL N L) {i : Nat} (hi : i < L.length) (hf : isF L ts i = true) : growSet L ts (litVars (Rs L ts i)) = varsN N L ts (keyN N L ts i) := by
  obtain ⟨hl, hne⟩ := (isF_iff L ts).1 hf
  have hfix := growSet_fix L ts (litVars (Rs L ts i))
  have hT : ∀ c ∈ L, leftL c ts = true → meetB (litVars (restL c ts)) (varsN N L ts (keyN N L ts i)) = true → ∀ v, sHas (litVars (restL c ts)) v = true → sHas (varsN N L ts (keyN N L ts i)) v = true := by
    intro c hc hlc hm v hv
    obtain ⟨j, hj, rfl⟩ := List.getElem_of_mem hc
    have e : L.getD j [] = L[j] := by simp [List.getD, hj]
    rw [← e] at hlc hm hv
    obtain ⟨w, hw1, hw2⟩ := meetB_iff.1 hm
    obtain ⟨y, hy, rfl, _, _⟩ := (litVars_has _ _).1 hw1
    obtain ⟨x, hx, rfl, _, _⟩ := (litVars_has _ _).1 hv
    exact h.has hj hlc ((conN N L ts hj hlc hy).symm.trans (varsN_key hw2)) hx
  have hS : ∀ v, sHas (litVars (Rs L ts i)) v = true → sHas (varsN N L ts (keyN N L ts i)) v = true := fun v hv => by
    obtain ⟨x, hx, rfl, _, _⟩ := (litVars_has _ _).1 hv
    exact h.has hi hl rfl hx
  generalize hG : growSet L ts (litVars (Rs L ts i)) = S at hfix
  have hsub : ∀ v, sHas S v = true → sHas (varsN N L ts (keyN N L ts i)) v = true := fun v hv => growIter_in hT hS 129 v (by rw [← hG] at hv; exact hv)
  have hbase : ∀ v, sHas (litVars (Rs L ts i)) v = true → sHas S v = true := fun v hv => by rw [← hG]; exact growIter_has hv 129
  have hW : Whole L ts L.length fun u => sHas S (u : Int) = true := by
    intro j hj hlj x hx
    have hh : (Rs L ts j).getD 0 0 ∈ Rs L ts j := hd_mem L ts fun e => by rw [e] at hx; cases hx
    have hstep := growRound_step ts L S (L.getD j []) (getD_memL hj) hfix
    have clo : ∀ y ∈ Rs L ts j, sHas S (litVar y) = true → ∀ z ∈ Rs L ts j, sHas S (litVar z) = true := by
      intro y hy hyS z hz
      have vy := h.var hy
      have vz := h.var hz
      have h1 := h.1
      unfold growStep at hstep
      have hmb : meetB (litVars (restL (L.getD j []) ts)) S = true := meetB_iff.2 ⟨litVar y, (litVars_has _ _).2 ⟨y, hy, rfl, by omega, by omega⟩, hyS⟩
      have hlj2 : leftL (L.getD j []) ts = true := hlj
      simp only [hlj2, hmb, Bool.and_self, if_true] at hstep
      have hz2 : sHas (litVars (restL (L.getD j []) ts)) (litVar z) = true := (litVars_has _ _).2 ⟨z, hz, rfl, by omega, by omega⟩
      rw [← hstep, sHas_or, hz2, Bool.or_true]
    have e1 : ((hdV L ts j : Nat) : Int) = litVar ((Rs L ts j).getD 0 0) := vN_pos h hh
    have e2 : ((vN x : Nat) : Int) = litVar x := vN_pos h hx
    show sHas _ ((hdV L ts j : Nat) : Int) = true ↔ sHas _ ((vN x : Nat) : Int) = true
    rw [e1, e2]
    exact ⟨fun hm => clo _ hh hm x hx, fun hm => clo _ hx hm _ hh⟩
  have hR := leastN N L ts hW
  apply sets_ext
  intro v _ _
  apply Bool.eq_iff_iff.2
  refine ⟨hsub v, fun hv => ?_⟩
  obtain ⟨j, ⟨hj, hjf, hjk⟩, y, hy, rfl, _, _⟩ := (varsN_has N L ts _ v).1 hv
  have hh := hd_mem L ts hne
  have vh := h.var hh
  have h1 := h.1
  have hin : sHas S ((hdV L ts i : Nat) : Int) = true := by
    have e : ((hdV L ts i : Nat) : Int) = litVar ((Rs L ts i).getD 0 0) := vN_pos h hh
    rw [e]
    exact hbase _ ((litVars_has _ _).2 ⟨_, hh, rfl, by omega, by omega⟩)
  have h2 := conN N L ts hj ((isF_iff L ts).1 hjf).1 hy
  have := (hR (hdV L ts i) (vN y) (by rw [h2, hjk]; rfl)).1 hin
  dsimp only at this
  rwa [vN_pos h hy] at this
theorem filter_map_congr {l : List Nat} {p q : Nat → Bool} (h : ∀ i ∈ l, p i = q i) : l.filter p = l.filter q := List.filter_congr h
theorem grow_idx (h : GoodL N L) {i : Nat} (hi : i < L.length) (hf : isF L ts i = true) : growIdx L ts i (varsN N L ts (keyN N L ts i)) = (clsN N L ts (keyN N L ts i)).map fun i : Nat => (i : Int) := by
  unfold growIdx clsN firsts
  rw [List.filter_filter]
  congr 1
  apply List.filter_congr
  intro j hj
  have hjl : j < L.length := List.mem_range.1 hj
  apply Bool.eq_iff_iff.2
  simp only [Bool.and_eq_true, Bool.or_eq_true, decide_eq_true_eq]
  constructor
  · rintro ⟨hl, hm⟩
    rcases hm with rfl | hm
    · exact ⟨rfl, hf⟩
    · obtain ⟨w, hw1, hw2⟩ := meetB_iff.1 hm
      obtain ⟨y, hy, rfl, _, _⟩ := (litVars_has _ _).1 hw1
      exact ⟨(conN N L ts hjl hl hy).symm.trans (varsN_key hw2), isF_of L ts hl hy⟩
  · rintro ⟨hk, hjf⟩
    obtain ⟨hl, hne⟩ := (isF_iff L ts).1 hjf
    refine ⟨hl, .inr ?_⟩
    have hh := hd_mem L ts hne
    have vh := h.var hh
    have h1 := h.1
    exact meetB_iff.2 ⟨_, (litVars_has _ _).2 ⟨_, hh, rfl, by omega, by omega⟩, h.has hjl hl hk hh⟩
theorem refPart_class (h : GoodL N L) {i : Nat} (hi : i < L.length) (hf : isF L ts i = true) : refPart L ts i = partN N L ts (keyN N L ts i) := by
  have h1 : growSet L ts (litVars (restL (L.getD i []) ts)) = _ := grow_class h hi hf
  unfold refPart partN
  rw [h1, grow_idx h hi hf]
theorem growSet_zero (L : List (List Int)) (ts : List Int) : growSet L ts 0#128 = 0#128 := by
  have h : ∀ K : List (List Int), growRound K ts 0#128 = 0#128 := by
    intro K
    induction K with
    | nil => rfl
    | cons c K ih =>
      have e : growStep ts 0#128 c = 0#128 := by
        unfold growStep
        have : meetB (litVars (restL c ts)) 0#128 = false := by unfold meetB; simp
        rw [this]; simp
      show growRound K ts (growStep ts 0#128 c) = 0#128
      rw [e, ih]
  have h2 : ∀ k, growIter L ts 0#128 k = 0#128 := by
    intro k
    induction k with
    | zero => rfl
    | succ k ih => show growRound L ts (growIter L ts 0#128 k) = 0#128; rw [ih, h]
  exact h2 129
theorem filter_one {n i : Nat} (hi : i < n) : (List.range n).filter (fun j => decide (j = i)) = [i] := by
  have h1 : (List.range n).filter (fun j => decide (j = i)) = (List.range n).filter (· == i) := List.filter_congr fun j _ => (by by_cases e : j = i <;> simp [e])
  rw [h1, List.filter_beq]
  have : (List.range n).count i = 1 := by
    rw [List.Nodup.count List.nodup_range, if_pos (by simpa using hi)]
  rw [this]; rfl
theorem refPart_empty {i : Nat} (hi : i < L.length) (he : isE L ts i = true) : refPart L ts i = (0#128, [(i : Int)]) := by
  obtain ⟨hl, hr⟩ := (isE_iff L ts).1 he
  have hr2 : restL (L.getD i []) ts = [] := hr
  unfold refPart
  rw [hr2]
  have e : litVars [] = 0#128 := rfl
  rw [e, growSet_zero]
  congr 1
  unfold growIdx
  have : ((List.range L.length).filter fun j => leftL (L.getD j []) ts && (decide (j = i) || meetB (litVars (restL (L.getD j []) ts)) 0#128)) = (List.range L.length).filter fun j => decide (j = i) := by
    apply List.filter_congr
    intro j _
    have hm : meetB (litVars (restL (L.getD j []) ts)) 0#128 = false := by unfold meetB; simp
    rw [hm, Bool.or_false]
    by_cases e : j = i
    · subst e; have hl2 : leftL (L.getD j []) ts = true := hl; rw [hl2]; simp
    · simp [e]
  rw [this, filter_one hi]
  rfl
theorem head_class (h : GoodL N L) {i : Nat} (hi : i < L.length) (hf : isF L ts i = true) : refHead L ts i = !hasK N L ts i (keyN N L ts i) := by
  obtain ⟨hl, _⟩ := (isF_iff L ts).1 hf
  have hl2 : leftL (L.getD i []) ts = true := hl
  unfold refHead
  rw [hl2, refPart_class h hi hf, Bool.true_and]
  have hmem : i ∈ clsN N L ts (keyN N L ts i) := (mem_clsN N L ts).2 ⟨hi, hf, rfl⟩
  have hsort : (clsN N L ts (keyN N L ts i)).Pairwise (· < ·) := by
    unfold clsN firsts
    exact (List.pairwise_lt_range.filter _).filter _
  have hiff : ∀ j, j ∈ clsN N L ts (keyN N L ts i) ↔ j < L.length ∧ isF L ts j = true ∧ keyN N L ts j = keyN N L ts i := fun j => mem_clsN N L ts
  have e0 : (partN N L ts (keyN N L ts i)).2 = (clsN N L ts (keyN N L ts i)).map fun i : Nat => (i : Int) := rfl
  rw [e0]
  cases hc : clsN N L ts (keyN N L ts i) with
  | nil => rw [hc] at hmem; cases hmem
  | cons a tl =>
    rw [hc] at hmem hsort
    have ha : a ∈ clsN N L ts (keyN N L ts i) := by rw [hc]; simp
    obtain ⟨ha1, ha2, ha3⟩ := (hiff a).1 ha
    simp only [List.map_cons, List.getD_cons_zero]
    have hgt : ∀ b ∈ tl, a < b := (List.pairwise_cons.1 hsort).1
    cases hk : hasK N L ts i (keyN N L ts i)
    · have : a = i := by
        rcases List.mem_cons.1 hmem with e | hm
        · exact e.symm
        · have := (hasK_iff N L ts i (keyN N L ts i)).2 ⟨a, hgt i hm, ha2, ha3⟩
          rw [hk] at this; cases this
      subst this; simp
    · obtain ⟨j, hj, hjf, hjk⟩ := (hasK_iff N L ts _ _).1 hk
      have hjm : j ∈ clsN N L ts (keyN N L ts i) := (hiff j).2 ⟨by omega, hjf, hjk⟩
      rw [hc] at hjm
      have : a ≤ j := by
        rcases List.mem_cons.1 hjm with e | hm
        · omega
        · exact Nat.le_of_lt (hgt j hm)
      simp; omega
theorem filterMap_eq {f g : Nat → Option PrtL} : ∀ {l : List Nat}, (∀ v ∈ l, f v = g v) → l.filterMap f = l.filterMap g
  | [], _ => rfl
  | a :: l, h => by rw [List.filterMap_cons, List.filterMap_cons, h a (by simp), filterMap_eq fun v hv => h v (List.mem_cons_of_mem _ hv)]
theorem hasK_succ (k v : Nat) : hasK N L ts (k + 1) v = (hasK N L ts k v || (isF L ts k && decide (keyN N L ts k = v))) := by
  unfold hasK; rw [List.range_succ, List.any_append]; simp
theorem hasK_mono {k n v : Nat} (h : hasK N L ts k v = true) (hkn : k ≤ n) : hasK N L ts n v = true := by
  obtain ⟨i, hi, h2⟩ := (hasK_iff N L ts _ _).1 h
  exact (hasK_iff N L ts _ _).2 ⟨i, by omega, h2⟩
theorem finK_split (k v n : Nat) (h : v < n) : finK N L ts k n = finK N L ts k v ++ ((if hasK N L ts k v then [partN N L ts v] else []) ++ (List.range' (v + 1) (n - v - 1)).filterMap fun v => if hasK N L ts k v then some (partN N L ts v) else none) := by
  have e : List.range n = List.range v ++ (v :: List.range' (v + 1) (n - v - 1)) := by
    rw [List.range_eq_range', List.range_eq_range']
    have : n = v + (1 + (n - v - 1)) := by omega
    conv => lhs; rw [this]
    rw [← List.range'_append_1]
    congr 1
    rw [Nat.zero_add, Nat.add_comm 1, List.range'_succ]
  unfold finK
  rw [e, List.filterMap_append, List.filterMap_cons]
  congr 1
  by_cases hk : hasK N L ts k v = true
  · rw [if_pos hk]; simp [hk]
  · rw [if_neg hk]; simp [hk]
theorem leastV_zero : leastV 0#128 = 0 := leastV_none fun u _ _ => sHas_zero u
theorem mem_outK {k : Nat} {p : PrtL} (h : p ∈ outK L ts k) : p.1 = 0#128 := by
  unfold outK at h
  obtain ⟨i, _, rfl⟩ := List.mem_map.1 h
  rfl
theorem keyN_range (h : GoodL N L) {i : Nat} (hi : i < L.length) (hf : isF L ts i = true) : 1 ≤ keyN N L ts i ∧ (keyN N L ts i : Int) ≤ N := by
  have := class_least h ((hasK_iff N L ts L.length (keyN N L ts i)).2 ⟨i, hi, hf, rfl⟩)
  exact ⟨this.1, this.2.1⟩
theorem refParts_eq (h : GoodL N L) : ∀ k, k ≤ L.length → (refParts L ts k).1 = outK L ts k ++ finK N L ts k (N + 1).toNat
  | 0, _ => by
    have : ∀ n, finK N L ts 0 n = [] := fun n => by
      unfold finK; rw [List.filterMap_eq_nil_iff]; intro v _; rw [if_neg]; simp [hasK]
    rw [this]; rfl
  | k + 1, hk => by
    have ih := refParts_eq h k (by omega)
    have hkk : k < L.length := by omega
    rw [refParts_succ]
    have ho : outK L ts (k + 1) = outK L ts k ++ (if isE L ts k then [(0#128, [(k : Int)])] else []) := by
      unfold outK; rw [List.range_succ, List.filter_append, List.map_append]; congr 1
      cases e : isE L ts k <;> simp [e]
    have hin : ∀ p ∈ finK N L ts k (N + 1).toNat, 0 < leastV p.1 := fun p hp => by
      unfold finK at hp
      obtain ⟨v, hv, e⟩ := List.mem_filterMap.1 hp
      split at e
      · rename_i hkv
        cases e
        have hkv2 := hasK_mono hkv (show k ≤ L.length by omega)
        rw [least_part h hkv2]
        have := (class_least h hkv2).1
        omega
      · cases e
    cases hl : Lf L ts k
    · have e1 : isE L ts k = false := by simp [isE, hl]
      have e2 : isF L ts k = false := by simp [isF, hl]
      have e3 : refHead L ts k = false := by unfold refHead; have hl2 : leftL (L.getD k []) ts = false := hl; rw [hl2]; rfl
      unfold refStep
      rw [e3, if_neg (by simp), ih, ho, e1]
      have : ∀ v, hasK N L ts (k + 1) v = hasK N L ts k v := fun v => by rw [hasK_succ, e2]; simp
      simp [finK, this]
    · by_cases hr : Rs L ts k = []
      · have e1 : isE L ts k = true := (isE_iff L ts).2 ⟨hl, hr⟩
        have e2 : isF L ts k = false := by simp [isF, hl, hr]
        have hp := refPart_empty hkk e1
        have e3 : refHead L ts k = true := by unfold refHead; have hl2 : leftL (L.getD k []) ts = true := hl; rw [hl2, hp]; simp
        unfold refStep
        rw [e3, if_pos rfl, hp, ho, e1]
        dsimp only
        have : ∀ v, hasK N L ts (k + 1) v = hasK N L ts k v := fun v => by rw [hasK_succ, e2]; simp
        have hfk : finK N L ts (k + 1) (N + 1).toNat = finK N L ts k (N + 1).toNat := by simp [finK, this]
        rw [ih, hfk]
        rw [insEnd_mid _ _ (fun a ha => by rw [mem_outK ha]; simp) _ _ rfl (fun b hb => by dsimp only; rw [leastV_zero]; exact hin b hb)]
        simp
      · have e1 : isE L ts k = false := by simp [isE, hl, hr]
        have e2 : isF L ts k = true := (isF_iff L ts).2 ⟨hl, hr⟩
        have hp := refPart_class h hkk e2
        have hh := head_class h hkk e2
        have hrg := keyN_range h hkk e2
        unfold refStep
        rw [hh, ho, e1, hp]
        have hsuc : ∀ v, hasK N L ts (k + 1) v = (hasK N L ts k v || decide (keyN N L ts k = v)) := fun v => by rw [hasK_succ, e2]; simp
        cases hkv : hasK N L ts k (keyN N L ts k)
        · rw [Bool.not_false, if_pos rfl]
          dsimp only
          have hlt : keyN N L ts k < (N + 1).toNat := by omega
          rw [ih, finK_split k _ _ hlt, finK_split (k + 1) _ _ hlt, hkv, hsuc, hkv]
          have c1 : finK N L ts (k + 1) (keyN N L ts k) = finK N L ts k (keyN N L ts k) := by
            unfold finK
            apply filterMap_eq
            intro v hv
            have := List.mem_range.1 hv
            rw [hsuc, show decide (keyN N L ts k = v) = false from by simp; omega, Bool.or_false]
          have c2 : ((List.range' (keyN N L ts k + 1) ((N + 1).toNat - keyN N L ts k - 1)).filterMap fun v => if hasK N L ts (k + 1) v then some (partN N L ts v) else none) = (List.range' (keyN N L ts k + 1) ((N + 1).toNat - keyN N L ts k - 1)).filterMap fun v => if hasK N L ts k v then some (partN N L ts v) else none := by
            apply filterMap_eq
            intro v hv
            have := List.mem_range'_1.1 hv
            rw [hsuc, show decide (keyN N L ts k = v) = false from by simp; omega, Bool.or_false]
          rw [c1, c2]
          have hpl : leastV (partN N L ts (keyN N L ts k)).1 = (keyN N L ts k : Int) := least_part h ((hasK_iff N L ts _ _).2 ⟨k, hkk, e2, rfl⟩)
          simp only [Bool.false_eq_true, if_false, List.nil_append, Bool.false_or, decide_true, if_true, List.append_nil]
          rw [← List.append_assoc, insEnd_mid _ _ _ _ _ rfl _]
          · simp
          · intro a ha
            rw [hpl]
            rcases List.mem_append.1 ha with ha | ha
            · rw [mem_outK ha, leastV_zero]; omega
            · unfold finK at ha
              obtain ⟨v, hv, e⟩ := List.mem_filterMap.1 ha
              split at e
              · rename_i hkv2
                cases e
                rw [least_part h (hasK_mono hkv2 (by omega))]
                have := List.mem_range.1 hv
                omega
              · cases e
          · intro b hb
            rw [hpl]
            obtain ⟨v, hv, e⟩ := List.mem_filterMap.1 hb
            split at e
            · rename_i hkv2
              cases e
              rw [least_part h (hasK_mono hkv2 (by omega))]
              have := List.mem_range'_1.1 hv
              omega
            · cases e
        · rw [Bool.not_true, if_neg (by simp), ih]
          have : ∀ v, hasK N L ts (k + 1) v = hasK N L ts k v := fun v => by
            rw [hsuc]
            by_cases e : keyN N L ts k = v
            · subst e; rw [hkv]; rfl
            · simp [e]
          simp [finK, this]
theorem split_parts (h : GoodL N L) : splitP N L ts = (refParts L ts L.length).1 := by rw [splitP_eq, refParts_eq h _ (Nat.le_refl _)]
theorem used_has (h : GoodL N L) (v : Int) : ∀ k, k ≤ L.length → (sHas (refParts L ts k).2 v = true ↔ (sHas (litVars ts) v = true ∨ ∃ i, i < k ∧ refHead L ts i = true ∧ sHas (refPart L ts i).1 v = true))
  | 0, _ => by
    have : (refParts L ts 0).2 = litVars ts := rfl
    rw [this]
    exact ⟨.inl, fun h => h.elim id fun ⟨i, hi, _⟩ => by omega⟩
  | k + 1, hk => by
    have ih := used_has h v k (by omega)
    rw [refParts_succ]
    unfold refStep
    cases hh : refHead L ts k
    · rw [if_neg (by simp), ih]
      constructor
      · rintro (h | ⟨i, hi, h⟩)
        · exact .inl h
        · exact .inr ⟨i, by omega, h⟩
      · rintro (h | ⟨i, hi, h1, h2⟩)
        · exact .inl h
        · by_cases e : i = k
          · subst e; rw [hh] at h1; cases h1
          · exact .inr ⟨i, by omega, h1, h2⟩
    · rw [if_pos rfl]
      dsimp only
      rw [sHas_or, Bool.or_eq_true, ih]
      constructor
      · rintro ((h | ⟨i, hi, h⟩) | h)
        · exact .inl h
        · exact .inr ⟨i, by omega, h⟩
        · exact .inr ⟨k, by omega, hh, h⟩
      · rintro (h | ⟨i, hi, h1, h2⟩)
        · exact .inl (.inl h)
        · by_cases e : i = k
          · subst e; exact .inr h2
          · exact .inl (.inr ⟨i, by omega, h1, h2⟩)
theorem exists_head {v : Nat} : ∀ k, hasK N L ts k v = true → ∃ i, i < k ∧ isF L ts i = true ∧ keyN N L ts i = v ∧ hasK N L ts i v = false
  | 0, h => by simp [hasK] at h
  | k + 1, h => by
    cases hk : hasK N L ts k v
    · rw [hasK_succ, hk] at h
      simp only [Bool.false_or, Bool.and_eq_true, decide_eq_true_eq] at h
      exact ⟨k, by omega, h.1, h.2, hk⟩
    · obtain ⟨i, hi, h2⟩ := exists_head k hk
      exact ⟨i, by omega, h2⟩
theorem split_free (h : GoodL N L) (h0 : 0 ≤ N) : splitF N L ts = freeTo (refParts L ts L.length).2 N.toNat := by
  have h1 := h.1
  apply sets_ext
  intro v hv1 hv2
  rw [freeTo_has _ _ _ (by omega)]
  apply Bool.eq_iff_iff.2
  rw [splitF_has, sHas_all]
  simp only [Bool.and_eq_true, decide_eq_true_eq, Bool.not_eq_true']
  constructor
  · rintro ⟨⟨a1, a2, a3⟩, h2, h3⟩
    refine ⟨⟨a1, by omega⟩, ?_⟩
    cases hu : sHas (refParts L ts L.length).2 v
    · rfl
    · exfalso
      rcases (used_has h v _ (Nat.le_refl _)).1 hu with hm | ⟨i, hi, hh, hm⟩
      · obtain ⟨x, hx, e, _⟩ := (litVars_has _ _).1 hm
        exact h2 x hx e
      · have hl : Lf L ts i = true := by unfold refHead at hh; simp only [Bool.and_eq_true] at hh; exact hh.1
        by_cases hr : Rs L ts i = []
        · rw [refPart_empty hi ((isE_iff L ts).2 ⟨hl, hr⟩)] at hm
          dsimp only at hm; rw [sHas_zero] at hm; cases hm
        · rw [refPart_class h hi ((isF_iff L ts).2 ⟨hl, hr⟩)] at hm
          obtain ⟨j, ⟨hj, hjf, _⟩, x, hx, e, _⟩ := (varsN_has N L ts _ v).1 hm
          exact h3 j hj ((isF_iff L ts).1 hjf).1 x hx e
  · rintro ⟨⟨a1, a2⟩, hu⟩
    refine ⟨⟨a1, by omega, hv2⟩, fun x hx e => ?_, fun i hi hl x hx e => ?_⟩
    · have := (used_has h v _ (Nat.le_refl _)).2 (.inl ((litVars_has _ _).2 ⟨x, hx, e, hv1, hv2⟩))
      rw [hu] at this; cases this
    · have hf := isF_of L ts hl hx
      obtain ⟨j, hj, hjf, hjk, hno⟩ := exists_head L.length ((hasK_iff N L ts _ _).2 ⟨i, hi, hf, rfl⟩)
      have hhead : refHead L ts j = true := by rw [head_class h hj hjf, hjk, hno]; rfl
      have := (used_has h v _ (Nat.le_refl _)).2 (.inr ⟨j, hj, hhead, by
        rw [refPart_class h hj hjf, hjk, ← e]
        exact h.has hi hl rfl hx⟩)
      rw [hu] at this; cases this
end
end Go.Proofs.Ytekeidhndlnghaa
