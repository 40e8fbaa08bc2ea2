/- How parts.Split divides variables and clauses, in plain words; no condition. -/
import Derived.Test.YtekeidhndlnghaaSyG
namespace Go.Proofs.Ytekeidhndlnghaa
set_option linter.unusedVariables false
set_option linter.unusedSimpArgs false
set_option linter.unusedSectionVars false
open Go.RowKit
def cntV (l : List PrtL) (v : Int) : Nat := (l.filter fun p => sHas p.1 v).length
theorem cntV_append (a b : List PrtL) (v : Int) : cntV (a ++ b) v = cntV a v + cntV b v := by unfold cntV; rw [List.filter_append, List.length_append]
theorem cntV_none {l : List PrtL} {v : Int} (h : ∀ p ∈ l, sHas p.1 v = false) : cntV l v = 0 := by
  unfold cntV
  rw [List.length_eq_zero_iff, List.filter_eq_nil_iff]
  intro p hp hs
  rw [h p hp] at hs; cases hs
theorem cntV_one (p : PrtL) {v : Int} (h : sHas p.1 v = true) : cntV [p] v = 1 := by simp [cntV, h]
def flatC (l : List PrtL) : List Int := l.flatMap fun p => p.2
theorem flatC_append (a b : List PrtL) : flatC (a ++ b) = flatC a ++ flatC b := by simp [flatC]
theorem flatC_none {l : List PrtL} {x : Int} (h : ∀ p ∈ l, x ∉ p.2) : (flatC l).count x = 0 := by
  rw [List.count_eq_zero]
  intro hx
  obtain ⟨p, hp, h2⟩ := List.mem_flatMap.1 hx
  exact h p hp h2
section
variable {N : Int} {L : List (List Int)} {ts : List Int}
theorem mem_finK {k n : Nat} {p : PrtL} (h : p ∈ finK N L ts k n) : ∃ v, v < n ∧ hasK N L ts k v = true ∧ p = partN N L ts v := by
  unfold finK at h
  obtain ⟨v, hv, e⟩ := List.mem_filterMap.1 h
  split at e
  · rename_i hk
    cases e
    exact ⟨v, List.mem_range.1 hv, hk, rfl⟩
  · cases e
theorem mem_rest {v n : Nat} {k : Nat} {p : PrtL} (h : p ∈ (List.range' (v + 1) (n - v - 1)).filterMap fun v => if hasK N L ts k v then some (partN N L ts v) else none) : ∃ w, w ≠ v ∧ hasK N L ts k w = true ∧ p = partN N L ts w := by
  obtain ⟨w, hw, e⟩ := List.mem_filterMap.1 h
  have := List.mem_range'_1.1 hw
  split at e
  · rename_i hk
    cases e
    exact ⟨w, by omega, hk, rfl⟩
  · cases e
theorem vN_int (v : Nat) (x : Int) (h : litVar x = (v : Int)) : vN x = v := by unfold vN; omega
theorem cntV_class (h : GoodL N L) {i : Nat} {x : Int} (hi : i < L.length) (hl : Lf L ts i = true) (hx : x ∈ Rs L ts i) : cntV (outK L ts L.length ++ finK N L ts L.length (N + 1).toNat) (litVar x) = 1 := by
  have hf := isF_of L ts hl hx
  have hk : hasK N L ts L.length (keyN N L ts i) = true := (hasK_iff N L ts _ _).2 ⟨i, hi, hf, rfl⟩
  have hr := keyN_range h hi hf
  have hlt : keyN N L ts i < (N + 1).toNat := by omega
  have hin := h.has hi hl rfl hx
  have ho : ∀ w, w ≠ keyN N L ts i → sHas (partN N L ts w).1 (litVar x) = false := fun w hw => by
    cases hs : sHas (partN N L ts w).1 (litVar x)
    · rfl
    · exfalso
      have hs2 : sHas (varsN N L ts w) (litVar x) = true := hs
      have e1 := varsN_key hs2
      have e2 := conN N L ts hi hl hx
      exact hw (e1.symm.trans e2)
  have z1 : cntV (outK L ts L.length) (litVar x) = 0 := cntV_none fun p hp => by rw [mem_outK hp, sHas_zero]
  have z2 : cntV (finK N L ts L.length (keyN N L ts i)) (litVar x) = 0 := cntV_none fun p hp => by
    obtain ⟨w, hw, _, rfl⟩ := mem_finK hp
    exact ho w (by omega)
  have z3 : cntV ((List.range' (keyN N L ts i + 1) ((N + 1).toNat - keyN N L ts i - 1)).filterMap fun v => if hasK N L ts L.length v then some (partN N L ts v) else none) (litVar x) = 0 := cntV_none fun p hp => by
    obtain ⟨w, hw, _, rfl⟩ := mem_rest hp
    exact ho w hw
  have z4 : cntV [partN N L ts (keyN N L ts i)] (litVar x) = 1 := cntV_one _ hin
  rw [cntV_append, finK_split _ _ _ hlt, hk, if_pos rfl, cntV_append, cntV_append, z1, z2, z3, z4]
theorem cntV_no {v : Int} (h : ∀ i, i < L.length → Lf L ts i = true → ∀ x ∈ Rs L ts i, litVar x ≠ v) : cntV (outK L ts L.length ++ finK N L ts L.length (N + 1).toNat) v = 0 := by
  refine cntV_none fun p hp => ?_
  rcases List.mem_append.1 hp with hp | hp
  · rw [mem_outK hp, sHas_zero]
  · obtain ⟨w, _, _, rfl⟩ := mem_finK hp
    cases hs : sHas (partN N L ts w).1 v
    · rfl
    · obtain ⟨i, ⟨hi, hf, _⟩, x, hx, e, _⟩ := (varsN_has N L ts w v).1 hs
      exact absurd e (h i hi ((isF_iff L ts).1 hf).1 x hx)
theorem map_nodup {l : List Nat} (h : l.Pairwise (· < ·)) : (l.map fun i : Nat => (i : Int)).Nodup := by
  refine List.Pairwise.map (R := (· < ·)) _ (fun a b hab => ?_) h
  intro e; omega
theorem count_map {l : List Nat} (h : l.Pairwise (· < ·)) (i : Nat) : (l.map fun i : Nat => (i : Int)).count (i : Int) = if i ∈ l then 1 else 0 := by
  rw [List.Nodup.count (map_nodup h)]
  have : (i : Int) ∈ (l.map fun i : Nat => (i : Int)) ↔ i ∈ l := by
    rw [List.mem_map]
    constructor
    · rintro ⟨j, hj, e⟩
      have : j = i := by omega
      exact this ▸ hj
    · exact fun hi => ⟨i, hi, rfl⟩
  by_cases hi : i ∈ l
  · rw [if_pos (this.2 hi), if_pos hi]
  · rw [if_neg (fun hh => hi (this.1 hh)), if_neg hi]
theorem flat_out : ∀ k, flatC (outK L ts k) = ((List.range k).filter (isE L ts)).map fun i : Nat => (i : Int) := fun k => by
  unfold outK flatC
  generalize (List.range k).filter (isE L ts) = l
  induction l with
  | nil => rfl
  | cons a l ih => simp only [List.map_cons, List.flatMap_cons, ih]; rfl
theorem cls_sorted (v : Nat) : (clsN N L ts v).Pairwise (· < ·) := by
  unfold clsN firsts
  exact (List.pairwise_lt_range.filter _).filter _
theorem flat_count (h : GoodL N L) {i : Nat} (hi : i < L.length) : (flatC (outK L ts L.length ++ finK N L ts L.length (N + 1).toNat)).count (i : Int) = if Lf L ts i = true then 1 else 0 := by
  rw [flatC_append, List.count_append, flat_out, count_map (List.pairwise_lt_range.filter _)]
  have hm : i ∈ (List.range L.length).filter (isE L ts) ↔ isE L ts i = true := by simp [hi]
  cases hl : Lf L ts i
  · have e1 : isE L ts i = false := by simp [isE, hl]
    have e2 : isF L ts i = false := by simp [isF, hl]
    rw [if_neg (fun hh => by rw [hm.1 hh] at e1; cases e1)]
    rw [flatC_none fun p hp => ?_]
    · rfl
    · obtain ⟨w, _, _, rfl⟩ := mem_finK hp
      intro hx
      obtain ⟨j, hj, e⟩ := List.mem_map.1 hx
      have : j = i := by omega
      subst this
      rw [((mem_clsN N L ts).1 hj).2.1] at e2; cases e2
  · by_cases hr : Rs L ts i = []
    · have e1 : isE L ts i = true := (isE_iff L ts).2 ⟨hl, hr⟩
      rw [if_pos (hm.2 e1)]
      rw [flatC_none fun p hp => ?_]
      · rfl
      · obtain ⟨w, _, _, rfl⟩ := mem_finK hp
        intro hx
        obtain ⟨j, hj, e⟩ := List.mem_map.1 hx
        have : j = i := by omega
        subst this
        exact ((isF_iff L ts).1 ((mem_clsN N L ts).1 hj).2.1).2 hr
    · have e1 : isE L ts i = false := by simp [isE, hl, hr]
      have hf : isF L ts i = true := (isF_iff L ts).2 ⟨hl, hr⟩
      have hk : hasK N L ts L.length (keyN N L ts i) = true := (hasK_iff N L ts _ _).2 ⟨i, hi, hf, rfl⟩
      have hrg := keyN_range h hi hf
      have hlt : keyN N L ts i < (N + 1).toNat := by omega
      have ho : ∀ w, w ≠ keyN N L ts i → (i : Int) ∉ (partN N L ts w).2 := fun w hw hx => by
        obtain ⟨j, hj, e⟩ := List.mem_map.1 hx
        have : j = i := by omega
        subst this
        exact hw ((mem_clsN N L ts).1 hj).2.2.symm
      rw [if_neg (fun hh => by rw [hm.1 hh] at e1; cases e1)]
      have z2 : (flatC (finK N L ts L.length (keyN N L ts i))).count (i : Int) = 0 := flatC_none fun p hp => by
        obtain ⟨w, hw, _, rfl⟩ := mem_finK hp
        exact ho w (by omega)
      have z3 : (flatC ((List.range' (keyN N L ts i + 1) ((N + 1).toNat - keyN N L ts i - 1)).filterMap fun v => if hasK N L ts L.length v then some (partN N L ts v) else none)).count (i : Int) = 0 := flatC_none fun p hp => by
        obtain ⟨w, hw, _, rfl⟩ := mem_rest hp
        exact ho w hw
      have e3 : flatC [partN N L ts (keyN N L ts i)] = (clsN N L ts (keyN N L ts i)).map fun i : Nat => (i : Int) := by simp [flatC, partN]
      rw [finK_split _ _ _ hlt, hk, if_pos rfl, flatC_append, flatC_append, List.count_append, List.count_append, z2, z3, e3, count_map (cls_sorted _), if_pos ((mem_clsN N L ts).2 ⟨hi, hf, rfl⟩)]
      rfl
theorem flat_range {c : Int} (hc : c ∈ flatC (outK L ts L.length ++ finK N L ts L.length (N + 1).toNat)) : 0 ≤ c ∧ c < L.length := by
  rw [flatC_append] at hc
  rcases List.mem_append.1 hc with hc | hc
  · rw [flat_out] at hc
    obtain ⟨j, hj, rfl⟩ := List.mem_map.1 hc
    have := List.mem_range.1 (List.mem_filter.1 hj).1
    omega
  · obtain ⟨p, hp, hx⟩ := List.mem_flatMap.1 hc
    obtain ⟨w, _, _, rfl⟩ := mem_finK hp
    obtain ⟨j, hj, rfl⟩ := List.mem_map.1 hx
    have := ((mem_clsN N L ts).1 hj).1
    omega
end
def inTs (ts : List Int) (v : Int) : Bool := decide (v ∈ ts) || decide (-v ∈ ts)
theorem div_vars {N : Int} {L : List (List Int)} {ts : List Int} (hv : validT N L ts = true) {v : Int} (h1 : 1 ≤ v) (h2 : v ≤ 128) :
    (if sHas (splF N L ts) v = true then 1 else 0) + (if inTs ts v = true then 1 else 0) + cntV (splL N L ts) v = if v ≤ N then 1 else 0 := by
  obtain ⟨hg, h0, l4⟩ := valid_good hv
  obtain ⟨e1, e2⟩ := splL_eq hv
  rw [e1, e2, splitP_eq]
  have hts : inTs ts v = true ↔ ∃ x ∈ orderL ts, litVar x = v := by
    unfold inTs
    rw [Bool.or_eq_true, decide_eq_true_eq, decide_eq_true_eq]
    constructor
    · rintro (h | h)
      · exact ⟨v, mem_orderL.2 h, litVar_pos h1 h2⟩
      · exact ⟨-v, mem_orderL.2 h, by rw [litVar_neg (by omega) (by omega)]; omega⟩
    · rintro ⟨x, hx, e⟩
      have hx2 := mem_orderL.1 hx
      unfold litVar at e
      split at e
      · subst e; exact .inl hx2
      · split at e
        · right; have : x = -v := by omega
          exact this ▸ hx2
        · omega
  have hle : inTs ts v = true → v ≤ N := fun h => by
    obtain ⟨x, hx, e⟩ := hts.1 h
    have hx2 := mem_orderL.1 hx
    unfold validT at hv
    simp only [Bool.and_eq_true, List.all_eq_true] at hv
    have := hv.1.2 x hx2
    simp only [litOk, Bool.and_eq_true, decide_eq_true_eq] at this
    omega
  have hF := splitF_has N L (orderL ts) v
  rw [sHas_all] at hF
  simp only [decide_eq_true_eq] at hF
  by_cases hcl : ∃ i, i < L.length ∧ Lf L (orderL ts) i = true ∧ ∃ x ∈ Rs L (orderL ts) i, litVar x = v
  · obtain ⟨i, hi, hl, x, hx, e⟩ := hcl
    have hc := cntV_class hg hi hl hx
    rw [e] at hc
    have hvN := hg.var hx
    have hnt : ¬ inTs ts v = true := fun h => by
      obtain ⟨y, hy, ey⟩ := hts.1 h
      have hl2 : leftL (L.getD i []) (orderL ts) = true := hl
      have hxm := List.mem_filter.1 hx
      have h3 : -x ∉ orderL ts := by simpa using hxm.2
      have h4 : x ∉ orderL ts := by
        unfold leftL at hl2
        have := List.all_eq_true.1 hl2 x hxm.1
        simpa using this
      have : y = x ∨ y = -x := by
        unfold litVar at e ey
        split at e <;> split at ey <;> (try split at e) <;> (try split at ey) <;> omega
      rcases this with rfl | rfl
      · exact h4 hy
      · exact h3 hy
    rw [hc, if_neg (fun h => (hF.1 h).2.2 i hi hl x hx e), if_neg hnt, if_pos (by omega)]
  · have hno : ∀ i, i < L.length → Lf L (orderL ts) i = true → ∀ x ∈ Rs L (orderL ts) i, litVar x ≠ v := fun i hi hl x hx e => hcl ⟨i, hi, hl, x, hx, e⟩
    rw [cntV_no hno]
    by_cases ht : inTs ts v = true
    · obtain ⟨y, hy, ey⟩ := hts.1 ht
      rw [if_pos ht, if_neg (fun h => (hF.1 h).2.1 y hy ey), if_pos (hle ht)]
    · rw [if_neg ht]
      by_cases hvN : v ≤ N
      · rw [if_pos hvN, if_pos (hF.2 ⟨⟨h1, hvN, h2⟩, fun x hx e => ht (hts.2 ⟨x, hx, e⟩), hno⟩)]
      · rw [if_neg hvN, if_neg (fun h => hvN (hF.1 h).1.2.1)]
theorem div_clauses {N : Int} {L : List (List Int)} {ts : List Int} (hv : validT N L ts = true) {i : Nat} (hi : i < L.length) : (flatC (splL N L ts)).count (i : Int) = if leftL (L.getD i []) ts = true then 1 else 0 := by
  obtain ⟨hg, h0, l4⟩ := valid_good hv
  rw [(splL_eq hv).1, splitP_eq, flat_count hg hi]
  unfold Lf
  rw [leftL_order]
theorem div_range {N : Int} {L : List (List Int)} {ts : List Int} (hv : validT N L ts = true) {c : Int} (hc : c ∈ flatC (splL N L ts)) : 0 ≤ c ∧ c < L.length := by
  rw [(splL_eq hv).1, splitP_eq] at hc
  exact flat_range hc
end Go.Proofs.Ytekeidhndlnghaa
