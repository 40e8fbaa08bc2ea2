/- A component alone is one component, in plain words; no condition. -/
import Derived.Test.YtekeidhndlnghaaDv16
namespace Go.Proofs.Ytekeidhndlnghaa
set_option linter.unusedVariables false
set_option linter.unusedSimpArgs false
set_option linter.unusedSectionVars false
open Go.RowKit
section
variable {N : Int} {L : List (List Int)} {ts : List Int}
theorem alnL_nat (L : List (List Int)) (ts : List Int) (cs : List Nat) : alnL L ts (cs.map fun i : Nat => (i : Int)) = cs.map fun i => Rs L ts i := by
  unfold alnL Rs
  rw [List.map_map]
  apply List.map_congr_left
  intro i _
  simp
theorem leftL_nil (c : List Int) : leftL c [] = true := by simp [leftL]
theorem restL_nil (c : List Int) : restL c [] = c := by simp [restL]
theorem Lf_nil (X : List (List Int)) (j : Nat) : Lf X [] j = true := leftL_nil _
theorem Rs_nil (X : List (List Int)) (j : Nat) : Rs X [] j = X.getD j [] := restL_nil _
theorem Rs_map (L : List (List Int)) (ts : List Int) (cs : List Nat) {j : Nat} (hj : j < cs.length) : (cs.map fun i => Rs L ts i).getD j [] = Rs L ts (cs.getD j 0) := by
  simp [List.getD, hj]
theorem order_nil : orderL [] = [] := by
  have := orderL_len []
  exact List.eq_nil_of_length_eq_zero (by simpa using this)
theorem good_alone (h : GoodL N L) (cs : List Nat) : GoodL N (cs.map fun i => Rs L ts i) := by
  refine ⟨h.1, fun c hc x hx => ?_⟩
  obtain ⟨i, _, rfl⟩ := List.mem_map.1 hc
  have hm := mem_restL ts hx
  have hcL : L.getD i [] ∈ L := by
    by_cases hi : i < L.length
    · exact getD_memL hi
    · have : L.getD i [] = [] := by simp [List.getD, List.getElem?_eq_none (show L.length ≤ i by omega)]
      rw [this] at hm; cases hm
  exact h.2 _ hcL x hm
theorem valid_alone (hv : validT N L ts = true) {cs : List Nat} (hl : cs.length ≤ 4096) : validT N (cs.map fun i => Rs L ts i) [] = true := by
  obtain ⟨n0, n1, l4, hl3⟩ := checkT_ok (valid_check hv)
  have hc : checkT N (cs.map fun i => Rs L ts i) = 0 := by
    rw [checkT_row (by omega) (by simpa using hl)]
    refine checkRows_all N _ fun j hj => ?_
    have hj2 : j < cs.length := by simpa using hj
    rw [Rs_map L ts cs hj2]
    generalize cs.getD j 0 = i
    have hlen : (L.getD i []).length ≤ 128 ∧ ∀ x ∈ L.getD i [], litOk x N = true := by
      by_cases hi : i < L.length
      · exact hl3 _ (getD_memL hi)
      · have : L.getD i [] = [] := by simp [List.getD, List.getElem?_eq_none (show L.length ≤ i by omega)]
        rw [this]; exact ⟨by simp, fun x hx => by cases hx⟩
    have hl2 : (Rs L ts i).length ≤ 128 := Nat.le_trans (List.length_filter_le _ _) hlen.1
    refine checkRow_ok hl2 fun k hk => ?_
    have hm := getD_memI hk
    exact hlen.2 _ (mem_restL ts hm)
  unfold validT
  rw [hc]
  simp [opposed]
theorem whole_class (h : GoodL N L) {v : Nat} (hk : hasK N L ts L.length v = true) :
    ∃ p, splitP N ((clsN N L ts v).map fun i => Rs L ts i) [] = [p] ∧ p.1 = varsN N L ts v ∧ p.2.length = (clsN N L ts v).length := by
  have hX := good_alone (ts := ts) h (clsN N L ts v)
  obtain ⟨i0, hi0, hf0, hk0⟩ := (hasK_iff N L ts _ v).1 hk
  have hm0 : i0 ∈ clsN N L ts v := (mem_clsN N L ts).2 ⟨hi0, hf0, hk0⟩
  have hmem : ∀ j, j < (clsN N L ts v).length → (clsN N L ts v).getD j 0 < L.length ∧ isF L ts ((clsN N L ts v).getD j 0) = true ∧ keyN N L ts ((clsN N L ts v).getD j 0) = v := fun j hj => by
    refine (mem_clsN N L ts).1 ?_
    have : (clsN N L ts v).getD j 0 = (clsN N L ts v)[j] := by simp [List.getD, hj]
    rw [this]; exact List.getElem_mem hj
  have hat : ∀ i, i ∈ clsN N L ts v → ∃ j, j < (clsN N L ts v).length ∧ (clsN N L ts v).getD j 0 = i := fun i hi => by
    obtain ⟨j, hj, e⟩ := List.getElem_of_mem hi
    exact ⟨j, hj, by simp [List.getD, hj, e]⟩
  obtain ⟨cs, hcs⟩ : ∃ cs, clsN N L ts v = cs := ⟨_, rfl⟩
  have hiff : ∀ i, i ∈ cs ↔ i < L.length ∧ isF L ts i = true ∧ keyN N L ts i = v := fun i => by rw [← hcs]; exact mem_clsN N L ts
  rw [hcs] at hX hm0 hmem hat ⊢
  obtain ⟨X, hXe⟩ : ∃ X, cs.map (fun i => Rs L ts i) = X := ⟨_, rfl⟩
  have hXl : X.length = cs.length := by rw [← hXe]; simp
  have hRs : ∀ j, j < X.length → Rs X [] j = Rs L ts (cs.getD j 0) := fun j hj => by rw [Rs_nil, ← hXe]; exact Rs_map L ts cs (by omega)
  rw [hXe] at hX ⊢
  have hF : ∀ j, j < X.length → isF X [] j = true := fun j hj => (isF_iff X []).2 ⟨Lf_nil X j, by rw [hRs j hj]; exact ((isF_iff L ts).1 (hmem j (by omega)).2.1).2⟩
  have hE : ∀ j, j < X.length → isE X [] j = false := fun j hj => by
    cases he : isE X [] j
    · rfl
    · exact absurd ((isE_iff X []).1 he).2 ((isF_iff X []).1 (hF j hj)).2
  have hhd : ∀ j, j < X.length → hdV X [] j = hdV L ts (cs.getD j 0) := fun j hj => by unfold hdV; rw [hRs j hj]
  -- one root for all
  obtain ⟨j0, hj0, ej0⟩ := hat i0 hm0
  have hroot : ∀ j, j < X.length → keyN N X [] j = keyN N X [] j0 := by
    intro j hj
    have hP : Whole L ts L.length fun u => sHas (varsN N L ts v) (u : Int) = true ∧ rN N X [] u = keyN N X [] j0 := by
      intro i hi hl x hx
      have hw := class_whole h v i hi hl x hx
      dsimp only at hw
      constructor
      · rintro ⟨a1, a2⟩
        have a3 := hw.1 a1
        have hfi := isF_of L ts hl hx
        have hh := hd_mem L ts ((isF_iff L ts).1 hfi).2
        have hki : keyN N L ts i = v := by
          have := varsN_key (x := (Rs L ts i).getD 0 0) (by rw [← vN_pos h hh]; exact a1)
          exact this
        obtain ⟨k, hk1, hk2⟩ := hat i ((hiff i).2 ⟨hi, hfi, hki⟩)
        have hkX : k < X.length := by omega
        have c1 := conN N X [] hkX (Lf_nil X k) (x := x) (by rw [hRs k hkX, hk2]; exact hx)
        have c2 : keyN N X [] k = rN N X [] (hdV L ts i) := by unfold keyN; rw [hhd k hkX, hk2]
        exact ⟨a3, by rw [c1, c2]; exact a2⟩
      · rintro ⟨a1, a2⟩
        have a3 := hw.2 a1
        have hfi := isF_of L ts hl hx
        have hki : keyN N L ts i = v := by
          have := varsN_key (x := x) (by rw [← vN_pos h hx]; exact a1)
          rw [← conN N L ts hi hl hx]; exact this
        obtain ⟨k, hk1, hk2⟩ := hat i ((hiff i).2 ⟨hi, hfi, hki⟩)
        have hkX : k < X.length := by omega
        have c1 := conN N X [] hkX (Lf_nil X k) (x := x) (by rw [hRs k hkX, hk2]; exact hx)
        have c2 : keyN N X [] k = rN N X [] (hdV L ts i) := by unfold keyN; rw [hhd k hkX, hk2]
        exact ⟨a3, by rw [← c2, ← c1]; exact a2⟩
    have hR := leastN N L ts hP
    have hm := hmem j (by omega)
    have e1 : rN N L ts (hdV L ts (cs.getD j 0)) = rN N L ts (hdV L ts i0) := by
      have a1 : keyN N L ts (cs.getD j 0) = v := hm.2.2
      exact a1.trans hk0.symm
    have hh0 := hd_mem L ts ((isF_iff L ts).1 hf0).2
    have b1 : sHas (varsN N L ts v) ((hdV L ts i0 : Nat) : Int) = true := by
      have := h.has hi0 ((isF_iff L ts).1 hf0).1 hk0 hh0
      rwa [← vN_pos h hh0] at this
    have b2 : rN N X [] (hdV L ts i0) = keyN N X [] j0 := by unfold keyN; rw [hhd j0 (by omega), ej0]
    have := (hR _ _ e1).2 ⟨b1, b2⟩
    unfold keyN
    rw [hhd j hj]
    exact this.2
  have hj0X : j0 < X.length := by omega
  have hK : ∀ w, hasK N X [] X.length w = true ↔ w = keyN N X [] j0 := fun w => by
    rw [hasK_iff]
    constructor
    · rintro ⟨j, hj, _, e⟩; rw [← e]; exact hroot j hj
    · rintro rfl; exact ⟨j0, hj0X, hF j0 hj0X, rfl⟩
  have hrg := keyN_range hX hj0X (hF j0 hj0X)
  have hout : outK X [] X.length = [] := by
    unfold outK
    have : (List.range X.length).filter (isE X []) = [] := by
      rw [List.filter_eq_nil_iff]
      intro j hj he
      rw [hE j (List.mem_range.1 hj)] at he; cases he
    rw [this]; rfl
  have hcl : clsN N X [] (keyN N X [] j0) = List.range X.length := by
    unfold clsN firsts
    rw [List.filter_filter]
    apply List.filter_eq_self.2
    intro j hj
    have hjl := List.mem_range.1 hj
    simp [hroot j hjl, hF j hjl]
  have hfin : finK N X [] X.length (N + 1).toNat = [partN N X [] (keyN N X [] j0)] := by
    rw [finK_split _ _ _ (show keyN N X [] j0 < (N + 1).toNat by omega), (hK _).2 rfl, if_pos rfl]
    have z1 : finK N X [] X.length (keyN N X [] j0) = [] := by
      unfold finK
      rw [List.filterMap_eq_nil_iff]
      intro w hw
      have := List.mem_range.1 hw
      rw [if_neg]
      intro hh; have := (hK w).1 hh; omega
    have z2 : ((List.range' (keyN N X [] j0 + 1) ((N + 1).toNat - keyN N X [] j0 - 1)).filterMap fun v => if hasK N X [] X.length v then some (partN N X [] v) else none) = [] := by
      rw [List.filterMap_eq_nil_iff]
      intro w hw
      have := List.mem_range'_1.1 hw
      rw [if_neg]
      intro hh; have := (hK w).1 hh; omega
    rw [z1, z2]; rfl
  refine ⟨partN N X [] (keyN N X [] j0), by rw [splitP_eq, hout, hfin]; rfl, ?_, ?_⟩
  · show varsN N X [] (keyN N X [] j0) = varsN N L ts v
    apply sets_ext
    intro u _ _
    apply Bool.eq_iff_iff.2
    rw [varsN_has, varsN_has]
    constructor
    · rintro ⟨j, ⟨hj, _, _⟩, x, hx, e⟩
      rw [hRs j hj] at hx
      exact ⟨cs.getD j 0, hmem j (by omega), x, hx, e⟩
    · rintro ⟨i, hi, x, hx, e⟩
      obtain ⟨j, hj, ej⟩ := hat i ((hiff i).2 hi)
      have hjX : j < X.length := by omega
      exact ⟨j, ⟨hjX, hF j hjX, hroot j hjX⟩, x, by rw [hRs j hjX, ej]; exact hx, e⟩
  · show ((clsN N X [] (keyN N X [] j0)).map fun i : Nat => (i : Int)).length = cs.length
    rw [hcl, List.length_map, List.length_range, hXl]
theorem whole_empty (h : GoodL N L) {i : Nat} (hr : Rs L ts i = []) :
    ∃ p, splitP N [Rs L ts i] [] = [p] ∧ p.1 = 0#128 ∧ p.2.length = 1 := by
  rw [hr]
  refine ⟨(0#128, [0]), ?_, rfl, rfl⟩
  rw [splitP_eq]
  have hE : isE [[]] [] 0 = true := (isE_iff _ _).2 ⟨Lf_nil _ _, by rw [Rs_nil]; rfl⟩
  have hF : isF [[]] [] 0 = false := by
    cases hf : isF [[]] [] 0
    · rfl
    · exact absurd ((isE_iff _ _).1 hE).2 ((isF_iff _ _).1 hf).2
  have hout : outK [[]] [] ([[]] : List (List Int)).length = [(0#128, [0])] := by
    unfold outK
    show ((List.range 1).filter (isE [[]] [])).map _ = _
    simp [List.range_succ, hE]
  have hfin : finK N [[]] [] ([[]] : List (List Int)).length (N + 1).toNat = [] := by
    unfold finK
    rw [List.filterMap_eq_nil_iff]
    intro w _
    rw [if_neg]
    intro hh
    obtain ⟨j, hj, hf, _⟩ := (hasK_iff N _ _ _ w).1 hh
    have : j = 0 := by have : j < 1 := hj; omega
    subst this
    rw [hF] at hf; cases hf
  rw [hout, hfin]; rfl
theorem whole_part (hv : validT N L ts = true) {p : PrtL} (hp : p ∈ splL N L ts) :
    alnB L ts p.2 = true ∧ validT N (alnL L ts p.2) [] = true ∧ p.2.length ≤ 4096 ∧ ∃ q, splL N (alnL L ts p.2) [] = [q] ∧ q.1 = p.1 ∧ q.2.length = p.2.length := by
  obtain ⟨hg, h0, l4⟩ := valid_good hv
  rw [(splL_eq hv).1, splitP_eq] at hp
  have hgood : ∀ cs : List Nat, (∀ i ∈ cs, i < L.length ∧ Lf L (orderL ts) i = true) → cs.length ≤ 4096 → alnB L ts (cs.map fun i : Nat => (i : Int)) = true ∧ validT N (alnL L ts (cs.map fun i : Nat => (i : Int))) [] = true ∧ alnL L ts (cs.map fun i : Nat => (i : Int)) = cs.map fun i => Rs L (orderL ts) i := fun cs hcs hl => by
    have e : alnL L ts (cs.map fun i : Nat => (i : Int)) = cs.map fun i => Rs L (orderL ts) i := by rw [← alnL_order, alnL_nat]
    have e2 : cs.map (fun i => Rs L (orderL ts) i) = cs.map fun i => Rs L ts i := by
      apply List.map_congr_left; intro i _; unfold Rs; rw [restL_order]
    refine ⟨?_, by rw [e, e2]; exact valid_alone hv hl, e⟩
    unfold alnB
    rw [List.all_eq_true]
    intro x hx
    obtain ⟨i, hi, rfl⟩ := List.mem_map.1 hx
    obtain ⟨h1, h2⟩ := hcs i hi
    have h3 : leftL (L.getD i []) ts = true := by rw [← leftL_order]; exact h2
    simp only [Bool.and_eq_true, decide_eq_true_eq]
    exact ⟨⟨by omega, by omega⟩, by simpa using h3⟩
  rcases List.mem_append.1 hp with hp | hp
  · unfold outK at hp
    obtain ⟨i, hi, rfl⟩ := List.mem_map.1 hp
    have hie := List.mem_filter.1 hi
    have hil := List.mem_range.1 hie.1
    obtain ⟨hl, hr⟩ := (isE_iff L (orderL ts)).1 hie.2
    obtain ⟨a1, a2, a3⟩ := hgood [i] (fun j hj => by simp at hj; subst hj; exact ⟨hil, hl⟩) (by simp)
    have a4 : alnL L ts [(i : Int)] = [Rs L (orderL ts) i] := a3
    refine ⟨a1, a2, by simp, ?_⟩
    obtain ⟨q, q1, q2, q3⟩ := whole_empty hg hr
    refine ⟨q, ?_, q2, q3⟩
    have a2' : validT N (alnL L ts [(i : Int)]) [] = true := a2
    rw [(splL_eq a2').1, order_nil, a4, q1]
  · obtain ⟨w, hw, hk, rfl⟩ := mem_finK hp
    have hcl : (clsN N L (orderL ts) w).length ≤ 4096 := by
      unfold clsN firsts
      have h1 := List.length_filter_le (fun i => decide (keyN N L (orderL ts) i = w)) ((List.range L.length).filter (isF L (orderL ts)))
      have h2 := List.length_filter_le (isF L (orderL ts)) (List.range L.length)
      rw [List.length_range] at h2
      omega
    obtain ⟨a1, a2, a3⟩ := hgood (clsN N L (orderL ts) w) (fun j hj => by have := (mem_clsN N L (orderL ts)).1 hj; exact ⟨this.1, ((isF_iff _ _).1 this.2.1).1⟩) hcl
    refine ⟨a1, a2, by show (List.map _ _).length ≤ _; rw [List.length_map]; exact hcl, ?_⟩
    obtain ⟨q, q1, q2, q3⟩ := whole_class hg hk
    refine ⟨q, ?_, q2, ?_⟩
    · have a2' : validT N (alnL L ts (partN N L (orderL ts) w).2) [] = true := a2
      have a3' : alnL L ts (partN N L (orderL ts) w).2 = _ := a3
      rw [(splL_eq a2').1, order_nil, a3', q1]
    · rw [q3]; show _ = (List.map _ _).length; rw [List.length_map]
end
end Go.Proofs.Ytekeidhndlnghaa
