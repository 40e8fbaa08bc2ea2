/- The shape of a net that is accepted; plain; no condition. -/
import Derived.Test.YtllkogdgmmcfgaaGreatDoorPa23
namespace Go.Proofs.YtllkogdgmmcfgaaGreatDoor
set_option linter.unusedVariables false
set_option linter.unusedSimpArgs false
set_option linter.unusedSectionVars false
open Go.RowKit
set_option maxRecDepth 100000
def varI (ns : List Nd) (i : Int) : BitVec 128 := (varsL ns).getD i.toNat 0#128
theorem var_node {N : Int} {ns : List Nd} (h : validN N ns = true) {i : Nat} (hi : i < ns.length) (v : Int) : sHas (varI ns (i : Int)) v = (sHas (sBit (litVar (ns.getD i nd0).2.1)) v || (ns.getD i nd0).2.2.any fun k => sHas (varI ns k) v) := by
 have e := scanN_get nodeS ns 0#128 hi
 unfold varI varsL
 rw [show ((i : Nat) : Int).toNat = i by omega, e, nodeS_has]
 congr 1
 refine any_congr fun k hk => ?_
 obtain ⟨k0, k1⟩ := form_in (valid_form h hi) hk
 have e1 := scanN_pre nodeS ns 0#128 ns.length i (by omega) (Nat.le_refl _) k.toNat (by omega)
 rw [List.take_length] at e1
 rw [e1]
theorem sBit_no (v : Int) : sHas (sBit 0) v = false := by rw [sHas_bit]; exact decide_eq_false fun h => by omega
theorem form_lit0 {x : Nd} {n i : Int} (h : formB x n i = true) (hk : x.1 ≠ 2) : x.2.1 = 0 := by
 unfold formB at h
 rw [Bool.and_eq_true] at h
 have h2 := h.2
 split at h2
 ·rw [Bool.and_eq_true, decide_eq_true_eq] at h2; exact h2.1
 ·try rw [if_neg hk] at h2
  split at h2
  ·exact of_decide_eq_true h2
  ·cases h2
theorem litVar_0 : litVar 0 = 0 := rfl
theorem var_inner {N : Int} {ns : List Nd} (h : validN N ns = true) {i : Nat} (hi : i < ns.length) (hk : kindN ns (i : Int) ≠ 2) (v : Int) : sHas (varI ns (i : Int)) v = (inN ns (i : Int)).any fun k => sHas (varI ns k) v := by
 have hk : (ns.getD i nd0).1 ≠ 2 := hk
 rw [var_node h hi, form_lit0 (valid_form h hi) hk, litVar_0, sBit_no, Bool.false_or]; rfl
theorem var_litN {N : Int} {ns : List Nd} (h : validN N ns = true) {i : Int} (hk : kindN ns i = 2) (h0 : 0 ≤ i) (v : Int) : sHas (varI ns i) v = true ↔ v = litVar (litN ns i) ∧ litOk (litN ns i) N = true := by
 have hi := kind_lt (ns := ns) (i := i) (by rw [hk]; decide)
 have e : ((i.toNat : Nat) : Int) = i := by omega
 have hv := var_node h hi v
 rw [e] at hv
 have hk2 : (ns.getD i.toNat nd0).1 = 2 := hk
 have hf := valid_form h hi
 have hlo : litOk (ns.getD i.toNat nd0).2.1 N = true := by
  have h2 := hf
  unfold formB at h2
  rw [Bool.and_eq_true, if_neg (by omega), if_pos hk2, Bool.and_eq_true] at h2
  exact h2.2.1
 rw [hv, form_in0 hf (.inr (.inr hk2)), List.any_nil, Bool.or_false, sHas_bit, decide_eq_true_eq]
 have := litVar_abs hlo
 have h3 := litVar_range (ns.getD i.toNat nd0).2.1
 exact ⟨fun hh => ⟨hh.1, hlo⟩, fun hh => ⟨hh.1, by omega, by omega⟩⟩
def SubV (ns : List Nd) (i : Int) (R : List (List Int)) : Prop := ∀ v, sHas (varI ns i) v = true → sHas (varsT R) v = true
def DisI (ns : List Nd) (i j : Int) : Prop := ∀ v, sHas (varI ns i) v = true → sHas (varI ns j) v = true → False
theorem gv_vars {N : Int} {R : List (List Int)} (hz : checkT N R = 0) {l v : Int} (hl : litOk l N = true) (h : sHas (varsT (gvV R l)) v = true) : sHas (varsT R) v = true ∧ v ≠ litVar l := by
 rw [sHas_varsT] at h
 obtain ⟨h1, c, hc, x, hx, h2⟩ := h
 unfold gvV at hc
 obtain ⟨d, hd, _, rfl⟩ := (normL_mem (givenT_check hz [l]) c).1 hc
 have hx := (mem_sortK.1 hx).1
 obtain ⟨c0, hc0, ho, rfl⟩ := givenT_mem.1 hd
 obtain ⟨hx0, hx1⟩ := List.mem_filter.1 hx
 refine ⟨(sHas_varsT _ _).2 ⟨h1, c0, hc0, x, hx0, h2⟩, fun e => ?_⟩
 have hxo := ((checkT_ok hz).2.2.2 c0 hc0).2 x hx0
 have a1 := litVar_abs hxo
 have a2 := litVar_abs hl
 unfold openC at ho
 rw [Bool.not_eq_true', List.any_eq_false] at ho
 have b1 := ho x hx0
 simp only [List.mem_singleton, decide_eq_true_eq] at b1
 simp only [List.mem_singleton, Bool.not_eq_true', decide_eq_false_iff_not] at hx1
 omega
theorem norm_vars {N : Int} {A : List (List Int)} (hz : checkT N A = 0) (ha : ∀ c ∈ A, altK c N.toNat = false) {v : Int} (h : sHas (varsT A) v = true) : sHas (varsT (normL A)) v = true := by
 rw [sHas_varsT] at h ⊢
 obtain ⟨h1, c, hc, x, hx, h2⟩ := h
 obtain ⟨h0, _, _, h3⟩ := checkT_ok hz
 exact ⟨h1, _, (normL_mem hz _).2 ⟨c, hc, ha c hc, rfl⟩, x, (mem_sortK_ok h0 (h3 c hc).2 x).2 hx, h2⟩
theorem norm_alt {N : Int} {A : List (List Int)} (hz : checkT N A = 0) : ∀ c ∈ normL A, altK c N.toNat = false := fun c hc => by
 obtain ⟨h0, _, _, h3⟩ := checkT_ok hz
 obtain ⟨d, hd, h, rfl⟩ := (normL_mem hz c).1 hc
 rw [altK_congr (mem_sortK_ok h0 (h3 d hd).2)]; exact h
theorem cmpC_nil {a b : List Int} (h : clLt a b) : b ≠ [] := fun e => by
 subst e
 have h2 := h.2
 unfold cmpC at h2
 split at h2
 ·rename_i h3
  obtain rfl := List.eq_nil_of_length_eq_zero h3
  simp [cmpG] at h2
 ·simp at h2; omega
theorem norm_nil {N : Int} {A : List (List Int)} (hz : checkT N A = 0) (h : [] ∈ normL A) : normL A = [] :: (normL A).drop 1 ∧ [] ∉ (normL A).drop 1 := by
 have hs := normL_strict hz
 generalize normL A = X at h hs ⊢
 match X, h, hs with
 | a :: r, h, hs =>
  have h2 : ∀ c ∈ r, c ≠ [] := fun c hc => cmpC_nil (List.rel_of_pairwise_cons hs hc)
  rcases List.mem_cons.1 h with e | e
  ·exact ⟨by rw [← e]; rfl, fun hn => h2 _ hn rfl⟩
  ·exact absurd rfl (h2 _ e)
def InV (N : Int) (L : List (List Int)) (ns : List Nd) (cl : List Cl) (is : List Int) : Prop := ∀ i ∈ is, kindN ns i ≠ 2 → ∀ x, rsV L N (clN cl i) = some x → SubV ns i x
theorem varsT_mono {A B : List (List Int)} (h : ∀ c ∈ A, c ≠ [] → c ∈ B) {v : Int} (hv : sHas (varsT A) v = true) : sHas (varsT B) v = true := by
 rw [sHas_varsT] at hv ⊢
 obtain ⟨h1, c, hc, x, hx, h2⟩ := hv
 exact ⟨h1, c, h c hc (List.ne_nil_of_mem hx), x, hx, h2⟩
theorem fit2_shape {N : Int} {L : List (List Int)} {ns : List Nd} {cl : List Cl} (hzL : checkT N L = 0) : ∀ (is : List Int) (seen : BitVec 128) (all out : List (List Int)), InV N L ns cl is → (∀ c ∈ all, altK c N.toNat = false) → fit2 N L ns cl is seen all = some out →
  is.Pairwise (DisI ns) ∧ (∀ i ∈ is, ∀ v, sHas (varI ns i) v = true → sHas seen v = false) ∧ (∀ i ∈ is, SubV ns i out) ∧ (∀ c ∈ all, c ∈ out) ∧ ∀ c ∈ out, altK c N.toNat = false
 | [], _, all, out, _, ha, h => by
  simp only [fit2, Option.some.injEq] at h
  subst h
  exact ⟨.nil, fun i hi => (by cases hi), fun i hi => (by cases hi), fun c hc => hc, ha⟩
 | i :: r, seen, all, out, hi, ha, h => by
  unfold fit2 at h
  cases hx : rsV L N (clN cl i) with
  | none => rw [hx] at h; cases h
  | some x =>
   rw [hx] at h
   simp only at h
   split at h
   ·cases h
   rename_i hk
   split at h
   ·cases h
   rename_i hd
   have hd : seen &&& varsT x = 0#128 := Classical.not_not.1 hd
   have hsub := hi i (List.mem_cons_self ..) hk x hx
   obtain ⟨g, hg⟩ : ∃ g, goodB N L.length (clN cl i).1 (clN cl i).2 = g := ⟨_, rfl⟩
   unfold rsV at hx
   rw [hg] at hx
   cases g with
   | false => simp at hx
   | true =>
   simp only [if_true, Option.some.injEq] at hx
   have hxn : ∃ A, checkT N A = 0 ∧ x = normL A := ⟨_, givenT_check (left_check hzL hg) (clN cl i).1, hx.symm⟩
   obtain ⟨A, hA, hxA⟩ := hxn
   have hx1 : ∀ c ∈ x, altK c N.toNat = false := hxA ▸ norm_alt hA
   obtain ⟨y, hy⟩ : ∃ y, (if [] ∈ x ∧ [] ∈ all then x.drop 1 else x) = y := ⟨_, rfl⟩
   have hyx : ∀ c ∈ y, c ∈ x := fun c hc => by
    rw [← hy] at hc
    split at hc
    ·exact List.mem_of_mem_drop hc
    ·exact hc
   have hxy : ∀ c ∈ x, c ≠ [] → c ∈ y := fun c hc h0 => by
    rw [← hy]
    split
    ·rename_i hb
     have := (norm_nil hA (hxA ▸ hb.1)).1
     rw [← hxA] at this
     rw [this] at hc
     exact (List.mem_cons.1 hc).resolve_left h0
    ·exact hc
   rw [hy] at h
   obtain ⟨i1, i2, i3, i4, i5⟩ := fit2_shape hzL r _ _ out (fun j hj => hi j (List.mem_cons_of_mem _ hj)) (fun c hc => by
    rcases List.mem_append.1 hc with hc | hc
    ·exact ha c hc
    ·exact hx1 c (hyx c hc)) h
   have hno : ∀ v, sHas seen v = true → sHas (varsT x) v = true → False := fun v h1 h2 => by
    have : sHas (seen &&& varsT x) v = true := by rw [sHas_and, h1, h2]; rfl
    rw [hd] at this
    simp [sHas] at this
   refine ⟨List.Pairwise.cons (fun j hj v h1 h2 => ?_) i1, fun j hj v hv => ?_, fun j hj => ?_, fun c hc => i4 c (List.mem_append_left _ hc), i5⟩
   ·have h3 := i2 j hj v h2
    rw [sHas_or, Bool.or_eq_false_iff] at h3
    rw [hsub v h1] at h3
    cases h3.2
   ·rcases List.mem_cons.1 hj with rfl | hj
    ·cases hsv : sHas seen v
     ·rfl
     ·exact (hno v hsv (hsub v hv)).elim
    ·have h3 := i2 j hj v hv
     rw [sHas_or, Bool.or_eq_false_iff] at h3
     exact h3.1
   ·rcases List.mem_cons.1 hj with rfl | hj
    ·exact fun v hv => varsT_mono (fun c hc h0 => i4 c (List.mem_append_right _ (hxy c hc h0))) (hsub v hv)
    ·exact i3 j hj
theorem disI_symm {ns : List Nd} {i j : Int} (h : DisI ns i j) : DisI ns j i := fun v h1 h2 => h v h2 h1
theorem fit1_shape {N : Int} {ns : List Nd} (hv : validN N ns = true) : ∀ (f : Nat) (R : List (List Int)) (is : List Int), (∀ i ∈ is, 0 ≤ i) → checkT N R = 0 → (fit1 ns f R is).2.Pairwise (DisI ns) → (∀ i ∈ (fit1 ns f R is).2, SubV ns i (fit1 ns f R is).1) → is.Pairwise (DisI ns) ∧ ∀ i ∈ is, SubV ns i R
 | 0, R, is, _, _, h1, h2 => ⟨h1, h2⟩
 | f + 1, R, is, h0, hz, h1, h2 => by
  unfold fit1 at h1 h2
  cases hf : is.findIdx? (useB ns R) with
  | none => rw [hf] at h1 h2; exact ⟨h1, h2⟩
  | some k =>
   rw [hf] at h1 h2
   simp only at h1 h2
   obtain ⟨hk, hu⟩ := find_at hf
   unfold useB at hu
   rw [Bool.and_eq_true, decide_eq_true_eq, decide_eq_true_eq] at hu
   have hp := cut_perm hk
   have hki : is.getD k 0 ∈ is := hp.mem_iff.2 (List.mem_cons_self ..)
   obtain ⟨i1, i2⟩ := fit1_shape hv f _ (cutI is k) (fun i hi => h0 i (hp.mem_iff.2 (List.mem_cons_of_mem _ hi))) (gv_check hz _) h1 h2
   have hlv := var_litN hv hu.1 (h0 _ hki)
   have hlr : sHas (varsT R) (litVar (litN ns (is.getD k 0))) = true ∧ litOk (litN ns (is.getD k 0)) N = true := by
    have hlo := ((checkT_ok hz).2.2.2 _ hu.2).2 _ (List.mem_singleton.2 rfl)
    have a := litVar_abs hlo
    have b := litVar_range (litN ns (is.getD k 0))
    exact ⟨(sHas_varsT _ _).2 ⟨⟨a.2.1, b.2⟩, _, hu.2, _, List.mem_singleton.2 rfl, rfl⟩, hlo⟩
   have hall : ∀ i ∈ cutI is k, SubV ns i R ∧ DisI ns (is.getD k 0) i := fun i hi => by
    refine ⟨fun v hvv => (gv_vars hz hlr.2 (i2 i hi v hvv)).1, fun v h3 h4 => ?_⟩
    exact (gv_vars hz hlr.2 (i2 i hi v h4)).2 ((hlv v).1 h3).1
   constructor
   ·refine (hp.pairwise_iff (fun {a b} h => disI_symm h)).2 (List.Pairwise.cons (fun i hi => (hall i hi).2) i1)
   ·intro i hi
    rcases List.mem_cons.1 (hp.mem_iff.1 hi) with rfl | hi
    ·exact fun v hvv => by rw [((hlv v).1 hvv).1]; exact hlr.1
    ·exact (hall i hi).1
theorem fitV_shape {N : Int} {L : List (List Int)} {ns : List Nd} {cl : List Cl} (hzL : checkT N L = 0) (hv : validN N ns = true) {R : List (List Int)} (hz : checkT N R = 0) {is : List Int} (h0 : ∀ i ∈ is, 0 ≤ i) (hi : InV N L ns cl is) (h : fitV N L ns cl R is = true) : is.Pairwise (DisI ns) ∧ ∀ i ∈ is, SubV ns i R := by
 have h2 := fit1_sub (ns := ns) is.length R is
 unfold fitV at h
 cases hf : fit2 N L ns cl (fit1 ns is.length R is).2 0#128 [] with
 | none => rw [hf] at h; cases h
 | some out =>
  rw [hf] at h
  simp only [Bool.and_eq_true, decide_eq_true_eq] at h
  obtain ⟨g1, _, g3, _, g5⟩ := fit2_shape hzL _ _ _ out (fun j hj => hi j (h2 j hj)) (fun c hc => by cases hc) hf
  refine fit1_shape hv _ _ _ h0 hz g1 fun i hi v hvv => ?_
  rw [h.2]
  exact norm_vars h.1 g5 (g3 i hi v hvv)
def litB (ns : List Nd) (i l : Int) : Bool := if kindN ns i = 2 then decide (litN ns i = l) else (decide (kindN ns i = 3) && (inN ns i).any (litI ns l))
theorem sideV_shape {N : Int} {L : List (List Int)} {ns : List Nd} {cl : List Cl} (hzL : checkT N L = 0) (hv : validN N ns = true) {R : List (List Int)} (hz : checkT N R = 0) {i l : Int} (hi0 : 0 ≤ i) (hl : litOk l N = true) (hi : kindN ns i = 3 → InV N L ns cl (inN ns i)) (h : sideV N L ns cl R i l = true) :
  litB ns i l = true ∧ (kindN ns i = 3 → (inN ns i).Pairwise (DisI ns)) ∧ ∀ v, sHas (varI ns i) v = true → v = litVar l ∨ sHas (varsT R) v = true := by
 unfold sideV at h
 unfold litB
 split at h
 ·rename_i hk
  rw [Bool.and_eq_true, decide_eq_true_eq, decide_eq_true_eq] at h
  rw [if_pos hk]
  refine ⟨decide_eq_true h.1, fun e => (by rw [hk] at e; cases e), fun v hvv => .inl ?_⟩
  rw [← h.1]
  exact ((var_litN hv hk hi0 v).1 hvv).1
 ·rename_i hk2
  rw [if_neg hk2]
  split at h
  ·rename_i hk
   cases hf : (inN ns i).findIdx? (litI ns l) with
   | none => rw [hf] at h; cases h
   | some k =>
    rw [hf] at h
    simp only at h
    obtain ⟨hkl, hu⟩ := find_at hf
    have hp := cut_perm hkl
    have hil : i.toNat < ns.length := kind_lt (by rw [hk]; decide)
    have e : ((i.toNat : Nat) : Int) = i := by omega
    have hin0 : ∀ j ∈ inN ns i, 0 ≤ j := fun j hj => (form_in (valid_form hv hil) (k := j) hj).1
    have hki : (inN ns i).getD k 0 ∈ inN ns i := hp.mem_iff.2 (List.mem_cons_self ..)
    have hu2 := hu
    unfold litI at hu
    rw [Bool.and_eq_true, decide_eq_true_eq, decide_eq_true_eq] at hu
    obtain ⟨f1, f2⟩ := fitV_shape hzL hv (gv_check hz l) (fun j hj => hin0 j (hp.mem_iff.2 (List.mem_cons_of_mem _ hj))) (fun j hj => hi hk j (hp.mem_iff.2 (List.mem_cons_of_mem _ hj))) h
    have hlv := var_litN hv hu.1 (hin0 _ hki)
    rw [hu.2] at hlv
    refine ⟨?_, fun _ => ?_, fun v hvv => ?_⟩
    ·rw [Bool.and_eq_true, decide_eq_true_eq]
     exact ⟨hk, List.any_eq_true.2 ⟨_, hki, hu2⟩⟩
    ·refine (hp.pairwise_iff (fun {a b} h => disI_symm h)).2 (List.Pairwise.cons (fun j hj v h3 h4 => ?_) f1)
     exact (gv_vars hz hl (f2 j hj v h4)).2 ((hlv v).1 h3).1
    ·have hvi := var_inner hv hil (by rw [e, hk]; decide) v
     rw [e] at hvi
     rw [hvi, List.any_eq_true] at hvv
     obtain ⟨j, hj, hjv⟩ := hvv
     rcases List.mem_cons.1 (hp.mem_iff.1 hj) with rfl | hj
     ·exact .inl ((hlv v).1 hjv).1
     ·exact .inr (gv_vars hz hl (f2 j hj v hjv)).1
  ·cases h
def decL (ns : List Nd) (i : Int) (v : Int) : Bool := (litB ns ((inN ns i).getD 0 0) v && litB ns ((inN ns i).getD 1 0) (-v)) || (litB ns ((inN ns i).getD 0 0) (-v) && litB ns ((inN ns i).getD 1 0) v)
theorem acpt_shape {N : Int} {L : List (List Int)} {ns : List Nd} {cl : List Cl} (hzL : checkT N L = 0) (hv : validN N ns = true) {R : List (List Int)} (hz : checkT N R = 0) {i : Nat} (hil : i < ns.length) (hi : kindN ns (i : Int) = 3 → InV N L ns cl (inN ns (i : Int))) (hi2 : kindN ns (i : Int) = 4 → ∀ j ∈ inN ns (i : Int), kindN ns j = 3 → InV N L ns cl (inN ns j)) (h : acptV N L ns cl (i : Int) R = true) :
  SubV ns (i : Int) R ∧ (kindN ns (i : Int) = 3 → (inN ns (i : Int)).Pairwise (DisI ns)) ∧ (kindN ns (i : Int) = 4 → ((inN ns (i : Int)).length = 2 ∧ ∃ v, 1 ≤ v ∧ v ≤ N ∧ decL ns (i : Int) v = true) ∧ ∀ j ∈ inN ns (i : Int), kindN ns j = 3 → (inN ns j).Pairwise (DisI ns)) := by
 have hf := valid_form hv hil
 have hk := form_kind hf
 have hk : kindN ns (i : Int) = 0 ∨ kindN ns (i : Int) = 1 ∨ kindN ns (i : Int) = 2 ∨ kindN ns (i : Int) = 3 ∨ kindN ns (i : Int) = 4 := hk
 have hin0 : ∀ j ∈ inN ns (i : Int), 0 ≤ j := fun j hj => (form_in hf (k := j) hj).1
 unfold acptV at h
 rcases hk with e | e | e | e | e
 ·refine ⟨fun v hvv => ?_, fun e2 => (by omega), fun e2 => (by omega)⟩
  have h3 : inN ns (i : Int) = [] := form_in0 hf (.inl e)
  rw [var_inner hv hil (by omega), h3] at hvv
  cases hvv
 ·refine ⟨fun v hvv => ?_, fun e2 => (by omega), fun e2 => (by omega)⟩
  have h3 : inN ns (i : Int) = [] := form_in0 hf (.inr (.inl e))
  rw [var_inner hv hil (by omega), h3] at hvv
  cases hvv
 ·refine ⟨fun v hvv => ?_, fun e2 => (by omega), fun e2 => (by omega)⟩
  rw [if_neg (by rw [e]; decide), if_neg (by rw [e]; decide), if_pos e, Bool.and_eq_true, decide_eq_true_eq, decide_eq_true_eq] at h
  obtain ⟨h1, h2⟩ := (var_litN hv e (by omega) v).1 hvv
  have a := litVar_abs h2
  have b := litVar_range (litN ns (i : Int))
  rw [h1]
  exact (sHas_varsT _ _).2 ⟨⟨a.2.1, b.2⟩, _, h.2, _, List.mem_singleton.2 rfl, rfl⟩
 ·rw [if_neg (by rw [e]; decide), if_neg (by rw [e]; decide), if_neg (by rw [e]; decide), if_pos e] at h
  obtain ⟨f1, f2⟩ := fitV_shape hzL hv hz hin0 (hi e) h
  refine ⟨fun v hvv => ?_, fun _ => f1, fun e2 => (by omega)⟩
  rw [var_inner hv hil (by omega), List.any_eq_true] at hvv
  obtain ⟨j, hj, hjv⟩ := hvv
  exact f2 j hj v hjv
 ·rw [if_neg (by rw [e]; decide), if_neg (by rw [e]; decide), if_neg (by rw [e]; decide), if_neg (by rw [e]; decide)] at h
  split at h
  ·cases h
  rename_i hl
  have hl : (inN ns (i : Int)).length = 2 := by omega
  have hi2 := hi2 e
  obtain ⟨a, b, hab⟩ : ∃ a b, inN ns (i : Int) = [a, b] := by
   match inN ns (i : Int), hl with
   | [a, b], _ => exact ⟨a, b, rfl⟩
  have hvi := fun v => var_inner hv hil (show kindN ns (i : Int) ≠ 2 by omega) v
  unfold decL
  rw [hab] at h hi2 hl hvi hin0 ⊢
  have ha := hi2 a (by simp)
  have hb := hi2 b (by simp)
  obtain ⟨v, hvm, h⟩ := List.any_eq_true.1 h
  obtain ⟨l, hlm, h⟩ := List.any_eq_true.1 h
  rw [Bool.and_eq_true] at h
  obtain ⟨h1, h2⟩ := h
  have hvl := vars_lit hz hvm
  have hvR : sHas (varsT R) v = true := (listS_mem _ _).1 hvm
  have hll : l = v ∨ l = -v := by
   rcases List.mem_cons.1 hlm with rfl | hlm
   ·exact .inl rfl
   ·exact .inr (List.mem_singleton.1 hlm)
  have hlo : litOk l N = true := by rcases hll with rfl | rfl <;> first | exact hvl.2.1 | exact hvl.2.2
  have hlo2 : litOk (-l) N = true := by rcases hll with rfl | rfl <;> first | exact hvl.2.2 | (rw [Int.neg_neg]; exact hvl.2.1)
  have hv1 : litVar v = v := litVar_pos hvl.1.1 hvl.1.2
  have hv2 : litVar (-v) = v := by rw [litVar_neg (by omega) (by omega), Int.neg_neg]
  have hlv : litVar l = v ∧ litVar (-l) = v := by rcases hll with rfl | rfl <;> simp [hv1, hv2]
  have h1 : sideV N L ns cl R a l = true := h1
  have h2 : sideV N L ns cl R b (-l) = true := h2
  obtain ⟨s1, s2, s3⟩ := sideV_shape hzL hv hz (hin0 a (by simp)) hlo ha h1
  obtain ⟨t1, t2, t3⟩ := sideV_shape hzL hv hz (hin0 b (by simp)) hlo2 hb h2
  refine ⟨fun u huv => ?_, fun e2 => (by omega), fun _ => ⟨⟨rfl, v, hvl.1.1, ?_, ?_⟩, fun j hj hk3 => ?_⟩⟩
  ·rw [hvi, List.any_cons, List.any_cons, List.any_nil, Bool.or_false, Bool.or_eq_true] at huv
   rcases huv with huv | huv
   ·rcases s3 u huv with h | h
    ·rw [h, hlv.1]; exact hvR
    ·exact h
   ·rcases t3 u huv with h | h
    ·rw [h, hlv.2]; exact hvR
    ·exact h
  ·have := hvl.2.1
   unfold litOk at this
   rw [Bool.and_eq_true, decide_eq_true_eq, decide_eq_true_eq, hv1] at this
   exact this.2
  ·simp only [List.getD_cons_zero, List.getD_cons_succ]
   rcases hll with rfl | rfl
   ·rw [s1, t1]; rfl
   ·rw [Int.neg_neg] at t1
    rw [s1, t1, Bool.and_self, Bool.or_true]
  ·rcases List.mem_cons.1 hj with rfl | hj
   ·exact s2 hk3
   ·rw [List.mem_singleton] at hj
    subst hj
    exact t2 hk3
theorem sub_needed {N : Int} {L : List (List Int)} {M : Int} {ns : List Nd} {cl : List Cl} (h : AccV N L M ns cl) : ∀ i, i < ns.length → nedB ns i = true → ∀ r, rsV L N (clN cl (i : Int)) = some r → SubV ns (i : Int) r ∧ (kindN ns (i : Int) = 3 → (inN ns (i : Int)).Pairwise (DisI ns)) ∧ (kindN ns (i : Int) = 4 → ((inN ns (i : Int)).length = 2 ∧ ∃ v, 1 ≤ v ∧ v ≤ N ∧ decL ns (i : Int) v = true) ∧ ∀ j ∈ inN ns (i : Int), kindN ns j = 3 → (inN ns j).Pairwise (DisI ns)) := by
 intro i
 induction i using Nat.strongRecOn with
 | _ i ih =>
  intro hi hn r hr
  obtain ⟨r2, h1, h2, _⟩ := bad_not (h.hb i hi) hn
  rw [hr] at h1
  cases h1
  have hin : ∀ p : Nat, p ≤ i → kindN ns (p : Int) = 3 → InV N L ns cl (inN ns (p : Int)) := fun p hp hk j hj hj2 x hx => by
   obtain ⟨k0, k1⟩ := form_in (valid_form h.hv (show p < ns.length by omega)) (k := j) hj
   have hnd := ned_of_and (by omega) hk k0 hj hj2
   have e : ((j.toNat : Nat) : Int) = j := by omega
   have := (ih j.toNat (by omega) (by omega) hnd x (by rw [e]; exact hx)).1
   rw [e] at this
   exact this
  refine acpt_shape h.hz h.hv (rs_check h.hz hr).1 hi (hin i (Nat.le_refl _)) (fun hk j hj hk3 => ?_) h2
  obtain ⟨k0, k1⟩ := form_in (valid_form h.hv hi) (k := j) hj
  have e : ((j.toNat : Nat) : Int) = j := by omega
  have := hin j.toNat (by omega) (by rw [e]; exact hk3)
  rw [e] at this
  exact this
theorem or_needed {N : Int} {L : List (List Int)} {M : Int} {ns : List Nd} {cl : List Cl} (h : AccV N L M ns cl) {i : Nat} (hi : i < ns.length) (hk : kindN ns (i : Int) = 4) : nedB ns i = true := by
 cases hn : nedB ns i
 ·have hb := h.hb i hi
  unfold badV at hb
  rw [if_neg (by rw [hn]; decide)] at hb
  have hk2 : kindQ ns i = 4 := hk
  unfold knwB at hb
  rw [hk2] at hb
  simp at hb
 ·rfl
theorem ver_dec {N : Int} {L : List (List Int)} {M : Int} {ns : List Nd} {cl : List Cl} (h : AccV N L M ns cl) {i : Nat} (hi : i < ns.length) (hk : kindN ns (i : Int) = 4) : (inN ns (i : Int)).length = 2 ∧ ∃ v, 1 ≤ v ∧ v ≤ N ∧ decL ns (i : Int) v = true := by
 have hn := or_needed h hi hk
 obtain ⟨r, h1, _, _⟩ := bad_not (h.hb i hi) hn
 exact ((sub_needed h i hi hn r h1).2.2 hk).1
theorem ver_apart {N : Int} {L : List (List Int)} {M : Int} {ns : List Nd} {cl : List Cl} (h : AccV N L M ns cl) {i : Nat} (hi : i < ns.length) (hk : kindN ns (i : Int) = 3) : (inN ns (i : Int)).Pairwise (DisI ns) := by
 cases hn : nedB ns i
 ·have hb := h.hb i hi
  unfold badV at hb
  rw [if_neg (by rw [hn]; decide)] at hb
  have hk2 : kindQ ns i = 3 := hk
  unfold knwB at hb
  rw [hk2] at hb
  simp only [show ((3 : Int) = 2) = False by simp, decide_false, Bool.false_or, decide_true, Bool.and_true, Bool.not_eq_false'] at hb
  unfold inpB at hb
  obtain ⟨x, hx, hb⟩ := List.any_eq_true.1 hb
  rw [Bool.and_eq_true, decide_eq_true_eq, decide_eq_true_eq] at hb
  obtain ⟨p, hp, rfl⟩ := List.getElem_of_mem hx
  have hpe : ns.getD p nd0 = ns[p] := by simp [List.getD, hp]
  have hpk : kindN ns (p : Int) = 4 := by unfold kindN; rw [show ((p : Nat) : Int).toNat = p by omega, hpe]; exact hb.1
  have hpn := or_needed h hp hpk
  obtain ⟨r, h1, _, _⟩ := bad_not (h.hb p hp) hpn
  exact ((sub_needed h p hp hpn r h1).2.2 hpk).2 (i : Int) (by unfold inN; rw [show ((p : Nat) : Int).toNat = p by omega, hpe]; exact hb.2) hk
 ·obtain ⟨r, h1, _, _⟩ := bad_not (h.hb i hi) hn
  exact (sub_needed h i hi hn r h1).2.1 hk
end Go.Proofs.YtllkogdgmmcfgaaGreatDoor
