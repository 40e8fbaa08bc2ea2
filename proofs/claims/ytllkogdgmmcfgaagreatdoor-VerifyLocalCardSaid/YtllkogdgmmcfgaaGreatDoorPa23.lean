/- A net that is accepted has the models of the theory; plain; no condition. -/
import Derived.Test.YtllkogdgmmcfgaaGreatDoorVvG
namespace Go.Proofs.YtllkogdgmmcfgaaGreatDoor
set_option linter.unusedVariables false
set_option linter.unusedSimpArgs false
set_option linter.unusedSectionVars false
open Go.RowKit
set_option maxRecDepth 100000
def clT (L : List (List Int)) (s : BitVec 128) : Bool := L.all fun c => c.any (litHolds s)
theorem evalT_cl {N : Int} {L : List (List Int)} (hz : checkT N L = 0) (s : BitVec 128) : evalT N L s = (sUpto s N && clT L s) := by unfold evalT clT; rw [decide_eq_true hz, Bool.true_and]
theorem norm_cl {N : Int} {L : List (List Int)} (hz : checkT N L = 0) {s : BitVec 128} (hs : sUpto s N = true) : clT (normL L) s = clT L s := by
 have := normL_eval hz s
 rw [evalT_cl (normL_check hz), evalT_cl hz, hs, Bool.true_and, Bool.true_and] at this
 exact this
theorem given_cl {N : Int} {R : List (List Int)} (hz : checkT N R = 0) {s : BitVec 128} (hs : sUpto s N = true) {l : Int} (h : litHolds s l = true) : clT (gvV R l) s = clT R s := by
 have := givenT_eval (ts := [l]) (s := s) hz (fun x hx => by rw [List.mem_singleton.1 hx]; exact h)
 rw [evalT_cl (givenT_check hz [l]), evalT_cl hz, hs, Bool.true_and, Bool.true_and] at this
 unfold gvV
 rw [norm_cl (givenT_check hz [l]) hs, this]
theorem gv_cl {N : Int} {R : List (List Int)} (hz : checkT N R = 0) {s : BitVec 128} (hs : sUpto s N = true) {l : Int} (hm : [l] ∈ R) : clT R s = (litHolds s l && clT (gvV R l) s) := by
 cases h : litHolds s l
 ·rw [Bool.false_and]
  unfold clT
  rw [List.all_eq_false]
  exact ⟨[l], hm, by simp [h]⟩
 ·rw [given_cl hz hs h]; rfl
theorem litV_holds (s : BitVec 128) (l : Int) : litV s l = litHolds s l := by
 unfold litV litHolds
 have := litVar_range l
 split
 ·rename_i h; rw [h]; rfl
 ·rw [decide_eq_true (by omega : 0 < litVar l), Bool.true_and]
theorem val_node {N : Int} {ns : List Nd} (h : validN N ns = true) (s : BitVec 128) {i : Nat} (hi : i < ns.length) : (valsL s ns).getD i false = nodeV s (ns.getD i nd0) (valsL s ns) := by
 have e := scanN_get (nodeV s) ns false hi
 unfold valsL
 rw [e]
 have hf := valid_form h hi
 have hin : ∀ k ∈ (ns.getD i nd0).2.2, (scanN (nodeV s) (ns.take i)).getD k.toNat false = (scanN (nodeV s) ns).getD k.toNat false := fun k hk => by
  obtain ⟨k0, k1⟩ := form_in hf hk
  have e1 := scanN_pre (nodeV s) ns false ns.length i (by omega) (Nat.le_refl _) k.toNat (by omega)
  rw [List.take_length] at e1
  exact e1.symm
 generalize scanN (nodeV s) (ns.take i) = A at hin ⊢
 generalize scanN (nodeV s) ns = B at hin ⊢
 unfold nodeV
 rw [all_congr hin, any_congr hin]
def valI (ns : List Nd) (s : BitVec 128) (i : Int) : Bool := (valsL s ns).getD i.toNat false
theorem kind_lt {ns : List Nd} {i : Int} (h : kindN ns i ≠ 0) : i.toNat < ns.length := by
 rcases Nat.lt_or_ge i.toNat ns.length with h2 | h2
 ·exact h2
 ·exfalso
  apply h
  unfold kindN
  rw [List.getD_eq_getElem?_getD, List.getElem?_eq_none h2]; rfl
theorem val_lit {N : Int} {ns : List Nd} (h : validN N ns = true) (s : BitVec 128) {i : Int} (hk : kindN ns i = 2) : valI ns s i = litHolds s (litN ns i) := by
 unfold valI
 rw [val_node h s (kind_lt (by rw [hk]; decide))]
 unfold nodeV
 have hk2 : (ns.getD i.toNat nd0).1 = 2 := hk
 rw [if_neg (by rw [hk2]; decide), if_pos hk2, litV_holds]; rfl
theorem val_and {N : Int} {ns : List Nd} (h : validN N ns = true) (s : BitVec 128) {i : Int} (hk : kindN ns i = 3) : valI ns s i = (inN ns i).all (valI ns s) := by
 unfold valI
 rw [val_node h s (kind_lt (by rw [hk]; decide))]
 unfold nodeV
 have hk2 : (ns.getD i.toNat nd0).1 = 3 := hk
 rw [if_neg (by rw [hk2]; decide), if_neg (by rw [hk2]; decide), if_pos hk2]; rfl
theorem val_or {N : Int} {ns : List Nd} (h : validN N ns = true) (s : BitVec 128) {i : Int} (hk : kindN ns i = 4) : valI ns s i = (inN ns i).any (valI ns s) := by
 unfold valI
 rw [val_node h s (kind_lt (by rw [hk]; decide))]
 unfold nodeV
 have hk2 : (ns.getD i.toNat nd0).1 = 4 := hk
 rw [if_neg (by rw [hk2]; decide), if_neg (by rw [hk2]; decide), if_neg (by rw [hk2]; decide), if_pos hk2]; rfl
theorem cut_perm {is : List Int} {k : Nat} (hk : k < is.length) : is.Perm (is.getD k 0 :: cutI is k) := by
 have e : is.take k ++ (is.getD k 0 :: is.drop (k + 1)) = is := by
  have := List.take_append_drop k is
  rw [List.drop_eq_getElem_cons hk] at this
  simp [List.getD, hk]
 have h := List.perm_middle (a := is.getD k 0) (l₁ := is.take k) (l₂ := is.drop (k + 1))
 rw [e] at h
 exact h
theorem all_permI {l m : List Int} (h : l.Perm m) (p : Int → Bool) : l.all p = m.all p := by
 rw [Bool.eq_iff_iff, List.all_eq_true, List.all_eq_true]
 exact ⟨fun k x hx => k x (h.mem_iff.2 hx), fun k x hx => k x (h.mem_iff.1 hx)⟩
theorem find_at {is : List Int} {p : Int → Bool} {k : Nat} (h : is.findIdx? p = some k) : k < is.length ∧ p (is.getD k 0) = true := by
 obtain ⟨hk, h1, _⟩ := List.findIdx?_eq_some_iff_getElem.1 h
 exact ⟨hk, by simpa [List.getD, hk] using h1⟩
theorem fit1_sound {N : Int} {ns : List Nd} (hv : validN N ns = true) : ∀ (f : Nat) (R : List (List Int)) (is : List Int), checkT N R = 0 → checkT N (fit1 ns f R is).1 = 0 ∧ (∀ i ∈ (fit1 ns f R is).2, i ∈ is) ∧ ∀ s, sUpto s N = true → clT (fit1 ns f R is).1 s = (fit1 ns f R is).2.all (valI ns s) → clT R s = is.all (valI ns s)
 | 0, R, is, hz => ⟨hz, fun i hi => hi, fun s _ h => h⟩
 | f + 1, R, is, hz => by
  unfold fit1
  cases hf : is.findIdx? (useB ns R) with
  | none => exact ⟨hz, fun i hi => hi, fun s _ h => h⟩
  | some k =>
   simp only
   obtain ⟨hk, hu⟩ := find_at hf
   unfold useB at hu
   rw [Bool.and_eq_true, decide_eq_true_eq, decide_eq_true_eq] at hu
   obtain ⟨h1, h2, h3⟩ := fit1_sound hv f (gvV R (litN ns (is.getD k 0))) (cutI is k) (gv_check hz _)
   refine ⟨h1, fun i hi => (cut_perm hk).mem_iff.2 (List.mem_cons_of_mem _ (h2 i hi)), fun s hs h => ?_⟩
   rw [all_permI (cut_perm hk), List.all_cons, val_lit hv s hu.1, gv_cl hz hs hu.2, h3 s hs h]
theorem clT_append (L M : List (List Int)) (s : BitVec 128) : clT (L ++ M) s = (clT L s && clT M s) := by unfold clT; rw [List.all_append]
theorem clT_empty {L : List (List Int)} (h : [] ∈ L) (s : BitVec 128) : clT L s = false := by
 unfold clT
 rw [List.all_eq_false]
 exact ⟨[], h, by simp⟩
def InB (N : Int) (L : List (List Int)) (ns : List Nd) (cl : List Cl) (s : BitVec 128) (is : List Int) : Prop := ∀ i ∈ is, kindN ns i ≠ 2 → ∀ x, rsV L N (clN cl i) = some x → valI ns s i = clT x s
theorem fit2_sound {N : Int} {L : List (List Int)} {ns : List Nd} {cl : List Cl} {s : BitVec 128} : ∀ (is : List Int) (seen : BitVec 128) (all out : List (List Int)), InB N L ns cl s is → fit2 N L ns cl is seen all = some out → clT out s = (clT all s && is.all (valI ns s))
 | [], _, all, out, _, h => by
  simp only [fit2, Option.some.injEq] at h
  subst h
  simp
 | i :: r, seen, all, out, hi, h => by
  unfold fit2 at h
  cases hx : rsV L N (clN cl i) with
  | none => rw [hx] at h; cases h
  | some x =>
   rw [hx] at h
   simp only at h
   split at h
   ·cases h
   rename_i hk
   split at h
   ·cases h
   have ih := fit2_sound r _ _ out (fun j hj => hi j (List.mem_cons_of_mem _ hj)) h
   have hv := hi i (List.mem_cons_self ..) hk x hx
   rw [ih, List.all_cons, hv, clT_append]
   split
   ·rename_i hb
    rw [clT_empty hb.1 s, clT_empty hb.2 s]; simp
   ·rw [Bool.and_assoc]
theorem fitV_sound {N : Int} {L : List (List Int)} {ns : List Nd} {cl : List Cl} (hv : validN N ns = true) {s : BitVec 128} (hs : sUpto s N = true) {R : List (List Int)} (hz : checkT N R = 0) {is : List Int} (hi : InB N L ns cl s is) (h : fitV N L ns cl R is = true) : clT R s = is.all (valI ns s) := by
 obtain ⟨h1, h2, h3⟩ := fit1_sound hv is.length R is hz
 refine h3 s hs ?_
 unfold fitV at h
 cases hf : fit2 N L ns cl (fit1 ns is.length R is).2 0#128 [] with
 | none => rw [hf] at h; cases h
 | some out =>
  rw [hf] at h
  simp only [Bool.and_eq_true, decide_eq_true_eq] at h
  rw [h.2, norm_cl h.1 hs, fit2_sound _ _ _ out (fun j hj => hi j (h2 j hj)) hf]
  rfl
theorem sideV_sound {N : Int} {L : List (List Int)} {ns : List Nd} {cl : List Cl} (hv : validN N ns = true) {s : BitVec 128} (hs : sUpto s N = true) {R : List (List Int)} (hz : checkT N R = 0) {i l : Int} (hi : kindN ns i = 3 → InB N L ns cl s (inN ns i)) (h : sideV N L ns cl R i l = true) : valI ns s i = (litHolds s l && clT (gvV R l) s) := by
 unfold sideV at h
 split at h
 ·rename_i hk
  rw [Bool.and_eq_true, decide_eq_true_eq, decide_eq_true_eq] at h
  rw [val_lit hv s hk, h.1, h.2]; simp [clT]
 ·split at h
  ·rename_i hk
   cases hf : (inN ns i).findIdx? (litI ns l) with
   | none => rw [hf] at h; cases h
   | some k =>
    rw [hf] at h
    simp only at h
    obtain ⟨hk2, hu⟩ := find_at hf
    unfold litI at hu
    rw [Bool.and_eq_true, decide_eq_true_eq, decide_eq_true_eq] at hu
    have := fitV_sound hv hs (gv_check hz l) (fun j hj => hi hk j ((cut_perm hk2).mem_iff.2 (List.mem_cons_of_mem _ hj))) h
    rw [val_and hv s hk, all_permI (cut_perm hk2), List.all_cons, val_lit hv s hu.1, hu.2, this]
  ·cases h
theorem neg_holds {N : Int} (h1 : N ≤ 128) {l : Int} (h : litOk l N = true) (s : BitVec 128) : litHolds s (-l) = !litHolds s l := by
 have h2 := litVar_abs h
 have h3 := litOk_range h
 have h4 : litVar (-l) = litVar l := by
  rcases h2.1 with e | e
  ·have := h2.2.2.2.1 e
   rw [e, litVar_neg (by omega) (by omega), Int.neg_neg]
  ·have := h2.2.2.2.2 e
   rw [e, litVar_pos (by omega) (by omega)]
 unfold litHolds
 rw [h4, decide_eq_true (by omega : 0 < litVar l), Bool.true_and, Bool.true_and]
 rcases (by omega : 0 < l ∨ l < 0) with e | e
 ·rw [decide_eq_true (by omega : 0 < l), decide_eq_false (by omega : ¬ 0 < -l)]
  cases sHas s (litVar l) <;> rfl
 ·rw [decide_eq_false (by omega : ¬ 0 < l), decide_eq_true (by omega : 0 < -l)]
  cases sHas s (litVar l) <;> rfl
theorem vars_litN {N : Int} {R : List (List Int)} (hz : checkT N R = 0) {v : Int} (hv : v ∈ listS (varsT R)) : litOk v N = true ∧ litOk (-v) N = true := (vars_lit hz hv).2
theorem form_kind {x : Nd} {n i : Int} (h : formB x n i = true) : x.1 = 0 ∨ x.1 = 1 ∨ x.1 = 2 ∨ x.1 = 3 ∨ x.1 = 4 := by
 unfold formB at h
 rw [Bool.and_eq_true] at h
 have h2 := h.2
 split at h2
 ·rename_i h3; omega
 ·split at h2
  ·rename_i h3; omega
  ·split at h2
   ·rename_i h3; omega
   ·cases h2
theorem form_in0 {x : Nd} {n i : Int} (h : formB x n i = true) (hk : x.1 = 0 ∨ x.1 = 1 ∨ x.1 = 2) : x.2.2 = [] := by
 unfold formB at h
 rw [Bool.and_eq_true] at h
 have h2 := h.2
 split at h2
 ·rw [Bool.and_eq_true, decide_eq_true_eq, decide_eq_true_eq] at h2; exact List.eq_nil_of_length_eq_zero h2.2
 ·rw [if_pos (by omega), Bool.and_eq_true, decide_eq_true_eq] at h2; exact List.eq_nil_of_length_eq_zero h2.2
theorem acpt_sound {N : Int} {L : List (List Int)} {ns : List Nd} {cl : List Cl} (hv : validN N ns = true) {s : BitVec 128} (hs : sUpto s N = true) {R : List (List Int)} (hz : checkT N R = 0) {i : Int} (hil : i.toNat < ns.length) (hi : kindN ns i = 3 → InB N L ns cl s (inN ns i)) (hi2 : kindN ns i = 4 → ∀ j ∈ inN ns i, kindN ns j = 3 → InB N L ns cl s (inN ns j)) (h : acptV N L ns cl i R = true) : valI ns s i = clT R s := by
 have hk := form_kind (valid_form hv hil)
 have hN := checkT_ok hz
 have hk : kindN ns i = 0 ∨ kindN ns i = 1 ∨ kindN ns i = 2 ∨ kindN ns i = 3 ∨ kindN ns i = 4 := hk
 unfold acptV at h
 rcases hk with e | e | e | e | e
 ·rw [if_neg (by rw [e]; decide), if_pos e, decide_eq_true_eq] at h
  rw [clT_empty h]
  unfold valI
  rw [val_node hv s hil]
  have e2 : (ns.getD i.toNat nd0).1 = 0 := e
  unfold nodeV
  rw [if_neg (by rw [e2]; decide), if_neg (by rw [e2]; decide), if_neg (by rw [e2]; decide), if_neg (by rw [e2]; decide)]
 ·rw [if_pos e, decide_eq_true_eq] at h
  subst h
  unfold valI
  rw [val_node hv s hil]
  have e2 : (ns.getD i.toNat nd0).1 = 1 := e
  unfold nodeV
  rw [if_pos e2]; rfl
 ·rw [if_neg (by rw [e]; decide), if_neg (by rw [e]; decide), if_pos e, Bool.and_eq_true, decide_eq_true_eq, decide_eq_true_eq] at h
  rw [val_lit hv s e]
  obtain ⟨h1, h2⟩ := h
  match R, h1 with
  | [c], _ =>
   rw [← List.mem_singleton.1 h2]
   simp [clT]
 ·rw [if_neg (by rw [e]; decide), if_neg (by rw [e]; decide), if_neg (by rw [e]; decide), if_pos e] at h
  rw [val_and hv s e, fitV_sound hv hs hz (hi e) h]
 ·rw [if_neg (by rw [e]; decide), if_neg (by rw [e]; decide), if_neg (by rw [e]; decide), if_neg (by rw [e]; decide)] at h
  split at h
  ·cases h
  rename_i hl
  have hl : (inN ns i).length = 2 := by omega
  have hi2 := hi2 e
  rw [val_or hv s e]
  obtain ⟨a, b, hab⟩ : ∃ a b, inN ns i = [a, b] := by
   match inN ns i, hl with
   | [a, b], _ => exact ⟨a, b, rfl⟩
  rw [hab] at h hi2 ⊢
  have ha := hi2 a (by simp)
  have hb := hi2 b (by simp)
  obtain ⟨v, hvm, h⟩ := List.any_eq_true.1 h
  obtain ⟨l, hlm, h⟩ := List.any_eq_true.1 h
  rw [Bool.and_eq_true] at h
  obtain ⟨h1, h2⟩ := h
  have hvl := vars_litN hz hvm
  have hlo : litOk l N = true := by
   rcases List.mem_cons.1 hlm with rfl | hlm
   ·exact hvl.1
   ·rw [List.mem_singleton.1 hlm]; exact hvl.2
  have e1 := sideV_sound hv hs hz ha h1
  have e2 := sideV_sound hv hs hz hb h2
  have e3 := neg_holds hN.2.1 hlo s
  simp only [List.any_cons, List.any_nil, Bool.or_false]
  have e1 : valI ns s a = (litHolds s l && clT (gvV R l) s) := e1
  have e2 : valI ns s b = (litHolds s (-l) && clT (gvV R (-l)) s) := e2
  rw [e1, e2, e3]
  cases hh : litHolds s l
  ·rw [given_cl hz hs (l := -l) (by rw [e3, hh]; rfl)]; simp
  ·rw [given_cl hz hs hh]; simp
theorem ned_of_and {ns : List Nd} {p : Nat} (hp : p < ns.length) (hk : kindN ns (p : Int) = 3) {j : Int} (hj0 : 0 ≤ j) (hj : j ∈ inN ns (p : Int)) (hj2 : kindN ns j ≠ 2) : nedB ns j.toNat = true := by
 unfold nedB
 rw [Bool.or_eq_true]
 right
 rw [Bool.and_eq_true]
 constructor
 ·unfold inpB
  rw [List.any_eq_true]
  refine ⟨ns.getD p nd0, by simp [List.getD, hp], ?_⟩
  rw [Bool.and_eq_true, decide_eq_true_eq, decide_eq_true_eq]
  refine ⟨hk, ?_⟩
  have : ((j.toNat : Nat) : Int) = j := by omega
  rw [this]; exact hj
 ·have : kindQ ns j.toNat ≠ 2 := hj2
  rw [decide_eq_false this]; rfl
theorem bad_not {N : Int} {L : List (List Int)} {ns : List Nd} {cl : List Cl} {i : Nat} (h : badV N L ns cl i = false) (hn : nedB ns i = true) : ∃ r, rsV L N (clN cl (i : Int)) = some r ∧ acptV N L ns cl (i : Int) r = true ∧ (i = ns.length - 1 → r = normL L) := by
 unfold badV at h
 rw [if_pos hn] at h
 cases hr : rsV L N (clN cl (i : Int)) with
 | none => rw [hr] at h; cases h
 | some r =>
  rw [hr] at h
  simp only [Bool.or_eq_false_iff, Bool.not_eq_false', Bool.and_eq_false_iff, decide_eq_false_iff_not, Bool.not_eq_eq_eq_not, Bool.not_false, decide_eq_true_eq] at h
  exact ⟨r, rfl, h.1, fun e => h.2.resolve_left fun h2 => h2 e⟩
structure AccV (N : Int) (L : List (List Int)) (M : Int) (ns : List Nd) (cl : List Cl) : Prop where
 hz : checkT N L = 0
 hv : validN N ns = true
 hNM : N = M
 hlen : cl.length = ns.length
 hb : ∀ i, i < ns.length → badV N L ns cl i = false
theorem accV_of {N : Int} {L : List (List Int)} {M : Int} {ns : List Nd} {cl : List Cl} (h : (verV N L M ns cl).2 = 0) : AccV N L M ns cl := by
 unfold verV at h
 split at h
 ·rename_i hh
  obtain ⟨h1, h2, h3, h4⟩ := hh
  subst h3
  refine ⟨h1, h2, rfl, h4, fun i hi => ?_⟩
  cases hf : (List.range ns.length).find? (badV N L ns cl) with
  | some j => rw [hf] at h; cases h
  | none =>
   have := List.find?_eq_none.1 hf i (List.mem_range.2 hi)
   simpa using this
 ·cases h
theorem rs_check {N : Int} {L : List (List Int)} {c : Cl} {r : List (List Int)} (hz : checkT N L = 0) (h : rsV L N c = some r) : checkT N r = 0 ∧ r = rsdL L c.1 c.2 := by
 unfold rsV at h
 split at h
 ·rename_i hg
  cases h
  exact ⟨res_check hz hg, rfl⟩
 ·cases h
theorem val_needed {N : Int} {L : List (List Int)} {M : Int} {ns : List Nd} {cl : List Cl} (h : AccV N L M ns cl) {s : BitVec 128} (hs : sUpto s N = true) : ∀ i, i < ns.length → nedB ns i = true → ∀ r, rsV L N (clN cl (i : Int)) = some r → valI ns s (i : Int) = clT r s := by
 intro i
 induction i using Nat.strongRecOn with
 | _ i ih =>
  intro hi hn r hr
  obtain ⟨r2, h1, h2, _⟩ := bad_not (h.hb i hi) hn
  rw [hr] at h1
  cases h1
  have hin : ∀ p : Nat, p ≤ i → kindN ns (p : Int) = 3 → InB N L ns cl s (inN ns (p : Int)) := fun p hp hk j hj hj2 x hx => by
   obtain ⟨k0, k1⟩ := form_in (valid_form h.hv (show p < ns.length by omega)) (k := j) hj
   have hnd := ned_of_and (by omega) hk k0 hj hj2
   have e : ((j.toNat : Nat) : Int) = j := by omega
   have := ih j.toNat (by omega) (by omega) hnd x (by rw [e]; exact hx)
   rw [e] at this
   exact this
  refine acpt_sound h.hv hs (rs_check h.hz hr).1 (by omega) (hin i (Nat.le_refl _)) (fun hk j hj hk3 => ?_) h2
  obtain ⟨k0, k1⟩ := form_in (valid_form h.hv hi) (k := j) hj
  have e : ((j.toNat : Nat) : Int) = j := by omega
  have := hin j.toNat (by omega) (by rw [e]; exact hk3)
  rw [e] at this
  exact this
theorem root_ned {ns : List Nd} : nedB ns (ns.length - 1) = true := by unfold nedB; simp
theorem ver_sound {N : Int} {L : List (List Int)} {M : Int} {ns : List Nd} {cl : List Cl} (h : AccV N L M ns cl) {s : BitVec 128} (hs : sUpto s N = true) : evalR ns s = clT L s := by
 have hl := valid_len h.hv
 obtain ⟨r, h1, h2, h3⟩ := bad_not (h.hb (ns.length - 1) (by omega)) root_ned
 have := val_needed h hs (ns.length - 1) (by omega) root_ned r h1
 rw [h3 rfl, norm_cl h.hz hs] at this
 exact this
end Go.Proofs.YtllkogdgmmcfgaaGreatDoor
