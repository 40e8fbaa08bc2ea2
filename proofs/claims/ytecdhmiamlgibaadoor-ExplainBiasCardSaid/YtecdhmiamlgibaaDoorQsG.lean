/- The reference's lists of variables as sets: none, set; no condition. -/
import Derived.Test.YtecdhmiamlgibaaDoorPsG
import Derived.Test.YtecdhmiamlgibaaDoorWl
import Derived.Test.YtecdhmiamlgibaaDoorAm22
/- Qs39: The reference's lists of variables as sets: none, set; no condition. -/
namespace Go.Proofs.YtecdhmiamlgibaaDoor
set_option linter.unusedVariables false
set_option linter.unusedSimpArgs false
set_option linter.unusedSectionVars false
open Go.RowKit
open Wlk
attribute [-simp] List.getD_eq_getElem?_getD
set_option maxRecDepth 100000
attribute [local simp] aBools
def setT (l : List Bool) : Nat → BitVec 128
 | 0 => 0#128
 | k + 1 => if l.getD (k + 1) false = true then sWith (setT l k) ((k : Int) + 1) else setT l k
theorem setT_has (l : List Bool) (u : Int) : ∀ k : Nat, k ≤ 128 → sHas (setT l k) u = (decide (1 ≤ u) && decide (u ≤ k) && l.getD u.toNat false)
 | 0, _ => by
  rw [setT, sHas_zero]
  by_cases h : 1 ≤ u
  ·rw [decide_eq_false (by omega : ¬ u ≤ ((0 : Nat) : Int))]; simp
  ·rw [decide_eq_false h]; rfl
 | k + 1, hk => by
  have ih := setT_has l u k (by omega)
  rw [setT]
  by_cases e : u = (k : Int) + 1
  ·subst e
   rw [show ((k : Int) + 1).toNat = k + 1 by omega, decide_eq_true (by omega), decide_eq_true (by omega)]
   split
   ·rename_i h; rw [sHas_with, h, decide_eq_true ⟨rfl, by omega, by omega⟩]; simp
   ·rename_i h
    rw [ih, decide_eq_false (by omega : ¬ (k : Int) + 1 ≤ k)]
    simp at h ⊢
    exact h
  ·have hu : decide (u ≤ ((k + 1 : Nat) : Int)) = decide (u ≤ (k : Int)) := by rw [Bool.eq_iff_iff, decide_eq_true_eq, decide_eq_true_eq]; omega
   rw [hu]
   split
   ·rw [sHas_with, decide_eq_false (fun h => e h.1), Bool.or_false, ih]
   ·exact ih
def selL (f : Int → Bool) (k : Nat) : List Bool := (List.range 129).map fun v : Nat => decide (1 ≤ v) && decide (v ≤ k) && f (v : Int)
theorem selL_len (f : Int → Bool) (k : Nat) : (selL f k).length = 129 := by unfold selL; simp
theorem selL_get (f : Int → Bool) (k : Nat) {v : Nat} (hv : v < 129) : (selL f k).getD v false = (decide (1 ≤ v) && decide (v ≤ k) && f v) := by
 unfold selL
 simp [List.getD, hv]
theorem rep_get (n i : Nat) : (List.replicate n false).getD i false = false := by
 simp only [List.getD, List.getElem?_replicate]
 split <;> rfl
theorem selL_zero (f : Int → Bool) : selL f 0 = List.replicate 129 false := by
 have h1 := selL_len f 0
 have h2 := fun i hi => selL_get f 0 (v := i) hi
 obtain ⟨n, hn⟩ : ∃ n, 129 = n := ⟨_, rfl⟩
 rw [hn] at h1 h2 ⊢
 refine ext_getD false (by rw [h1]; simp) fun i hi => ?_
 rw [List.length_replicate] at hi
 rw [h2 i hi, rep_get]
 by_cases h : 1 ≤ i
 ·rw [decide_eq_false (by omega : ¬ i ≤ 0), Bool.and_false, Bool.false_and]
 ·rw [decide_eq_false h, Bool.false_and, Bool.false_and]
theorem selL_set {f : Int → Bool} {k : Nat} (hk : k < 128) {b : Bool} (hb : b = f ((k : Int) + 1)) : (selL f k).set (k + 1) b = selL f (k + 1) := by
 have hl := selL_len f k
 refine ext_getD false (by rw [List.length_set, hl, selL_len]) fun i hi => ?_
 rw [selL_len] at hi
 rw [selL_get f (k + 1) hi]
 by_cases e : k + 1 = i
 ·subst e
  rw [getD_set_eq (by omega), hb]
  simp
 ·rw [getD_set_ne e, selL_get f k hi]
  have : decide (i ≤ k + 1) = decide (i ≤ k) := by rw [Bool.eq_iff_iff, decide_eq_true_eq, decide_eq_true_eq]; omega
  rw [this]
theorem selL_cut {f g : Int → Bool} {k m : Nat} (h : ∀ v : Nat, 1 ≤ v → v < 129 → (decide (v ≤ k) && f v) = (decide (v ≤ m) && g v)) : selL f k = selL g m := by
 refine ext_getD false (by rw [selL_len, selL_len]) fun i hi => ?_
 rw [selL_len] at hi
 rw [selL_get _ _ hi, selL_get _ _ hi, Bool.and_assoc, Bool.and_assoc]
 by_cases h1 : 1 ≤ i
 ·rw [h i h1 hi]
 ·rw [decide_eq_false h1]; rfl
theorem sel_set {f : Int → Bool} {s : BitVec 128} (h : ∀ v, 1 ≤ v → v ≤ 128 → sHas s v = f v) : setT (selL f 128) 128 = s := by
 refine sets_ext fun v h1 h2 => ?_
 rw [setT_has _ _ _ (by omega), decide_eq_true h1, decide_eq_true (by omega), selL_get _ _ (by omega), h v h1 h2, decide_eq_true (by omega), decide_eq_true (by omega), Int.toNat_of_nonneg (by omega)]
 rfl
theorem r3None_obj : FnObj Tryd.prog 89 [] (.ref 0 0 129) [(0, ⟨4, 1, (List.replicate 129 false).map fun b => [.v (.bool b)]⟩)] [0] := by
 refine fn_obj TT_ok Tryd.func89 (c := _) rfl (by simp [Tryd.ntmps89]) ⟨fun k hk => by simpa [AV.ids, idsL] using hk, fun k ob hk => ?_⟩ (fun B hI0 hro => ?_)
 ·simp only [lk] at hk
  split at hk
  ·rename_i e
   cases hk
   exact ⟨by simp [← e], fun q hq => by rw [d_ids_bools] at hq; cases hq⟩
  ·cases hk
 rw [Tryd.ntmps89]
 simp only [enumA]
 have hz : (List.replicate 129 false).map (fun b => [AV.v (.bool b)]) = List.replicate 129 [AV.v (.bool false)] := List.map_replicate ..
 rw [hz]
 refine amStr (h := ?_)
 refine amReg PT156_ok (h := ?_)
 refine amStr (h := ?_)
 refine s_regionL ?_
 refine spl_step TT_ok PT156_ok (id := 0) (σ' := ⟨2, [(0, .v (.slice none 0 0)), (1, .ref 0 0 129)], [(0, ⟨4, 1, List.replicate 129 [.v (.bool false)]⟩)], [0]⟩) (by kernel_rfl) ?_
 generalize List.replicate 129 [AV.v (.bool false)] = Z
 ((iterate 1 (((with_reducible refine spl_step TT_ok PT156_ok (id := 0) (σ' := ?_) ?_ ?_); rotate_left; (focus (simp [*]; rfl))))))
 refine spl_nil ?_
 refine amStr (h := ?_)
 refine post_obj (av := .ref 0 0 129) (.inr rfl) (by rw [Tryd.results89]) ?_ (fun q => q) rfl (fun k ob hk => ?_) (fun k ob k' ob' hk hk' e => e)
 ·simp [retA, retL, ret1, lk]
 ·simp only [lk] at hk ⊢
  split at hk
  ·rename_i e
   cases hk
   rw [if_pos e, renLL_id]
  ·cases hk
theorem r3Set_p (l : List Bool) (hl : l.length = 129) : FnPure Tryd.prog 90 [aBools l] (aSet (setT l 128)) := by
 obtain ⟨z1, z2⟩ := words0
 unfold aSet WV
 refine fn_sp TT_ok Tryd.func90 (c := _) rfl (by simp [Tryd.ntmps90]) (fun B hI0 hro => ?_)
 rw [Tryd.ntmps90]
 simp only [enumA]
 refine amStr (h := ?_)
 refine amReg PT156_ok (h := ?_)
 refine amStr (h := ?_)
 refine amReg PT156_ok (h := ?_)
 refine amStr (h := ?_)
 refine amReg PT156_ok (h := ?_)
 refine amStr (h := ?_)
 refine s_loop (J := fun i : {k : Nat // k ≤ 128} => ⟨31, [(0, .sl 1 (l.map fun b => [AV.v (.bool b)])), (2, .ptr 0 0 0), (3, .ptr 1 0 0), (4, .v (.int .i64 ((i.1 : Int) + 1)))], [(0, ⟨27, 2, [[.v (.int .u64 0), .v (.int .u64 0)]]⟩), (1, ⟨27, 2, [[.v (.int .u64 ((lo (setT l i.1)).toNat : Int)), .v (.int .u64 ((hi (setT l i.1)).toNat : Int))]]⟩)], [1, 0]⟩) (μ := fun i => 128 - i.1) ⟨0, Nat.zero_le _⟩ ?_ (fun ⟨k, hk⟩ => ?_)
 ·have h0 : setT l 0 = 0#128 := rfl
  (refine weak_id rfl ?_ ?_ <;> ((try simp only [List.mem_cons, List.not_mem_nil, or_false, forall_eq_or_imp, forall_eq]); (try simp (disch := omega) [i64w, *])))
 dsimp only
 obtain ⟨v, hv⟩ : ∃ v, (k : Int) + 1 = v := ⟨_, rfl⟩
 have hv2 : ((k + 1 : Nat) : Int) + 1 = v + 1 := by omega
 have hwk : IntKind.i64.wrap (v + 1) = v + 1 := i64w (by omega) (by omega)
 have hk1 : v < 129 ↔ k < 128 := by omega
 have ht : v.toNat = k + 1 := by omega
 have hv0 : 0 ≤ v := by omega
 rw [hv]
 have HV := Lib.hid hv
 clear hv
 refine amStr (h := ?_)
 refine amReg PT156_ok (h := ?_)
 refine amStr (h := ?_)
 (focus ((with_reducible refine sp_cond (b := ?_) ?_ (fun hc => ?_) (fun hc => ?_)); rotate_left; (focus (first | rfl | (simp [lk, AS.ev]; rfl))); all_goals (try simp at hc)))
 ·have hkk : k < 128 := by have := HV.out; omega
  have hkli : v < 129 := by have := HV.out; omega
  clear hc hk1
  have hkl : k + 1 < l.length := by omega
  have hst : setT l (k + 1) = if l.getD (k + 1) false = true then sWith (setT l k) v else setT l k := by rw [← HV.out]; rfl
  obtain ⟨s, hs⟩ : ∃ s, setT l k = s := ⟨_, rfl⟩
  rw [hs] at hst ⊢
  clear hs
  have hbg := bools_get hkl
  cases hb : l.getD (k + 1) false
  ·rw [if_neg (by rw [hb]; decide)] at hst
   refine amStr (h := ?_)
   refine amReg PT156_ok (h := ?_)
   refine amStr (h := ?_)
   refine amReg PT156_ok (h := ?_)
   refine k_lp (⟨k + 1, hkk⟩ : {k : Nat // k ≤ 128}) (by dsimp only; omega) ?_
   (refine weak_id rfl ?_ ?_ <;> ((try simp only [List.mem_cons, List.not_mem_nil, or_false, forall_eq_or_imp, forall_eq]); (try simp (disch := omega) [i64w, *])))
   exact HV.out.symm
  ·rw [if_pos hb] at hst
   have w1 : IntKind.i64.wrap (v - 1) = v - 1 := i64w (by have := HV.out; omega) (by have := HV.out; omega)
   have h1v : 1 ≤ v := by have := HV.out; omega
   have f3 : ¬ (v - 1 < 0) := by omega
   have w2 : IntKind.u64.wrap (v - 1) = v - 1 := u64w (by omega) (by omega)
   by_cases hlo : v ≤ 64
   ·obtain ⟨q1, q2⟩ := quo64_lo h1v hlo
    obtain ⟨g1, g2⟩ := shl_lo h1v hlo
    rw [ht, Nat.add_sub_cancel] at g1 g2
    obtain ⟨l1, l2⟩ := lo_with s v h1v hlo
    generalize BitVec.twoPow 64 (v - 1).toNat = bt at g2 l1
    have wo := word_or (lo s) bt
    refine amStr (h := ?_)
    refine amReg PT156_ok (h := ?_)
    refine amStr (h := ?_)
    refine amReg PT156_ok (h := ?_)
    refine amStr (h := ?_)
    refine amReg PT156_ok (h := ?_)
    refine k_lp (⟨k + 1, hkk⟩ : {k : Nat // k ≤ 128}) (by dsimp only; omega) ?_
    (refine weak_id rfl ?_ ?_ <;> ((try simp only [List.mem_cons, List.not_mem_nil, or_false, forall_eq_or_imp, forall_eq]); (try simp (disch := omega) [i64w, *])))
    all_goals first | exact HV.out.symm | (unfold wOr; simp; done)
   ·obtain ⟨q1, q2⟩ := quo64_hi (by omega : 65 ≤ v) (by omega)
    obtain ⟨g1, g2⟩ := shl_hi (by omega : 65 ≤ v) (by omega)
    obtain ⟨l1, l2⟩ := hi_with s v (by omega) (by omega)
    generalize BitVec.twoPow 64 (v - 65).toNat = bt at g2 l2
    have wo := word_or (hi s) bt
    have w3 : IntKind.u64.wrap (v - 65) = v - 65 := u64w (by omega) (by omega)
    have f4 : ¬ (v - 65 < 0) := by omega
    refine amStr (h := ?_)
    refine amReg PT156_ok (h := ?_)
    refine amStr (h := ?_)
    refine amReg PT156_ok (h := ?_)
    refine amStr (h := ?_)
    refine amReg PT156_ok (h := ?_)
    refine k_lp (⟨k + 1, hkk⟩ : {k : Nat // k ≤ 128}) (by dsimp only; omega) ?_
    (refine weak_id rfl ?_ ?_ <;> ((try simp only [List.mem_cons, List.not_mem_nil, or_false, forall_eq_or_imp, forall_eq]); (try simp (disch := omega) [i64w, *])))
    all_goals first | exact HV.out.symm | (unfold wOr; simp; done)
 ·obtain rfl : k = 128 := by have := HV.out; omega
  clear hc hk1
  refine amGo PT156_ok (h := ?_)
  (refine amRt Tryd.results90 (h := ?_); try simp [*])
@[simp] def g_r3Set : List AV → Option (AV × Bool)
 | [a0] => (match toBools a0 with | some l => if (decide (l.length = 129)) = true then some (aSet (setT l 128), false) else none | none => none)
 | _ => none
theorem e_r3Set : EntOk Tryd.prog 90 g_r3Set := ent_pure (by kernel_rfl) fun args r fr h => by
 unfold g_r3Set at h
 split at h
 ·rename_i a0
  split at h
  ·rename_i l t0
   split at h
   ·rename_i hc
    have hk := hc
    cases h
    exact ⟨FnPure.cov (r3Set_p l (by simpa using hk)) (.cons (cov_bools t0) .nil), rfl⟩
   ·cases h
  ·cases h
 ·cases h

def l165 : List (FuncId × (List AV → Option (AV × Bool))) :=
 (90, g_r3Set) :: l156
theorem l165_ok : ∀ p ∈ l165, EntOk Tryd.prog p.1 p.2 := ent_cons e_r3Set (l156_ok)
def PT165 : PTab := tab l165
theorem PT165_ok : PTok Tryd.prog PT165 := tab_ok l165_ok
@[simp] theorem PT165_r3Set : PT165 90 = g_r3Set := rfl
@[simp] theorem PT165_old (f : FuncId) (h : decide (f ≠ 90) = true) : PT165 f = PT156 f := tab_old (of_decide_eq_true h)
end Go.Proofs.YtecdhmiamlgibaaDoor
/- Qt39: The reference's operations on sets; no condition. -/
namespace Go.Proofs.YtecdhmiamlgibaaDoor
set_option linter.unusedVariables false
set_option linter.unusedSimpArgs false
set_option linter.unusedSectionVars false
open Go.RowKit
open Wlk
attribute [-simp] List.getD_eq_getElem?_getD
set_option maxRecDepth 100000
theorem r3Cut_p (a b : BitVec 128) : FnPure Tryd.prog 113 [aSet a, aSet b] (aSet (a &&& b)) := by
 have hset : setT (selL (fun v => sHas a v && sHas b v) 128) 128 = a &&& b := sel_set (f := fun v => sHas a v && sHas b v) fun v h1 h2 => by rw [sHas_and]
 have hs0 := selL_zero (fun v => sHas a v && sHas b v)
 have hstep := fun (k : Nat) (hk : k < 128) (c : Bool) (hc : c = (fun v => sHas a v && sHas b v) ((k : Int) + 1)) => selL_set (f := fun v => sHas a v && sHas b v) hk hc
 have hlen := selL_len (fun v => sHas a v && sHas b v)
 have HF : ∀ v, (fun v => sHas a v && sHas b v) v = (sHas a v && sHas b v) := fun v => rfl
 generalize (fun v : Int => sHas a v && sHas b v) = f at hset hs0 hstep hlen HF
 have HS := Lib.hid hstep
 have HFF := Lib.hid HF
 clear hstep HF
 unfold aSet WV
 refine fn_sp TT_ok Tryd.func113 (c := _) rfl (by simp [Tryd.ntmps113]) (fun B hI0 hro => ?_)
 rw [Tryd.ntmps113]
 simp only [enumA]
 refine amStr (h := ?_)
 refine amReg PT165_ok (h := ?_)
 refine amStr (h := ?_)
 refine s_regionL ?_
 refine spl_obj r3None_obj 300 (by simp) rfl rfl (enters_ok (avs := []) (cs := []) rfl (by kernel_rfl) rfl rfl) (by simp [idsL]) (fun c h => by cases h) ?_
 rw [← hs0]
 simp only [shO, AV.ren, d_ren_bools, Nat.zero_add, List.map_cons, List.map_nil, List.cons_append, List.nil_append]
 (refine spl_eq (τ := ?_) ?_ ?_; rotate_left; (focus ((try simp only [AS.frz, List.map_cons, List.map_nil]); (try simp [frzV, frzO, frzC, List.filter]); rfl)))
 ((iterate 1 (((with_reducible refine spl_step TT_ok PT165_ok (id := 0) (σ' := ?_) ?_ ?_); rotate_left; (focus (simp [*]; rfl))))))
 refine spl_nil ?_
 refine amStr (h := ?_)
 refine amReg PT165_ok (h := ?_)
 refine amStr (h := ?_)
 refine s_loop (J := fun i : {k : Nat // k ≤ 128} => ⟨25, [(2, .ptr 0 0 0), (3, .ptr 1 0 0), (4, .ptr 2 0 0), (5, .ref 300 0 129), (6, .v (.int .i64 ((i.1 : Int) + 1)))], [(0, ⟨27, 2, [[.v (.int .u64 ((lo a).toNat : Int)), .v (.int .u64 ((hi a).toNat : Int))]]⟩), (1, ⟨27, 2, [[.v (.int .u64 ((lo b).toNat : Int)), .v (.int .u64 ((hi b).toNat : Int))]]⟩), (2, ⟨27, 2, [[.v (.int .u64 0), .v (.int .u64 0)]]⟩), (300, ⟨4, 1, (selL f i.1).map fun b => [.v (.bool b)]⟩)], [300, 2, 1, 0]⟩) (μ := fun i => 128 - i.1) ⟨0, Nat.zero_le _⟩ ?_ (fun ⟨k, hk⟩ => ?_)
 ·(refine weak_id rfl ?_ ?_ <;> ((try simp only [List.mem_cons, List.not_mem_nil, or_false, forall_eq_or_imp, forall_eq]); (try simp (disch := omega) [i64w, *])))
 clear hs0
 have hk1 := hlen k
 have hst := HS.out k
 obtain ⟨X, hX⟩ : ∃ X, selL f k = X := ⟨_, rfl⟩
 rw [hX] at hk1 hst ⊢
 have HX := Lib.hid hX
 clear hX
 obtain ⟨v, hv⟩ : ∃ v, (k : Int) + 1 = v := ⟨_, rfl⟩
 have hv2 : ((k + 1 : Nat) : Int) + 1 = v + 1 := by omega
 have hwk : IntKind.i64.wrap (v + 1) = v + 1 := i64w (by omega) (by omega)
 have ht : v.toNat = k + 1 := by omega
 have hv0 : 0 ≤ v := by omega
 have hov : okI v = true := okI_iff.2 ⟨by omega, by omega⟩
 dsimp only
 rw [hv] at hst ⊢
 rw [HFF.out] at hst
 have HV := Lib.hid hv
 have HST := Lib.hid hst
 clear hv hst
 refine amStr (h := ?_)
 refine amReg PT165_ok (h := ?_)
 refine amStr (h := ?_)
 (focus ((with_reducible refine sp_cond (b := ?_) ?_ (fun hc => ?_) (fun hc => ?_)); rotate_left; (focus (first | rfl | (simp [lk, AS.ev]; rfl))); all_goals (try simp at hc)))
 ·have hkk : k < 128 := by have := HV.out; omega
  have hkli : v < 129 := by have := HV.out; omega
  clear hc
  have hkl : k + 1 < X.length := by omega
  have hkl2 : k + 1 < 129 := by omega
  have hbg := bools_get hkl
  have hst := HST.out hkk
  cases h1 : sHas a v
  ·have hs1 := hst false (by rw [h1]; rfl)
   clear hst
   refine amStr (h := ?_)
   refine amReg PT165_ok (h := ?_)
   refine amStr (h := ?_)
   refine amReg PT165_ok (h := ?_)
   refine k_lp (⟨k + 1, hkk⟩ : {k : Nat // k ≤ 128}) (by dsimp only; omega) ?_
   (refine weak_id rfl ?_ ?_ <;> ((try simp only [List.mem_cons, List.not_mem_nil, or_false, forall_eq_or_imp, forall_eq]); (try simp (disch := omega) [i64w, *])))
   all_goals first | exact HV.out.symm | rw [← hs1, List.map_set]
  ·have hs1 := hst (sHas b v) (by rw [h1]; rfl)
   clear hst
   refine amStr (h := ?_)
   refine amReg PT165_ok (h := ?_)
   refine amStr (h := ?_)
   refine amReg PT165_ok (h := ?_)
   refine k_lp (⟨k + 1, hkk⟩ : {k : Nat // k ≤ 128}) (by dsimp only; omega) ?_
   (refine weak_id rfl ?_ ?_ <;> ((try simp only [List.mem_cons, List.not_mem_nil, or_false, forall_eq_or_imp, forall_eq]); (try simp (disch := omega) [i64w, *])))
   all_goals first | exact HV.out.symm | rw [← hs1, List.map_set]
 ·obtain rfl : k = 128 := by have := HV.out; omega
  clear hc
  rw [HX.out] at hset
  refine amStr (h := ?_)
  refine s_weak (τ := ⟨25, [(4, .ptr 2 0 0), (5, .ref 300 0 X.length)], [(2, ⟨27, 2, [[.v (.int .u64 0), .v (.int .u64 0)]]⟩), (300, ⟨4, 1, X.map fun b => [.v (.bool b)]⟩)], [300, 2, 1, 0]⟩) ?_ ?_
  ·(refine weak_id rfl ?_ ?_ <;> ((try simp only [List.mem_cons, List.not_mem_nil, or_false, forall_eq_or_imp, forall_eq]); (try simp (disch := omega) [i64w, *])))
  refine s_frz (fun q => q == 300) ?_
  (refine s_eq (τ := ?_) ?_ ?_; rotate_left; (focus ((try simp only [AS.frz, List.map_cons, List.map_nil]); (try simp [frzV, frzO, frzC, List.filter]); rfl)))
  refine amStr (h := ?_)
  refine amReg PT165_ok (h := ?_)
  refine amStr (h := ?_)
  (refine amRt Tryd.results113 (h := ?_); try simp [*])

theorem r3Minus_p (a b : BitVec 128) : FnPure Tryd.prog 61 [aSet a, aSet b] (aSet (a &&& ~~~ b)) := by
 have hset : setT (selL (fun v => sHas a v && !sHas b v) 128) 128 = a &&& ~~~ b := sel_set (f := fun v => sHas a v && !sHas b v) fun v h1 h2 => by rw [sHas_and, sHas_not _ _ h1 h2]
 have hs0 := selL_zero (fun v => sHas a v && !sHas b v)
 have hstep := fun (k : Nat) (hk : k < 128) (c : Bool) (hc : c = (fun v => sHas a v && !sHas b v) ((k : Int) + 1)) => selL_set (f := fun v => sHas a v && !sHas b v) hk hc
 have hlen := selL_len (fun v => sHas a v && !sHas b v)
 have HF : ∀ v, (fun v => sHas a v && !sHas b v) v = (sHas a v && !sHas b v) := fun v => rfl
 generalize (fun v : Int => sHas a v && !sHas b v) = f at hset hs0 hstep hlen HF
 have HS := Lib.hid hstep
 have HFF := Lib.hid HF
 clear hstep HF
 unfold aSet WV
 refine fn_sp TT_ok Tryd.func61 (c := _) rfl (by simp [Tryd.ntmps61]) (fun B hI0 hro => ?_)
 rw [Tryd.ntmps61]
 simp only [enumA]
 refine amStr (h := ?_)
 refine amReg PT165_ok (h := ?_)
 refine amStr (h := ?_)
 refine s_regionL ?_
 refine spl_obj r3None_obj 300 (by simp) rfl rfl (enters_ok (avs := []) (cs := []) rfl (by kernel_rfl) rfl rfl) (by simp [idsL]) (fun c h => by cases h) ?_
 rw [← hs0]
 simp only [shO, AV.ren, d_ren_bools, Nat.zero_add, List.map_cons, List.map_nil, List.cons_append, List.nil_append]
 (refine spl_eq (τ := ?_) ?_ ?_; rotate_left; (focus ((try simp only [AS.frz, List.map_cons, List.map_nil]); (try simp [frzV, frzO, frzC, List.filter]); rfl)))
 ((iterate 1 (((with_reducible refine spl_step TT_ok PT165_ok (id := 0) (σ' := ?_) ?_ ?_); rotate_left; (focus (simp [*]; rfl))))))
 refine spl_nil ?_
 refine amStr (h := ?_)
 refine amReg PT165_ok (h := ?_)
 refine amStr (h := ?_)
 refine s_loop (J := fun i : {k : Nat // k ≤ 128} => ⟨26, [(2, .ptr 0 0 0), (3, .ptr 1 0 0), (4, .ptr 2 0 0), (5, .ref 300 0 129), (6, .v (.int .i64 ((i.1 : Int) + 1)))], [(0, ⟨27, 2, [[.v (.int .u64 ((lo a).toNat : Int)), .v (.int .u64 ((hi a).toNat : Int))]]⟩), (1, ⟨27, 2, [[.v (.int .u64 ((lo b).toNat : Int)), .v (.int .u64 ((hi b).toNat : Int))]]⟩), (2, ⟨27, 2, [[.v (.int .u64 0), .v (.int .u64 0)]]⟩), (300, ⟨4, 1, (selL f i.1).map fun b => [.v (.bool b)]⟩)], [300, 2, 1, 0]⟩) (μ := fun i => 128 - i.1) ⟨0, Nat.zero_le _⟩ ?_ (fun ⟨k, hk⟩ => ?_)
 ·(refine weak_id rfl ?_ ?_ <;> ((try simp only [List.mem_cons, List.not_mem_nil, or_false, forall_eq_or_imp, forall_eq]); (try simp (disch := omega) [i64w, *])))
 clear hs0
 have hk1 := hlen k
 have hst := HS.out k
 obtain ⟨X, hX⟩ : ∃ X, selL f k = X := ⟨_, rfl⟩
 rw [hX] at hk1 hst ⊢
 have HX := Lib.hid hX
 clear hX
 obtain ⟨v, hv⟩ : ∃ v, (k : Int) + 1 = v := ⟨_, rfl⟩
 have hv2 : ((k + 1 : Nat) : Int) + 1 = v + 1 := by omega
 have hwk : IntKind.i64.wrap (v + 1) = v + 1 := i64w (by omega) (by omega)
 have ht : v.toNat = k + 1 := by omega
 have hv0 : 0 ≤ v := by omega
 have hov : okI v = true := okI_iff.2 ⟨by omega, by omega⟩
 dsimp only
 rw [hv] at hst ⊢
 rw [HFF.out] at hst
 have HV := Lib.hid hv
 have HST := Lib.hid hst
 clear hv hst
 refine amStr (h := ?_)
 refine amReg PT165_ok (h := ?_)
 refine amStr (h := ?_)
 (focus ((with_reducible refine sp_cond (b := ?_) ?_ (fun hc => ?_) (fun hc => ?_)); rotate_left; (focus (first | rfl | (simp [lk, AS.ev]; rfl))); all_goals (try simp at hc)))
 ·have hkk : k < 128 := by have := HV.out; omega
  have hkli : v < 129 := by have := HV.out; omega
  clear hc
  have hkl : k + 1 < X.length := by omega
  have hkl2 : k + 1 < 129 := by omega
  have hbg := bools_get hkl
  have hst := HST.out hkk
  cases h1 : sHas a v
  ·have hs1 := hst false (by rw [h1]; rfl)
   clear hst
   refine amStr (h := ?_)
   refine amReg PT165_ok (h := ?_)
   refine amStr (h := ?_)
   refine amReg PT165_ok (h := ?_)
   refine k_lp (⟨k + 1, hkk⟩ : {k : Nat // k ≤ 128}) (by dsimp only; omega) ?_
   (refine weak_id rfl ?_ ?_ <;> ((try simp only [List.mem_cons, List.not_mem_nil, or_false, forall_eq_or_imp, forall_eq]); (try simp (disch := omega) [i64w, *])))
   all_goals first | exact HV.out.symm | rw [← hs1, List.map_set]
  ·have hs1 := hst (!sHas b v) (by rw [h1]; rfl)
   clear hst
   refine amStr (h := ?_)
   refine amReg PT165_ok (h := ?_)
   refine amStr (h := ?_)
   refine amReg PT165_ok (h := ?_)
   refine k_lp (⟨k + 1, hkk⟩ : {k : Nat // k ≤ 128}) (by dsimp only; omega) ?_
   (refine weak_id rfl ?_ ?_ <;> ((try simp only [List.mem_cons, List.not_mem_nil, or_false, forall_eq_or_imp, forall_eq]); (try simp (disch := omega) [i64w, *])))
   all_goals first | exact HV.out.symm | rw [← hs1, List.map_set]
 ·obtain rfl : k = 128 := by have := HV.out; omega
  clear hc
  rw [HX.out] at hset
  refine amStr (h := ?_)
  refine s_weak (τ := ⟨26, [(4, .ptr 2 0 0), (5, .ref 300 0 X.length)], [(2, ⟨27, 2, [[.v (.int .u64 0), .v (.int .u64 0)]]⟩), (300, ⟨4, 1, X.map fun b => [.v (.bool b)]⟩)], [300, 2, 1, 0]⟩) ?_ ?_
  ·(refine weak_id rfl ?_ ?_ <;> ((try simp only [List.mem_cons, List.not_mem_nil, or_false, forall_eq_or_imp, forall_eq]); (try simp (disch := omega) [i64w, *])))
  refine s_frz (fun q => q == 300) ?_
  (refine s_eq (τ := ?_) ?_ ?_; rotate_left; (focus ((try simp only [AS.frz, List.map_cons, List.map_nil]); (try simp [frzV, frzO, frzC, List.filter]); rfl)))
  refine amStr (h := ?_)
  refine amReg PT165_ok (h := ?_)
  refine amStr (h := ?_)
  (refine amRt Tryd.results61 (h := ?_); try simp [*])

theorem r3Without_p (a : BitVec 128) (x : Int) (hx : okI x = true) : FnPure Tryd.prog 81 [aSet a, .v (.int .i64 x)] (aSet (sWithout a x)) := by
 have hset : setT (selL (fun v => sHas a v && (v != x)) 128) 128 = sWithout a x := sel_set (f := fun v => sHas a v && (v != x)) fun v h1 h2 => by rw [sHas_without]; by_cases e : v = x <;> simp [e]
 have hs0 := selL_zero (fun v => sHas a v && (v != x))
 have hstep := fun (k : Nat) (hk : k < 128) (c : Bool) (hc : c = (fun v => sHas a v && (v != x)) ((k : Int) + 1)) => selL_set (f := fun v => sHas a v && (v != x)) hk hc
 have hlen := selL_len (fun v => sHas a v && (v != x))
 have HF : ∀ v, (fun v => sHas a v && (v != x)) v = (sHas a v && (v != x)) := fun v => rfl
 generalize (fun v : Int => sHas a v && (v != x)) = f at hset hs0 hstep hlen HF
 have HS := Lib.hid hstep
 have HFF := Lib.hid HF
 clear hstep HF
 unfold aSet WV
 refine fn_sp TT_ok Tryd.func81 (c := _) rfl (by simp [Tryd.ntmps81]) (fun B hI0 hro => ?_)
 rw [Tryd.ntmps81]
 simp only [enumA]
 refine amStr (h := ?_)
 refine amReg PT165_ok (h := ?_)
 refine amStr (h := ?_)
 refine s_regionL ?_
 refine spl_obj r3None_obj 300 (by simp) rfl rfl (enters_ok (avs := []) (cs := []) rfl (by kernel_rfl) rfl rfl) (by simp [idsL]) (fun c h => by cases h) ?_
 rw [← hs0]
 simp only [shO, AV.ren, d_ren_bools, Nat.zero_add, List.map_cons, List.map_nil, List.cons_append, List.nil_append]
 (refine spl_eq (τ := ?_) ?_ ?_; rotate_left; (focus ((try simp only [AS.frz, List.map_cons, List.map_nil]); (try simp [frzV, frzO, frzC, List.filter]); rfl)))
 ((iterate 1 (((with_reducible refine spl_step TT_ok PT165_ok (id := 0) (σ' := ?_) ?_ ?_); rotate_left; (focus (simp [*]; rfl))))))
 refine spl_nil ?_
 refine amStr (h := ?_)
 refine amReg PT165_ok (h := ?_)
 refine amStr (h := ?_)
 refine s_loop (J := fun i : {k : Nat // k ≤ 128} => ⟨25, [(2, .ptr 0 0 0), (1, .v (.int .i64 x)), (4, .ptr 1 0 0), (5, .ref 300 0 129), (6, .v (.int .i64 ((i.1 : Int) + 1)))], [(0, ⟨27, 2, [[.v (.int .u64 ((lo a).toNat : Int)), .v (.int .u64 ((hi a).toNat : Int))]]⟩), (1, ⟨27, 2, [[.v (.int .u64 0), .v (.int .u64 0)]]⟩), (300, ⟨4, 1, (selL f i.1).map fun b => [.v (.bool b)]⟩)], [300, 1, 0]⟩) (μ := fun i => 128 - i.1) ⟨0, Nat.zero_le _⟩ ?_ (fun ⟨k, hk⟩ => ?_)
 ·(refine weak_id rfl ?_ ?_ <;> ((try simp only [List.mem_cons, List.not_mem_nil, or_false, forall_eq_or_imp, forall_eq]); (try simp (disch := omega) [i64w, *])))
 clear hs0
 have hk1 := hlen k
 have hst := HS.out k
 obtain ⟨X, hX⟩ : ∃ X, selL f k = X := ⟨_, rfl⟩
 rw [hX] at hk1 hst ⊢
 have HX := Lib.hid hX
 clear hX
 obtain ⟨v, hv⟩ : ∃ v, (k : Int) + 1 = v := ⟨_, rfl⟩
 have hv2 : ((k + 1 : Nat) : Int) + 1 = v + 1 := by omega
 have hwk : IntKind.i64.wrap (v + 1) = v + 1 := i64w (by omega) (by omega)
 have ht : v.toNat = k + 1 := by omega
 have hv0 : 0 ≤ v := by omega
 have hov : okI v = true := okI_iff.2 ⟨by omega, by omega⟩
 dsimp only
 rw [hv] at hst ⊢
 rw [HFF.out] at hst
 have HV := Lib.hid hv
 have HST := Lib.hid hst
 clear hv hst
 refine amStr (h := ?_)
 refine amReg PT165_ok (h := ?_)
 refine amStr (h := ?_)
 (focus ((with_reducible refine sp_cond (b := ?_) ?_ (fun hc => ?_) (fun hc => ?_)); rotate_left; (focus (first | rfl | (simp [lk, AS.ev]; rfl))); all_goals (try simp at hc)))
 ·have hkk : k < 128 := by have := HV.out; omega
  have hkli : v < 129 := by have := HV.out; omega
  clear hc
  have hkl : k + 1 < X.length := by omega
  have hkl2 : k + 1 < 129 := by omega
  have hbg := bools_get hkl
  have hst := HST.out hkk
  cases h1 : sHas a v
  ·have hs1 := hst false (by rw [h1]; rfl)
   clear hst
   refine amStr (h := ?_)
   refine amReg PT165_ok (h := ?_)
   refine amStr (h := ?_)
   refine amReg PT165_ok (h := ?_)
   refine k_lp (⟨k + 1, hkk⟩ : {k : Nat // k ≤ 128}) (by dsimp only; omega) ?_
   (refine weak_id rfl ?_ ?_ <;> ((try simp only [List.mem_cons, List.not_mem_nil, or_false, forall_eq_or_imp, forall_eq]); (try simp (disch := omega) [i64w, *])))
   all_goals first | exact HV.out.symm | rw [← hs1, List.map_set]
  ·have hs1 := hst ((v != x)) (by rw [h1]; rfl)
   clear hst
   refine amStr (h := ?_)
   refine amReg PT165_ok (h := ?_)
   refine amStr (h := ?_)
   refine amReg PT165_ok (h := ?_)
   refine k_lp (⟨k + 1, hkk⟩ : {k : Nat // k ≤ 128}) (by dsimp only; omega) ?_
   (refine weak_id rfl ?_ ?_ <;> ((try simp only [List.mem_cons, List.not_mem_nil, or_false, forall_eq_or_imp, forall_eq]); (try simp (disch := omega) [i64w, *])))
   all_goals first | exact HV.out.symm | rw [← hs1, List.map_set]
 ·obtain rfl : k = 128 := by have := HV.out; omega
  clear hc
  rw [HX.out] at hset
  refine amStr (h := ?_)
  refine s_weak (τ := ⟨25, [(4, .ptr 1 0 0), (5, .ref 300 0 X.length)], [(1, ⟨27, 2, [[.v (.int .u64 0), .v (.int .u64 0)]]⟩), (300, ⟨4, 1, X.map fun b => [.v (.bool b)]⟩)], [300, 1, 0]⟩) ?_ ?_
  ·(refine weak_id rfl ?_ ?_ <;> ((try simp only [List.mem_cons, List.not_mem_nil, or_false, forall_eq_or_imp, forall_eq]); (try simp (disch := omega) [i64w, *])))
  refine s_frz (fun q => q == 300) ?_
  (refine s_eq (τ := ?_) ?_ ?_; rotate_left; (focus ((try simp only [AS.frz, List.map_cons, List.map_nil]); (try simp [frzV, frzO, frzC, List.filter]); rfl)))
  refine amStr (h := ?_)
  refine amReg PT165_ok (h := ?_)
  refine amStr (h := ?_)
  (refine amRt Tryd.results81 (h := ?_); try simp [*])

@[simp] def g_r3Cut : List AV → Option (AV × Bool)
 | [a0, a1] => (match toSet a0 with | some a => (match toSet a1 with | some b => if (true) = true then some (aSet (a &&& b), false) else none | none => none) | none => none)
 | _ => none
theorem e_r3Cut : EntOk Tryd.prog 113 g_r3Cut := ent_pure (by kernel_rfl) fun args r fr h => by
 unfold g_r3Cut at h
 split at h
 ·rename_i a0 a1
  split at h
  ·rename_i a t0
   split at h
   ·rename_i b t1
    split at h
    ·rename_i hc
     cases h
     exact ⟨FnPure.cov (r3Cut_p a b) (.cons (toSet_inv t0 ▸ Cov.refl _) (.cons (toSet_inv t1 ▸ Cov.refl _) .nil)), rfl⟩
    ·cases h
   ·cases h
  ·cases h
 ·cases h

@[simp] def g_r3Minus : List AV → Option (AV × Bool)
 | [a0, a1] => (match toSet a0 with | some a => (match toSet a1 with | some b => if (true) = true then some (aSet (a &&& ~~~ b), false) else none | none => none) | none => none)
 | _ => none
theorem e_r3Minus : EntOk Tryd.prog 61 g_r3Minus := ent_pure (by kernel_rfl) fun args r fr h => by
 unfold g_r3Minus at h
 split at h
 ·rename_i a0 a1
  split at h
  ·rename_i a t0
   split at h
   ·rename_i b t1
    split at h
    ·rename_i hc
     cases h
     exact ⟨FnPure.cov (r3Minus_p a b) (.cons (toSet_inv t0 ▸ Cov.refl _) (.cons (toSet_inv t1 ▸ Cov.refl _) .nil)), rfl⟩
    ·cases h
   ·cases h
  ·cases h
 ·cases h

@[simp] def g_r3Without : List AV → Option (AV × Bool)
 | [a0, .v (.int .i64 x)] => (match toSet a0 with | some a => if (okI x) = true then some (aSet (sWithout a x), false) else none | none => none)
 | _ => none
theorem e_r3Without : EntOk Tryd.prog 81 g_r3Without := ent_pure (by kernel_rfl) fun args r fr h => by
 unfold g_r3Without at h
 split at h
 ·rename_i a0 x
  split at h
  ·rename_i a t0
   split at h
   ·rename_i hc
    have o1 := hc
    cases h
    exact ⟨FnPure.cov (r3Without_p a x o1) (.cons (toSet_inv t0 ▸ Cov.refl _) (.cons (Cov.refl _) .nil)), rfl⟩
   ·cases h
  ·cases h
 ·cases h

def l166 : List (FuncId × (List AV → Option (AV × Bool))) :=
 (113, g_r3Cut) :: (61, g_r3Minus) :: (81, g_r3Without) :: l165
theorem l166_ok : ∀ p ∈ l166, EntOk Tryd.prog p.1 p.2 := ent_cons e_r3Cut (ent_cons e_r3Minus (ent_cons e_r3Without (l165_ok)))
def PT166 : PTab := tab l166
theorem PT166_ok : PTok Tryd.prog PT166 := tab_ok l166_ok
@[simp] theorem PT166_r3Cut : PT166 113 = g_r3Cut := rfl
@[simp] theorem PT166_r3Minus : PT166 61 = g_r3Minus := rfl
@[simp] theorem PT166_r3Without : PT166 81 = g_r3Without := rfl
@[simp] theorem PT166_old (f : FuncId) (h : decide (f ≠ 113 ∧ f ≠ 61 ∧ f ≠ 81) = true) : PT166 f = PT165 f := (fun h => Eq.trans (tab_old h.1) (Eq.trans (tab_old h.2.1) (tab_old h.2.2))) (of_decide_eq_true h)
end Go.Proofs.YtecdhmiamlgibaaDoor
/- Qo39: The reference's All, Of, Sub; List as an object; no condition. -/
namespace Go.Proofs.YtecdhmiamlgibaaDoor
set_option linter.unusedVariables false
set_option linter.unusedSimpArgs false
set_option linter.unusedSectionVars false
open Go.RowKit
open Wlk
attribute [-simp] List.getD_eq_getElem?_getD
set_option maxRecDepth 100000
attribute [local simp] aBools
def memL (s : BitVec 128) : List Bool := selL (fun v => sHas s v) 128
theorem memL_len (s : BitVec 128) : (memL s).length = 129 := selL_len _ _
theorem memL_zero : memL 0#128 = List.replicate 129 false := by
 rw [← selL_zero (fun _ => true)]
 refine selL_cut fun v h1 h2 => ?_
 rw [sHas_zero, Bool.and_false, decide_eq_false (by omega : ¬ v ≤ 0), Bool.false_and]
theorem memL_set (s : BitVec 128) : setT (memL s) 128 = s := sel_set fun _ _ _ => rfl
theorem memL_with {s : BitVec 128} {v : Int} (h1 : 1 ≤ v) (h2 : v ≤ 128) : (memL s).set v.toNat true = memL (sWith s v) := by
 have hl := memL_len s
 refine ext_getD false (by rw [List.length_set, hl, memL_len]) fun i hi => ?_
 rw [memL_len] at hi
 unfold memL at hl ⊢
 rw [selL_get _ _ hi, sHas_with]
 by_cases e : v.toNat = i
 ·rw [e, getD_set_eq (by omega), decide_eq_true (by omega : 1 ≤ i), decide_eq_true (by omega : i ≤ 128), decide_eq_true (by omega : (i : Int) = v ∧ 1 ≤ v ∧ v ≤ 128), Bool.or_true]; rfl
 ·rw [getD_set_ne e, selL_get _ _ hi, decide_eq_false (by omega : ¬ ((i : Int) = v ∧ 1 ≤ v ∧ v ≤ 128)), Bool.or_false]
theorem sWith_out {s : BitVec 128} {v : Int} (h : ¬ (1 ≤ v ∧ v ≤ 128)) : sWith s v = s := sets_ext fun u _ _ => by
 rw [sHas_with, decide_eq_false (fun hh => h hh.2), Bool.or_false]
theorem all_sel (n : Int) {k : Nat} (hk : k ≤ 128) (hn : (k : Int) ≤ n ∨ k = 0) (he : ¬ (k < 128 ∧ (k : Int) + 1 ≤ n)) : setT (selL (fun _ => true) k) 128 = sAll n := by
 rw [← sel_set (f := fun v => sHas (sAll n) v) (s := sAll n) fun _ _ _ => rfl]
 congr 1
 refine selL_cut fun v h1 h2 => ?_
 rw [sHas_all, Bool.and_true, Bool.eq_iff_iff, Bool.and_eq_true, decide_eq_true_eq, decide_eq_true_eq, decide_eq_true_eq]
 omega
set_option maxHeartbeats 1000000 in
theorem r3Of_p (xs : List Int) (h : okInts xs = true) : FnPure Tryd.prog 108 [aInts xs] (aSet (ofL xs)) := by
 have hl := okInts_len h
 have hset := memL_set (ofL xs)
 have hs0 := memL_zero
 unfold aSet WV
 refine fn_sp TT_ok Tryd.func108 (c := _) rfl (by simp [Tryd.ntmps108]) (fun B hI0 hro => ?_)
 rw [Tryd.ntmps108]
 simp only [enumA]
 refine amStr (h := ?_)
 refine amReg PT166_ok (h := ?_)
 refine amStr (h := ?_)
 refine s_regionL ?_
 refine spl_obj r3None_obj 300 (by simp) rfl rfl (enters_ok (avs := []) (cs := []) rfl (by kernel_rfl) rfl rfl) (by simp [idsL]) (fun c h => by cases h) ?_
 rw [← hs0]
 simp only [shO, AV.ren, d_ren_bools, Nat.zero_add, List.map_cons, List.map_nil, List.cons_append, List.nil_append]
 (refine spl_eq (τ := ?_) ?_ ?_; rotate_left; (focus ((try simp only [AS.frz, List.map_cons, List.map_nil]); (try simp [frzV, frzO, frzC, List.filter]); rfl)))
 ((iterate 1 (((with_reducible refine spl_step TT_ok PT166_ok (id := 0) (σ' := ?_) ?_ ?_); rotate_left; (focus (simp [*]; rfl))))))
 refine spl_nil ?_
 refine amStr (h := ?_)
 refine amReg PT166_ok (h := ?_)
 refine amStr (h := ?_)
 refine s_loop (J := fun i : {k : Nat // k ≤ xs.length} => ⟨32, [(0, aInts xs), (2, .ptr 0 0 0), (3, .ref 300 0 129), (4, .v (.int .i64 (i.1 : Int)))], [(0, ⟨27, 2, [[.v (.int .u64 0), .v (.int .u64 0)]]⟩), (300, ⟨4, 1, (memL (ofL (xs.take i.1))).map fun b => [.v (.bool b)]⟩)], [300, 0]⟩) (μ := fun i => xs.length - i.1) ⟨0, Nat.zero_le _⟩ ?_ (fun ⟨k, hk⟩ => ?_)
 ·have h0 : ofL [] = 0#128 := rfl
  (refine weak_id rfl ?_ ?_ <;> ((try simp only [List.mem_cons, List.not_mem_nil, or_false, forall_eq_or_imp, forall_eq]); (try simp (disch := omega) [i64w, *])))
 clear hs0
 refine amStr (h := ?_)
 refine amReg PT166_ok (h := ?_)
 refine amStr (h := ?_)
 (focus ((with_reducible refine sp_cond (b := ?_) ?_ (fun hc => ?_) (fun hc => ?_)); rotate_left; (focus (first | rfl | (simp [lk, AS.ev]; rfl))); all_goals (try simp at hc)))
 ·have hkk := hc
  clear hc
  have hki : (k : Int) < (xs.length : Int) := by omega
  have hot := ofL_take hkk
  have ho := okI_iff.1 (okI_iff.2 (okInts_at h k))
  have hwk : IntKind.i64.wrap ((k : Int) + 1) = (k : Int) + 1 := i64s k (by omega)
  obtain ⟨s, hs⟩ : ∃ s, ofL (xs.take k) = s := ⟨_, rfl⟩
  have hml := memL_len s
  have hmw := fun h1 h2 => memL_with (s := s) (v := xs.getD k 0) h1 h2
  have hmo := fun h1 => sWith_out (s := s) (v := xs.getD k 0) h1
  rw [hs] at hot ⊢
  obtain ⟨v, hv⟩ : ∃ v, xs.getD k 0 = v := ⟨_, rfl⟩
  rw [hv] at hot ho hmw hmo
  have HMW := Lib.hid hmw
  have HMO := Lib.hid hmo
  clear hs hmw hmo
  by_cases h1 : 1 ≤ v
  ·by_cases h2 : v ≤ 128
   ·have hst := HMW.out h1 h2
    have hv0 : 0 ≤ v := by omega
    have hv9 : v < 129 := by omega
    have hvn : v.toNat < 129 := by omega
    obtain ⟨X, hX⟩ : ∃ X, memL s = X := ⟨_, rfl⟩
    rw [hX] at hst hml ⊢
    have hvX : v.toNat < X.length := by omega
    have hbg := bools_get hvX
    clear hX
    refine amStr (h := ?_)
    refine amReg PT166_ok (h := ?_)
    refine amStr (h := ?_)
    refine amReg PT166_ok (h := ?_)
    refine amStr (h := ?_)
    refine amReg PT166_ok (h := ?_)
    refine k_lp (⟨k + 1, hkk⟩ : {k : Nat // k ≤ xs.length}) (by first | omega | (dsimp only; omega)) ?_
    (refine weak_id rfl ?_ ?_ <;> ((try simp only [List.mem_cons, List.not_mem_nil, or_false, forall_eq_or_imp, forall_eq]); (try simp (disch := omega) [i64w, *])))
    all_goals (rw [← hst, List.map_set])
   ·have hst := HMO.out (fun hh => h2 hh.2)
    have h2b : ¬ v ≤ 128 := h2
    rw [hst] at hot
    refine amStr (h := ?_)
    refine amReg PT166_ok (h := ?_)
    refine amStr (h := ?_)
    refine amReg PT166_ok (h := ?_)
    refine k_lp (⟨k + 1, hkk⟩ : {k : Nat // k ≤ xs.length}) (by first | omega | (dsimp only; omega)) ?_
    (refine weak_id rfl ?_ ?_ <;> ((try simp only [List.mem_cons, List.not_mem_nil, or_false, forall_eq_or_imp, forall_eq]); (try simp (disch := omega) [i64w, *])))
  ·have hst := HMO.out (fun hh => h1 hh.1)
   rw [hst] at hot
   refine amStr (h := ?_)
   refine amReg PT166_ok (h := ?_)
   refine amStr (h := ?_)
   refine amReg PT166_ok (h := ?_)
   refine k_lp (⟨k + 1, hkk⟩ : {k : Nat // k ≤ xs.length}) (by first | omega | (dsimp only; omega)) ?_
   (refine weak_id rfl ?_ ?_ <;> ((try simp only [List.mem_cons, List.not_mem_nil, or_false, forall_eq_or_imp, forall_eq]); (try simp (disch := omega) [i64w, *])))
 ·obtain rfl : k = xs.length := by omega
  clear hc
  have e : xs.take xs.length = xs := List.take_length
  rw [e]
  have hml := memL_len (ofL xs)
  generalize memL (ofL xs) = X at hset hml ⊢
  refine amStr (h := ?_)
  refine s_weak (τ := ⟨32, [(2, .ptr 0 0 0), (3, .ref 300 0 X.length)], [(0, ⟨27, 2, [[.v (.int .u64 0), .v (.int .u64 0)]]⟩), (300, ⟨4, 1, X.map fun b => [.v (.bool b)]⟩)], [300, 0]⟩) ?_ ?_
  ·(refine weak_id rfl ?_ ?_ <;> ((try simp only [List.mem_cons, List.not_mem_nil, or_false, forall_eq_or_imp, forall_eq]); (try simp (disch := omega) [i64w, *])))
  refine s_frz (fun q => q == 300) ?_
  (refine s_eq (τ := ?_) ?_ ?_; rotate_left; (focus ((try simp only [AS.frz, List.map_cons, List.map_nil]); (try simp [frzV, frzO, frzC, List.filter]); rfl)))
  refine amStr (h := ?_)
  refine amReg PT166_ok (h := ?_)
  refine amStr (h := ?_)
  (refine amRt Tryd.results108 (h := ?_); try simp [*])
set_option maxHeartbeats 1000000 in
theorem r3All_p (n : Int) (hn : okI n = true) : FnPure Tryd.prog 79 [.v (.int .i64 n)] (aSet (sAll n)) := by
 have hno := okI_iff.1 hn
 have hs0 := selL_zero (fun _ => true)
 have hend := fun (k : Nat) (h1 : k ≤ 128) (h2 : (k : Int) ≤ n ∨ k = 0) (h3 : ¬ (k < 128 ∧ (k : Int) + 1 ≤ n)) => all_sel n h1 h2 h3
 have hstep := fun (k : Nat) (hk : k < 128) => selL_set (f := fun _ => true) hk (b := true) rfl
 have hlen := selL_len (fun _ => true)
 generalize (fun _ : Int => true) = f at hs0 hend hstep hlen
 have HEN := Lib.hid hend
 have HST := Lib.hid hstep
 clear hend hstep
 unfold aSet WV
 refine fn_sp TT_ok Tryd.func79 (c := _) rfl (by simp [Tryd.ntmps79]) (fun B hI0 hro => ?_)
 rw [Tryd.ntmps79]
 simp only [enumA]
 refine amStr (h := ?_)
 refine amReg PT166_ok (h := ?_)
 refine amStr (h := ?_)
 refine s_regionL ?_
 refine spl_obj r3None_obj 300 (by simp) rfl rfl (enters_ok (avs := []) (cs := []) rfl (by kernel_rfl) rfl rfl) (by simp [idsL]) (fun c h => by cases h) ?_
 rw [← hs0]
 simp only [shO, AV.ren, d_ren_bools, Nat.zero_add, List.map_cons, List.map_nil, List.cons_append, List.nil_append]
 (refine spl_eq (τ := ?_) ?_ ?_; rotate_left; (focus ((try simp only [AS.frz, List.map_cons, List.map_nil]); (try simp [frzV, frzO, frzC, List.filter]); rfl)))
 ((iterate 1 (((with_reducible refine spl_step TT_ok PT166_ok (id := 0) (σ' := ?_) ?_ ?_); rotate_left; (focus (simp [*]; rfl))))))
 refine spl_nil ?_
 refine amStr (h := ?_)
 refine amReg PT166_ok (h := ?_)
 refine amStr (h := ?_)
 refine s_loop (J := fun i : {k : Nat // k ≤ 128 ∧ ((k : Int) ≤ n ∨ k = 0)} => ⟨20, [(0, .v (.int .i64 n)), (2, .ptr 0 0 0), (3, .ref 300 0 129), (4, .v (.int .i64 ((i.1 : Int) + 1)))], [(0, ⟨27, 2, [[.v (.int .u64 0), .v (.int .u64 0)]]⟩), (300, ⟨4, 1, (selL f i.1).map fun b => [.v (.bool b)]⟩)], [300, 0]⟩) (μ := fun i => 128 - i.1) ⟨0, Nat.zero_le _, .inr rfl⟩ ?_ (fun ⟨k, hk, hkn⟩ => ?_)
 ·(refine weak_id rfl ?_ ?_ <;> ((try simp only [List.mem_cons, List.not_mem_nil, or_false, forall_eq_or_imp, forall_eq]); (try simp (disch := omega) [i64w, *])))
 clear hs0
 have hk1 := hlen k
 obtain ⟨v, hv⟩ : ∃ v, (k : Int) + 1 = v := ⟨_, rfl⟩
 have hv2 : ((k + 1 : Nat) : Int) + 1 = v + 1 := by omega
 have hwk : IntKind.i64.wrap (v + 1) = v + 1 := i64w (by omega) (by omega)
 have ht : v.toNat = k + 1 := by omega
 have hv0 : 0 ≤ v := by omega
 dsimp only
 rw [hv]
 have HV := Lib.hid hv
 have HKN := Lib.hid hkn
 clear hv
 by_cases hgo : k < 128 ∧ v ≤ n
 ·obtain ⟨hkk, hvn⟩ := hgo
  have hst := HST.out k hkk
  have hvk : v ≤ 128 := by have := HV.out; omega
  have hv9 : v < 129 := by omega
  obtain ⟨X, hX⟩ : ∃ X, selL f k = X := ⟨_, rfl⟩
  rw [hX] at hst hk1 ⊢
  have hvX : k + 1 < X.length := by omega
  have hk9 : k + 1 < 129 := by omega
  have hbg := bools_get hvX
  clear hX
  refine amStr (h := ?_)
  refine amReg PT166_ok (h := ?_)
  refine amStr (h := ?_)
  refine amReg PT166_ok (h := ?_)
  refine amStr (h := ?_)
  refine amReg PT166_ok (h := ?_)
  refine k_lp (⟨k + 1, hkk, .inl (by have := HV.out; omega)⟩ : {k : Nat // k ≤ 128 ∧ ((k : Int) ≤ n ∨ k = 0)}) (by first | omega | (dsimp only; omega)) ?_
  (refine weak_id rfl ?_ ?_ <;> ((try simp only [List.mem_cons, List.not_mem_nil, or_false, forall_eq_or_imp, forall_eq]); (try simp (disch := omega) [i64w, *])))
  all_goals first | exact HV.out.symm | rw [← hst, List.map_set]
 ·have hset := HEN.out k hk HKN.out (by rw [HV.out]; exact hgo)
  have hex : (decide (v ≤ 128) && decide (v ≤ n)) = false := by
   rw [Bool.and_eq_false_iff, decide_eq_false_iff_not, decide_eq_false_iff_not]
   have := HV.out
   omega
  generalize selL f k = X at hset hk1 ⊢
  by_cases h128 : v ≤ 128
  ·have hn2 : ¬ v ≤ n := by have := HV.out; omega
   refine amStr (h := ?_)
   refine amReg PT166_ok (h := ?_)
   refine amStr (h := ?_)
   refine s_weak (τ := ⟨20, [(2, .ptr 0 0 0), (3, .ref 300 0 X.length)], [(0, ⟨27, 2, [[.v (.int .u64 0), .v (.int .u64 0)]]⟩), (300, ⟨4, 1, X.map fun b => [.v (.bool b)]⟩)], [300, 0]⟩) ?_ ?_
   ·(refine weak_id rfl ?_ ?_ <;> ((try simp only [List.mem_cons, List.not_mem_nil, or_false, forall_eq_or_imp, forall_eq]); (try simp (disch := omega) [i64w, *])))
   refine s_frz (fun q => q == 300) ?_
   (refine s_eq (τ := ?_) ?_ ?_; rotate_left; (focus ((try simp only [AS.frz, List.map_cons, List.map_nil]); (try simp [frzV, frzO, frzC, List.filter]); rfl)))
   refine amStr (h := ?_)
   refine amReg PT166_ok (h := ?_)
   refine amStr (h := ?_)
   (refine amRt Tryd.results79 (h := ?_); try simp [*])
  ·refine amStr (h := ?_)
   refine amReg PT166_ok (h := ?_)
   refine amStr (h := ?_)
   refine s_weak (τ := ⟨20, [(2, .ptr 0 0 0), (3, .ref 300 0 X.length)], [(0, ⟨27, 2, [[.v (.int .u64 0), .v (.int .u64 0)]]⟩), (300, ⟨4, 1, X.map fun b => [.v (.bool b)]⟩)], [300, 0]⟩) ?_ ?_
   ·(refine weak_id rfl ?_ ?_ <;> ((try simp only [List.mem_cons, List.not_mem_nil, or_false, forall_eq_or_imp, forall_eq]); (try simp (disch := omega) [i64w, *])))
   refine s_frz (fun q => q == 300) ?_
   (refine s_eq (τ := ?_) ?_ ?_; rotate_left; (focus ((try simp only [AS.frz, List.map_cons, List.map_nil]); (try simp [frzV, frzO, frzC, List.filter]); rfl)))
   refine amStr (h := ?_)
   refine amReg PT166_ok (h := ?_)
   refine amStr (h := ?_)
   (refine amRt Tryd.results79 (h := ?_); try simp [*])
theorem sSub_iffR (s t : BitVec 128) : sSub s t = true ↔ ∀ v : Int, sHas s v = true → sHas t v = true := by
 unfold sSub
 rw [beq_iff_eq]
 constructor
 ·intro h v hv
  obtain ⟨h1, h2⟩ := sHas_mem hv
  have : sHas (s &&& ~~~ t) v = false := by rw [h]; exact sHas_zero v
  rw [sHas_and, sHas_not t v h1 h2, hv] at this
  simpa using this
 ·intro h
  refine sets_ext fun v h1 h2 => ?_
  rw [sHas_and, sHas_not t v h1 h2, sHas_zero]
  cases hv : sHas s v
  ·rfl
  ·rw [h v hv]; rfl
theorem sub_no {a b : BitVec 128} {v : Int} (h1 : sHas a v = true) (h2 : sHas b v = false) : sSub a b = false := by
 rw [← Bool.not_eq_true, sSub_iffR]
 intro h
 rw [h v h1] at h2
 cases h2
theorem sub_yes {a b : BitVec 128} (h : ∀ k : Nat, k < 128 → (sHas a ((k : Int) + 1) && !sHas b ((k : Int) + 1)) = false) : sSub a b = true := by
 rw [sSub_iffR]
 intro v hv
 have hm := sHas_mem hv
 have := h (v - 1).toNat (by omega)
 rw [show (((v - 1).toNat : Nat) : Int) + 1 = v by omega, hv] at this
 simpa using this
theorem r3Sub_p (a b : BitVec 128) : FnPure Tryd.prog 78 [aSet a, aSet b] (.v (.bool (sSub a b))) := by
 unfold aSet WV
 refine fn_sp TT_ok Tryd.func78 (c := _) rfl (by simp [Tryd.ntmps78]) (fun B hI0 hro => ?_)
 rw [Tryd.ntmps78]
 simp only [enumA]
 refine amStr (h := ?_)
 refine amReg PT166_ok (h := ?_)
 refine amStr (h := ?_)
 refine amReg PT166_ok (h := ?_)
 refine amStr (h := ?_)
 refine s_loop (J := fun i : {k : Nat // k ≤ 128 ∧ Hid (∀ j : Nat, j < k → (sHas a ((j : Int) + 1) && !sHas b ((j : Int) + 1)) = false)} => ⟨19, [(2, .ptr 0 0 0), (3, .ptr 1 0 0), (4, .v (.bool false)), (5, .v (.int .i64 ((i.1 : Int) + 1)))], [(0, ⟨27, 2, [[.v (.int .u64 ((lo a).toNat : Int)), .v (.int .u64 ((hi a).toNat : Int))]]⟩), (1, ⟨27, 2, [[.v (.int .u64 ((lo b).toNat : Int)), .v (.int .u64 ((hi b).toNat : Int))]]⟩)], [1, 0]⟩) (μ := fun i => 128 - i.1) ⟨0, Nat.zero_le _, Lib.hid fun j hj => by omega⟩ ?_ (fun ⟨k, hk, HJ⟩ => ?_)
 ·(refine weak_id rfl ?_ ?_ <;> ((try simp only [List.mem_cons, List.not_mem_nil, or_false, forall_eq_or_imp, forall_eq]); (try simp (disch := omega) [i64w, *])))
 try dsimp only at hk HJ
 have hnx : ∀ c : Bool, (sHas a ((k : Int) + 1) && !sHas b ((k : Int) + 1)) = c → c = false → ∀ j : Nat, j < k + 1 → (sHas a ((j : Int) + 1) && !sHas b ((j : Int) + 1)) = false := fun c h1 h2 j hj => by
  by_cases e : j = k
  ·rw [e, h1, h2]
  ·exact HJ.out j (by omega)
 have hno := sub_no (a := a) (b := b) (v := (k : Int) + 1)
 obtain ⟨v, hv⟩ : ∃ v, (k : Int) + 1 = v := ⟨_, rfl⟩
 have hv2 : ((k + 1 : Nat) : Int) + 1 = v + 1 := by omega
 have hwk : IntKind.i64.wrap (v + 1) = v + 1 := i64w (by omega) (by omega)
 have hov : okI v = true := okI_iff.2 ⟨by omega, by omega⟩
 have hkm : v ≤ 128 ↔ k < 128 := by omega
 dsimp only
 rw [hv] at hnx hno ⊢
 have HV := Lib.hid hv
 have HNX := Lib.hid hnx
 have HNO := Lib.hid hno
 clear hv hnx hno
 by_cases hkm2 : v ≤ 128
 ·have hkk := hkm.1 hkm2
  clear hkm
  cases h1 : sHas a v
  ·have HN := Lib.hid (HNX.out false (by rw [h1]; rfl) rfl)
   refine amStr (h := ?_)
   refine amReg PT166_ok (h := ?_)
   refine amStr (h := ?_)
   refine amReg PT166_ok (h := ?_)
   refine amStr (h := ?_)
   refine amReg PT166_ok (h := ?_)
   refine k_lp (⟨k + 1, hkk, HN⟩ : {k : Nat // k ≤ 128 ∧ Hid (∀ j : Nat, j < k → (sHas a ((j : Int) + 1) && !sHas b ((j : Int) + 1)) = false)}) (by first | omega | (dsimp only; omega)) ?_
   (refine weak_id rfl ?_ ?_ <;> ((try simp only [List.mem_cons, List.not_mem_nil, or_false, forall_eq_or_imp, forall_eq]); (try simp (disch := omega) [i64w, *])))
   all_goals exact HV.out.symm
  ·cases h2 : sHas b v
   ·have hF := HNO.out h1 h2
    rw [hF]
    refine amStr (h := ?_)
    refine amReg PT166_ok (h := ?_)
    refine amStr (h := ?_)
    refine amReg PT166_ok (h := ?_)
    refine amStr (h := ?_)
    refine amReg PT166_ok (h := ?_)
    refine amStr (h := ?_)
    (refine amRt Tryd.results78 (h := ?_); try simp [*])
   ·have HN := Lib.hid (HNX.out false (by rw [h1, h2]; rfl) rfl)
    refine amStr (h := ?_)
    refine amReg PT166_ok (h := ?_)
    refine amStr (h := ?_)
    refine amReg PT166_ok (h := ?_)
    refine amStr (h := ?_)
    refine amReg PT166_ok (h := ?_)
    refine k_lp (⟨k + 1, hkk, HN⟩ : {k : Nat // k ≤ 128 ∧ Hid (∀ j : Nat, j < k → (sHas a ((j : Int) + 1) && !sHas b ((j : Int) + 1)) = false)}) (by first | omega | (dsimp only; omega)) ?_
    (refine weak_id rfl ?_ ?_ <;> ((try simp only [List.mem_cons, List.not_mem_nil, or_false, forall_eq_or_imp, forall_eq]); (try simp (disch := omega) [i64w, *])))
    all_goals exact HV.out.symm
 ·obtain rfl : k = 128 := by have := HV.out; omega
  have hF := sub_yes (a := a) (b := b) HJ.out
  rw [hF]
  refine amGo PT166_ok (h := ?_)
  (refine amRt Tryd.results78 (h := ?_); try simp [*])
@[simp] def g_r3Of : List AV → Option (AV × Bool)
 | [a0] => (match toInts a0 with | some xs => if (okInts xs) = true then some (aSet (ofL xs), false) else none | none => none)
 | _ => none
theorem e_r3Of : EntOk Tryd.prog 108 g_r3Of := ent_pure (by kernel_rfl) fun args r fr h => by
 unfold g_r3Of at h
 split at h
 ·rename_i a0
  split at h
  ·rename_i xs t0
   split at h
   ·rename_i hc
    have o0 := hc
    cases h
    exact ⟨FnPure.cov (r3Of_p xs o0) (.cons (cov_ints t0) .nil), rfl⟩
   ·cases h
  ·cases h
 ·cases h

@[simp] def g_r3All : List AV → Option (AV × Bool)
 | [.v (.int .i64 n)] => if (okI n) = true then some (aSet (sAll n), false) else none
 | _ => none
theorem e_r3All : EntOk Tryd.prog 79 g_r3All := ent_pure (by kernel_rfl) fun args r fr h => by
 unfold g_r3All at h
 split at h
 ·rename_i n
  split at h
  ·rename_i hc
   have o0 := hc
   cases h
   exact ⟨FnPure.cov (r3All_p n o0) (.cons (Cov.refl _) .nil), rfl⟩
  ·cases h
 ·cases h

@[simp] def g_r3Sub : List AV → Option (AV × Bool)
 | [a0, a1] => (match toSet a0 with | some a => (match toSet a1 with | some b => if (true) = true then some (.v (.bool (sSub a b)), false) else none | none => none) | none => none)
 | _ => none
theorem e_r3Sub : EntOk Tryd.prog 78 g_r3Sub := ent_pure (by kernel_rfl) fun args r fr h => by
 unfold g_r3Sub at h
 split at h
 ·rename_i a0 a1
  split at h
  ·rename_i a t0
   split at h
   ·rename_i b t1
    split at h
    ·rename_i hc
     cases h
     exact ⟨FnPure.cov (r3Sub_p a b) (.cons (toSet_inv t0 ▸ Cov.refl _) (.cons (toSet_inv t1 ▸ Cov.refl _) .nil)), rfl⟩
    ·cases h
   ·cases h
  ·cases h
 ·cases h

def l167 : List (FuncId × (List AV → Option (AV × Bool))) :=
 (79, g_r3All) :: (108, g_r3Of) :: (78, g_r3Sub) :: l166
theorem l167_ok : ∀ p ∈ l167, EntOk Tryd.prog p.1 p.2 := ent_cons e_r3All (ent_cons e_r3Of (ent_cons e_r3Sub (l166_ok)))
def PT167 : PTab := tab l167
theorem PT167_ok : PTok Tryd.prog PT167 := tab_ok l167_ok
@[simp] theorem PT167_r3All : PT167 79 = g_r3All := rfl
@[simp] theorem PT167_r3Of : PT167 108 = g_r3Of := rfl
@[simp] theorem PT167_r3Sub : PT167 78 = g_r3Sub := rfl
@[simp] theorem PT167_old (f : FuncId) (h : decide (f ≠ 79 ∧ f ≠ 108 ∧ f ≠ 78) = true) : PT167 f = PT166 f := (fun h => Eq.trans (tab_old h.1) (Eq.trans (tab_old h.2.1) (tab_old h.2.2))) (of_decide_eq_true h)
end Go.Proofs.YtecdhmiamlgibaaDoor
/- Qp39: The reference's List as an object, With, Union; no condition. -/
namespace Go.Proofs.YtecdhmiamlgibaaDoor
set_option linter.unusedVariables false
set_option linter.unusedSimpArgs false
set_option linter.unusedSectionVars false
open Go.RowKit
open Wlk
attribute [-simp] List.getD_eq_getElem?_getD
set_option maxRecDepth 100000
theorem ofL_app (xs ys : List Int) (u : Int) : sHas (ofL (xs ++ ys)) u = (sHas (ofL xs) u || sHas (ofL ys) u) := by
 rw [ofL_has, ofL_has, ofL_has, Bool.eq_iff_iff, Bool.or_eq_true, decide_eq_true_eq, decide_eq_true_eq, decide_eq_true_eq, List.mem_append, ← or_and_right]
theorem ofL_list (s : BitVec 128) : ofL (listS s) = s := sets_ext fun v h1 h2 => by
 rw [ofL_has, Bool.eq_iff_iff, decide_eq_true_eq, listS_mem]
 exact ⟨fun h => h.1, fun h => ⟨h, h1, h2⟩⟩
theorem ofL_with (s : BitVec 128) (v : Int) : ofL (listS s ++ [v]) = sWith s v := sets_ext fun u _ _ => by
 rw [ofL_app, ofL_list, sHas_with, ofL_one, sHas_bit]
theorem ofL_union (s t : BitVec 128) : ofL (listS s ++ listS t) = s ||| t := sets_ext fun u _ _ => by
 rw [ofL_app, ofL_list, ofL_list, sHas_or]
theorem listS_rngE {s : BitVec 128} {v : Int} (h : v ∈ listS s) : 1 ≤ v ∧ v ≤ 128 := sHas_mem ((listS_mem _ _).1 h)
theorem ok_app {xs ys : List Int} (h1 : ∀ v ∈ xs, okI v = true) (h2 : ∀ v ∈ ys, okI v = true) (hl : xs.length + ys.length ≤ 1000) : okInts (xs ++ ys) = true := by
 unfold okInts
 rw [Bool.and_eq_true, List.all_eq_true, decide_eq_true_eq]
 exact ⟨fun v hv => by rcases List.mem_append.1 hv with hv | hv; exact h1 v hv; exact h2 v hv, by rw [List.length_append]; omega⟩
theorem listS_okI {s : BitVec 128} : ∀ v ∈ listS s, okI v = true := fun v hv => by
 have := listS_rngE hv
 exact okI_iff.2 ⟨by omega, by omega⟩
theorem r3List_obj (s : BitVec 128) : FnObj Tryd.prog 70 [aSet s] (.ref 0 0 (listS s).length) [(0, ⟨3, 1, (listS s).map fun x => [.v (.int .i64 x)]⟩)] [0] := by
 rw [← listT_eq s]
 unfold aSet WV
 refine fn_obj TT_ok Tryd.func70 (c := _) rfl (by simp [Tryd.ntmps70]) ⟨fun k hk => by simpa [AV.ids, idsL] using hk, fun k ob hk => ?_⟩ (fun B hI0 hro => ?_)
 ·simp only [lk] at hk
  split at hk
  ·rename_i e
   cases hk
   exact ⟨by simp [← e], fun q hq => by rw [show idsLL ((listT s 128).map fun x => [AV.v (.int .i64 x)]) = [] from ids_ints _] at hq; cases hq⟩
  ·cases hk
 rw [Tryd.ntmps70]
 simp only [enumA]
 refine amGo PT167_ok (h := ?_)
 refine s_nil 3 50 3 1 (by simp [lk]) (by simp) ?_
 simp only [st]
 refine s_loop (J := fun i : {k : Nat // k ≤ 128} => ⟨17, [(1, .ptr 0 0 0), (3, .ref 50 0 (listT s i.1).length), (4, .v (.int .i64 ((i.1 : Int) + 1)))], [(50, ⟨3, 1, (listT s i.1).map fun x => [.v (.int .i64 x)]⟩), (0, ⟨27, 2, [[.v (.int .u64 ((lo s).toNat : Int)), .v (.int .u64 ((hi s).toNat : Int))]]⟩)], [50, 0]⟩) (μ := fun i => 128 - i.1) ⟨0, Nat.zero_le _⟩ ?_ (fun ⟨k, hk⟩ => ?_)
 ·(refine weak_id rfl ?_ ?_ <;> ((try simp only [List.mem_cons, List.not_mem_nil, or_false, forall_eq_or_imp, forall_eq]); (try simp (disch := omega) [i64w, *])))
  all_goals simp [listT]
 have hs := listT_succ s k
 have hl := listT_len s k
 have hcap : ((listT s k).length + 1) * 8 ≤ 140737488355328 := by omega
 have hw2 : IntKind.i64.wrap ((k : Int) + 1 + 1) = (k : Int) + 1 + 1 := i64w (by omega) (by omega)
 have ho2 : okI ((k : Int) + 1) = true := okI_iff.2 ⟨by omega, by omega⟩
 have hkm : (k : Int) + 1 ≤ 128 ↔ k < 128 := by omega
 obtain ⟨v, hv⟩ : ∃ v, (k : Int) + 1 = v := ⟨_, rfl⟩
 have hj : ((k + 1 : Nat) : Int) + 1 = v + 1 := by omega
 rw [hv] at hs hw2 ho2 hkm
 dsimp only
 rw [hv]
 clear hv
 by_cases hkm2 : v ≤ 128
 ·have hlt := hkm.1 hkm2
  clear hkm
  cases h1 : sHas s v
  ·rw [if_neg (by rw [h1]; decide)] at hs
   refine amGo PT167_ok (h := ?_)
   refine k_lp (⟨k + 1, by omega⟩ : {k : Nat // k ≤ 128}) (by dsimp only; omega) ?_
   (refine weak_id rfl ?_ ?_ <;> ((try simp only [List.mem_cons, List.not_mem_nil, or_false, forall_eq_or_imp, forall_eq]); (try simp (disch := omega) [i64w, *])))
   all_goals omega
  ·rw [if_pos h1] at hs
   refine amGo PT167_ok (h := ?_)
   refine k_lp (⟨k + 1, by omega⟩ : {k : Nat // k ≤ 128}) (by dsimp only; omega) ?_
   (refine weak_of (fun q => if q = 50 then 54 else q) ⟨rfl, ?_, ?_, ?_⟩ <;> ((try simp only [List.mem_cons, List.not_mem_nil, or_false, forall_eq_or_imp, forall_eq]); (try simp (disch := omega) [lk, AV.ids, idsL, idsLL, AV.ren, renL, renLL, i64w, *])))
   all_goals omega
 ·obtain rfl : k = 128 := by omega
  refine amGo PT167_ok (h := ?_)
  refine post_obj (av := .ref 50 0 (listT s 128).length) (.inr rfl) (by rw [Tryd.results70]) ?_ (fun _ => 50) rfl (fun k ob hk => ?_) (fun k ob k' ob' hk hk' _ => ?_)
  ·simp [retA, retL, ret1, lk]
  ·simp only [lk] at hk
   split at hk
   ·cases hk
    simp [lk]
   ·cases hk
  ·simp only [lk] at hk hk'
   split at hk
   ·split at hk'
    ·omega
    ·cases hk'
   ·cases hk
theorem r3With_p (s : BitVec 128) (v : Int) (hv : okI v = true) : FnPure Tryd.prog 80 [aSet s, .v (.int .i64 v)] (aSet (sWith s v)) := by
 have hfin := ofL_with s v
 have hob := r3List_obj s
 have hll := listS_len s
 have hok : okInts (listS s ++ [v]) = true := ok_app listS_okI (fun u hu => by rw [List.mem_singleton.1 hu]; exact hv) (by simp; omega)
 generalize listS s = L at hfin hob hll hok
 have hmm : L.map (fun x => [AV.v (.int .i64 x)]) ++ [[.v (.int .i64 v)]] = (L ++ [v]).map fun x => [.v (.int .i64 x)] := by simp
 have hLl : L.length + 1 = (L ++ [v]).length := by simp
 generalize L ++ [v] = M at hmm hLl hfin hok
 have hcap : M.length * 8 ≤ 140737488355328 := by omega
 have hcap2 : M.length ≤ 17592186044416 := by omega
 unfold aSet WV at hob ⊢
 refine fn_sp TT_ok Tryd.func80 (c := _) rfl (by simp [Tryd.ntmps80]) (fun B hI0 hro => ?_)
 rw [Tryd.ntmps80]
 simp only [enumA]
 refine amStr (h := ?_)
 refine amReg PT167_ok (h := ?_)
 refine amStr (h := ?_)
 refine s_regionL ?_
 ((iterate 1 (((with_reducible refine spl_step TT_ok PT167_ok (id := 0) (σ' := ?_) ?_ ?_); rotate_left; (focus (simp [*]; rfl))))))
 refine spl_obj hob 300 (by simp) rfl rfl (enters_ok (avs := [.agg [.v (.int .u64 ((lo s).toNat : Int)), .v (.int .u64 ((hi s).toNat : Int))]]) (cs := []) rfl (by kernel_rfl) rfl rfl) (by simp [idsL, AV.ids]) (fun c h => by cases h) ?_
 simp only [shO, AV.ren, Nat.zero_add, List.map_cons, List.map_nil, List.cons_append, List.nil_append]
 (refine spl_eq (τ := ?_) ?_ ?_; rotate_left; (focus ((try simp only [AS.frz, List.map_cons, List.map_nil]); (try simp [frzV, frzO, frzC, List.filter]); rfl)))
 ((iterate 1 (((with_reducible refine spl_step TT_ok PT167_ok (id := 0) (σ' := ?_) ?_ ?_); rotate_left; (focus (simp [*]; rfl))))))
 (((with_reducible refine spl_step TT_ok PT167_ok (id := 301) (σ' := ?_) ?_ ?_); rotate_left; (focus (simp [*]; rfl))))
 (((with_reducible refine spl_step TT_ok PT167_ok (id := 302) (σ' := ?_) ?_ ?_); rotate_left; (focus (simp [*]; rfl))))
 ((iterate 2 (((with_reducible refine spl_step TT_ok PT167_ok (id := 0) (σ' := ?_) ?_ ?_); rotate_left; (focus (simp [*]; rfl))))))
 refine spl_nil ?_
 refine amStr (h := ?_)
 (refine amRt Tryd.results80 (h := ?_); try simp [*])
set_option maxHeartbeats 2000000 in
theorem r3Union_p (s t : BitVec 128) : FnPure Tryd.prog 112 [aSet s, aSet t] (aSet (s ||| t)) := by
 have hfin := ofL_union s t
 have hob := r3List_obj s
 have hl1 := listS_len s
 have hl2 := listS_len t
 have hok : okInts (listS s ++ listS t) = true := ok_app listS_okI listS_okI (by omega)
 obtain ⟨T, hT⟩ : ∃ T, listS t = T := ⟨_, rfl⟩
 rw [hT] at hfin hl2 hok
 generalize listS s = L at hfin hob hl1 hok
 have hmm : L.map (fun x => [AV.v (.int .i64 x)]) ++ T.map (fun x => [.v (.int .i64 x)]) = (L ++ T).map fun x => [.v (.int .i64 x)] := by simp
 have hLl : L.length + T.length = (L ++ T).length := by simp
 generalize L ++ T = M at hmm hLl hfin hok
 have hcap : M.length * 8 ≤ 140737488355328 := by omega
 have hcap2 : M.length ≤ 17592186044416 := by omega
 unfold aSet WV at hob ⊢
 refine fn_sp TT_ok Tryd.func112 (c := _) rfl (by simp [Tryd.ntmps112]) (fun B hI0 hro => ?_)
 rw [Tryd.ntmps112]
 simp only [enumA]
 refine amStr (h := ?_)
 refine amReg PT167_ok (h := ?_)
 refine amStr (h := ?_)
 refine s_drawX (es := ?es) (σ' := ?s1) (σ0 := ?s0) (o0 := ?o0) (e0 := ⟨some 6, .ref 42 0 L.length, [(42, some ⟨3, 1, L.map fun x => [.v (.int .i64 x)]⟩)], [5], [42], none⟩) (q := 41) prog_mixed TT_ok PT167_ok ?he0 ?hrun ?hok ?kk
 case hrun =>
  (((with_reducible refine runX_cons (e := ?_) (σ1 := ?_) (es := ?_) ?_ ?_ ?_ ?_); rotate_left 4; (focus (simp [*]; exact Eq.refl _)); (focus (simp; exact Eq.refl _))))
  refine runX_call (es := ?_) (σ1 := ?_) ?_ ?_
  rotate_left 2
  ·simp; exact Eq.refl _
  (((with_reducible refine runX_cons (e := ?_) (σ1 := ?_) (es := ?_) ?_ ?_ ?_ ?_); rotate_left 4; (focus (simp [*]; exact Eq.refl _)); (focus (simp; exact Eq.refl _))))
  (((with_reducible refine runX_cons (e := ?_) (σ1 := ?_) (es := ?_) ?_ ?_ ?_ ?_); rotate_left 4; (focus (simp [*]; exact Eq.refl _)); (focus (simp; exact Eq.refl _))))
  (((with_reducible refine runX_cons (e := ?_) (σ1 := ?_) (es := ?_) ?_ ?_ ?_ ?_); rotate_left 4; (focus (simp [*]; exact Eq.refl _)); (focus (simp; exact Eq.refl _))))
  (((with_reducible refine runX_cons (e := ?_) (σ1 := ?_) (es := ?_) ?_ ?_ ?_ ?_); rotate_left 4; (focus (simp [*]; exact Eq.refl _)); (focus (simp; exact Eq.refl _))))
  (((with_reducible refine runX_cons (e := ?_) (σ1 := ?_) (es := ?_) ?_ ?_ ?_ ?_); rotate_left 4; (focus (simp [*]; exact Eq.refl _)); (focus (simp; exact Eq.refl _))))
  exact runX_nil
  all_goals decide
 case he0 =>
  intro D
  refine eff_obj (avs := [.agg [.v (.int .u64 ((lo s).toNat : Int)), .v (.int .u64 ((hi s).toNat : Int))]]) (f := 70) rfl rfl rfl rfl rfl (by kernel_rfl) (by simp [idsL, AV.ids]) hob (by simp) (by simp)
 case hok => (simp [fpA, fpF, isFn, fpo, topIds, lightS, light, Op.operands, Call.operands]; try kernel_rfl)
 case kk =>
  refine amStr (h := ?_)
  (refine amRt Tryd.results112 (h := ?_); try simp [*])
@[simp] def g_r3With : List AV → Option (AV × Bool)
 | [a0, .v (.int .i64 v)] => (match toSet a0 with | some s => if (okI v) = true then some (aSet (sWith s v), false) else none | none => none)
 | _ => none
theorem e_r3With : EntOk Tryd.prog 80 g_r3With := ent_pure (by kernel_rfl) fun args r fr h => by
 unfold g_r3With at h
 split at h
 ·rename_i a0 v
  split at h
  ·rename_i s t0
   split at h
   ·rename_i hc
    have o1 := hc
    cases h
    exact ⟨FnPure.cov (r3With_p s v o1) (.cons (toSet_inv t0 ▸ Cov.refl _) (.cons (Cov.refl _) .nil)), rfl⟩
   ·cases h
  ·cases h
 ·cases h

@[simp] def g_r3Union : List AV → Option (AV × Bool)
 | [a0, a1] => (match toSet a0 with | some s => (match toSet a1 with | some t => if (true) = true then some (aSet (s ||| t), false) else none | none => none) | none => none)
 | _ => none
theorem e_r3Union : EntOk Tryd.prog 112 g_r3Union := ent_pure (by kernel_rfl) fun args r fr h => by
 unfold g_r3Union at h
 split at h
 ·rename_i a0 a1
  split at h
  ·rename_i s t0
   split at h
   ·rename_i t t1
    split at h
    ·rename_i hc
     cases h
     exact ⟨FnPure.cov (r3Union_p s t) (.cons (toSet_inv t0 ▸ Cov.refl _) (.cons (toSet_inv t1 ▸ Cov.refl _) .nil)), rfl⟩
    ·cases h
   ·cases h
  ·cases h
 ·cases h

def l168 : List (FuncId × (List AV → Option (AV × Bool))) :=
 (80, g_r3With) :: (112, g_r3Union) :: l167
theorem l168_ok : ∀ p ∈ l168, EntOk Tryd.prog p.1 p.2 := ent_cons e_r3With (ent_cons e_r3Union (l167_ok))
def PT168 : PTab := tab l168
theorem PT168_ok : PTok Tryd.prog PT168 := tab_ok l168_ok
@[simp] theorem PT168_r3With : PT168 80 = g_r3With := rfl
@[simp] theorem PT168_r3Union : PT168 112 = g_r3Union := rfl
@[simp] theorem PT168_old (f : FuncId) (h : decide (f ≠ 80 ∧ f ≠ 112) = true) : PT168 f = PT167 f := (fun h => Eq.trans (tab_old h.1) (tab_old h.2)) (of_decide_eq_true h)
end Go.Proofs.YtecdhmiamlgibaaDoor
