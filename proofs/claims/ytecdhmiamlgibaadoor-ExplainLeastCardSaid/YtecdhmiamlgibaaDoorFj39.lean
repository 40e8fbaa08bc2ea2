/- vars.Less; no condition. -/
import Derived.Test.YtecdhmiamlgibaaDoorFi39
import Derived.Test.YtecdhmiamlgibaaDoorWl
import Derived.Test.YtecdhmiamlgibaaDoorSj39
import Derived.Test.YtecdhmiamlgibaaDoorBs39
namespace Go.Proofs.YtecdhmiamlgibaaDoor
set_option linter.unusedVariables false
set_option linter.unusedSimpArgs false
set_option linter.unusedSectionVars false
open Go.RowKit
open Wlk
attribute [-simp] List.getD_eq_getElem?_getD
set_option maxRecDepth 100000
@[simp] def g_vFirst : List AV → Option (AV × Bool)
 | [a0] => (match toSet a0 with | some s => if (true) = true then some (.v (.int .i64 ((listS s).headD 0)), false) else none | none => none)
 | _ => none
theorem e_vFirst : EntOk Tryd.prog 68 g_vFirst := ent_pure (by kernel_rfl) fun args r fr h => by
 unfold g_vFirst at h
 split at h
 ·rename_i a0
  split at h
  ·rename_i s t0
   split at h
   ·rename_i hc
    cases h
    exact ⟨FnPure.cov (vFirst_p s) (.cons (toSet_inv t0 ▸ Cov.refl _) .nil), rfl⟩
   ·cases h
  ·cases h
 ·cases h

def l163 : List (FuncId × (List AV → Option (AV × Bool))) :=
 (68, g_vFirst) :: l160
theorem l163_ok : ∀ p ∈ l163, EntOk Tryd.prog p.1 p.2 := ent_cons e_vFirst (l160_ok)
def PT163 : PTab := tab l163
theorem PT163_ok : PTok Tryd.prog PT163 := tab_ok l163_ok
@[simp] theorem PT163_vFirst : PT163 68 = g_vFirst := rfl
@[simp] theorem PT163_old (f : FuncId) (h : decide (f ≠ 68) = true) : PT163 f = PT160 f := tab_old (of_decide_eq_true h)
theorem diff_has {a b : BitVec 128} {v : Int} (h1 : 1 ≤ v) (h2 : v ≤ 128) : sHas ((a &&& ~~~ b) ||| (b &&& ~~~ a)) v = (sHas a v != sHas b v) := by
 rw [sHas_or, sHas_and, sHas_and, sHas_not _ _ h1 h2, sHas_not _ _ h1 h2]
 cases sHas a v <;> cases sHas b v <;> rfl
theorem less_nil {a b : BitVec 128} (h : listS ((a &&& ~~~ b) ||| (b &&& ~~~ a)) = []) : lessS a b = false := less_no fun j hj => by
 apply Decidable.byContradiction
 intro hn
 have : (j : Int) + 1 ∈ listS ((a &&& ~~~ b) ||| (b &&& ~~~ a)) := (listS_mem _ _).2 (by rw [diff_has (by omega) (by omega)]; simpa using hn)
 rw [h] at this
 cases this
theorem less_cons {a b : BitVec 128} {u : Int} {r : List Int} (h : listS ((a &&& ~~~ b) ||| (b &&& ~~~ a)) = u :: r) : 1 ≤ u ∧ u ≤ 128 ∧ lessS a b = !sHas a u := by
 have hu := (listS_mem _ _).1 (h ▸ List.mem_cons_self : u ∈ listS ((a &&& ~~~ b) ||| (b &&& ~~~ a)))
 obtain ⟨h1, h2⟩ := sHas_mem hu
 rw [diff_has h1 h2] at hu
 have hlt := listS_lt ((a &&& ~~~ b) ||| (b &&& ~~~ a))
 rw [h] at hlt
 have hr := (List.pairwise_cons.1 hlt).1
 obtain ⟨i, hi⟩ : ∃ i : Nat, u = (i : Int) + 1 := ⟨(u - 1).toNat, by omega⟩
 have hat := less_at (a := a) (b := b) (i := i) (by omega) (by rw [← hi]; simpa using hu) fun j hj => by
  apply Decidable.byContradiction
  intro hn
  have hm : (j : Int) + 1 ∈ listS ((a &&& ~~~ b) ||| (b &&& ~~~ a)) := (listS_mem _ _).2 (by rw [diff_has (by omega) (by omega)]; simpa using hn)
  rw [h] at hm
  rcases List.mem_cons.1 hm with hm | hm
  ·omega
  ·have := hr _ hm
   omega
 refine ⟨h1, h2, ?_⟩
 rw [hat, ← hi]
 revert hu
 cases sHas a u <;> cases sHas b u <;> decide
theorem vLess_p (a b : BitVec 128) : FnPure Tryd.prog 38 [aSet a, aSet b] (.v (.bool (lessS a b))) := by
 obtain ⟨L, hL⟩ : ∃ L, listS ((a &&& ~~~ b) ||| (b &&& ~~~ a)) = L := ⟨_, rfl⟩
 cases L with
 | nil =>
  rw [less_nil hL]
  unfold aSet WV
  refine fn_sp TT_ok Tryd.func38 (c := _) rfl (by simp [Tryd.ntmps38]) (fun B hI0 hro => ?_)
  rw [Tryd.ntmps38]
  simp only [enumA]
  refine amGo PT163_ok (h := ?_)
  (refine amRt Tryd.results38 (h := ?_); try simp [*])
 | cons u r =>
  obtain ⟨h1, h2, h3⟩ := less_cons hL
  rw [h3]
  have h4 : 0 < u := by omega
  have ho : okI u = true := okI_iff.2 ⟨by omega, by omega⟩
  unfold aSet WV
  refine fn_sp TT_ok Tryd.func38 (c := _) rfl (by simp [Tryd.ntmps38]) (fun B hI0 hro => ?_)
  rw [Tryd.ntmps38]
  simp only [enumA]
  refine amGo PT163_ok (h := ?_)
  (refine amRt Tryd.results38 (h := ?_); try simp [*])
@[simp] def g_vLess : List AV → Option (AV × Bool)
 | [a0, a1] => (match toSet a0 with | some a => (match toSet a1 with | some b => if (true) = true then some (.v (.bool (lessS a b)), false) else none | none => none) | none => none)
 | _ => none
theorem e_vLess : EntOk Tryd.prog 38 g_vLess := ent_pure (by kernel_rfl) fun args r fr h => by
 unfold g_vLess at h
 split at h
 ·rename_i a0 a1
  split at h
  ·rename_i a t0
   split at h
   ·rename_i b t1
    split at h
    ·rename_i hc
     cases h
     exact ⟨FnPure.cov (vLess_p a b) (.cons (toSet_inv t0 ▸ Cov.refl _) (.cons (toSet_inv t1 ▸ Cov.refl _) .nil)), rfl⟩
    ·cases h
   ·cases h
  ·cases h
 ·cases h

def l164 : List (FuncId × (List AV → Option (AV × Bool))) :=
 (38, g_vLess) :: l163
theorem l164_ok : ∀ p ∈ l164, EntOk Tryd.prog p.1 p.2 := ent_cons e_vLess (l163_ok)
def PT164 : PTab := tab l164
theorem PT164_ok : PTok Tryd.prog PT164 := tab_ok l164_ok
@[simp] theorem PT164_vLess : PT164 38 = g_vLess := rfl
@[simp] theorem PT164_old (f : FuncId) (h : decide (f ≠ 38) = true) : PT164 f = PT163 f := tab_old (of_decide_eq_true h)
end Go.Proofs.YtecdhmiamlgibaaDoor
